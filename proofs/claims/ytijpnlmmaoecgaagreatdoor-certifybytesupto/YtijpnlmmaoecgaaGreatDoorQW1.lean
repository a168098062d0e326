/- A part of the proofs about certificates: XWp XWq XWr XWs XDraw XOwn XRow XDrawB XCalm XBits XRep XReach XDrawC XDrawR XDrawA XDrawM. -/
import Derived.Test.YtijpnlmmaoecgaaGreatDoorQM3

set_option linter.all false

namespace Go.AM
variable {E : Env}
def Ev (p : Nat → Prop) : Prop := ∃ N, ∀ n, N ≤ n → p n
theorem Ev.of {p : Nat → Prop} (h : ∀ n, p n) : Ev p := ⟨0, fun n _ => h n⟩
theorem Ev.mono {p q : Nat → Prop} (h : Ev p) (k : ∀ n, p n → q n) : Ev q := h.imp fun _ h n hn => k n (h n hn)
theorem Ev.and {p q : Nat → Prop} (h : Ev p) (k : Ev q) : Ev fun n => p n ∧ q n := by
 obtain ⟨a, h⟩ := h
 obtain ⟨b, k⟩ := k
 exact ⟨a + b, fun n hn => ⟨h n (by omega), k n (by omega)⟩⟩
theorem Ev.step {p : Nat → Prop} (h : Ev fun n => p (n + 1)) : Ev p := by
 obtain ⟨a, h⟩ := h
 refine ⟨a + 1, fun n hn => ?_⟩
 obtain ⟨m, rfl⟩ : ∃ m, n = m + 1 := ⟨n - 1, by omega⟩
 exact h m (by omega)
theorem Ev.one {p : Nat → Prop} (h : Ev p) : ∃ n, p n := by
 obtain ⟨a, h⟩ := h
 exact ⟨a, h a (Nat.le_refl a)⟩
def Run (E : Env) (c : ACode) (s : St) (Q : Ex → St → Prop) : Prop := ∃ e s', Ev (fun n => exec E n c s = some (e, s')) ∧ Q e s'
def RunCall (E : Env) (c : Cle) (l : List AV) (h : AH) (v : AV) (h' : AH) : Prop := Ev fun n => callA E (exec E n) c l h = some (v, h')
def CallTo (E : Env) (c : Cle) (l : List AV) (h : AH) (K : AV → AH → Prop) : Prop := ∃ v h', RunCall E c l h v h' ∧ K v h'
def RunOps (E : Env) (ops : List AOper) (s : St) (K : St → Prop) : Prop := ∃ s', Ev (fun n => runOps E (callA E (exec E n)) ops s = some s') ∧ K s'
theorem RunCall.det {c : Cle} {l : List AV} {h h1 h2 : AH} {v1 v2 : AV} (a : RunCall E c l h v1 h1) (b : RunCall E c l h v2 h2) : v1 = v2 ∧ h1 = h2 := by
 obtain ⟨n, x, y⟩ := (a.and b).one
 rw [x] at y
 simp only [Option.some.injEq, Prod.mk.injEq] at y
 exact y
theorem callTo_iff {c : Cle} {l : List AV} {h h' : AH} {v : AV} {K : AV → AH → Prop} (r : RunCall E c l h v h') : CallTo E c l h K ↔ K v h' :=
 ⟨fun ⟨_, _, r2, k⟩ => by obtain ⟨a, b⟩ := r.det r2; subst a; subst b; exact k, fun k => ⟨v, h', r, k⟩⟩
def St.set (s : St) (d : Nat) (v : AV) : St := { s with tm := s.tm.put d (some v) }
def St.toH (s : St) (h : AH) : St := { s with h }
def St.put (s : St) : Option Nat → AV → St
 | none, _ => s
 | some d, v => s.set d v
theorem St.get_set (s : St) (d i : Nat) (v : AV) : (s.set d v).tm.get i = if i = d then some v else s.tm.get i := Tr.get_put _ _ _ _
theorem St.eval_set (s : St) (d i : Nat) (v : AV) : (s.set d v).eval (.t i) = if i = d then some v else s.eval (.t i) := Tr.get_put _ _ _ _
theorem St.eval_toH (s : St) (h : AH) (x : Opd) : (s.toH h).eval x = s.eval x := by cases x <;> rfl
theorem St.eval_c (s : St) (v : AV) : s.eval (.c v) = some v := rfl
theorem St.h_set (s : St) (d : Nat) (v : AV) : (s.set d v).h = s.h := rfl
theorem St.h_toH (s : St) (h : AH) : (s.toH h).h = h := rfl
theorem St.df_set (s : St) (d : Nat) (v : AV) : (s.set d v).defers = s.defers := rfl
theorem St.df_toH (s : St) (h : AH) : (s.toH h).defers = s.defers := rfl
theorem St.tm_toH (s : St) (h : AH) : (s.toH h).tm = s.tm := rfl
def withV {α : Type} (o : Option α) (f : α → Prop) : Prop := match o with
 | some v => f v
 | none => False
theorem withV_some {α : Type} (v : α) (f : α → Prop) : withV (some v) f = f v := rfl
def noCall : Cle → List AV → AH → Option (AV × AH) := fun _ _ _ => none
theorem runOp_noCall {call : Cle → List AV → AH → Option (AV × AH)} {s : St} {op : AOp} {r : AV × St} (h : runOp E noCall s op = some r) : runOp E call s op = some r := by
 cases op with
 | call f args =>
  exfalso
  simp only [runOp] at h
  split at h <;> simp [noCall] at h
 | callv x args =>
  exfalso
  simp only [runOp] at h
  split at h <;> try (first | (simp [noCall] at h; done) | (split at h <;> simp [noCall] at h; done))
 | invoke x name args =>
  exfalso
  simp only [runOp] at h
  split at h <;> try (first | (simp [noCall] at h; done) | (split at h <;> simp [noCall] at h; done))
 | _ => exact h
def wpOp (E : Env) (op : AOp) (s : St) (K : AV → St → Prop) : Prop :=
 match op with
 | .call f args => withV (evalAll s args) fun l => CallTo E (.f f) l s.h fun v h => K v (s.toH h)
 | .callv x args => match s.eval x with
  | some (.yld b) => withV (evalAll s args) fun l => CallTo E (.y b) l s.h fun v h => K v (s.toH h)
  | some (.fn (.func f) a b) => withV (evalAll s args) fun l => CallTo E (.f f) (a ++ l ++ b) s.h fun v h => K v (s.toH h)
  | _ => False
 | op => withV (runOp E noCall s op) fun (v, s') => K v s'
def wpOps (E : Env) : List AOper → St → (St → Prop) → Prop
 | [], s, K => K s
 | o :: r, s, K => withV (wantedA s o.guard) fun g =>
  (g = true → wpOp E o.op s fun v s' => wpOps E r ({ s' with round := s.round }.put o.dst v) K) ∧
  (g = false → wpOps E r (s.put o.dst undefA) K)
theorem runOps_cons {o : AOper} {r : List AOper} {s : St} {K : St → Prop} {v : AV} {s1 : St} (hw : wantedA s o.guard = some true)
  (h : Ev fun n => runOp E (callA E (exec E n)) s o.op = some (v, s1)) (k : RunOps E r ({ s1 with round := s.round }.put o.dst v) K) : RunOps E (o :: r) s K := by
 obtain ⟨s', k1, k2⟩ := k
 refine ⟨s', (h.and k1).mono fun n ⟨a, b⟩ => ?_, k2⟩
 simp only [runOps, hw, a]
 cases hd : o.dst with
 | none => rw [hd] at b; exact b
 | some d => rw [hd] at b; exact b
theorem callTo_ops {o : AOper} {r : List AOper} {s : St} {K : St → Prop} {c : Cle} {l : List AV} (hw : wantedA s o.guard = some true)
  (ho : ∀ call, runOp E call s o.op = (call c l s.h).bind fun (v, h) => some (v, { s with h }))
  (ih : ∀ s', wpOps E r s' K → RunOps E r s' K) (h : CallTo E c l s.h fun v h => wpOps E r ({ s.toH h with round := s.round }.put o.dst v) K) : RunOps E (o :: r) s K := by
 obtain ⟨v, h', hr, hk⟩ := h
 refine runOps_cons hw (v := v) (s1 := s.toH h') (Ev.mono hr fun n a => ?_) (ih _ hk)
 rw [ho, a]
 rfl
theorem wpOps_run : ∀ (ops : List AOper) (s : St) (K : St → Prop), wpOps E ops s K → RunOps E ops s K
 | [], s, K, h => ⟨s, Ev.of fun _ => rfl, h⟩
 | o :: r, s, K, h => by
  simp only [wpOps] at h
  cases hw : wantedA s o.guard with
  | none => rw [hw] at h; exact h.elim
  | some g =>
   rw [hw] at h
   simp only [withV_some] at h
   cases g with
   | false =>
    have h2 := wpOps_run r _ K (h.2 rfl)
    obtain ⟨s', k1, k2⟩ := h2
    refine ⟨s', k1.mono fun n b => ?_, k2⟩
    simp only [runOps, hw]
    cases hd : o.dst with
    | none => rw [hd] at b; exact b
    | some d => rw [hd] at b; exact b
   | true =>
    have h1 := h.1 rfl
    have ih : ∀ s', wpOps E r s' K → RunOps E r s' K := fun s' => wpOps_run r s' K
    clear h
    unfold wpOp at h1
    split at h1
    ·rename_i f args heq
     cases he : evalAll s args with
     | none => rw [he] at h1; exact h1.elim
     | some l =>
      rw [he] at h1
      exact callTo_ops hw (fun call => by rw [heq]; simp only [runOp, he]) ih h1
    ·rename_i x args heq
     split at h1
     ·rename_i b hx
      cases he : evalAll s args with
      | none => rw [he] at h1; exact h1.elim
      | some l =>
       rw [he] at h1
       exact callTo_ops hw (fun call => by rw [heq]; simp only [runOp, he, hx]) ih h1
     ·rename_i f a b hx
      cases he : evalAll s args with
      | none => rw [he] at h1; exact h1.elim
      | some l =>
       rw [he] at h1
       exact callTo_ops hw (fun call => by rw [heq]; simp only [runOp, he, hx]) ih h1
     ·exact h1.elim
    ·cases ho : runOp E noCall s o.op with
     | none => rw [ho] at h1; exact h1.elim
     | some vs =>
      obtain ⟨v, s1⟩ := vs
      rw [ho] at h1
      exact runOps_cons hw (Ev.of fun n => runOp_noCall ho) (ih _ h1)
def wp (E : Env) : ACode → St → (Ex → St → Prop) → Prop
 | .skip, s, Q => Q .normal s
 | .ret, s, Q => Q .ret s
 | .exit id, s, Q => Q (.exit id) s
 | .region ops, s, Q => wpOps E ops s (Q .normal)
 | .seq a b, s, Q => wp E a s fun e s' => match e with
  | .normal => wp E b s' Q
  | e => Q e s'
 | .cond c a b, s, Q => match s.eval c with
  | some (.val (.bool x)) => (x = true → wp E a s Q) ∧ (x = false → wp E b s Q)
  | _ => False
 | .block id b, s, Q => wp E b s fun e s' => match e with
  | .exit i => Q (bif Nat.beq i id then .normal else .exit i) s'
  | e => Q e s'
 | c, s, Q => Run E c s Q
theorem Run.mono {c : ACode} {s : St} {Q Q' : Ex → St → Prop} (h : Run E c s Q) (k : ∀ e s', Q e s' → Q' e s') : Run E c s Q' := by
 obtain ⟨e, s', a, b⟩ := h
 exact ⟨e, s', a, k _ _ b⟩
theorem Run.seq {a b : ACode} {s : St} {Q : Ex → St → Prop} (h : Run E a s fun e s' => match e with | .normal => Run E b s' Q | e => Q e s') : Run E (.seq a b) s Q := by
 obtain ⟨e, s', x, y⟩ := h
 cases e with
 | normal =>
  obtain ⟨e2, s2, x2, y2⟩ := y
  refine ⟨e2, s2, ((x.and x2).mono fun n ⟨p, q⟩ => ?_ : Ev fun n => exec E (n + 1) (.seq a b) s = some (e2, s2)).step, y2⟩
  simp only [exec, p, q]
 | exit i => exact ⟨_, _, (x.mono fun n p => by simp only [exec, p] : Ev fun n => exec E (n + 1) (.seq a b) s = some (.exit i, s')).step, y⟩
 | ret => exact ⟨_, _, (x.mono fun n p => by simp only [exec, p] : Ev fun n => exec E (n + 1) (.seq a b) s = some (.ret, s')).step, y⟩
theorem Run.block {id : Nat} {b : ACode} {s : St} {Q : Ex → St → Prop} (h : Run E b s fun e s' => match e with | .exit i => Q (bif Nat.beq i id then .normal else .exit i) s' | e => Q e s') : Run E (.block id b) s Q := by
 obtain ⟨e, s', x, y⟩ := h
 cases e with
 | normal => exact ⟨_, _, (x.mono fun n p => by simp only [exec, p] : Ev fun n => exec E (n + 1) (.block id b) s = some (.normal, s')).step, y⟩
 | exit i => exact ⟨_, _, (x.mono fun n p => by simp only [exec, p] : Ev fun n => exec E (n + 1) (.block id b) s = some (bif Nat.beq i id then .normal else .exit i, s')).step, y⟩
 | ret => exact ⟨_, _, (x.mono fun n p => by simp only [exec, p] : Ev fun n => exec E (n + 1) (.block id b) s = some (.ret, s')).step, y⟩
theorem Run.loop {b : ACode} {s : St} {Q : Ex → St → Prop} (h : Run E b s fun e s' => match e with | .normal => Run E (.loop b) s' Q | e => Q e s') : Run E (.loop b) s Q := by
 obtain ⟨e, s', x, y⟩ := h
 cases e with
 | normal =>
  obtain ⟨e2, s2, x2, y2⟩ := y
  refine ⟨e2, s2, ((x.and x2).mono fun n ⟨p, q⟩ => ?_ : Ev fun n => exec E (n + 1) (.loop b) s = some (e2, s2)).step, y2⟩
  simp only [exec, p, q]
 | exit i => exact ⟨_, _, (x.mono fun n p => by simp only [exec, p] : Ev fun n => exec E (n + 1) (.loop b) s = some (.exit i, s')).step, y⟩
 | ret => exact ⟨_, _, (x.mono fun n p => by simp only [exec, p] : Ev fun n => exec E (n + 1) (.loop b) s = some (.ret, s')).step, y⟩
theorem wp_run : ∀ (c : ACode) (s : St) (Q : Ex → St → Prop), wp E c s Q → Run E c s Q
 | .skip, s, Q, h => ⟨_, _, (Ev.of fun _ => rfl : Ev fun n => exec E (n + 1) .skip s = some (.normal, s)).step, h⟩
 | .ret, s, Q, h => ⟨_, _, (Ev.of fun _ => rfl : Ev fun n => exec E (n + 1) .ret s = some (.ret, s)).step, h⟩
 | .exit i, s, Q, h => ⟨_, _, (Ev.of fun _ => rfl : Ev fun n => exec E (n + 1) (.exit i) s = some (.exit i, s)).step, h⟩
 | .region ops, s, Q, h => by
  obtain ⟨s', x, y⟩ := wpOps_run ops s _ h
  exact ⟨_, _, (x.mono fun n p => by simp only [exec, p, Option.map_some] : Ev fun n => exec E (n + 1) (.region ops) s = some (.normal, s')).step, y⟩
 | .seq a b, s, Q, h => Run.seq ((wp_run a s _ h).mono fun e s' k => by
   cases e with
   | normal => exact wp_run b s' Q k
   | exit i => exact k
   | ret => exact k)
 | .cond c a b, s, Q, h => by
  simp only [wp] at h
  split at h
  ·rename_i x hx
   cases x with
   | true =>
    obtain ⟨e, s', x, y⟩ := wp_run a s Q (h.1 rfl)
    exact ⟨e, s', (x.mono fun n p => by simp only [exec, hx, p] : Ev fun n => exec E (n + 1) (.cond c a b) s = some (e, s')).step, y⟩
   | false =>
    obtain ⟨e, s', x, y⟩ := wp_run b s Q (h.2 rfl)
    exact ⟨e, s', (x.mono fun n p => by simp only [exec, hx, p] : Ev fun n => exec E (n + 1) (.cond c a b) s = some (e, s')).step, y⟩
  ·exact h.elim
 | .block id b, s, Q, h => Run.block (wp_run b s _ h)
 | .loop b, s, Q, h => h
 | .draw ops, s, Q, h => h
 | .range g ps asg body M, s, Q, h => h
 | .bad why, s, Q, h => h
def Ans (E : Env) (g : Nat) (l : List AV) (r : AV) : Prop := ∃ hc, Ev fun n => enterA E (exec E n) g l .empty = some (r, hc)
theorem call_ans {g : Nat} {l : List AV} {r : AV} {h : AH} (hs : E.shared.get g = none) (hk : E.known g l = none) (hm : mapTree h l = some l)
  (hz : l.foldl (fun h v => freeze deepest v h) h = h) (hr : isFlat r = true) (ht : ∀ hc, toTree (freeze deepest r hc) deepest r = some r) (a : Ans E g l r) : RunCall E (.f g) l h r h := by
 obtain ⟨hc, a⟩ := a
 refine a.mono fun n p => ?_
 simp only [callA, callF, hs, hz, hm, hk, p, ht, hr, cond_true]
end Go.AM

namespace Go.AM
variable {E : Env} {s : St} {K : St → Prop} {r : List AOper} {d : Nat} {dst : Option Nat}
def guardTo (s : St) (g : Option (Nat × Bool)) (A B : Prop) : Prop := withV (wantedA s g) fun g => (g = true → A) ∧ (g = false → B)
theorem wpOps_nil : wpOps E [] s K = K s := rfl
def ifP (b : Bool) (A B : Prop) : Prop := match b with
 | true => A
 | false => B
theorem ifP_iff {b : Bool} {A B : Prop} : ifP b A B ↔ (b = true → A) ∧ (b = false → B) := by
 cases b with
 | true => exact ⟨fun h => ⟨fun _ => h, fun x => (by cases x)⟩, fun h => h.1 rfl⟩
 | false => exact ⟨fun h => ⟨fun x => (by cases x), fun _ => h⟩, fun h => h.2 rfl⟩
def wantedV (o : Option AV) (b : Bool) : Option Bool := match o with
 | some (.val (.bool c)) => some (c == b)
 | some (.tup []) => some false
 | _ => none
theorem wantedV_t {c : Bool} : wantedV (some (.val (.bool c))) true = some c := by cases c <;> rfl
theorem wantedV_f {c : Bool} : wantedV (some (.val (.bool c))) false = some (!c) := by cases c <;> rfl
theorem wantedV_u {b : Bool} : wantedV (some undefA) b = some false := rfl
theorem wpOps_g {t : Nat} {b : Bool} {op : AOp} : wpOps E (⟨dst, some (t, b), op⟩ :: r) s K = withV (wantedV (s.eval (.t t)) b) fun b => ifP b (wpOps E (⟨dst, none, op⟩ :: r) s K) (wpOps E r (s.put dst undefA) K) := by
 have h1 : wpOps E (⟨dst, none, op⟩ :: r) s K = wpOp E op s fun v s' => wpOps E r ({ s' with round := s.round }.put dst v) K := by
  simp only [wpOps, wantedA, withV_some, true_implies, Bool.true_eq_false, false_implies, and_true]
 rw [h1]
 show withV (wantedV (s.eval (.t t)) b) _ = _
 cases wantedV (s.eval (.t t)) b with
 | none => rfl
 | some g => exact propext (ifP_iff (b := g)).symm
theorem wpOps_v {op : AOp} {o : Option AV} (h : runOp E noCall s op = o.map fun v => (v, s)) (hn : ∀ s' K, wpOp E op s' K = withV (runOp E noCall s' op) fun (v, s'') => K v s'') :
  wpOps E (⟨dst, none, op⟩ :: r) s K = withV o fun v => wpOps E r (s.put dst v) K := by
 simp only [wpOps, wantedA, withV_some, true_implies, Bool.true_eq_false, false_implies, and_true, hn, h]
 cases o <;> rfl
theorem wpOps_vh {op : AOp} {o : Option (AV × AH)} (h : runOp E noCall s op = o.map fun (v, h) => (v, s.toH h)) (hn : ∀ s' K, wpOp E op s' K = withV (runOp E noCall s' op) fun (v, s'') => K v s'') :
  wpOps E (⟨dst, none, op⟩ :: r) s K = withV o fun (v, h) => wpOps E r ((s.toH h).put dst v) K := by
 simp only [wpOps, wantedA, withV_some, true_implies, Bool.true_eq_false, false_implies, and_true, hn, h]
 cases o <;> rfl
theorem bind_ret {o : Option AV} : (o.bind fun v => some (v, s)) = o.map fun v => (v, s) := by cases o <;> rfl
theorem bif_ret {c : Bool} {v : AV} : (bif c then some (v, s) else none) = Option.map (fun v => (v, s)) (bif c then some v else none) := by cases c <;> rfl
theorem w_mv {x : Opd} : wpOps E (⟨dst, none, .mv x⟩ :: r) s K = withV (s.eval x) fun v => wpOps E r (s.put dst v) K :=
 wpOps_v (by simp only [runOp]; exact bind_ret) fun _ _ => rfl
def pickV (c a b : Option AV) : Option AV := match c with
 | some (.val (.bool true)) => a
 | some (.val (.bool false)) => b
 | _ => none
theorem w_pick {c a b : Opd} : wpOps E (⟨dst, none, .pick c a b⟩ :: r) s K = withV (pickV (s.eval c) (s.eval a) (s.eval b)) fun v => wpOps E r (s.put dst v) K :=
  wpOps_v (by
    simp only [runOp]
    cases s.eval c with
    | none => rfl
    | some v => cases v <;> try rfl
                rename_i v
                cases v <;> try rfl
                rename_i x
                cases x <;> exact bind_ret) fun _ _ => rfl
theorem w_alloc {z : List AV} : wpOps E (⟨dst, none, .alloc z⟩ :: r) s K = wpOps E r ((s.toH (s.h.alloc (.cells z true))).put dst (.ptr s.h.next 0)) K :=
 wpOps_vh (o := some (.ptr s.h.next 0, s.h.alloc (.cells z true))) rfl fun _ _ => rfl
theorem w_box {x : Opd} : wpOps E (⟨dst, none, .box x⟩ :: r) s K = withV ((s.eval x).bind AV.cells) fun l => wpOps E r ((s.toH (s.h.alloc (.cells l true))).put dst (.ptr s.h.next 0)) K := by
 rw [wpOps_vh (o := ((s.eval x).bind AV.cells).map fun l => (.ptr s.h.next 0, s.h.alloc (.cells l true)))]
 ·cases (s.eval x).bind AV.cells <;> rfl
 ·simp only [runOp]
  cases (s.eval x).bind AV.cells <;> rfl
 ·exact fun _ _ => rfl
theorem w_build {z : List AV} {ps : List (Nat × Nat × Opd)} : wpOps E (⟨dst, none, .build z ps⟩ :: r) s K = withV (fill s z ps) fun cs => wpOps E r (s.put dst (.agg cs)) K := by
 rw [wpOps_v (o := (fill s z ps).map .agg)]
 ·cases fill s z ps <;> rfl
 ·simp only [runOp]
  cases fill s z ps <;> rfl
 ·exact fun _ _ => rfl
theorem w_buildSlice {es n : Nat} {z : List AV} {ps : List (Nat × Nat × Opd)} : wpOps E (⟨dst, none, .buildSlice es n z ps⟩ :: r) s K = withV (fill s z ps) fun cs => wpOps E r ((s.toH (s.h.alloc (.cells cs true))).put dst (.own s.h.next 0 n es (some n))) K := by
 rw [wpOps_vh (o := (fill s z ps).map fun cs => (.own s.h.next 0 n es (some n), s.h.alloc (.cells cs true)))]
 ·cases fill s z ps <;> rfl
 ·simp only [runOp]
  cases fill s z ps <;> rfl
 ·exact fun _ _ => rfl
theorem w_load {n : Option Nat} {x : Opd} : wpOps E (⟨dst, none, .load n x⟩ :: r) s K = withV (s.eval x) fun v => withV (cellsFrom E.globs s.h v) fun cs => withV (takeN n cs) fun v => wpOps E r (s.put dst v) K := by
 rw [wpOps_v (o := (s.eval x).bind fun v => (cellsFrom E.globs s.h v).bind (takeN n))]
 ·cases s.eval x with
  | none => rfl
  | some v => cases hc : cellsFrom E.globs s.h v with
   | none => simp only [Option.bind_some, hc, withV_some]; rfl
   | some cs => simp only [Option.bind_some, hc, withV_some]
 ·simp only [runOp]
  cases s.eval x with
  | none => rfl
  | some v => exact bind_ret
 ·exact fun _ _ => rfl
def storeH (h : AH) (n : Nat) (a : AV) (l : List AV) : Option AH := match a with
 | .ptr b off => match h.get b with
  | some (.cells cs true) => bif Nat.beq l.length n && Nat.ble (off + n) cs.length then some (h.put b (some (.cells (putAt cs off l) true))) else none
  | _ => none
 | _ => none
theorem w_store {n : Nat} {a x : Opd} : wpOps E (⟨none, none, .store n a x⟩ :: r) s K = withV (s.eval a) fun a => withV ((s.eval x).bind AV.cells) fun l => withV (storeH s.h n a l) fun h => wpOps E r (s.toH h) K := by
 rw [wpOps_vh (o := (s.eval a).bind fun a => ((s.eval x).bind AV.cells).bind fun l => (storeH s.h n a l).map fun h => (undefA, h))]
 ·cases s.eval a with
  | none => rfl
  | some a => cases (s.eval x).bind AV.cells with
   | none => rfl
   | some l =>
    simp only [Option.bind_some, withV_some]
    cases storeH s.h n a l <;> rfl
 ·simp only [runOp]
  cases s.eval a with
  | none => rfl
  | some a => cases (s.eval x).bind AV.cells with
   | none => cases a <;> rfl
   | some l =>
    cases a <;> try rfl
    rename_i b off
    simp only [Option.bind_some, storeH]
    generalize s.h.get b = o
    cases o with
    | none => rfl
    | some k =>
     cases k <;> try rfl
     rename_i cs rw
     cases rw
     ·rfl
     ·show (bif _ then _ else _) = Option.map _ (Option.map _ (bif _ then _ else _))
      generalize (Nat.beq l.length n && Nat.ble (off + n) cs.length) = c
      cases c <;> rfl
 ·exact fun _ _ => rfl
theorem w_bin {op : BinOp} {t : TypeId} {g : Bool} {x y : Opd} : wpOps E (⟨dst, none, .bin op t g x y⟩ :: r) s K = withV (s.eval x) fun a => withV (s.eval y) fun b => withV (binA E.P op t g a b) fun v => wpOps E r (s.put dst v) K := by
 rw [wpOps_v (o := (s.eval x).bind fun a => (s.eval y).bind fun b => binA E.P op t g a b)]
 ·cases s.eval x with
  | none => rfl
  | some a => cases s.eval y with
   | none => rfl
   | some b => rfl
 ·simp only [runOp]
  cases s.eval x with
  | none => rfl
  | some a => cases s.eval y with
   | none => rfl
   | some b => exact bind_ret
 ·exact fun _ _ => rfl
def unV (P : Program) (op : UnOp) (x : AV) : Option AV := match x with
 | .val v => (evalPure P (Op.unary op v)).bind ofFlat
 | _ => none
theorem w_un {op : UnOp} {x : Opd} : wpOps E (⟨dst, none, .un op x⟩ :: r) s K = withV (s.eval x) fun a => withV (unV E.P op a) fun v => wpOps E r (s.put dst v) K := by
 rw [wpOps_v (o := (s.eval x).bind (unV E.P op))]
 ·cases s.eval x <;> rfl
 ·simp only [runOp]
  cases s.eval x with
  | none => rfl
  | some a => cases a <;> first | rfl | exact bind_ret
 ·exact fun _ _ => rfl
def fieldAddrV (off : Nat) (x : AV) : Option AV := match x with
 | .ptr b o => some (.ptr b (o + off))
 | .iptr cs => bif Nat.ble off cs.length then some (.iptr (cs.drop off)) else none
 | .val (.pointer (some ⟨g, o, none⟩)) => some (.val (.pointer (some ⟨g, o + off, none⟩)))
 | _ => none
theorem w_fieldAddr {off : Nat} {x : Opd} : wpOps E (⟨dst, none, .fieldAddr off x⟩ :: r) s K = withV (s.eval x) fun a => withV (fieldAddrV off a) fun v => wpOps E r (s.put dst v) K := by
 rw [wpOps_v (o := (s.eval x).bind (fieldAddrV off))]
 ·cases s.eval x <;> rfl
 ·simp only [runOp]
  cases s.eval x with
  | none => rfl
  | some a =>
   simp only [Option.bind_some, fieldAddrV]
   cases a <;> try rfl
   ·rename_i v
    cases v <;> try rfl
    rename_i p
    cases p with
    | none => rfl
    | some p =>
     obtain ⟨g, o, sp⟩ := p
     cases sp <;> rfl
   ·exact bif_ret
 ·exact fun _ _ => rfl
def idxAddrSV (es : Nat) (x : AV) (i : Nat) : Option AV := match x with
 | .imm cs n _ => bif Nat.blt i n && Nat.ble (i * es) cs.length then some (.iptr (cs.drop (i * es))) else none
 | .own b off n es' _ => bif Nat.blt i n && Nat.beq es es' then some (.ptr b (off + i * es)) else none
 | _ => none
theorem w_idxAddrS {es : Nat} {x i : Opd} : wpOps E (⟨dst, none, .idxAddrS es x i⟩ :: r) s K = withV (s.eval x) fun a => withV ((s.eval i).bind asN) fun i => withV (idxAddrSV es a i) fun v => wpOps E r (s.put dst v) K := by
 rw [wpOps_v (o := (s.eval x).bind fun a => ((s.eval i).bind asN).bind fun i => idxAddrSV es a i)]
 ·cases s.eval x with
  | none => rfl
  | some a => cases (s.eval i).bind asN <;> rfl
 ·simp only [runOp]
  cases s.eval x with
  | none => rfl
  | some a => cases (s.eval i).bind asN with
   | none => cases a <;> rfl
   | some j =>
    simp only [Option.bind_some, idxAddrSV]
    cases a <;> try rfl
    ·rename_i cs n c
     exact bif_ret
    ·rename_i b o n es' c
     exact bif_ret
 ·exact fun _ _ => rfl
def idxStrV (x : AV) (i : Nat) : Option AV := match x with
 | .val (.string b) => (b.data.toList[i]?).map fun c => .val (.int .u8 c.toNat)
 | _ => none
theorem w_idxStr {x i : Opd} : wpOps E (⟨dst, none, .idxStr x i⟩ :: r) s K = withV (s.eval x) fun a => withV ((s.eval i).bind asN) fun i => withV (idxStrV a i) fun v => wpOps E r (s.put dst v) K := by
 rw [wpOps_v (o := (s.eval x).bind fun a => ((s.eval i).bind asN).bind fun i => idxStrV a i)]
 ·cases s.eval x with
  | none => rfl
  | some a => cases (s.eval i).bind asN <;> rfl
 ·simp only [runOp]
  cases s.eval x with
  | none => rfl
  | some a => cases (s.eval i).bind asN with
   | none => cases a <;> first | rfl | (rename_i v; cases v <;> rfl)
   | some j =>
    simp only [Option.bind_some, idxStrV]
    cases a <;> try rfl
    rename_i v
    cases v <;> try rfl
    rename_i b
    show (match b.data.toList[j]? with | some c => some (AV.val (.int .u8 c.toNat), s) | none => none) = Option.map _ (Option.map _ (b.data.toList[j]?))
    generalize b.data.toList[j]? = o
    cases o <;> rfl
 ·exact fun _ _ => rfl
def extractV (i : Nat) (x : AV) : Option AV := match x with
 | .tup vs => vs[i]?
 | _ => none
theorem w_extract {i : Nat} {x : Opd} : wpOps E (⟨dst, none, .extract i x⟩ :: r) s K = withV (s.eval x) fun a => withV (extractV i a) fun v => wpOps E r (s.put dst v) K := by
 rw [wpOps_v (o := (s.eval x).bind (extractV i))]
 ·cases s.eval x <;> rfl
 ·simp only [runOp]
  cases s.eval x with
  | none => rfl
  | some a => cases a <;> first | rfl | exact bind_ret
 ·exact fun _ _ => rfl
def lenV (x : AV) : Option AV := match x with
 | .val (.slice _ 0 _) => some (.val (.int .i64 0))
 | .imm _ n _ => some (.val (.int .i64 n))
 | .own _ _ n _ _ => some (.val (.int .i64 n))
 | _ => none
theorem w_lenS {x : Opd} : wpOps E (⟨dst, none, .lenS x⟩ :: r) s K = withV (s.eval x) fun a => withV (lenV a) fun v => wpOps E r (s.put dst v) K := by
 rw [wpOps_v (o := (s.eval x).bind lenV)]
 ·cases s.eval x <;> rfl
 ·simp only [runOp]
  cases s.eval x with
  | none => rfl
  | some a =>
   simp only [Option.bind_some, lenV]
   cases a <;> try rfl
   rename_i v
   cases v <;> try rfl
   rename_i p n c
   cases n <;> rfl
 ·exact fun _ _ => rfl
def lenStrV (x : AV) : Option AV := match x with
 | .val (.string b) => some (.val (.int .i64 b.size))
 | _ => none
theorem w_lenStr {x : Opd} : wpOps E (⟨dst, none, .lenStr x⟩ :: r) s K = withV (s.eval x) fun a => withV (lenStrV a) fun v => wpOps E r (s.put dst v) K := by
 rw [wpOps_v (o := (s.eval x).bind lenStrV)]
 ·cases s.eval x <;> rfl
 ·simp only [runOp]
  cases s.eval x with
  | none => rfl
  | some a => cases a <;> first | rfl | (rename_i v; cases v <;> rfl)
 ·exact fun _ _ => rfl
theorem w_mkFunc {f : Fn} {a b : List Opd} : wpOps E (⟨dst, none, .mkFunc f a b⟩ :: r) s K = withV (evalAll s a) fun a => withV (evalAll s b) fun b => wpOps E r (s.put dst (.fn f a b)) K := by
 rw [wpOps_v (o := (evalAll s a).bind fun a => (evalAll s b).map fun b => .fn f a b)]
 ·cases evalAll s a with
  | none => rfl
  | some a => cases evalAll s b <;> rfl
 ·simp only [runOp]
  cases evalAll s a with
  | none => rfl
  | some a => cases evalAll s b <;> rfl
 ·exact fun _ _ => rfl
theorem w_call {f : Nat} {l : List Opd} : wpOps E (⟨dst, none, .call f l⟩ :: r) s K = withV (evalAll s l) fun l => CallTo E (.f f) l s.h fun v h => wpOps E r ((s.toH h).put dst v) K := by
 simp only [wpOps, wantedA, withV_some, true_implies, Bool.true_eq_false, false_implies, and_true, wpOp]
 rfl
theorem evalAll_nil : evalAll s [] = some [] := rfl
variable {Q : Ex → St → Prop}
def seqK (E : Env) (b : ACode) (Q : Ex → St → Prop) (e : Ex) (s : St) : Prop := match e with
 | .normal => wp E b s Q
 | e => Q e s
def blockK (id : Nat) (Q : Ex → St → Prop) (e : Ex) (s : St) : Prop := match e with
 | .exit i => Q (bif Nat.beq i id then .normal else .exit i) s
 | e => Q e s
theorem c_skip : wp E .skip s Q = Q .normal s := rfl
theorem c_ret : wp E .ret s Q = Q .ret s := rfl
theorem c_exit {i : Nat} : wp E (.exit i) s Q = Q (.exit i) s := rfl
theorem c_region {ops : List AOper} : wp E (.region ops) s Q = wpOps E ops s (Q .normal) := rfl
theorem c_seq {a b : ACode} : wp E (.seq a b) s Q = wp E a s (seqK E b Q) := rfl
theorem c_block {id : Nat} {b : ACode} : wp E (.block id b) s Q = wp E b s (blockK id Q) := rfl
def boolV : AV → Option Bool
 | .val (.bool x) => some x
 | _ => none
theorem c_cond {c : Opd} {a b : ACode} : wp E (.cond c a b) s Q = withV ((s.eval c).bind boolV) fun x => ifP x (wp E a s Q) (wp E b s Q) := by
 simp only [wp]
 cases s.eval c with
 | none => rfl
 | some v =>
  cases v <;> try rfl
  rename_i v
  cases v <;> try rfl
  rename_i x
  exact propext (ifP_iff (b := x)).symm
theorem k_normal {b : ACode} : seqK E b Q .normal s = wp E b s Q := rfl
theorem k_ret {b : ACode} : seqK E b Q .ret s = Q .ret s := rfl
theorem k_exit {b : ACode} {i : Nat} : seqK E b Q (.exit i) s = Q (.exit i) s := rfl
theorem b_normal {id : Nat} : blockK id Q .normal s = Q .normal s := rfl
theorem b_ret {id : Nat} : blockK id Q .ret s = Q .ret s := rfl
theorem b_exit {id i : Nat} : blockK id Q (.exit i) s = Q (bif Nat.beq i id then .normal else .exit i) s := rfl
def loopK (E : Env) (l : ACode) (Q : Ex → St → Prop) (e : Ex) (s : St) : Prop := match e with
 | .normal => Run E l s Q
 | e => Q e s
theorem loop_of {l b : ACode} (hl : l = .loop b) (h : wp E b s (loopK E l Q)) : Run E l s Q := by
 subst hl
 refine Run.loop ((wp_run _ _ _ h).mono fun e s' k => ?_)
 cases e <;> exact k
theorem l_normal {l : ACode} : loopK E l Q .normal s = Run E l s Q := rfl
theorem l_ret {l : ACode} : loopK E l Q .ret s = Q .ret s := rfl
theorem l_exit {l : ACode} {i : Nat} : loopK E l Q (.exit i) s = Q (.exit i) s := rfl
theorem n_eqb (k : IntKind) : (k == k) = true := by cases k <;> rfl
theorem v_lss {P : Program} {t : TypeId} {g : Bool} {k : IntKind} {a b : Int} : binA P .lss t g (.val (.int k a)) (.val (.int k b)) = some (.val (.bool (decide (a < b)))) := by simp only [binA, binInt, n_eqb, cond_true]
theorem v_leq {P : Program} {t : TypeId} {g : Bool} {k : IntKind} {a b : Int} : binA P .leq t g (.val (.int k a)) (.val (.int k b)) = some (.val (.bool (decide (a ≤ b)))) := by simp only [binA, binInt, n_eqb, cond_true]
theorem v_gtr {P : Program} {t : TypeId} {g : Bool} {k : IntKind} {a b : Int} : binA P .gtr t g (.val (.int k a)) (.val (.int k b)) = some (.val (.bool (decide (b < a)))) := by simp only [binA, binInt, n_eqb, cond_true]
theorem v_geq {P : Program} {t : TypeId} {g : Bool} {k : IntKind} {a b : Int} : binA P .geq t g (.val (.int k a)) (.val (.int k b)) = some (.val (.bool (decide (b ≤ a)))) := by simp only [binA, binInt, n_eqb, cond_true]
theorem v_eql {P : Program} {t : TypeId} {g : Bool} {k : IntKind} {a b : Int} : binA P .eql t g (.val (.int k a)) (.val (.int k b)) = some (.val (.bool (decide (a = b)))) := by simp only [binA, binInt, n_eqb, cond_true] <;> rfl
theorem v_neq {P : Program} {t : TypeId} {g : Bool} {k : IntKind} {a b : Int} : binA P .neq t g (.val (.int k a)) (.val (.int k b)) = some (.val (.bool (!decide (a = b)))) := by simp only [binA, binInt, n_eqb, cond_true] <;> rfl
theorem v_add {P : Program} {t : TypeId} {g : Bool} {k : IntKind} {a b : Int} : binA P .add t g (.val (.int k a)) (.val (.int k b)) = some (.val (.int k (k.wrap (a + b)))) := by simp only [binA, binInt, n_eqb, cond_true]
theorem v_sub {P : Program} {t : TypeId} {g : Bool} {k : IntKind} {a b : Int} : binA P .sub t g (.val (.int k a)) (.val (.int k b)) = some (.val (.int k (k.wrap (a - b)))) := by simp only [binA, binInt, n_eqb, cond_true]
theorem v_mul {P : Program} {t : TypeId} {g : Bool} {k : IntKind} {a b : Int} : binA P .mul t g (.val (.int k a)) (.val (.int k b)) = some (.val (.int k (k.wrap (a * b)))) := by simp only [binA, binInt, n_eqb, cond_true]
theorem v_quo {P : Program} {t : TypeId} {g : Bool} {k : IntKind} {a b : Int} (h : b ≠ 0) : binA P .quo t g (.val (.int k a)) (.val (.int k b)) = some (.val (.int k (k.wrap (a.tdiv b)))) := by
 have : (b == 0) = false := by simpa using h
 simp only [binA, binInt, n_eqb, cond_true, this, cond_false]
def strEq (a b : ByteArray) : Bool := eqBytes a.data.toList b.data.toList
theorem v_seql {P : Program} {t : TypeId} {g : Bool} {a b : ByteArray} : binA P .eql t g (.val (.string a)) (.val (.string b)) = some (.val (.bool (strEq a b))) := by simp only [binA, binStr, Option.map_some, strEq]
theorem v_sneq {P : Program} {t : TypeId} {g : Bool} {a b : ByteArray} : binA P .neq t g (.val (.string a)) (.val (.string b)) = some (.val (.bool (!strEq a b))) := by simp only [binA, binStr, Option.map_some, strEq]
theorem v_not {P : Program} {b : Bool} : unV P .not (.val (.bool b)) = some (.val (.bool (!b))) := by cases b <;> rfl
theorem v_pick {b : Bool} {x y : AV} : pickV (some (.val (.bool b))) (some x) (some y) = some (bif b then x else y) := by cases b <;> rfl
theorem n_cast {k : IntKind} {i : Nat} : asN (.val (.int k (Nat.cast i))) = some i := rfl
theorem fa_ptr {off b o : Nat} : fieldAddrV off (.ptr b o) = some (.ptr b (o + off)) := rfl
def cfB (o : Option Blk) (off : Nat) : Option (List AV) := match o with
 | some (.cells cs _) => bif Nat.ble off cs.length then some (cs.drop off) else none
 | _ => none
theorem cf_ptr {G : Nat → Option (List AV)} {h : AH} {b off : Nat} : cellsFrom G h (.ptr b off) = cfB (h.get b) off := rfl
theorem cf_iptr {G : Nat → Option (List AV)} {h : AH} {cs : List AV} : cellsFrom G h (.iptr cs) = some cs := rfl
theorem e_next : AH.empty.next = 0 := rfl
theorem a_next {h : AH} {x : Blk} : (h.alloc x).next = h.next + 1 := rfl
theorem p_next {h : AH} {b : Nat} {x : Option Blk} : (h.put b x).next = h.next := rfl
theorem x_0 {a : AV} {l : List AV} : extractV 0 (.tup (a :: l)) = some a := rfl
theorem x_1 {a b : AV} {l : List AV} : extractV 1 (.tup (a :: b :: l)) = some b := rfl
theorem x_2 {a b c : AV} {l : List AV} : extractV 2 (.tup (a :: b :: c :: l)) = some c := rfl
theorem r_nil {G : Nat → Option (List AV)} : resultsA G s [] = some [] := rfl
theorem r_tmp {G : Nat → Option (List AV)} {t : Nat} {l : List ARes} : resultsA G s (.tmp t :: l) = (s.eval (.t t)).bind fun v => (resultsA G s l).map fun l => v :: l := by
 have h : s.eval (.t t) = s.tm.get t := rfl
 rw [h]
 simp only [resultsA]
 cases s.tm.get t with
 | none => rfl
 | some v => cases resultsA G s l <;> rfl
theorem r_cell {G : Nat → Option (List AV)} {t : Nat} {n : Option Nat} {l : List ARes} : resultsA G s (.cell t n :: l) = (s.eval (.t t)).bind fun v => (cellsFrom G s.h v).bind fun cs => (takeN n cs).bind fun v => (resultsA G s l).map fun l => v :: l := by
 have h : s.eval (.t t) = s.tm.get t := rfl
 rw [h]
 simp only [resultsA]
 cases s.tm.get t with
 | none => rfl
 | some v =>
  simp only [Option.bind_some]
  cases hc : cellsFrom G s.h v with
  | none => simp only [Option.bind_none]
  | some cs =>
   simp only [Option.bind_some]
   cases resultsA G s l with
   | none => cases takeN n cs <;> rfl
   | some l =>
    show Option.map (fun x => x :: l) (takeN n cs) = _
    cases takeN n cs <;> rfl
def Leaf (v : AV) : Prop := (∀ h n, toTree h (n + 1) v = some v) ∧ ∀ h n, freeze (n + 1) v h = h
def Tree (v : AV) : Prop := (∀ h n, toTree h (n + 2) v = some v) ∧ ∀ h n, freeze (n + 2) v h = h
theorem Leaf.val (v : Value) : Leaf (.val v) := ⟨fun _ _ => rfl, fun _ _ => rfl⟩
theorem Leaf.imm (cs : List AV) (n : Nat) (c : Option Nat) : Leaf (.imm cs n c) := ⟨fun _ _ => rfl, fun _ _ => rfl⟩
theorem Leaf.tree {v : AV} (h : Leaf v) : Tree v := ⟨fun a n => h.1 a (n + 1), fun a n => h.2 a (n + 1)⟩
theorem Tree.val (v : Value) : Tree (.val v) := (Leaf.val v).tree
theorem leaves_map {h : AH} {n : Nat} : ∀ {l : List AV}, (∀ v ∈ l, Leaf v) → l.mapM (toTree h (n + 1)) = some l
 | [], _ => rfl
 | v :: l, k => by
  rw [List.mapM_cons, (k v List.mem_cons_self).1, leaves_map fun x hx => k x (List.mem_cons_of_mem _ hx)]
  rfl
theorem leaves_fold {n : Nat} : ∀ {l : List AV} {h : AH}, (∀ v ∈ l, Leaf v) → l.foldl (fun h c => freeze (n + 1) c h) h = h
 | [], _, _ => rfl
 | v :: l, h, k => by
  rw [List.foldl_cons, (k v List.mem_cons_self).2]
  exact leaves_fold fun x hx => k x (List.mem_cons_of_mem _ hx)
theorem Tree.agg {l : List AV} (k : ∀ v ∈ l, Leaf v) : Tree (.agg l) :=
 ⟨fun h n => (show (l.mapM (toTree h (n + 1))).map AV.agg = _ by rw [leaves_map k]; rfl), fun h n => (show l.foldl (fun h c => freeze (n + 1) c h) h = h from leaves_fold k)⟩
theorem Tree.tup {l : List AV} (k : ∀ v ∈ l, Leaf v) : Tree (.tup l) :=
 ⟨fun h n => (show (l.mapM (toTree h (n + 1))).map AV.tup = _ by rw [leaves_map k]; rfl), fun h n => (show l.foldl (fun h c => freeze (n + 1) c h) h = h from leaves_fold k)⟩
theorem trees_map {h : AH} : ∀ {l : List AV}, (∀ v ∈ l, Tree v) → mapTree h l = some l
 | [], _ => rfl
 | v :: l, k => by
  have h1 : toTree h deepest v = some v := (k v List.mem_cons_self).1 h 999999998
  simp only [mapTree, h1, trees_map fun x hx => k x (List.mem_cons_of_mem _ hx)]
theorem trees_fold : ∀ {l : List AV} {h : AH}, (∀ v ∈ l, Tree v) → l.foldl (fun h v => freeze deepest v h) h = h
 | [], _, _ => rfl
 | v :: l, h, k => by
  have h1 : freeze deepest v h = h := (k v List.mem_cons_self).2 h 999999998
  rw [List.foldl_cons, h1]
  exact trees_fold fun x hx => k x (List.mem_cons_of_mem _ hx)
theorem call_tree {g : Nat} {l : List AV} {r : AV} (hs : E.shared.get g = none) (hk : E.known g l = none) (hl : ∀ v ∈ l, Tree v) (hr : isFlat r = true) (ht : Tree r) (a : Ans E g l r) (h : AH) : RunCall E (.f g) l h r h :=
 call_ans hs hk (trees_map hl) (trees_fold hl) hr (fun hc => ht.1 _ 999999998) a
theorem mem1 {p : AV → Prop} {a : AV} (h : p a) : ∀ v ∈ [a], p v := fun v hv => by
 rw [List.mem_singleton.1 hv]; exact h
theorem mem2 {p : AV → Prop} {a b : AV} (h : p a) (k : p b) : ∀ v ∈ [a, b], p v := fun v hv => by
 simp only [List.mem_cons, List.mem_nil_iff, or_false] at hv
 rcases hv with rfl | rfl
 ·exact h
 ·exact k
end Go.AM

namespace Go.AM
variable {E : Env} {s : St} {K : St → Prop} {r : List AOper} {d : Nat} {dst : Option Nat} {Q : Ex → St → Prop}
def stepV (E : Env) (r : List AOper) (s : St) (dst : Option Nat) (K : St → Prop) (o : Option AV) : Prop := withV o fun v => wpOps E r (s.put dst v) K
def stepH (E : Env) (r : List AOper) (s : St) (dst : Option Nat) (K : St → Prop) (o : Option (AV × AH)) : Prop := withV o fun (v, h) => wpOps E r ((s.toH h).put dst v) K
def stepS (E : Env) (r : List AOper) (s : St) (K : St → Prop) (o : Option AH) : Prop := withV o fun h => wpOps E r (s.toH h) K
theorem stepV_some {v : AV} : stepV E r s dst K (some v) = wpOps E r (s.put dst v) K := rfl
theorem stepH_some {v : AV} {h : AH} : stepH E r s dst K (some (v, h)) = wpOps E r ((s.toH h).put dst v) K := rfl
theorem stepS_some {h : AH} : stepS E r s K (some h) = wpOps E r (s.toH h) K := rfl
def guardK (E : Env) (dst : Option Nat) (op : AOp) (r : List AOper) (s : St) (K : St → Prop) (o : Option Bool) : Prop := match o with
 | some true => wpOps E (⟨dst, none, op⟩ :: r) s K
 | some false => wpOps E r (s.put dst undefA) K
 | none => False
theorem guardK_t {op : AOp} : guardK E dst op r s K (some true) = wpOps E (⟨dst, none, op⟩ :: r) s K := rfl
theorem guardK_f {op : AOp} : guardK E dst op r s K (some false) = wpOps E r (s.put dst undefA) K := rfl
theorem s_g {t : Nat} {b : Bool} {op : AOp} : wpOps E (⟨dst, some (t, b), op⟩ :: r) s K = guardK E dst op r s K (wantedV (s.eval (.t t)) b) := by
 rw [wpOps_g]
 cases wantedV (s.eval (.t t)) b with
 | none => rfl
 | some g => cases g <;> rfl
def condK (E : Env) (a b : ACode) (s : St) (Q : Ex → St → Prop) (o : Option AV) : Prop := match o with
 | some (.val (.bool true)) => wp E a s Q
 | some (.val (.bool false)) => wp E b s Q
 | _ => False
theorem condK_t {a b : ACode} : condK E a b s Q (some (.val (.bool true))) = wp E a s Q := rfl
theorem condK_f {a b : ACode} : condK E a b s Q (some (.val (.bool false))) = wp E b s Q := rfl
theorem s_cond {c : Opd} {a b : ACode} : wp E (.cond c a b) s Q = condK E a b s Q (s.eval c) := by
 rw [c_cond]
 cases s.eval c with
 | none => rfl
 | some v =>
  cases v <;> try rfl
  rename_i v
  cases v <;> try rfl
  rename_i x
  cases x <;> rfl
theorem s_mv {x : Opd} : wpOps E (⟨dst, none, .mv x⟩ :: r) s K = stepV E r s dst K (s.eval x) := w_mv
theorem s_pick {c a b : Opd} : wpOps E (⟨dst, none, .pick c a b⟩ :: r) s K = stepV E r s dst K (pickV (s.eval c) (s.eval a) (s.eval b)) := w_pick
def boxO (h : AH) : Option (List AV) → Option (AV × AH)
 | some l => some (.ptr h.next 0, h.alloc (.cells l true))
 | none => none
theorem boxO_some {h : AH} {l : List AV} : boxO h (some l) = some (.ptr h.next 0, h.alloc (.cells l true)) := rfl
theorem s_box {x : Opd} : wpOps E (⟨dst, none, .box x⟩ :: r) s K = stepH E r s dst K (boxO s.h ((s.eval x).bind AV.cells)) := by
 rw [w_box]
 cases (s.eval x).bind AV.cells <;> rfl
def aggO : Option (List AV) → Option AV
 | some l => some (.agg l)
 | none => none
theorem aggO_some {l : List AV} : aggO (some l) = some (.agg l) := rfl
theorem s_build {z : List AV} {ps : List (Nat × Nat × Opd)} : wpOps E (⟨dst, none, .build z ps⟩ :: r) s K = stepV E r s dst K (aggO (fill s z ps)) := by
 rw [w_build]
 cases fill s z ps <;> rfl
def ownO (h : AH) (es n : Nat) : Option (List AV) → Option (AV × AH)
 | some l => some (.own h.next 0 n es (some n), h.alloc (.cells l true))
 | none => none
theorem ownO_some {h : AH} {es n : Nat} {l : List AV} : ownO h es n (some l) = some (.own h.next 0 n es (some n), h.alloc (.cells l true)) := rfl
theorem s_buildSlice {es n : Nat} {z : List AV} {ps : List (Nat × Nat × Opd)} : wpOps E (⟨dst, none, .buildSlice es n z ps⟩ :: r) s K = stepH E r s dst K (ownO s.h es n (fill s z ps)) := by
 rw [w_buildSlice]
 cases fill s z ps <;> rfl
theorem s_load {n : Option Nat} {x : Opd} : wpOps E (⟨dst, none, .load n x⟩ :: r) s K = stepV E r s dst K (((s.eval x).bind (cellsFrom E.globs s.h)).bind (takeN n)) := by
 rw [w_load]
 cases s.eval x with
 | none => rfl
 | some v =>
  simp only [withV_some, Option.bind_some]
  cases cellsFrom E.globs s.h v <;> rfl
def storeO (h : AH) (n : Nat) : Option AV → Option (List AV) → Option AH
 | some a, some l => storeH h n a l
 | _, _ => none
theorem storeO_some {h : AH} {n : Nat} {a : AV} {l : List AV} : storeO h n (some a) (some l) = storeH h n a l := rfl
theorem s_store {n : Nat} {a x : Opd} : wpOps E (⟨none, none, .store n a x⟩ :: r) s K = stepS E r s K (storeO s.h n (s.eval a) ((s.eval x).bind AV.cells)) := by
 rw [w_store]
 cases s.eval a with
 | none => rfl
 | some a => cases (s.eval x).bind AV.cells <;> rfl
def binO (P : Program) (op : BinOp) (t : TypeId) (g : Bool) : Option AV → Option AV → Option AV
 | some a, some b => binA P op t g a b
 | _, _ => none
theorem binO_some {P : Program} {op : BinOp} {t : TypeId} {g : Bool} {a b : AV} : binO P op t g (some a) (some b) = binA P op t g a b := rfl
theorem s_bin {op : BinOp} {t : TypeId} {g : Bool} {x y : Opd} : wpOps E (⟨dst, none, .bin op t g x y⟩ :: r) s K = stepV E r s dst K (binO E.P op t g (s.eval x) (s.eval y)) := by
 rw [w_bin]
 cases s.eval x with
 | none => rfl
 | some a => cases s.eval y <;> rfl
theorem s_un {op : UnOp} {x : Opd} : wpOps E (⟨dst, none, .un op x⟩ :: r) s K = stepV E r s dst K ((s.eval x).bind (unV E.P op)) := by
 rw [w_un]
 cases s.eval x <;> rfl
theorem s_fieldAddr {off : Nat} {x : Opd} : wpOps E (⟨dst, none, .fieldAddr off x⟩ :: r) s K = stepV E r s dst K ((s.eval x).bind (fieldAddrV off)) := by
 rw [w_fieldAddr]
 cases s.eval x <;> rfl
def idxO (es : Nat) : Option AV → Option Nat → Option AV
 | some a, some i => idxAddrSV es a i
 | _, _ => none
theorem idxO_some {es i : Nat} {a : AV} : idxO es (some a) (some i) = idxAddrSV es a i := rfl
theorem s_idxAddrS {es : Nat} {x i : Opd} : wpOps E (⟨dst, none, .idxAddrS es x i⟩ :: r) s K = stepV E r s dst K (idxO es (s.eval x) ((s.eval i).bind asN)) := by
 rw [w_idxAddrS]
 cases s.eval x with
 | none => rfl
 | some a => cases (s.eval i).bind asN <;> rfl
def idxSO : Option AV → Option Nat → Option AV
 | some a, some i => idxStrV a i
 | _, _ => none
theorem idxSO_some {i : Nat} {a : AV} : idxSO (some a) (some i) = idxStrV a i := rfl
theorem s_idxStr {x i : Opd} : wpOps E (⟨dst, none, .idxStr x i⟩ :: r) s K = stepV E r s dst K (idxSO (s.eval x) ((s.eval i).bind asN)) := by
 rw [w_idxStr]
 cases s.eval x with
 | none => rfl
 | some a => cases (s.eval i).bind asN <;> rfl
theorem s_extract {i : Nat} {x : Opd} : wpOps E (⟨dst, none, .extract i x⟩ :: r) s K = stepV E r s dst K ((s.eval x).bind (extractV i)) := by
 rw [w_extract]
 cases s.eval x <;> rfl
theorem s_lenS {x : Opd} : wpOps E (⟨dst, none, .lenS x⟩ :: r) s K = stepV E r s dst K ((s.eval x).bind lenV) := by
 rw [w_lenS]
 cases s.eval x <;> rfl
theorem s_lenStr {x : Opd} : wpOps E (⟨dst, none, .lenStr x⟩ :: r) s K = stepV E r s dst K ((s.eval x).bind lenStrV) := by
 rw [w_lenStr]
 cases s.eval x <;> rfl
def fnO (f : Fn) : Option (List AV) → Option (List AV) → Option AV
 | some a, some b => some (.fn f a b)
 | _, _ => none
theorem fnO_some {f : Fn} {a b : List AV} : fnO f (some a) (some b) = some (.fn f a b) := rfl
theorem s_mkFunc {f : Fn} {a b : List Opd} : wpOps E (⟨dst, none, .mkFunc f a b⟩ :: r) s K = stepV E r s dst K (fnO f (evalAll s a) (evalAll s b)) := by
 rw [w_mkFunc]
 cases evalAll s a with
 | none => rfl
 | some a => cases evalAll s b <;> rfl
def callK (E : Env) (f : Nat) (r : List AOper) (s : St) (dst : Option Nat) (K : St → Prop) (o : Option (List AV)) : Prop := withV o fun l => CallTo E (.f f) l s.h fun v h => wpOps E r ((s.toH h).put dst v) K
theorem s_call {f : Nat} {l : List Opd} : wpOps E (⟨dst, none, .call f l⟩ :: r) s K = callK E f r s dst K (evalAll s l) := w_call
theorem callK_all {f : Nat} {l : List AV} {v : AV} (h : ∀ h, RunCall E (.f f) l h v h) : callK E f r s dst K (some l) = wpOps E r (s.put dst v) K := by
 show CallTo E (.f f) l s.h _ = _
 exact propext (callTo_iff (h s.h))
theorem callK_to {f : Nat} {l : List AV} {v : AV} {h' : AH} (h : RunCall E (.f f) l s.h v h') : callK E f r s dst K (some l) = wpOps E r ((s.toH h').put dst v) K := by
 show CallTo E (.f f) l s.h _ = _
 exact propext (callTo_iff h)
def consO : Option AV → Option (List AV) → Option (List AV)
 | some a, some l => some (a :: l)
 | _, _ => none
theorem consO_some {a : AV} {l : List AV} : consO (some a) (some l) = some (a :: l) := rfl
theorem all_c {x : Opd} {l : List Opd} : evalAll s (x :: l) = consO (s.eval x) (evalAll s l) := by
 simp only [evalAll]
 cases s.eval x with
 | none => rfl
 | some v => cases evalAll s l <;> rfl
theorem res_tmp {G : Nat → Option (List AV)} {t : Nat} {l : List ARes} : resultsA G s (.tmp t :: l) = consO (s.eval (.t t)) (resultsA G s l) := by
 rw [r_tmp]
 cases s.eval (.t t) with
 | none => rfl
 | some v => cases resultsA G s l <;> rfl
theorem res_cell {G : Nat → Option (List AV)} {t : Nat} {n : Option Nat} {l : List ARes} : resultsA G s (.cell t n :: l) = consO (((s.eval (.t t)).bind (cellsFrom G s.h)).bind (takeN n)) (resultsA G s l) := by
 rw [r_cell]
 cases s.eval (.t t) with
 | none => rfl
 | some v =>
  simp only [Option.bind_some]
  cases cellsFrom G s.h v with
  | none => rfl
  | some cs =>
   simp only [Option.bind_some]
   cases takeN n cs with
   | none => rfl
   | some x => cases resultsA G s l <;> rfl
theorem n_0 {k : IntKind} : asN (.val (.int k 0)) = some 0 := rfl
theorem n_1 {k : IntKind} : asN (.val (.int k 1)) = some 1 := rfl
end Go.AM

namespace Go.AM
variable {E : Env} {s : St} {K : St → Prop}
def DrawTo (E : Env) (ops : List DOp) (done : List DRec) (s : St) (K : St → Prop) : Prop := ∃ s', Ev (fun n => runDraw E (callA E (exec E n)) ops done s = some s') ∧ K s'
theorem draw_nil {done : List DRec} (h : K s) : DrawTo E [] done s K := ⟨s, Ev.of fun _ => rfl, h⟩
theorem run_draw {ops : List DOp} {Q : Ex → St → Prop} (h : DrawTo E ops [] s (Q .normal)) : Run E (.draw ops) s Q := by
 obtain ⟨s', x, y⟩ := h
 exact ⟨_, _, (x.mono fun n p => by simp only [exec, p, Option.map_some] : Ev fun n => exec E (n + 1) (.draw ops) s = some (.normal, s')).step, y⟩
def Quiet (r : DRec) : Prop := r.D = [] ∧ r.lo = r.hi
theorem quiet_touch {r : DRec} (h : Quiet r) (l : List Nat) : touches r l = false := by
 obtain ⟨F, D, lo, hi⟩ := r
 obtain ⟨h1, h2⟩ := h
 simp only at h1 h2
 subst h1; subst h2
 unfold touches
 rw [List.any_eq_false]
 intro x _
 have : (Nat.ble lo x && Nat.blt x lo) = false := by
  cases a : Nat.ble lo x with
  | false => rfl
  | true =>
   cases b : Nat.blt x lo with
   | false => rfl
   | true =>
    have h1 := Nat.le_of_ble_eq_true a
    have h2 : x < lo := Nat.le_of_ble_eq_true b
    omega
 simp only [memN, List.any_nil, Bool.false_or, this, Bool.false_eq_true, not_false_eq_true]
theorem quiet_free {done : List DRec} {b : DRec} (hq : ∀ x ∈ done, Quiet x) (hb : Quiet b) : ∀ {l : List Nat}, (∀ i ∈ l, i < done.length) → freeOk done b l = true
 | [], _ => rfl
 | i :: r, h => by
  have hi := h i List.mem_cons_self
  have ha : Quiet done[i] := hq _ (List.getElem_mem hi)
  simp only [freeOk, List.getElem?_eq_getElem hi, recApart, quiet_touch ha, hb.1, List.any_nil, Bool.not_false, Bool.and_self, Bool.true_and]
  exact quiet_free hq hb fun j hj => h j (List.mem_cons_of_mem _ hj)
theorem draw_cons {d : DOp} {r : List DOp} {done : List DRec} {v : AV} {l : List Nat} (hq : ∀ x ∈ done, Quiet x) (hf : ∀ i ∈ d.free, i < done.length)
  (hs : Ev fun n => stepDraw E (callA E (exec E n)) d (nearOf done d.free) s = some (v, ⟨l, [], s.h.next, s.h.next⟩, s.h))
  (k : DrawTo E r (done ++ [⟨l, [], s.h.next, s.h.next⟩]) (s.put d.o.dst v) K) : DrawTo E (d :: r) done s K := by
 obtain ⟨s', x, y⟩ := k
 refine ⟨s', (hs.and x).mono fun n ⟨a, b⟩ => ?_, y⟩
 have hfree : freeOk done ⟨l, [], s.h.next, s.h.next⟩ d.free = true := quiet_free hq ⟨rfl, rfl⟩ hf
 simp only [runDraw, a, hfree, cond_true]
 cases hd : d.o.dst with
 | none => rw [hd] at b; exact b
 | some t => rw [hd] at b; exact b
theorem merge_same {h : AH} {l : List Nat} : mergeH h [] (restrictH h l) = h := by
 simp only [mergeH, restrictH, Nat.sub_self, copyNew, copyOld]
def seen (s : St) (reads l : List Nat) : St := { tm := pickTm s.tm reads, h := restrictH s.h l, defers := [], round := s.round }
theorem mem_vals {α : Type} : ∀ {t : Tr α} {x : α}, x ∈ t.vals → ∃ k, t.get k = some x
 | .nil, x, h => by simp only [Tr.vals, List.not_mem_nil] at h
 | .nd l v r, x, h => by
  simp only [Tr.vals, List.mem_append] at h
  rcases h with h | h | h
  ·cases v with
   | none => cases h
   | some y =>
    rw [List.mem_singleton.1 h]
    exact ⟨0, rfl⟩
  ·obtain ⟨k, hk⟩ := mem_vals h
   refine ⟨2 * k + 1, ?_⟩
   have h1 : Nat.beq (2 * k + 1) 0 = false := rfl
   have h2 : (2 * k + 1) % 2 = 1 := by omega
   have h3 : (2 * k + 1) / 2 = k := by omega
   simp only [Tr.get, h1, cond_false, h2, h3, Nat.beq_refl, cond_true, hk]
  ·obtain ⟨k, hk⟩ := mem_vals h
   refine ⟨2 * k + 2, ?_⟩
   have h1 : Nat.beq (2 * k + 2) 0 = false := rfl
   have h2 : (2 * k + 2) % 2 = 0 := by omega
   have h3 : (2 * k + 2) / 2 - 1 = k := by omega
   have h4 : Nat.beq 0 1 = false := rfl
   simp only [Tr.get, h1, cond_false, h2, h3, h4, hk]
theorem flat_ids : ∀ {l : List AV}, (∀ x ∈ l, ids x = []) → idsL l = []
 | [], _ => rfl
 | a :: r, h => by
  simp only [idsL, h a List.mem_cons_self, List.nil_append]
  exact flat_ids fun x hx => h x (List.mem_cons_of_mem _ hx)
end Go.AM

namespace Go.AM
variable {E : Env}
theorem own_tree {h : AH} {b k es : Nat} {cap : Option Nat} {cs : List AV} {rw : Bool} (hb : h.get b = some (.cells cs rw)) (hl : cs.length = k * es) (hv : ∀ v ∈ cs, Leaf v) :
  toTree (freeze deepest (.own b 0 k es cap) h) deepest (.own b 0 k es cap) = some (.imm cs k cap) := by
 have e1 : freeze deepest (.own b 0 k es cap) h = h.put b (some (.cells cs false)) := by
  show (match h.get b with
   | some (.cells cs _) => ((cs.drop 0).take (k * es)).foldl (fun h c => freeze 999999999 c h) (h.put b (some (.cells cs false)))
   | _ => h) = _
  rw [hb]
  simp only [List.drop_zero]
  rw [List.take_of_length_le (by omega)]
  exact leaves_fold hv
 rw [e1]
 have hg : (h.put b (some (.cells cs false))).get b = some (.cells cs false) := by rw [AH.get_put, if_pos rfl]
 rw [show deepest = 999999999 + 1 from rfl, toTree.eq_def]
 simp only [hg]
 have h1 : Nat.ble (0 + k * es) cs.length = true := Nat.ble_eq.mpr (by omega)
 simp only [h1, cond_true, List.drop_zero]
 rw [List.take_of_length_le (by omega), leaves_map hv]
 rfl
theorem call_own {g : Nat} {l : List AV} {b k es : Nat} {cap : Option Nat} {cs : List AV} {rw : Bool} {hc : AH} (hs : E.shared.get g = none) (hk : E.known g l = none) (hl : ∀ v ∈ l, Tree v)
  (a : Ev fun n => enterA E (exec E n) g l .empty = some (.own b 0 k es cap, hc)) (hb : hc.get b = some (.cells cs rw)) (hn : cs.length = k * es) (hv : ∀ v ∈ cs, Leaf v) (h : AH) : RunCall E (.f g) l h (.imm cs k cap) h := by
 refine a.mono fun n p => ?_
 have hz : l.foldl (fun h v => freeze deepest v h) h = h := trees_fold hl
 simp only [callA, callF, hs, hz, trees_map hl, hk, p, own_tree hb hn hv, ite_self]
 cases isFlat (AV.imm cs k cap) <;> rfl
end Go.AM

namespace Go.AM
variable {E : Env} {s : St} {K : St → Prop} {r : List AOper} {d : Nat} {dst : Option Nat}
def Row (lo : Nat) (h : AH) (v : AV) (cs : List AV) : Prop := (v = .val (.slice none 0 0) ∧ cs = []) ∨ ∃ b, lo ≤ b ∧ b < h.next ∧ cs ≠ [] ∧ v = .own b 0 cs.length 1 none ∧ h.get b = some (.cells cs true)
theorem Row.to {lo : Nat} {h h' : AH} {v : AV} {cs : List AV} (hr : Row lo h v cs) (hn : h.next ≤ h'.next) (hg : ∀ b, b < h.next → h'.get b = h.get b) : Row lo h' v cs := by
 rcases hr with ⟨rfl, rfl⟩ | ⟨c, h1, h2, h3, rfl, h4⟩
 ·exact .inl ⟨rfl, rfl⟩
 ·exact .inr ⟨c, h1, by omega, h3, rfl, by rw [hg c h2, h4]⟩
def sliceSO (es : Nat) : Option AV → Option (Option Nat) → Option (Option Nat) → Option (Option Nat) → Option AV
 | some v, some lo, some hi, some mx => sliceA' es v lo hi mx
 | _, _, _, _ => none
theorem sliceSO_some {es : Nat} {v : AV} {lo hi mx : Option Nat} : sliceSO es (some v) (some lo) (some hi) (some mx) = sliceA' es v lo hi mx := rfl
theorem s_sliceS {es : Nat} {x : Opd} {lo hi mx : Option Opd} : wpOps E (⟨dst, none, .sliceS es x lo hi mx⟩ :: r) s K = stepV E r s dst K (sliceSO es (s.eval x) (optN s lo) (optN s hi) (optN s mx)) := by
 rw [wpOps_v (o := sliceSO es (s.eval x) (optN s lo) (optN s hi) (optN s mx))]
 ·rfl
 ·simp only [runOp]
  cases s.eval x with
  | none => rfl
  | some v => cases optN s lo with
   | none => rfl
   | some lo => cases optN s hi with
    | none => rfl
    | some hi => cases optN s mx with
     | none => rfl
     | some mx => exact bind_ret
 ·exact fun _ _ => rfl
theorem optN_n : optN s none = some none := rfl
def optM : Option AV → Option (Option Nat)
 | some v => (asN v).map some
 | none => none
theorem optN_t {x : Opd} : optN s (some x) = optM (s.eval x) := by
 simp only [optN, optM]
 cases s.eval x <;> rfl
theorem optM_some {v : AV} : optM (some v) = (asN v).map some := rfl
def fillO : Option AV → Option (List AV)
 | some v => match v.cells with
  | some l => bif Nat.beq l.length 1 then some l else none
  | none => none
 | none => none
theorem fillO_val {v : Value} : fillO (some (.val v)) = some [.val v] := rfl
theorem fill_one {x : Opd} {z : AV} : fill s [z] [(0, 1, x)] = fillO (s.eval x) := by
 simp only [fill, fillO]
 cases s.eval x with
 | none => rfl
 | some v =>
  show (match v.cells with | some l => bif Nat.beq l.length 1 && Nat.ble (0 + 1) [z].length then some (putAt [z] 0 l) else none | none => none) = (match v.cells with | some l => bif Nat.beq l.length 1 then some l else none | none => none)
  generalize v.cells = o
  cases o with
  | none => rfl
  | some l =>
   have h1 : Nat.ble (0 + 1) [z].length = true := rfl
   simp only [h1, Bool.and_true]
   cases hb : Nat.beq l.length 1 with
   | false => rfl
   | true =>
    have hl := Nat.eq_of_beq_eq_true hb
    simp only [cond_true, putAt, List.take_zero, List.nil_append, Nat.zero_add, hl]
    simp
theorem take_hd {v : AV} {l : List AV} : takeN none (v :: l) = some v := rfl
end Go.AM

namespace Go.AM
variable {E : Env} {s : St} {K : St → Prop} {r : List DOp} {done : List DRec}
theorem seenB {l F : List Nat} {t : Nat} (h : t ∈ l) : (seen s l F).tm.get t = s.tm.get t := by
 simp only [seen, pickTm_get, if_pos h]
end Go.AM

namespace Go.AM
variable {E : Env} {s : St} {K : St → Prop}
def niceV (h : AH) (v : AV) : Bool := (ids v).all fun b => Nat.blt b h.next && match h.get b with
 | some (.cells cs _) => below h.next (idsL cs)
 | _ => false
def niceT (h : AH) : Option AV → Bool
 | some v => niceV h v
 | none => true
def plainT : Option AV → Bool
 | some v => (ids v).isEmpty
 | none => true
def opdIn (l : List Nat) : Opd → Bool
 | .t i => memN l i
 | .c v => (ids v).isEmpty
def optIn (l : List Nat) : Option Opd → Bool
 | none => true
 | some x => opdIn l x
def calmOp (l : List Nat) : AOp → Bool
 | .mv x | .nilck x | .un _ x | .conv _ x | .strOfBytes x | .fieldAddr _ x | .extract _ x | .lenS x | .lenStr x => opdIn l x
 | .load _ (.t i) => memN l i
 | .pick a b c => opdIn l a && opdIn l b && opdIn l c
 | .bin _ _ _ x y | .idxAddrS _ x y | .idxStr x y => opdIn l x && opdIn l y
 | .build _ ps => ps.all fun p => opdIn l p.2.2
 | .sliceS _ x a b c => opdIn l x && optIn l a && optIn l b && optIn l c
 | _ => false
def guardIn (l : List Nat) : Option (Nat × Bool) → Bool
 | none => true
 | some (i, _) => memN l i
def calmD (d : DOp) : Bool := guardIn d.reads d.o.guard && match d.o.op with
 | .call _ l => l.all (opdIn d.reads)
 | op => calmOp d.reads op
def calmAt : Nat → List DOp → Bool
 | _, [] => true
 | i, d :: r => d.free.all (fun j => Nat.blt j i) && calmD d && calmAt (i + 1) r
def wpDr (E : Env) : List DOp → St → (St → Prop) → Prop
 | [], s, K => K s
 | ⟨⟨dst, g, op⟩, rd, _⟩ :: r, s, K => (rd.all fun t => niceT s.h (s.eval (.t t))) = true ∧ guardTo s g
   (match op with
   | .call f l => (rd.all fun t => plainT (s.eval (.t t))) = true ∧ withV (evalAll s l) fun l => ∃ v, (∀ h, RunCall E (.f f) l h v h) ∧ wpDr E r (s.put dst v) K
   | op => wpOps E [⟨dst, none, op⟩] s fun s' => wpDr E r s' K)
   (wpDr E r (s.put dst undefA) K)
theorem memN_mem : ∀ {l : List Nat} {i : Nat}, memN l i = true → i ∈ l
 | a :: r, i, h => by
  simp only [memN, List.any_cons, Bool.or_eq_true] at h
  rcases h with h | h
  ·rw [Nat.eq_of_beq_eq_true h]; exact List.mem_cons_self
  ·exact List.mem_cons_of_mem _ (memN_mem h)
theorem seen_eval {l F : List Nat} {x : Opd} (h : opdIn l x = true) : (seen s l F).eval x = s.eval x := by
 cases x with
 | c v => rfl
 | t i => exact seenB (memN_mem h)
theorem seen_opt {l F : List Nat} {x : Option Opd} (h : optIn l x = true) : optN (seen s l F) x = optN s x := by
 cases x with
 | none => rfl
 | some x => simp only [optN, seen_eval h]
theorem seen_all {l F : List Nat} : ∀ {xs : List Opd}, xs.all (opdIn l) = true → evalAll (seen s l F) xs = evalAll s xs
 | [], _ => rfl
 | x :: r, h => by
  simp only [List.all_cons, Bool.and_eq_true] at h
  simp only [evalAll, seen_eval h.1, seen_all h.2]
theorem seen_fill {l F : List Nat} : ∀ {ps : List (Nat × Nat × Opd)} {z : List AV}, (ps.all fun p => opdIn l p.2.2) = true → fill (seen s l F) z ps = fill s z ps
 | [], _, _ => rfl
 | (a, b, x) :: r, z, h => by
  simp only [List.all_cons, Bool.and_eq_true] at h
  simp only [fill, seen_eval h.1]
  cases s.eval x with
  | none => rfl
  | some v =>
   simp only
   cases v.cells with
   | none => rfl
   | some c =>
    simp only
    cases (Nat.beq c.length b && Nat.ble (a + b) z.length) with
    | false => rfl
    | true => exact seen_fill h.2
theorem seen_wanted {l F : List Nat} {g : Option (Nat × Bool)} (h : guardIn l g = true) : wantedA (seen s l F) g = wantedA s g := by
 cases g with
 | none => rfl
 | some p =>
  obtain ⟨i, b⟩ := p
  have := seenB (s := s) (F := F) (memN_mem h)
  simp only [wantedA, this]
theorem mem_put {α : Type} {x : α} : ∀ {t : Tr α} {k : Nat}, t.get k = some x → x ∈ t.vals
 | .nil, k, h => by cases h
 | .nd l v r, k, h => by
  simp only [Tr.vals, List.mem_append]
  simp only [Tr.get] at h
  cases hb : Nat.beq k 0 with
  | true =>
   rw [hb] at h
   simp only [cond_true] at h
   rw [h]
   exact .inl (List.mem_singleton.2 rfl)
  | false =>
   rw [hb] at h
   simp only [cond_false] at h
   cases hc : Nat.beq (k % 2) 1 with
   | true =>
    rw [hc] at h
    exact .inr (.inl (mem_put h))
   | false =>
    rw [hc] at h
    exact .inr (.inr (mem_put h))
theorem ids_sub {l : List AV} {v : AV} (h : v ∈ l) : ∀ b ∈ ids v, b ∈ idsL l := by
 induction l with
 | nil => cases h
 | cons a r ih =>
  intro b hb
  simp only [idsL, List.mem_append]
  rcases List.mem_cons.1 h with rfl | h
  ·exact .inl hb
  ·exact .inr (ih h b hb)
theorem idsL_in {l : List AV} {b : Nat} (h : b ∈ idsL l) : ∃ v ∈ l, b ∈ ids v := by
 induction l with
 | nil => cases h
 | cons a r ih =>
  simp only [idsL, List.mem_append] at h
  rcases h with h | h
  ·exact ⟨a, List.mem_cons_self, h⟩
  ·obtain ⟨v, hv, hb⟩ := ih h
   exact ⟨v, List.mem_cons_of_mem _ hv, hb⟩
theorem restrict_in {h : AH} {b : Nat} : ∀ {l : List Nat}, b ∈ l → (restrictH h l).get b = h.get b
 | a :: r, hb => by
  simp only [restrictH, restrictT, AH.get, Tr.get_put]
  by_cases e : b = a
  ·rw [if_pos e, e]
  ·rw [if_neg e]
   exact restrict_in (h := h) (List.mem_of_ne_of_mem e hb)
def footed : AOp → Bool
 | .load .. | .strOfBytes _ | .lenS _ | .lenStr _ | .conv .. | .idxStr .. | .sliceS .. => true
 | _ => false
def theFoot (op : AOp) (vs : List Nat) : List Nat := bif footed op then vs else []
theorem foot_calm {l vs : List Nat} {op : AOp} {s' : St} (h : calmOp l op = true) : foot s' vs op = theFoot op vs := by
 cases op <;> first | rfl | (simp only [calmOp, Bool.false_eq_true] at h)
theorem turned_calm {l : List Nat} {op : AOp} {s' : St} (h : calmOp l op = true) : turned s' op = [] := by
 cases op <;> first | rfl | (simp only [calmOp, Bool.false_eq_true] at h)
theorem call_calm {l : List Nat} {op : AOp} (h : calmOp l op = true) : isCall op = false := by
 cases op <;> first | rfl | (simp only [calmOp, Bool.false_eq_true] at h)
theorem cells_seen {l : List Nat} {i : Nat} {v : AV} {G : Nat → Option (List AV)} (hi : i ∈ l) (hv : s.eval (.t i) = some v) : cellsFrom G (restrictH s.h (idsL (pickTm s.tm l).vals)) v = cellsFrom G s.h v := by
 have hp : (pickTm s.tm l).get i = some v := by rw [pickTm_get, if_pos hi]; exact hv
 have hm : v ∈ (pickTm s.tm l).vals := mem_put hp
 cases v with
 | ptr b off =>
  have : b ∈ idsL (pickTm s.tm l).vals := ids_sub hm b (by simp only [ids, List.mem_singleton])
  simp only [cellsFrom, restrict_in this]
 | val x =>
  cases x with
  | pointer p =>
   cases p with
   | none => rfl
   | some a =>
    obtain ⟨g, o, sp⟩ := a
    cases sp <;> rfl
  | _ => rfl
 | _ => rfl
theorem elems_seen {l : List Nat} {x : Opd} {v : AV} {es : Nat} (hi : opdIn l x = true) (hv : s.eval x = some v) : elemsOf (restrictH s.h (idsL (pickTm s.tm l).vals)) es v = elemsOf s.h es v := by
 cases v with
 | own b off n es' cap =>
  have : b ∈ idsL (pickTm s.tm l).vals := by
   cases x with
   | c w =>
    cases hv
    simp only [opdIn, ids, List.isEmpty_cons, Bool.false_eq_true] at hi
   | t i =>
    have hp : (pickTm s.tm l).get i = some (.own b off n es' cap) := by rw [pickTm_get, if_pos (memN_mem hi)]; exact hv
    exact ids_sub (mem_put hp) b (by simp only [ids, List.mem_singleton])
  simp only [elemsOf, restrict_in this]
 | val x =>
  cases x with
  | slice p a b =>
   cases p with
   | some p => rfl
   | none => cases a <;> cases b <;> rfl
  | _ => rfl
 | _ => rfl
def nilckV (E : Env) : AV → Option AV
 | .val (.pointer none) | .val .nilIface | .val .nilFunc | .val (.func ..) => none
 | .fn (.method name) (.ifc t v :: a) b => match E.meth t name with
  | some _ => some (.fn (.method name) (.ifc t v :: a) b)
  | none => none
 | .fn (.method _) _ _ => none
 | .yld _ => none
 | v => some v
theorem nilck_eq {x : Opd} {call : Cle → List AV → AH → Option (AV × AH)} : runOp E call s (.nilck x) = (s.eval x).bind fun v => (nilckV E v).map fun w => (w, s) := by
 simp only [runOp]
 cases s.eval x with
 | none => rfl
 | some v =>
  simp only [Option.bind_some]
  cases v with
  | val y =>
   cases y with
   | pointer p => cases p <;> rfl
   | _ => rfl
  | fn f a b =>
   cases f with
   | method nm =>
    cases a with
    | nil => rfl
    | cons c a =>
     cases c with
     | ifc t v =>
      simp only [nilckV]
      cases E.meth t nm <;> rfl
     | _ => rfl
   | _ => rfl
  | _ => rfl
def strB (h : AH) : AV → Option AV
 | .val (.slice none 0 0) => some (.val (.string ⟨#[]⟩))
 | .val _ => none
 | v => match elemsOf h 1 v with
  | some (cs, _) => (bytesOf cs).map fun b => .val (.string b)
  | none => none
theorem strB_eq {x : Opd} {call : Cle → List AV → AH → Option (AV × AH)} : runOp E call s (.strOfBytes x) = (s.eval x).bind fun v => (strB s.h v).map fun w => (w, s) := by
 have key : ∀ v : AV, (match elemsOf s.h 1 v with | some (cs, _) => (bytesOf cs).bind fun b => some ((.val (.string b) : AV), s) | none => none) = (match elemsOf s.h 1 v with | some (cs, _) => (bytesOf cs).map fun b => (.val (.string b) : AV) | none => none).map fun w => (w, s) := by
  intro v
  cases elemsOf s.h 1 v with
  | none => rfl
  | some p =>
   obtain ⟨cs, n⟩ := p
   simp only
   cases bytesOf cs <;> rfl
 simp only [runOp]
 cases s.eval x with
 | none => rfl
 | some v =>
  simp only [Option.bind_some]
  have k := key v
  cases v with
  | val y =>
   cases y with
   | slice p a b =>
    cases p with
    | some p => rfl
    | none => cases a <;> cases b <;> rfl
   | _ => rfl
  | _ => exact k
theorem calm_run {l : List Nat} {op : AOp} {v : AV} {s1 : St} (hc : calmOp l op = true) (h : runOp E noCall s op = some (v, s1)) :
  s1 = s ∧ runOp E noCall (seen s l (theFoot op (idsL (pickTm s.tm l).vals))) op = some (v, seen s l (theFoot op (idsL (pickTm s.tm l).vals))) := by
 cases op with
 | mv x =>
  simp only [calmOp] at hc
  simp only [runOp, seen_eval hc] at h ⊢
  cases he : s.eval x with
  | none => rw [he] at h; cases h
  | some w =>
   rw [he] at h
   simp only [Option.bind_some, Option.some.injEq, Prod.mk.injEq] at h ⊢
   exact ⟨h.2.symm, h.1, (by first | trivial | rfl)⟩
 | pick a b c =>
  simp only [calmOp, Bool.and_eq_true] at hc
  simp only [runOp, seen_eval hc.1.1, seen_eval hc.1.2, seen_eval hc.2] at h ⊢
  split at h
  ·cases he : s.eval b with
   | none => rw [he] at h; cases h
   | some w =>
    rw [he] at h
    simp only [Option.bind_some, Option.some.injEq, Prod.mk.injEq] at h ⊢
    exact ⟨h.2.symm, h.1, (by first | trivial | rfl)⟩
  ·cases he : s.eval c with
   | none => rw [he] at h; cases h
   | some w =>
    rw [he] at h
    simp only [Option.bind_some, Option.some.injEq, Prod.mk.injEq] at h ⊢
    exact ⟨h.2.symm, h.1, (by first | trivial | rfl)⟩
  ·cases h
 | build z ps =>
  simp only [calmOp] at hc
  simp only [runOp, seen_fill hc] at h ⊢
  cases he : fill s z ps with
  | none => rw [he] at h; cases h
  | some w =>
   rw [he] at h
   simp only [Option.bind_some, Option.some.injEq, Prod.mk.injEq] at h ⊢
   exact ⟨h.2.symm, h.1, (by first | trivial | rfl)⟩
 | load n x =>
  cases x with
  | c w => simp only [calmOp, Bool.false_eq_true] at hc
  | t i =>
   simp only [calmOp] at hc
   have hev : (seen s l (theFoot (.load n (.t i)) (idsL (pickTm s.tm l).vals))).eval (.t i) = s.eval (.t i) := seen_eval hc
   simp only [runOp, hev] at h ⊢
   cases he : s.eval (.t i) with
   | none => rw [he] at h; cases h
   | some w =>
    rw [he] at h
    have hcs : cellsFrom E.globs (seen s l (theFoot (.load n (.t i)) (idsL (pickTm s.tm l).vals))).h w = cellsFrom E.globs s.h w := cells_seen (memN_mem hc) he
    simp only [hcs]
    simp only at h
    cases hx : (cellsFrom E.globs s.h w).bind (takeN n) with
    | none => rw [hx] at h; cases h
    | some y =>
     rw [hx] at h
     simp only [Option.bind_some, Option.some.injEq, Prod.mk.injEq] at h ⊢
     exact ⟨h.2.symm, h.1, (by first | trivial | rfl)⟩
 | nilck x =>
  simp only [calmOp] at hc
  simp only [nilck_eq, seen_eval hc] at h ⊢
  cases he : s.eval x with
  | none => rw [he] at h; cases h
  | some w =>
   rw [he] at h
   simp only [Option.bind_some] at h ⊢
   cases hn : nilckV E w with
   | none => rw [hn] at h; cases h
   | some y =>
    rw [hn] at h
    simp only [Option.map_some, Option.some.injEq, Prod.mk.injEq] at h ⊢
    exact ⟨h.2.symm, h.1, trivial⟩
 | bin op t g x y =>
  simp only [calmOp, Bool.and_eq_true] at hc
  simp only [runOp, seen_eval hc.1, seen_eval hc.2] at h ⊢
  split at h
  ·rename_i a b ha hb
   cases he : binA E.P op t g a b with
   | none => rw [he] at h; cases h
   | some w =>
    rw [he] at h
    simp only [Option.bind_some, Option.some.injEq, Prod.mk.injEq] at h
    simp only [ha, hb, he, Option.bind_some, Option.some.injEq, Prod.mk.injEq]
    exact ⟨h.2.symm, h.1, (by first | trivial | rfl)⟩
  ·cases h
 | un op x =>
  simp only [calmOp] at hc
  simp only [runOp, seen_eval hc] at h ⊢
  split at h
  ·rename_i a ha
   cases he : (evalPure E.P (Op.unary op a)).bind ofFlat with
   | none => rw [he] at h; cases h
   | some w =>
    rw [he] at h
    simp only [Option.bind_some, Option.some.injEq, Prod.mk.injEq] at h
    simp only [ha, he, Option.bind_some, Option.some.injEq, Prod.mk.injEq]
    exact ⟨h.2.symm, h.1, (by first | trivial | rfl)⟩
  ·cases h
 | conv k x =>
  simp only [calmOp] at hc
  have hev : (seen s l (theFoot (.conv k x) (idsL (pickTm s.tm l).vals))).eval x = s.eval x := seen_eval hc
  simp only [runOp, hev] at h ⊢
  split at h
  ·rename_i a b ha
   simp only [ha, Option.some.injEq, Prod.mk.injEq] at h ⊢
   exact ⟨h.2.symm, h.1, (by first | trivial | rfl)⟩
  ·cases h
 | strOfBytes x =>
  simp only [calmOp] at hc
  have hev : (seen s l (theFoot (.strOfBytes x) (idsL (pickTm s.tm l).vals))).eval x = s.eval x := seen_eval hc
  simp only [strB_eq, hev] at h ⊢
  cases he : s.eval x with
  | none => rw [he] at h; cases h
  | some w =>
   rw [he] at h
   have hcs : strB (seen s l (theFoot (.strOfBytes x) (idsL (pickTm s.tm l).vals))).h w = strB s.h w := by
    have := elems_seen (es := 1) hc he
    unfold strB
    split <;> first | rfl | skip
    have e2 : elemsOf (seen s l (theFoot (.strOfBytes x) (idsL (pickTm s.tm l).vals))).h 1 w = elemsOf s.h 1 w := this
    rw [e2]
   simp only [Option.bind_some, hcs] at h ⊢
   cases hn : strB s.h w with
   | none => rw [hn] at h; cases h
   | some y =>
    rw [hn] at h
    simp only [Option.map_some, Option.some.injEq, Prod.mk.injEq] at h ⊢
    exact ⟨h.2.symm, h.1, trivial⟩
 | sliceS es x lo hi mx =>
  simp only [calmOp, Bool.and_eq_true] at hc
  have h1 : (seen s l (theFoot (.sliceS es x lo hi mx) (idsL (pickTm s.tm l).vals))).eval x = s.eval x := seen_eval hc.1.1.1
  have h2 : optN (seen s l (theFoot (.sliceS es x lo hi mx) (idsL (pickTm s.tm l).vals))) lo = optN s lo := seen_opt hc.1.1.2
  have h3 : optN (seen s l (theFoot (.sliceS es x lo hi mx) (idsL (pickTm s.tm l).vals))) hi = optN s hi := seen_opt hc.1.2
  have h4 : optN (seen s l (theFoot (.sliceS es x lo hi mx) (idsL (pickTm s.tm l).vals))) mx = optN s mx := seen_opt hc.2
  simp only [runOp, h1, h2, h3, h4] at h ⊢
  split at h
  ·rename_i w a b c e1 e2 e3 e4
   cases he : sliceA' es w a b c with
   | none => rw [he] at h; cases h
   | some y =>
    rw [he] at h
    simp only [Option.bind_some, Option.some.injEq, Prod.mk.injEq] at h
    simp only [e1, e2, e3, e4, he, Option.bind_some, Option.some.injEq, Prod.mk.injEq]
    exact ⟨h.2.symm, h.1, (by first | trivial | rfl)⟩
  ·cases h
 | fieldAddr off x =>
  simp only [calmOp] at hc
  simp only [runOp, seen_eval hc] at h ⊢
  split at h
  ·rename_i b o he
   simp only [Option.some.injEq, Prod.mk.injEq] at h
   simp only [he, Option.some.injEq, Prod.mk.injEq]
   exact ⟨h.2.symm, h.1, (by first | trivial | rfl)⟩
  ·rename_i cs he
   cases hb : Nat.ble off cs.length with
   | false => rw [hb] at h; cases h
   | true =>
    rw [hb] at h
    simp only [cond_true, Option.some.injEq, Prod.mk.injEq] at h
    simp only [he, hb, cond_true, Option.some.injEq, Prod.mk.injEq]
    exact ⟨h.2.symm, h.1, (by first | trivial | rfl)⟩
  ·rename_i g o he
   simp only [Option.some.injEq, Prod.mk.injEq] at h
   simp only [he, Option.some.injEq, Prod.mk.injEq]
   exact ⟨h.2.symm, h.1, (by first | trivial | rfl)⟩
  ·cases h
 | idxAddrS es x i =>
  simp only [calmOp, Bool.and_eq_true] at hc
  simp only [runOp, seen_eval hc.1, seen_eval hc.2] at h ⊢
  split at h
  ·rename_i cs n cap j he hj
   cases hb : (Nat.blt j n && Nat.ble (j * es) cs.length) with
   | false => rw [hb] at h; cases h
   | true =>
    rw [hb] at h
    simp only [cond_true, Option.some.injEq, Prod.mk.injEq] at h
    simp only [he, hj, hb, cond_true, Option.some.injEq, Prod.mk.injEq]
    exact ⟨h.2.symm, h.1, (by first | trivial | rfl)⟩
  ·rename_i b off n es' cap j he hj
   cases hb : (Nat.blt j n && Nat.beq es es') with
   | false => rw [hb] at h; cases h
   | true =>
    rw [hb] at h
    simp only [cond_true, Option.some.injEq, Prod.mk.injEq] at h
    simp only [he, hj, hb, cond_true, Option.some.injEq, Prod.mk.injEq]
    exact ⟨h.2.symm, h.1, (by first | trivial | rfl)⟩
  ·cases h
 | idxStr x i =>
  simp only [calmOp, Bool.and_eq_true] at hc
  have h1 : (seen s l (theFoot (.idxStr x i) (idsL (pickTm s.tm l).vals))).eval x = s.eval x := seen_eval hc.1
  have h2 : (seen s l (theFoot (.idxStr x i) (idsL (pickTm s.tm l).vals))).eval i = s.eval i := seen_eval hc.2
  simp only [runOp, h1, h2] at h ⊢
  split at h
  ·rename_i b j he hj
   cases hb : b.data.toList[j]? with
   | none => rw [hb] at h; cases h
   | some c =>
    rw [hb] at h
    simp only [Option.some.injEq, Prod.mk.injEq] at h
    simp only [he, hj, hb, Option.some.injEq, Prod.mk.injEq]
    exact ⟨h.2.symm, h.1, (by first | trivial | rfl)⟩
  ·cases h
 | extract i x =>
  simp only [calmOp] at hc
  simp only [runOp, seen_eval hc] at h ⊢
  split at h
  ·rename_i vs he
   cases hb : vs[i]? with
   | none => rw [hb] at h; cases h
   | some c =>
    rw [hb] at h
    simp only [Option.bind_some, Option.some.injEq, Prod.mk.injEq] at h
    simp only [he, hb, Option.bind_some, Option.some.injEq, Prod.mk.injEq]
    exact ⟨h.2.symm, h.1, (by first | trivial | rfl)⟩
  ·cases h
 | lenS x =>
  simp only [calmOp] at hc
  have h1 : (seen s l (theFoot (.lenS x) (idsL (pickTm s.tm l).vals))).eval x = s.eval x := seen_eval hc
  simp only [runOp, h1] at h ⊢
  split at h <;> first | (cases h; done) | skip
  all_goals
   rename_i he
   simp only [Option.some.injEq, Prod.mk.injEq] at h
   simp only [he, Option.some.injEq, Prod.mk.injEq]
   exact ⟨h.2.symm, h.1, (by first | trivial | rfl)⟩
 | lenStr x =>
  simp only [calmOp] at hc
  have h1 : (seen s l (theFoot (.lenStr x) (idsL (pickTm s.tm l).vals))).eval x = s.eval x := seen_eval hc
  simp only [runOp, h1] at h ⊢
  split at h
  ·rename_i b he
   simp only [Option.some.injEq, Prod.mk.injEq] at h
   simp only [he, Option.some.injEq, Prod.mk.injEq]
   exact ⟨h.2.symm, h.1, (by first | trivial | rfl)⟩
  ·cases h
 | _ => simp only [calmOp, Bool.false_eq_true] at hc
theorem nice_all {h : AH} {l : List Nat} {tm : Tr AV} (hn : (l.all fun t => niceT h (tm.get t)) = true) : below h.next (idsL (pickTm tm l).vals) = true ∧ knownH h (idsL (pickTm tm l).vals) = true := by
 have key : ∀ b ∈ idsL (pickTm tm l).vals, Nat.blt b h.next = true ∧ ∃ cs rw, h.get b = some (.cells cs rw) ∧ below h.next (idsL cs) = true := by
  intro b hb
  obtain ⟨v, hv, hbv⟩ := idsL_in hb
  obtain ⟨k, hk⟩ := mem_vals hv
  rw [pickTm_get] at hk
  split at hk
  ·rename_i hkl
   have := List.all_eq_true.1 hn k hkl
   rw [hk] at this
   have := List.all_eq_true.1 this b hbv
   rw [Bool.and_eq_true] at this
   refine ⟨this.1, ?_⟩
   have h2 := this.2
   split at h2
   ·rename_i cs rw hg
    exact ⟨cs, rw, hg, h2⟩
   ·cases h2
  ·cases hk
 constructor
 ·exact List.all_eq_true.2 fun b hb => (key b hb).1
 ·refine List.all_eq_true.2 fun b hb => ?_
  obtain ⟨h1, cs, rw, h2, h3⟩ := key b hb
  simp only [h1, h2, idsB, h3, Bool.and_self]
theorem plain_all {l : List Nat} {tm : Tr AV} (hn : (l.all fun t => plainT (tm.get t)) = true) : idsL (pickTm tm l).vals = [] := by
 refine flat_ids fun v hv => ?_
 obtain ⟨k, hk⟩ := mem_vals hv
 rw [pickTm_get] at hk
 split at hk
 ·rename_i hkl
  have := List.all_eq_true.1 hn k hkl
  rw [hk] at this
  exact List.isEmpty_iff.1 this
 ·cases hk
theorem calm_step {d : DOp} {near : List Nat} {v : AV} (hc : calmOp d.reads d.o.op = true) (hg : guardIn d.reads d.o.guard = true) (hw : wantedA s d.o.guard = some true)
  (hn : (d.reads.all fun t => niceT s.h (s.tm.get t)) = true) (ho : runOp E noCall s d.o.op = some (v, s)) :
  Ev fun n => stepDraw E (callA E (exec E n)) d near s = some (v, ⟨theFoot d.o.op (idsL (pickTm s.tm d.reads).vals), [], s.h.next, s.h.next⟩, s.h) := by
 refine Ev.of fun n => ?_
 obtain ⟨n1, n2⟩ := nice_all hn
 have hr := runOp_noCall (call := callA E (exec E n)) (calm_run hc ho).2
 have hk : knownH s.h (theFoot d.o.op (idsL (pickTm s.tm d.reads).vals)) = true := by
  unfold theFoot
  cases footed d.o.op with
  | true => exact n2
  | false => rfl
 have hw' : wantedA { tm := pickTm s.tm d.reads, h := s.h, defers := [], round := s.round } d.o.guard = some true := by
  rw [← hw]
  exact seen_wanted (s := s) (F := []) hg ▸ (by cases d.o.guard <;> rfl)
 have hb : Nat.ble s.h.next s.h.next = true := Nat.ble_eq.mpr (Nat.le_refl _)
 have hm := merge_same (h := s.h) (l := theFoot d.o.op (idsL (pickTm s.tm d.reads).vals))
 simp only [stepDraw, hw', foot_calm hc, n1, hk, Bool.and_self, cond_true]
 simp only [seen] at hr
 rw [hr]
 simp only [call_calm hc, cond_false, turned_calm hc, List.isEmpty_nil, hm]
 simp only [restrictH, hb, below, List.all_nil, Bool.and_self, cond_true]
theorem call_step {d : DOp} {near : List Nat} {v : AV} {f : Nat} {xs : List Opd} {l : List AV} (hop : d.o.op = .call f xs) (hx : xs.all (opdIn d.reads) = true) (hg : guardIn d.reads d.o.guard = true) (hw : wantedA s d.o.guard = some true)
  (hn : (d.reads.all fun t => plainT (s.tm.get t)) = true) (he : evalAll s xs = some l) (hr : ∀ h, RunCall E (.f f) l h v h) :
  Ev fun n => stepDraw E (callA E (exec E n)) d near s = some (v, ⟨[], [], s.h.next, s.h.next⟩, s.h) := by
 have hv := plain_all hn
 refine (hr (restrictH s.h [])).mono fun n p => ?_
 have hw' : wantedA { tm := pickTm s.tm d.reads, h := s.h, defers := [], round := s.round } d.o.guard = some true := by
  rw [← hw]
  exact seen_wanted (s := s) (F := []) hg ▸ (by cases d.o.guard <;> rfl)
 have he' : evalAll { tm := pickTm s.tm d.reads, h := restrictH s.h [], defers := [], round := s.round } xs = some l := by
  rw [← he]
  exact seen_all (s := s) (F := []) hx
 have hb : Nat.ble s.h.next s.h.next = true := Nat.ble_eq.mpr (Nat.le_refl _)
 have hm := merge_same (h := s.h) (l := [])
 have hfo : foot { tm := pickTm s.tm d.reads, h := s.h, defers := [], round := s.round } [] (.call f xs) = [] := rfl
 simp only [stepDraw, hw', hv, hop, hfo, below, knownH, List.all_nil, Bool.and_self, cond_true, runOp, he', p, Option.bind_some, isCall, List.filter_nil, List.isEmpty_nil, hm]
 simp only [restrictH, hb, Bool.and_self, cond_true]
theorem skip_step {d : DOp} {near : List Nat} (hg : guardIn d.reads d.o.guard = true) (hw : wantedA s d.o.guard = some false) :
  Ev fun n => stepDraw E (callA E (exec E n)) d near s = some (undefA, ⟨[], [], s.h.next, s.h.next⟩, s.h) := by
 refine Ev.of fun n => ?_
 have hw' : wantedA { tm := pickTm s.tm d.reads, h := s.h, defers := [], round := s.round } d.o.guard = some false := by
  rw [← hw]
  exact seen_wanted (s := s) (F := []) hg ▸ (by cases d.o.guard <;> rfl)
 simp only [stepDraw, hw']
theorem calm_draw : ∀ (ops : List DOp) (done : List DRec) (s : St), calmAt done.length ops = true → (∀ x ∈ done, Quiet x) → wpDr E ops s K → DrawTo E ops done s K
 | [], done, s, _, _, h => draw_nil h
 | ⟨⟨dst, g, op⟩, rd, fr⟩ :: r, done, s, hc, hq, h => by
  simp only [calmAt, Bool.and_eq_true] at hc
  obtain ⟨⟨hfr, hcd⟩, hcr⟩ := hc
  have hf : ∀ i ∈ fr, i < done.length := fun i hi => Nat.blt_eq.mp (List.all_eq_true.1 hfr i hi)
  have nx : ∀ (rec : DRec) (s' : St), Quiet rec → wpDr E r s' K → DrawTo E r (done ++ [rec]) s' K := fun rec s' hqr hw =>
   calm_draw r (done ++ [rec]) s' (by rw [List.length_append]; exact hcr) (fun x hx => by
    rcases List.mem_append.1 hx with hx | hx
    ·exact hq x hx
    ·rw [List.mem_singleton.1 hx]; exact hqr) hw
  simp only [wpDr] at h
  obtain ⟨hnice, h⟩ := h
  simp only [calmD, Bool.and_eq_true] at hcd
  obtain ⟨hg, hop⟩ := hcd
  simp only [guardTo] at h
  cases hw : wantedA s g with
  | none => rw [hw] at h; exact h.elim
  | some b =>
   rw [hw] at h
   simp only [withV_some] at h
   cases b with
   | false => exact draw_cons (d := ⟨⟨dst, g, op⟩, rd, fr⟩) hq hf (skip_step hg hw) (nx _ _ ⟨rfl, rfl⟩ (h.2 rfl))
   | true =>
    have h1 := h.1 rfl
    clear h
    split at h1
    ·rename_i f xs
     obtain ⟨hp, h1⟩ := h1
     cases he : evalAll s xs with
     | none => rw [he] at h1; exact h1.elim
     | some l =>
      rw [he] at h1
      obtain ⟨v, hr, hk⟩ := h1
      exact draw_cons (d := ⟨⟨dst, g, .call f xs⟩, rd, fr⟩) hq hf (call_step rfl hop hg hw hp he hr) (nx _ _ ⟨rfl, rfl⟩ hk)
    ·rename_i hne
     have hop' : calmOp rd op = true := by
      split at hop
      ·exact absurd rfl (hne _ _)
      ·exact hop
     have hwo : wpOp E op s = fun K => withV (runOp E noCall s op) fun (v, s') => K v s' := by
      funext K
      cases op <;> first | rfl | (simp only [calmOp, Bool.false_eq_true] at hop')
     simp only [wpOps, wantedA, withV_some, forall_const, hwo] at h1
     have h1 := h1.1
     cases hr : runOp E noCall s op with
     | none => rw [hr] at h1; exact h1.elim
     | some vs =>
      obtain ⟨v, s1⟩ := vs
      rw [hr] at h1
      have hs := (calm_run hop' hr).1
      subst hs
      exact draw_cons (d := ⟨⟨dst, g, op⟩, rd, fr⟩) hq hf (calm_step (d := ⟨⟨dst, g, op⟩, rd, fr⟩) hop' hg hw hnice hr) (nx _ _ ⟨rfl, rfl⟩ h1)
theorem run_calm {ops : List DOp} {Q : Ex → St → Prop} (hc : calmAt 0 ops = true) (h : wpDr E ops s (Q .normal)) : Run E (.draw ops) s Q :=
 run_draw (calm_draw ops [] s hc (fun x hx => by cases hx) h)
end Go.AM

namespace Go.AM
variable {E : Env} {s : St} {K : St → Prop} {r : List AOper} {dst : Option Nat}
theorem kneq (k : IntKind) : (k ≠ k) = False := by simp
theorem v_and {P : Program} {t : TypeId} {g : Bool} {k : IntKind} {a b : Int} : binA P .and t g (.val (.int k a)) (.val (.int k b)) = some (.val (.int k (k.wrap ((BitVec.ofInt k.bits a &&& BitVec.ofInt k.bits b).toNat : Nat)))) := by
 simp only [binA, binInt, binOp, kneq, if_false, Op.intBits]
 rfl
theorem v_or {P : Program} {t : TypeId} {g : Bool} {k : IntKind} {a b : Int} : binA P .or t g (.val (.int k a)) (.val (.int k b)) = some (.val (.int k (k.wrap ((BitVec.ofInt k.bits a ||| BitVec.ofInt k.bits b).toNat : Nat)))) := by
 simp only [binA, binInt, binOp, kneq, if_false, Op.intBits]
 rfl
theorem v_xor {P : Program} {t : TypeId} {g : Bool} {k : IntKind} {a b : Int} : binA P .xor t g (.val (.int k a)) (.val (.int k b)) = some (.val (.int k (k.wrap ((BitVec.ofInt k.bits a ^^^ BitVec.ofInt k.bits b).toNat : Nat)))) := by
 simp only [binA, binInt, binOp, kneq, if_false, Op.intBits]
 rfl
theorem v_shl {P : Program} {t : TypeId} {g : Bool} {k k' : IntKind} {a : Int} {n : Nat} (h : n ≤ k.bits) : binA P .shl t g (.val (.int k a)) (.val (.int k' n)) = some (.val (.int k (k.wrap (a * 2 ^ n)))) := by
 have h1 : ¬ ((n : Int) < 0) := by omega
 have h2 : min n k.bits = n := Nat.min_eq_left h
 simp only [binA, binInt, binOp, Op.shift, h1, if_false, Int.toNat_natCast, h2]
 rfl
theorem v_shr {P : Program} {t : TypeId} {g : Bool} {k k' : IntKind} {a : Int} {n : Nat} (h : n ≤ k.bits) : binA P .shr t g (.val (.int k a)) (.val (.int k' n)) = some (.val (.int k (a.fdiv (2 ^ n)))) := by
 have h1 : ¬ ((n : Int) < 0) := by omega
 have h2 : min n k.bits = n := Nat.min_eq_left h
 simp only [binA, binInt, binOp, Op.shift, h1, if_false, Int.toNat_natCast, h2]
 rfl
theorem v_rem {P : Program} {t : TypeId} {g : Bool} {k : IntKind} {a b : Int} (h : b ≠ 0) : binA P .rem t g (.val (.int k a)) (.val (.int k b)) = some (.val (.int k (a.tmod b))) := by
 have : (b == 0) = false := by simpa using h
 simp only [binA, binInt, this, cond_false, n_eqb, cond_true]
theorem wrap_u64 {n : Nat} (h : n < 2 ^ 64) : IntKind.u64.wrap (n : Int) = n := by
 simp [IntKind.wrap, IntKind.bits, IntKind.signed]
 omega
theorem wrap_u8 {n : Nat} (h : n < 2 ^ 8) : IntKind.u8.wrap (n : Int) = n := by
 simp [IntKind.wrap, IntKind.bits, IntKind.signed]
 omega
theorem wrap_u8_mod (n : Nat) : IntKind.u8.wrap (n : Int) = ((n % 2 ^ 8 : Nat) : Int) := by
 simp [IntKind.wrap, IntKind.bits, IntKind.signed]
theorem wrap_u32_mod (n : Nat) : IntKind.u32.wrap (n : Int) = ((n % 2 ^ 32 : Nat) : Int) := by
 simp [IntKind.wrap, IntKind.bits, IntKind.signed]
theorem ofInt_nat (w n : Nat) : BitVec.ofInt w (n : Int) = BitVec.ofNat w n := by simp
theorem and_u64 {a b : Nat} (ha : a < 2 ^ 64) (hb : b < 2 ^ 64) : IntKind.u64.wrap ((BitVec.ofInt IntKind.u64.bits (a : Int) &&& BitVec.ofInt IntKind.u64.bits (b : Int)).toNat : Nat) = ((a &&& b : Nat) : Int) := by
 rw [ofInt_nat, ofInt_nat, BitVec.toNat_and, BitVec.toNat_ofNat, BitVec.toNat_ofNat]
 have : IntKind.u64.bits = 64 := rfl
 rw [this, Nat.mod_eq_of_lt ha, Nat.mod_eq_of_lt hb, wrap_u64 (Nat.lt_of_le_of_lt Nat.and_le_left ha)]
theorem xor_u64 {a b : Nat} (ha : a < 2 ^ 64) (hb : b < 2 ^ 64) : IntKind.u64.wrap ((BitVec.ofInt IntKind.u64.bits (a : Int) ^^^ BitVec.ofInt IntKind.u64.bits (b : Int)).toNat : Nat) = ((a ^^^ b : Nat) : Int) := by
 rw [ofInt_nat, ofInt_nat, BitVec.toNat_xor, BitVec.toNat_ofNat, BitVec.toNat_ofNat]
 have : IntKind.u64.bits = 64 := rfl
 rw [this, Nat.mod_eq_of_lt ha, Nat.mod_eq_of_lt hb, wrap_u64 (Nat.xor_lt_two_pow ha hb)]
theorem or_u8 {a b : Nat} (ha : a < 2 ^ 8) (hb : b < 2 ^ 8) : IntKind.u8.wrap ((BitVec.ofInt IntKind.u8.bits (a : Int) ||| BitVec.ofInt IntKind.u8.bits (b : Int)).toNat : Nat) = ((a ||| b : Nat) : Int) := by
 rw [ofInt_nat, ofInt_nat, BitVec.toNat_or, BitVec.toNat_ofNat, BitVec.toNat_ofNat]
 have : IntKind.u8.bits = 8 := rfl
 rw [this, Nat.mod_eq_of_lt ha, Nat.mod_eq_of_lt hb, wrap_u8 (Nat.or_lt_two_pow ha hb)]
theorem xor_u32 {a b : Nat} (ha : a < 2 ^ 32) (hb : b < 2 ^ 32) : IntKind.u32.wrap ((BitVec.ofInt IntKind.u32.bits (a : Int) ^^^ BitVec.ofInt IntKind.u32.bits (b : Int)).toNat : Nat) = ((a ^^^ b : Nat) : Int) := by
 rw [ofInt_nat, ofInt_nat, BitVec.toNat_xor, BitVec.toNat_ofNat, BitVec.toNat_ofNat]
 have : IntKind.u32.bits = 32 := rfl
 rw [this, Nat.mod_eq_of_lt ha, Nat.mod_eq_of_lt hb, wrap_u32_mod, Nat.mod_eq_of_lt (Nat.xor_lt_two_pow ha hb)]
def convV (k : IntKind) : AV → Option AV
 | .val (.int _ n) => some (.val (.int k (k.wrap n)))
 | _ => none
theorem v_conv {k k' : IntKind} {n : Int} : convV k (.val (.int k' n)) = some (.val (.int k (k.wrap n))) := rfl
theorem s_conv {k : IntKind} {x : Opd} : wpOps E (⟨dst, none, .conv k x⟩ :: r) s K = stepV E r s dst K ((s.eval x).bind (convV k)) := by
 rw [wpOps_v (o := (s.eval x).bind (convV k))]
 ·rfl
 ·simp only [runOp]
  cases s.eval x with
  | none => rfl
  | some v =>
   cases v with
   | val v => cases v <;> rfl
   | _ => rfl
 ·exact fun _ _ => rfl
theorem s_nilck {x : Opd} : wpOps E (⟨dst, none, .nilck x⟩ :: r) s K = stepV E r s dst K ((s.eval x).bind (nilckV E)) := by
 rw [wpOps_v (o := (s.eval x).bind (nilckV E))]
 ·rfl
 ·rw [nilck_eq]
  cases s.eval x <;> rfl
 ·exact fun _ _ => rfl
theorem v_nilck {b o : Nat} : nilckV E (.ptr b o) = some (.ptr b o) := rfl
theorem s_strB {x : Opd} : wpOps E (⟨dst, none, .strOfBytes x⟩ :: r) s K = stepV E r s dst K ((s.eval x).bind (strB s.h)) := by
 rw [wpOps_v (o := (s.eval x).bind (strB s.h))]
 ·rfl
 ·rw [strB_eq]
  cases s.eval x <;> rfl
 ·exact fun _ _ => rfl
def callvK (E : Env) (r : List AOper) (s : St) (dst : Option Nat) (K : St → Prop) : Option AV → Option (List AV) → Prop
 | some (.fn (.func f) a b), some l => callK E f r s dst K (some (a ++ l ++ b))
 | some (.yld b), some l => CallTo E (.y b) l s.h fun v h => wpOps E r ((s.toH h).put dst v) K
 | _, _ => False
theorem callvK_f {f : Nat} {a b l : List AV} : callvK E r s dst K (some (.fn (.func f) a b)) (some l) = callK E f r s dst K (some (a ++ l ++ b)) := rfl
theorem s_callv {x : Opd} {l : List Opd} : wpOps E (⟨dst, none, .callv x l⟩ :: r) s K = callvK E r s dst K (s.eval x) (evalAll s l) := by
 have hw : wpOps E (⟨dst, none, .callv x l⟩ :: r) s K = wpOp E (.callv x l) s fun v s' => wpOps E r ({ s' with round := s.round }.put dst v) K := by
  simp only [wpOps, wantedA, withV_some, forall_const, Bool.true_eq_false, false_implies, and_true]
 rw [hw]
 simp only [wpOp]
 cases hx : s.eval x with
 | none => rfl
 | some v =>
  cases v with
  | yld b =>
   simp only
   cases evalAll s l <;> rfl
  | fn f a b =>
   cases f with
   | func f =>
    simp only
    cases evalAll s l <;> rfl
   | _ => rfl
  | _ => rfl
theorem callK_of {f : Nat} {l : List AV} {P : AV → AH → Prop} (h : ∃ v h', RunCall E (.f f) l s.h v h' ∧ P v h') (k : ∀ v h', P v h' → wpOps E r ((s.toH h').put dst v) K) : callK E f r s dst K (some l) := by
 obtain ⟨v, h', a, b⟩ := h
 rw [callK_to a]
 exact k v h' b
def NoTag (h : AH) : Prop := ∀ b x t n, h.get b ≠ some (.tag x t n)
theorem NoTag.empty : NoTag .empty := fun b x t n h => by cases h
theorem NoTag.alloc {h : AH} {cs : List AV} {rw : Bool} (k : NoTag h) : NoTag (h.alloc (.cells cs rw)) := fun b x t n e => by
 rw [AH.get_alloc] at e
 split at e
 ·cases e
 ·exact k b x t n e
theorem NoTag.put {h : AH} {cs : List AV} {rw : Bool} {c : Nat} (k : NoTag h) : NoTag (h.put c (some (.cells cs rw))) := fun b x t n e => by
 rw [AH.get_put] at e
 split at e
 ·cases e
 ·exact k b x t n e
theorem NoTag.drop {h : AH} {c : Nat} (k : NoTag h) : NoTag (h.put c none) := fun b x t n e => by
 rw [AH.get_put] at e
 split at e
 ·cases e
 ·exact k b x t n e
theorem NoTag.at {h : AH} (k : NoTag h) (b : Nat) : tagOf h b = none := by
 unfold tagOf
 split
 ·rename_i x t n e
  exact absurd e (k _ _ _ _)
 ·rfl
def bytesA (l : List UInt8) : List AV := l.flatMap fun b => [.val (.int .u8 (b.toNat : Nat))]
theorem bytesA_len : ∀ l : List UInt8, (bytesA l).length = l.length
 | [] => rfl
 | a :: r => by
  have := bytesA_len r
  simp only [bytesA, List.flatMap_cons, List.length_append, List.length_cons, List.length_nil] at this ⊢
  omega
theorem bytesA_app (a b : List UInt8) : bytesA a ++ bytesA b = bytesA (a ++ b) := by simp only [bytesA, List.flatMap_append]
theorem bytesA_map : ∀ l : List UInt8, (l.map fun b => AV.val (.int .u8 (b.toNat : Nat))) = bytesA l
 | [] => rfl
 | a :: r => by
  have := bytesA_map r
  simp only [bytesA, List.map_cons, List.flatMap_cons, List.cons_append, List.nil_append] at this ⊢
  rw [this]
theorem bytesA_leaf (l : List UInt8) : ∀ v ∈ bytesA l, Leaf v := fun v hv => by
 simp only [bytesA, List.mem_flatMap, List.mem_singleton] at hv
 obtain ⟨b, _, rfl⟩ := hv
 exact Leaf.val _
theorem bytesA_ids : ∀ l : List UInt8, idsL (bytesA l) = []
 | [] => rfl
 | a :: r => by
  have := bytesA_ids r
  simp only [bytesA, List.flatMap_cons, List.cons_append, List.nil_append, idsL, ids] at this ⊢
  exact this
theorem bytesA_list : ∀ l : List UInt8, bytesList (bytesA l) = some l
 | [] => rfl
 | a :: r => by
  have := bytesA_list r
  simp only [bytesA, List.flatMap_cons, List.cons_append, List.nil_append, bytesList] at this ⊢
  rw [this]
  simp
theorem bytesA_of (l : List UInt8) : bytesOf (bytesA l) = some ⟨l.toArray⟩ := by simp only [bytesOf, bytesA_list, Option.map_some]
def appH (h : AH) (b : Nat) (cap : Option Nat) (cs : List AV) : AH := match cap with
 | some _ => h.alloc (.cells cs true)
 | none => (h.put b none).alloc (.cells cs true)
theorem appH_next {h : AH} {b : Nat} {cap : Option Nat} {cs : List AV} : (appH h b cap cs).next = h.next + 1 := by cases cap <;> rfl
theorem appH_new {h : AH} {b : Nat} {cap : Option Nat} {cs : List AV} : (appH h b cap cs).get h.next = some (.cells cs true) := by
 cases cap with
 | some c => simp only [appH, AH.get_alloc, if_true]
 | none =>
  have : (h.put b none).next = h.next := rfl
  simp only [appH, AH.get_alloc, this, if_true]
theorem appH_get {h : AH} {b : Nat} {cap : Option Nat} {cs : List AV} {x : Nat} (hx : x ≠ h.next) (hb : x ≠ b) : (appH h b cap cs).get x = h.get x := by
 cases cap with
 | some c => simp only [appH, AH.get_alloc, if_neg hx]
 | none =>
  have : (h.put b none).next = h.next := rfl
  simp only [appH, AH.get_alloc, this, if_neg hx, AH.get_put, if_neg hb]
theorem NoTag.app {h : AH} {b : Nat} {cap : Option Nat} {cs : List AV} (k : NoTag h) : NoTag (appH h b cap cs) := by
 cases cap with
 | some c => exact k.alloc
 | none => exact k.drop.alloc
theorem app_bytes {e b a c : Nat} {x : AV} {cap : Option Nat} {l new : List UInt8} (hn : NoTag s.h) (ha : s.eval (.t a) = some (.own b 0 l.length 1 cap)) (hx : s.eval (.t c) = some x)
  (he : elemsOf s.h 1 x = some (bytesA new, new.length)) (h0 : new ≠ []) (hc : cap = none ∨ cap = some l.length) (hb : s.h.get b = some (.cells (bytesA l) true)) (hl : l.length + new.length ≤ 2 ^ 40) :
  wpOps E (⟨dst, none, .appT e (.t a) (.t c)⟩ :: r) s K = wpOps E r ((s.toH (appH s.h b cap (bytesA (l ++ new)))).put dst (.own s.h.next 0 (l ++ new).length 1 none)) K := by
 have hpos : 0 < new.length := List.length_pos_iff.2 h0
 have z : Nat.beq new.length 0 = false := by
  cases hz : Nat.beq new.length 0 with
  | false => rfl
  | true =>
   have := Nat.eq_of_beq_eq_true hz
   omega
 have ok : okLen (l.length + new.length) 1 = true := by
  have : mostBytes = 2 ^ 40 := rfl
  simp only [okLen, Nat.mul_one, this, Bool.and_eq_true]
  exact ⟨Nat.ble_eq.mpr hl, Nat.ble_eq.mpr hl⟩
 have lb : Nat.ble (0 + l.length * 1) (bytesA l).length = true := Nat.ble_eq.mpr (by rw [bytesA_len]; omega)
 have eb : Nat.beq (0 + l.length * 1) (bytesA l).length = true := Nat.beq_eq.mpr (by rw [bytesA_len]; omega)
 have tk : (bytesA l).take (l.length * 1) = bytesA l := List.take_of_length_le (by rw [bytesA_len]; omega)
 have b11 : Nat.beq 1 1 = true := rfl
 have ht : appTyped s e (.t a) (.t c) = none := by
  simp only [appTyped, ha, hx, he, hn.at]
  cases cap with
  | some c => rfl
  | none =>
   simp only
   cases s.h.get b with
   | none => rfl
   | some k => cases k <;> rfl
 have hr : appendA s 1 1 (.t a) (.t c) = some (.own s.h.next 0 (l ++ new).length 1 none, s.toH (appH s.h b cap (bytesA (l ++ new)))) := by
  simp only [appendA, ha, hx, he, z, cond_false, hb, b11, lb, ok, Bool.and_self, cond_true, eb, List.drop_zero, tk, bytesA_app, List.length_append]
  rcases hc with rfl | rfl
  ·rfl
  ·have : Nat.ble (l.length + new.length) l.length = false := by
    cases hz : Nat.ble (l.length + new.length) l.length with
    | false => rfl
    | true =>
     have := Nat.le_of_ble_eq_true hz
     omega
   simp only [this, cond_false]
   rfl
 have hop : runOp E noCall s (.appT e (.t a) (.t c)) = some (.own s.h.next 0 (l ++ new).length 1 none, s.toH (appH s.h b cap (bytesA (l ++ new)))) := by
  simp only [runOp, ht, hr]
 rw [wpOps_vh (o := some (.own s.h.next 0 (l ++ new).length 1 none, appH s.h b cap (bytesA (l ++ new))))]
 ·rfl
 ·rw [hop]; rfl
 ·exact fun _ _ => rfl
theorem app_bytes' {e b a c : Nat} {x : AV} {cap : Option Nat} {l new : List UInt8} (h0 : new ≠ []) (hc : cap = none ∨ cap = some l.length) (hn : NoTag s.h) (hb : s.h.get b = some (.cells (bytesA l) true)) (hl : l.length + new.length ≤ 2 ^ 40)
  (he : elemsOf s.h 1 x = some (bytesA new, new.length)) (ha : s.eval (.t a) = some (.own b 0 l.length 1 cap)) (hx : s.eval (.t c) = some x)
  (k : wpOps E r ((s.toH (appH s.h b cap (bytesA (l ++ new)))).put dst (.own s.h.next 0 (l ++ new).length 1 none)) K) : wpOps E (⟨dst, none, .appT e (.t a) (.t c)⟩ :: r) s K := by
 rw [app_bytes hn ha hx he h0 hc hb hl]
 exact k
theorem app_nil {e b a c k : Nat} {x : AV} {cap : Option Nat} (hn : NoTag s.h) (ha : s.eval (.t a) = some (.own b 0 k 1 cap)) (hx : s.eval (.t c) = some x) (he : elemsOf s.h 1 x = some ([], 0)) :
  wpOps E (⟨dst, none, .appT e (.t a) (.t c)⟩ :: r) s K = wpOps E r (s.put dst (.own b 0 k 1 cap)) K := by
 have b00 : Nat.beq 0 0 = true := rfl
 have ht : appTyped s e (.t a) (.t c) = none := by
  simp only [appTyped, ha, hx, he, hn.at]
  cases cap with
  | some c => rfl
  | none =>
   simp only
   cases s.h.get b with
   | none => rfl
   | some k => cases k <;> rfl
 have hop : runOp E noCall s (.appT e (.t a) (.t c)) = some (.own b 0 k 1 cap, s) := by
  simp only [runOp, ht, appendA, ha, hx, he, b00, cond_true]
 rw [wpOps_v (o := some (.own b 0 k 1 cap))]
 ·rfl
 ·rw [hop]; rfl
 ·exact fun _ _ => rfl
end Go.AM

namespace Go.AM
variable {E : Env} {s : St} {K : St → Prop} {r : List AOper} {dst : Option Nat}
def Rep (h : AH) (lo hi : Nat) : Nat → AV → AV → Prop
 | 0, v, t => Leaf v ∧ t = v
 | n + 1, v, t => (Leaf v ∧ t = v) ∨
   (∃ b k es cap rw, ∃ ps : List (AV × AV), v = .own b 0 k es cap ∧ lo ≤ b ∧ b < hi ∧ h.get b = some (.cells (ps.map (·.1)) rw) ∧ ps.length = k * es ∧ t = .imm (ps.map (·.2)) k cap ∧ ∀ p ∈ ps, Rep h lo hi n p.1 p.2) ∨
   (∃ ps : List (AV × AV), v = .agg (ps.map (·.1)) ∧ t = .agg (ps.map (·.2)) ∧ ∀ p ∈ ps, Rep h lo hi n p.1 p.2) ∨
   (∃ ps : List (AV × AV), v = .tup (ps.map (·.1)) ∧ t = .tup (ps.map (·.2)) ∧ ∀ p ∈ ps, Rep h lo hi n p.1 p.2)
theorem Rep.leaf {h : AH} {lo hi n : Nat} {v : AV} (k : Leaf v) : Rep h lo hi n v v := by
 cases n with
 | zero => exact ⟨k, rfl⟩
 | succ n => exact .inl ⟨k, rfl⟩
theorem Rep.own {h : AH} {lo hi n b k es : Nat} {cap : Option Nat} {rw : Bool} {ps : List (AV × AV)} (h1 : lo ≤ b) (h2 : b < hi) (hg : h.get b = some (.cells (ps.map (·.1)) rw)) (hl : ps.length = k * es) (hp : ∀ p ∈ ps, Rep h lo hi n p.1 p.2) :
  Rep h lo hi (n + 1) (.own b 0 k es cap) (.imm (ps.map (·.2)) k cap) :=
 .inr (.inl ⟨b, k, es, cap, rw, ps, rfl, h1, h2, hg, hl, rfl, hp⟩)
theorem Rep.agg {h : AH} {lo hi n : Nat} {ps : List (AV × AV)} (hp : ∀ p ∈ ps, Rep h lo hi n p.1 p.2) : Rep h lo hi (n + 1) (.agg (ps.map (·.1))) (.agg (ps.map (·.2))) :=
 .inr (.inr (.inl ⟨ps, rfl, rfl, hp⟩))
theorem Rep.tup {h : AH} {lo hi n : Nat} {ps : List (AV × AV)} (hp : ∀ p ∈ ps, Rep h lo hi n p.1 p.2) : Rep h lo hi (n + 1) (.tup (ps.map (·.1))) (.tup (ps.map (·.2))) :=
 .inr (.inr (.inr ⟨ps, rfl, rfl, hp⟩))
theorem Rep.to {h h' : AH} {lo hi lo' hi' : Nat} (hl : lo' ≤ lo) (hh : hi ≤ hi') (hg : ∀ b, lo ≤ b → b < hi → ∀ cs rw, h.get b = some (.cells cs rw) → ∃ rw', h'.get b = some (.cells cs rw')) :
  ∀ {n m : Nat} {v t : AV}, n ≤ m → Rep h lo hi n v t → Rep h' lo' hi' m v t
 | 0, m, v, t, _, k => by
  obtain ⟨k, rfl⟩ := k
  exact Rep.leaf k
 | n + 1, 0, v, t, hm, k => by omega
 | n + 1, m + 1, v, t, hm, k => by
  rcases k with ⟨k, rfl⟩ | ⟨b, k, es, cap, rw, ps, rfl, h1, h2, g, hk, rfl, hp⟩ | ⟨ps, rfl, rfl, hp⟩ | ⟨ps, rfl, rfl, hp⟩
  ·exact Rep.leaf k
  ·obtain ⟨rw', g'⟩ := hg b h1 h2 _ _ g
   exact Rep.own (by omega) (by omega) g' hk fun p hm' => Rep.to hl hh hg (by omega) (hp p hm')
  ·exact Rep.agg fun p hm' => Rep.to hl hh hg (by omega) (hp p hm')
  ·exact Rep.tup fun p hm' => Rep.to hl hh hg (by omega) (hp p hm')
theorem Fz.cells {h h' : AH} (z : Fz h h') {b : Nat} {cs : List AV} {rw : Bool} (g : h.get b = some (.cells cs rw)) : ∃ rw', h'.get b = some (.cells cs rw') := by
 rcases z.2 b with e | ⟨cs', rw', e1, e2⟩
 ·exact ⟨rw, by rw [e, g]⟩
 ·rw [g] at e1
  cases e1
  exact ⟨false, e2⟩
theorem Rep.fz {h h' : AH} {lo hi n : Nat} {v t : AV} (z : Fz h h') (k : Rep h lo hi n v t) : Rep h' lo hi n v t :=
 Rep.to (Nat.le_refl _) (Nat.le_refl _) (fun b _ _ cs rw g => z.cells g) (Nat.le_refl _) k
end Go.AM

namespace Go.AM
variable {E : Env} {s : St} {K : St → Prop}
theorem Leaf.ids {v : AV} (k : Leaf v) : ids v = [] := by
 have k := k.1 .empty 0
 cases v with
 | val x => rfl
 | imm _ _ _ => rfl
 | iptr _ => rfl
 | agg cs =>
  cases cs with
  | nil => rfl
  | cons c r =>
   rw [toTree.eq_def] at k
   simp only [List.mapM_cons] at k
   rw [toTree.eq_def] at k
   simp at k
 | tup cs =>
  cases cs with
  | nil => rfl
  | cons c r =>
   rw [toTree.eq_def] at k
   simp only [List.mapM_cons] at k
   rw [toTree.eq_def] at k
   simp at k
 | own b off n es cap =>
  rw [toTree.eq_def] at k
  simp [AH.get, AH.empty, Tr.get] at k
 | ptr b off => rw [toTree.eq_def] at k; simp at k
 | mp b => rw [toTree.eq_def] at k; simp at k
 | it b => rw [toTree.eq_def] at k; simp at k
 | yld b => rw [toTree.eq_def] at k; simp at k
 | ifc t v =>
  rw [toTree.eq_def] at k
  simp only at k
  rw [toTree.eq_def] at k
  simp at k
 | fn f a b =>
  rw [toTree.eq_def] at k
  cases a with
  | cons c r =>
   simp only [List.mapM_cons] at k
   rw [toTree.eq_def] at k
   simp at k
  | nil =>
   cases b with
   | nil => rfl
   | cons c r =>
    simp only [List.mapM_cons, List.mapM_nil] at k
    rw [toTree.eq_def] at k
    simp at k
mutual
def cost : AV → Nat
 | .imm cs _ _ => costL cs + 1
 | .agg cs => costL cs
 | .tup cs => costL cs
 | _ => 0
def costL : List AV → Nat
 | [] => 0
 | c :: r => cost c + costL r
end
inductive Sees (h : AH) (lo hi : Nat) : Nat → Nat → Prop
 | mk {b c : Nat} {cs : List AV} {rw : Bool} (l : List (Nat × Nat)) (h1 : lo ≤ b) (h2 : b < hi) (g : h.get b = some (.cells cs rw)) (hd : idsL cs = l.map (·.1)) (hk : ∀ p ∈ l, Sees h lo hi p.1 p.2) (hc : (l.map (·.2)).sum + 1 ≤ c) : Sees h lo hi b c
theorem rep_sees {h : AH} {lo hi : Nat} : ∀ (n : Nat) (v t : AV), Rep h lo hi n v t → ∃ l : List (Nat × Nat), ids v = l.map (·.1) ∧ (∀ p ∈ l, Sees h lo hi p.1 p.2) ∧ (l.map (·.2)).sum ≤ cost t := by
 intro n
 induction n with
 | zero =>
  rintro v t ⟨k, rfl⟩
  exact ⟨[], by rw [k.ids]; rfl, fun p hp => (by cases hp), Nat.zero_le _⟩
 | succ n ih =>
  have ihL : ∀ ps : List (AV × AV), (∀ p ∈ ps, Rep h lo hi n p.1 p.2) → ∃ l : List (Nat × Nat), idsL (ps.map (·.1)) = l.map (·.1) ∧ (∀ p ∈ l, Sees h lo hi p.1 p.2) ∧ (l.map (·.2)).sum ≤ costL (ps.map (·.2)) := by
   intro ps
   induction ps with
   | nil => intro _; exact ⟨[], rfl, fun p hp => (by cases hp), Nat.zero_le _⟩
   | cons p ps ihp =>
    intro hp
    obtain ⟨l1, a1, a2, a3⟩ := ih p.1 p.2 (hp p List.mem_cons_self)
    obtain ⟨l2, b1, b2, b3⟩ := ihp fun q hq => hp q (List.mem_cons_of_mem _ hq)
    refine ⟨l1 ++ l2, ?_, ?_, ?_⟩
    ·simp only [List.map_cons, idsL, List.map_append, a1, b1]
    ·intro q hq
     rcases List.mem_append.1 hq with hq | hq
     ·exact a2 q hq
     ·exact b2 q hq
    ·simp only [List.map_append, List.sum_append, List.map_cons, costL]
     omega
  rintro v t (⟨k, rfl⟩ | ⟨b, k, es, cap, rw, ps, rfl, h1, h2, g, hk, rfl, hp⟩ | ⟨ps, rfl, rfl, hp⟩ | ⟨ps, rfl, rfl, hp⟩)
  ·exact ⟨[], by rw [k.ids]; rfl, fun p hp => (by cases hp), Nat.zero_le _⟩
  ·obtain ⟨l, a1, a2, a3⟩ := ihL ps hp
   refine ⟨[(b, (l.map (·.2)).sum + 1)], rfl, ?_, ?_⟩
   ·intro p hp
    rw [List.mem_singleton.1 hp]
    exact .mk l h1 h2 g a1 a2 (Nat.le_refl _)
   ·simp only [List.map_cons, List.map_nil, List.sum_cons, List.sum_nil, cost]
    omega
  ·obtain ⟨l, a1, a2, a3⟩ := ihL ps hp
   exact ⟨l, by simp only [ids, a1], a2, by simp only [cost]; exact a3⟩
  ·obtain ⟨l, a1, a2, a3⟩ := ihL ps hp
   exact ⟨l, by simp only [ids, a1], a2, by simp only [cost]; exact a3⟩
theorem copyOld_at {h' : AH} : ∀ (l : List Nat) (t : Tr Blk) (b : Nat), (copyOld h' l t).get b = if b ∈ l then h'.get b else t.get b
 | [], t, b => by simp [copyOld]
 | a :: r, t, b => by
  simp only [copyOld, Tr.get_put]
  by_cases e : b = a
  ·subst e
   rw [if_pos rfl, if_pos List.mem_cons_self]
  ·rw [if_neg e, copyOld_at r t b]
   by_cases m : b ∈ r
   ·rw [if_pos m, if_pos (List.mem_cons_of_mem _ m)]
   ·rw [if_neg m, if_neg (by simp [e, m])]
end Go.AM

namespace Go.AM
variable {E : Env} {s : St} {K : St → Prop}
theorem draw_next {d : DOp} {r : List DOp} {done : List DRec} {v : AV} {rec : DRec} {h : AH} (hf : freeOk done rec d.free = true)
  (hs : Ev fun n => stepDraw E (callA E (exec E n)) d (nearOf done d.free) s = some (v, rec, h)) (k : DrawTo E r (done ++ [rec]) ((s.toH h).put d.o.dst v) K) : DrawTo E (d :: r) done s K := by
 obtain ⟨s', x, y⟩ := k
 refine ⟨s', (hs.and x).mono fun n ⟨a, b⟩ => ?_, y⟩
 simp only [runDraw, a, hf, cond_true]
 cases hd : d.o.dst with
 | none => rw [hd] at b; exact b
 | some t => rw [hd] at b; exact b
theorem plain_nice {h : AH} {o : Option AV} (k : plainT o = true) : niceT h o = true := by
 cases o with
 | none => rfl
 | some v =>
  have : ids v = [] := List.isEmpty_iff.1 k
  simp only [niceT, niceV, this, List.all_nil]
end Go.AM

namespace Go.AM
variable {E : Env} {s : St} {K : St → Prop}
theorem g_none {A B : Prop} : guardTo s none A B = A := by
 simp only [guardTo, wantedA, withV_some, forall_const, Bool.true_eq_false, false_implies, and_true]
def gIf (o : Option Bool) (A B : Prop) : Prop := match o with
 | some true => A
 | some false => B
 | none => False
theorem gIf_t {A B : Prop} : gIf (some true) A B = A := rfl
theorem gIf_f {A B : Prop} : gIf (some false) A B = B := rfl
theorem g_some {t : Nat} {b : Bool} {A B : Prop} : guardTo s (some (t, b)) A B = gIf (wantedV (s.eval (.t t)) b) A B := by
 have e : wantedA s (some (t, b)) = wantedV (s.eval (.t t)) b := by
  show (match s.tm.get t with | some (.val (.bool c)) => some (c == b) | some (.tup []) => some false | _ => none) = _
  show _ = wantedV (s.tm.get t) b
  unfold wantedV
  rfl
 rw [guardTo, e]
 cases wantedV (s.eval (.t t)) b with
 | none => rfl
 | some g =>
  cases g with
  | true => simp only [withV_some, gIf, forall_const, Bool.true_eq_false, false_implies, and_true]
  | false => simp only [withV_some, gIf, forall_const, Bool.false_eq_true, false_implies, true_and]
theorem nice_val {h : AH} {v : Value} : niceT h (some (.val v)) = true := rfl
theorem nice_imm {h : AH} {l : List AV} {n : Nat} {c : Option Nat} : niceT h (some (.imm l n c)) = true := rfl
theorem nice_iptr {h : AH} {l : List AV} : niceT h (some (.iptr l)) = true := rfl
theorem nice_undef {h : AH} : niceT h (some undefA) = true := rfl
theorem nice_ptr {h : AH} {b o : Nat} {cs : List AV} {rw : Bool} (hb : b < h.next) (g : h.get b = some (.cells cs rw)) (hi : below h.next (idsL cs) = true) : niceT h (some (.ptr b o)) = true := by
 have : Nat.blt b h.next = true := Nat.blt_eq.mpr hb
 simp only [niceT, niceV, ids, List.all_cons, List.all_nil, this, g, hi, Bool.and_self]
theorem plain_val {v : Value} : plainT (some (.val v)) = true := rfl
theorem plain_imm {l : List AV} {n : Nat} {c : Option Nat} : plainT (some (.imm l n c)) = true := rfl
end Go.AM

namespace Go.AM
variable {E : Env} {s : St} {K : St → Prop}
def QuietB (n : Nat) (r : DRec) : Prop := Quiet r ∧ below n r.F = true
theorem foot_below {l : List Nat} {op : AOp} {tm : Tr AV} {h : AH} (hn : (l.all fun t => niceT h (tm.get t)) = true) : below h.next (theFoot op (idsL (pickTm tm l).vals)) = true := by
 unfold theFoot
 cases footed op with
 | true => exact (nice_all hn).1
 | false => rfl
theorem calm_preB {post : List DOp} : ∀ (pre : List DOp) (done : List DRec) (s : St), calmAt done.length pre = true → (∀ x ∈ done, QuietB s.h.next x) →
  wpDr E pre s (fun s' => s'.h = s.h → ∀ done' : List DRec, done'.length = done.length + pre.length → (∀ x ∈ done', QuietB s.h.next x) → DrawTo E post done' s' K) → DrawTo E (pre ++ post) done s K
 | [], done, s, _, hq, h => h rfl done (by simp) hq
 | ⟨⟨dst, g, op⟩, rd, fr⟩ :: r, done, s, hc, hq, h => by
  simp only [calmAt, Bool.and_eq_true] at hc
  obtain ⟨⟨hfr, hcd⟩, hcr⟩ := hc
  have hf : ∀ i ∈ fr, i < done.length := fun i hi => Nat.blt_eq.mp (List.all_eq_true.1 hfr i hi)
  have hq1 : ∀ x ∈ done, Quiet x := fun x hx => (hq x hx).1
  have hh : ∀ (dst : Option Nat) (v : AV), (s.put dst v).h = s.h := fun dst v => by cases dst <;> rfl
  have eK : ∀ (rec : DRec) (v : AV), (fun s' : St => s'.h = s.h → ∀ done' : List DRec, done'.length = done.length + (⟨⟨dst, g, op⟩, rd, fr⟩ :: r).length → (∀ x ∈ done', QuietB s.h.next x) → DrawTo E post done' s' K) = (fun s' : St => s'.h = (s.put dst v).h → ∀ done' : List DRec, done'.length = (done ++ [rec]).length + r.length → (∀ x ∈ done', QuietB (s.put dst v).h.next x) → DrawTo E post done' s' K) := fun rec v => by
   have : (done ++ [rec]).length + r.length = done.length + (⟨⟨dst, g, op⟩, rd, fr⟩ :: r).length := by
    rw [List.length_append, List.length_cons, List.length_cons, List.length_nil]
    omega
   rw [this, hh]
  have nx : ∀ (rec : DRec) (v : AV), QuietB s.h.next rec → wpDr E r (s.put dst v) (fun s' : St => s'.h = s.h → ∀ done' : List DRec, done'.length = done.length + (⟨⟨dst, g, op⟩, rd, fr⟩ :: r).length → (∀ x ∈ done', QuietB s.h.next x) → DrawTo E post done' s' K) → DrawTo E (r ++ post) (done ++ [rec]) (s.put dst v) K := fun rec v hqr hw => by
   rw [eK rec v] at hw
   exact calm_preB r (done ++ [rec]) (s.put dst v) (by rw [List.length_append]; exact hcr) (fun x hx => by
    rw [hh]
    rcases List.mem_append.1 hx with hx | hx
    ·exact hq x hx
    ·rw [List.mem_singleton.1 hx]; exact hqr) hw
  simp only [wpDr] at h
  obtain ⟨hnice, h⟩ := h
  simp only [calmD, Bool.and_eq_true] at hcd
  obtain ⟨hg, hop⟩ := hcd
  simp only [guardTo] at h
  cases hw : wantedA s g with
  | none => rw [hw] at h; exact h.elim
  | some b =>
   rw [hw] at h
   simp only [withV_some] at h
   cases b with
   | false => exact draw_cons (d := ⟨⟨dst, g, op⟩, rd, fr⟩) hq1 hf (skip_step hg hw) (nx _ _ ⟨⟨rfl, rfl⟩, rfl⟩ (h.2 rfl))
   | true =>
    have h1 := h.1 rfl
    clear h
    split at h1
    ·rename_i f xs
     obtain ⟨hp, h1⟩ := h1
     cases he : evalAll s xs with
     | none => rw [he] at h1; exact h1.elim
     | some l =>
      rw [he] at h1
      obtain ⟨v, hr, hk⟩ := h1
      exact draw_cons (d := ⟨⟨dst, g, .call f xs⟩, rd, fr⟩) hq1 hf (call_step rfl hop hg hw hp he hr) (nx _ _ ⟨⟨rfl, rfl⟩, rfl⟩ hk)
    ·rename_i hne
     have hop' : calmOp rd op = true := by
      split at hop
      ·exact absurd rfl (hne _ _)
      ·exact hop
     have hwo : wpOp E op s = fun K => withV (runOp E noCall s op) fun (v, s') => K v s' := by
      funext K
      cases op <;> first | rfl | (simp only [calmOp, Bool.false_eq_true] at hop')
     simp only [wpOps, wantedA, withV_some, forall_const, hwo] at h1
     have h1 := h1.1
     cases hr : runOp E noCall s op with
     | none => rw [hr] at h1; exact h1.elim
     | some vs =>
      obtain ⟨v, s1⟩ := vs
      rw [hr] at h1
      have hs := (calm_run hop' hr).1
      subst hs
      exact draw_cons (d := ⟨⟨dst, g, op⟩, rd, fr⟩) hq1 hf (calm_step (d := ⟨⟨dst, g, op⟩, rd, fr⟩) hop' hg hw hnice hr) (nx _ _ ⟨⟨rfl, rfl⟩, foot_below hnice⟩ h1)
theorem free_new {done : List DRec} {lo hi : Nat} : ∀ {l : List Nat}, (∀ i ∈ l, i < done.length) → freeOk done ⟨[], [], lo, hi⟩ l = true
 | [], _ => rfl
 | i :: r, h => by
  have hi := h i List.mem_cons_self
  simp only [freeOk, List.getElem?_eq_getElem hi, recApart, touches, List.any_nil, Bool.not_false, Bool.and_self, Bool.true_and]
  exact free_new fun j hj => h j (List.mem_cons_of_mem _ hj)
end Go.AM

namespace Go.AM
variable {E : Env} {s : St} {K : St → Prop} {rest : List DOp} {done : List DRec}
theorem mergeM {h F : AH} {D : List Nat} (hn : h.next ≤ F.next) (b : Nat) : (mergeH h D F).get b = if h.next ≤ b ∧ b < F.next then F.get b else if b ∈ D then F.get b else h.get b := by
 show (copyNew F h.next (F.next - h.next) (copyOld F D h.tr)).get b = _
 rw [copyNew_get, show h.next + (F.next - h.next) = F.next by omega, copyOld_at]
 rfl
theorem pickedM {l : List Nat} {i : Nat} {v : AV} (hi : i ∈ l) (he : s.eval (.t i) = some v) : (pickTm s.tm l).get i = some v := by rw [pickTm_get, if_pos hi]; exact he
theorem vals_in {l : List Nat} {x : Nat} (hx : x ∈ idsL (pickTm s.tm l).vals) : ∃ j ∈ l, ∃ v, s.eval (.t j) = some v ∧ x ∈ ids v := by
 obtain ⟨w, hw, hxw⟩ := idsL_in hx
 obtain ⟨j, hj⟩ := mem_vals hw
 rw [pickTm_get] at hj
 split at hj
 ·rename_i hm
  exact ⟨j, hm, w, hj, hxw⟩
 ·cases hj
def MildR (R : List Nat) (x : DRec) : Prop := ∀ r ∈ R, r ∉ x.D ∧ ¬(x.lo ≤ r ∧ r < x.hi)
theorem touch_mild {R F : List Nat} {x : DRec} (hm : MildR R x) (hF : ∀ b ∈ F, b ∈ R) : touches x F = false := by
 rw [touches, List.any_eq_false]
 intro b hb
 obtain ⟨h1, h2⟩ := hm b (hF b hb)
 have m1 : memN x.D b = false := by
  cases hq : memN x.D b with
  | false => rfl
  | true => exact absurd (memN_mem hq) h1
 have m2 : (Nat.ble x.lo b && Nat.blt b x.hi) = false := by
  cases hq : (Nat.ble x.lo b && Nat.blt b x.hi) with
  | false => rfl
  | true =>
   simp only [Bool.and_eq_true] at hq
   exact absurd ⟨Nat.le_of_ble_eq_true hq.1, Nat.blt_eq.mp hq.2⟩ h2
 rw [m1, m2]
 decide
theorem free_mild {R F : List Nat} {lo hi : Nat} (hq : ∀ x ∈ done, MildR R x) (hF : ∀ b ∈ F, b ∈ R) : ∀ {l : List Nat}, (∀ i ∈ l, i < done.length) → freeOk done ⟨F, [], lo, hi⟩ l = true
 | [], _ => rfl
 | i :: r, h => by
  have hi := h i List.mem_cons_self
  have t1 := touch_mild (hq _ (List.getElem_mem hi)) hF
  have t2 : touches done[i] [] = false := rfl
  simp only [freeOk, List.getElem?_eq_getElem hi, recApart, t1, t2, List.any_nil, Bool.not_false, Bool.and_self, Bool.true_and]
  exact free_mild hq hF fun j hj => h j (List.mem_cons_of_mem _ hj)
theorem free_at {R F : List Nat} {lo hi : Nat} (hF : ∀ b ∈ F, b ∈ R) : ∀ {l : List Nat}, (∀ i ∈ l, ∃ x, done[i]? = some x ∧ MildR R x) → freeOk done ⟨F, [], lo, hi⟩ l = true
 | [], _ => rfl
 | i :: r, h => by
  obtain ⟨x, hx, hm⟩ := h i List.mem_cons_self
  have t1 := touch_mild hm hF
  have t2 : touches x [] = false := rfl
  simp only [freeOk, hx, recApart, t1, t2, List.any_nil, Bool.not_false, Bool.and_self, Bool.true_and]
  exact free_at hF fun j hj => h j (List.mem_cons_of_mem _ hj)
def onlyT (R : List Nat) : Option AV → Bool
 | some v => (ids v).all (memN R)
 | none => true
def wpDm (E : Env) (R : List Nat) : List DOp → St → (St → Prop) → Prop
 | [], s, K => K s
 | ⟨⟨dst, g, op⟩, rd, _⟩ :: r, s, K => (rd.all fun t => niceT s.h (s.eval (.t t))) = true ∧ (!footed op || rd.all fun t => onlyT R (s.eval (.t t))) = true ∧ guardTo s g
   (match op with
   | .call f l => (rd.all fun t => plainT (s.eval (.t t))) = true ∧ withV (evalAll s l) fun l => ∃ v, (∀ h, RunCall E (.f f) l h v h) ∧ wpDm E R r (s.put dst v) K
   | op => wpOps E [⟨dst, none, op⟩] s fun s' => wpDm E R r s' K)
   (wpDm E R r (s.put dst undefA) K)
theorem mild_to {R : List Nat} {post : List DOp} {K1 : St → Prop} : ∀ (pre : List DOp) (done : List DRec) (s : St) (h0 : AH) (n0 : Nat), calmAt done.length pre = true → (∀ x ∈ done, MildR R x) → (∀ r ∈ R, r < s.h.next) → s.h = h0 → done.length + pre.length = n0 →
  wpDm E R pre s K1 → (∀ s', K1 s' → s'.h = h0 → ∀ done' : List DRec, done'.length = n0 → (∀ x ∈ done', MildR R x) → DrawTo E post done' s' K) → DrawTo E (pre ++ post) done s K
 | [], done, s, h0, n0, _, hq, _, e, en, h, hk => hk s h e done (by rw [← en]; rfl) hq
 | ⟨⟨dst, g, op⟩, rd, fr⟩ :: r, done, s, h0, n0, hc, hq, hR, e, en, h, hk => by
  simp only [calmAt, Bool.and_eq_true] at hc
  obtain ⟨⟨hfr, hcd⟩, hcr⟩ := hc
  simp only [calmD, Bool.and_eq_true] at hcd
  obtain ⟨hg, hop⟩ := hcd
  have hf : ∀ i ∈ fr, i < done.length := fun i hi => Nat.blt_eq.mp (List.all_eq_true.1 hfr i hi)
  have hh : ∀ (dst : Option Nat) (v : AV), (s.put dst v).h = s.h := fun dst v => by cases dst <;> rfl
  have nx : ∀ (rec : DRec) (v : AV), MildR R rec → wpDm E R r (s.put dst v) K1 → DrawTo E (r ++ post) (done ++ [rec]) (s.put dst v) K := fun rec v hqr hw =>
   mild_to r (done ++ [rec]) (s.put dst v) h0 n0 (by rw [List.length_append]; exact hcr) (fun x hx => by
    rcases List.mem_append.1 hx with hx | hx
    ·exact hq x hx
    ·rw [List.mem_singleton.1 hx]; exact hqr) (fun r hr => by rw [hh]; exact hR r hr) (by rw [hh]; exact e) (by
    rw [← en, List.length_append, List.length_cons, List.length_cons, List.length_nil]
    omega) hw hk
  have md : ∀ F, MildR R ⟨F, [], s.h.next, s.h.next⟩ := fun F r _ => ⟨(fun h => by cases h), (fun hab => by
   obtain ⟨h1, h2⟩ := hab
   simp only at h1 h2
   omega)⟩
  simp only [wpDm] at h
  obtain ⟨hnice, honly, h⟩ := h
  simp only [guardTo] at h
  cases hw : wantedA s g with
  | none => rw [hw] at h; exact h.elim
  | some b =>
   rw [hw] at h
   simp only [withV_some] at h
   cases b with
   | false => exact draw_next (d := ⟨⟨dst, g, op⟩, rd, fr⟩) (free_mild hq (fun b hb => by cases hb) hf) (skip_step hg hw) (nx _ _ (md _) (h.2 rfl))
   | true =>
    have h1 := h.1 rfl
    clear h
    split at h1
    ·rename_i f xs
     obtain ⟨hp, h1⟩ := h1
     cases he : evalAll s xs with
     | none => rw [he] at h1; exact h1.elim
     | some l =>
      rw [he] at h1
      obtain ⟨v, hr, hk1⟩ := h1
      exact draw_next (d := ⟨⟨dst, g, .call f xs⟩, rd, fr⟩) (free_mild hq (fun b hb => by cases hb) hf) (call_step rfl hop hg hw hp he hr) (nx _ _ (md _) hk1)
    ·rename_i hne
     have hop' : calmOp rd op = true := by
      split at hop
      ·exact absurd rfl (hne _ _)
      ·exact hop
     have hwo : wpOp E op s = fun K => withV (runOp E noCall s op) fun (v, s') => K v s' := by
      funext K
      cases op <;> first | rfl | (simp only [calmOp, Bool.false_eq_true] at hop')
     simp only [wpOps, wantedA, withV_some, forall_const, hwo] at h1
     have h1 := h1.1
     cases hr : runOp E noCall s op with
     | none => rw [hr] at h1; exact h1.elim
     | some vs =>
      obtain ⟨v, s1⟩ := vs
      rw [hr] at h1
      have hs := (calm_run hop' hr).1
      subst hs
      refine draw_next (d := ⟨⟨dst, g, op⟩, rd, fr⟩) (free_mild hq (fun b hb => ?_) hf) (calm_step (d := ⟨⟨dst, g, op⟩, rd, fr⟩) hop' hg hw hnice hr) (nx _ _ (md _) h1)
      unfold theFoot at hb
      cases hft : footed op with
      | false =>
       rw [hft] at hb
       cases hb
      | true =>
       rw [hft] at hb honly
       simp only [Bool.not_true, Bool.false_or] at honly
       obtain ⟨j, hj, v, hv, hbv⟩ := vals_in (s := s1) hb
       have := List.all_eq_true.1 honly j hj
       rw [hv] at this
       exact memN_mem (List.all_eq_true.1 this b hbv)
theorem mild_pre {R : List Nat} {post : List DOp} (pre : List DOp) (done : List DRec) (s : St) (hc : calmAt done.length pre = true) (hq : ∀ x ∈ done, MildR R x) (hR : ∀ r ∈ R, r < s.h.next)
  (h : wpDm E R pre s (fun s' => s'.h = s.h → ∀ done' : List DRec, done'.length = done.length + pre.length → (∀ x ∈ done', MildR R x) → DrawTo E post done' s' K)) : DrawTo E (pre ++ post) done s K :=
 mild_to pre done s s.h _ hc hq hR rfl rfl h fun s' k e => k e
theorem mild_draw {R : List Nat} {ops : List DOp} {s : St} (hc : calmAt done.length ops = true) (hq : ∀ x ∈ done, MildR R x) (hR : ∀ r ∈ R, r < s.h.next) (h : wpDm E R ops s K) : DrawTo E ops done s K := by
 have := mild_to (E := E) (R := R) (post := []) (K := K) ops done s s.h _ hc hq hR rfl rfl h (fun s' k _ done' _ _ => draw_nil k)
 rwa [List.append_nil] at this
theorem call_draw0 {dst : Option Nat} {fr : List Nat} {f i : Nat} {a v : AV} {h1 : AH} (he : s.eval (.t i) = some a) (hv : ids a = [])
  (hc : RunCall E (.f f) [a] (restrictH s.h []) v h1) (hn : s.h.next ≤ h1.next) (hf : ∀ j ∈ fr, j < done.length)
  (k : ∀ h', h'.next = h1.next → (∀ x, s.h.next ≤ x → x < h1.next → h'.get x = h1.get x) → (∀ x, x < s.h.next → h'.get x = s.h.get x) → DrawTo E rest (done ++ [⟨[], [], s.h.next, h1.next⟩]) ((s.toH h').put dst v) K) :
  DrawTo E (⟨⟨dst, none, .call f [.t i]⟩, [i], fr⟩ :: rest) done s K := by
 have hvs : idsL (pickTm s.tm [i]).vals = [] := by
  cases hq : idsL (pickTm s.tm [i]).vals with
  | nil => rfl
  | cons x l =>
   obtain ⟨j, hj, w, hw, hxw⟩ := vals_in (s := s) (l := [i]) (x := x) (by rw [hq]; exact List.mem_cons_self)
   rw [List.mem_singleton.1 hj, he] at hw
   cases hw
   rw [hv] at hxw
   cases hxw
 have hev : evalAll { tm := pickTm s.tm [i], h := restrictH s.h [], defers := [], round := s.round } [.t i] = some [a] := by
  simp only [evalAll, St.eval, pickedM List.mem_cons_self he]
 have hble : Nat.ble s.h.next h1.next = true := Nat.ble_eq.mpr hn
 have hst : Ev fun n => stepDraw E (callA E (exec E n)) ⟨⟨dst, none, .call f [.t i]⟩, [i], fr⟩ (nearOf done fr) s = some (v, ⟨[], [], s.h.next, h1.next⟩, mergeH s.h [] h1) := by
  refine hc.mono fun n p => ?_
  have b0 : below s.h.next [] = true := rfl
  have k0 : knownH s.h [] = true := rfl
  have f0 : ∀ tm : Tr AV, foot { tm := tm, h := s.h, defers := [], round := s.round } [] (.call f [.t i]) = [] := fun _ => rfl
  simp only [stepDraw, wantedA, hvs, f0, b0, k0, Bool.and_self, cond_true, runOp, hev, p, Option.bind_some, isCall, List.isEmpty_nil, hble, List.filter_nil]
 refine draw_next (d := ⟨⟨dst, none, .call f [.t i]⟩, [i], fr⟩) (free_mild (R := []) (fun x _ r hr => by cases hr) (fun b hb => hb) hf) hst (k _ rfl ?_ ?_)
 ·intro x x1 x2
  rw [mergeM hn, if_pos ⟨x1, x2⟩]
 ·intro x x1
  rw [mergeM hn, if_neg (by omega), if_neg (by simp)]
def tagH (h : AH) (e : TypeId) (cs : List AV) : AH := (h.alloc (.cells cs true)).alloc (.tag h.next e none)
theorem tagH_next {h : AH} {e : TypeId} {cs : List AV} : (tagH h e cs).next = h.next + 2 := rfl
theorem tagH_new {h : AH} {e : TypeId} {cs : List AV} : (tagH h e cs).get h.next = some (.cells cs true) := by
 simp only [tagH, AH.get_alloc, a_next]
 rw [if_neg (by omega)]
 simp
theorem tagH_tag {h : AH} {e : TypeId} {cs : List AV} : (tagH h e cs).get (h.next + 1) = some (.tag h.next e none) := by
 simp only [tagH, AH.get_alloc, a_next, if_true]
theorem tagH_old {h : AH} {e : TypeId} {cs : List AV} {x : Nat} (hx : x < h.next) : (tagH h e cs).get x = h.get x := by
 simp only [tagH, AH.get_alloc, a_next]
 rw [if_neg (by omega), if_neg (by omega)]
structure RowT (h : AH) (b : Nat) (bs : List UInt8) : Prop where
 cb : h.get b = some (.cells (bytesA bs) true)
 tg : h.get (b + 1) = some (.tag b 5 none)
 lt : b + 1 < h.next
theorem RowT.new {h : AH} {bs : List UInt8} : RowT (tagH h 5 (bytesA bs)) h.next bs := ⟨tagH_new, tagH_tag, by rw [tagH_next]; omega⟩
theorem RowT.to {h h' : AH} {b : Nat} {bs : List UInt8} (k : RowT h b bs) (hn : h.next ≤ h'.next) (g1 : h'.get b = h.get b) (g2 : h'.get (b + 1) = h.get (b + 1)) : RowT h' b bs := ⟨by rw [g1, k.cb], by rw [g2, k.tg], by have := k.lt; omega⟩
theorem RowT.tag {h : AH} {b : Nat} {bs : List UInt8} (k : RowT h b bs) : tagOf h b = some (5, none) := by
 simp only [tagOf, k.tg, Nat.beq_refl, cond_true]
theorem okLen_of {n m : Nat} (h : n + m ≤ 2 ^ 40) : okLen (n + m) 1 = true := by
 have : mostBytes = 2 ^ 40 := rfl
 simp only [okLen, Nat.mul_one, this, Bool.and_eq_true]
 exact ⟨Nat.ble_eq.mpr h, Nat.ble_eq.mpr h⟩
theorem beq0_of {n : Nat} (h : 0 < n) : Nat.beq n 0 = false := by
 cases hz : Nat.beq n 0 with
 | false => rfl
 | true =>
  have := Nat.eq_of_beq_eq_true hz
  omega
theorem typed_nil {a c : Nat} {x : AV} {new : List UInt8} (ha : s.eval (.t a) = some (.val (.slice none 0 0))) (hx : s.eval (.t c) = some x) (he : elemsOf s.h 1 x = some (bytesA new, new.length)) (h0 : new ≠ []) (hl : new.length ≤ 2 ^ 40) :
  appTyped s 5 (.t a) (.t c) = some (.own s.h.next 0 new.length 1 none, s.toH (tagH s.h 5 (bytesA new))) := by
 have z := beq0_of (List.length_pos_iff.2 h0)
 have ok : okLen new.length 1 = true := by
  have := okLen_of (n := 0) (m := new.length) (by omega)
  rwa [Nat.zero_add] at this
 simp only [appTyped, ha, hx, he, z, ok, Bool.not_false, Bool.and_self, cond_true]
 rfl
theorem typed_row {a b c : Nat} {x : AV} {l new : List UInt8} (k : RowT s.h b l) (ha : s.eval (.t a) = some (.own b 0 l.length 1 none)) (hx : s.eval (.t c) = some x) (he : elemsOf s.h 1 x = some (bytesA new, new.length)) (h0 : new ≠ []) (hl : l.length + new.length ≤ 2 ^ 40) :
  appTyped s 5 (.t a) (.t c) = some (.own s.h.next 0 (l ++ new).length 1 none, s.toH (tagH (s.h.put b none) 5 (bytesA (l ++ new)))) := by
 have z := beq0_of (List.length_pos_iff.2 h0)
 have ok := okLen_of hl
 have h1 : Nat.beq 5 5 = true := rfl
 have h2 : Nat.beq l.length (bytesA l).length = true := by rw [bytesA_len]; exact Nat.beq_refl _
 simp only [appTyped, ha, hx, he, k.cb, k.tag, z, ok, h1, h2, Bool.not_false, Bool.and_self, cond_true, bytesA_app, List.length_append]
 rfl
theorem wp_typed {r : List AOper} {dst : Option Nat} {a c : Nat} {v : AV} {h' : AH} (h : appTyped s 5 (.t a) (.t c) = some (v, s.toH h')) : wpOps E (⟨dst, none, .appT 5 (.t a) (.t c)⟩ :: r) s K = wpOps E r ((s.toH h').put dst v) K := by
 rw [wpOps_vh (o := some (v, h'))]
 ·rfl
 ·simp only [runOp, h]
  rfl
 ·exact fun _ _ => rfl
theorem app_t0 {r : List AOper} {dst : Option Nat} {a c : Nat} {x : AV} {new : List UInt8} (h0 : new ≠ []) (hl : new.length ≤ 2 ^ 40) (he : elemsOf s.h 1 x = some (bytesA new, new.length)) (ha : s.eval (.t a) = some (.val (.slice none 0 0))) (hx : s.eval (.t c) = some x)
  (k : wpOps E r ((s.toH (tagH s.h 5 (bytesA new))).put dst (.own s.h.next 0 new.length 1 none)) K) : wpOps E (⟨dst, none, .appT 5 (.t a) (.t c)⟩ :: r) s K := by
 rw [wp_typed (typed_nil ha hx he h0 hl)]
 exact k
theorem app_t1 {r : List AOper} {dst : Option Nat} {a b c : Nat} {x : AV} {l new : List UInt8} (kr : RowT s.h b l) (h0 : new ≠ []) (hl : l.length + new.length ≤ 2 ^ 40) (he : elemsOf s.h 1 x = some (bytesA new, new.length)) (ha : s.eval (.t a) = some (.own b 0 l.length 1 none)) (hx : s.eval (.t c) = some x)
  (k : wpOps E r ((s.toH (tagH (s.h.put b none) 5 (bytesA (l ++ new)))).put dst (.own s.h.next 0 (l ++ new).length 1 none)) K) : wpOps E (⟨dst, none, .appT 5 (.t a) (.t c)⟩ :: r) s K := by
 rw [wp_typed (typed_row kr ha hx he h0 hl)]
 exact k
theorem app_t2 {r : List AOper} {dst : Option Nat} {a b c : Nat} {x : AV} {l : List UInt8} (kr : RowT s.h b l) (he : elemsOf s.h 1 x = some ([], 0)) (ha : s.eval (.t a) = some (.own b 0 l.length 1 none)) (hx : s.eval (.t c) = some x)
  (k : wpOps E r (s.put dst (.own b 0 l.length 1 none)) K) : wpOps E (⟨dst, none, .appT 5 (.t a) (.t c)⟩ :: r) s K := by
 have b00 : Nat.beq 0 0 = true := rfl
 have ht : appTyped s 5 (.t a) (.t c) = none := by
  simp only [appTyped, ha, hx, he, kr.cb, kr.tag, b00, Bool.not_true, Bool.and_false, cond_false]
 have hop : runOp E noCall s (.appT 5 (.t a) (.t c)) = some (.own b 0 l.length 1 none, s) := by
  simp only [runOp, ht, appendA, ha, hx, he, b00, cond_true]
 rw [wpOps_v (o := some (.own b 0 l.length 1 none))]
 ·exact k
 ·rw [hop]; rfl
 ·exact fun _ _ => rfl
theorem plain_run {a b c : Nat} {x : AV} {l new : List UInt8} (ht : tagOf s.h b = none) (ha : s.eval (.t a) = some (.own b 0 l.length 1 none)) (hx : s.eval (.t c) = some x)
  (he : elemsOf s.h 1 x = some (bytesA new, new.length)) (h0 : new ≠ []) (hb : s.h.get b = some (.cells (bytesA l) true)) (hl : l.length + new.length ≤ 2 ^ 40) :
  runOp E noCall s (.appT 5 (.t a) (.t c)) = some (.own s.h.next 0 (l ++ new).length 1 none, s.toH ((s.h.put b none).alloc (.cells (bytesA (l ++ new)) true))) := by
 have z := beq0_of (List.length_pos_iff.2 h0)
 have ok := okLen_of hl
 have lb : Nat.ble (0 + l.length * 1) (bytesA l).length = true := Nat.ble_eq.mpr (by rw [bytesA_len]; omega)
 have eb : Nat.beq (0 + l.length * 1) (bytesA l).length = true := Nat.beq_eq.mpr (by rw [bytesA_len]; omega)
 have b11 : Nat.beq 1 1 = true := rfl
 have htt : appTyped s 5 (.t a) (.t c) = none := by
  simp only [appTyped, ha, hx, he, hb, ht]
 simp only [runOp, htt, appendA, ha, hx, he, z, cond_false, hb, b11, lb, ok, Bool.and_self, cond_true, eb, List.drop_zero, bytesA_app, List.length_append]
 rfl
theorem app_u {r : List AOper} {dst : Option Nat} {a b c : Nat} {x : AV} {l new : List UInt8} (ht : tagOf s.h b = none) (h0 : new ≠ []) (hb : s.h.get b = some (.cells (bytesA l) true)) (hl : l.length + new.length ≤ 2 ^ 40) (he : elemsOf s.h 1 x = some (bytesA new, new.length)) (ha : s.eval (.t a) = some (.own b 0 l.length 1 none)) (hx : s.eval (.t c) = some x)
  (k : wpOps E r ((s.toH ((s.h.put b none).alloc (.cells (bytesA (l ++ new)) true))).put dst (.own s.h.next 0 (l ++ new).length 1 none)) K) : wpOps E (⟨dst, none, .appT 5 (.t a) (.t c)⟩ :: r) s K := by
 rw [wpOps_vh (o := some (.own s.h.next 0 (l ++ new).length 1 none, (s.h.put b none).alloc (.cells (bytesA (l ++ new)) true)))]
 ·exact k
 ·rw [plain_run ht ha hx he h0 hb hl]; rfl
 ·exact fun _ _ => rfl
theorem bytes_below {n : Nat} {bs : List UInt8} : below n (idsL (bytesA bs)) = true := by rw [bytesA_ids]; rfl
theorem app_drawT {dst a b c d n m : Nat} {cap : Option Nat} {w : AV} {G : AH → AH} (h2 : s.eval (.t a) = some (.own b 0 n 1 none)) (h3 : s.eval (.t d) = some (.own c 0 m 1 cap)) (hb : b + 1 < s.h.next) (hc : c + 1 < s.h.next)
  (kb : ∀ x, (x = b ∨ x = b + 1 ∨ x = c ∨ x = c + 1) → ∀ k, s.h.get x = some k → below s.h.next (idsB k) = true)
  (hrun : ∀ s0 : St, s0.eval (.t a) = some (.own b 0 n 1 none) → s0.eval (.t d) = some (.own c 0 m 1 cap) → s0.h.next = s.h.next → (∀ x, (x = b ∨ x = b + 1 ∨ x = c ∨ x = c + 1) → s0.h.get x = s.h.get x) → runOp E noCall s0 (.appT 5 (.t a) (.t d)) = some (w, s0.toH (G s0.h)))
  (g0 : s.h.next ≤ (G s.h).next) (g1 : ∀ h, h.next = s.h.next → (G h).next = (G s.h).next) (g2 : ∀ h, h.next = s.h.next → ∀ x, s.h.next ≤ x → x < (G s.h).next → (G h).get x = (G s.h).get x) (g3 : ∀ h, h.next = s.h.next → (G h).get b = (G s.h).get b) (g4 : ∀ x, x < s.h.next → x ≠ b → (G s.h).get x = s.h.get x)
  (k : ∀ D h', (∀ x ∈ D, x = b) → h'.next = (G s.h).next → (∀ x, x < (G s.h).next → h'.get x = (G s.h).get x) → ∀ F, DrawTo E rest (done ++ [⟨F, D, s.h.next, (G s.h).next⟩]) ((s.toH h').put (some dst) w) K) :
  DrawTo E (⟨⟨some dst, none, .appT 5 (.t a) (.t d)⟩, [a, d], []⟩ :: rest) done s K := by
 generalize hvs : idsL (pickTm s.tm [a, d]).vals = vs
 have pa : (pickTm s.tm [a, d]).get a = some (.own b 0 n 1 none) := pickedM List.mem_cons_self h2
 have pd : (pickTm s.tm [a, d]).get d = some (.own c 0 m 1 cap) := pickedM (List.mem_cons_of_mem _ List.mem_cons_self) h3
 have inb : b ∈ vs := by rw [← hvs]; exact ids_sub (mem_put pa) b (by simp only [ids, List.mem_singleton])
 have inc : c ∈ vs := by rw [← hvs]; exact ids_sub (mem_put pd) c (by simp only [ids, List.mem_singleton])
 have out : ∀ x ∈ vs, x = b ∨ x = c := fun x hx => by
  rw [← hvs] at hx
  obtain ⟨j, hj, v, hv, hxv⟩ := vals_in (s := s) hx
  rcases List.mem_cons.1 hj with rfl | hj
  ·rw [h2] at hv
   cases hv
   simp only [ids, List.mem_singleton] at hxv
   exact .inl hxv
  ·rw [List.mem_singleton.1 hj, h3] at hv
   cases hv
   simp only [ids, List.mem_singleton] at hxv
   exact .inr hxv
 generalize hl : vs ++ vs.map (· + 1) = F
 have outF : ∀ x ∈ F, x = b ∨ x = b + 1 ∨ x = c ∨ x = c + 1 := fun x hx => by
  rw [← hl, List.mem_append, List.mem_map] at hx
  rcases hx with hx | ⟨y, hy, rfl⟩
  ·rcases out x hx with e | e
   ·exact .inl e
   ·exact .inr (.inr (.inl e))
  ·rcases out y hy with e | e
   ·exact .inr (.inl (by rw [e]))
   ·exact .inr (.inr (.inr (by rw [e])))
 have inF : ∀ x, (x = b ∨ x = b + 1 ∨ x = c ∨ x = c + 1) → x ∈ F := fun x hx => by
  rw [← hl, List.mem_append, List.mem_map]
  rcases hx with rfl | rfl | rfl | rfl
  ·exact .inl inb
  ·exact .inr ⟨b, inb, rfl⟩
  ·exact .inl inc
  ·exact .inr ⟨c, inc, rfl⟩
 have hbel : below s.h.next vs = true := List.all_eq_true.2 fun x hx => Nat.blt_eq.mpr (by rcases out x hx with rfl | rfl <;> omega)
 have hkn : knownH s.h F = true := List.all_eq_true.2 fun x hx => by
  have q := outF x hx
  have q1 : Nat.blt x s.h.next = true := Nat.blt_eq.mpr (by rcases q with rfl | rfl | rfl | rfl <;> omega)
  rw [q1, Bool.true_and]
  cases hg : s.h.get x with
  | none => rfl
  | some kk => exact kb x q kk hg
 have hnx : (restrictH s.h F).next = s.h.next := rfl
 have hro := hrun { tm := pickTm s.tm [a, d], h := restrictH s.h F, defers := [], round := s.round } pa pd rfl (fun x hx => restrict_in (inF x hx))
 have hro' : ∀ mm, runOp E (callA E (exec E mm)) { tm := pickTm s.tm [a, d], h := restrictH s.h F, defers := [], round := s.round } (.appT 5 (.t a) (.t d)) = some (w, { tm := pickTm s.tm [a, d], h := G (restrictH s.h F), defers := [], round := s.round }) := fun mm => hro
 have htu : turned { tm := pickTm s.tm [a, d], h := restrictH s.h F, defers := [], round := s.round } (.appT 5 (.t a) (.t d)) = [b] := by
  simp only [turned, idsO, St.eval, pa, ids]
 have hDb : below s.h.next [b] = true := by simp only [below, List.all_cons, List.all_nil, Bool.and_true]; exact Nat.blt_eq.mpr (by omega)
 have hble : Nat.ble s.h.next (G s.h).next = true := Nat.ble_eq.mpr g0
 have hgn : (G (restrictH s.h F)).next = (G s.h).next := g1 _ rfl
 have hst : Ev fun n => stepDraw E (callA E (exec E n)) ⟨⟨some dst, none, .appT 5 (.t a) (.t d)⟩, [a, d], []⟩ (nearOf done []) s = some (w, ⟨F, [b], s.h.next, (G s.h).next⟩, mergeH s.h [b] (G (restrictH s.h F))) := by
  refine Ev.of fun n => ?_
  simp only [stepDraw, wantedA, hvs, foot, hl, hbel, hkn, Bool.and_self, cond_true, hro', isCall, cond_false, htu, List.isEmpty_nil, hgn, hble, hDb]
 refine draw_next (d := ⟨⟨some dst, none, .appT 5 (.t a) (.t d)⟩, [a, d], []⟩) rfl hst (k [b] (mergeH s.h [b] (G (restrictH s.h F))) (fun x hx => List.mem_singleton.1 hx) hgn (fun x hx => ?_) F)
 rw [mergeM (by rw [hgn]; exact g0), hgn]
 by_cases h1 : s.h.next ≤ x
 ·rw [if_pos ⟨h1, hx⟩]
  exact g2 (restrictH s.h F) rfl x h1 hx
 ·rw [if_neg (by omega)]
  by_cases h4 : x = b
  ·subst h4
   rw [if_pos (by simp)]
   exact g3 (restrictH s.h F) rfl
  ·rw [if_neg (by simpa using h4), g4 x (by omega) h4]
theorem str_draw {dst i b n : Nat} {cap : Option Nat} {bs : List UInt8} {fr : List Nat} (he : s.eval (.t i) = some (.own b 0 n 1 cap)) (hb : b < s.h.next) (hg : s.h.get b = some (.cells (bytesA bs) true)) (hn : n = bs.length)
  (hf : ∀ i ∈ fr, ∃ x, done[i]? = some x ∧ MildR [b] x) (k : ∀ F, DrawTo E rest (done ++ [⟨F, [], s.h.next, s.h.next⟩]) (s.put (some dst) (.val (.string ⟨bs.toArray⟩))) K) :
  DrawTo E (⟨⟨some dst, none, .strOfBytes (.t i)⟩, [i], fr⟩ :: rest) done s K := by
 have hnice : niceT s.h (some (.own b 0 n 1 cap)) = true := by
  have : Nat.blt b s.h.next = true := Nat.blt_eq.mpr hb
  simp only [niceT, niceV, ids, List.all_cons, List.all_nil, this, hg, bytes_below, Bool.and_self]
 have hel : elemsOf s.h 1 (.own b 0 n 1 cap) = some (bytesA bs, n) := by
  have h1 : Nat.beq 1 1 = true := rfl
  have h2 : Nat.ble (0 + n * 1) (bytesA bs).length = true := Nat.ble_eq.mpr (by rw [bytesA_len]; omega)
  simp only [elemsOf, h1, cond_true, hg, h2, List.drop_zero]
  rw [List.take_of_length_le (by rw [bytesA_len]; omega)]
 have ho : runOp E noCall s (.strOfBytes (.t i)) = some (.val (.string ⟨bs.toArray⟩), s) := by
  simp only [runOp, he, hel, bytesA_of, Option.bind_some]
 have st := calm_step (E := E) (d := ⟨⟨some dst, none, .strOfBytes (.t i)⟩, [i], fr⟩) (near := nearOf done fr) (by show memN [i] i = true; simp [memN]) rfl rfl (by
  have e : s.tm.get i = some (.own b 0 n 1 cap) := he
  simp only [List.all_cons, List.all_nil, e, hnice, Bool.and_self]) ho
 refine draw_next (d := ⟨⟨some dst, none, .strOfBytes (.t i)⟩, [i], fr⟩) (free_at (R := [b]) (fun x hx => ?_) hf) st (k _)
 have hx : x ∈ idsL (pickTm s.tm [i]).vals := hx
 obtain ⟨j, hj, w, hw, hxw⟩ := vals_in (s := s) hx
 rw [List.mem_singleton.1 hj, he] at hw
 cases hw
 simpa only [ids] using hxw
end Go.AM
