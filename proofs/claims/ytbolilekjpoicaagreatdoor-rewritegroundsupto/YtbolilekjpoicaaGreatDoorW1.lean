/- A part of the proof of the law RewriteGrounds: XWp XWq XWr XWs XDraw XOwn XRow XDrawB. -/
import Derived.Test.YtbolilekjpoicaaGreatDoorM3

set_option linter.all false

/- What the abstract machine does, said forwards: weakest preconditions over its code. -/
namespace Go.AM

variable {E : Env}

/-! ### for all fuel from some on -/
def Ev (p : Nat → Prop) : Prop := ∃ N, ∀ n, N ≤ n → p n

theorem Ev.of {p : Nat → Prop} (h : ∀ n, p n) : Ev p := ⟨0, fun n _ => h n⟩
theorem Ev.mono {p q : Nat → Prop} (h : Ev p) (k : ∀ n, p n → q n) : Ev q := h.imp fun _ h n hn => k n (h n hn)
theorem Ev.and {p q : Nat → Prop} (h : Ev p) (k : Ev q) : Ev fun n => p n ∧ q n := by
  obtain ⟨a, h⟩ := h
  obtain ⟨b, k⟩ := k
  exact ⟨a + b, fun n hn => ⟨h n (by omega), k n (by omega)⟩⟩
theorem Ev.step {p : Nat → Prop} (h : Ev fun n => p (n + 1)) : Ev p := by
  obtain ⟨a, h⟩ := h
  refine ⟨a + 1, fun n hn => ?_⟩
  obtain ⟨m, rfl⟩ : ∃ m, n = m + 1 := ⟨n - 1, by omega⟩
  exact h m (by omega)
theorem Ev.back {p : Nat → Prop} (h : Ev p) : Ev fun n => p (n + 1) := by
  obtain ⟨a, h⟩ := h
  exact ⟨a, fun n hn => h (n + 1) (by omega)⟩
theorem Ev.one {p : Nat → Prop} (h : Ev p) : ∃ n, p n := by
  obtain ⟨a, h⟩ := h
  exact ⟨a, h a (Nat.le_refl a)⟩

/-! ### runs -/
def Run (E : Env) (c : ACode) (s : St) (Q : Ex → St → Prop) : Prop := ∃ e s', Ev (fun n => exec E n c s = some (e, s')) ∧ Q e s'

/-- A call ends so. -/
def RunCall (E : Env) (c : Cle) (l : List AV) (h : AH) (v : AV) (h' : AH) : Prop := Ev fun n => callA E (exec E n) c l h = some (v, h')

def CallTo (E : Env) (c : Cle) (l : List AV) (h : AH) (K : AV → AH → Prop) : Prop := ∃ v h', RunCall E c l h v h' ∧ K v h'

def RunOps (E : Env) (ops : List AOper) (s : St) (K : St → Prop) : Prop := ∃ s', Ev (fun n => runOps E (callA E (exec E n)) ops s = some s') ∧ K s'

theorem RunCall.det {c : Cle} {l : List AV} {h h1 h2 : AH} {v1 v2 : AV} (a : RunCall E c l h v1 h1) (b : RunCall E c l h v2 h2) : v1 = v2 ∧ h1 = h2 := by
  obtain ⟨n, x, y⟩ := (a.and b).one
  rw [x] at y
  simp only [Option.some.injEq, Prod.mk.injEq] at y
  exact y

theorem callTo_iff {c : Cle} {l : List AV} {h h' : AH} {v : AV} {K : AV → AH → Prop} (r : RunCall E c l h v h') : CallTo E c l h K ↔ K v h' :=
  ⟨fun ⟨_, _, r2, k⟩ => by obtain ⟨a, b⟩ := r.det r2; subst a; subst b; exact k, fun k => ⟨v, h', r, k⟩⟩

/-! ### states -/
def St.set (s : St) (d : Nat) (v : AV) : St := { s with tm := s.tm.put d (some v) }
def St.toH (s : St) (h : AH) : St := { s with h }
def St.put (s : St) : Option Nat → AV → St
  | none, _ => s
  | some d, v => s.set d v

theorem St.get_set (s : St) (d i : Nat) (v : AV) : (s.set d v).tm.get i = if i = d then some v else s.tm.get i := Tr.get_put _ _ _ _
theorem St.eval_set (s : St) (d i : Nat) (v : AV) : (s.set d v).eval (.t i) = if i = d then some v else s.eval (.t i) := Tr.get_put _ _ _ _
theorem St.eval_toH (s : St) (h : AH) (x : Opd) : (s.toH h).eval x = s.eval x := by cases x <;> rfl
theorem St.eval_c (s : St) (v : AV) : s.eval (.c v) = some v := rfl
theorem St.h_set (s : St) (d : Nat) (v : AV) : (s.set d v).h = s.h := rfl
theorem St.h_toH (s : St) (h : AH) : (s.toH h).h = h := rfl
theorem St.df_set (s : St) (d : Nat) (v : AV) : (s.set d v).defers = s.defers := rfl
theorem St.df_toH (s : St) (h : AH) : (s.toH h).defers = s.defers := rfl
theorem St.rd_set (s : St) (d : Nat) (v : AV) : (s.set d v).round = s.round := rfl
theorem St.rd_toH (s : St) (h : AH) : (s.toH h).round = s.round := rfl
theorem St.tm_toH (s : St) (h : AH) : (s.toH h).tm = s.tm := rfl

/-! ### operations -/
def withV {α : Type} (o : Option α) (f : α → Prop) : Prop := match o with
  | some v => f v
  | none => False
theorem withV_some {α : Type} (v : α) (f : α → Prop) : withV (some v) f = f v := rfl
theorem withV_none {α : Type} (f : α → Prop) : withV none f = False := rfl

def noCall : Cle → List AV → AH → Option (AV × AH) := fun _ _ _ => none

theorem runOp_noCall {call : Cle → List AV → AH → Option (AV × AH)} {s : St} {op : AOp} {r : AV × St} (h : runOp E noCall s op = some r) : runOp E call s op = some r := by
  cases op with
  | call f args =>
    exfalso
    simp only [runOp] at h
    split at h <;> simp [noCall] at h
  | callv x args =>
    exfalso
    simp only [runOp] at h
    split at h <;> try (first | (simp [noCall] at h; done) | (split at h <;> simp [noCall] at h; done))
  | invoke x name args =>
    exfalso
    simp only [runOp] at h
    split at h <;> try (first | (simp [noCall] at h; done) | (split at h <;> simp [noCall] at h; done))
  | _ => exact h

/-- What is asked of an operation. -/
def wpOp (E : Env) (op : AOp) (s : St) (K : AV → St → Prop) : Prop :=
  match op with
  | .call f args => withV (evalAll s args) fun l => CallTo E (.f f) l s.h fun v h => K v (s.toH h)
  | .callv x args => match s.eval x with
    | some (.yld b) => withV (evalAll s args) fun l => CallTo E (.y b) l s.h fun v h => K v (s.toH h)
    | some (.fn (.func f) a b) => withV (evalAll s args) fun l => CallTo E (.f f) (a ++ l ++ b) s.h fun v h => K v (s.toH h)
    | _ => False
  | op => withV (runOp E noCall s op) fun (v, s') => K v s'

def wpOps (E : Env) : List AOper → St → (St → Prop) → Prop
  | [], s, K => K s
  | o :: r, s, K => withV (wantedA s o.guard) fun g =>
    (g = true → wpOp E o.op s fun v s' => wpOps E r ({ s' with round := s.round }.put o.dst v) K) ∧
    (g = false → wpOps E r (s.put o.dst undefA) K)

theorem runOps_cons {o : AOper} {r : List AOper} {s : St} {K : St → Prop} {v : AV} {s1 : St} (hw : wantedA s o.guard = some true)
    (h : Ev fun n => runOp E (callA E (exec E n)) s o.op = some (v, s1)) (k : RunOps E r ({ s1 with round := s.round }.put o.dst v) K) : RunOps E (o :: r) s K := by
  obtain ⟨s', k1, k2⟩ := k
  refine ⟨s', (h.and k1).mono fun n ⟨a, b⟩ => ?_, k2⟩
  simp only [runOps, hw, a]
  cases hd : o.dst with
  | none => rw [hd] at b; exact b
  | some d => rw [hd] at b; exact b

theorem callTo_ops {o : AOper} {r : List AOper} {s : St} {K : St → Prop} {c : Cle} {l : List AV} (hw : wantedA s o.guard = some true)
    (ho : ∀ call, runOp E call s o.op = (call c l s.h).bind fun (v, h) => some (v, { s with h }))
    (ih : ∀ s', wpOps E r s' K → RunOps E r s' K) (h : CallTo E c l s.h fun v h => wpOps E r ({ s.toH h with round := s.round }.put o.dst v) K) : RunOps E (o :: r) s K := by
  obtain ⟨v, h', hr, hk⟩ := h
  refine runOps_cons hw (v := v) (s1 := s.toH h') (Ev.mono hr fun n a => ?_) (ih _ hk)
  rw [ho, a]
  rfl

theorem wpOps_run : ∀ (ops : List AOper) (s : St) (K : St → Prop), wpOps E ops s K → RunOps E ops s K
  | [], s, K, h => ⟨s, Ev.of fun _ => rfl, h⟩
  | o :: r, s, K, h => by
    simp only [wpOps] at h
    cases hw : wantedA s o.guard with
    | none => rw [hw] at h; exact h.elim
    | some g =>
      rw [hw] at h
      simp only [withV_some] at h
      cases g with
      | false =>
        have h2 := wpOps_run r _ K (h.2 rfl)
        obtain ⟨s', k1, k2⟩ := h2
        refine ⟨s', k1.mono fun n b => ?_, k2⟩
        simp only [runOps, hw]
        cases hd : o.dst with
        | none => rw [hd] at b; exact b
        | some d => rw [hd] at b; exact b
      | true =>
        have h1 := h.1 rfl
        have ih : ∀ s', wpOps E r s' K → RunOps E r s' K := fun s' => wpOps_run r s' K
        clear h
        unfold wpOp at h1
        split at h1
        · rename_i f args heq
          cases he : evalAll s args with
          | none => rw [he] at h1; exact h1.elim
          | some l =>
            rw [he] at h1
            exact callTo_ops hw (fun call => by rw [heq]; simp only [runOp, he]) ih h1
        · rename_i x args heq
          split at h1
          · rename_i b hx
            cases he : evalAll s args with
            | none => rw [he] at h1; exact h1.elim
            | some l =>
              rw [he] at h1
              exact callTo_ops hw (fun call => by rw [heq]; simp only [runOp, he, hx]) ih h1
          · rename_i f a b hx
            cases he : evalAll s args with
            | none => rw [he] at h1; exact h1.elim
            | some l =>
              rw [he] at h1
              exact callTo_ops hw (fun call => by rw [heq]; simp only [runOp, he, hx]) ih h1
          · exact h1.elim
        · cases ho : runOp E noCall s o.op with
          | none => rw [ho] at h1; exact h1.elim
          | some vs =>
            obtain ⟨v, s1⟩ := vs
            rw [ho] at h1
            exact runOps_cons hw (Ev.of fun n => runOp_noCall ho) (ih _ h1)

/-! ### code -/
/-- What is asked of code; of loops, ranges and regions that draw it is asked by hand. -/
def wp (E : Env) : ACode → St → (Ex → St → Prop) → Prop
  | .skip, s, Q => Q .normal s
  | .ret, s, Q => Q .ret s
  | .exit id, s, Q => Q (.exit id) s
  | .region ops, s, Q => wpOps E ops s (Q .normal)
  | .seq a b, s, Q => wp E a s fun e s' => match e with
    | .normal => wp E b s' Q
    | e => Q e s'
  | .cond c a b, s, Q => match s.eval c with
    | some (.val (.bool x)) => (x = true → wp E a s Q) ∧ (x = false → wp E b s Q)
    | _ => False
  | .block id b, s, Q => wp E b s fun e s' => match e with
    | .exit i => Q (bif Nat.beq i id then .normal else .exit i) s'
    | e => Q e s'
  | c, s, Q => Run E c s Q

theorem Run.mono {c : ACode} {s : St} {Q Q' : Ex → St → Prop} (h : Run E c s Q) (k : ∀ e s', Q e s' → Q' e s') : Run E c s Q' := by
  obtain ⟨e, s', a, b⟩ := h
  exact ⟨e, s', a, k _ _ b⟩

theorem Run.seq {a b : ACode} {s : St} {Q : Ex → St → Prop} (h : Run E a s fun e s' => match e with | .normal => Run E b s' Q | e => Q e s') : Run E (.seq a b) s Q := by
  obtain ⟨e, s', x, y⟩ := h
  cases e with
  | normal =>
    obtain ⟨e2, s2, x2, y2⟩ := y
    refine ⟨e2, s2, ((x.and x2).mono fun n ⟨p, q⟩ => ?_ : Ev fun n => exec E (n + 1) (.seq a b) s = some (e2, s2)).step, y2⟩
    simp only [exec, p, q]
  | exit i => exact ⟨_, _, (x.mono fun n p => by simp only [exec, p] : Ev fun n => exec E (n + 1) (.seq a b) s = some (.exit i, s')).step, y⟩
  | ret => exact ⟨_, _, (x.mono fun n p => by simp only [exec, p] : Ev fun n => exec E (n + 1) (.seq a b) s = some (.ret, s')).step, y⟩

theorem Run.block {id : Nat} {b : ACode} {s : St} {Q : Ex → St → Prop} (h : Run E b s fun e s' => match e with | .exit i => Q (bif Nat.beq i id then .normal else .exit i) s' | e => Q e s') : Run E (.block id b) s Q := by
  obtain ⟨e, s', x, y⟩ := h
  cases e with
  | normal => exact ⟨_, _, (x.mono fun n p => by simp only [exec, p] : Ev fun n => exec E (n + 1) (.block id b) s = some (.normal, s')).step, y⟩
  | exit i => exact ⟨_, _, (x.mono fun n p => by simp only [exec, p] : Ev fun n => exec E (n + 1) (.block id b) s = some (bif Nat.beq i id then .normal else .exit i, s')).step, y⟩
  | ret => exact ⟨_, _, (x.mono fun n p => by simp only [exec, p] : Ev fun n => exec E (n + 1) (.block id b) s = some (.ret, s')).step, y⟩

/-- One round of a loop. -/
theorem Run.loop {b : ACode} {s : St} {Q : Ex → St → Prop} (h : Run E b s fun e s' => match e with | .normal => Run E (.loop b) s' Q | e => Q e s') : Run E (.loop b) s Q := by
  obtain ⟨e, s', x, y⟩ := h
  cases e with
  | normal =>
    obtain ⟨e2, s2, x2, y2⟩ := y
    refine ⟨e2, s2, ((x.and x2).mono fun n ⟨p, q⟩ => ?_ : Ev fun n => exec E (n + 1) (.loop b) s = some (e2, s2)).step, y2⟩
    simp only [exec, p, q]
  | exit i => exact ⟨_, _, (x.mono fun n p => by simp only [exec, p] : Ev fun n => exec E (n + 1) (.loop b) s = some (.exit i, s')).step, y⟩
  | ret => exact ⟨_, _, (x.mono fun n p => by simp only [exec, p] : Ev fun n => exec E (n + 1) (.loop b) s = some (.ret, s')).step, y⟩

theorem wp_run : ∀ (c : ACode) (s : St) (Q : Ex → St → Prop), wp E c s Q → Run E c s Q
  | .skip, s, Q, h => ⟨_, _, (Ev.of fun _ => rfl : Ev fun n => exec E (n + 1) .skip s = some (.normal, s)).step, h⟩
  | .ret, s, Q, h => ⟨_, _, (Ev.of fun _ => rfl : Ev fun n => exec E (n + 1) .ret s = some (.ret, s)).step, h⟩
  | .exit i, s, Q, h => ⟨_, _, (Ev.of fun _ => rfl : Ev fun n => exec E (n + 1) (.exit i) s = some (.exit i, s)).step, h⟩
  | .region ops, s, Q, h => by
    obtain ⟨s', x, y⟩ := wpOps_run ops s _ h
    exact ⟨_, _, (x.mono fun n p => by simp only [exec, p, Option.map_some] : Ev fun n => exec E (n + 1) (.region ops) s = some (.normal, s')).step, y⟩
  | .seq a b, s, Q, h => Run.seq ((wp_run a s _ h).mono fun e s' k => by
      cases e with
      | normal => exact wp_run b s' Q k
      | exit i => exact k
      | ret => exact k)
  | .cond c a b, s, Q, h => by
    simp only [wp] at h
    split at h
    · rename_i x hx
      cases x with
      | true =>
        obtain ⟨e, s', x, y⟩ := wp_run a s Q (h.1 rfl)
        exact ⟨e, s', (x.mono fun n p => by simp only [exec, hx, p] : Ev fun n => exec E (n + 1) (.cond c a b) s = some (e, s')).step, y⟩
      | false =>
        obtain ⟨e, s', x, y⟩ := wp_run b s Q (h.2 rfl)
        exact ⟨e, s', (x.mono fun n p => by simp only [exec, hx, p] : Ev fun n => exec E (n + 1) (.cond c a b) s = some (e, s')).step, y⟩
    · exact h.elim
  | .block id b, s, Q, h => Run.block (wp_run b s _ h)
  | .loop b, s, Q, h => h
  | .draw ops, s, Q, h => h
  | .range g ps asg body M, s, Q, h => h
  | .bad why, s, Q, h => h

/-! ### functions -/
/-- A function over an empty heap answers so. -/
def Ans (E : Env) (g : Nat) (l : List AV) (r : AV) : Prop := ∃ hc, Ev fun n => enterA E (exec E n) g l .empty = some (r, hc)

theorem ans_of {g : Nat} {l : List AV} {r : AV} {a : AFun} (hf : funOf E.P g = some a)
    (h : wp E a.body { tm := enterTm l 0 .nil, h := .empty, defers := [], round := none } fun e s => (e = .normal ∨ e = .ret) ∧ s.defers = [] ∧ resultsA E.globs s a.res = some [r]) : Ans E g l r := by
  obtain ⟨e, s', x, y1, y2, y3⟩ := wp_run _ _ _ h
  refine ⟨s'.h, x.mono fun n p => ?_⟩
  have hl : leaveA E a s' = some (r, s'.h) := by
    obtain ⟨tm, h1, df, rd⟩ := s'
    subst y2
    simp only [leaveA, runDefers, y3]
    rfl
  simp only [enterA, hf, p]
  rcases y1 with rfl | rfl <;> exact hl

theorem ans_of2 {g : Nat} {l : List AV} {rs : List AV} {a : AFun} (hf : funOf E.P g = some a)
    (h : wp E a.body { tm := enterTm l 0 .nil, h := .empty, defers := [], round := none } fun e s => (e = .normal ∨ e = .ret) ∧ s.defers = [] ∧ resultsA E.globs s a.res = some rs) : Ans E g l (oneOrTup rs) := by
  obtain ⟨e, s', x, y1, y2, y3⟩ := wp_run _ _ _ h
  refine ⟨s'.h, x.mono fun n p => ?_⟩
  have hl : leaveA E a s' = some (oneOrTup rs, s'.h) := by
    obtain ⟨tm, h1, df, rd⟩ := s'
    subst y2
    simp only [leaveA, runDefers, y3]
  simp only [enterA, hf, p]
  rcases y1 with rfl | rfl <;> exact hl

/-- Trees: what neither freezing nor unfolding turns. -/
def isTree : AV → Bool
  | .val _ | .imm .. | .iptr _ => true
  | .agg cs => cs.all fun | .val _ | .imm .. | .iptr _ => true | _ => false
  | _ => false

/-- A call on trees with a flat answer. -/
theorem call_ans {g : Nat} {l : List AV} {r : AV} {h : AH} (hs : E.shared.get g = none) (hk : E.known g l = none) (hm : mapTree h l = some l)
    (hz : l.foldl (fun h v => freeze deepest v h) h = h) (hr : isFlat r = true) (ht : ∀ hc, toTree (freeze deepest r hc) deepest r = some r) (a : Ans E g l r) : RunCall E (.f g) l h r h := by
  obtain ⟨hc, a⟩ := a
  refine a.mono fun n p => ?_
  simp only [callA, callF, hs, hz, hm, hk, p, ht, hr, cond_true]

end Go.AM

/- One rule for each operation, made for rewriting. -/
namespace Go.AM
set_option linter.all false

variable {E : Env} {s : St} {K : St → Prop} {r : List AOper} {d : Nat} {dst : Option Nat}

/-! Rewriting goes where the next step is, and nowhere else. -/
theorem withV_congr {α : Type} {o o' : Option α} {f : α → Prop} (h : o = o') : withV o f = withV o' f := by rw [h]
theorem wpOps_congr {ops : List AOper} : wpOps E ops s K = wpOps E ops s K := rfl
theorem wp_congr {c : ACode} {Q : Ex → St → Prop} : wp E c s Q = wp E c s Q := rfl
theorem run_congr {c : ACode} {Q : Ex → St → Prop} : Run E c s Q = Run E c s Q := rfl
theorem callTo_congr {c : Cle} {l l' : List AV} {h h' : AH} {K : AV → AH → Prop} (e1 : l = l') (e2 : h = h') : CallTo E c l h K = CallTo E c l' h' K := by rw [e1, e2]
theorem eval_congr {x : Opd} : s.eval x = s.eval x := rfl

/-- The next guarded operation. -/
def guardTo (s : St) (g : Option (Nat × Bool)) (A B : Prop) : Prop := withV (wantedA s g) fun g => (g = true → A) ∧ (g = false → B)

theorem wpOps_nil : wpOps E [] s K = K s := rfl

def ifP (b : Bool) (A B : Prop) : Prop := match b with
  | true => A
  | false => B
theorem ifP_true {A B : Prop} : ifP true A B = A := rfl
theorem ifP_false {A B : Prop} : ifP false A B = B := rfl
theorem ifP_iff {b : Bool} {A B : Prop} : ifP b A B ↔ (b = true → A) ∧ (b = false → B) := by
  cases b with
  | true => exact ⟨fun h => ⟨fun _ => h, fun x => (by cases x)⟩, fun h => h.1 rfl⟩
  | false => exact ⟨fun h => ⟨fun x => (by cases x), fun _ => h⟩, fun h => h.2 rfl⟩
theorem ifP_congr {x y : Bool} {A A' B B' : Prop} (h : x = y) (h1 : y = true → A = A') (h2 : y = false → B = B') : ifP x A B = ifP y A' B' := by
  subst h
  cases x with
  | true => exact h1 rfl
  | false => exact h2 rfl

/-- Whether a guarded operation is wanted. -/
def wantedV (o : Option AV) (b : Bool) : Option Bool := match o with
  | some (.val (.bool c)) => some (c == b)
  | some (.tup []) => some false
  | _ => none
theorem wantedV_t {c : Bool} : wantedV (some (.val (.bool c))) true = some c := by cases c <;> rfl
theorem wantedV_f {c : Bool} : wantedV (some (.val (.bool c))) false = some (!c) := by cases c <;> rfl
theorem wantedV_u {b : Bool} : wantedV (some undefA) b = some false := rfl

theorem wpOps_g {t : Nat} {b : Bool} {op : AOp} : wpOps E (⟨dst, some (t, b), op⟩ :: r) s K = withV (wantedV (s.eval (.t t)) b) fun b => ifP b (wpOps E (⟨dst, none, op⟩ :: r) s K) (wpOps E r (s.put dst undefA) K) := by
  have h1 : wpOps E (⟨dst, none, op⟩ :: r) s K = wpOp E op s fun v s' => wpOps E r ({ s' with round := s.round }.put dst v) K := by
    simp only [wpOps, wantedA, withV_some, true_implies, Bool.true_eq_false, false_implies, and_true]
  rw [h1]
  show withV (wantedV (s.eval (.t t)) b) _ = _
  cases wantedV (s.eval (.t t)) b with
  | none => rfl
  | some g => exact propext (ifP_iff (b := g)).symm

theorem wpOps_v {op : AOp} {o : Option AV} (h : runOp E noCall s op = o.map fun v => (v, s)) (hn : ∀ s' K, wpOp E op s' K = withV (runOp E noCall s' op) fun (v, s'') => K v s'') :
    wpOps E (⟨dst, none, op⟩ :: r) s K = withV o fun v => wpOps E r (s.put dst v) K := by
  simp only [wpOps, wantedA, withV_some, true_implies, Bool.true_eq_false, false_implies, and_true, hn, h]
  cases o <;> rfl

theorem wpOps_vh {op : AOp} {o : Option (AV × AH)} (h : runOp E noCall s op = o.map fun (v, h) => (v, s.toH h)) (hn : ∀ s' K, wpOp E op s' K = withV (runOp E noCall s' op) fun (v, s'') => K v s'') :
    wpOps E (⟨dst, none, op⟩ :: r) s K = withV o fun (v, h) => wpOps E r ((s.toH h).put dst v) K := by
  simp only [wpOps, wantedA, withV_some, true_implies, Bool.true_eq_false, false_implies, and_true, hn, h]
  cases o <;> rfl

theorem bind_ret {o : Option AV} : (o.bind fun v => some (v, s)) = o.map fun v => (v, s) := by cases o <;> rfl

theorem bif_ret {c : Bool} {v : AV} : (bif c then some (v, s) else none) = Option.map (fun v => (v, s)) (bif c then some v else none) := by cases c <;> rfl

theorem put_some {v : AV} : s.put (some d) v = s.set d v := rfl
theorem put_none {v : AV} : s.put none v = s := rfl

theorem w_mv {x : Opd} : wpOps E (⟨dst, none, .mv x⟩ :: r) s K = withV (s.eval x) fun v => wpOps E r (s.put dst v) K :=
  wpOps_v (by simp only [runOp]; exact bind_ret) fun _ _ => rfl

def pickV (c a b : Option AV) : Option AV := match c with
  | some (.val (.bool true)) => a
  | some (.val (.bool false)) => b
  | _ => none
theorem w_pick {c a b : Opd} : wpOps E (⟨dst, none, .pick c a b⟩ :: r) s K = withV (pickV (s.eval c) (s.eval a) (s.eval b)) fun v => wpOps E r (s.put dst v) K :=
  wpOps_v (by
    simp only [runOp]
    cases s.eval c with
    | none => rfl
    | some v => cases v <;> try rfl
                rename_i v
                cases v <;> try rfl
                rename_i x
                cases x <;> exact bind_ret) fun _ _ => rfl

theorem w_alloc {z : List AV} : wpOps E (⟨dst, none, .alloc z⟩ :: r) s K = wpOps E r ((s.toH (s.h.alloc (.cells z true))).put dst (.ptr s.h.next 0)) K :=
  wpOps_vh (o := some (.ptr s.h.next 0, s.h.alloc (.cells z true))) rfl fun _ _ => rfl

theorem w_box {x : Opd} : wpOps E (⟨dst, none, .box x⟩ :: r) s K = withV ((s.eval x).bind AV.cells) fun l => wpOps E r ((s.toH (s.h.alloc (.cells l true))).put dst (.ptr s.h.next 0)) K := by
  rw [wpOps_vh (o := ((s.eval x).bind AV.cells).map fun l => (.ptr s.h.next 0, s.h.alloc (.cells l true)))]
  · cases (s.eval x).bind AV.cells <;> rfl
  · simp only [runOp]
    cases (s.eval x).bind AV.cells <;> rfl
  · exact fun _ _ => rfl

theorem w_build {z : List AV} {ps : List (Nat × Nat × Opd)} : wpOps E (⟨dst, none, .build z ps⟩ :: r) s K = withV (fill s z ps) fun cs => wpOps E r (s.put dst (.agg cs)) K := by
  rw [wpOps_v (o := (fill s z ps).map .agg)]
  · cases fill s z ps <;> rfl
  · simp only [runOp]
    cases fill s z ps <;> rfl
  · exact fun _ _ => rfl

theorem w_buildSlice {es n : Nat} {z : List AV} {ps : List (Nat × Nat × Opd)} : wpOps E (⟨dst, none, .buildSlice es n z ps⟩ :: r) s K = withV (fill s z ps) fun cs => wpOps E r ((s.toH (s.h.alloc (.cells cs true))).put dst (.own s.h.next 0 n es (some n))) K := by
  rw [wpOps_vh (o := (fill s z ps).map fun cs => (.own s.h.next 0 n es (some n), s.h.alloc (.cells cs true)))]
  · cases fill s z ps <;> rfl
  · simp only [runOp]
    cases fill s z ps <;> rfl
  · exact fun _ _ => rfl

theorem w_load {n : Option Nat} {x : Opd} : wpOps E (⟨dst, none, .load n x⟩ :: r) s K = withV (s.eval x) fun v => withV (cellsFrom E.globs s.h v) fun cs => withV (takeN n cs) fun v => wpOps E r (s.put dst v) K := by
  rw [wpOps_v (o := (s.eval x).bind fun v => (cellsFrom E.globs s.h v).bind (takeN n))]
  · cases s.eval x with
    | none => rfl
    | some v => cases hc : cellsFrom E.globs s.h v with
      | none => simp only [Option.bind_some, hc, withV_some]; rfl
      | some cs => simp only [Option.bind_some, hc, withV_some]
  · simp only [runOp]
    cases s.eval x with
    | none => rfl
    | some v => exact bind_ret
  · exact fun _ _ => rfl

def storeH (h : AH) (n : Nat) (a : AV) (l : List AV) : Option AH := match a with
  | .ptr b off => match h.get b with
    | some (.cells cs true) => bif Nat.beq l.length n && Nat.ble (off + n) cs.length then some (h.put b (some (.cells (putAt cs off l) true))) else none
    | _ => none
  | _ => none
theorem w_store {n : Nat} {a x : Opd} : wpOps E (⟨none, none, .store n a x⟩ :: r) s K = withV (s.eval a) fun a => withV ((s.eval x).bind AV.cells) fun l => withV (storeH s.h n a l) fun h => wpOps E r (s.toH h) K := by
  rw [wpOps_vh (o := (s.eval a).bind fun a => ((s.eval x).bind AV.cells).bind fun l => (storeH s.h n a l).map fun h => (undefA, h))]
  · cases s.eval a with
    | none => rfl
    | some a => cases (s.eval x).bind AV.cells with
      | none => rfl
      | some l =>
        simp only [Option.bind_some, withV_some]
        cases storeH s.h n a l <;> rfl
  · simp only [runOp]
    cases s.eval a with
    | none => rfl
    | some a => cases (s.eval x).bind AV.cells with
      | none => cases a <;> rfl
      | some l =>
        cases a <;> try rfl
        rename_i b off
        simp only [Option.bind_some, storeH]
        generalize s.h.get b = o
        cases o with
        | none => rfl
        | some k =>
          cases k <;> try rfl
          rename_i cs rw
          cases rw
          · rfl
          · show (bif _ then _ else _) = Option.map _ (Option.map _ (bif _ then _ else _))
            generalize (Nat.beq l.length n && Nat.ble (off + n) cs.length) = c
            cases c <;> rfl
  · exact fun _ _ => rfl

theorem w_bin {op : BinOp} {t : TypeId} {g : Bool} {x y : Opd} : wpOps E (⟨dst, none, .bin op t g x y⟩ :: r) s K = withV (s.eval x) fun a => withV (s.eval y) fun b => withV (binA E.P op t g a b) fun v => wpOps E r (s.put dst v) K := by
  rw [wpOps_v (o := (s.eval x).bind fun a => (s.eval y).bind fun b => binA E.P op t g a b)]
  · cases s.eval x with
    | none => rfl
    | some a => cases s.eval y with
      | none => rfl
      | some b => rfl
  · simp only [runOp]
    cases s.eval x with
    | none => rfl
    | some a => cases s.eval y with
      | none => rfl
      | some b => exact bind_ret
  · exact fun _ _ => rfl

def unV (P : Program) (op : UnOp) (x : AV) : Option AV := match x with
  | .val v => (evalPure P (Op.unary op v)).bind ofFlat
  | _ => none
theorem w_un {op : UnOp} {x : Opd} : wpOps E (⟨dst, none, .un op x⟩ :: r) s K = withV (s.eval x) fun a => withV (unV E.P op a) fun v => wpOps E r (s.put dst v) K := by
  rw [wpOps_v (o := (s.eval x).bind (unV E.P op))]
  · cases s.eval x <;> rfl
  · simp only [runOp]
    cases s.eval x with
    | none => rfl
    | some a => cases a <;> first | rfl | exact bind_ret
  · exact fun _ _ => rfl

def fieldAddrV (off : Nat) (x : AV) : Option AV := match x with
  | .ptr b o => some (.ptr b (o + off))
  | .iptr cs => bif Nat.ble off cs.length then some (.iptr (cs.drop off)) else none
  | .val (.pointer (some ⟨g, o, none⟩)) => some (.val (.pointer (some ⟨g, o + off, none⟩)))
  | _ => none
theorem w_fieldAddr {off : Nat} {x : Opd} : wpOps E (⟨dst, none, .fieldAddr off x⟩ :: r) s K = withV (s.eval x) fun a => withV (fieldAddrV off a) fun v => wpOps E r (s.put dst v) K := by
  rw [wpOps_v (o := (s.eval x).bind (fieldAddrV off))]
  · cases s.eval x <;> rfl
  · simp only [runOp]
    cases s.eval x with
    | none => rfl
    | some a =>
      simp only [Option.bind_some, fieldAddrV]
      cases a <;> try rfl
      · rename_i v
        cases v <;> try rfl
        rename_i p
        cases p with
        | none => rfl
        | some p =>
          obtain ⟨g, o, sp⟩ := p
          cases sp <;> rfl
      · exact bif_ret
  · exact fun _ _ => rfl

def idxAddrSV (es : Nat) (x : AV) (i : Nat) : Option AV := match x with
  | .imm cs n _ => bif Nat.blt i n && Nat.ble (i * es) cs.length then some (.iptr (cs.drop (i * es))) else none
  | .own b off n es' _ => bif Nat.blt i n && Nat.beq es es' then some (.ptr b (off + i * es)) else none
  | _ => none
theorem w_idxAddrS {es : Nat} {x i : Opd} : wpOps E (⟨dst, none, .idxAddrS es x i⟩ :: r) s K = withV (s.eval x) fun a => withV ((s.eval i).bind asN) fun i => withV (idxAddrSV es a i) fun v => wpOps E r (s.put dst v) K := by
  rw [wpOps_v (o := (s.eval x).bind fun a => ((s.eval i).bind asN).bind fun i => idxAddrSV es a i)]
  · cases s.eval x with
    | none => rfl
    | some a => cases (s.eval i).bind asN <;> rfl
  · simp only [runOp]
    cases s.eval x with
    | none => rfl
    | some a => cases (s.eval i).bind asN with
      | none => cases a <;> rfl
      | some j =>
        simp only [Option.bind_some, idxAddrSV]
        cases a <;> try rfl
        · rename_i cs n c
          exact bif_ret
        · rename_i b o n es' c
          exact bif_ret
  · exact fun _ _ => rfl

def idxStrV (x : AV) (i : Nat) : Option AV := match x with
  | .val (.string b) => (b.data.toList[i]?).map fun c => .val (.int .u8 c.toNat)
  | _ => none
theorem w_idxStr {x i : Opd} : wpOps E (⟨dst, none, .idxStr x i⟩ :: r) s K = withV (s.eval x) fun a => withV ((s.eval i).bind asN) fun i => withV (idxStrV a i) fun v => wpOps E r (s.put dst v) K := by
  rw [wpOps_v (o := (s.eval x).bind fun a => ((s.eval i).bind asN).bind fun i => idxStrV a i)]
  · cases s.eval x with
    | none => rfl
    | some a => cases (s.eval i).bind asN <;> rfl
  · simp only [runOp]
    cases s.eval x with
    | none => rfl
    | some a => cases (s.eval i).bind asN with
      | none => cases a <;> first | rfl | (rename_i v; cases v <;> rfl)
      | some j =>
        simp only [Option.bind_some, idxStrV]
        cases a <;> try rfl
        rename_i v
        cases v <;> try rfl
        rename_i b
        show (match b.data.toList[j]? with | some c => some (AV.val (.int .u8 c.toNat), s) | none => none) = Option.map _ (Option.map _ (b.data.toList[j]?))
        generalize b.data.toList[j]? = o
        cases o <;> rfl
  · exact fun _ _ => rfl

def sliceStrV (x : AV) (lo hi : Option Nat) : Option AV := match x with
  | .val (.string b) => (sliceB b.size b.size lo hi none).map fun (l, h, _) => .val (.string (b.extract l h))
  | _ => none
theorem w_sliceStr {x : Opd} {lo hi : Option Opd} : wpOps E (⟨dst, none, .sliceStr x lo hi⟩ :: r) s K = withV (s.eval x) fun a => withV (optN s lo) fun lo => withV (optN s hi) fun hi => withV (sliceStrV a lo hi) fun v => wpOps E r (s.put dst v) K := by
  rw [wpOps_v (o := (s.eval x).bind fun a => (optN s lo).bind fun lo => (optN s hi).bind fun hi => sliceStrV a lo hi)]
  · cases s.eval x with
    | none => rfl
    | some a => cases optN s lo with
      | none => rfl
      | some lo => cases optN s hi <;> rfl
  · simp only [runOp]
    cases s.eval x with
    | none => rfl
    | some a => cases optN s lo with
      | none => cases a <;> first | rfl | (rename_i v; cases v <;> rfl)
      | some lo => cases optN s hi with
        | none => cases a <;> first | rfl | (rename_i v; cases v <;> rfl)
        | some hi =>
          simp only [Option.bind_some, sliceStrV]
          cases a <;> try rfl
          rename_i v
          cases v <;> try rfl
          rename_i b
          show (match sliceB b.size b.size lo hi none with | some (l, h, _) => some (AV.val (.string (b.extract l h)), s) | none => none) = Option.map _ (Option.map _ (sliceB b.size b.size lo hi none))
          generalize sliceB b.size b.size lo hi none = o
          cases o <;> rfl
  · exact fun _ _ => rfl

def extractV (i : Nat) (x : AV) : Option AV := match x with
  | .tup vs => vs[i]?
  | _ => none
theorem w_extract {i : Nat} {x : Opd} : wpOps E (⟨dst, none, .extract i x⟩ :: r) s K = withV (s.eval x) fun a => withV (extractV i a) fun v => wpOps E r (s.put dst v) K := by
  rw [wpOps_v (o := (s.eval x).bind (extractV i))]
  · cases s.eval x <;> rfl
  · simp only [runOp]
    cases s.eval x with
    | none => rfl
    | some a => cases a <;> first | rfl | exact bind_ret
  · exact fun _ _ => rfl

def lenV (x : AV) : Option AV := match x with
  | .val (.slice _ 0 _) => some (.val (.int .i64 0))
  | .imm _ n _ => some (.val (.int .i64 n))
  | .own _ _ n _ _ => some (.val (.int .i64 n))
  | _ => none
theorem w_lenS {x : Opd} : wpOps E (⟨dst, none, .lenS x⟩ :: r) s K = withV (s.eval x) fun a => withV (lenV a) fun v => wpOps E r (s.put dst v) K := by
  rw [wpOps_v (o := (s.eval x).bind lenV)]
  · cases s.eval x <;> rfl
  · simp only [runOp]
    cases s.eval x with
    | none => rfl
    | some a =>
      simp only [Option.bind_some, lenV]
      cases a <;> try rfl
      rename_i v
      cases v <;> try rfl
      rename_i p n c
      cases n <;> rfl
  · exact fun _ _ => rfl

def lenStrV (x : AV) : Option AV := match x with
  | .val (.string b) => some (.val (.int .i64 b.size))
  | _ => none
theorem w_lenStr {x : Opd} : wpOps E (⟨dst, none, .lenStr x⟩ :: r) s K = withV (s.eval x) fun a => withV (lenStrV a) fun v => wpOps E r (s.put dst v) K := by
  rw [wpOps_v (o := (s.eval x).bind lenStrV)]
  · cases s.eval x <;> rfl
  · simp only [runOp]
    cases s.eval x with
    | none => rfl
    | some a => cases a <;> first | rfl | (rename_i v; cases v <;> rfl)
  · exact fun _ _ => rfl

def maxV (l : List AV) : Option AV := match l with
  | .val (.int k a) :: r => (mostOf true k a r).map fun m => .val (.int k m)
  | _ => none
theorem w_maxI {l : List Opd} : wpOps E (⟨dst, none, .maxI l⟩ :: r) s K = withV (evalAll s l) fun l => withV (maxV l) fun v => wpOps E r (s.put dst v) K := by
  rw [wpOps_v (o := (evalAll s l).bind maxV)]
  · cases evalAll s l <;> rfl
  · simp only [runOp]
    cases evalAll s l with
    | none => rfl
    | some l =>
      simp only [Option.bind_some, maxV]
      cases l with
      | nil => rfl
      | cons a t =>
        cases a <;> try rfl
        rename_i v
        cases v <;> try rfl
        rename_i k a
        show (mostOf true k a t).bind (fun m => some (AV.val (.int k m), s)) = Option.map _ (Option.map _ (mostOf true k a t))
        generalize mostOf true k a t = o
        cases o <;> rfl
  · exact fun _ _ => rfl

theorem w_mkFunc {f : Fn} {a b : List Opd} : wpOps E (⟨dst, none, .mkFunc f a b⟩ :: r) s K = withV (evalAll s a) fun a => withV (evalAll s b) fun b => wpOps E r (s.put dst (.fn f a b)) K := by
  rw [wpOps_v (o := (evalAll s a).bind fun a => (evalAll s b).map fun b => .fn f a b)]
  · cases evalAll s a with
    | none => rfl
    | some a => cases evalAll s b <;> rfl
  · simp only [runOp]
    cases evalAll s a with
    | none => rfl
    | some a => cases evalAll s b <;> rfl
  · exact fun _ _ => rfl

theorem w_call {f : Nat} {l : List Opd} : wpOps E (⟨dst, none, .call f l⟩ :: r) s K = withV (evalAll s l) fun l => CallTo E (.f f) l s.h fun v h => wpOps E r ((s.toH h).put dst v) K := by
  simp only [wpOps, wantedA, withV_some, true_implies, Bool.true_eq_false, false_implies, and_true, wpOp]
  rfl

theorem w_callv {x : Opd} {l : List Opd} {b : Nat} (hx : s.eval x = some (.yld b)) : wpOps E (⟨dst, none, .callv x l⟩ :: r) s K = withV (evalAll s l) fun l => CallTo E (.y b) l s.h fun v h => wpOps E r ((s.toH h).put dst v) K := by
  simp only [wpOps, wantedA, withV_some, true_implies, Bool.true_eq_false, false_implies, and_true, wpOp, hx]
  rfl

theorem w_append {es bytes : Nat} {sl x : Opd} : wpOps E (⟨dst, none, .append es bytes sl x⟩ :: r) s K = withV (appendA s es bytes sl x) fun (v, s') => wpOps E r ({ s' with round := s.round }.put dst v) K := by
  simp only [wpOps, wantedA, withV_some, true_implies, Bool.true_eq_false, false_implies, and_true, wpOp]
  rfl

theorem evalAll_nil : evalAll s [] = some [] := rfl
theorem evalAll_cons {x : Opd} {l : List Opd} {v : AV} {vs : List AV} (h : s.eval x = some v) (k : evalAll s l = some vs) : evalAll s (x :: l) = some (v :: vs) := by
  simp only [evalAll, h, k]

/-! ### code -/
variable {Q : Ex → St → Prop}
def seqK (E : Env) (b : ACode) (Q : Ex → St → Prop) (e : Ex) (s : St) : Prop := match e with
  | .normal => wp E b s Q
  | e => Q e s
def blockK (id : Nat) (Q : Ex → St → Prop) (e : Ex) (s : St) : Prop := match e with
  | .exit i => Q (bif Nat.beq i id then .normal else .exit i) s
  | e => Q e s
theorem c_skip : wp E .skip s Q = Q .normal s := rfl
theorem c_ret : wp E .ret s Q = Q .ret s := rfl
theorem c_exit {i : Nat} : wp E (.exit i) s Q = Q (.exit i) s := rfl
theorem c_region {ops : List AOper} : wp E (.region ops) s Q = wpOps E ops s (Q .normal) := rfl
theorem c_seq {a b : ACode} : wp E (.seq a b) s Q = wp E a s (seqK E b Q) := rfl
theorem c_block {id : Nat} {b : ACode} : wp E (.block id b) s Q = wp E b s (blockK id Q) := rfl
def boolV : AV → Option Bool
  | .val (.bool x) => some x
  | _ => none
theorem boolV_b {x : Bool} : boolV (.val (.bool x)) = some x := rfl
theorem c_cond {c : Opd} {a b : ACode} : wp E (.cond c a b) s Q = withV ((s.eval c).bind boolV) fun x => ifP x (wp E a s Q) (wp E b s Q) := by
  simp only [wp]
  cases s.eval c with
  | none => rfl
  | some v =>
    cases v <;> try rfl
    rename_i v
    cases v <;> try rfl
    rename_i x
    exact propext (ifP_iff (b := x)).symm
theorem k_normal {b : ACode} : seqK E b Q .normal s = wp E b s Q := rfl
theorem k_ret {b : ACode} : seqK E b Q .ret s = Q .ret s := rfl
theorem k_exit {b : ACode} {i : Nat} : seqK E b Q (.exit i) s = Q (.exit i) s := rfl
theorem b_normal {id : Nat} : blockK id Q .normal s = Q .normal s := rfl
theorem b_ret {id : Nat} : blockK id Q .ret s = Q .ret s := rfl
theorem b_exit {id i : Nat} : blockK id Q (.exit i) s = Q (bif Nat.beq i id then .normal else .exit i) s := rfl

def loopK (E : Env) (l : ACode) (Q : Ex → St → Prop) (e : Ex) (s : St) : Prop := match e with
  | .normal => Run E l s Q
  | e => Q e s
theorem loop_of {l b : ACode} (hl : l = .loop b) (h : wp E b s (loopK E l Q)) : Run E l s Q := by
  subst hl
  refine Run.loop ((wp_run _ _ _ h).mono fun e s' k => ?_)
  cases e <;> exact k
theorem l_normal {l : ACode} : loopK E l Q .normal s = Run E l s Q := rfl
theorem l_ret {l : ACode} : loopK E l Q .ret s = Q .ret s := rfl
theorem l_exit {l : ACode} {i : Nat} : loopK E l Q (.exit i) s = Q (.exit i) s := rfl

/-! ### values -/
theorem n_eqb (k : IntKind) : (k == k) = true := by cases k <;> rfl
theorem v_lss {P : Program} {t : TypeId} {g : Bool} {k : IntKind} {a b : Int} : binA P .lss t g (.val (.int k a)) (.val (.int k b)) = some (.val (.bool (decide (a < b)))) := by simp only [binA, binInt, n_eqb, cond_true]
theorem v_leq {P : Program} {t : TypeId} {g : Bool} {k : IntKind} {a b : Int} : binA P .leq t g (.val (.int k a)) (.val (.int k b)) = some (.val (.bool (decide (a ≤ b)))) := by simp only [binA, binInt, n_eqb, cond_true]
theorem v_gtr {P : Program} {t : TypeId} {g : Bool} {k : IntKind} {a b : Int} : binA P .gtr t g (.val (.int k a)) (.val (.int k b)) = some (.val (.bool (decide (b < a)))) := by simp only [binA, binInt, n_eqb, cond_true]
theorem v_geq {P : Program} {t : TypeId} {g : Bool} {k : IntKind} {a b : Int} : binA P .geq t g (.val (.int k a)) (.val (.int k b)) = some (.val (.bool (decide (b ≤ a)))) := by simp only [binA, binInt, n_eqb, cond_true]
theorem v_eql {P : Program} {t : TypeId} {g : Bool} {k : IntKind} {a b : Int} : binA P .eql t g (.val (.int k a)) (.val (.int k b)) = some (.val (.bool (decide (a = b)))) := by simp only [binA, binInt, n_eqb, cond_true] <;> rfl
theorem v_neq {P : Program} {t : TypeId} {g : Bool} {k : IntKind} {a b : Int} : binA P .neq t g (.val (.int k a)) (.val (.int k b)) = some (.val (.bool (!decide (a = b)))) := by simp only [binA, binInt, n_eqb, cond_true] <;> rfl
theorem v_add {P : Program} {t : TypeId} {g : Bool} {k : IntKind} {a b : Int} : binA P .add t g (.val (.int k a)) (.val (.int k b)) = some (.val (.int k (k.wrap (a + b)))) := by simp only [binA, binInt, n_eqb, cond_true]
theorem v_sub {P : Program} {t : TypeId} {g : Bool} {k : IntKind} {a b : Int} : binA P .sub t g (.val (.int k a)) (.val (.int k b)) = some (.val (.int k (k.wrap (a - b)))) := by simp only [binA, binInt, n_eqb, cond_true]
theorem v_mul {P : Program} {t : TypeId} {g : Bool} {k : IntKind} {a b : Int} : binA P .mul t g (.val (.int k a)) (.val (.int k b)) = some (.val (.int k (k.wrap (a * b)))) := by simp only [binA, binInt, n_eqb, cond_true]
theorem v_quo {P : Program} {t : TypeId} {g : Bool} {k : IntKind} {a b : Int} (h : b ≠ 0) : binA P .quo t g (.val (.int k a)) (.val (.int k b)) = some (.val (.int k (k.wrap (a.tdiv b)))) := by
  have : (b == 0) = false := by simpa using h
  simp only [binA, binInt, n_eqb, cond_true, this, cond_false]
def strEq (a b : ByteArray) : Bool := eqBytes a.data.toList b.data.toList
theorem v_seql {P : Program} {t : TypeId} {g : Bool} {a b : ByteArray} : binA P .eql t g (.val (.string a)) (.val (.string b)) = some (.val (.bool (strEq a b))) := by simp only [binA, binStr, Option.map_some, strEq]
theorem v_sneq {P : Program} {t : TypeId} {g : Bool} {a b : ByteArray} : binA P .neq t g (.val (.string a)) (.val (.string b)) = some (.val (.bool (!strEq a b))) := by simp only [binA, binStr, Option.map_some, strEq]
theorem v_not {P : Program} {b : Bool} : unV P .not (.val (.bool b)) = some (.val (.bool (!b))) := by cases b <;> rfl
theorem v_pick {b : Bool} {x y : AV} : pickV (some (.val (.bool b))) (some x) (some y) = some (bif b then x else y) := by cases b <;> rfl
theorem n_cast {k : IntKind} {i : Nat} : asN (.val (.int k (Nat.cast i))) = some i := rfl
theorem n_lit {k : IntKind} {i : Nat} : asN (.val (.int k (OfNat.ofNat i))) = some i := rfl

/-! ### where cells lie -/
theorem fa_ptr {off b o : Nat} : fieldAddrV off (.ptr b o) = some (.ptr b (o + off)) := rfl
def cfB (o : Option Blk) (off : Nat) : Option (List AV) := match o with
  | some (.cells cs _) => bif Nat.ble off cs.length then some (cs.drop off) else none
  | _ => none
theorem cf_ptr {G : Nat → Option (List AV)} {h : AH} {b off : Nat} : cellsFrom G h (.ptr b off) = cfB (h.get b) off := rfl
theorem cf_iptr {G : Nat → Option (List AV)} {h : AH} {cs : List AV} : cellsFrom G h (.iptr cs) = some cs := rfl
theorem e_next : AH.empty.next = 0 := rfl
theorem a_next {h : AH} {x : Blk} : (h.alloc x).next = h.next + 1 := rfl
theorem p_next {h : AH} {b : Nat} {x : Option Blk} : (h.put b x).next = h.next := rfl
theorem cfN {off : Nat} : cfB none off = none := rfl
theorem v_neg {P : Program} {n : Int} : unV P .neg (.val (.int .i64 n)) = some (.val (.int .i64 (IntKind.i64.wrap (0 - n)))) := rfl
theorem v_max {a b : Nat} : maxV [.val (.int .i64 (a : Int)), .val (.int .i64 (b : Int))] = some (.val (.int .i64 ((max a b : Nat) : Int))) := by
  have h : (IntKind.i64 == IntKind.i64) = true := rfl
  have k : max (a : Int) (b : Int) = ((max a b : Nat) : Int) := by omega
  simp only [maxV, mostOf, h, cond_true, Option.map_some, k]
theorem x_0 {a : AV} {l : List AV} : extractV 0 (.tup (a :: l)) = some a := rfl
theorem x_1 {a b : AV} {l : List AV} : extractV 1 (.tup (a :: b :: l)) = some b := rfl
theorem x_2 {a b c : AV} {l : List AV} : extractV 2 (.tup (a :: b :: c :: l)) = some c := rfl
theorem evalAll_c {s : St} {x : Opd} {l : List Opd} : evalAll s (x :: l) = (s.eval x).bind fun a => (evalAll s l).map fun l => a :: l := by
  simp only [evalAll]
  cases s.eval x with
  | none => rfl
  | some v => cases evalAll s l <;> rfl
theorem enter_t {l : List AV} {i : Nat} {v : AV} {h : AH} {r : Option Nat} (hv : (enterTm l 0 .nil).get i = some v) : St.eval { tm := enterTm l 0 .nil, h, defers := [], round := r } (.t i) = some v := hv

/-! ### answers -/
theorem r_nil {G : Nat → Option (List AV)} : resultsA G s [] = some [] := rfl
theorem r_tmp {G : Nat → Option (List AV)} {t : Nat} {l : List ARes} : resultsA G s (.tmp t :: l) = (s.eval (.t t)).bind fun v => (resultsA G s l).map fun l => v :: l := by
  have h : s.eval (.t t) = s.tm.get t := rfl
  rw [h]
  simp only [resultsA]
  cases s.tm.get t with
  | none => rfl
  | some v => cases resultsA G s l <;> rfl
theorem r_cell {G : Nat → Option (List AV)} {t : Nat} {n : Option Nat} {l : List ARes} : resultsA G s (.cell t n :: l) = (s.eval (.t t)).bind fun v => (cellsFrom G s.h v).bind fun cs => (takeN n cs).bind fun v => (resultsA G s l).map fun l => v :: l := by
  have h : s.eval (.t t) = s.tm.get t := rfl
  rw [h]
  simp only [resultsA]
  cases s.tm.get t with
  | none => rfl
  | some v =>
    simp only [Option.bind_some]
    cases hc : cellsFrom G s.h v with
    | none => simp only [Option.bind_none]
    | some cs =>
      simp only [Option.bind_some]
      cases resultsA G s l with
      | none => cases takeN n cs <;> rfl
      | some l =>
        show Option.map (fun x => x :: l) (takeN n cs) = _
        cases takeN n cs <;> rfl

/-! ### trees -/
/-- What neither freezing nor unfolding turns. -/
def Leaf (v : AV) : Prop := (∀ h n, toTree h (n + 1) v = some v) ∧ ∀ h n, freeze (n + 1) v h = h
def Tree (v : AV) : Prop := (∀ h n, toTree h (n + 2) v = some v) ∧ ∀ h n, freeze (n + 2) v h = h

theorem Leaf.val (v : Value) : Leaf (.val v) := ⟨fun _ _ => rfl, fun _ _ => rfl⟩
theorem Leaf.imm (cs : List AV) (n : Nat) (c : Option Nat) : Leaf (.imm cs n c) := ⟨fun _ _ => rfl, fun _ _ => rfl⟩
theorem Leaf.tree {v : AV} (h : Leaf v) : Tree v := ⟨fun a n => h.1 a (n + 1), fun a n => h.2 a (n + 1)⟩
theorem Tree.val (v : Value) : Tree (.val v) := (Leaf.val v).tree

theorem leaves_map {h : AH} {n : Nat} : ∀ {l : List AV}, (∀ v ∈ l, Leaf v) → l.mapM (toTree h (n + 1)) = some l
  | [], _ => rfl
  | v :: l, k => by
    rw [List.mapM_cons, (k v List.mem_cons_self).1, leaves_map fun x hx => k x (List.mem_cons_of_mem _ hx)]
    rfl
theorem leaves_fold {n : Nat} : ∀ {l : List AV} {h : AH}, (∀ v ∈ l, Leaf v) → l.foldl (fun h c => freeze (n + 1) c h) h = h
  | [], _, _ => rfl
  | v :: l, h, k => by
    rw [List.foldl_cons, (k v List.mem_cons_self).2]
    exact leaves_fold fun x hx => k x (List.mem_cons_of_mem _ hx)

theorem Tree.agg {l : List AV} (k : ∀ v ∈ l, Leaf v) : Tree (.agg l) :=
  ⟨fun h n => (show (l.mapM (toTree h (n + 1))).map AV.agg = _ by rw [leaves_map k]; rfl), fun h n => (show l.foldl (fun h c => freeze (n + 1) c h) h = h from leaves_fold k)⟩
theorem Tree.tup {l : List AV} (k : ∀ v ∈ l, Leaf v) : Tree (.tup l) :=
  ⟨fun h n => (show (l.mapM (toTree h (n + 1))).map AV.tup = _ by rw [leaves_map k]; rfl), fun h n => (show l.foldl (fun h c => freeze (n + 1) c h) h = h from leaves_fold k)⟩
theorem Tree.two (a b : Value) : Tree (.tup [.val a, .val b]) := Tree.tup fun v hv => by
  simp only [List.mem_cons, List.mem_nil_iff, or_false] at hv
  rcases hv with rfl | rfl <;> exact Leaf.val _
theorem Tree.three (a b c : Value) : Tree (.tup [.val a, .val b, .val c]) := Tree.tup fun v hv => by
  simp only [List.mem_cons, List.mem_nil_iff, or_false] at hv
  rcases hv with rfl | rfl | rfl <;> exact Leaf.val _

theorem trees_map {h : AH} : ∀ {l : List AV}, (∀ v ∈ l, Tree v) → mapTree h l = some l
  | [], _ => rfl
  | v :: l, k => by
    have h1 : toTree h deepest v = some v := (k v List.mem_cons_self).1 h 58
    simp only [mapTree, h1, trees_map fun x hx => k x (List.mem_cons_of_mem _ hx)]
theorem trees_fold : ∀ {l : List AV} {h : AH}, (∀ v ∈ l, Tree v) → l.foldl (fun h v => freeze deepest v h) h = h
  | [], _, _ => rfl
  | v :: l, h, k => by
    have h1 : freeze deepest v h = h := (k v List.mem_cons_self).2 h 58
    rw [List.foldl_cons, h1]
    exact trees_fold fun x hx => k x (List.mem_cons_of_mem _ hx)

theorem call_tree {g : Nat} {l : List AV} {r : AV} (hs : E.shared.get g = none) (hk : E.known g l = none) (hl : ∀ v ∈ l, Tree v) (hr : isFlat r = true) (ht : Tree r) (a : Ans E g l r) (h : AH) : RunCall E (.f g) l h r h :=
  call_ans hs hk (trees_map hl) (trees_fold hl) hr (fun hc => ht.1 _ 58) a

theorem mem1 {p : AV → Prop} {a : AV} (h : p a) : ∀ v ∈ [a], p v := fun v hv => by
  rw [List.mem_singleton.1 hv]; exact h
theorem mem2 {p : AV → Prop} {a b : AV} (h : p a) (k : p b) : ∀ v ∈ [a, b], p v := fun v hv => by
  simp only [List.mem_cons, List.mem_nil_iff, or_false] at hv
  rcases hv with rfl | rfl
  · exact h
  · exact k
theorem mem3 {p : AV → Prop} {a b c : AV} (h : p a) (k : p b) (m : p c) : ∀ v ∈ [a, b, c], p v := fun v hv => by
  simp only [List.mem_cons, List.mem_nil_iff, or_false] at hv
  rcases hv with rfl | rfl | rfl
  · exact h
  · exact k
  · exact m

end Go.AM

/- The rules once more, without functions in their right sides: plain rewriting goes from one operation to the next. -/
namespace Go.AM
set_option linter.all false

variable {E : Env} {s : St} {K : St → Prop} {r : List AOper} {d : Nat} {dst : Option Nat} {Q : Ex → St → Prop}

def stepV (E : Env) (r : List AOper) (s : St) (dst : Option Nat) (K : St → Prop) (o : Option AV) : Prop := withV o fun v => wpOps E r (s.put dst v) K
def stepH (E : Env) (r : List AOper) (s : St) (dst : Option Nat) (K : St → Prop) (o : Option (AV × AH)) : Prop := withV o fun (v, h) => wpOps E r ((s.toH h).put dst v) K
def stepS (E : Env) (r : List AOper) (s : St) (K : St → Prop) (o : Option AH) : Prop := withV o fun h => wpOps E r (s.toH h) K
theorem stepV_some {v : AV} : stepV E r s dst K (some v) = wpOps E r (s.put dst v) K := rfl
theorem stepH_some {v : AV} {h : AH} : stepH E r s dst K (some (v, h)) = wpOps E r ((s.toH h).put dst v) K := rfl
theorem stepS_some {h : AH} : stepS E r s K (some h) = wpOps E r (s.toH h) K := rfl

/-- The next guarded operation. -/
def guardK (E : Env) (dst : Option Nat) (op : AOp) (r : List AOper) (s : St) (K : St → Prop) (o : Option Bool) : Prop := match o with
  | some true => wpOps E (⟨dst, none, op⟩ :: r) s K
  | some false => wpOps E r (s.put dst undefA) K
  | none => False
theorem guardK_t {op : AOp} : guardK E dst op r s K (some true) = wpOps E (⟨dst, none, op⟩ :: r) s K := rfl
theorem guardK_f {op : AOp} : guardK E dst op r s K (some false) = wpOps E r (s.put dst undefA) K := rfl
theorem s_g {t : Nat} {b : Bool} {op : AOp} : wpOps E (⟨dst, some (t, b), op⟩ :: r) s K = guardK E dst op r s K (wantedV (s.eval (.t t)) b) := by
  rw [wpOps_g]
  cases wantedV (s.eval (.t t)) b with
  | none => rfl
  | some g => cases g <;> rfl

def condK (E : Env) (a b : ACode) (s : St) (Q : Ex → St → Prop) (o : Option AV) : Prop := match o with
  | some (.val (.bool true)) => wp E a s Q
  | some (.val (.bool false)) => wp E b s Q
  | _ => False
theorem condK_t {a b : ACode} : condK E a b s Q (some (.val (.bool true))) = wp E a s Q := rfl
theorem condK_f {a b : ACode} : condK E a b s Q (some (.val (.bool false))) = wp E b s Q := rfl
theorem s_cond {c : Opd} {a b : ACode} : wp E (.cond c a b) s Q = condK E a b s Q (s.eval c) := by
  rw [c_cond]
  cases s.eval c with
  | none => rfl
  | some v =>
    cases v <;> try rfl
    rename_i v
    cases v <;> try rfl
    rename_i x
    cases x <;> rfl

theorem s_mv {x : Opd} : wpOps E (⟨dst, none, .mv x⟩ :: r) s K = stepV E r s dst K (s.eval x) := w_mv
theorem s_pick {c a b : Opd} : wpOps E (⟨dst, none, .pick c a b⟩ :: r) s K = stepV E r s dst K (pickV (s.eval c) (s.eval a) (s.eval b)) := w_pick
def boxO (h : AH) : Option (List AV) → Option (AV × AH)
  | some l => some (.ptr h.next 0, h.alloc (.cells l true))
  | none => none
theorem boxO_some {h : AH} {l : List AV} : boxO h (some l) = some (.ptr h.next 0, h.alloc (.cells l true)) := rfl
theorem s_box {x : Opd} : wpOps E (⟨dst, none, .box x⟩ :: r) s K = stepH E r s dst K (boxO s.h ((s.eval x).bind AV.cells)) := by
  rw [w_box]
  cases (s.eval x).bind AV.cells <;> rfl
def aggO : Option (List AV) → Option AV
  | some l => some (.agg l)
  | none => none
theorem aggO_some {l : List AV} : aggO (some l) = some (.agg l) := rfl
theorem s_build {z : List AV} {ps : List (Nat × Nat × Opd)} : wpOps E (⟨dst, none, .build z ps⟩ :: r) s K = stepV E r s dst K (aggO (fill s z ps)) := by
  rw [w_build]
  cases fill s z ps <;> rfl
def ownO (h : AH) (es n : Nat) : Option (List AV) → Option (AV × AH)
  | some l => some (.own h.next 0 n es (some n), h.alloc (.cells l true))
  | none => none
theorem ownO_some {h : AH} {es n : Nat} {l : List AV} : ownO h es n (some l) = some (.own h.next 0 n es (some n), h.alloc (.cells l true)) := rfl
theorem s_buildSlice {es n : Nat} {z : List AV} {ps : List (Nat × Nat × Opd)} : wpOps E (⟨dst, none, .buildSlice es n z ps⟩ :: r) s K = stepH E r s dst K (ownO s.h es n (fill s z ps)) := by
  rw [w_buildSlice]
  cases fill s z ps <;> rfl
theorem s_load {n : Option Nat} {x : Opd} : wpOps E (⟨dst, none, .load n x⟩ :: r) s K = stepV E r s dst K (((s.eval x).bind (cellsFrom E.globs s.h)).bind (takeN n)) := by
  rw [w_load]
  cases s.eval x with
  | none => rfl
  | some v =>
    simp only [withV_some, Option.bind_some]
    cases cellsFrom E.globs s.h v <;> rfl
def storeO (h : AH) (n : Nat) : Option AV → Option (List AV) → Option AH
  | some a, some l => storeH h n a l
  | _, _ => none
theorem storeO_some {h : AH} {n : Nat} {a : AV} {l : List AV} : storeO h n (some a) (some l) = storeH h n a l := rfl
theorem s_store {n : Nat} {a x : Opd} : wpOps E (⟨none, none, .store n a x⟩ :: r) s K = stepS E r s K (storeO s.h n (s.eval a) ((s.eval x).bind AV.cells)) := by
  rw [w_store]
  cases s.eval a with
  | none => rfl
  | some a => cases (s.eval x).bind AV.cells <;> rfl
def binO (P : Program) (op : BinOp) (t : TypeId) (g : Bool) : Option AV → Option AV → Option AV
  | some a, some b => binA P op t g a b
  | _, _ => none
theorem binO_some {P : Program} {op : BinOp} {t : TypeId} {g : Bool} {a b : AV} : binO P op t g (some a) (some b) = binA P op t g a b := rfl
theorem s_bin {op : BinOp} {t : TypeId} {g : Bool} {x y : Opd} : wpOps E (⟨dst, none, .bin op t g x y⟩ :: r) s K = stepV E r s dst K (binO E.P op t g (s.eval x) (s.eval y)) := by
  rw [w_bin]
  cases s.eval x with
  | none => rfl
  | some a => cases s.eval y <;> rfl
theorem s_un {op : UnOp} {x : Opd} : wpOps E (⟨dst, none, .un op x⟩ :: r) s K = stepV E r s dst K ((s.eval x).bind (unV E.P op)) := by
  rw [w_un]
  cases s.eval x <;> rfl
theorem s_fieldAddr {off : Nat} {x : Opd} : wpOps E (⟨dst, none, .fieldAddr off x⟩ :: r) s K = stepV E r s dst K ((s.eval x).bind (fieldAddrV off)) := by
  rw [w_fieldAddr]
  cases s.eval x <;> rfl
def idxO (es : Nat) : Option AV → Option Nat → Option AV
  | some a, some i => idxAddrSV es a i
  | _, _ => none
theorem idxO_some {es i : Nat} {a : AV} : idxO es (some a) (some i) = idxAddrSV es a i := rfl
theorem s_idxAddrS {es : Nat} {x i : Opd} : wpOps E (⟨dst, none, .idxAddrS es x i⟩ :: r) s K = stepV E r s dst K (idxO es (s.eval x) ((s.eval i).bind asN)) := by
  rw [w_idxAddrS]
  cases s.eval x with
  | none => rfl
  | some a => cases (s.eval i).bind asN <;> rfl
def idxSO : Option AV → Option Nat → Option AV
  | some a, some i => idxStrV a i
  | _, _ => none
theorem idxSO_some {i : Nat} {a : AV} : idxSO (some a) (some i) = idxStrV a i := rfl
theorem s_idxStr {x i : Opd} : wpOps E (⟨dst, none, .idxStr x i⟩ :: r) s K = stepV E r s dst K (idxSO (s.eval x) ((s.eval i).bind asN)) := by
  rw [w_idxStr]
  cases s.eval x with
  | none => rfl
  | some a => cases (s.eval i).bind asN <;> rfl
def sliceO : Option AV → Option (Option Nat) → Option (Option Nat) → Option AV
  | some a, some lo, some hi => sliceStrV a lo hi
  | _, _, _ => none
theorem sliceO_some {a : AV} {lo hi : Option Nat} : sliceO (some a) (some lo) (some hi) = sliceStrV a lo hi := rfl
theorem s_sliceStr {x : Opd} {lo hi : Option Opd} : wpOps E (⟨dst, none, .sliceStr x lo hi⟩ :: r) s K = stepV E r s dst K (sliceO (s.eval x) (optN s lo) (optN s hi)) := by
  rw [w_sliceStr]
  cases s.eval x with
  | none => rfl
  | some a => cases optN s lo with
    | none => rfl
    | some lo => cases optN s hi <;> rfl
theorem s_extract {i : Nat} {x : Opd} : wpOps E (⟨dst, none, .extract i x⟩ :: r) s K = stepV E r s dst K ((s.eval x).bind (extractV i)) := by
  rw [w_extract]
  cases s.eval x <;> rfl
theorem s_lenS {x : Opd} : wpOps E (⟨dst, none, .lenS x⟩ :: r) s K = stepV E r s dst K ((s.eval x).bind lenV) := by
  rw [w_lenS]
  cases s.eval x <;> rfl
theorem s_lenStr {x : Opd} : wpOps E (⟨dst, none, .lenStr x⟩ :: r) s K = stepV E r s dst K ((s.eval x).bind lenStrV) := by
  rw [w_lenStr]
  cases s.eval x <;> rfl
theorem s_maxI {l : List Opd} : wpOps E (⟨dst, none, .maxI l⟩ :: r) s K = stepV E r s dst K ((evalAll s l).bind maxV) := by
  rw [w_maxI]
  cases evalAll s l <;> rfl
def fnO (f : Fn) : Option (List AV) → Option (List AV) → Option AV
  | some a, some b => some (.fn f a b)
  | _, _ => none
theorem fnO_some {f : Fn} {a b : List AV} : fnO f (some a) (some b) = some (.fn f a b) := rfl
theorem s_mkFunc {f : Fn} {a b : List Opd} : wpOps E (⟨dst, none, .mkFunc f a b⟩ :: r) s K = stepV E r s dst K (fnO f (evalAll s a) (evalAll s b)) := by
  rw [w_mkFunc]
  cases evalAll s a with
  | none => rfl
  | some a => cases evalAll s b <;> rfl

/-- The next call. -/
def callK (E : Env) (f : Nat) (r : List AOper) (s : St) (dst : Option Nat) (K : St → Prop) (o : Option (List AV)) : Prop := withV o fun l => CallTo E (.f f) l s.h fun v h => wpOps E r ((s.toH h).put dst v) K
theorem s_call {f : Nat} {l : List Opd} : wpOps E (⟨dst, none, .call f l⟩ :: r) s K = callK E f r s dst K (evalAll s l) := w_call
theorem callK_all {f : Nat} {l : List AV} {v : AV} (h : ∀ h, RunCall E (.f f) l h v h) : callK E f r s dst K (some l) = wpOps E r (s.put dst v) K := by
  show CallTo E (.f f) l s.h _ = _
  exact propext (callTo_iff (h s.h))
theorem callK_to {f : Nat} {l : List AV} {v : AV} {h' : AH} (h : RunCall E (.f f) l s.h v h') : callK E f r s dst K (some l) = wpOps E r ((s.toH h').put dst v) K := by
  show CallTo E (.f f) l s.h _ = _
  exact propext (callTo_iff h)

def consO : Option AV → Option (List AV) → Option (List AV)
  | some a, some l => some (a :: l)
  | _, _ => none
theorem consO_some {a : AV} {l : List AV} : consO (some a) (some l) = some (a :: l) := rfl
theorem all_c {x : Opd} {l : List Opd} : evalAll s (x :: l) = consO (s.eval x) (evalAll s l) := by
  simp only [evalAll]
  cases s.eval x with
  | none => rfl
  | some v => cases evalAll s l <;> rfl
theorem res_tmp {G : Nat → Option (List AV)} {t : Nat} {l : List ARes} : resultsA G s (.tmp t :: l) = consO (s.eval (.t t)) (resultsA G s l) := by
  rw [r_tmp]
  cases s.eval (.t t) with
  | none => rfl
  | some v => cases resultsA G s l <;> rfl
theorem res_cell {G : Nat → Option (List AV)} {t : Nat} {n : Option Nat} {l : List ARes} : resultsA G s (.cell t n :: l) = consO (((s.eval (.t t)).bind (cellsFrom G s.h)).bind (takeN n)) (resultsA G s l) := by
  rw [r_cell]
  cases s.eval (.t t) with
  | none => rfl
  | some v =>
    simp only [Option.bind_some]
    cases cellsFrom G s.h v with
    | none => rfl
    | some cs =>
      simp only [Option.bind_some]
      cases takeN n cs with
      | none => rfl
      | some x => cases resultsA G s l <;> rfl
theorem n_0 {k : IntKind} : asN (.val (.int k 0)) = some 0 := rfl
theorem n_1 {k : IntKind} : asN (.val (.int k 1)) = some 1 := rfl
end Go.AM

/- More rules: elements of rows. -/
namespace Go.AM
set_option linter.all false

variable {E : Env} {s : St} {K : St → Prop} {r : List AOper} {dst : Option Nat}

def idxAV (len es : Nat) (n : Option Nat) (x : AV) (i : Nat) : Option AV := match x with
  | .agg cs => bif Nat.blt i len && Nat.ble (i * es) cs.length then takeN n (cs.drop (i * es)) else none
  | _ => none
def idxAO (len es : Nat) (n : Option Nat) : Option AV → Option Nat → Option AV
  | some a, some i => idxAV len es n a i
  | _, _ => none
theorem idxAO_some {len es i : Nat} {n : Option Nat} {a : AV} : idxAO len es n (some a) (some i) = idxAV len es n a i := rfl
theorem s_idxA {len es : Nat} {n : Option Nat} {x i : Opd} : wpOps E (⟨dst, none, .idxA len es n x i⟩ :: r) s K = stepV E r s dst K (idxAO len es n (s.eval x) ((s.eval i).bind asN)) := by
  rw [wpOps_v (o := idxAO len es n (s.eval x) ((s.eval i).bind asN))]
  · rfl
  · simp only [runOp]
    cases s.eval x with
    | none => rfl
    | some a => cases (s.eval i).bind asN with
      | none => cases a <;> rfl
      | some j =>
        cases a <;> try rfl
        rename_i cs
        simp only [idxAO, idxAV]
        cases (Nat.blt j len && Nat.ble (j * es) cs.length) with
        | false => rfl
        | true => exact bind_ret
  · exact fun _ _ => rfl

end Go.AM

/- Regions that draw their order, where no operation writes: read in the text's order. -/
namespace Go.AM
set_option linter.all false

variable {E : Env} {s : St} {K : St → Prop}

def DrawTo (E : Env) (ops : List DOp) (done : List DRec) (s : St) (K : St → Prop) : Prop := ∃ s', Ev (fun n => runDraw E (callA E (exec E n)) ops done s = some s') ∧ K s'

theorem draw_nil {done : List DRec} (h : K s) : DrawTo E [] done s K := ⟨s, Ev.of fun _ => rfl, h⟩

theorem run_draw {ops : List DOp} {Q : Ex → St → Prop} (h : DrawTo E ops [] s (Q .normal)) : Run E (.draw ops) s Q := by
  obtain ⟨s', x, y⟩ := h
  exact ⟨_, _, (x.mono fun n p => by simp only [exec, p, Option.map_some] : Ev fun n => exec E (n + 1) (.draw ops) s = some (.normal, s')).step, y⟩

def Quiet (r : DRec) : Prop := r.D = [] ∧ r.lo = r.hi

theorem quiet_touch {r : DRec} (h : Quiet r) (l : List Nat) : touches r l = false := by
  obtain ⟨F, D, lo, hi⟩ := r
  obtain ⟨h1, h2⟩ := h
  simp only at h1 h2
  subst h1; subst h2
  unfold touches
  rw [List.any_eq_false]
  intro x _
  have : (Nat.ble lo x && Nat.blt x lo) = false := by
    cases a : Nat.ble lo x with
    | false => rfl
    | true =>
      cases b : Nat.blt x lo with
      | false => rfl
      | true =>
        have h1 := Nat.le_of_ble_eq_true a
        have h2 : x < lo := Nat.le_of_ble_eq_true b
        omega
  simp only [memN, List.any_nil, Bool.false_or, this, Bool.false_eq_true, not_false_eq_true]

theorem quiet_free {done : List DRec} {b : DRec} (hq : ∀ x ∈ done, Quiet x) (hb : Quiet b) : ∀ {l : List Nat}, (∀ i ∈ l, i < done.length) → freeOk done b l = true
  | [], _ => rfl
  | i :: r, h => by
    have hi := h i List.mem_cons_self
    have ha : Quiet done[i] := hq _ (List.getElem_mem hi)
    simp only [freeOk, List.getElem?_eq_getElem hi, recApart, quiet_touch ha, hb.1, List.any_nil, Bool.not_false, Bool.and_self, Bool.true_and]
    exact quiet_free hq hb fun j hj => h j (List.mem_cons_of_mem _ hj)

theorem draw_cons {d : DOp} {r : List DOp} {done : List DRec} {v : AV} {l : List Nat} (hq : ∀ x ∈ done, Quiet x) (hf : ∀ i ∈ d.free, i < done.length)
    (hs : Ev fun n => stepDraw E (callA E (exec E n)) d (nearOf done d.free) s = some (v, ⟨l, [], s.h.next, s.h.next⟩, s.h))
    (k : DrawTo E r (done ++ [⟨l, [], s.h.next, s.h.next⟩]) (s.put d.o.dst v) K) : DrawTo E (d :: r) done s K := by
  obtain ⟨s', x, y⟩ := k
  refine ⟨s', (hs.and x).mono fun n ⟨a, b⟩ => ?_, y⟩
  have hfree : freeOk done ⟨l, [], s.h.next, s.h.next⟩ d.free = true := quiet_free hq ⟨rfl, rfl⟩ hf
  simp only [runDraw, a, hfree, cond_true]
  cases hd : d.o.dst with
  | none => rw [hd] at b; exact b
  | some t => rw [hd] at b; exact b

theorem merge_same {h : AH} {l : List Nat} : mergeH h [] (restrictH h l) = h := by
  simp only [mergeH, restrictH, Nat.sub_self, copyNew, copyOld]

/-- What an operation of a drawn region sees. -/
def seen (s : St) (reads l : List Nat) : St := { tm := pickTm s.tm reads, h := restrictH s.h l, defers := [], round := s.round }

theorem step_op {d : DOp} {v : AV} {near : List Nat} (hg : d.o.guard = none) (hc : isCall d.o.op = false)
    (h1 : below s.h.next (idsL (pickTm s.tm d.reads).vals) = true)
    (h2 : knownH s.h (foot (seen s d.reads []) (idsL (pickTm s.tm d.reads).vals) d.o.op) = true)
    (ht : ∀ s', turned s' d.o.op = [])
    (hfoot : foot { tm := pickTm s.tm d.reads, h := s.h, defers := [], round := s.round } (idsL (pickTm s.tm d.reads).vals) d.o.op = foot (seen s d.reads []) (idsL (pickTm s.tm d.reads).vals) d.o.op)
    (ho : runOp E noCall (seen s d.reads (foot (seen s d.reads []) (idsL (pickTm s.tm d.reads).vals) d.o.op)) d.o.op = some (v, seen s d.reads (foot (seen s d.reads []) (idsL (pickTm s.tm d.reads).vals) d.o.op))) :
    Ev fun n => stepDraw E (callA E (exec E n)) d near s = some (v, ⟨foot (seen s d.reads []) (idsL (pickTm s.tm d.reads).vals) d.o.op, [], s.h.next, s.h.next⟩, s.h) := by
  refine Ev.of fun n => ?_
  have hn := runOp_noCall (call := callA E (exec E n)) ho
  simp only [seen] at hn
  simp only [stepDraw, hg, wantedA, hfoot, h1, h2, Bool.and_self, cond_true]
  simp only [seen] at *
  rw [hn]
  have hb : Nat.ble s.h.next s.h.next = true := Nat.ble_eq.mpr (Nat.le_refl _)
  have hm := merge_same (h := s.h) (l := foot { tm := pickTm s.tm d.reads, h := restrictH s.h [], defers := [], round := s.round } (idsL (pickTm s.tm d.reads).vals) d.o.op)
  simp only [hc, cond_false, ht, List.isEmpty_nil, hm]
  simp only [restrictH, hb, below, List.all_nil, Bool.and_self, cond_true]

/-- An operation on values that name no block. -/
theorem draw_flat {d : DOp} {r : List DOp} {done : List DRec} {v : AV} (hq : ∀ x ∈ done, Quiet x) (hf : ∀ i ∈ d.free, i < done.length) (hg : d.o.guard = none) (hc : isCall d.o.op = false)
    (hv : idsL (pickTm s.tm d.reads).vals = []) (ht : ∀ s', turned s' d.o.op = []) (h0 : ∀ s', foot s' [] d.o.op = [])
    (ho : runOp E noCall (seen s d.reads []) d.o.op = some (v, seen s d.reads []))
    (k : ∀ rec, Quiet rec → DrawTo E r (done ++ [rec]) (s.put d.o.dst v) K) : DrawTo E (d :: r) done s K := by
  refine draw_cons hq hf (step_op hg hc (by rw [hv]; rfl) (by rw [hv, h0]; rfl) ht (by rw [hv, h0, h0]) (by rw [hv, h0]; exact ho)) (k _ ⟨rfl, rfl⟩)

/-- A call on values that name no block. -/
theorem draw_call {d : DOp} {r : List DOp} {done : List DRec} {v : AV} {f : Nat} {args : List Opd} {l : List AV} (hq : ∀ x ∈ done, Quiet x) (hf : ∀ i ∈ d.free, i < done.length) (hg : d.o.guard = none) (hc : d.o.op = .call f args)
    (hv : idsL (pickTm s.tm d.reads).vals = []) (he : evalAll (seen s d.reads []) args = some l) (hr : ∀ h, RunCall E (.f f) l h v h)
    (k : ∀ rec, Quiet rec → DrawTo E r (done ++ [rec]) (s.put d.o.dst v) K) : DrawTo E (d :: r) done s K := by
  refine draw_cons (l := []) hq hf ((hr (restrictH s.h [])).mono fun n p => ?_) (k _ ⟨rfl, rfl⟩)
  have hb : Nat.ble s.h.next s.h.next = true := Nat.ble_eq.mpr (Nat.le_refl _)
  have hm := merge_same (h := s.h) (l := [])
  have hfo : foot { tm := pickTm s.tm d.reads, h := s.h, defers := [], round := s.round } [] (.call f args) = [] := rfl
  simp only [seen] at he
  simp only [stepDraw, hg, wantedA, hv, hc, hfo, below, knownH, List.all_nil, Bool.and_self, cond_true, runOp, he, p, Option.bind_some, isCall, List.filter_nil, List.isEmpty_nil, hm]
  simp only [restrictH, hb, Bool.and_self, cond_true]

theorem mem_vals {α : Type} : ∀ {t : Tr α} {x : α}, x ∈ t.vals → ∃ k, t.get k = some x
  | .nil, x, h => by simp only [Tr.vals, List.not_mem_nil] at h
  | .nd l v r, x, h => by
    simp only [Tr.vals, List.mem_append] at h
    rcases h with h | h | h
    · cases v with
      | none => cases h
      | some y =>
        rw [List.mem_singleton.1 h]
        exact ⟨0, rfl⟩
    · obtain ⟨k, hk⟩ := mem_vals h
      refine ⟨2 * k + 1, ?_⟩
      have h1 : Nat.beq (2 * k + 1) 0 = false := rfl
      have h2 : (2 * k + 1) % 2 = 1 := by omega
      have h3 : (2 * k + 1) / 2 = k := by omega
      simp only [Tr.get, h1, cond_false, h2, h3, Nat.beq_refl, cond_true, hk]
    · obtain ⟨k, hk⟩ := mem_vals h
      refine ⟨2 * k + 2, ?_⟩
      have h1 : Nat.beq (2 * k + 2) 0 = false := rfl
      have h2 : (2 * k + 2) % 2 = 0 := by omega
      have h3 : (2 * k + 2) / 2 - 1 = k := by omega
      have h4 : Nat.beq 0 1 = false := rfl
      simp only [Tr.get, h1, cond_false, h2, h3, h4, hk]

theorem flat_ids : ∀ {l : List AV}, (∀ x ∈ l, ids x = []) → idsL l = []
  | [], _ => rfl
  | a :: r, h => by
    simp only [idsL, h a List.mem_cons_self, List.nil_append]
    exact flat_ids fun x hx => h x (List.mem_cons_of_mem _ hx)

/-- What is read names no block. -/
theorem reads_flat {l : List Nat} (h : ∀ t ∈ l, ∀ v, s.tm.get t = some v → ids v = []) : idsL (pickTm s.tm l).vals = [] := by
  refine flat_ids fun x hx => ?_
  obtain ⟨k, hk⟩ := mem_vals hx
  rw [pickTm_get] at hk
  split at hk
  · exact h k (by assumption) x hk
  · cases hk

end Go.AM

/- Calls that answer a row of their own making. -/
namespace Go.AM
set_option linter.all false

variable {E : Env}

theorem own_tree {h : AH} {b k es : Nat} {cap : Option Nat} {cs : List AV} {rw : Bool} (hb : h.get b = some (.cells cs rw)) (hl : cs.length = k * es) (hv : ∀ v ∈ cs, Leaf v) :
    toTree (freeze deepest (.own b 0 k es cap) h) deepest (.own b 0 k es cap) = some (.imm cs k cap) := by
  have e1 : freeze deepest (.own b 0 k es cap) h = h.put b (some (.cells cs false)) := by
    show (match h.get b with
      | some (.cells cs _) => ((cs.drop 0).take (k * es)).foldl (fun h c => freeze 59 c h) (h.put b (some (.cells cs false)))
      | _ => h) = _
    rw [hb]
    simp only [List.drop_zero]
    rw [List.take_of_length_le (by omega)]
    exact leaves_fold hv
  rw [e1]
  have hg : (h.put b (some (.cells cs false))).get b = some (.cells cs false) := by rw [AH.get_put, if_pos rfl]
  rw [show deepest = 59 + 1 from rfl, toTree.eq_def]
  simp only [hg]
  have h1 : Nat.ble (0 + k * es) cs.length = true := Nat.ble_eq.mpr (by omega)
  simp only [h1, cond_true, List.drop_zero]
  rw [List.take_of_length_le (by omega), leaves_map hv]
  rfl

theorem call_own {g : Nat} {l : List AV} {b k es : Nat} {cap : Option Nat} {cs : List AV} {rw : Bool} {hc : AH} (hs : E.shared.get g = none) (hk : E.known g l = none) (hl : ∀ v ∈ l, Tree v)
    (a : Ev fun n => enterA E (exec E n) g l .empty = some (.own b 0 k es cap, hc)) (hb : hc.get b = some (.cells cs rw)) (hn : cs.length = k * es) (hv : ∀ v ∈ cs, Leaf v) (h : AH) : RunCall E (.f g) l h (.imm cs k cap) h := by
  refine a.mono fun n p => ?_
  have hz : l.foldl (fun h v => freeze deepest v h) h = h := trees_fold hl
  simp only [callA, callF, hs, hz, trees_map hl, hk, p, own_tree hb hn hv, ite_self]
  cases isFlat (AV.imm cs k cap) <;> rfl

end Go.AM

/- Rows that are made by appending one element at a time, and rows of texts. -/
namespace Go.AM
set_option linter.all false

variable {E : Env} {s : St} {K : St → Prop} {r : List AOper} {d : Nat} {dst : Option Nat}

/-- A row in the making: nothing yet, or a block of its own from `lo` on. -/
def Row (lo : Nat) (h : AH) (v : AV) (cs : List AV) : Prop := (v = .val (.slice none 0 0) ∧ cs = []) ∨ ∃ b, lo ≤ b ∧ b < h.next ∧ cs ≠ [] ∧ v = .own b 0 cs.length 1 none ∧ h.get b = some (.cells cs true)

def pushH (h : AH) (v e : AV) : AH := match v with
  | .own b _ _ _ _ => match h.get b with
    | some (.cells cs _) => ((h.alloc (.cells [e] true)).put b none).alloc (.cells (cs ++ [e]) true)
    | _ => h
  | _ => (h.alloc (.cells [e] true)).alloc (.cells [e] true)

theorem push_next {lo : Nat} {h : AH} {v : AV} {cs : List AV} {e : AV} (hr : Row lo h v cs) : (pushH h v e).next = h.next + 2 := by
  rcases hr with ⟨rfl, rfl⟩ | ⟨b, _, _, _, rfl, hg⟩
  · rfl
  · simp only [pushH, hg]; rfl

theorem push_get {lo : Nat} {h : AH} {v : AV} {cs : List AV} {e : AV} (hr : Row lo h v cs) {b : Nat} (hb : b < lo) (hl : lo ≤ h.next) : (pushH h v e).get b = h.get b := by
  rcases hr with ⟨rfl, rfl⟩ | ⟨c, h1, h2, _, rfl, hg⟩
  · simp only [pushH, AH.get_alloc, a_next]
    rw [if_neg (by omega), if_neg (by omega)]
  · simp only [pushH, hg, AH.get_alloc, AH.get_put, a_next, p_next]
    rw [if_neg (by omega), if_neg (by omega), if_neg (by omega)]

theorem push_row {lo : Nat} {h : AH} {v : AV} {cs : List AV} {e : AV} (hr : Row lo h v cs) (hl : lo ≤ h.next) : Row lo (pushH h v e) (.own (h.next + 1) 0 (cs.length + 1) 1 none) (cs ++ [e]) := by
  refine .inr ⟨h.next + 1, by omega, by rw [push_next hr]; omega, by simp, by simp, ?_⟩
  rcases hr with ⟨rfl, rfl⟩ | ⟨c, h1, h2, _, rfl, hg⟩
  · simp only [pushH, AH.get_alloc, a_next, if_true, List.nil_append]
  · simp only [pushH, hg, AH.get_alloc, AH.get_put, a_next, p_next, if_true]

theorem Row.to {lo : Nat} {h h' : AH} {v : AV} {cs : List AV} (hr : Row lo h v cs) (hn : h.next ≤ h'.next) (hg : ∀ b, b < h.next → h'.get b = h.get b) : Row lo h' v cs := by
  rcases hr with ⟨rfl, rfl⟩ | ⟨c, h1, h2, h3, rfl, h4⟩
  · exact .inl ⟨rfl, rfl⟩
  · exact .inr ⟨c, h1, by omega, h3, rfl, by rw [hg c h2, h4]⟩

theorem new_get {h : AH} {x : Blk} {y : Option Blk} {b : Nat} (hb : b < h.next) : ((h.alloc x).put h.next y).get b = h.get b := by
  rw [AH.get_put, if_neg (by omega), AH.get_alloc, if_neg (by omega)]

theorem s_append {es bytes : Nat} {sl x : Opd} : wpOps E (⟨dst, none, .append es bytes sl x⟩ :: r) s K = withV (appendA s es bytes sl x) fun (v, s') => wpOps E r ({ s' with round := s.round }.put dst v) K := w_append

/-- One element is appended. -/
theorem app_row {lo bytes d1 a : Nat} {h0 : AH} {e v : AV} {cs : List AV} (hr : Row lo h0 v cs) (hl : okLen (cs.length + 1) bytes = true) (h1 : s.h = h0.alloc (.cells [e] true)) (h2 : s.eval (.t a) = some v) (h3 : s.eval (.t d1) = some (.own h0.next 0 1 1 (some 1))) :
    wpOps E (⟨dst, none, .append 1 bytes (.t a) (.t d1)⟩ :: r) s K = wpOps E r ((s.toH (pushH h0 v e)).put dst (.own (h0.next + 1) 0 (cs.length + 1) 1 none)) K := by
  have hg : s.h.get h0.next = some (.cells [e] true) := by rw [h1, AH.get_alloc, if_pos rfl]
  have he : elemsOf s.h 1 (.own h0.next 0 1 1 (some 1)) = some ([e], 1) := by
    simp only [elemsOf, hg]
    rfl
  rw [h1] at he
  have hb : Nat.beq 1 0 = false := rfl
  have hn : (h0.alloc (.cells [e] true)).next = h0.next + 1 := rfl
  suffices hs : appendA s 1 bytes (.t a) (.t d1) = some (.own (h0.next + 1) 0 (cs.length + 1) 1 none, s.toH (pushH h0 v e)) by
    rw [s_append, hs]
    rfl
  rcases hr with ⟨rfl, rfl⟩ | ⟨c, g1, g2, g3, rfl, g4⟩
  · simp only [List.length_nil, Nat.zero_add] at hl
    simp only [appendA, h1, h2, h3, he, hb, cond_false, hl, cond_true, pushH]
    rfl
  · have gc : (h0.alloc (.cells [e] true)).get c = some (.cells cs true) := by rw [AH.get_alloc, if_neg (by omega), g4]
    have b1 : Nat.beq 1 1 = true := rfl
    have b2 : Nat.ble (0 + cs.length * 1) cs.length = true := Nat.ble_eq.mpr (by omega)
    have b3 : Nat.beq (0 + cs.length * 1) cs.length = true := Nat.beq_eq.mpr (by omega)
    simp only [appendA, h1, h2, h3, he, hb, cond_false, gc, b1, b2, hl, Bool.and_self, cond_true, b3, pushH, g4, List.drop_zero]
    rfl

/-! ### what is known of a row -/
theorem row_at {lo : Nat} {h : AH} {v : AV} {cs : List AV} (hr : Row lo h v cs) {i : Nat} (hi : i < cs.length) : ∃ b, lo ≤ b ∧ b < h.next ∧ v = .own b 0 cs.length 1 none ∧ idxAddrSV 1 v i = some (.ptr b i) ∧ h.get b = some (.cells cs true) := by
  rcases hr with ⟨rfl, rfl⟩ | ⟨b, h1, h2, h3, rfl, h4⟩
  · cases hi
  · refine ⟨b, h1, h2, rfl, ?_, h4⟩
    have a1 : Nat.blt i cs.length = true := Nat.blt_eq.mpr hi
    have a2 : Nat.beq 1 1 = true := rfl
    simp only [idxAddrSV, a1, a2, Bool.and_self, cond_true, Nat.zero_add, Nat.mul_one]

theorem row_load {G : Nat → Option (List AV)} {h : AH} {b i : Nat} {cs : List AV} (hg : h.get b = some (.cells cs true)) {e : AV} (he : cs[i]? = some e) : (cellsFrom G h (.ptr b i)).bind (takeN none) = some e := by
  have hi : i < cs.length := by
    rcases Nat.lt_or_ge i cs.length with x | x
    · exact x
    · rw [List.getElem?_eq_none x] at he; cases he
  have a1 : Nat.ble i cs.length = true := Nat.ble_eq.mpr (by omega)
  simp only [cellsFrom, hg, a1, cond_true, Option.bind_some, takeN, List.head?_drop, he]

/-! ### more steps -/
def sliceSO (es : Nat) : Option AV → Option (Option Nat) → Option (Option Nat) → Option (Option Nat) → Option AV
  | some v, some lo, some hi, some mx => sliceA' es v lo hi mx
  | _, _, _, _ => none
theorem sliceSO_some {es : Nat} {v : AV} {lo hi mx : Option Nat} : sliceSO es (some v) (some lo) (some hi) (some mx) = sliceA' es v lo hi mx := rfl
theorem s_sliceS {es : Nat} {x : Opd} {lo hi mx : Option Opd} : wpOps E (⟨dst, none, .sliceS es x lo hi mx⟩ :: r) s K = stepV E r s dst K (sliceSO es (s.eval x) (optN s lo) (optN s hi) (optN s mx)) := by
  rw [wpOps_v (o := sliceSO es (s.eval x) (optN s lo) (optN s hi) (optN s mx))]
  · rfl
  · simp only [runOp]
    cases s.eval x with
    | none => rfl
    | some v => cases optN s lo with
      | none => rfl
      | some lo => cases optN s hi with
        | none => rfl
        | some hi => cases optN s mx with
          | none => rfl
          | some mx => exact bind_ret
  · exact fun _ _ => rfl
theorem optN_n : optN s none = some none := rfl
def optM : Option AV → Option (Option Nat)
  | some v => (asN v).map some
  | none => none
theorem optN_t {x : Opd} : optN s (some x) = optM (s.eval x) := by
  simp only [optN, optM]
  cases s.eval x <;> rfl
theorem optM_some {v : AV} : optM (some v) = (asN v).map some := rfl

/-! ### rows and aggregates of one or two values -/
def fillO : Option AV → Option (List AV)
  | some v => match v.cells with
    | some l => bif Nat.beq l.length 1 then some l else none
    | none => none
  | none => none
theorem fillO_val {v : Value} : fillO (some (.val v)) = some [.val v] := rfl
theorem fill_one {x : Opd} {z : AV} : fill s [z] [(0, 1, x)] = fillO (s.eval x) := by
  simp only [fill, fillO]
  cases s.eval x with
  | none => rfl
  | some v =>
    show (match v.cells with | some l => bif Nat.beq l.length 1 && Nat.ble (0 + 1) [z].length then some (putAt [z] 0 l) else none | none => none) = (match v.cells with | some l => bif Nat.beq l.length 1 then some l else none | none => none)
    generalize v.cells = o
    cases o with
    | none => rfl
    | some l =>
      have h1 : Nat.ble (0 + 1) [z].length = true := rfl
      simp only [h1, Bool.and_true]
      cases hb : Nat.beq l.length 1 with
      | false => rfl
      | true =>
        have hl := Nat.eq_of_beq_eq_true hb
        simp only [cond_true, putAt, List.take_zero, List.nil_append, Nat.zero_add, hl]
        simp
theorem fill_two {x y : Opd} {z w : AV} {a b : Value} (hx : s.eval x = some (.val a)) (hy : s.eval y = some (.val b)) : fill s [z, w] [(0, 1, x), (1, 1, y)] = some [.val a, .val b] := by
  simp only [fill, hx, hy]
  rfl

theorem slice_mid {b : ByteArray} {i j : Nat} (h : i ≤ j) (k : j ≤ b.size) : sliceStrV (.val (.string b)) (some i) (some j) = some (.val (.string (b.extract i j))) := by
  have h1 : Nat.ble b.size b.size = true := Nat.ble_eq.mpr (Nat.le_refl _)
  have h2 : Nat.ble j b.size = true := Nat.ble_eq.mpr k
  have h3 : Nat.ble i j = true := Nat.ble_eq.mpr h
  simp only [sliceStrV, sliceB, Option.getD_none, Option.getD_some, h1, h2, h3, Option.isNone_none, Bool.true_or, Bool.and_self, cond_true, Option.map_some]
theorem slice_end {b : ByteArray} {i : Nat} (h : i ≤ b.size) : sliceStrV (.val (.string b)) (some i) none = some (.val (.string (b.extract i b.size))) := by
  have h1 : Nat.ble b.size b.size = true := Nat.ble_eq.mpr (Nat.le_refl _)
  have h2 : Nat.ble i b.size = true := Nat.ble_eq.mpr h
  simp only [sliceStrV, sliceB, Option.getD_none, Option.getD_some, h1, h2, Option.isNone_none, Bool.true_or, Bool.and_self, cond_true, Option.map_some]

/-! ### rows of texts -/
def strs (l : List ByteArray) : List AV := l.map fun b => .val (.string b)
theorem strs_len (l : List ByteArray) : (strs l).length = l.length := List.length_map _
theorem strs_app (l : List ByteArray) (b : ByteArray) : strs l ++ [.val (.string b)] = strs (l ++ [b]) := by simp only [strs, List.map_append, List.map_cons, List.map_nil]
theorem str_at {l r : List ByteArray} {b : ByteArray} {i : Nat} {cap : Option Nat} (h : l.drop i = b :: r) : idxAddrSV 1 (.imm (strs l) l.length cap) i = some (.iptr (.val (.string b) :: strs r)) := by
  have hi : i < l.length := by
    rcases Nat.lt_or_ge i l.length with x | x
    · exact x
    · rw [List.drop_eq_nil_of_le x] at h; cases h
  have a1 : Nat.blt i l.length = true := Nat.blt_eq.mpr hi
  have a2 : Nat.ble i (strs l).length = true := Nat.ble_eq.mpr (by rw [strs_len]; omega)
  have a3 : (strs l).drop i = .val (.string b) :: strs r := by
    rw [strs, ← List.map_drop, h]; rfl
  simp only [idxAddrSV, a1, a2, Bool.and_self, cond_true, Nat.mul_one, a3]
theorem take_hd {v : AV} {l : List AV} : takeN none (v :: l) = some v := rfl
theorem len_imm {cs : List AV} {n : Nat} {cap : Option Nat} : lenV (.imm cs n cap) = some (.val (.int .i64 (n : Nat))) := rfl
theorem str_tail {l : List ByteArray} {cap : Option Nat} (h : 1 ≤ l.length) (hc : cap = none) : sliceA' 1 (.imm (strs l) l.length cap) (some 1) none none = some (.imm (strs (l.drop 1)) (l.drop 1).length none) := by
  subst hc
  have a1 : Nat.ble l.length l.length = true := Nat.ble_eq.mpr (Nat.le_refl _)
  have a2 : Nat.ble 1 l.length = true := Nat.ble_eq.mpr h
  have a3 : ((strs l).drop (1 * 1)).take ((l.length - 1) * 1) = strs (l.drop 1) := by
    rw [strs, strs, ← List.map_drop, ← List.map_take]
    rw [List.take_of_length_le (by simp)]
  simp only [sliceA', sliceB, Option.getD_none, Option.getD_some, a1, a2, Option.isNone_none, Bool.true_or, Bool.and_self, cond_true, a3, List.length_drop]

theorem strs_leaf (l : List ByteArray) : ∀ v ∈ strs l, Leaf v := fun v hv => by
  obtain ⟨b, _, rfl⟩ := List.mem_map.1 hv
  exact Leaf.val _

/-! ### calls that freeze what they are given, and answer something flat -/
theorem call_flat {g : Nat} {l l' : List AV} {h h1 : AH} {r : AV} (hs : E.shared.get g = none) (hz : l.foldl (fun h v => freeze deepest v h) h = h1) (hm : mapTree h1 l = some l') (hk : E.known g l' = none)
    (hr : isFlat r = true) (ht : Tree r) (a : Ans E g l' r) : RunCall E (.f g) l h r h := by
  obtain ⟨hc, a⟩ := a
  refine a.mono fun n p => ?_
  have ht' : toTree (freeze deepest r hc) deepest r = some r := ht.1 _ 58
  simp only [callA, callF, hs, hz, hm, hk, p, ht', hr, cond_true]

end Go.AM

/- Drawn regions that read blocks, and write none. -/
namespace Go.AM
set_option linter.all false

variable {E : Env} {s : St} {K : St → Prop} {r : List DOp} {done : List DRec}

theorem putF_vals {α : Type} (x : α) : ∀ (n k : Nat), k < n → (Tr.putF n .nil k (some x)).vals = [x]
  | 0, k, h => by omega
  | n + 1, k, h => by
    simp only [Tr.putF]
    cases k with
    | zero => rfl
    | succ k =>
      have h0 : Nat.beq (k + 1) 0 = false := rfl
      simp only [h0, cond_false]
      cases hb : Nat.beq ((k + 1) % 2) 1 with
      | true =>
        simp only [cond_true, Tr.vals, List.nil_append]
        rw [putF_vals x n _ (by omega), List.append_nil]
      | false =>
        simp only [cond_false, Tr.vals, List.nil_append]
        exact putF_vals x n _ (by omega)

theorem one_vals {tm : Tr AV} {t : Nat} {v : AV} (h : tm.get t = some v) : (pickTm tm [t]).vals = [v] := by
  simp only [pickTm, h, Tr.put]
  exact putF_vals v _ _ (by omega)

theorem one_ids {t : Nat} {v : AV} (h : s.eval (.t t) = some v) : idsL (pickTm s.tm [t]).vals = ids v := by
  have hg : s.tm.get t = some v := h
  rw [one_vals hg]
  simp only [idsL, List.append_nil]

theorem seenB {l F : List Nat} {t : Nat} (h : t ∈ l) : (seen s l F).tm.get t = s.tm.get t := by
  simp only [seen, pickTm_get, if_pos h]

theorem seen_h {l F : List Nat} : (seen s l F).h = restrictH s.h F := rfl

theorem restrict_one {h : AH} {b : Nat} : (restrictH h [b]).get b = h.get b := by
  simp only [restrictH, restrictT, AH.get, Tr.get_put, if_true]

theorem draw_gen {d : DOp} {v : AV} {I F : List Nat} (hq : ∀ x ∈ done, Quiet x) (hf : ∀ i ∈ d.free, i < done.length) (hg : d.o.guard = none) (hc : isCall d.o.op = false)
    (hI : idsL (pickTm s.tm d.reads).vals = I) (hb : below s.h.next I = true) (ht : ∀ s', turned s' d.o.op = []) (h0 : ∀ s', foot s' I d.o.op = F) (hk : knownH s.h F = true)
    (ho : runOp E noCall (seen s d.reads F) d.o.op = some (v, seen s d.reads F)) (k : ∀ rec, Quiet rec → DrawTo E r (done ++ [rec]) (s.put d.o.dst v) K) : DrawTo E (d :: r) done s K :=
  draw_cons hq hf (step_op hg hc (by rw [hI]; exact hb) (by rw [hI, h0]; exact hk) ht (by rw [hI, h0, h0]) (by rw [hI, h0]; exact ho)) (k _ ⟨rfl, rfl⟩)

theorem below_one {n b : Nat} (h : b < n) : below n [b] = true := by
  have : Nat.blt b n = true := Nat.blt_eq.mpr h
  simp only [below, List.all_cons, List.all_nil, this, Bool.and_self]

theorem known_one {h : AH} {b : Nat} {cs : List AV} {rw : Bool} (hb : b < h.next) (hg : h.get b = some (.cells cs rw)) (hi : idsL cs = []) : knownH h [b] = true := by
  have : Nat.blt b h.next = true := Nat.blt_eq.mpr hb
  simp only [knownH, List.all_cons, List.all_nil, this, hg, idsB, hi, below, Bool.and_self]

theorem drawB_mv {t d : Nat} {fr : List Nat} {v : AV} (hq : ∀ x ∈ done, Quiet x) (hf : ∀ i ∈ fr, i < done.length) (hv : s.eval (.t t) = some v) (hb : below s.h.next (ids v) = true)
    (k : ∀ rec, Quiet rec → DrawTo E r (done ++ [rec]) (s.set d v) K) : DrawTo E (⟨⟨some d, none, .mv (.t t)⟩, [t], fr⟩ :: r) done s K := by
  have hg : s.tm.get t = some v := hv
  refine draw_gen (v := v) (F := []) hq hf rfl rfl (one_ids hv) hb (fun _ => rfl) (fun _ => rfl) rfl ?_ k
  simp only [runOp, St.eval, seenB (List.mem_singleton.2 rfl : t ∈ [t]), hg]
  rfl

theorem drawB_fa {t d off b o : Nat} {fr : List Nat} (hq : ∀ x ∈ done, Quiet x) (hf : ∀ i ∈ fr, i < done.length) (hv : s.eval (.t t) = some (.ptr b o)) (hb : b < s.h.next)
    (k : ∀ rec, Quiet rec → DrawTo E r (done ++ [rec]) (s.set d (.ptr b (o + off))) K) : DrawTo E (⟨⟨some d, none, .fieldAddr off (.t t)⟩, [t], fr⟩ :: r) done s K := by
  have hg : s.tm.get t = some (.ptr b o) := hv
  refine draw_gen (v := .ptr b (o + off)) (F := []) hq hf rfl rfl (one_ids hv) (below_one hb) (fun _ => rfl) (fun _ => rfl) rfl ?_ k
  simp only [runOp, St.eval, seenB (List.mem_singleton.2 rfl : t ∈ [t]), hg]

theorem drawB_ld {t d b i : Nat} {fr : List Nat} {cs : List AV} {rw : Bool} {e : AV} (hq : ∀ x ∈ done, Quiet x) (hf : ∀ i ∈ fr, i < done.length) (hv : s.eval (.t t) = some (.ptr b i)) (hb : b < s.h.next)
    (hh : s.h.get b = some (.cells cs rw)) (hi : idsL cs = []) (he : cs[i]? = some e)
    (k : ∀ rec, Quiet rec → DrawTo E r (done ++ [rec]) (s.set d e) K) : DrawTo E (⟨⟨some d, none, .load none (.t t)⟩, [t], fr⟩ :: r) done s K := by
  have hg : s.tm.get t = some (.ptr b i) := hv
  have hl : i < cs.length := by
    rcases Nat.lt_or_ge i cs.length with x | x
    · exact x
    · rw [List.getElem?_eq_none x] at he; cases he
  have a1 : Nat.ble i cs.length = true := Nat.ble_eq.mpr (by omega)
  refine draw_gen (v := e) (F := [b]) hq hf rfl rfl (one_ids hv) (below_one hb) (fun _ => rfl) (fun _ => rfl) (known_one hb hh hi) ?_ k
  simp only [runOp, St.eval, seenB (List.mem_singleton.2 rfl : t ∈ [t]), hg, seen_h, cellsFrom, restrict_one, hh, a1, cond_true, Option.bind_some, takeN, List.head?_drop, he]

theorem drawB_ix {t d b n i : Nat} {fr : List Nat} {cap : Option Nat} {x : Opd} {kd : IntKind} (hx : x = .c (.val (.int kd (Nat.cast i)))) (hq : ∀ x ∈ done, Quiet x) (hf : ∀ i ∈ fr, i < done.length) (hv : s.eval (.t t) = some (.own b 0 n 1 cap)) (hb : b < s.h.next) (hi : i < n)
    (k : ∀ rec, Quiet rec → DrawTo E r (done ++ [rec]) (s.set d (.ptr b i)) K) : DrawTo E (⟨⟨some d, none, .idxAddrS 1 (.t t) x⟩, [t], fr⟩ :: r) done s K := by
  subst hx
  have hg : s.tm.get t = some (.own b 0 n 1 cap) := hv
  have a1 : Nat.blt i n = true := Nat.blt_eq.mpr hi
  have a2 : Nat.beq 1 1 = true := rfl
  refine draw_gen (v := .ptr b i) (F := []) hq hf rfl rfl (one_ids hv) (below_one hb) (fun _ => rfl) (fun _ => rfl) rfl ?_ k
  simp only [runOp, St.eval, seenB (List.mem_singleton.2 rfl : t ∈ [t]), hg, Option.bind_some, n_cast, a1, a2, Bool.and_self, cond_true, Nat.zero_add, Nat.mul_one]

theorem two_ids {t u : Nat} {v w : AV} (h : s.eval (.t t) = some v) (hw : s.eval (.t u) = some w) {n : Nat} (h1 : below n (ids v) = true) (h2 : below n (ids w) = true) : below n (idsL (pickTm s.tm [t, u]).vals) = true := by
  have hg : s.tm.get t = some v := h
  have hg2 : s.tm.get u = some w := hw
  have key : ∀ l : List AV, (∀ x ∈ l, below n (ids x) = true) → below n (idsL l) = true := by
    intro l
    induction l with
    | nil => intro _; rfl
    | cons a r ih =>
      intro h
      have e1 := h a List.mem_cons_self
      have e2 := ih fun x hx => h x (List.mem_cons_of_mem _ hx)
      simp only [below, idsL, List.all_append] at *
      rw [e1, e2]
      rfl
  refine key _ fun x hx => ?_
  obtain ⟨k, hk⟩ := mem_vals hx
  rw [pickTm_get] at hk
  split at hk
  · rename_i hm
    simp only [List.mem_cons, List.mem_nil_iff, or_false] at hm
    rcases hm with rfl | rfl
    · rw [hg] at hk; cases hk; exact h1
    · rw [hg2] at hk; cases hk; exact h2
  · cases hk

theorem drawB_ixt {t u d b n i : Nat} {fr : List Nat} {cap : Option Nat} {kd : IntKind} (hq : ∀ x ∈ done, Quiet x) (hf : ∀ i ∈ fr, i < done.length) (hv : s.eval (.t t) = some (.own b 0 n 1 cap)) (hw : s.eval (.t u) = some (.val (.int kd (i : Nat)))) (hb : b < s.h.next) (hi : i < n)
    (k : ∀ rec, Quiet rec → DrawTo E r (done ++ [rec]) (s.set d (.ptr b i)) K) : DrawTo E (⟨⟨some d, none, .idxAddrS 1 (.t t) (.t u)⟩, [t, u], fr⟩ :: r) done s K := by
  have hg : s.tm.get t = some (.own b 0 n 1 cap) := hv
  have hg2 : s.tm.get u = some (.val (.int kd (i : Nat))) := hw
  have a1 : Nat.blt i n = true := Nat.blt_eq.mpr hi
  have a2 : Nat.beq 1 1 = true := rfl
  refine draw_gen (v := .ptr b i) (F := []) hq hf rfl rfl rfl (two_ids hv hw (below_one hb) rfl) (fun _ => rfl) (fun _ => rfl) rfl ?_ k
  simp only [runOp, St.eval, seenB (List.mem_cons_self : t ∈ [t, u]), seenB (List.mem_cons_of_mem _ (List.mem_singleton.2 rfl) : u ∈ [t, u]), hg, hg2, Option.bind_some, n_cast, a1, a2, Bool.and_self, cond_true, Nat.zero_add, Nat.mul_one]

theorem drawB_len {t d b n : Nat} {fr : List Nat} {cap : Option Nat} {cs : List AV} {rw : Bool} (hq : ∀ x ∈ done, Quiet x) (hf : ∀ i ∈ fr, i < done.length) (hv : s.eval (.t t) = some (.own b 0 n 1 cap)) (hb : b < s.h.next) (hh : s.h.get b = some (.cells cs rw)) (hi : idsL cs = [])
    (k : ∀ rec, Quiet rec → DrawTo E r (done ++ [rec]) (s.set d (.val (.int .i64 (n : Nat)))) K) : DrawTo E (⟨⟨some d, none, .lenS (.t t)⟩, [t], fr⟩ :: r) done s K := by
  have hg : s.tm.get t = some (.own b 0 n 1 cap) := hv
  refine draw_gen (v := .val (.int .i64 (n : Nat))) (F := [b]) hq hf rfl rfl (one_ids hv) (below_one hb) (fun _ => rfl) (fun _ => rfl) (known_one hb hh hi) ?_ k
  simp only [runOp, St.eval, seenB (List.mem_singleton.2 rfl : t ∈ [t]), hg]

theorem drawB_sub {t d : Nat} {ty : TypeId} {g : Bool} {fr : List Nat} {n : Int} (hq : ∀ x ∈ done, Quiet x) (hf : ∀ i ∈ fr, i < done.length) (hv : s.eval (.t t) = some (.val (.int .i64 n)))
    (k : ∀ rec, Quiet rec → DrawTo E r (done ++ [rec]) (s.set d (.val (.int .i64 (IntKind.i64.wrap (n - 1))))) K) : DrawTo E (⟨⟨some d, none, .bin .sub ty g (.t t) (.c (.val (.int .i64 1)))⟩, [t], fr⟩ :: r) done s K := by
  have hg : s.tm.get t = some (.val (.int .i64 n)) := hv
  refine draw_gen (v := .val (.int .i64 (IntKind.i64.wrap (n - 1)))) (F := []) hq hf rfl rfl (one_ids hv) rfl (fun _ => rfl) (fun _ => rfl) rfl ?_ k
  simp only [runOp, St.eval, seenB (List.mem_singleton.2 rfl : t ∈ [t]), hg, v_sub]
  rfl

theorem drawB_ex {t d i : Nat} {fr : List Nat} {a b : Value} {e : AV} (hq : ∀ x ∈ done, Quiet x) (hf : ∀ i ∈ fr, i < done.length) (hv : s.eval (.t t) = some (.tup [.val a, .val b])) (he : ([.val a, .val b] : List AV)[i]? = some e)
    (k : ∀ rec, Quiet rec → DrawTo E r (done ++ [rec]) (s.set d e) K) : DrawTo E (⟨⟨some d, none, .extract i (.t t)⟩, [t], fr⟩ :: r) done s K := by
  have hg : s.tm.get t = some (.tup [.val a, .val b]) := hv
  refine draw_gen (v := e) (F := []) hq hf rfl rfl (one_ids hv) rfl (fun _ => rfl) (fun _ => rfl) rfl ?_ k
  simp only [runOp, St.eval, seenB (List.mem_singleton.2 rfl : t ∈ [t]), hg, he]
  rfl

theorem three_flat {t u w : Nat} {a b c : Value} (h1 : s.eval (.t t) = some (.val a)) (h2 : s.eval (.t u) = some (.val b)) (h3 : s.eval (.t w) = some (.val c)) : idsL (pickTm s.tm [t, u, w]).vals = [] :=
  reads_flat fun i hi x hx => by
    have g1 : s.tm.get t = some (.val a) := h1
    have g2 : s.tm.get u = some (.val b) := h2
    have g3 : s.tm.get w = some (.val c) := h3
    simp only [List.mem_cons, List.mem_nil_iff, or_false] at hi
    rcases hi with rfl | rfl | rfl
    · rw [g1] at hx; cases hx; rfl
    · rw [g2] at hx; cases hx; rfl
    · rw [g3] at hx; cases hx; rfl

/-- A drawn call on three flat values. -/
theorem drawB_call3 {t u w d f : Nat} {fr : List Nat} {a b c : Value} {v : AV} (hq : ∀ x ∈ done, Quiet x) (hf : ∀ i ∈ fr, i < done.length) (h1 : s.eval (.t t) = some (.val a)) (h2 : s.eval (.t u) = some (.val b)) (h3 : s.eval (.t w) = some (.val c))
    (hr : ∀ h, RunCall E (.f f) [.val a, .val b, .val c] h v h)
    (k : ∀ rec, Quiet rec → DrawTo E r (done ++ [rec]) (s.set d v) K) : DrawTo E (⟨⟨some d, none, .call f [.t t, .t u, .t w]⟩, [t, u, w], fr⟩ :: r) done s K := by
  have g1 : s.tm.get t = some (.val a) := h1
  have g2 : s.tm.get u = some (.val b) := h2
  have g3 : s.tm.get w = some (.val c) := h3
  refine draw_call (l := [.val a, .val b, .val c]) hq hf rfl rfl (three_flat h1 h2 h3) ?_ hr k
  have m1 : t ∈ [t, u, w] := by simp
  have m2 : u ∈ [t, u, w] := by simp
  have m3 : w ∈ [t, u, w] := by simp
  simp only [evalAll, St.eval, seenB m1, seenB m2, seenB m3, g1, g2, g3]

end Go.AM
