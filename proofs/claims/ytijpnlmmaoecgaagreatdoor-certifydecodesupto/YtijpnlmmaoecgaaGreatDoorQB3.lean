/- A part of the proofs about certificates: YDt YDu. -/
import Derived.Test.YtijpnlmmaoecgaaGreatDoorQB2

set_option linter.all false
open Nat (reduceEqDiff reduceAdd reduceMul)
open Int (reduceEq reduceLT reduceLE)

namespace Go.Proofs.YtijpnlmmaoecgaaGreatDoor
open Go Go.AM
def OneD {α : Type} (one : Nat) (f : RS → α × RS) (cs : α → List AV) (B n : Nat) (F : List UInt8) : Prop := ∀ (h : AH) (r : Nat) (st : RS), Rq h r F st → NoTag h → st.bad = false → st.rest.length < B →
 ∃ v h', RunCall E1 (.f one) [.ptr r 0] h v h' ∧ ∃ qs : List (AV × AV), v.cells = some (qs.map (·.1)) ∧ ids v = idsL (qs.map (·.1)) ∧ qs.map (·.2) = cs (f st).1 ∧ (∀ q ∈ qs, Rep h' h.next h'.next n q.1 q.2) ∧ Rq h' r F (f st).2 ∧ Fd h h' r
theorem noTag_restrict {h : AH} {l : List Nat} (k : NoTag h) : NoTag (restrictH h l) := fun b x t n e => by
 by_cases m : b ∈ l
 ·rw [restrict_in m] at e
  exact k b x t n e
 ·have : (restrictH h l).get b = none := by
   clear e
   induction l with
   | nil => rfl
   | cons a l ih =>
    simp only [List.mem_cons, not_or] at m
    simp only [restrictH, restrictT, AH.get, Tr.get_put]
    rw [if_neg m.1]
    exact ih m.2
  rw [this] at e
  cases e
theorem rows_below {h : AH} {lo hi n : Nat} (hh : hi ≤ h.next) : ∀ {ps : List (AV × AV)}, (∀ p ∈ ps, Rep h lo hi n p.1 p.2) → below h.next (idsL (ps.map (·.1))) = true
 | [], _ => rfl
 | p :: ps, k => by
  have a := rep_below (k p List.mem_cons_self) hh
  have b := rows_below hh fun q hq => k q (List.mem_cons_of_mem _ hq)
  simp only [List.map_cons, idsL, below, List.all_append, Bool.and_eq_true] at a b ⊢
  exact ⟨a, b⟩
theorem below_le {n m : Nat} {l : List Nat} (h : below n l = true) (hm : n ≤ m) : below m l = true := List.all_eq_true.2 fun x hx => Nat.blt_eq.mpr (by
 have := Nat.blt_eq.mp (List.all_eq_true.1 h x hx)
 omega)
theorem below_app {n : Nat} : ∀ {X Y : List AV}, below n (idsL X) = true → below n (idsL Y) = true → below n (idsL (X ++ Y)) = true
 | [], Y, _, h => h
 | x :: X, Y, h, k => by
  simp only [List.cons_append, idsL, below, List.all_append, Bool.and_eq_true] at h ⊢
  exact ⟨h.1, below_app h.2 k⟩
theorem RowR.at {h : AH} {lo n k es : Nat} {v : AV} {ps : List (AV × AV)} (r : RowR h lo n k es v ps) : RowAt h v k es (ps.map (·.1)) ∧ below h.next (idsL (ps.map (·.1))) = true ∧ below h.next (ids v) = true := by
 rcases r with ⟨rfl, rfl, rfl⟩ | ⟨b, b1, b2, b3, rfl, b4, b5, b6⟩
 ·exact ⟨.inl ⟨rfl, rfl, rfl⟩, rfl, rfl⟩
 ·refine ⟨.inr ⟨b, rfl, b2, b4, by rw [List.length_map, b5]⟩, rows_below (by omega) b6, ?_⟩
  simp only [ids, below, List.all_cons, List.all_nil, Bool.and_true]
  exact Nat.blt_eq.mpr b2
structure DrTo (s s' : St) (r C lo n k es : Nat) (F : List UInt8) (X Y : List AV) (st : RS) (ps : List (AV × AV)) (q : List AV) : Prop where
 row : ∃ v' ps', RowR s'.h lo n (k + 1) es v' ps' ∧ ps'.map (·.2) = ps.map (·.2) ++ q ∧ s'.h.get C = some (.cells (X ++ v' :: Y) true)
 rq : Rq s'.h r F st
 nt : NoTag s'.h
 le : s.h.next ≤ s'.h.next
 old : ∀ x, x < lo → x ≠ r → x ≠ C → s'.h.get x = s.h.get x
 df : s'.defers = s.defers
set_option maxHeartbeats 4000000 in
theorem f27_d0_run {α : Type} {f : RS → α × RS} {cs : α → List AV} {B n r C lo k : Nat} {F : List UInt8} {v : AV} {ps : List (AV × AV)} {X Y : List AV} {s : St} {st : RS} (ok : OneD 27 f cs B n F) (hcs : ∀ a, (cs a).length = 4) (hrq : Rq s.h r F st) (hbad : st.bad = false) (hB : st.rest.length < B) (hnt : NoTag s.h)
  (hrow : RowR s.h lo n k 4 v ps) (hk : k < 2 ^ 30) (hC : C < lo) (hr : r < lo) (hrC : r ≠ C) (hlo : lo ≤ s.h.next) (hg : s.h.get C = some (.cells (X ++ v :: Y) true)) (hX : X.length = 3) (hX0 : below lo (idsL X) = true) (hY0 : idsL Y = []) (hv : v.cells = some [v])
  (h0 : s.eval (.t 0) = some (.ptr r 0)) (h3 : s.eval (.t 3) = some (.ptr C 0)) :
  Run E1 f27_d0 s fun e s' => e = .normal ∧ DrTo s s' r C lo n k 4 F X Y (f st).2 ps (cs (f st).1) ∧ s'.eval (.t 0) = some (.ptr r 0) ∧ s'.eval (.t 3) = some (.ptr C 0) ∧ s'.eval (.t 5) = s.eval (.t 5) ∧ s'.eval (.t 4) = s.eval (.t 4) ∧ s'.eval (.t 2) = s.eval (.t 2) := by
 obtain ⟨hra, hpb, hvb⟩ := hrow.at
 have hCn : C < s.h.next := by omega
 have hbc : below s.h.next (idsL (X ++ v :: Y)) = true := below_app (below_le hX0 hlo) (by
  simp only [idsL, hY0, List.append_nil]
  exact hvb)
 have nC : ∀ o, niceT s.h (some (.ptr C o)) = true := fun o => nice_ptr hCn hg hbc
 have hrq0 := hrq
 obtain ⟨r1, cap, at', gr, e1, e2⟩ := hrq
 have nR : ∀ o, niceT s.h (some (.ptr r o)) = true := fun o => q_nice r1 gr
 have hdrop : (X ++ v :: Y).drop 3 = v :: Y := by rw [← hX, List.drop_left]
 have hle : Nat.ble 3 (X ++ v :: Y).length = true := Nat.ble_eq.mpr (by rw [List.length_append, hX]; omega)
 have hrr : Rq (restrictH s.h [r]) r F st := ⟨r1, cap, at', by rw [restrict_in (List.mem_singleton_self r), gr], e1, e2⟩
 obtain ⟨w, h1, hcall, qs, q1, q2, q3, q4, q5, q6⟩ := ok (restrictH s.h [r]) r st hrr (noTag_restrict hnt) hbad hB
 have hn1 : s.h.next ≤ h1.next := q6.le
 have hql : qs.length = 4 := by
  have := congrArg List.length q3
  rw [List.length_map, hcs] at this
  exact this
 refine run_draw ?_
 show DrawTo E1 f27_o0 [] s _
 unfold f27_o0
 refine pure_draw rfl rfl ?_ (v := .ptr C 3) ?_ (fun i hi => by cases hi) ?_
 ·simp only [List.all_cons, List.all_nil, h3, nC, Bool.and_self]
 ·simp only [runOp, h3]
  first | done | rfl
 refine load_draw (b := C) (o := 3) (v := v) ?_ (nC _) ?_ rfl ?_
 ·simp -implicitDefEqProofs only [V, ↓reduceIte, reduceEqDiff, reduceAdd, reduceMul, reduceCtorEq, reduceEq, reduceLT, reduceLE]
 ·have hev : (s.put (some 29) (.ptr C 3)).eval (.t 29) = some (.ptr C 3) := by simp -implicitDefEqProofs only [V, ↓reduceIte, reduceEqDiff, reduceAdd, reduceMul, reduceCtorEq, reduceEq, reduceLT, reduceLE]
  have hh : (s.put (some 29) (.ptr C 3)).h = s.h := rfl
  have hcf : cellsFrom E1.globs s.h (.ptr C 3) = some (v :: Y) := by simp only [cellsFrom, hg, hle, cond_true, hdrop]
  simp only [runOp, hev, hh, hcf, Option.bind_some, takeN]
  rfl
 refine pure_draw rfl rfl ?_ (v := .ptr r 0) ?_ (show ∀ i ∈ ([0, 1] : List Nat), i < 2 by decide) ?_
 ·have e : ((s.put (some 29) (.ptr C 3)).put (some 30) v).eval (.t 0) = some (.ptr r 0) := by simp -implicitDefEqProofs only [V, ↓reduceIte, reduceEqDiff, reduceAdd, reduceMul, reduceCtorEq, reduceEq, reduceLT, reduceLE, h0]
  simp only [List.all_cons, List.all_nil, e, Bool.and_true]
  exact nR 0
 ·have e : ((s.put (some 29) (.ptr C 3)).put (some 30) v).eval (.t 0) = some (.ptr r 0) := by simp -implicitDefEqProofs only [V, ↓reduceIte, reduceEqDiff, reduceAdd, reduceMul, reduceCtorEq, reduceEq, reduceLT, reduceLE, h0]
  simp only [runOp, e]
  first | done | rfl
 generalize hs3 : St.put (St.put (St.put s (some 29) (.ptr C 3)) (some 30) v) (some 31) (.ptr r 0) = s3
 have a0 : s3.eval (.t 0) = some (.ptr r 0) := by rw [← hs3]; simp -implicitDefEqProofs only [V, ↓reduceIte, reduceEqDiff, reduceAdd, reduceMul, reduceCtorEq, reduceEq, reduceLT, reduceLE, h0]
 have a3 : s3.eval (.t 3) = some (.ptr C 0) := by rw [← hs3]; simp -implicitDefEqProofs only [V, ↓reduceIte, reduceEqDiff, reduceAdd, reduceMul, reduceCtorEq, reduceEq, reduceLT, reduceLE, h3]
 have ar : s3.eval (.t 30) = some v := by rw [← hs3]; simp -implicitDefEqProofs only [V, ↓reduceIte, reduceEqDiff, reduceAdd, reduceMul, reduceCtorEq, reduceEq, reduceLT, reduceLE]
 have ac : s3.eval (.t 31) = some (.ptr r 0) := by rw [← hs3]; simp -implicitDefEqProofs only [V, ↓reduceIte, reduceEqDiff, reduceAdd, reduceMul, reduceCtorEq, reduceEq, reduceLT, reduceLE]
 have ai : s3.eval (.t 5) = s.eval (.t 5) := by rw [← hs3]; simp -implicitDefEqProofs only [V, ↓reduceIte, reduceEqDiff, reduceAdd, reduceMul, reduceCtorEq, reduceEq, reduceLT, reduceLE]
 have an : s3.eval (.t 4) = s.eval (.t 4) := by rw [← hs3]; simp -implicitDefEqProofs only [V, ↓reduceIte, reduceEqDiff, reduceAdd, reduceMul, reduceCtorEq, reduceEq, reduceLT, reduceLE]
 have a2 : s3.eval (.t 2) = s.eval (.t 2) := by rw [← hs3]; simp -implicitDefEqProofs only [V, ↓reduceIte, reduceEqDiff, reduceAdd, reduceMul, reduceCtorEq, reduceEq, reduceLT, reduceLE]
 have eh : s3.h = s.h := by rw [← hs3]; rfl
 have ed : s3.defers = s.defers := by rw [← hs3]; rfl
 have hF1 : ∀ x ∈ idsL (pickTm (s.put (some 29) (.ptr C 3)).tm [29]).vals, x = C := fun x hx => by
  have := vals_ids (s := s.put (some 29) (.ptr C 3)) (i := 29) (v := .ptr C 3) (by simp -implicitDefEqProofs only [V, ↓reduceIte, reduceEqDiff, reduceAdd, reduceMul, reduceCtorEq, reduceEq, reduceLT, reduceLE]) x hx
  simpa only [ids, List.mem_singleton] using this
 generalize idsL (pickTm (s.put (some 29) (.ptr C 3)).tm [29]).vals = F1 at *
 have hpk : idsL (pickTm s3.tm [31]).vals = [r] := by
  have e : s3.tm.get 31 = some (.ptr r 0) := ac
  simp only [pickTm, e]
  rfl
 clear hs3
 rw [← eh] at hrow hra hpb hvb hCn hg hlo gr r1 hnt hn1 q4 q6 hcall
 refine call_draw (f := 27) (i := 31) (r := r) (v := w) (h1 := h1) (cs := [.imm (bytesA F) F.length cap, .val (.int .i64 (at' : Nat)), .val (.bool st.bad)]) (rw' := true) ac hpk r1 gr rfl hnt hcall hn1 ?_ ?_
 ·intro D hD
  have hmC : ∀ x ∈ D, memN F1 x = false := fun x hx => by
   rw [memN, List.any_eq_false]
   intro y hy ey
   have := Nat.eq_of_beq_eq_true ey
   rw [hF1 y hy, hD x hx] at this
   omega
  have hany : (D.any fun x => memN F1 x) = false := by
   rw [List.any_eq_false]
   intro x hx
   rw [hmC x hx]
   decide
  have hany0 : (D.any fun x => memN [] x) = false := by
   rw [List.any_eq_false]
   intro x hx
   simp [memN]
  have t0 : ∀ l, touches ⟨[], [], s.h.next, s.h.next⟩ l = false := fun l => quiet_touch ⟨rfl, rfl⟩ l
  have t1 : ∀ l, touches ⟨F1, [], s.h.next, s.h.next⟩ l = false := fun l => quiet_touch ⟨rfl, rfl⟩ l
  show freeOk [⟨[], [], s.h.next, s.h.next⟩, ⟨F1, [], s.h.next, s.h.next⟩, _] ⟨[r], D, s3.h.next, h1.next⟩ [0, 1] = true
  simp only [freeOk, List.getElem?_cons_zero, List.getElem?_cons_succ, recApart, t0, t1, hany, hany0, Bool.not_false, Bool.and_self]
 intro D h2 hD m1 m2 m3 m4 m5
 have hn2 : s3.h.next ≤ h2.next := by omega
 have hCr : C ≠ r := fun e => hrC e.symm
 have gC2 : h2.get C = some (.cells (X ++ v :: Y) true) := by rw [m4 C hCn hCr, hg]
 have hnt2 : NoTag h2 := fun b x t n' e => by
  rcases Nat.lt_or_ge b s3.h.next with q | q
  ·by_cases e' : b = r
   ·subst e'
    rw [m3] at e
    exact q6.nt (noTag_restrict hnt) _ _ _ _ e
   ·rw [m4 b q e'] at e
    exact hnt _ _ _ _ e
  ·rcases Nat.lt_or_ge b h1.next with q' | q'
   ·rw [m2 b q q'] at e
    exact q6.nt (noTag_restrict hnt) _ _ _ _ e
   ·rw [m5 b q'] at e
    exact hnt _ _ _ _ e
 have hrep2 : ∀ q ∈ qs, Rep h2 s3.h.next h2.next n q.1 q.2 := fun q hq => rep_same (Nat.le_refl _) (by rw [m1]; exact Nat.le_refl _) (fun x x1 x2 => m2 x x1 x2) (q4 q hq)
 have hwb : below h2.next (ids w) = true := by rw [q2]; exact rows_below (Nat.le_refl _) hrep2
 have hrow2 : RowR h2 lo n k 4 v ps := by
  refine hrow.to hn2 fun x x1 x2 => m4 x x2 (by omega)
 have hrq2 : Rq h2 r F (f st).2 := by
  obtain ⟨y1, y2, y3, y4, y5⟩ := q5
  exact ⟨by omega, y2, y3, by rw [m3, y4], y5⟩
 refine build_draw (es := 4) (n := 1) (cs := qs.map (·.1)) (v := w) ?_ ?_ ?_ (show ∀ i ∈ ([0, 1] : List Nat), i < 4 by decide) ?_
 ·simp -implicitDefEqProofs only [V, ↓reduceIte, reduceEqDiff, reduceAdd, reduceMul, reduceCtorEq, reduceEq, reduceLT, reduceLE]
 ·simp -implicitDefEqProofs only [V, ↓reduceIte, reduceEqDiff, reduceAdd, reduceMul, reduceCtorEq, reduceEq, reduceLT, reduceLE]
  exact hwb
 ·exact fill_all (v := w) (by simp -implicitDefEqProofs only [V, ↓reduceIte, reduceEqDiff, reduceAdd, reduceMul, reduceCtorEq, reduceEq, reduceLT, reduceLE]) q1 (by rw [List.length_map, hql]) rfl
 generalize hdn : (([] ++ [_] ++ [_] ++ [_] ++ [_] ++ [_] : List DRec)) = dn
 generalize hs4 : St.put (St.toH (St.put (St.toH s3 h2) (some 32) w) _) (some 33) _ = s4
 have hh4 : s4.h = h2.alloc (.cells (qs.map (·.1)) true) := by rw [← hs4]; simp -implicitDefEqProofs only [V, ↓reduceIte, reduceEqDiff, reduceAdd, reduceMul, reduceCtorEq, reduceEq, reduceLT, reduceLE]
 have b0 : s4.eval (.t 0) = some (.ptr r 0) := by rw [← hs4]; simp -implicitDefEqProofs only [V, ↓reduceIte, reduceEqDiff, reduceAdd, reduceMul, reduceCtorEq, reduceEq, reduceLT, reduceLE, a0]
 have b3 : s4.eval (.t 3) = some (.ptr C 0) := by rw [← hs4]; simp -implicitDefEqProofs only [V, ↓reduceIte, reduceEqDiff, reduceAdd, reduceMul, reduceCtorEq, reduceEq, reduceLT, reduceLE, a3]
 have br : s4.eval (.t 30) = some v := by rw [← hs4]; simp -implicitDefEqProofs only [V, ↓reduceIte, reduceEqDiff, reduceAdd, reduceMul, reduceCtorEq, reduceEq, reduceLT, reduceLE, ar]
 have bn : s4.eval (.t 33) = some (.own h2.next 0 1 4 (some 1)) := by rw [← hs4]; simp -implicitDefEqProofs only [V, ↓reduceIte, reduceEqDiff, reduceAdd, reduceMul, reduceCtorEq, reduceEq, reduceLT, reduceLE]
 have bi : s4.eval (.t 5) = s.eval (.t 5) := by rw [← hs4, ← ai]; simp -implicitDefEqProofs only [V, ↓reduceIte, reduceEqDiff, reduceAdd, reduceMul, reduceCtorEq, reduceEq, reduceLT, reduceLE]
 have bm : s4.eval (.t 4) = s.eval (.t 4) := by rw [← hs4, ← an]; simp -implicitDefEqProofs only [V, ↓reduceIte, reduceEqDiff, reduceAdd, reduceMul, reduceCtorEq, reduceEq, reduceLT, reduceLE]
 have b2 : s4.eval (.t 2) = s.eval (.t 2) := by rw [← hs4, ← a2]; simp -implicitDefEqProofs only [V, ↓reduceIte, reduceEqDiff, reduceAdd, reduceMul, reduceCtorEq, reduceEq, reduceLT, reduceLE]
 have bd : s4.defers = s.defers := by rw [← hs4, ← ed]; simp -implicitDefEqProofs only [V, ↓reduceIte, reduceEqDiff, reduceAdd, reduceMul, reduceCtorEq, reduceEq, reduceLT, reduceLE]
 clear hs4 hdn
 have n3 : s4.h.next = h2.next + 1 := by rw [hh4]; rfl
 have g3 : ∀ x, x < h2.next → s4.h.get x = h2.get x := fun x hx => by rw [hh4, get_alloc_old hx]
 have gc : s4.h.get h2.next = some (.cells (qs.map (·.1)) true) := by rw [hh4]; exact box_get
 have hrow3 : RowR s4.h lo n k 4 v ps := hrow2.to (by omega) fun x x1 x2 => g3 x x2
 obtain ⟨c1, c2, c3⟩ := hrow3.at
 have hrep3 : ∀ q ∈ qs, Rep s4.h s3.h.next s4.h.next n q.1 q.2 := fun q hq => rep_same (Nat.le_refl _) (by omega) (fun x x1 x2 => g3 x x2) (hrep2 q hq)
 obtain ⟨p1, p2, p3⟩ := pushR_ok hrow (qs := qs) (h := s4.h) (by omega) (by omega) (fun x x1 x2 => by rw [g3 x (by omega), m4 x x2 (by omega)]) hql hrep3
 refine app_draw (k := k) (c := h2.next) (v := v) (pc := ps.map (·.1)) (new := qs.map (·.1)) c1 c2 (by omega) gc (rows_below (Nat.le_refl _) hrep3) (by rw [List.length_map, hql]) (okLen_of hk (by decide)) br bn rfl ?_
 intro rec h4 n4 g4
 have hrow4 : RowR h4 lo n (k + 1) 4 (.own s4.h.next 0 (k + 1) 4 none) (ps ++ qs) := p2.to (by omega) fun x _ _ => g4 x
 have gC4 : h4.get C = some (.cells (X ++ v :: Y) true) := by rw [g4, p3 C hC, g3 C (by omega), gC2]
 have hbc4 : below h4.next (idsL (X ++ v :: Y)) = true := below_le (by rw [← eh] at hbc; exact hbc) (by omega)
 have nC4 : ∀ o, niceT h4 (some (.ptr C o)) = true := fun o => nice_ptr (by omega) gC4 hbc4
 generalize hs5 : St.put (St.toH s4 h4) (some 34) _ = s5
 have hh5 : s5.h = h4 := by rw [← hs5]; rfl
 have d0 : s5.eval (.t 0) = some (.ptr r 0) := by rw [← hs5]; simp -implicitDefEqProofs only [V, ↓reduceIte, reduceEqDiff, reduceAdd, reduceMul, reduceCtorEq, reduceEq, reduceLT, reduceLE, b0]
 have d3 : s5.eval (.t 3) = some (.ptr C 0) := by rw [← hs5]; simp -implicitDefEqProofs only [V, ↓reduceIte, reduceEqDiff, reduceAdd, reduceMul, reduceCtorEq, reduceEq, reduceLT, reduceLE, b3]
 have dv : s5.eval (.t 34) = some (.own s4.h.next 0 (k + 1) 4 none) := by rw [← hs5]; simp -implicitDefEqProofs only [V, ↓reduceIte, reduceEqDiff, reduceAdd, reduceMul, reduceCtorEq, reduceEq, reduceLT, reduceLE]
 have di : s5.eval (.t 5) = s.eval (.t 5) := by rw [← hs5, ← bi]; simp -implicitDefEqProofs only [V, ↓reduceIte, reduceEqDiff, reduceAdd, reduceMul, reduceCtorEq, reduceEq, reduceLT, reduceLE]
 have dm : s5.eval (.t 4) = s.eval (.t 4) := by rw [← hs5, ← bm]; simp -implicitDefEqProofs only [V, ↓reduceIte, reduceEqDiff, reduceAdd, reduceMul, reduceCtorEq, reduceEq, reduceLT, reduceLE]
 have d2 : s5.eval (.t 2) = s.eval (.t 2) := by rw [← hs5, ← b2]; simp -implicitDefEqProofs only [V, ↓reduceIte, reduceEqDiff, reduceAdd, reduceMul, reduceCtorEq, reduceEq, reduceLT, reduceLE]
 have dd : s5.defers = s.defers := by rw [← hs5, ← bd]; simp -implicitDefEqProofs only [V, ↓reduceIte, reduceEqDiff, reduceAdd, reduceMul, reduceCtorEq, reduceEq, reduceLT, reduceLE]
 clear hs5
 refine pure_draw rfl rfl ?_ (v := .ptr C 3) ?_ (fun i hi => by cases hi) ?_
 ·simp only [List.all_cons, List.all_nil, d3, hh5, nC4, Bool.and_self]
 ·simp only [runOp, d3]
  first | done | rfl
 have hset : (X ++ v :: Y).set 3 (.own s4.h.next 0 (k + 1) 4 none) = X ++ (.own s4.h.next 0 (k + 1) 4 none) :: Y := by
  rw [← hX, List.set_append_right _ _ (Nat.le_refl _), Nat.sub_self]
  rfl
 have hst := st_at (i := 3) (x := .own s4.h.next 0 (k + 1) 4 none) gC4 (by rw [List.length_append, List.length_cons, hX]; omega)
 rw [hset] at hst
 refine store_draw2 (b := C) (off := 3) (v := .own s4.h.next 0 (k + 1) 4 none) (cs := X ++ v :: Y) (l := [.own s4.h.next 0 (k + 1) 4 none]) (h' := h4.put C (some (.cells (X ++ (.own s4.h.next 0 (k + 1) 4 none) :: Y) true))) ?_ ?_ ?_ rfl ?_ ?_ ?_ ?_ ?_
 ·simp -implicitDefEqProofs only [V, ↓reduceIte, reduceEqDiff, reduceAdd, reduceMul, reduceCtorEq, reduceEq, reduceLT, reduceLE]
 ·simp -implicitDefEqProofs only [V, ↓reduceIte, reduceEqDiff, reduceAdd, reduceMul, reduceCtorEq, reduceEq, reduceLT, reduceLE, dv]
 ·simp -implicitDefEqProofs only [V, ↓reduceIte, reduceEqDiff, reduceAdd, reduceMul, reduceCtorEq, reduceEq, reduceLT, reduceLE, hh5]
  simp only [ids, below, List.all_cons, List.all_nil, Bool.and_true]
  exact Nat.blt_eq.mpr (by omega)
 ·simp -implicitDefEqProofs only [V, ↓reduceIte, reduceEqDiff, reduceAdd, reduceMul, reduceCtorEq, reduceEq, reduceLT, reduceLE, hh5, gC4]
 ·simp -implicitDefEqProofs only [V, ↓reduceIte, reduceEqDiff, reduceAdd, reduceMul, reduceCtorEq, reduceEq, reduceLT, reduceLE, hh5, hbc4]
 ·simp -implicitDefEqProofs only [V, ↓reduceIte, reduceEqDiff, reduceAdd, reduceMul, reduceCtorEq, reduceEq, reduceLT, reduceLE, hh5]
  omega
 ·simp -implicitDefEqProofs only [V, ↓reduceIte, reduceEqDiff, reduceAdd, reduceMul, reduceCtorEq, reduceEq, reduceLT, reduceLE, hh5, hst]
 refine draw_nil ⟨rfl, ⟨⟨.own s4.h.next 0 (k + 1) 4 none, ps ++ qs, ?_, ?_, ?_⟩, ?_, ?_, ?_, ?_, ?_⟩, ?_, ?_, ?_, ?_, ?_⟩
 ·refine hrow4.to (Nat.le_refl _) fun x x1 x2 => ?_
  exact get_put_old (by omega)
 ·rw [List.map_append, q3]
 ·exact put_get
 ·obtain ⟨y1, y2, y3, y4, y5⟩ := hrq2
  refine ⟨by show r < h4.next; omega, y2, y3, ?_, y5⟩
  show (h4.put C _).get r = _
  rw [get_put_old hrC, g4, p3 r hr, g3 r y1, y4]
 ·refine NoTag.put fun b x t n' e => ?_
  rw [g4] at e
  exact pushR_nt (by rw [hh4]; exact hnt2.alloc) _ _ _ _ e
 ·show s.h.next ≤ h4.next
  rw [← eh]
  omega
 ·intro x x1 x2 x3
  show (h4.put C _).get x = s.h.get x
  rw [get_put_old x3, g4, p3 x x1, g3 x (by omega), m4 x (by omega) x2, eh]
 ·show s5.defers = s.defers
  exact dd
 ·simp -implicitDefEqProofs only [V, ↓reduceIte, reduceEqDiff, reduceAdd, reduceMul, reduceCtorEq, reduceEq, reduceLT, reduceLE, d0]
 ·simp -implicitDefEqProofs only [V, ↓reduceIte, reduceEqDiff, reduceAdd, reduceMul, reduceCtorEq, reduceEq, reduceLT, reduceLE, d3]
 ·rw [← di]; simp -implicitDefEqProofs only [V, ↓reduceIte, reduceEqDiff, reduceAdd, reduceMul, reduceCtorEq, reduceEq, reduceLT, reduceLE]
 ·rw [← dm]; simp -implicitDefEqProofs only [V, ↓reduceIte, reduceEqDiff, reduceAdd, reduceMul, reduceCtorEq, reduceEq, reduceLT, reduceLE]
 ·rw [← d2]; simp -implicitDefEqProofs only [V, ↓reduceIte, reduceEqDiff, reduceAdd, reduceMul, reduceCtorEq, reduceEq, reduceLT, reduceLE]
set_option maxHeartbeats 4000000 in
theorem f28_d0_run {α : Type} {f : RS → α × RS} {cs : α → List AV} {B n r C lo k : Nat} {F : List UInt8} {v : AV} {ps : List (AV × AV)} {X Y : List AV} {s : St} {st : RS} (ok : OneD 55 f cs B n F) (hcs : ∀ a, (cs a).length = 2) (hrq : Rq s.h r F st) (hbad : st.bad = false) (hB : st.rest.length < B) (hnt : NoTag s.h)
  (hrow : RowR s.h lo n k 2 v ps) (hk : k < 2 ^ 30) (hC : C < lo) (hr : r < lo) (hrC : r ≠ C) (hlo : lo ≤ s.h.next) (hg : s.h.get C = some (.cells (X ++ v :: Y) true)) (hX : X.length = 2) (hX0 : below lo (idsL X) = true) (hY0 : idsL Y = []) (hv : v.cells = some [v])
  (h0 : s.eval (.t 0) = some (.ptr r 0)) (h3 : s.eval (.t 3) = some (.ptr C 0)) :
  Run E1 f28_d0 s fun e s' => e = .normal ∧ DrTo s s' r C lo n k 2 F X Y (f st).2 ps (cs (f st).1) ∧ s'.eval (.t 0) = some (.ptr r 0) ∧ s'.eval (.t 3) = some (.ptr C 0) ∧ s'.eval (.t 5) = s.eval (.t 5) ∧ s'.eval (.t 4) = s.eval (.t 4) ∧ s'.eval (.t 2) = s.eval (.t 2) := by
 obtain ⟨hra, hpb, hvb⟩ := hrow.at
 have hCn : C < s.h.next := by omega
 have hbc : below s.h.next (idsL (X ++ v :: Y)) = true := below_app (below_le hX0 hlo) (by
  simp only [idsL, hY0, List.append_nil]
  exact hvb)
 have nC : ∀ o, niceT s.h (some (.ptr C o)) = true := fun o => nice_ptr hCn hg hbc
 have hrq0 := hrq
 obtain ⟨r1, cap, at', gr, e1, e2⟩ := hrq
 have nR : ∀ o, niceT s.h (some (.ptr r o)) = true := fun o => q_nice r1 gr
 have hdrop : (X ++ v :: Y).drop 2 = v :: Y := by rw [← hX, List.drop_left]
 have hle : Nat.ble 2 (X ++ v :: Y).length = true := Nat.ble_eq.mpr (by rw [List.length_append, hX]; omega)
 have hrr : Rq (restrictH s.h [r]) r F st := ⟨r1, cap, at', by rw [restrict_in (List.mem_singleton_self r), gr], e1, e2⟩
 obtain ⟨w, h1, hcall, qs, q1, q2, q3, q4, q5, q6⟩ := ok (restrictH s.h [r]) r st hrr (noTag_restrict hnt) hbad hB
 have hn1 : s.h.next ≤ h1.next := q6.le
 have hql : qs.length = 2 := by
  have := congrArg List.length q3
  rw [List.length_map, hcs] at this
  exact this
 refine run_draw ?_
 show DrawTo E1 f28_o0 [] s _
 unfold f28_o0
 refine pure_draw rfl rfl ?_ (v := .ptr C 2) ?_ (fun i hi => by cases hi) ?_
 ·simp only [List.all_cons, List.all_nil, h3, nC, Bool.and_self]
 ·simp only [runOp, h3]
  first | done | rfl
 refine load_draw (b := C) (o := 2) (v := v) ?_ (nC _) ?_ rfl ?_
 ·simp -implicitDefEqProofs only [V, ↓reduceIte, reduceEqDiff, reduceAdd, reduceMul, reduceCtorEq, reduceEq, reduceLT, reduceLE]
 ·have hev : (s.put (some 27) (.ptr C 2)).eval (.t 27) = some (.ptr C 2) := by simp -implicitDefEqProofs only [V, ↓reduceIte, reduceEqDiff, reduceAdd, reduceMul, reduceCtorEq, reduceEq, reduceLT, reduceLE]
  have hh : (s.put (some 27) (.ptr C 2)).h = s.h := rfl
  have hcf : cellsFrom E1.globs s.h (.ptr C 2) = some (v :: Y) := by simp only [cellsFrom, hg, hle, cond_true, hdrop]
  simp only [runOp, hev, hh, hcf, Option.bind_some, takeN]
  rfl
 refine pure_draw rfl rfl ?_ (v := .ptr r 0) ?_ (show ∀ i ∈ ([0, 1] : List Nat), i < 2 by decide) ?_
 ·have e : ((s.put (some 27) (.ptr C 2)).put (some 28) v).eval (.t 0) = some (.ptr r 0) := by simp -implicitDefEqProofs only [V, ↓reduceIte, reduceEqDiff, reduceAdd, reduceMul, reduceCtorEq, reduceEq, reduceLT, reduceLE, h0]
  simp only [List.all_cons, List.all_nil, e, Bool.and_true]
  exact nR 0
 ·have e : ((s.put (some 27) (.ptr C 2)).put (some 28) v).eval (.t 0) = some (.ptr r 0) := by simp -implicitDefEqProofs only [V, ↓reduceIte, reduceEqDiff, reduceAdd, reduceMul, reduceCtorEq, reduceEq, reduceLT, reduceLE, h0]
  simp only [runOp, e]
  first | done | rfl
 generalize hs3 : St.put (St.put (St.put s (some 27) (.ptr C 2)) (some 28) v) (some 29) (.ptr r 0) = s3
 have a0 : s3.eval (.t 0) = some (.ptr r 0) := by rw [← hs3]; simp -implicitDefEqProofs only [V, ↓reduceIte, reduceEqDiff, reduceAdd, reduceMul, reduceCtorEq, reduceEq, reduceLT, reduceLE, h0]
 have a3 : s3.eval (.t 3) = some (.ptr C 0) := by rw [← hs3]; simp -implicitDefEqProofs only [V, ↓reduceIte, reduceEqDiff, reduceAdd, reduceMul, reduceCtorEq, reduceEq, reduceLT, reduceLE, h3]
 have ar : s3.eval (.t 28) = some v := by rw [← hs3]; simp -implicitDefEqProofs only [V, ↓reduceIte, reduceEqDiff, reduceAdd, reduceMul, reduceCtorEq, reduceEq, reduceLT, reduceLE]
 have ac : s3.eval (.t 29) = some (.ptr r 0) := by rw [← hs3]; simp -implicitDefEqProofs only [V, ↓reduceIte, reduceEqDiff, reduceAdd, reduceMul, reduceCtorEq, reduceEq, reduceLT, reduceLE]
 have ai : s3.eval (.t 5) = s.eval (.t 5) := by rw [← hs3]; simp -implicitDefEqProofs only [V, ↓reduceIte, reduceEqDiff, reduceAdd, reduceMul, reduceCtorEq, reduceEq, reduceLT, reduceLE]
 have an : s3.eval (.t 4) = s.eval (.t 4) := by rw [← hs3]; simp -implicitDefEqProofs only [V, ↓reduceIte, reduceEqDiff, reduceAdd, reduceMul, reduceCtorEq, reduceEq, reduceLT, reduceLE]
 have a2 : s3.eval (.t 2) = s.eval (.t 2) := by rw [← hs3]; simp -implicitDefEqProofs only [V, ↓reduceIte, reduceEqDiff, reduceAdd, reduceMul, reduceCtorEq, reduceEq, reduceLT, reduceLE]
 have eh : s3.h = s.h := by rw [← hs3]; rfl
 have ed : s3.defers = s.defers := by rw [← hs3]; rfl
 have hF1 : ∀ x ∈ idsL (pickTm (s.put (some 27) (.ptr C 2)).tm [27]).vals, x = C := fun x hx => by
  have := vals_ids (s := s.put (some 27) (.ptr C 2)) (i := 27) (v := .ptr C 2) (by simp -implicitDefEqProofs only [V, ↓reduceIte, reduceEqDiff, reduceAdd, reduceMul, reduceCtorEq, reduceEq, reduceLT, reduceLE]) x hx
  simpa only [ids, List.mem_singleton] using this
 generalize idsL (pickTm (s.put (some 27) (.ptr C 2)).tm [27]).vals = F1 at *
 have hpk : idsL (pickTm s3.tm [29]).vals = [r] := by
  have e : s3.tm.get 29 = some (.ptr r 0) := ac
  simp only [pickTm, e]
  rfl
 clear hs3
 rw [← eh] at hrow hra hpb hvb hCn hg hlo gr r1 hnt hn1 q4 q6 hcall
 refine call_draw (f := 55) (i := 29) (r := r) (v := w) (h1 := h1) (cs := [.imm (bytesA F) F.length cap, .val (.int .i64 (at' : Nat)), .val (.bool st.bad)]) (rw' := true) ac hpk r1 gr rfl hnt hcall hn1 ?_ ?_
 ·intro D hD
  have hmC : ∀ x ∈ D, memN F1 x = false := fun x hx => by
   rw [memN, List.any_eq_false]
   intro y hy ey
   have := Nat.eq_of_beq_eq_true ey
   rw [hF1 y hy, hD x hx] at this
   omega
  have hany : (D.any fun x => memN F1 x) = false := by
   rw [List.any_eq_false]
   intro x hx
   rw [hmC x hx]
   decide
  have hany0 : (D.any fun x => memN [] x) = false := by
   rw [List.any_eq_false]
   intro x hx
   simp [memN]
  have t0 : ∀ l, touches ⟨[], [], s.h.next, s.h.next⟩ l = false := fun l => quiet_touch ⟨rfl, rfl⟩ l
  have t1 : ∀ l, touches ⟨F1, [], s.h.next, s.h.next⟩ l = false := fun l => quiet_touch ⟨rfl, rfl⟩ l
  show freeOk [⟨[], [], s.h.next, s.h.next⟩, ⟨F1, [], s.h.next, s.h.next⟩, _] ⟨[r], D, s3.h.next, h1.next⟩ [0, 1] = true
  simp only [freeOk, List.getElem?_cons_zero, List.getElem?_cons_succ, recApart, t0, t1, hany, hany0, Bool.not_false, Bool.and_self]
 intro D h2 hD m1 m2 m3 m4 m5
 have hn2 : s3.h.next ≤ h2.next := by omega
 have hCr : C ≠ r := fun e => hrC e.symm
 have gC2 : h2.get C = some (.cells (X ++ v :: Y) true) := by rw [m4 C hCn hCr, hg]
 have hnt2 : NoTag h2 := fun b x t n' e => by
  rcases Nat.lt_or_ge b s3.h.next with q | q
  ·by_cases e' : b = r
   ·subst e'
    rw [m3] at e
    exact q6.nt (noTag_restrict hnt) _ _ _ _ e
   ·rw [m4 b q e'] at e
    exact hnt _ _ _ _ e
  ·rcases Nat.lt_or_ge b h1.next with q' | q'
   ·rw [m2 b q q'] at e
    exact q6.nt (noTag_restrict hnt) _ _ _ _ e
   ·rw [m5 b q'] at e
    exact hnt _ _ _ _ e
 have hrep2 : ∀ q ∈ qs, Rep h2 s3.h.next h2.next n q.1 q.2 := fun q hq => rep_same (Nat.le_refl _) (by rw [m1]; exact Nat.le_refl _) (fun x x1 x2 => m2 x x1 x2) (q4 q hq)
 have hwb : below h2.next (ids w) = true := by rw [q2]; exact rows_below (Nat.le_refl _) hrep2
 have hrow2 : RowR h2 lo n k 2 v ps := by
  refine hrow.to hn2 fun x x1 x2 => m4 x x2 (by omega)
 have hrq2 : Rq h2 r F (f st).2 := by
  obtain ⟨y1, y2, y3, y4, y5⟩ := q5
  exact ⟨by omega, y2, y3, by rw [m3, y4], y5⟩
 refine build_draw (es := 2) (n := 1) (cs := qs.map (·.1)) (v := w) ?_ ?_ ?_ (show ∀ i ∈ ([0, 1] : List Nat), i < 4 by decide) ?_
 ·simp -implicitDefEqProofs only [V, ↓reduceIte, reduceEqDiff, reduceAdd, reduceMul, reduceCtorEq, reduceEq, reduceLT, reduceLE]
 ·simp -implicitDefEqProofs only [V, ↓reduceIte, reduceEqDiff, reduceAdd, reduceMul, reduceCtorEq, reduceEq, reduceLT, reduceLE]
  exact hwb
 ·exact fill_all (v := w) (by simp -implicitDefEqProofs only [V, ↓reduceIte, reduceEqDiff, reduceAdd, reduceMul, reduceCtorEq, reduceEq, reduceLT, reduceLE]) q1 (by rw [List.length_map, hql]) rfl
 generalize hdn : (([] ++ [_] ++ [_] ++ [_] ++ [_] ++ [_] : List DRec)) = dn
 generalize hs4 : St.put (St.toH (St.put (St.toH s3 h2) (some 30) w) _) (some 31) _ = s4
 have hh4 : s4.h = h2.alloc (.cells (qs.map (·.1)) true) := by rw [← hs4]; simp -implicitDefEqProofs only [V, ↓reduceIte, reduceEqDiff, reduceAdd, reduceMul, reduceCtorEq, reduceEq, reduceLT, reduceLE]
 have b0 : s4.eval (.t 0) = some (.ptr r 0) := by rw [← hs4]; simp -implicitDefEqProofs only [V, ↓reduceIte, reduceEqDiff, reduceAdd, reduceMul, reduceCtorEq, reduceEq, reduceLT, reduceLE, a0]
 have b3 : s4.eval (.t 3) = some (.ptr C 0) := by rw [← hs4]; simp -implicitDefEqProofs only [V, ↓reduceIte, reduceEqDiff, reduceAdd, reduceMul, reduceCtorEq, reduceEq, reduceLT, reduceLE, a3]
 have br : s4.eval (.t 28) = some v := by rw [← hs4]; simp -implicitDefEqProofs only [V, ↓reduceIte, reduceEqDiff, reduceAdd, reduceMul, reduceCtorEq, reduceEq, reduceLT, reduceLE, ar]
 have bn : s4.eval (.t 31) = some (.own h2.next 0 1 2 (some 1)) := by rw [← hs4]; simp -implicitDefEqProofs only [V, ↓reduceIte, reduceEqDiff, reduceAdd, reduceMul, reduceCtorEq, reduceEq, reduceLT, reduceLE]
 have bi : s4.eval (.t 5) = s.eval (.t 5) := by rw [← hs4, ← ai]; simp -implicitDefEqProofs only [V, ↓reduceIte, reduceEqDiff, reduceAdd, reduceMul, reduceCtorEq, reduceEq, reduceLT, reduceLE]
 have bm : s4.eval (.t 4) = s.eval (.t 4) := by rw [← hs4, ← an]; simp -implicitDefEqProofs only [V, ↓reduceIte, reduceEqDiff, reduceAdd, reduceMul, reduceCtorEq, reduceEq, reduceLT, reduceLE]
 have b2 : s4.eval (.t 2) = s.eval (.t 2) := by rw [← hs4, ← a2]; simp -implicitDefEqProofs only [V, ↓reduceIte, reduceEqDiff, reduceAdd, reduceMul, reduceCtorEq, reduceEq, reduceLT, reduceLE]
 have bd : s4.defers = s.defers := by rw [← hs4, ← ed]; simp -implicitDefEqProofs only [V, ↓reduceIte, reduceEqDiff, reduceAdd, reduceMul, reduceCtorEq, reduceEq, reduceLT, reduceLE]
 clear hs4 hdn
 have n3 : s4.h.next = h2.next + 1 := by rw [hh4]; rfl
 have g3 : ∀ x, x < h2.next → s4.h.get x = h2.get x := fun x hx => by rw [hh4, get_alloc_old hx]
 have gc : s4.h.get h2.next = some (.cells (qs.map (·.1)) true) := by rw [hh4]; exact box_get
 have hrow3 : RowR s4.h lo n k 2 v ps := hrow2.to (by omega) fun x x1 x2 => g3 x x2
 obtain ⟨c1, c2, c3⟩ := hrow3.at
 have hrep3 : ∀ q ∈ qs, Rep s4.h s3.h.next s4.h.next n q.1 q.2 := fun q hq => rep_same (Nat.le_refl _) (by omega) (fun x x1 x2 => g3 x x2) (hrep2 q hq)
 obtain ⟨p1, p2, p3⟩ := pushR_ok hrow (qs := qs) (h := s4.h) (by omega) (by omega) (fun x x1 x2 => by rw [g3 x (by omega), m4 x x2 (by omega)]) hql hrep3
 refine app_draw (k := k) (c := h2.next) (v := v) (pc := ps.map (·.1)) (new := qs.map (·.1)) c1 c2 (by omega) gc (rows_below (Nat.le_refl _) hrep3) (by rw [List.length_map, hql]) (okLen_of hk (by decide)) br bn rfl ?_
 intro rec h4 n4 g4
 have hrow4 : RowR h4 lo n (k + 1) 2 (.own s4.h.next 0 (k + 1) 2 none) (ps ++ qs) := p2.to (by omega) fun x _ _ => g4 x
 have gC4 : h4.get C = some (.cells (X ++ v :: Y) true) := by rw [g4, p3 C hC, g3 C (by omega), gC2]
 have hbc4 : below h4.next (idsL (X ++ v :: Y)) = true := below_le (by rw [← eh] at hbc; exact hbc) (by omega)
 have nC4 : ∀ o, niceT h4 (some (.ptr C o)) = true := fun o => nice_ptr (by omega) gC4 hbc4
 generalize hs5 : St.put (St.toH s4 h4) (some 32) _ = s5
 have hh5 : s5.h = h4 := by rw [← hs5]; rfl
 have d0 : s5.eval (.t 0) = some (.ptr r 0) := by rw [← hs5]; simp -implicitDefEqProofs only [V, ↓reduceIte, reduceEqDiff, reduceAdd, reduceMul, reduceCtorEq, reduceEq, reduceLT, reduceLE, b0]
 have d3 : s5.eval (.t 3) = some (.ptr C 0) := by rw [← hs5]; simp -implicitDefEqProofs only [V, ↓reduceIte, reduceEqDiff, reduceAdd, reduceMul, reduceCtorEq, reduceEq, reduceLT, reduceLE, b3]
 have dv : s5.eval (.t 32) = some (.own s4.h.next 0 (k + 1) 2 none) := by rw [← hs5]; simp -implicitDefEqProofs only [V, ↓reduceIte, reduceEqDiff, reduceAdd, reduceMul, reduceCtorEq, reduceEq, reduceLT, reduceLE]
 have di : s5.eval (.t 5) = s.eval (.t 5) := by rw [← hs5, ← bi]; simp -implicitDefEqProofs only [V, ↓reduceIte, reduceEqDiff, reduceAdd, reduceMul, reduceCtorEq, reduceEq, reduceLT, reduceLE]
 have dm : s5.eval (.t 4) = s.eval (.t 4) := by rw [← hs5, ← bm]; simp -implicitDefEqProofs only [V, ↓reduceIte, reduceEqDiff, reduceAdd, reduceMul, reduceCtorEq, reduceEq, reduceLT, reduceLE]
 have d2 : s5.eval (.t 2) = s.eval (.t 2) := by rw [← hs5, ← b2]; simp -implicitDefEqProofs only [V, ↓reduceIte, reduceEqDiff, reduceAdd, reduceMul, reduceCtorEq, reduceEq, reduceLT, reduceLE]
 have dd : s5.defers = s.defers := by rw [← hs5, ← bd]; simp -implicitDefEqProofs only [V, ↓reduceIte, reduceEqDiff, reduceAdd, reduceMul, reduceCtorEq, reduceEq, reduceLT, reduceLE]
 clear hs5
 refine pure_draw rfl rfl ?_ (v := .ptr C 2) ?_ (fun i hi => by cases hi) ?_
 ·simp only [List.all_cons, List.all_nil, d3, hh5, nC4, Bool.and_self]
 ·simp only [runOp, d3]
  first | done | rfl
 have hset : (X ++ v :: Y).set 2 (.own s4.h.next 0 (k + 1) 2 none) = X ++ (.own s4.h.next 0 (k + 1) 2 none) :: Y := by
  rw [← hX, List.set_append_right _ _ (Nat.le_refl _), Nat.sub_self]
  rfl
 have hst := st_at (i := 2) (x := .own s4.h.next 0 (k + 1) 2 none) gC4 (by rw [List.length_append, List.length_cons, hX]; omega)
 rw [hset] at hst
 refine store_draw2 (b := C) (off := 2) (v := .own s4.h.next 0 (k + 1) 2 none) (cs := X ++ v :: Y) (l := [.own s4.h.next 0 (k + 1) 2 none]) (h' := h4.put C (some (.cells (X ++ (.own s4.h.next 0 (k + 1) 2 none) :: Y) true))) ?_ ?_ ?_ rfl ?_ ?_ ?_ ?_ ?_
 ·simp -implicitDefEqProofs only [V, ↓reduceIte, reduceEqDiff, reduceAdd, reduceMul, reduceCtorEq, reduceEq, reduceLT, reduceLE]
 ·simp -implicitDefEqProofs only [V, ↓reduceIte, reduceEqDiff, reduceAdd, reduceMul, reduceCtorEq, reduceEq, reduceLT, reduceLE, dv]
 ·simp -implicitDefEqProofs only [V, ↓reduceIte, reduceEqDiff, reduceAdd, reduceMul, reduceCtorEq, reduceEq, reduceLT, reduceLE, hh5]
  simp only [ids, below, List.all_cons, List.all_nil, Bool.and_true]
  exact Nat.blt_eq.mpr (by omega)
 ·simp -implicitDefEqProofs only [V, ↓reduceIte, reduceEqDiff, reduceAdd, reduceMul, reduceCtorEq, reduceEq, reduceLT, reduceLE, hh5, gC4]
 ·simp -implicitDefEqProofs only [V, ↓reduceIte, reduceEqDiff, reduceAdd, reduceMul, reduceCtorEq, reduceEq, reduceLT, reduceLE, hh5, hbc4]
 ·simp -implicitDefEqProofs only [V, ↓reduceIte, reduceEqDiff, reduceAdd, reduceMul, reduceCtorEq, reduceEq, reduceLT, reduceLE, hh5]
  omega
 ·simp -implicitDefEqProofs only [V, ↓reduceIte, reduceEqDiff, reduceAdd, reduceMul, reduceCtorEq, reduceEq, reduceLT, reduceLE, hh5, hst]
 refine draw_nil ⟨rfl, ⟨⟨.own s4.h.next 0 (k + 1) 2 none, ps ++ qs, ?_, ?_, ?_⟩, ?_, ?_, ?_, ?_, ?_⟩, ?_, ?_, ?_, ?_, ?_⟩
 ·refine hrow4.to (Nat.le_refl _) fun x x1 x2 => ?_
  exact get_put_old (by omega)
 ·rw [List.map_append, q3]
 ·exact put_get
 ·obtain ⟨y1, y2, y3, y4, y5⟩ := hrq2
  refine ⟨by show r < h4.next; omega, y2, y3, ?_, y5⟩
  show (h4.put C _).get r = _
  rw [get_put_old hrC, g4, p3 r hr, g3 r y1, y4]
 ·refine NoTag.put fun b x t n' e => ?_
  rw [g4] at e
  exact pushR_nt (by rw [hh4]; exact hnt2.alloc) _ _ _ _ e
 ·show s.h.next ≤ h4.next
  rw [← eh]
  omega
 ·intro x x1 x2 x3
  show (h4.put C _).get x = s.h.get x
  rw [get_put_old x3, g4, p3 x x1, g3 x (by omega), m4 x (by omega) x2, eh]
 ·show s5.defers = s.defers
  exact dd
 ·simp -implicitDefEqProofs only [V, ↓reduceIte, reduceEqDiff, reduceAdd, reduceMul, reduceCtorEq, reduceEq, reduceLT, reduceLE, d0]
 ·simp -implicitDefEqProofs only [V, ↓reduceIte, reduceEqDiff, reduceAdd, reduceMul, reduceCtorEq, reduceEq, reduceLT, reduceLE, d3]
 ·rw [← di]; simp -implicitDefEqProofs only [V, ↓reduceIte, reduceEqDiff, reduceAdd, reduceMul, reduceCtorEq, reduceEq, reduceLT, reduceLE]
 ·rw [← dm]; simp -implicitDefEqProofs only [V, ↓reduceIte, reduceEqDiff, reduceAdd, reduceMul, reduceCtorEq, reduceEq, reduceLT, reduceLE]
 ·rw [← d2]; simp -implicitDefEqProofs only [V, ↓reduceIte, reduceEqDiff, reduceAdd, reduceMul, reduceCtorEq, reduceEq, reduceLT, reduceLE]
set_option maxHeartbeats 4000000 in
theorem f28_d2_run {α : Type} {f : RS → α × RS} {cs : α → List AV} {B n r C lo k : Nat} {F : List UInt8} {v : AV} {ps : List (AV × AV)} {X Y : List AV} {s : St} {st : RS} (ok : OneD 28 f cs B n F) (hcs : ∀ a, (cs a).length = 4) (hrq : Rq s.h r F st) (hbad : st.bad = false) (hB : st.rest.length < B) (hnt : NoTag s.h)
  (hrow : RowR s.h lo n k 4 v ps) (hk : k < 2 ^ 30) (hC : C < lo) (hr : r < lo) (hrC : r ≠ C) (hlo : lo ≤ s.h.next) (hg : s.h.get C = some (.cells (X ++ v :: Y) true)) (hX : X.length = 3) (hX0 : below lo (idsL X) = true) (hY0 : idsL Y = []) (hv : v.cells = some [v])
  (h0 : s.eval (.t 0) = some (.ptr r 0)) (h3 : s.eval (.t 3) = some (.ptr C 0)) :
  Run E1 f28_d2 s fun e s' => e = .normal ∧ DrTo s s' r C lo n k 4 F X Y (f st).2 ps (cs (f st).1) ∧ s'.eval (.t 0) = some (.ptr r 0) ∧ s'.eval (.t 3) = some (.ptr C 0) ∧ s'.eval (.t 6) = s.eval (.t 6) ∧ s'.eval (.t 4) = s.eval (.t 4) ∧ s'.eval (.t 2) = s.eval (.t 2) := by
 obtain ⟨hra, hpb, hvb⟩ := hrow.at
 have hCn : C < s.h.next := by omega
 have hbc : below s.h.next (idsL (X ++ v :: Y)) = true := below_app (below_le hX0 hlo) (by
  simp only [idsL, hY0, List.append_nil]
  exact hvb)
 have nC : ∀ o, niceT s.h (some (.ptr C o)) = true := fun o => nice_ptr hCn hg hbc
 have hrq0 := hrq
 obtain ⟨r1, cap, at', gr, e1, e2⟩ := hrq
 have nR : ∀ o, niceT s.h (some (.ptr r o)) = true := fun o => q_nice r1 gr
 have hdrop : (X ++ v :: Y).drop 3 = v :: Y := by rw [← hX, List.drop_left]
 have hle : Nat.ble 3 (X ++ v :: Y).length = true := Nat.ble_eq.mpr (by rw [List.length_append, hX]; omega)
 have hrr : Rq (restrictH s.h [r]) r F st := ⟨r1, cap, at', by rw [restrict_in (List.mem_singleton_self r), gr], e1, e2⟩
 obtain ⟨w, h1, hcall, qs, q1, q2, q3, q4, q5, q6⟩ := ok (restrictH s.h [r]) r st hrr (noTag_restrict hnt) hbad hB
 have hn1 : s.h.next ≤ h1.next := q6.le
 have hql : qs.length = 4 := by
  have := congrArg List.length q3
  rw [List.length_map, hcs] at this
  exact this
 refine run_draw ?_
 show DrawTo E1 f28_o2 [] s _
 unfold f28_o2
 refine pure_draw rfl rfl ?_ (v := .ptr C 3) ?_ (fun i hi => by cases hi) ?_
 ·simp only [List.all_cons, List.all_nil, h3, nC, Bool.and_self]
 ·simp only [runOp, h3]
  first | done | rfl
 refine load_draw (b := C) (o := 3) (v := v) ?_ (nC _) ?_ rfl ?_
 ·simp -implicitDefEqProofs only [V, ↓reduceIte, reduceEqDiff, reduceAdd, reduceMul, reduceCtorEq, reduceEq, reduceLT, reduceLE]
 ·have hev : (s.put (some 48) (.ptr C 3)).eval (.t 48) = some (.ptr C 3) := by simp -implicitDefEqProofs only [V, ↓reduceIte, reduceEqDiff, reduceAdd, reduceMul, reduceCtorEq, reduceEq, reduceLT, reduceLE]
  have hh : (s.put (some 48) (.ptr C 3)).h = s.h := rfl
  have hcf : cellsFrom E1.globs s.h (.ptr C 3) = some (v :: Y) := by simp only [cellsFrom, hg, hle, cond_true, hdrop]
  simp only [runOp, hev, hh, hcf, Option.bind_some, takeN]
  rfl
 refine pure_draw rfl rfl ?_ (v := .ptr r 0) ?_ (show ∀ i ∈ ([0, 1] : List Nat), i < 2 by decide) ?_
 ·have e : ((s.put (some 48) (.ptr C 3)).put (some 49) v).eval (.t 0) = some (.ptr r 0) := by simp -implicitDefEqProofs only [V, ↓reduceIte, reduceEqDiff, reduceAdd, reduceMul, reduceCtorEq, reduceEq, reduceLT, reduceLE, h0]
  simp only [List.all_cons, List.all_nil, e, Bool.and_true]
  exact nR 0
 ·have e : ((s.put (some 48) (.ptr C 3)).put (some 49) v).eval (.t 0) = some (.ptr r 0) := by simp -implicitDefEqProofs only [V, ↓reduceIte, reduceEqDiff, reduceAdd, reduceMul, reduceCtorEq, reduceEq, reduceLT, reduceLE, h0]
  simp only [runOp, e]
  first | done | rfl
 generalize hs3 : St.put (St.put (St.put s (some 48) (.ptr C 3)) (some 49) v) (some 50) (.ptr r 0) = s3
 have a0 : s3.eval (.t 0) = some (.ptr r 0) := by rw [← hs3]; simp -implicitDefEqProofs only [V, ↓reduceIte, reduceEqDiff, reduceAdd, reduceMul, reduceCtorEq, reduceEq, reduceLT, reduceLE, h0]
 have a3 : s3.eval (.t 3) = some (.ptr C 0) := by rw [← hs3]; simp -implicitDefEqProofs only [V, ↓reduceIte, reduceEqDiff, reduceAdd, reduceMul, reduceCtorEq, reduceEq, reduceLT, reduceLE, h3]
 have ar : s3.eval (.t 49) = some v := by rw [← hs3]; simp -implicitDefEqProofs only [V, ↓reduceIte, reduceEqDiff, reduceAdd, reduceMul, reduceCtorEq, reduceEq, reduceLT, reduceLE]
 have ac : s3.eval (.t 50) = some (.ptr r 0) := by rw [← hs3]; simp -implicitDefEqProofs only [V, ↓reduceIte, reduceEqDiff, reduceAdd, reduceMul, reduceCtorEq, reduceEq, reduceLT, reduceLE]
 have ai : s3.eval (.t 6) = s.eval (.t 6) := by rw [← hs3]; simp -implicitDefEqProofs only [V, ↓reduceIte, reduceEqDiff, reduceAdd, reduceMul, reduceCtorEq, reduceEq, reduceLT, reduceLE]
 have an : s3.eval (.t 4) = s.eval (.t 4) := by rw [← hs3]; simp -implicitDefEqProofs only [V, ↓reduceIte, reduceEqDiff, reduceAdd, reduceMul, reduceCtorEq, reduceEq, reduceLT, reduceLE]
 have a2 : s3.eval (.t 2) = s.eval (.t 2) := by rw [← hs3]; simp -implicitDefEqProofs only [V, ↓reduceIte, reduceEqDiff, reduceAdd, reduceMul, reduceCtorEq, reduceEq, reduceLT, reduceLE]
 have eh : s3.h = s.h := by rw [← hs3]; rfl
 have ed : s3.defers = s.defers := by rw [← hs3]; rfl
 have hF1 : ∀ x ∈ idsL (pickTm (s.put (some 48) (.ptr C 3)).tm [48]).vals, x = C := fun x hx => by
  have := vals_ids (s := s.put (some 48) (.ptr C 3)) (i := 48) (v := .ptr C 3) (by simp -implicitDefEqProofs only [V, ↓reduceIte, reduceEqDiff, reduceAdd, reduceMul, reduceCtorEq, reduceEq, reduceLT, reduceLE]) x hx
  simpa only [ids, List.mem_singleton] using this
 generalize idsL (pickTm (s.put (some 48) (.ptr C 3)).tm [48]).vals = F1 at *
 have hpk : idsL (pickTm s3.tm [50]).vals = [r] := by
  have e : s3.tm.get 50 = some (.ptr r 0) := ac
  simp only [pickTm, e]
  rfl
 clear hs3
 rw [← eh] at hrow hra hpb hvb hCn hg hlo gr r1 hnt hn1 q4 q6 hcall
 refine call_draw (f := 28) (i := 50) (r := r) (v := w) (h1 := h1) (cs := [.imm (bytesA F) F.length cap, .val (.int .i64 (at' : Nat)), .val (.bool st.bad)]) (rw' := true) ac hpk r1 gr rfl hnt hcall hn1 ?_ ?_
 ·intro D hD
  have hmC : ∀ x ∈ D, memN F1 x = false := fun x hx => by
   rw [memN, List.any_eq_false]
   intro y hy ey
   have := Nat.eq_of_beq_eq_true ey
   rw [hF1 y hy, hD x hx] at this
   omega
  have hany : (D.any fun x => memN F1 x) = false := by
   rw [List.any_eq_false]
   intro x hx
   rw [hmC x hx]
   decide
  have hany0 : (D.any fun x => memN [] x) = false := by
   rw [List.any_eq_false]
   intro x hx
   simp [memN]
  have t0 : ∀ l, touches ⟨[], [], s.h.next, s.h.next⟩ l = false := fun l => quiet_touch ⟨rfl, rfl⟩ l
  have t1 : ∀ l, touches ⟨F1, [], s.h.next, s.h.next⟩ l = false := fun l => quiet_touch ⟨rfl, rfl⟩ l
  show freeOk [⟨[], [], s.h.next, s.h.next⟩, ⟨F1, [], s.h.next, s.h.next⟩, _] ⟨[r], D, s3.h.next, h1.next⟩ [0, 1] = true
  simp only [freeOk, List.getElem?_cons_zero, List.getElem?_cons_succ, recApart, t0, t1, hany, hany0, Bool.not_false, Bool.and_self]
 intro D h2 hD m1 m2 m3 m4 m5
 have hn2 : s3.h.next ≤ h2.next := by omega
 have hCr : C ≠ r := fun e => hrC e.symm
 have gC2 : h2.get C = some (.cells (X ++ v :: Y) true) := by rw [m4 C hCn hCr, hg]
 have hnt2 : NoTag h2 := fun b x t n' e => by
  rcases Nat.lt_or_ge b s3.h.next with q | q
  ·by_cases e' : b = r
   ·subst e'
    rw [m3] at e
    exact q6.nt (noTag_restrict hnt) _ _ _ _ e
   ·rw [m4 b q e'] at e
    exact hnt _ _ _ _ e
  ·rcases Nat.lt_or_ge b h1.next with q' | q'
   ·rw [m2 b q q'] at e
    exact q6.nt (noTag_restrict hnt) _ _ _ _ e
   ·rw [m5 b q'] at e
    exact hnt _ _ _ _ e
 have hrep2 : ∀ q ∈ qs, Rep h2 s3.h.next h2.next n q.1 q.2 := fun q hq => rep_same (Nat.le_refl _) (by rw [m1]; exact Nat.le_refl _) (fun x x1 x2 => m2 x x1 x2) (q4 q hq)
 have hwb : below h2.next (ids w) = true := by rw [q2]; exact rows_below (Nat.le_refl _) hrep2
 have hrow2 : RowR h2 lo n k 4 v ps := by
  refine hrow.to hn2 fun x x1 x2 => m4 x x2 (by omega)
 have hrq2 : Rq h2 r F (f st).2 := by
  obtain ⟨y1, y2, y3, y4, y5⟩ := q5
  exact ⟨by omega, y2, y3, by rw [m3, y4], y5⟩
 refine build_draw (es := 4) (n := 1) (cs := qs.map (·.1)) (v := w) ?_ ?_ ?_ (show ∀ i ∈ ([0, 1] : List Nat), i < 4 by decide) ?_
 ·simp -implicitDefEqProofs only [V, ↓reduceIte, reduceEqDiff, reduceAdd, reduceMul, reduceCtorEq, reduceEq, reduceLT, reduceLE]
 ·simp -implicitDefEqProofs only [V, ↓reduceIte, reduceEqDiff, reduceAdd, reduceMul, reduceCtorEq, reduceEq, reduceLT, reduceLE]
  exact hwb
 ·exact fill_all (v := w) (by simp -implicitDefEqProofs only [V, ↓reduceIte, reduceEqDiff, reduceAdd, reduceMul, reduceCtorEq, reduceEq, reduceLT, reduceLE]) q1 (by rw [List.length_map, hql]) rfl
 generalize hdn : (([] ++ [_] ++ [_] ++ [_] ++ [_] ++ [_] : List DRec)) = dn
 generalize hs4 : St.put (St.toH (St.put (St.toH s3 h2) (some 51) w) _) (some 52) _ = s4
 have hh4 : s4.h = h2.alloc (.cells (qs.map (·.1)) true) := by rw [← hs4]; simp -implicitDefEqProofs only [V, ↓reduceIte, reduceEqDiff, reduceAdd, reduceMul, reduceCtorEq, reduceEq, reduceLT, reduceLE]
 have b0 : s4.eval (.t 0) = some (.ptr r 0) := by rw [← hs4]; simp -implicitDefEqProofs only [V, ↓reduceIte, reduceEqDiff, reduceAdd, reduceMul, reduceCtorEq, reduceEq, reduceLT, reduceLE, a0]
 have b3 : s4.eval (.t 3) = some (.ptr C 0) := by rw [← hs4]; simp -implicitDefEqProofs only [V, ↓reduceIte, reduceEqDiff, reduceAdd, reduceMul, reduceCtorEq, reduceEq, reduceLT, reduceLE, a3]
 have br : s4.eval (.t 49) = some v := by rw [← hs4]; simp -implicitDefEqProofs only [V, ↓reduceIte, reduceEqDiff, reduceAdd, reduceMul, reduceCtorEq, reduceEq, reduceLT, reduceLE, ar]
 have bn : s4.eval (.t 52) = some (.own h2.next 0 1 4 (some 1)) := by rw [← hs4]; simp -implicitDefEqProofs only [V, ↓reduceIte, reduceEqDiff, reduceAdd, reduceMul, reduceCtorEq, reduceEq, reduceLT, reduceLE]
 have bi : s4.eval (.t 6) = s.eval (.t 6) := by rw [← hs4, ← ai]; simp -implicitDefEqProofs only [V, ↓reduceIte, reduceEqDiff, reduceAdd, reduceMul, reduceCtorEq, reduceEq, reduceLT, reduceLE]
 have bm : s4.eval (.t 4) = s.eval (.t 4) := by rw [← hs4, ← an]; simp -implicitDefEqProofs only [V, ↓reduceIte, reduceEqDiff, reduceAdd, reduceMul, reduceCtorEq, reduceEq, reduceLT, reduceLE]
 have b2 : s4.eval (.t 2) = s.eval (.t 2) := by rw [← hs4, ← a2]; simp -implicitDefEqProofs only [V, ↓reduceIte, reduceEqDiff, reduceAdd, reduceMul, reduceCtorEq, reduceEq, reduceLT, reduceLE]
 have bd : s4.defers = s.defers := by rw [← hs4, ← ed]; simp -implicitDefEqProofs only [V, ↓reduceIte, reduceEqDiff, reduceAdd, reduceMul, reduceCtorEq, reduceEq, reduceLT, reduceLE]
 clear hs4 hdn
 have n3 : s4.h.next = h2.next + 1 := by rw [hh4]; rfl
 have g3 : ∀ x, x < h2.next → s4.h.get x = h2.get x := fun x hx => by rw [hh4, get_alloc_old hx]
 have gc : s4.h.get h2.next = some (.cells (qs.map (·.1)) true) := by rw [hh4]; exact box_get
 have hrow3 : RowR s4.h lo n k 4 v ps := hrow2.to (by omega) fun x x1 x2 => g3 x x2
 obtain ⟨c1, c2, c3⟩ := hrow3.at
 have hrep3 : ∀ q ∈ qs, Rep s4.h s3.h.next s4.h.next n q.1 q.2 := fun q hq => rep_same (Nat.le_refl _) (by omega) (fun x x1 x2 => g3 x x2) (hrep2 q hq)
 obtain ⟨p1, p2, p3⟩ := pushR_ok hrow (qs := qs) (h := s4.h) (by omega) (by omega) (fun x x1 x2 => by rw [g3 x (by omega), m4 x x2 (by omega)]) hql hrep3
 refine app_draw (k := k) (c := h2.next) (v := v) (pc := ps.map (·.1)) (new := qs.map (·.1)) c1 c2 (by omega) gc (rows_below (Nat.le_refl _) hrep3) (by rw [List.length_map, hql]) (okLen_of hk (by decide)) br bn rfl ?_
 intro rec h4 n4 g4
 have hrow4 : RowR h4 lo n (k + 1) 4 (.own s4.h.next 0 (k + 1) 4 none) (ps ++ qs) := p2.to (by omega) fun x _ _ => g4 x
 have gC4 : h4.get C = some (.cells (X ++ v :: Y) true) := by rw [g4, p3 C hC, g3 C (by omega), gC2]
 have hbc4 : below h4.next (idsL (X ++ v :: Y)) = true := below_le (by rw [← eh] at hbc; exact hbc) (by omega)
 have nC4 : ∀ o, niceT h4 (some (.ptr C o)) = true := fun o => nice_ptr (by omega) gC4 hbc4
 generalize hs5 : St.put (St.toH s4 h4) (some 53) _ = s5
 have hh5 : s5.h = h4 := by rw [← hs5]; rfl
 have d0 : s5.eval (.t 0) = some (.ptr r 0) := by rw [← hs5]; simp -implicitDefEqProofs only [V, ↓reduceIte, reduceEqDiff, reduceAdd, reduceMul, reduceCtorEq, reduceEq, reduceLT, reduceLE, b0]
 have d3 : s5.eval (.t 3) = some (.ptr C 0) := by rw [← hs5]; simp -implicitDefEqProofs only [V, ↓reduceIte, reduceEqDiff, reduceAdd, reduceMul, reduceCtorEq, reduceEq, reduceLT, reduceLE, b3]
 have dv : s5.eval (.t 53) = some (.own s4.h.next 0 (k + 1) 4 none) := by rw [← hs5]; simp -implicitDefEqProofs only [V, ↓reduceIte, reduceEqDiff, reduceAdd, reduceMul, reduceCtorEq, reduceEq, reduceLT, reduceLE]
 have di : s5.eval (.t 6) = s.eval (.t 6) := by rw [← hs5, ← bi]; simp -implicitDefEqProofs only [V, ↓reduceIte, reduceEqDiff, reduceAdd, reduceMul, reduceCtorEq, reduceEq, reduceLT, reduceLE]
 have dm : s5.eval (.t 4) = s.eval (.t 4) := by rw [← hs5, ← bm]; simp -implicitDefEqProofs only [V, ↓reduceIte, reduceEqDiff, reduceAdd, reduceMul, reduceCtorEq, reduceEq, reduceLT, reduceLE]
 have d2 : s5.eval (.t 2) = s.eval (.t 2) := by rw [← hs5, ← b2]; simp -implicitDefEqProofs only [V, ↓reduceIte, reduceEqDiff, reduceAdd, reduceMul, reduceCtorEq, reduceEq, reduceLT, reduceLE]
 have dd : s5.defers = s.defers := by rw [← hs5, ← bd]; simp -implicitDefEqProofs only [V, ↓reduceIte, reduceEqDiff, reduceAdd, reduceMul, reduceCtorEq, reduceEq, reduceLT, reduceLE]
 clear hs5
 refine pure_draw rfl rfl ?_ (v := .ptr C 3) ?_ (fun i hi => by cases hi) ?_
 ·simp only [List.all_cons, List.all_nil, d3, hh5, nC4, Bool.and_self]
 ·simp only [runOp, d3]
  first | done | rfl
 have hset : (X ++ v :: Y).set 3 (.own s4.h.next 0 (k + 1) 4 none) = X ++ (.own s4.h.next 0 (k + 1) 4 none) :: Y := by
  rw [← hX, List.set_append_right _ _ (Nat.le_refl _), Nat.sub_self]
  rfl
 have hst := st_at (i := 3) (x := .own s4.h.next 0 (k + 1) 4 none) gC4 (by rw [List.length_append, List.length_cons, hX]; omega)
 rw [hset] at hst
 refine store_draw2 (b := C) (off := 3) (v := .own s4.h.next 0 (k + 1) 4 none) (cs := X ++ v :: Y) (l := [.own s4.h.next 0 (k + 1) 4 none]) (h' := h4.put C (some (.cells (X ++ (.own s4.h.next 0 (k + 1) 4 none) :: Y) true))) ?_ ?_ ?_ rfl ?_ ?_ ?_ ?_ ?_
 ·simp -implicitDefEqProofs only [V, ↓reduceIte, reduceEqDiff, reduceAdd, reduceMul, reduceCtorEq, reduceEq, reduceLT, reduceLE]
 ·simp -implicitDefEqProofs only [V, ↓reduceIte, reduceEqDiff, reduceAdd, reduceMul, reduceCtorEq, reduceEq, reduceLT, reduceLE, dv]
 ·simp -implicitDefEqProofs only [V, ↓reduceIte, reduceEqDiff, reduceAdd, reduceMul, reduceCtorEq, reduceEq, reduceLT, reduceLE, hh5]
  simp only [ids, below, List.all_cons, List.all_nil, Bool.and_true]
  exact Nat.blt_eq.mpr (by omega)
 ·simp -implicitDefEqProofs only [V, ↓reduceIte, reduceEqDiff, reduceAdd, reduceMul, reduceCtorEq, reduceEq, reduceLT, reduceLE, hh5, gC4]
 ·simp -implicitDefEqProofs only [V, ↓reduceIte, reduceEqDiff, reduceAdd, reduceMul, reduceCtorEq, reduceEq, reduceLT, reduceLE, hh5, hbc4]
 ·simp -implicitDefEqProofs only [V, ↓reduceIte, reduceEqDiff, reduceAdd, reduceMul, reduceCtorEq, reduceEq, reduceLT, reduceLE, hh5]
  omega
 ·simp -implicitDefEqProofs only [V, ↓reduceIte, reduceEqDiff, reduceAdd, reduceMul, reduceCtorEq, reduceEq, reduceLT, reduceLE, hh5, hst]
 refine draw_nil ⟨rfl, ⟨⟨.own s4.h.next 0 (k + 1) 4 none, ps ++ qs, ?_, ?_, ?_⟩, ?_, ?_, ?_, ?_, ?_⟩, ?_, ?_, ?_, ?_, ?_⟩
 ·refine hrow4.to (Nat.le_refl _) fun x x1 x2 => ?_
  exact get_put_old (by omega)
 ·rw [List.map_append, q3]
 ·exact put_get
 ·obtain ⟨y1, y2, y3, y4, y5⟩ := hrq2
  refine ⟨by show r < h4.next; omega, y2, y3, ?_, y5⟩
  show (h4.put C _).get r = _
  rw [get_put_old hrC, g4, p3 r hr, g3 r y1, y4]
 ·refine NoTag.put fun b x t n' e => ?_
  rw [g4] at e
  exact pushR_nt (by rw [hh4]; exact hnt2.alloc) _ _ _ _ e
 ·show s.h.next ≤ h4.next
  rw [← eh]
  omega
 ·intro x x1 x2 x3
  show (h4.put C _).get x = s.h.get x
  rw [get_put_old x3, g4, p3 x x1, g3 x (by omega), m4 x (by omega) x2, eh]
 ·show s5.defers = s.defers
  exact dd
 ·simp -implicitDefEqProofs only [V, ↓reduceIte, reduceEqDiff, reduceAdd, reduceMul, reduceCtorEq, reduceEq, reduceLT, reduceLE, d0]
 ·simp -implicitDefEqProofs only [V, ↓reduceIte, reduceEqDiff, reduceAdd, reduceMul, reduceCtorEq, reduceEq, reduceLT, reduceLE, d3]
 ·rw [← di]; simp -implicitDefEqProofs only [V, ↓reduceIte, reduceEqDiff, reduceAdd, reduceMul, reduceCtorEq, reduceEq, reduceLT, reduceLE]
 ·rw [← dm]; simp -implicitDefEqProofs only [V, ↓reduceIte, reduceEqDiff, reduceAdd, reduceMul, reduceCtorEq, reduceEq, reduceLT, reduceLE]
 ·rw [← d2]; simp -implicitDefEqProofs only [V, ↓reduceIte, reduceEqDiff, reduceAdd, reduceMul, reduceCtorEq, reduceEq, reduceLT, reduceLE]
set_option maxHeartbeats 4000000 in
theorem f55_d0_run {α : Type} {f : RS → α × RS} {cs : α → List AV} {B n r C lo k : Nat} {F : List UInt8} {v : AV} {ps : List (AV × AV)} {X Y : List AV} {s : St} {st : RS} (ok : OneD 25 f cs B n F) (hcs : ∀ a, (cs a).length = 1) (hrq : Rq s.h r F st) (hbad : st.bad = false) (hB : st.rest.length < B) (hnt : NoTag s.h)
  (hrow : RowR s.h lo n k 1 v ps) (hk : k < 2 ^ 30) (hC : C < lo) (hr : r < lo) (hrC : r ≠ C) (hlo : lo ≤ s.h.next) (hg : s.h.get C = some (.cells (X ++ v :: Y) true)) (hX : X.length = 1) (hX0 : below lo (idsL X) = true) (hY0 : idsL Y = []) (hv : v.cells = some [v])
  (h0 : s.eval (.t 0) = some (.ptr r 0)) (h3 : s.eval (.t 3) = some (.ptr C 0)) :
  Run E1 f55_d0 s fun e s' => e = .normal ∧ DrTo s s' r C lo n k 1 F X Y (f st).2 ps (cs (f st).1) ∧ s'.eval (.t 0) = some (.ptr r 0) ∧ s'.eval (.t 3) = some (.ptr C 0) ∧ s'.eval (.t 5) = s.eval (.t 5) ∧ s'.eval (.t 4) = s.eval (.t 4) ∧ s'.eval (.t 2) = s.eval (.t 2) := by
 obtain ⟨hra, hpb, hvb⟩ := hrow.at
 have hCn : C < s.h.next := by omega
 have hbc : below s.h.next (idsL (X ++ v :: Y)) = true := below_app (below_le hX0 hlo) (by
  simp only [idsL, hY0, List.append_nil]
  exact hvb)
 have nC : ∀ o, niceT s.h (some (.ptr C o)) = true := fun o => nice_ptr hCn hg hbc
 have hrq0 := hrq
 obtain ⟨r1, cap, at', gr, e1, e2⟩ := hrq
 have nR : ∀ o, niceT s.h (some (.ptr r o)) = true := fun o => q_nice r1 gr
 have hdrop : (X ++ v :: Y).drop 1 = v :: Y := by rw [← hX, List.drop_left]
 have hle : Nat.ble 1 (X ++ v :: Y).length = true := Nat.ble_eq.mpr (by rw [List.length_append, hX]; omega)
 have hrr : Rq (restrictH s.h [r]) r F st := ⟨r1, cap, at', by rw [restrict_in (List.mem_singleton_self r), gr], e1, e2⟩
 obtain ⟨w, h1, hcall, qs, q1, q2, q3, q4, q5, q6⟩ := ok (restrictH s.h [r]) r st hrr (noTag_restrict hnt) hbad hB
 have hn1 : s.h.next ≤ h1.next := q6.le
 have hql : qs.length = 1 := by
  have := congrArg List.length q3
  rw [List.length_map, hcs] at this
  exact this
 refine run_draw ?_
 show DrawTo E1 f55_o0 [] s _
 unfold f55_o0
 refine pure_draw rfl rfl ?_ (v := .ptr C 1) ?_ (fun i hi => by cases hi) ?_
 ·simp only [List.all_cons, List.all_nil, h3, nC, Bool.and_self]
 ·simp only [runOp, h3]
  first | done | rfl
 refine load_draw (b := C) (o := 1) (v := v) ?_ (nC _) ?_ rfl ?_
 ·simp -implicitDefEqProofs only [V, ↓reduceIte, reduceEqDiff, reduceAdd, reduceMul, reduceCtorEq, reduceEq, reduceLT, reduceLE]
 ·have hev : (s.put (some 23) (.ptr C 1)).eval (.t 23) = some (.ptr C 1) := by simp -implicitDefEqProofs only [V, ↓reduceIte, reduceEqDiff, reduceAdd, reduceMul, reduceCtorEq, reduceEq, reduceLT, reduceLE]
  have hh : (s.put (some 23) (.ptr C 1)).h = s.h := rfl
  have hcf : cellsFrom E1.globs s.h (.ptr C 1) = some (v :: Y) := by simp only [cellsFrom, hg, hle, cond_true, hdrop]
  simp only [runOp, hev, hh, hcf, Option.bind_some, takeN]
  rfl
 refine pure_draw rfl rfl ?_ (v := .ptr r 0) ?_ (show ∀ i ∈ ([0, 1] : List Nat), i < 2 by decide) ?_
 ·have e : ((s.put (some 23) (.ptr C 1)).put (some 24) v).eval (.t 0) = some (.ptr r 0) := by simp -implicitDefEqProofs only [V, ↓reduceIte, reduceEqDiff, reduceAdd, reduceMul, reduceCtorEq, reduceEq, reduceLT, reduceLE, h0]
  simp only [List.all_cons, List.all_nil, e, Bool.and_true]
  exact nR 0
 ·have e : ((s.put (some 23) (.ptr C 1)).put (some 24) v).eval (.t 0) = some (.ptr r 0) := by simp -implicitDefEqProofs only [V, ↓reduceIte, reduceEqDiff, reduceAdd, reduceMul, reduceCtorEq, reduceEq, reduceLT, reduceLE, h0]
  simp only [runOp, e]
  first | done | rfl
 generalize hs3 : St.put (St.put (St.put s (some 23) (.ptr C 1)) (some 24) v) (some 25) (.ptr r 0) = s3
 have a0 : s3.eval (.t 0) = some (.ptr r 0) := by rw [← hs3]; simp -implicitDefEqProofs only [V, ↓reduceIte, reduceEqDiff, reduceAdd, reduceMul, reduceCtorEq, reduceEq, reduceLT, reduceLE, h0]
 have a3 : s3.eval (.t 3) = some (.ptr C 0) := by rw [← hs3]; simp -implicitDefEqProofs only [V, ↓reduceIte, reduceEqDiff, reduceAdd, reduceMul, reduceCtorEq, reduceEq, reduceLT, reduceLE, h3]
 have ar : s3.eval (.t 24) = some v := by rw [← hs3]; simp -implicitDefEqProofs only [V, ↓reduceIte, reduceEqDiff, reduceAdd, reduceMul, reduceCtorEq, reduceEq, reduceLT, reduceLE]
 have ac : s3.eval (.t 25) = some (.ptr r 0) := by rw [← hs3]; simp -implicitDefEqProofs only [V, ↓reduceIte, reduceEqDiff, reduceAdd, reduceMul, reduceCtorEq, reduceEq, reduceLT, reduceLE]
 have ai : s3.eval (.t 5) = s.eval (.t 5) := by rw [← hs3]; simp -implicitDefEqProofs only [V, ↓reduceIte, reduceEqDiff, reduceAdd, reduceMul, reduceCtorEq, reduceEq, reduceLT, reduceLE]
 have an : s3.eval (.t 4) = s.eval (.t 4) := by rw [← hs3]; simp -implicitDefEqProofs only [V, ↓reduceIte, reduceEqDiff, reduceAdd, reduceMul, reduceCtorEq, reduceEq, reduceLT, reduceLE]
 have a2 : s3.eval (.t 2) = s.eval (.t 2) := by rw [← hs3]; simp -implicitDefEqProofs only [V, ↓reduceIte, reduceEqDiff, reduceAdd, reduceMul, reduceCtorEq, reduceEq, reduceLT, reduceLE]
 have eh : s3.h = s.h := by rw [← hs3]; rfl
 have ed : s3.defers = s.defers := by rw [← hs3]; rfl
 have hF1 : ∀ x ∈ idsL (pickTm (s.put (some 23) (.ptr C 1)).tm [23]).vals, x = C := fun x hx => by
  have := vals_ids (s := s.put (some 23) (.ptr C 1)) (i := 23) (v := .ptr C 1) (by simp -implicitDefEqProofs only [V, ↓reduceIte, reduceEqDiff, reduceAdd, reduceMul, reduceCtorEq, reduceEq, reduceLT, reduceLE]) x hx
  simpa only [ids, List.mem_singleton] using this
 generalize idsL (pickTm (s.put (some 23) (.ptr C 1)).tm [23]).vals = F1 at *
 have hpk : idsL (pickTm s3.tm [25]).vals = [r] := by
  have e : s3.tm.get 25 = some (.ptr r 0) := ac
  simp only [pickTm, e]
  rfl
 clear hs3
 rw [← eh] at hrow hra hpb hvb hCn hg hlo gr r1 hnt hn1 q4 q6 hcall
 refine call_draw (f := 25) (i := 25) (r := r) (v := w) (h1 := h1) (cs := [.imm (bytesA F) F.length cap, .val (.int .i64 (at' : Nat)), .val (.bool st.bad)]) (rw' := true) ac hpk r1 gr rfl hnt hcall hn1 ?_ ?_
 ·intro D hD
  have hmC : ∀ x ∈ D, memN F1 x = false := fun x hx => by
   rw [memN, List.any_eq_false]
   intro y hy ey
   have := Nat.eq_of_beq_eq_true ey
   rw [hF1 y hy, hD x hx] at this
   omega
  have hany : (D.any fun x => memN F1 x) = false := by
   rw [List.any_eq_false]
   intro x hx
   rw [hmC x hx]
   decide
  have hany0 : (D.any fun x => memN [] x) = false := by
   rw [List.any_eq_false]
   intro x hx
   simp [memN]
  have t0 : ∀ l, touches ⟨[], [], s.h.next, s.h.next⟩ l = false := fun l => quiet_touch ⟨rfl, rfl⟩ l
  have t1 : ∀ l, touches ⟨F1, [], s.h.next, s.h.next⟩ l = false := fun l => quiet_touch ⟨rfl, rfl⟩ l
  show freeOk [⟨[], [], s.h.next, s.h.next⟩, ⟨F1, [], s.h.next, s.h.next⟩, _] ⟨[r], D, s3.h.next, h1.next⟩ [0, 1] = true
  simp only [freeOk, List.getElem?_cons_zero, List.getElem?_cons_succ, recApart, t0, t1, hany, hany0, Bool.not_false, Bool.and_self]
 intro D h2 hD m1 m2 m3 m4 m5
 have hn2 : s3.h.next ≤ h2.next := by omega
 have hCr : C ≠ r := fun e => hrC e.symm
 have gC2 : h2.get C = some (.cells (X ++ v :: Y) true) := by rw [m4 C hCn hCr, hg]
 have hnt2 : NoTag h2 := fun b x t n' e => by
  rcases Nat.lt_or_ge b s3.h.next with q | q
  ·by_cases e' : b = r
   ·subst e'
    rw [m3] at e
    exact q6.nt (noTag_restrict hnt) _ _ _ _ e
   ·rw [m4 b q e'] at e
    exact hnt _ _ _ _ e
  ·rcases Nat.lt_or_ge b h1.next with q' | q'
   ·rw [m2 b q q'] at e
    exact q6.nt (noTag_restrict hnt) _ _ _ _ e
   ·rw [m5 b q'] at e
    exact hnt _ _ _ _ e
 have hrep2 : ∀ q ∈ qs, Rep h2 s3.h.next h2.next n q.1 q.2 := fun q hq => rep_same (Nat.le_refl _) (by rw [m1]; exact Nat.le_refl _) (fun x x1 x2 => m2 x x1 x2) (q4 q hq)
 have hwb : below h2.next (ids w) = true := by rw [q2]; exact rows_below (Nat.le_refl _) hrep2
 have hrow2 : RowR h2 lo n k 1 v ps := by
  refine hrow.to hn2 fun x x1 x2 => m4 x x2 (by omega)
 have hrq2 : Rq h2 r F (f st).2 := by
  obtain ⟨y1, y2, y3, y4, y5⟩ := q5
  exact ⟨by omega, y2, y3, by rw [m3, y4], y5⟩
 refine build_draw (es := 1) (n := 1) (cs := qs.map (·.1)) (v := w) ?_ ?_ ?_ (show ∀ i ∈ ([0, 1] : List Nat), i < 4 by decide) ?_
 ·simp -implicitDefEqProofs only [V, ↓reduceIte, reduceEqDiff, reduceAdd, reduceMul, reduceCtorEq, reduceEq, reduceLT, reduceLE]
 ·simp -implicitDefEqProofs only [V, ↓reduceIte, reduceEqDiff, reduceAdd, reduceMul, reduceCtorEq, reduceEq, reduceLT, reduceLE]
  exact hwb
 ·exact fill_all (v := w) (by simp -implicitDefEqProofs only [V, ↓reduceIte, reduceEqDiff, reduceAdd, reduceMul, reduceCtorEq, reduceEq, reduceLT, reduceLE]) q1 (by rw [List.length_map, hql]) rfl
 generalize hdn : (([] ++ [_] ++ [_] ++ [_] ++ [_] ++ [_] : List DRec)) = dn
 generalize hs4 : St.put (St.toH (St.put (St.toH s3 h2) (some 26) w) _) (some 27) _ = s4
 have hh4 : s4.h = h2.alloc (.cells (qs.map (·.1)) true) := by rw [← hs4]; simp -implicitDefEqProofs only [V, ↓reduceIte, reduceEqDiff, reduceAdd, reduceMul, reduceCtorEq, reduceEq, reduceLT, reduceLE]
 have b0 : s4.eval (.t 0) = some (.ptr r 0) := by rw [← hs4]; simp -implicitDefEqProofs only [V, ↓reduceIte, reduceEqDiff, reduceAdd, reduceMul, reduceCtorEq, reduceEq, reduceLT, reduceLE, a0]
 have b3 : s4.eval (.t 3) = some (.ptr C 0) := by rw [← hs4]; simp -implicitDefEqProofs only [V, ↓reduceIte, reduceEqDiff, reduceAdd, reduceMul, reduceCtorEq, reduceEq, reduceLT, reduceLE, a3]
 have br : s4.eval (.t 24) = some v := by rw [← hs4]; simp -implicitDefEqProofs only [V, ↓reduceIte, reduceEqDiff, reduceAdd, reduceMul, reduceCtorEq, reduceEq, reduceLT, reduceLE, ar]
 have bn : s4.eval (.t 27) = some (.own h2.next 0 1 1 (some 1)) := by rw [← hs4]; simp -implicitDefEqProofs only [V, ↓reduceIte, reduceEqDiff, reduceAdd, reduceMul, reduceCtorEq, reduceEq, reduceLT, reduceLE]
 have bi : s4.eval (.t 5) = s.eval (.t 5) := by rw [← hs4, ← ai]; simp -implicitDefEqProofs only [V, ↓reduceIte, reduceEqDiff, reduceAdd, reduceMul, reduceCtorEq, reduceEq, reduceLT, reduceLE]
 have bm : s4.eval (.t 4) = s.eval (.t 4) := by rw [← hs4, ← an]; simp -implicitDefEqProofs only [V, ↓reduceIte, reduceEqDiff, reduceAdd, reduceMul, reduceCtorEq, reduceEq, reduceLT, reduceLE]
 have b2 : s4.eval (.t 2) = s.eval (.t 2) := by rw [← hs4, ← a2]; simp -implicitDefEqProofs only [V, ↓reduceIte, reduceEqDiff, reduceAdd, reduceMul, reduceCtorEq, reduceEq, reduceLT, reduceLE]
 have bd : s4.defers = s.defers := by rw [← hs4, ← ed]; simp -implicitDefEqProofs only [V, ↓reduceIte, reduceEqDiff, reduceAdd, reduceMul, reduceCtorEq, reduceEq, reduceLT, reduceLE]
 clear hs4 hdn
 have n3 : s4.h.next = h2.next + 1 := by rw [hh4]; rfl
 have g3 : ∀ x, x < h2.next → s4.h.get x = h2.get x := fun x hx => by rw [hh4, get_alloc_old hx]
 have gc : s4.h.get h2.next = some (.cells (qs.map (·.1)) true) := by rw [hh4]; exact box_get
 have hrow3 : RowR s4.h lo n k 1 v ps := hrow2.to (by omega) fun x x1 x2 => g3 x x2
 obtain ⟨c1, c2, c3⟩ := hrow3.at
 have hrep3 : ∀ q ∈ qs, Rep s4.h s3.h.next s4.h.next n q.1 q.2 := fun q hq => rep_same (Nat.le_refl _) (by omega) (fun x x1 x2 => g3 x x2) (hrep2 q hq)
 obtain ⟨p1, p2, p3⟩ := pushR_ok hrow (qs := qs) (h := s4.h) (by omega) (by omega) (fun x x1 x2 => by rw [g3 x (by omega), m4 x x2 (by omega)]) hql hrep3
 refine app_draw (k := k) (c := h2.next) (v := v) (pc := ps.map (·.1)) (new := qs.map (·.1)) c1 c2 (by omega) gc (rows_below (Nat.le_refl _) hrep3) (by rw [List.length_map, hql]) (okLen_of hk (by decide)) br bn rfl ?_
 intro rec h4 n4 g4
 have hrow4 : RowR h4 lo n (k + 1) 1 (.own s4.h.next 0 (k + 1) 1 none) (ps ++ qs) := p2.to (by omega) fun x _ _ => g4 x
 have gC4 : h4.get C = some (.cells (X ++ v :: Y) true) := by rw [g4, p3 C hC, g3 C (by omega), gC2]
 have hbc4 : below h4.next (idsL (X ++ v :: Y)) = true := below_le (by rw [← eh] at hbc; exact hbc) (by omega)
 have nC4 : ∀ o, niceT h4 (some (.ptr C o)) = true := fun o => nice_ptr (by omega) gC4 hbc4
 generalize hs5 : St.put (St.toH s4 h4) (some 28) _ = s5
 have hh5 : s5.h = h4 := by rw [← hs5]; rfl
 have d0 : s5.eval (.t 0) = some (.ptr r 0) := by rw [← hs5]; simp -implicitDefEqProofs only [V, ↓reduceIte, reduceEqDiff, reduceAdd, reduceMul, reduceCtorEq, reduceEq, reduceLT, reduceLE, b0]
 have d3 : s5.eval (.t 3) = some (.ptr C 0) := by rw [← hs5]; simp -implicitDefEqProofs only [V, ↓reduceIte, reduceEqDiff, reduceAdd, reduceMul, reduceCtorEq, reduceEq, reduceLT, reduceLE, b3]
 have dv : s5.eval (.t 28) = some (.own s4.h.next 0 (k + 1) 1 none) := by rw [← hs5]; simp -implicitDefEqProofs only [V, ↓reduceIte, reduceEqDiff, reduceAdd, reduceMul, reduceCtorEq, reduceEq, reduceLT, reduceLE]
 have di : s5.eval (.t 5) = s.eval (.t 5) := by rw [← hs5, ← bi]; simp -implicitDefEqProofs only [V, ↓reduceIte, reduceEqDiff, reduceAdd, reduceMul, reduceCtorEq, reduceEq, reduceLT, reduceLE]
 have dm : s5.eval (.t 4) = s.eval (.t 4) := by rw [← hs5, ← bm]; simp -implicitDefEqProofs only [V, ↓reduceIte, reduceEqDiff, reduceAdd, reduceMul, reduceCtorEq, reduceEq, reduceLT, reduceLE]
 have d2 : s5.eval (.t 2) = s.eval (.t 2) := by rw [← hs5, ← b2]; simp -implicitDefEqProofs only [V, ↓reduceIte, reduceEqDiff, reduceAdd, reduceMul, reduceCtorEq, reduceEq, reduceLT, reduceLE]
 have dd : s5.defers = s.defers := by rw [← hs5, ← bd]; simp -implicitDefEqProofs only [V, ↓reduceIte, reduceEqDiff, reduceAdd, reduceMul, reduceCtorEq, reduceEq, reduceLT, reduceLE]
 clear hs5
 refine pure_draw rfl rfl ?_ (v := .ptr C 1) ?_ (fun i hi => by cases hi) ?_
 ·simp only [List.all_cons, List.all_nil, d3, hh5, nC4, Bool.and_self]
 ·simp only [runOp, d3]
  first | done | rfl
 have hset : (X ++ v :: Y).set 1 (.own s4.h.next 0 (k + 1) 1 none) = X ++ (.own s4.h.next 0 (k + 1) 1 none) :: Y := by
  rw [← hX, List.set_append_right _ _ (Nat.le_refl _), Nat.sub_self]
  rfl
 have hst := st_at (i := 1) (x := .own s4.h.next 0 (k + 1) 1 none) gC4 (by rw [List.length_append, List.length_cons, hX]; omega)
 rw [hset] at hst
 refine store_draw2 (b := C) (off := 1) (v := .own s4.h.next 0 (k + 1) 1 none) (cs := X ++ v :: Y) (l := [.own s4.h.next 0 (k + 1) 1 none]) (h' := h4.put C (some (.cells (X ++ (.own s4.h.next 0 (k + 1) 1 none) :: Y) true))) ?_ ?_ ?_ rfl ?_ ?_ ?_ ?_ ?_
 ·simp -implicitDefEqProofs only [V, ↓reduceIte, reduceEqDiff, reduceAdd, reduceMul, reduceCtorEq, reduceEq, reduceLT, reduceLE]
 ·simp -implicitDefEqProofs only [V, ↓reduceIte, reduceEqDiff, reduceAdd, reduceMul, reduceCtorEq, reduceEq, reduceLT, reduceLE, dv]
 ·simp -implicitDefEqProofs only [V, ↓reduceIte, reduceEqDiff, reduceAdd, reduceMul, reduceCtorEq, reduceEq, reduceLT, reduceLE, hh5]
  simp only [ids, below, List.all_cons, List.all_nil, Bool.and_true]
  exact Nat.blt_eq.mpr (by omega)
 ·simp -implicitDefEqProofs only [V, ↓reduceIte, reduceEqDiff, reduceAdd, reduceMul, reduceCtorEq, reduceEq, reduceLT, reduceLE, hh5, gC4]
 ·simp -implicitDefEqProofs only [V, ↓reduceIte, reduceEqDiff, reduceAdd, reduceMul, reduceCtorEq, reduceEq, reduceLT, reduceLE, hh5, hbc4]
 ·simp -implicitDefEqProofs only [V, ↓reduceIte, reduceEqDiff, reduceAdd, reduceMul, reduceCtorEq, reduceEq, reduceLT, reduceLE, hh5]
  omega
 ·simp -implicitDefEqProofs only [V, ↓reduceIte, reduceEqDiff, reduceAdd, reduceMul, reduceCtorEq, reduceEq, reduceLT, reduceLE, hh5, hst]
 refine draw_nil ⟨rfl, ⟨⟨.own s4.h.next 0 (k + 1) 1 none, ps ++ qs, ?_, ?_, ?_⟩, ?_, ?_, ?_, ?_, ?_⟩, ?_, ?_, ?_, ?_, ?_⟩
 ·refine hrow4.to (Nat.le_refl _) fun x x1 x2 => ?_
  exact get_put_old (by omega)
 ·rw [List.map_append, q3]
 ·exact put_get
 ·obtain ⟨y1, y2, y3, y4, y5⟩ := hrq2
  refine ⟨by show r < h4.next; omega, y2, y3, ?_, y5⟩
  show (h4.put C _).get r = _
  rw [get_put_old hrC, g4, p3 r hr, g3 r y1, y4]
 ·refine NoTag.put fun b x t n' e => ?_
  rw [g4] at e
  exact pushR_nt (by rw [hh4]; exact hnt2.alloc) _ _ _ _ e
 ·show s.h.next ≤ h4.next
  rw [← eh]
  omega
 ·intro x x1 x2 x3
  show (h4.put C _).get x = s.h.get x
  rw [get_put_old x3, g4, p3 x x1, g3 x (by omega), m4 x (by omega) x2, eh]
 ·show s5.defers = s.defers
  exact dd
 ·simp -implicitDefEqProofs only [V, ↓reduceIte, reduceEqDiff, reduceAdd, reduceMul, reduceCtorEq, reduceEq, reduceLT, reduceLE, d0]
 ·simp -implicitDefEqProofs only [V, ↓reduceIte, reduceEqDiff, reduceAdd, reduceMul, reduceCtorEq, reduceEq, reduceLT, reduceLE, d3]
 ·rw [← di]; simp -implicitDefEqProofs only [V, ↓reduceIte, reduceEqDiff, reduceAdd, reduceMul, reduceCtorEq, reduceEq, reduceLT, reduceLE]
 ·rw [← dm]; simp -implicitDefEqProofs only [V, ↓reduceIte, reduceEqDiff, reduceAdd, reduceMul, reduceCtorEq, reduceEq, reduceLT, reduceLE]
 ·rw [← d2]; simp -implicitDefEqProofs only [V, ↓reduceIte, reduceEqDiff, reduceAdd, reduceMul, reduceCtorEq, reduceEq, reduceLT, reduceLE]
end Go.Proofs.YtijpnlmmaoecgaaGreatDoor

namespace Go.Proofs.YtijpnlmmaoecgaaGreatDoor
open Go Go.AM
structure LsTo (s s' : St) (r C lo n k es : Nat) (F : List UInt8) (X Y : List AV) (st : RS) (ps : List (AV × AV)) (q : List AV) : Prop where
 row : ∃ v' ps', RowR s'.h lo n k es v' ps' ∧ ps'.map (·.2) = ps.map (·.2) ++ q ∧ s'.h.get C = some (.cells (X ++ v' :: Y) true)
 rq : Rq s'.h r F st
 nt : NoTag s'.h
 le : s.h.next ≤ s'.h.next
 old : ∀ x, x < lo → x ≠ r → x ≠ C → s'.h.get x = s.h.get x
 df : s'.defers = s.defers
theorem rq_bad {h : AH} {r : Nat} {F : List UInt8} {st : RS} (k : Rq h r F st) : ∃ cap at', h.get r = some (rd2 F cap at' st.bad) := by
 obtain ⟨_, cap, at', g, _⟩ := k
 exact ⟨cap, at', g⟩
theorem f27_l1_run {α : Type} {f : RS → α × RS} {cs : α → List AV} {B n r C lo N : Nat} {F : List UInt8} {X Y : List AV} (ok : OneD 27 f cs B n F) (hcs : ∀ a, (cs a).length = 4) (mono : ∀ st, (f st).2.rest.length ≤ st.rest.length) (hN : N < 2 ^ 29) (hC : C < lo) (hr : r < lo) (hrC : r ≠ C) (hX : X.length = 3) (hX0 : below lo (idsL X) = true) (hY0 : idsL Y = []) :
  ∀ (m i k : Nat) (s : St) (st : RS) (v : AV) (ps : List (AV × AV)), i + m = N → k ≤ i → Rq s.h r F st → (st.bad = false → st.rest.length < B) → NoTag s.h → RowR s.h lo n k 4 v ps → lo ≤ s.h.next → s.h.get C = some (.cells (X ++ v :: Y) true) →
  s.eval (.t 0) = some (.ptr r 0) → s.eval (.t 3) = some (.ptr C 0) → s.eval (.t 5) = some (.val (.int .i64 (i : Nat))) → s.eval (.t 4) = some (.val (.int .i64 (N : Nat))) → s.defers = [] →
  Run E1 f27_l1 s fun e s' => e = .exit 0 ∧ LsTo s s' r C lo n (k + (rList f m st).1.length) 4 F X Y (rList f m st).2 ps ((rList f m st).1.flatMap cs) ∧ s'.eval (.t 0) = some (.ptr r 0) ∧ s'.eval (.t 3) = some (.ptr C 0) ∧ s'.eval (.t 2) = s.eval (.t 2)
 | 0, i, k, s, st, v, ps, hi, hki, hrq, hB, hnt, hrow, hlo, hg, h0, h3, hi5, h4, hf => by
  have c1 := dec_ge (i := i) (n := N) (by omega)
  apply loop_of (rfl : f27_l1 = .loop f27_b1)
  simp -implicitDefEqProofs only [f27_b1, V, ↓reduceIte, reduceEqDiff, reduceAdd, reduceMul, reduceCtorEq, reduceEq, reduceLT, reduceLE, h0, h3, hi5, h4, c1, rList, List.length_nil, List.flatMap_nil]
  refine ⟨⟨v, ps, ?_, ?_, ?_⟩, ?_, ?_, ?_, ?_, ?_⟩
  ·exact hrow
  ·rw [List.append_nil]
  ·exact hg
  ·exact hrq
  ·exact hnt
  ·exact Nat.le_refl _
  ·exact fun x _ _ _ => rfl
  ·simp -implicitDefEqProofs only [V, ↓reduceIte, reduceEqDiff, reduceAdd, reduceMul, reduceCtorEq, reduceEq, reduceLT, reduceLE]
 | m + 1, i, k, s, st, v, ps, hi, hki, hrq, hB, hnt, hrow, hlo, hg, h0, h3, hi5, h4, hf => by
  have c1 := dec_lt (i := i) (n := N) (by omega)
  have w1 := wrap_succ (i := i) (by omega)
  obtain ⟨cap, at', gr⟩ := rq_bad hrq
  cases hb : st.bad with
  | true =>
   rw [hb] at gr
   have hrl : rList f (m + 1) st = ([], st) := by rw [rList, if_pos hb]
   rw [hrl]
   apply loop_of (rfl : f27_l1 = .loop f27_b1)
   simp -implicitDefEqProofs only [f27_b1, V, ↓reduceIte, reduceEqDiff, reduceAdd, reduceMul, reduceCtorEq, reduceEq, reduceLT, reduceLE, h0, h3, hi5, h4, c1, gr, q_f2, List.length_nil, List.flatMap_nil]
   refine ⟨⟨v, ps, ?_, ?_, ?_⟩, ?_, ?_, ?_, ?_, ?_⟩
   ·exact hrow
   ·rw [List.append_nil]
   ·exact hg
   ·exact hrq
   ·exact hnt
   ·exact Nat.le_refl _
   ·exact fun x _ _ _ => rfl
   ·simp -implicitDefEqProofs only [V, ↓reduceIte, reduceEqDiff, reduceAdd, reduceMul, reduceCtorEq, reduceEq, reduceLT, reduceLE]
  | false =>
   rw [hb] at gr
   have hne : ¬ st.bad = true := by rw [hb]; decide
   have hrl : rList f (m + 1) st = ((f st).1 :: (rList f m (f st).2).1, (rList f m (f st).2).2) := by rw [rList, if_neg hne]
   rw [hrl]
   apply loop_of (rfl : f27_l1 = .loop f27_b1)
   simp -implicitDefEqProofs only [f27_b1, V, ↓reduceIte, reduceEqDiff, reduceAdd, reduceMul, reduceCtorEq, reduceEq, reduceLT, reduceLE, h0, h3, hi5, h4, c1, gr, q_f2]
   refine (f27_d0_run (k := k) (X := X) (Y := Y) (v := v) (ps := ps) (lo := lo) ok hcs (r := r) (C := C) (st := st) (F := F) ?_ hb (hB hb) ?_ ?_ (by omega) hC hr hrC ?_ ?_ hX hX0 hY0 hrow.cells ?_ ?_).mono ?_
   ·simp -implicitDefEqProofs only [V, ↓reduceIte, reduceEqDiff, reduceAdd, reduceMul, reduceCtorEq, reduceEq, reduceLT, reduceLE]
    exact hrq
   ·simp -implicitDefEqProofs only [V, ↓reduceIte, reduceEqDiff, reduceAdd, reduceMul, reduceCtorEq, reduceEq, reduceLT, reduceLE]
    exact hnt
   ·simp -implicitDefEqProofs only [V, ↓reduceIte, reduceEqDiff, reduceAdd, reduceMul, reduceCtorEq, reduceEq, reduceLT, reduceLE]
    exact hrow
   ·simp -implicitDefEqProofs only [V, ↓reduceIte, reduceEqDiff, reduceAdd, reduceMul, reduceCtorEq, reduceEq, reduceLT, reduceLE]
    exact hlo
   ·simp -implicitDefEqProofs only [V, ↓reduceIte, reduceEqDiff, reduceAdd, reduceMul, reduceCtorEq, reduceEq, reduceLT, reduceLE]
    exact hg
   ·simp -implicitDefEqProofs only [V, ↓reduceIte, reduceEqDiff, reduceAdd, reduceMul, reduceCtorEq, reduceEq, reduceLT, reduceLE, h0]
   ·simp -implicitDefEqProofs only [V, ↓reduceIte, reduceEqDiff, reduceAdd, reduceMul, reduceCtorEq, reduceEq, reduceLT, reduceLE, h3]
   rintro e s1 ⟨rfl, ⟨⟨v1, ps1, a1, a2, a3⟩, b1, b2, b3, b4, b5⟩, c0, c3, ci, cn, c2⟩
   simp -implicitDefEqProofs only [V, ↓reduceIte, reduceEqDiff, reduceAdd, reduceMul, reduceCtorEq, reduceEq, reduceLT, reduceLE, hi5, h4] at b3 b4 b5 ci cn c2
   simp -implicitDefEqProofs only [V, ↓reduceIte, reduceEqDiff, reduceAdd, reduceMul, reduceCtorEq, reduceEq, reduceLT, reduceLE, ci, w1]
   refine (f27_l1_run ok hcs mono hN hC hr hrC hX hX0 hY0 m (i + 1) (k + 1) _ (f st).2 v1 ps1 (by omega) (by omega) ?_ ?_ ?_ ?_ ?_ ?_ ?_ ?_ ?_ ?_ ?_).mono ?_
   ·simp -implicitDefEqProofs only [V, ↓reduceIte, reduceEqDiff, reduceAdd, reduceMul, reduceCtorEq, reduceEq, reduceLT, reduceLE]
    exact b1
   ·exact fun _ => Nat.lt_of_le_of_lt (mono st) (hB hb)
   ·simp -implicitDefEqProofs only [V, ↓reduceIte, reduceEqDiff, reduceAdd, reduceMul, reduceCtorEq, reduceEq, reduceLT, reduceLE]
    exact b2
   ·simp -implicitDefEqProofs only [V, ↓reduceIte, reduceEqDiff, reduceAdd, reduceMul, reduceCtorEq, reduceEq, reduceLT, reduceLE]
    exact a1
   ·simp -implicitDefEqProofs only [V, ↓reduceIte, reduceEqDiff, reduceAdd, reduceMul, reduceCtorEq, reduceEq, reduceLT, reduceLE]
    omega
   ·simp -implicitDefEqProofs only [V, ↓reduceIte, reduceEqDiff, reduceAdd, reduceMul, reduceCtorEq, reduceEq, reduceLT, reduceLE]
    exact a3
   ·simp -implicitDefEqProofs only [V, ↓reduceIte, reduceEqDiff, reduceAdd, reduceMul, reduceCtorEq, reduceEq, reduceLT, reduceLE, c0]
   ·simp -implicitDefEqProofs only [V, ↓reduceIte, reduceEqDiff, reduceAdd, reduceMul, reduceCtorEq, reduceEq, reduceLT, reduceLE, c3]
   ·simp -implicitDefEqProofs only [V, ↓reduceIte, reduceEqDiff, reduceAdd, reduceMul, reduceCtorEq, reduceEq, reduceLT, reduceLE]
   ·simp -implicitDefEqProofs only [V, ↓reduceIte, reduceEqDiff, reduceAdd, reduceMul, reduceCtorEq, reduceEq, reduceLT, reduceLE, cn]
   ·simp -implicitDefEqProofs only [V, ↓reduceIte, reduceEqDiff, reduceAdd, reduceMul, reduceCtorEq, reduceEq, reduceLT, reduceLE, b5, hf]
   rintro e s2 ⟨rfl, ⟨⟨v2, ps2, d1, d2, d3⟩, e1, e2, e3, e4, e5⟩, f0, f3, f2⟩
   simp -implicitDefEqProofs only [V, ↓reduceIte, reduceEqDiff, reduceAdd, reduceMul, reduceCtorEq, reduceEq, reduceLT, reduceLE, c2, b5] at e3 e4 e5 f2
   refine ⟨rfl, ⟨⟨v2, ps2, ?_, ?_, d3⟩, e1, e2, ?_, ?_, ?_⟩, f0, f3, f2⟩
   ·rw [List.length_cons, show k + ((rList f m (f st).2).1.length + 1) = k + 1 + (rList f m (f st).2).1.length by omega]
    exact d1
   ·rw [d2, a2, List.flatMap_cons, List.append_assoc]
   ·omega
   ·intro x x1 x2 x3
    rw [e4 x x1 x2 x3, b4 x x1 x2 x3]
   ·rw [e5]
theorem f28_l1_run {α : Type} {f : RS → α × RS} {cs : α → List AV} {B n r C lo N : Nat} {F : List UInt8} {X Y : List AV} (ok : OneD 55 f cs B n F) (hcs : ∀ a, (cs a).length = 2) (mono : ∀ st, (f st).2.rest.length ≤ st.rest.length) (hN : N < 2 ^ 29) (hC : C < lo) (hr : r < lo) (hrC : r ≠ C) (hX : X.length = 2) (hX0 : below lo (idsL X) = true) (hY0 : idsL Y = []) :
  ∀ (m i k : Nat) (s : St) (st : RS) (v : AV) (ps : List (AV × AV)), i + m = N → k ≤ i → Rq s.h r F st → (st.bad = false → st.rest.length < B) → NoTag s.h → RowR s.h lo n k 2 v ps → lo ≤ s.h.next → s.h.get C = some (.cells (X ++ v :: Y) true) →
  s.eval (.t 0) = some (.ptr r 0) → s.eval (.t 3) = some (.ptr C 0) → s.eval (.t 5) = some (.val (.int .i64 (i : Nat))) → s.eval (.t 4) = some (.val (.int .i64 (N : Nat))) → s.defers = [] →
  Run E1 f28_l1 s fun e s' => e = .exit 0 ∧ LsTo s s' r C lo n (k + (rList f m st).1.length) 2 F X Y (rList f m st).2 ps ((rList f m st).1.flatMap cs) ∧ s'.eval (.t 0) = some (.ptr r 0) ∧ s'.eval (.t 3) = some (.ptr C 0) ∧ s'.eval (.t 2) = s.eval (.t 2)
 | 0, i, k, s, st, v, ps, hi, hki, hrq, hB, hnt, hrow, hlo, hg, h0, h3, hi5, h4, hf => by
  have c1 := dec_ge (i := i) (n := N) (by omega)
  apply loop_of (rfl : f28_l1 = .loop f28_b1)
  simp -implicitDefEqProofs only [f28_b1, V, ↓reduceIte, reduceEqDiff, reduceAdd, reduceMul, reduceCtorEq, reduceEq, reduceLT, reduceLE, h0, h3, hi5, h4, c1, rList, List.length_nil, List.flatMap_nil]
  refine ⟨⟨v, ps, ?_, ?_, ?_⟩, ?_, ?_, ?_, ?_, ?_⟩
  ·exact hrow
  ·rw [List.append_nil]
  ·exact hg
  ·exact hrq
  ·exact hnt
  ·exact Nat.le_refl _
  ·exact fun x _ _ _ => rfl
  ·simp -implicitDefEqProofs only [V, ↓reduceIte, reduceEqDiff, reduceAdd, reduceMul, reduceCtorEq, reduceEq, reduceLT, reduceLE]
 | m + 1, i, k, s, st, v, ps, hi, hki, hrq, hB, hnt, hrow, hlo, hg, h0, h3, hi5, h4, hf => by
  have c1 := dec_lt (i := i) (n := N) (by omega)
  have w1 := wrap_succ (i := i) (by omega)
  obtain ⟨cap, at', gr⟩ := rq_bad hrq
  cases hb : st.bad with
  | true =>
   rw [hb] at gr
   have hrl : rList f (m + 1) st = ([], st) := by rw [rList, if_pos hb]
   rw [hrl]
   apply loop_of (rfl : f28_l1 = .loop f28_b1)
   simp -implicitDefEqProofs only [f28_b1, V, ↓reduceIte, reduceEqDiff, reduceAdd, reduceMul, reduceCtorEq, reduceEq, reduceLT, reduceLE, h0, h3, hi5, h4, c1, gr, q_f2, List.length_nil, List.flatMap_nil]
   refine ⟨⟨v, ps, ?_, ?_, ?_⟩, ?_, ?_, ?_, ?_, ?_⟩
   ·exact hrow
   ·rw [List.append_nil]
   ·exact hg
   ·exact hrq
   ·exact hnt
   ·exact Nat.le_refl _
   ·exact fun x _ _ _ => rfl
   ·simp -implicitDefEqProofs only [V, ↓reduceIte, reduceEqDiff, reduceAdd, reduceMul, reduceCtorEq, reduceEq, reduceLT, reduceLE]
  | false =>
   rw [hb] at gr
   have hne : ¬ st.bad = true := by rw [hb]; decide
   have hrl : rList f (m + 1) st = ((f st).1 :: (rList f m (f st).2).1, (rList f m (f st).2).2) := by rw [rList, if_neg hne]
   rw [hrl]
   apply loop_of (rfl : f28_l1 = .loop f28_b1)
   simp -implicitDefEqProofs only [f28_b1, V, ↓reduceIte, reduceEqDiff, reduceAdd, reduceMul, reduceCtorEq, reduceEq, reduceLT, reduceLE, h0, h3, hi5, h4, c1, gr, q_f2]
   refine (f28_d0_run (k := k) (X := X) (Y := Y) (v := v) (ps := ps) (lo := lo) ok hcs (r := r) (C := C) (st := st) (F := F) ?_ hb (hB hb) ?_ ?_ (by omega) hC hr hrC ?_ ?_ hX hX0 hY0 hrow.cells ?_ ?_).mono ?_
   ·simp -implicitDefEqProofs only [V, ↓reduceIte, reduceEqDiff, reduceAdd, reduceMul, reduceCtorEq, reduceEq, reduceLT, reduceLE]
    exact hrq
   ·simp -implicitDefEqProofs only [V, ↓reduceIte, reduceEqDiff, reduceAdd, reduceMul, reduceCtorEq, reduceEq, reduceLT, reduceLE]
    exact hnt
   ·simp -implicitDefEqProofs only [V, ↓reduceIte, reduceEqDiff, reduceAdd, reduceMul, reduceCtorEq, reduceEq, reduceLT, reduceLE]
    exact hrow
   ·simp -implicitDefEqProofs only [V, ↓reduceIte, reduceEqDiff, reduceAdd, reduceMul, reduceCtorEq, reduceEq, reduceLT, reduceLE]
    exact hlo
   ·simp -implicitDefEqProofs only [V, ↓reduceIte, reduceEqDiff, reduceAdd, reduceMul, reduceCtorEq, reduceEq, reduceLT, reduceLE]
    exact hg
   ·simp -implicitDefEqProofs only [V, ↓reduceIte, reduceEqDiff, reduceAdd, reduceMul, reduceCtorEq, reduceEq, reduceLT, reduceLE, h0]
   ·simp -implicitDefEqProofs only [V, ↓reduceIte, reduceEqDiff, reduceAdd, reduceMul, reduceCtorEq, reduceEq, reduceLT, reduceLE, h3]
   rintro e s1 ⟨rfl, ⟨⟨v1, ps1, a1, a2, a3⟩, b1, b2, b3, b4, b5⟩, c0, c3, ci, cn, c2⟩
   simp -implicitDefEqProofs only [V, ↓reduceIte, reduceEqDiff, reduceAdd, reduceMul, reduceCtorEq, reduceEq, reduceLT, reduceLE, hi5, h4] at b3 b4 b5 ci cn c2
   simp -implicitDefEqProofs only [V, ↓reduceIte, reduceEqDiff, reduceAdd, reduceMul, reduceCtorEq, reduceEq, reduceLT, reduceLE, ci, w1]
   refine (f28_l1_run ok hcs mono hN hC hr hrC hX hX0 hY0 m (i + 1) (k + 1) _ (f st).2 v1 ps1 (by omega) (by omega) ?_ ?_ ?_ ?_ ?_ ?_ ?_ ?_ ?_ ?_ ?_).mono ?_
   ·simp -implicitDefEqProofs only [V, ↓reduceIte, reduceEqDiff, reduceAdd, reduceMul, reduceCtorEq, reduceEq, reduceLT, reduceLE]
    exact b1
   ·exact fun _ => Nat.lt_of_le_of_lt (mono st) (hB hb)
   ·simp -implicitDefEqProofs only [V, ↓reduceIte, reduceEqDiff, reduceAdd, reduceMul, reduceCtorEq, reduceEq, reduceLT, reduceLE]
    exact b2
   ·simp -implicitDefEqProofs only [V, ↓reduceIte, reduceEqDiff, reduceAdd, reduceMul, reduceCtorEq, reduceEq, reduceLT, reduceLE]
    exact a1
   ·simp -implicitDefEqProofs only [V, ↓reduceIte, reduceEqDiff, reduceAdd, reduceMul, reduceCtorEq, reduceEq, reduceLT, reduceLE]
    omega
   ·simp -implicitDefEqProofs only [V, ↓reduceIte, reduceEqDiff, reduceAdd, reduceMul, reduceCtorEq, reduceEq, reduceLT, reduceLE]
    exact a3
   ·simp -implicitDefEqProofs only [V, ↓reduceIte, reduceEqDiff, reduceAdd, reduceMul, reduceCtorEq, reduceEq, reduceLT, reduceLE, c0]
   ·simp -implicitDefEqProofs only [V, ↓reduceIte, reduceEqDiff, reduceAdd, reduceMul, reduceCtorEq, reduceEq, reduceLT, reduceLE, c3]
   ·simp -implicitDefEqProofs only [V, ↓reduceIte, reduceEqDiff, reduceAdd, reduceMul, reduceCtorEq, reduceEq, reduceLT, reduceLE]
   ·simp -implicitDefEqProofs only [V, ↓reduceIte, reduceEqDiff, reduceAdd, reduceMul, reduceCtorEq, reduceEq, reduceLT, reduceLE, cn]
   ·simp -implicitDefEqProofs only [V, ↓reduceIte, reduceEqDiff, reduceAdd, reduceMul, reduceCtorEq, reduceEq, reduceLT, reduceLE, b5, hf]
   rintro e s2 ⟨rfl, ⟨⟨v2, ps2, d1, d2, d3⟩, e1, e2, e3, e4, e5⟩, f0, f3, f2⟩
   simp -implicitDefEqProofs only [V, ↓reduceIte, reduceEqDiff, reduceAdd, reduceMul, reduceCtorEq, reduceEq, reduceLT, reduceLE, c2, b5] at e3 e4 e5 f2
   refine ⟨rfl, ⟨⟨v2, ps2, ?_, ?_, d3⟩, e1, e2, ?_, ?_, ?_⟩, f0, f3, f2⟩
   ·rw [List.length_cons, show k + ((rList f m (f st).2).1.length + 1) = k + 1 + (rList f m (f st).2).1.length by omega]
    exact d1
   ·rw [d2, a2, List.flatMap_cons, List.append_assoc]
   ·omega
   ·intro x x1 x2 x3
    rw [e4 x x1 x2 x3, b4 x x1 x2 x3]
   ·rw [e5]
theorem f28_l3_run {α : Type} {f : RS → α × RS} {cs : α → List AV} {B n r C lo N : Nat} {F : List UInt8} {X Y : List AV} (ok : OneD 28 f cs B n F) (hcs : ∀ a, (cs a).length = 4) (mono : ∀ st, (f st).2.rest.length ≤ st.rest.length) (hN : N < 2 ^ 29) (hC : C < lo) (hr : r < lo) (hrC : r ≠ C) (hX : X.length = 3) (hX0 : below lo (idsL X) = true) (hY0 : idsL Y = []) :
  ∀ (m i k : Nat) (s : St) (st : RS) (v : AV) (ps : List (AV × AV)), i + m = N → k ≤ i → Rq s.h r F st → (st.bad = false → st.rest.length < B) → NoTag s.h → RowR s.h lo n k 4 v ps → lo ≤ s.h.next → s.h.get C = some (.cells (X ++ v :: Y) true) →
  s.eval (.t 0) = some (.ptr r 0) → s.eval (.t 3) = some (.ptr C 0) → s.eval (.t 6) = some (.val (.int .i64 (i : Nat))) → s.eval (.t 4) = some (.val (.int .i64 (N : Nat))) → s.defers = [] →
  Run E1 f28_l3 s fun e s' => e = .exit 2 ∧ LsTo s s' r C lo n (k + (rList f m st).1.length) 4 F X Y (rList f m st).2 ps ((rList f m st).1.flatMap cs) ∧ s'.eval (.t 0) = some (.ptr r 0) ∧ s'.eval (.t 3) = some (.ptr C 0) ∧ s'.eval (.t 2) = s.eval (.t 2)
 | 0, i, k, s, st, v, ps, hi, hki, hrq, hB, hnt, hrow, hlo, hg, h0, h3, hi5, h4, hf => by
  have c1 := dec_ge (i := i) (n := N) (by omega)
  apply loop_of (rfl : f28_l3 = .loop f28_b3)
  simp -implicitDefEqProofs only [f28_b3, V, ↓reduceIte, reduceEqDiff, reduceAdd, reduceMul, reduceCtorEq, reduceEq, reduceLT, reduceLE, h0, h3, hi5, h4, c1, rList, List.length_nil, List.flatMap_nil]
  refine ⟨⟨v, ps, ?_, ?_, ?_⟩, ?_, ?_, ?_, ?_, ?_⟩
  ·exact hrow
  ·rw [List.append_nil]
  ·exact hg
  ·exact hrq
  ·exact hnt
  ·exact Nat.le_refl _
  ·exact fun x _ _ _ => rfl
  ·simp -implicitDefEqProofs only [V, ↓reduceIte, reduceEqDiff, reduceAdd, reduceMul, reduceCtorEq, reduceEq, reduceLT, reduceLE]
 | m + 1, i, k, s, st, v, ps, hi, hki, hrq, hB, hnt, hrow, hlo, hg, h0, h3, hi5, h4, hf => by
  have c1 := dec_lt (i := i) (n := N) (by omega)
  have w1 := wrap_succ (i := i) (by omega)
  obtain ⟨cap, at', gr⟩ := rq_bad hrq
  cases hb : st.bad with
  | true =>
   rw [hb] at gr
   have hrl : rList f (m + 1) st = ([], st) := by rw [rList, if_pos hb]
   rw [hrl]
   apply loop_of (rfl : f28_l3 = .loop f28_b3)
   simp -implicitDefEqProofs only [f28_b3, V, ↓reduceIte, reduceEqDiff, reduceAdd, reduceMul, reduceCtorEq, reduceEq, reduceLT, reduceLE, h0, h3, hi5, h4, c1, gr, q_f2, List.length_nil, List.flatMap_nil]
   refine ⟨⟨v, ps, ?_, ?_, ?_⟩, ?_, ?_, ?_, ?_, ?_⟩
   ·exact hrow
   ·rw [List.append_nil]
   ·exact hg
   ·exact hrq
   ·exact hnt
   ·exact Nat.le_refl _
   ·exact fun x _ _ _ => rfl
   ·simp -implicitDefEqProofs only [V, ↓reduceIte, reduceEqDiff, reduceAdd, reduceMul, reduceCtorEq, reduceEq, reduceLT, reduceLE]
  | false =>
   rw [hb] at gr
   have hne : ¬ st.bad = true := by rw [hb]; decide
   have hrl : rList f (m + 1) st = ((f st).1 :: (rList f m (f st).2).1, (rList f m (f st).2).2) := by rw [rList, if_neg hne]
   rw [hrl]
   apply loop_of (rfl : f28_l3 = .loop f28_b3)
   simp -implicitDefEqProofs only [f28_b3, V, ↓reduceIte, reduceEqDiff, reduceAdd, reduceMul, reduceCtorEq, reduceEq, reduceLT, reduceLE, h0, h3, hi5, h4, c1, gr, q_f2]
   refine (f28_d2_run (k := k) (X := X) (Y := Y) (v := v) (ps := ps) (lo := lo) ok hcs (r := r) (C := C) (st := st) (F := F) ?_ hb (hB hb) ?_ ?_ (by omega) hC hr hrC ?_ ?_ hX hX0 hY0 hrow.cells ?_ ?_).mono ?_
   ·simp -implicitDefEqProofs only [V, ↓reduceIte, reduceEqDiff, reduceAdd, reduceMul, reduceCtorEq, reduceEq, reduceLT, reduceLE]
    exact hrq
   ·simp -implicitDefEqProofs only [V, ↓reduceIte, reduceEqDiff, reduceAdd, reduceMul, reduceCtorEq, reduceEq, reduceLT, reduceLE]
    exact hnt
   ·simp -implicitDefEqProofs only [V, ↓reduceIte, reduceEqDiff, reduceAdd, reduceMul, reduceCtorEq, reduceEq, reduceLT, reduceLE]
    exact hrow
   ·simp -implicitDefEqProofs only [V, ↓reduceIte, reduceEqDiff, reduceAdd, reduceMul, reduceCtorEq, reduceEq, reduceLT, reduceLE]
    exact hlo
   ·simp -implicitDefEqProofs only [V, ↓reduceIte, reduceEqDiff, reduceAdd, reduceMul, reduceCtorEq, reduceEq, reduceLT, reduceLE]
    exact hg
   ·simp -implicitDefEqProofs only [V, ↓reduceIte, reduceEqDiff, reduceAdd, reduceMul, reduceCtorEq, reduceEq, reduceLT, reduceLE, h0]
   ·simp -implicitDefEqProofs only [V, ↓reduceIte, reduceEqDiff, reduceAdd, reduceMul, reduceCtorEq, reduceEq, reduceLT, reduceLE, h3]
   rintro e s1 ⟨rfl, ⟨⟨v1, ps1, a1, a2, a3⟩, b1, b2, b3, b4, b5⟩, c0, c3, ci, cn, c2⟩
   simp -implicitDefEqProofs only [V, ↓reduceIte, reduceEqDiff, reduceAdd, reduceMul, reduceCtorEq, reduceEq, reduceLT, reduceLE, hi5, h4] at b3 b4 b5 ci cn c2
   simp -implicitDefEqProofs only [V, ↓reduceIte, reduceEqDiff, reduceAdd, reduceMul, reduceCtorEq, reduceEq, reduceLT, reduceLE, ci, w1]
   refine (f28_l3_run ok hcs mono hN hC hr hrC hX hX0 hY0 m (i + 1) (k + 1) _ (f st).2 v1 ps1 (by omega) (by omega) ?_ ?_ ?_ ?_ ?_ ?_ ?_ ?_ ?_ ?_ ?_).mono ?_
   ·simp -implicitDefEqProofs only [V, ↓reduceIte, reduceEqDiff, reduceAdd, reduceMul, reduceCtorEq, reduceEq, reduceLT, reduceLE]
    exact b1
   ·exact fun _ => Nat.lt_of_le_of_lt (mono st) (hB hb)
   ·simp -implicitDefEqProofs only [V, ↓reduceIte, reduceEqDiff, reduceAdd, reduceMul, reduceCtorEq, reduceEq, reduceLT, reduceLE]
    exact b2
   ·simp -implicitDefEqProofs only [V, ↓reduceIte, reduceEqDiff, reduceAdd, reduceMul, reduceCtorEq, reduceEq, reduceLT, reduceLE]
    exact a1
   ·simp -implicitDefEqProofs only [V, ↓reduceIte, reduceEqDiff, reduceAdd, reduceMul, reduceCtorEq, reduceEq, reduceLT, reduceLE]
    omega
   ·simp -implicitDefEqProofs only [V, ↓reduceIte, reduceEqDiff, reduceAdd, reduceMul, reduceCtorEq, reduceEq, reduceLT, reduceLE]
    exact a3
   ·simp -implicitDefEqProofs only [V, ↓reduceIte, reduceEqDiff, reduceAdd, reduceMul, reduceCtorEq, reduceEq, reduceLT, reduceLE, c0]
   ·simp -implicitDefEqProofs only [V, ↓reduceIte, reduceEqDiff, reduceAdd, reduceMul, reduceCtorEq, reduceEq, reduceLT, reduceLE, c3]
   ·simp -implicitDefEqProofs only [V, ↓reduceIte, reduceEqDiff, reduceAdd, reduceMul, reduceCtorEq, reduceEq, reduceLT, reduceLE]
   ·simp -implicitDefEqProofs only [V, ↓reduceIte, reduceEqDiff, reduceAdd, reduceMul, reduceCtorEq, reduceEq, reduceLT, reduceLE, cn]
   ·simp -implicitDefEqProofs only [V, ↓reduceIte, reduceEqDiff, reduceAdd, reduceMul, reduceCtorEq, reduceEq, reduceLT, reduceLE, b5, hf]
   rintro e s2 ⟨rfl, ⟨⟨v2, ps2, d1, d2, d3⟩, e1, e2, e3, e4, e5⟩, f0, f3, f2⟩
   simp -implicitDefEqProofs only [V, ↓reduceIte, reduceEqDiff, reduceAdd, reduceMul, reduceCtorEq, reduceEq, reduceLT, reduceLE, c2, b5] at e3 e4 e5 f2
   refine ⟨rfl, ⟨⟨v2, ps2, ?_, ?_, d3⟩, e1, e2, ?_, ?_, ?_⟩, f0, f3, f2⟩
   ·rw [List.length_cons, show k + ((rList f m (f st).2).1.length + 1) = k + 1 + (rList f m (f st).2).1.length by omega]
    exact d1
   ·rw [d2, a2, List.flatMap_cons, List.append_assoc]
   ·omega
   ·intro x x1 x2 x3
    rw [e4 x x1 x2 x3, b4 x x1 x2 x3]
   ·rw [e5]
theorem f55_l1_run {α : Type} {f : RS → α × RS} {cs : α → List AV} {B n r C lo N : Nat} {F : List UInt8} {X Y : List AV} (ok : OneD 25 f cs B n F) (hcs : ∀ a, (cs a).length = 1) (mono : ∀ st, (f st).2.rest.length ≤ st.rest.length) (hN : N < 2 ^ 29) (hC : C < lo) (hr : r < lo) (hrC : r ≠ C) (hX : X.length = 1) (hX0 : below lo (idsL X) = true) (hY0 : idsL Y = []) :
  ∀ (m i k : Nat) (s : St) (st : RS) (v : AV) (ps : List (AV × AV)), i + m = N → k ≤ i → Rq s.h r F st → (st.bad = false → st.rest.length < B) → NoTag s.h → RowR s.h lo n k 1 v ps → lo ≤ s.h.next → s.h.get C = some (.cells (X ++ v :: Y) true) →
  s.eval (.t 0) = some (.ptr r 0) → s.eval (.t 3) = some (.ptr C 0) → s.eval (.t 5) = some (.val (.int .i64 (i : Nat))) → s.eval (.t 4) = some (.val (.int .i64 (N : Nat))) → s.defers = [] →
  Run E1 f55_l1 s fun e s' => e = .exit 0 ∧ LsTo s s' r C lo n (k + (rList f m st).1.length) 1 F X Y (rList f m st).2 ps ((rList f m st).1.flatMap cs) ∧ s'.eval (.t 0) = some (.ptr r 0) ∧ s'.eval (.t 3) = some (.ptr C 0) ∧ s'.eval (.t 2) = s.eval (.t 2)
 | 0, i, k, s, st, v, ps, hi, hki, hrq, hB, hnt, hrow, hlo, hg, h0, h3, hi5, h4, hf => by
  have c1 := dec_ge (i := i) (n := N) (by omega)
  apply loop_of (rfl : f55_l1 = .loop f55_b1)
  simp -implicitDefEqProofs only [f55_b1, V, ↓reduceIte, reduceEqDiff, reduceAdd, reduceMul, reduceCtorEq, reduceEq, reduceLT, reduceLE, h0, h3, hi5, h4, c1, rList, List.length_nil, List.flatMap_nil]
  refine ⟨⟨v, ps, ?_, ?_, ?_⟩, ?_, ?_, ?_, ?_, ?_⟩
  ·exact hrow
  ·rw [List.append_nil]
  ·exact hg
  ·exact hrq
  ·exact hnt
  ·exact Nat.le_refl _
  ·exact fun x _ _ _ => rfl
  ·simp -implicitDefEqProofs only [V, ↓reduceIte, reduceEqDiff, reduceAdd, reduceMul, reduceCtorEq, reduceEq, reduceLT, reduceLE]
 | m + 1, i, k, s, st, v, ps, hi, hki, hrq, hB, hnt, hrow, hlo, hg, h0, h3, hi5, h4, hf => by
  have c1 := dec_lt (i := i) (n := N) (by omega)
  have w1 := wrap_succ (i := i) (by omega)
  obtain ⟨cap, at', gr⟩ := rq_bad hrq
  cases hb : st.bad with
  | true =>
   rw [hb] at gr
   have hrl : rList f (m + 1) st = ([], st) := by rw [rList, if_pos hb]
   rw [hrl]
   apply loop_of (rfl : f55_l1 = .loop f55_b1)
   simp -implicitDefEqProofs only [f55_b1, V, ↓reduceIte, reduceEqDiff, reduceAdd, reduceMul, reduceCtorEq, reduceEq, reduceLT, reduceLE, h0, h3, hi5, h4, c1, gr, q_f2, List.length_nil, List.flatMap_nil]
   refine ⟨⟨v, ps, ?_, ?_, ?_⟩, ?_, ?_, ?_, ?_, ?_⟩
   ·exact hrow
   ·rw [List.append_nil]
   ·exact hg
   ·exact hrq
   ·exact hnt
   ·exact Nat.le_refl _
   ·exact fun x _ _ _ => rfl
   ·simp -implicitDefEqProofs only [V, ↓reduceIte, reduceEqDiff, reduceAdd, reduceMul, reduceCtorEq, reduceEq, reduceLT, reduceLE]
  | false =>
   rw [hb] at gr
   have hne : ¬ st.bad = true := by rw [hb]; decide
   have hrl : rList f (m + 1) st = ((f st).1 :: (rList f m (f st).2).1, (rList f m (f st).2).2) := by rw [rList, if_neg hne]
   rw [hrl]
   apply loop_of (rfl : f55_l1 = .loop f55_b1)
   simp -implicitDefEqProofs only [f55_b1, V, ↓reduceIte, reduceEqDiff, reduceAdd, reduceMul, reduceCtorEq, reduceEq, reduceLT, reduceLE, h0, h3, hi5, h4, c1, gr, q_f2]
   refine (f55_d0_run (k := k) (X := X) (Y := Y) (v := v) (ps := ps) (lo := lo) ok hcs (r := r) (C := C) (st := st) (F := F) ?_ hb (hB hb) ?_ ?_ (by omega) hC hr hrC ?_ ?_ hX hX0 hY0 hrow.cells ?_ ?_).mono ?_
   ·simp -implicitDefEqProofs only [V, ↓reduceIte, reduceEqDiff, reduceAdd, reduceMul, reduceCtorEq, reduceEq, reduceLT, reduceLE]
    exact hrq
   ·simp -implicitDefEqProofs only [V, ↓reduceIte, reduceEqDiff, reduceAdd, reduceMul, reduceCtorEq, reduceEq, reduceLT, reduceLE]
    exact hnt
   ·simp -implicitDefEqProofs only [V, ↓reduceIte, reduceEqDiff, reduceAdd, reduceMul, reduceCtorEq, reduceEq, reduceLT, reduceLE]
    exact hrow
   ·simp -implicitDefEqProofs only [V, ↓reduceIte, reduceEqDiff, reduceAdd, reduceMul, reduceCtorEq, reduceEq, reduceLT, reduceLE]
    exact hlo
   ·simp -implicitDefEqProofs only [V, ↓reduceIte, reduceEqDiff, reduceAdd, reduceMul, reduceCtorEq, reduceEq, reduceLT, reduceLE]
    exact hg
   ·simp -implicitDefEqProofs only [V, ↓reduceIte, reduceEqDiff, reduceAdd, reduceMul, reduceCtorEq, reduceEq, reduceLT, reduceLE, h0]
   ·simp -implicitDefEqProofs only [V, ↓reduceIte, reduceEqDiff, reduceAdd, reduceMul, reduceCtorEq, reduceEq, reduceLT, reduceLE, h3]
   rintro e s1 ⟨rfl, ⟨⟨v1, ps1, a1, a2, a3⟩, b1, b2, b3, b4, b5⟩, c0, c3, ci, cn, c2⟩
   simp -implicitDefEqProofs only [V, ↓reduceIte, reduceEqDiff, reduceAdd, reduceMul, reduceCtorEq, reduceEq, reduceLT, reduceLE, hi5, h4] at b3 b4 b5 ci cn c2
   simp -implicitDefEqProofs only [V, ↓reduceIte, reduceEqDiff, reduceAdd, reduceMul, reduceCtorEq, reduceEq, reduceLT, reduceLE, ci, w1]
   refine (f55_l1_run ok hcs mono hN hC hr hrC hX hX0 hY0 m (i + 1) (k + 1) _ (f st).2 v1 ps1 (by omega) (by omega) ?_ ?_ ?_ ?_ ?_ ?_ ?_ ?_ ?_ ?_ ?_).mono ?_
   ·simp -implicitDefEqProofs only [V, ↓reduceIte, reduceEqDiff, reduceAdd, reduceMul, reduceCtorEq, reduceEq, reduceLT, reduceLE]
    exact b1
   ·exact fun _ => Nat.lt_of_le_of_lt (mono st) (hB hb)
   ·simp -implicitDefEqProofs only [V, ↓reduceIte, reduceEqDiff, reduceAdd, reduceMul, reduceCtorEq, reduceEq, reduceLT, reduceLE]
    exact b2
   ·simp -implicitDefEqProofs only [V, ↓reduceIte, reduceEqDiff, reduceAdd, reduceMul, reduceCtorEq, reduceEq, reduceLT, reduceLE]
    exact a1
   ·simp -implicitDefEqProofs only [V, ↓reduceIte, reduceEqDiff, reduceAdd, reduceMul, reduceCtorEq, reduceEq, reduceLT, reduceLE]
    omega
   ·simp -implicitDefEqProofs only [V, ↓reduceIte, reduceEqDiff, reduceAdd, reduceMul, reduceCtorEq, reduceEq, reduceLT, reduceLE]
    exact a3
   ·simp -implicitDefEqProofs only [V, ↓reduceIte, reduceEqDiff, reduceAdd, reduceMul, reduceCtorEq, reduceEq, reduceLT, reduceLE, c0]
   ·simp -implicitDefEqProofs only [V, ↓reduceIte, reduceEqDiff, reduceAdd, reduceMul, reduceCtorEq, reduceEq, reduceLT, reduceLE, c3]
   ·simp -implicitDefEqProofs only [V, ↓reduceIte, reduceEqDiff, reduceAdd, reduceMul, reduceCtorEq, reduceEq, reduceLT, reduceLE]
   ·simp -implicitDefEqProofs only [V, ↓reduceIte, reduceEqDiff, reduceAdd, reduceMul, reduceCtorEq, reduceEq, reduceLT, reduceLE, cn]
   ·simp -implicitDefEqProofs only [V, ↓reduceIte, reduceEqDiff, reduceAdd, reduceMul, reduceCtorEq, reduceEq, reduceLT, reduceLE, b5, hf]
   rintro e s2 ⟨rfl, ⟨⟨v2, ps2, d1, d2, d3⟩, e1, e2, e3, e4, e5⟩, f0, f3, f2⟩
   simp -implicitDefEqProofs only [V, ↓reduceIte, reduceEqDiff, reduceAdd, reduceMul, reduceCtorEq, reduceEq, reduceLT, reduceLE, c2, b5] at e3 e4 e5 f2
   refine ⟨rfl, ⟨⟨v2, ps2, ?_, ?_, d3⟩, e1, e2, ?_, ?_, ?_⟩, f0, f3, f2⟩
   ·rw [List.length_cons, show k + ((rList f m (f st).2).1.length + 1) = k + 1 + (rList f m (f st).2).1.length by omega]
    exact d1
   ·rw [d2, a2, List.flatMap_cons, List.append_assoc]
   ·omega
   ·intro x x1 x2 x3
    rw [e4 x x1 x2 x3, b4 x x1 x2 x3]
   ·rw [e5]
end Go.Proofs.YtijpnlmmaoecgaaGreatDoor
