/- A part of the proofs about certificates: YDy YDz YEa. -/
import Derived.Test.YtijpnlmmaoecgaaGreatDoorQB4

set_option linter.all false
open Nat (reduceEqDiff reduceAdd reduceMul)
open Int (reduceEq reduceLT reduceLE)

namespace Go.Proofs.YtijpnlmmaoecgaaGreatDoor
open Go Go.AM
set_option maxHeartbeats 4000000 in
theorem f9_d2_run {α : Type} {f : RS → α × RS} {cs : α → List AV} {B n r C lo k : Nat} {F : List UInt8} {v : AV} {ps : List (AV × AV)} {X Y : List AV} {s : St} {st : RS} (ok : OneD 28 f cs B n F) (hcs : ∀ a, (cs a).length = 4) (hrq : Rq s.h r F st) (hbad : st.bad = false) (hB : st.rest.length < B) (hnt : NoTag s.h)
  (hrow : RowR s.h lo n k 4 v ps) (hk : k < 2 ^ 30) (hC : C < lo) (hr : r < lo) (hrC : r ≠ C) (hlo : lo ≤ s.h.next) (hg : s.h.get C = some (.cells (X ++ v :: Y) true)) (hX : X.length = 3) (hX0 : below lo (idsL X) = true) (hY0 : idsL Y = []) (hv : v.cells = some [v])
  (h0 : s.eval (.t 5) = some (.ptr r 0)) (h3 : s.eval (.t 6) = some (.ptr C 0)) :
  Run E1 f9_d2 s fun e s' => e = .normal ∧ DrTo s s' r C lo n k 4 F X Y (f st).2 ps (cs (f st).1) ∧ s'.eval (.t 5) = some (.ptr r 0) ∧ s'.eval (.t 6) = some (.ptr C 0) ∧ s'.eval (.t 10) = s.eval (.t 10) ∧ s'.eval (.t 7) = s.eval (.t 7) ∧ s'.eval (.t 2) = s.eval (.t 2) := by
 obtain ⟨hra, hpb, hvb⟩ := hrow.at
 have hCn : C < s.h.next := by omega
 have hbc : below s.h.next (idsL (X ++ v :: Y)) = true := below_app (below_le hX0 hlo) (by
  simp only [idsL, hY0, List.append_nil]
  exact hvb)
 have nC : ∀ o, niceT s.h (some (.ptr C o)) = true := fun o => nice_ptr hCn hg hbc
 have hrq0 := hrq
 obtain ⟨r1, cap, at', gr, e1, e2⟩ := hrq
 have nR : ∀ o, niceT s.h (some (.ptr r o)) = true := fun o => q_nice r1 gr
 have hdrop : (X ++ v :: Y).drop 3 = v :: Y := by rw [← hX, List.drop_left]
 have hle : Nat.ble 3 (X ++ v :: Y).length = true := Nat.ble_eq.mpr (by rw [List.length_append, hX]; omega)
 have hrr : Rq (restrictH s.h [r]) r F st := ⟨r1, cap, at', by rw [restrict_in (List.mem_singleton_self r), gr], e1, e2⟩
 obtain ⟨w, h1, hcall, qs, q1, q2, q3, q4, q5, q6⟩ := ok (restrictH s.h [r]) r st hrr (noTag_restrict hnt) hbad hB
 have hn1 : s.h.next ≤ h1.next := q6.le
 have hql : qs.length = 4 := by
  have := congrArg List.length q3
  rw [List.length_map, hcs] at this
  exact this
 refine run_draw ?_
 show DrawTo E1 f9_o2 [] s _
 unfold f9_o2
 refine pure_draw rfl rfl ?_ (v := .ptr C 3) ?_ (fun i hi => by cases hi) ?_
 ·simp only [List.all_cons, List.all_nil, h3, nC, Bool.and_self]
 ·simp only [runOp, h3]
  first | done | rfl
 refine load_draw (b := C) (o := 3) (v := v) ?_ (nC _) ?_ rfl ?_
 ·simp -implicitDefEqProofs only [V, ↓reduceIte, reduceEqDiff, reduceAdd, reduceMul, reduceCtorEq, reduceEq, reduceLT, reduceLE]
 ·have hev : (s.put (some 89) (.ptr C 3)).eval (.t 89) = some (.ptr C 3) := by simp -implicitDefEqProofs only [V, ↓reduceIte, reduceEqDiff, reduceAdd, reduceMul, reduceCtorEq, reduceEq, reduceLT, reduceLE]
  have hh : (s.put (some 89) (.ptr C 3)).h = s.h := rfl
  have hcf : cellsFrom E1.globs s.h (.ptr C 3) = some (v :: Y) := by simp only [cellsFrom, hg, hle, cond_true, hdrop]
  simp only [runOp, hev, hh, hcf, Option.bind_some, takeN]
  rfl
 generalize hs3 : St.put (St.put s (some 89) (.ptr C 3)) (some 90) v = s3
 have a0 : s3.eval (.t 5) = some (.ptr r 0) := by rw [← hs3]; simp -implicitDefEqProofs only [V, ↓reduceIte, reduceEqDiff, reduceAdd, reduceMul, reduceCtorEq, reduceEq, reduceLT, reduceLE, h0]
 have a3 : s3.eval (.t 6) = some (.ptr C 0) := by rw [← hs3]; simp -implicitDefEqProofs only [V, ↓reduceIte, reduceEqDiff, reduceAdd, reduceMul, reduceCtorEq, reduceEq, reduceLT, reduceLE, h3]
 have ar : s3.eval (.t 90) = some v := by rw [← hs3]; simp -implicitDefEqProofs only [V, ↓reduceIte, reduceEqDiff, reduceAdd, reduceMul, reduceCtorEq, reduceEq, reduceLT, reduceLE]
 have ai : s3.eval (.t 10) = s.eval (.t 10) := by rw [← hs3]; simp -implicitDefEqProofs only [V, ↓reduceIte, reduceEqDiff, reduceAdd, reduceMul, reduceCtorEq, reduceEq, reduceLT, reduceLE]
 have an : s3.eval (.t 7) = s.eval (.t 7) := by rw [← hs3]; simp -implicitDefEqProofs only [V, ↓reduceIte, reduceEqDiff, reduceAdd, reduceMul, reduceCtorEq, reduceEq, reduceLT, reduceLE]
 have a2 : s3.eval (.t 2) = s.eval (.t 2) := by rw [← hs3]; simp -implicitDefEqProofs only [V, ↓reduceIte, reduceEqDiff, reduceAdd, reduceMul, reduceCtorEq, reduceEq, reduceLT, reduceLE]
 have eh : s3.h = s.h := by rw [← hs3]; rfl
 have ed : s3.defers = s.defers := by rw [← hs3]; rfl
 have hF1 : ∀ x ∈ idsL (pickTm (s.put (some 89) (.ptr C 3)).tm [89]).vals, x = C := fun x hx => by
  have := vals_ids (s := s.put (some 89) (.ptr C 3)) (i := 89) (v := .ptr C 3) (by simp -implicitDefEqProofs only [V, ↓reduceIte, reduceEqDiff, reduceAdd, reduceMul, reduceCtorEq, reduceEq, reduceLT, reduceLE]) x hx
  simpa only [ids, List.mem_singleton] using this
 generalize idsL (pickTm (s.put (some 89) (.ptr C 3)).tm [89]).vals = F1 at *
 have hpk : idsL (pickTm s3.tm [5]).vals = [r] := by
  have e : s3.tm.get 5 = some (.ptr r 0) := a0
  simp only [pickTm, e]
  rfl
 clear hs3
 rw [← eh] at hrow hra hpb hvb hCn hg hlo gr r1 hnt hn1 q4 q6 hcall
 refine call_draw (f := 28) (i := 5) (r := r) (v := w) (h1 := h1) (cs := [.imm (bytesA F) F.length cap, .val (.int .i64 (at' : Nat)), .val (.bool st.bad)]) (rw' := true) a0 hpk r1 gr rfl hnt hcall hn1 ?_ ?_
 ·intro D hD
  have hmC : ∀ x ∈ D, memN F1 x = false := fun x hx => by
   rw [memN, List.any_eq_false]
   intro y hy ey
   have := Nat.eq_of_beq_eq_true ey
   rw [hF1 y hy, hD x hx] at this
   omega
  have hany : (D.any fun x => memN F1 x) = false := by
   rw [List.any_eq_false]
   intro x hx
   rw [hmC x hx]
   decide
  have hany0 : (D.any fun x => memN [] x) = false := by
   rw [List.any_eq_false]
   intro x hx
   simp [memN]
  have t0 : ∀ l, touches ⟨[], [], s.h.next, s.h.next⟩ l = false := fun l => quiet_touch ⟨rfl, rfl⟩ l
  have t1 : ∀ l, touches ⟨F1, [], s.h.next, s.h.next⟩ l = false := fun l => quiet_touch ⟨rfl, rfl⟩ l
  show freeOk [⟨[], [], s.h.next, s.h.next⟩, ⟨F1, [], s.h.next, s.h.next⟩] ⟨[r], D, s3.h.next, h1.next⟩ [0, 1] = true
  simp only [freeOk, List.getElem?_cons_zero, List.getElem?_cons_succ, recApart, t0, t1, hany, hany0, Bool.not_false, Bool.and_self]
 intro D h2 hD m1 m2 m3 m4 m5
 have hn2 : s3.h.next ≤ h2.next := by omega
 have hCr : C ≠ r := fun e => hrC e.symm
 have gC2 : h2.get C = some (.cells (X ++ v :: Y) true) := by rw [m4 C hCn hCr, hg]
 have hnt2 : NoTag h2 := fun b x t n' e => by
  rcases Nat.lt_or_ge b s3.h.next with q | q
  ·by_cases e' : b = r
   ·subst e'
    rw [m3] at e
    exact q6.nt (noTag_restrict hnt) _ _ _ _ e
   ·rw [m4 b q e'] at e
    exact hnt _ _ _ _ e
  ·rcases Nat.lt_or_ge b h1.next with q' | q'
   ·rw [m2 b q q'] at e
    exact q6.nt (noTag_restrict hnt) _ _ _ _ e
   ·rw [m5 b q'] at e
    exact hnt _ _ _ _ e
 have hrep2 : ∀ q ∈ qs, Rep h2 s3.h.next h2.next n q.1 q.2 := fun q hq => rep_same (Nat.le_refl _) (by rw [m1]; exact Nat.le_refl _) (fun x x1 x2 => m2 x x1 x2) (q4 q hq)
 have hwb : below h2.next (ids w) = true := by rw [q2]; exact rows_below (Nat.le_refl _) hrep2
 have hrow2 : RowR h2 lo n k 4 v ps := by
  refine hrow.to hn2 fun x x1 x2 => m4 x x2 (by omega)
 have hrq2 : Rq h2 r F (f st).2 := by
  obtain ⟨y1, y2, y3, y4, y5⟩ := q5
  exact ⟨by omega, y2, y3, by rw [m3, y4], y5⟩
 refine build_draw (es := 4) (n := 1) (cs := qs.map (·.1)) (v := w) ?_ ?_ ?_ (show ∀ i ∈ ([0, 1] : List Nat), i < 3 by decide) ?_
 ·simp -implicitDefEqProofs only [V, ↓reduceIte, reduceEqDiff, reduceAdd, reduceMul, reduceCtorEq, reduceEq, reduceLT, reduceLE]
 ·simp -implicitDefEqProofs only [V, ↓reduceIte, reduceEqDiff, reduceAdd, reduceMul, reduceCtorEq, reduceEq, reduceLT, reduceLE]
  exact hwb
 ·exact fill_all (v := w) (by simp -implicitDefEqProofs only [V, ↓reduceIte, reduceEqDiff, reduceAdd, reduceMul, reduceCtorEq, reduceEq, reduceLT, reduceLE]) q1 (by rw [List.length_map, hql]) rfl
 generalize hdn : (([] ++ [_] ++ [_] ++ [_] ++ [_] : List DRec)) = dn
 generalize hs4 : St.put (St.toH (St.put (St.toH s3 h2) (some 91) w) _) (some 92) _ = s4
 have hh4 : s4.h = h2.alloc (.cells (qs.map (·.1)) true) := by rw [← hs4]; simp -implicitDefEqProofs only [V, ↓reduceIte, reduceEqDiff, reduceAdd, reduceMul, reduceCtorEq, reduceEq, reduceLT, reduceLE]
 have b0 : s4.eval (.t 5) = some (.ptr r 0) := by rw [← hs4]; simp -implicitDefEqProofs only [V, ↓reduceIte, reduceEqDiff, reduceAdd, reduceMul, reduceCtorEq, reduceEq, reduceLT, reduceLE, a0]
 have b3 : s4.eval (.t 6) = some (.ptr C 0) := by rw [← hs4]; simp -implicitDefEqProofs only [V, ↓reduceIte, reduceEqDiff, reduceAdd, reduceMul, reduceCtorEq, reduceEq, reduceLT, reduceLE, a3]
 have br : s4.eval (.t 90) = some v := by rw [← hs4]; simp -implicitDefEqProofs only [V, ↓reduceIte, reduceEqDiff, reduceAdd, reduceMul, reduceCtorEq, reduceEq, reduceLT, reduceLE, ar]
 have bn : s4.eval (.t 92) = some (.own h2.next 0 1 4 (some 1)) := by rw [← hs4]; simp -implicitDefEqProofs only [V, ↓reduceIte, reduceEqDiff, reduceAdd, reduceMul, reduceCtorEq, reduceEq, reduceLT, reduceLE]
 have bi : s4.eval (.t 10) = s.eval (.t 10) := by rw [← hs4, ← ai]; simp -implicitDefEqProofs only [V, ↓reduceIte, reduceEqDiff, reduceAdd, reduceMul, reduceCtorEq, reduceEq, reduceLT, reduceLE]
 have bm : s4.eval (.t 7) = s.eval (.t 7) := by rw [← hs4, ← an]; simp -implicitDefEqProofs only [V, ↓reduceIte, reduceEqDiff, reduceAdd, reduceMul, reduceCtorEq, reduceEq, reduceLT, reduceLE]
 have b2 : s4.eval (.t 2) = s.eval (.t 2) := by rw [← hs4, ← a2]; simp -implicitDefEqProofs only [V, ↓reduceIte, reduceEqDiff, reduceAdd, reduceMul, reduceCtorEq, reduceEq, reduceLT, reduceLE]
 have bd : s4.defers = s.defers := by rw [← hs4, ← ed]; simp -implicitDefEqProofs only [V, ↓reduceIte, reduceEqDiff, reduceAdd, reduceMul, reduceCtorEq, reduceEq, reduceLT, reduceLE]
 clear hs4 hdn
 have n3 : s4.h.next = h2.next + 1 := by rw [hh4]; rfl
 have g3 : ∀ x, x < h2.next → s4.h.get x = h2.get x := fun x hx => by rw [hh4, get_alloc_old hx]
 have gc : s4.h.get h2.next = some (.cells (qs.map (·.1)) true) := by rw [hh4]; exact box_get
 have hrow3 : RowR s4.h lo n k 4 v ps := hrow2.to (by omega) fun x x1 x2 => g3 x x2
 obtain ⟨c1, c2, c3⟩ := hrow3.at
 have hrep3 : ∀ q ∈ qs, Rep s4.h s3.h.next s4.h.next n q.1 q.2 := fun q hq => rep_same (Nat.le_refl _) (by omega) (fun x x1 x2 => g3 x x2) (hrep2 q hq)
 obtain ⟨p1, p2, p3⟩ := pushR_ok hrow (qs := qs) (h := s4.h) (by omega) (by omega) (fun x x1 x2 => by rw [g3 x (by omega), m4 x x2 (by omega)]) hql hrep3
 refine app_draw (k := k) (c := h2.next) (v := v) (pc := ps.map (·.1)) (new := qs.map (·.1)) c1 c2 (by omega) gc (rows_below (Nat.le_refl _) hrep3) (by rw [List.length_map, hql]) (okLen_of hk (by decide)) br bn rfl ?_
 intro rec h4 n4 g4
 have hrow4 : RowR h4 lo n (k + 1) 4 (.own s4.h.next 0 (k + 1) 4 none) (ps ++ qs) := p2.to (by omega) fun x _ _ => g4 x
 have gC4 : h4.get C = some (.cells (X ++ v :: Y) true) := by rw [g4, p3 C hC, g3 C (by omega), gC2]
 have hbc4 : below h4.next (idsL (X ++ v :: Y)) = true := below_le (by rw [← eh] at hbc; exact hbc) (by omega)
 have nC4 : ∀ o, niceT h4 (some (.ptr C o)) = true := fun o => nice_ptr (by omega) gC4 hbc4
 generalize hs5 : St.put (St.toH s4 h4) (some 93) _ = s5
 have hh5 : s5.h = h4 := by rw [← hs5]; rfl
 have d0 : s5.eval (.t 5) = some (.ptr r 0) := by rw [← hs5]; simp -implicitDefEqProofs only [V, ↓reduceIte, reduceEqDiff, reduceAdd, reduceMul, reduceCtorEq, reduceEq, reduceLT, reduceLE, b0]
 have d3 : s5.eval (.t 6) = some (.ptr C 0) := by rw [← hs5]; simp -implicitDefEqProofs only [V, ↓reduceIte, reduceEqDiff, reduceAdd, reduceMul, reduceCtorEq, reduceEq, reduceLT, reduceLE, b3]
 have dv : s5.eval (.t 93) = some (.own s4.h.next 0 (k + 1) 4 none) := by rw [← hs5]; simp -implicitDefEqProofs only [V, ↓reduceIte, reduceEqDiff, reduceAdd, reduceMul, reduceCtorEq, reduceEq, reduceLT, reduceLE]
 have di : s5.eval (.t 10) = s.eval (.t 10) := by rw [← hs5, ← bi]; simp -implicitDefEqProofs only [V, ↓reduceIte, reduceEqDiff, reduceAdd, reduceMul, reduceCtorEq, reduceEq, reduceLT, reduceLE]
 have dm : s5.eval (.t 7) = s.eval (.t 7) := by rw [← hs5, ← bm]; simp -implicitDefEqProofs only [V, ↓reduceIte, reduceEqDiff, reduceAdd, reduceMul, reduceCtorEq, reduceEq, reduceLT, reduceLE]
 have d2 : s5.eval (.t 2) = s.eval (.t 2) := by rw [← hs5, ← b2]; simp -implicitDefEqProofs only [V, ↓reduceIte, reduceEqDiff, reduceAdd, reduceMul, reduceCtorEq, reduceEq, reduceLT, reduceLE]
 have dd : s5.defers = s.defers := by rw [← hs5, ← bd]; simp -implicitDefEqProofs only [V, ↓reduceIte, reduceEqDiff, reduceAdd, reduceMul, reduceCtorEq, reduceEq, reduceLT, reduceLE]
 clear hs5
 refine pure_draw rfl rfl ?_ (v := .ptr C 3) ?_ (fun i hi => by cases hi) ?_
 ·simp only [List.all_cons, List.all_nil, d3, hh5, nC4, Bool.and_self]
 ·simp only [runOp, d3]
  first | done | rfl
 have hset : (X ++ v :: Y).set 3 (.own s4.h.next 0 (k + 1) 4 none) = X ++ (.own s4.h.next 0 (k + 1) 4 none) :: Y := by
  rw [← hX, List.set_append_right _ _ (Nat.le_refl _), Nat.sub_self]
  rfl
 have hst := st_at (i := 3) (x := .own s4.h.next 0 (k + 1) 4 none) gC4 (by rw [List.length_append, List.length_cons, hX]; omega)
 rw [hset] at hst
 refine store_draw2 (b := C) (off := 3) (v := .own s4.h.next 0 (k + 1) 4 none) (cs := X ++ v :: Y) (l := [.own s4.h.next 0 (k + 1) 4 none]) (h' := h4.put C (some (.cells (X ++ (.own s4.h.next 0 (k + 1) 4 none) :: Y) true))) ?_ ?_ ?_ rfl ?_ ?_ ?_ ?_ ?_
 ·simp -implicitDefEqProofs only [V, ↓reduceIte, reduceEqDiff, reduceAdd, reduceMul, reduceCtorEq, reduceEq, reduceLT, reduceLE]
 ·simp -implicitDefEqProofs only [V, ↓reduceIte, reduceEqDiff, reduceAdd, reduceMul, reduceCtorEq, reduceEq, reduceLT, reduceLE, dv]
 ·simp -implicitDefEqProofs only [V, ↓reduceIte, reduceEqDiff, reduceAdd, reduceMul, reduceCtorEq, reduceEq, reduceLT, reduceLE, hh5]
  simp only [ids, below, List.all_cons, List.all_nil, Bool.and_true]
  exact Nat.blt_eq.mpr (by omega)
 ·simp -implicitDefEqProofs only [V, ↓reduceIte, reduceEqDiff, reduceAdd, reduceMul, reduceCtorEq, reduceEq, reduceLT, reduceLE, hh5, gC4]
 ·simp -implicitDefEqProofs only [V, ↓reduceIte, reduceEqDiff, reduceAdd, reduceMul, reduceCtorEq, reduceEq, reduceLT, reduceLE, hh5, hbc4]
 ·simp -implicitDefEqProofs only [V, ↓reduceIte, reduceEqDiff, reduceAdd, reduceMul, reduceCtorEq, reduceEq, reduceLT, reduceLE, hh5]
  omega
 ·simp -implicitDefEqProofs only [V, ↓reduceIte, reduceEqDiff, reduceAdd, reduceMul, reduceCtorEq, reduceEq, reduceLT, reduceLE, hh5, hst]
 refine draw_nil ⟨rfl, ⟨⟨.own s4.h.next 0 (k + 1) 4 none, ps ++ qs, ?_, ?_, ?_⟩, ?_, ?_, ?_, ?_, ?_⟩, ?_, ?_, ?_, ?_, ?_⟩
 ·refine hrow4.to (Nat.le_refl _) fun x x1 x2 => ?_
  exact get_put_old (by omega)
 ·rw [List.map_append, q3]
 ·exact put_get
 ·obtain ⟨y1, y2, y3, y4, y5⟩ := hrq2
  refine ⟨by show r < h4.next; omega, y2, y3, ?_, y5⟩
  show (h4.put C _).get r = _
  rw [get_put_old hrC, g4, p3 r hr, g3 r y1, y4]
 ·refine NoTag.put fun b x t n' e => ?_
  rw [g4] at e
  exact pushR_nt (by rw [hh4]; exact hnt2.alloc) _ _ _ _ e
 ·show s.h.next ≤ h4.next
  rw [← eh]
  omega
 ·intro x x1 x2 x3
  show (h4.put C _).get x = s.h.get x
  rw [get_put_old x3, g4, p3 x x1, g3 x (by omega), m4 x (by omega) x2, eh]
 ·show s5.defers = s.defers
  exact dd
 ·simp -implicitDefEqProofs only [V, ↓reduceIte, reduceEqDiff, reduceAdd, reduceMul, reduceCtorEq, reduceEq, reduceLT, reduceLE, d0]
 ·simp -implicitDefEqProofs only [V, ↓reduceIte, reduceEqDiff, reduceAdd, reduceMul, reduceCtorEq, reduceEq, reduceLT, reduceLE, d3]
 ·rw [← di]; simp -implicitDefEqProofs only [V, ↓reduceIte, reduceEqDiff, reduceAdd, reduceMul, reduceCtorEq, reduceEq, reduceLT, reduceLE]
 ·rw [← dm]; simp -implicitDefEqProofs only [V, ↓reduceIte, reduceEqDiff, reduceAdd, reduceMul, reduceCtorEq, reduceEq, reduceLT, reduceLE]
 ·rw [← d2]; simp -implicitDefEqProofs only [V, ↓reduceIte, reduceEqDiff, reduceAdd, reduceMul, reduceCtorEq, reduceEq, reduceLT, reduceLE]
theorem f9_l3_run {α : Type} {f : RS → α × RS} {cs : α → List AV} {B n r C lo N : Nat} {F : List UInt8} {X Y : List AV} (ok : OneD 28 f cs B n F) (hcs : ∀ a, (cs a).length = 4) (mono : ∀ st, (f st).2.rest.length ≤ st.rest.length) (hN : N < 2 ^ 29) (hC : C < lo) (hr : r < lo) (hrC : r ≠ C) (hX : X.length = 3) (hX0 : below lo (idsL X) = true) (hY0 : idsL Y = []) :
  ∀ (m i k : Nat) (s : St) (st : RS) (v : AV) (ps : List (AV × AV)), i + m = N → k ≤ i → Rq s.h r F st → (st.bad = false → st.rest.length < B) → NoTag s.h → RowR s.h lo n k 4 v ps → lo ≤ s.h.next → s.h.get C = some (.cells (X ++ v :: Y) true) →
  s.eval (.t 5) = some (.ptr r 0) → s.eval (.t 6) = some (.ptr C 0) → s.eval (.t 10) = some (.val (.int .i64 (i : Nat))) → s.eval (.t 7) = some (.val (.int .i64 (N : Nat))) → s.defers = [] →
  Run E1 f9_l3 s fun e s' => e = .exit 2 ∧ LsTo s s' r C lo n (k + (rList f m st).1.length) 4 F X Y (rList f m st).2 ps ((rList f m st).1.flatMap cs) ∧ s'.eval (.t 5) = some (.ptr r 0) ∧ s'.eval (.t 6) = some (.ptr C 0) ∧ s'.eval (.t 2) = s.eval (.t 2)
 | 0, i, k, s, st, v, ps, hi, hki, hrq, hB, hnt, hrow, hlo, hg, h0, h3, hi5, h4, hf => by
  have c1 := dec_ge (i := i) (n := N) (by omega)
  apply loop_of (rfl : f9_l3 = .loop f9_b3)
  simp -implicitDefEqProofs only [f9_b3, V, ↓reduceIte, reduceEqDiff, reduceAdd, reduceMul, reduceCtorEq, reduceEq, reduceLT, reduceLE, h0, h3, hi5, h4, c1, rList, List.length_nil, List.flatMap_nil]
  refine ⟨⟨v, ps, ?_, ?_, ?_⟩, ?_, ?_, ?_, ?_, ?_⟩
  ·exact hrow
  ·rw [List.append_nil]
  ·exact hg
  ·exact hrq
  ·exact hnt
  ·exact Nat.le_refl _
  ·exact fun x _ _ _ => rfl
  ·simp -implicitDefEqProofs only [V, ↓reduceIte, reduceEqDiff, reduceAdd, reduceMul, reduceCtorEq, reduceEq, reduceLT, reduceLE]
 | m + 1, i, k, s, st, v, ps, hi, hki, hrq, hB, hnt, hrow, hlo, hg, h0, h3, hi5, h4, hf => by
  have c1 := dec_lt (i := i) (n := N) (by omega)
  have w1 := wrap_succ (i := i) (by omega)
  obtain ⟨cap, at', gr⟩ := rq_bad hrq
  cases hb : st.bad with
  | true =>
   rw [hb] at gr
   have hrl : rList f (m + 1) st = ([], st) := by rw [rList, if_pos hb]
   rw [hrl]
   apply loop_of (rfl : f9_l3 = .loop f9_b3)
   simp -implicitDefEqProofs only [f9_b3, V, ↓reduceIte, reduceEqDiff, reduceAdd, reduceMul, reduceCtorEq, reduceEq, reduceLT, reduceLE, h0, h3, hi5, h4, c1, gr, q_f2, List.length_nil, List.flatMap_nil]
   refine ⟨⟨v, ps, ?_, ?_, ?_⟩, ?_, ?_, ?_, ?_, ?_⟩
   ·exact hrow
   ·rw [List.append_nil]
   ·exact hg
   ·exact hrq
   ·exact hnt
   ·exact Nat.le_refl _
   ·exact fun x _ _ _ => rfl
   ·simp -implicitDefEqProofs only [V, ↓reduceIte, reduceEqDiff, reduceAdd, reduceMul, reduceCtorEq, reduceEq, reduceLT, reduceLE]
  | false =>
   rw [hb] at gr
   have hne : ¬ st.bad = true := by rw [hb]; decide
   have hrl : rList f (m + 1) st = ((f st).1 :: (rList f m (f st).2).1, (rList f m (f st).2).2) := by rw [rList, if_neg hne]
   rw [hrl]
   apply loop_of (rfl : f9_l3 = .loop f9_b3)
   simp -implicitDefEqProofs only [f9_b3, V, ↓reduceIte, reduceEqDiff, reduceAdd, reduceMul, reduceCtorEq, reduceEq, reduceLT, reduceLE, h0, h3, hi5, h4, c1, gr, q_f2]
   refine (f9_d2_run (k := k) (X := X) (Y := Y) (v := v) (ps := ps) (lo := lo) ok hcs (r := r) (C := C) (st := st) (F := F) ?_ hb (hB hb) ?_ ?_ (by omega) hC hr hrC ?_ ?_ hX hX0 hY0 hrow.cells ?_ ?_).mono ?_
   ·simp -implicitDefEqProofs only [V, ↓reduceIte, reduceEqDiff, reduceAdd, reduceMul, reduceCtorEq, reduceEq, reduceLT, reduceLE]
    exact hrq
   ·simp -implicitDefEqProofs only [V, ↓reduceIte, reduceEqDiff, reduceAdd, reduceMul, reduceCtorEq, reduceEq, reduceLT, reduceLE]
    exact hnt
   ·simp -implicitDefEqProofs only [V, ↓reduceIte, reduceEqDiff, reduceAdd, reduceMul, reduceCtorEq, reduceEq, reduceLT, reduceLE]
    exact hrow
   ·simp -implicitDefEqProofs only [V, ↓reduceIte, reduceEqDiff, reduceAdd, reduceMul, reduceCtorEq, reduceEq, reduceLT, reduceLE]
    exact hlo
   ·simp -implicitDefEqProofs only [V, ↓reduceIte, reduceEqDiff, reduceAdd, reduceMul, reduceCtorEq, reduceEq, reduceLT, reduceLE]
    exact hg
   ·simp -implicitDefEqProofs only [V, ↓reduceIte, reduceEqDiff, reduceAdd, reduceMul, reduceCtorEq, reduceEq, reduceLT, reduceLE, h0]
   ·simp -implicitDefEqProofs only [V, ↓reduceIte, reduceEqDiff, reduceAdd, reduceMul, reduceCtorEq, reduceEq, reduceLT, reduceLE, h3]
   rintro e s1 ⟨rfl, ⟨⟨v1, ps1, a1, a2, a3⟩, b1, b2, b3, b4, b5⟩, c0, c3, ci, cn, c2⟩
   simp -implicitDefEqProofs only [V, ↓reduceIte, reduceEqDiff, reduceAdd, reduceMul, reduceCtorEq, reduceEq, reduceLT, reduceLE, hi5, h4] at b3 b4 b5 ci cn c2
   simp -implicitDefEqProofs only [V, ↓reduceIte, reduceEqDiff, reduceAdd, reduceMul, reduceCtorEq, reduceEq, reduceLT, reduceLE, ci, w1]
   refine (f9_l3_run ok hcs mono hN hC hr hrC hX hX0 hY0 m (i + 1) (k + 1) _ (f st).2 v1 ps1 (by omega) (by omega) ?_ ?_ ?_ ?_ ?_ ?_ ?_ ?_ ?_ ?_ ?_).mono ?_
   ·simp -implicitDefEqProofs only [V, ↓reduceIte, reduceEqDiff, reduceAdd, reduceMul, reduceCtorEq, reduceEq, reduceLT, reduceLE]
    exact b1
   ·exact fun _ => Nat.lt_of_le_of_lt (mono st) (hB hb)
   ·simp -implicitDefEqProofs only [V, ↓reduceIte, reduceEqDiff, reduceAdd, reduceMul, reduceCtorEq, reduceEq, reduceLT, reduceLE]
    exact b2
   ·simp -implicitDefEqProofs only [V, ↓reduceIte, reduceEqDiff, reduceAdd, reduceMul, reduceCtorEq, reduceEq, reduceLT, reduceLE]
    exact a1
   ·simp -implicitDefEqProofs only [V, ↓reduceIte, reduceEqDiff, reduceAdd, reduceMul, reduceCtorEq, reduceEq, reduceLT, reduceLE]
    omega
   ·simp -implicitDefEqProofs only [V, ↓reduceIte, reduceEqDiff, reduceAdd, reduceMul, reduceCtorEq, reduceEq, reduceLT, reduceLE]
    exact a3
   ·simp -implicitDefEqProofs only [V, ↓reduceIte, reduceEqDiff, reduceAdd, reduceMul, reduceCtorEq, reduceEq, reduceLT, reduceLE, c0]
   ·simp -implicitDefEqProofs only [V, ↓reduceIte, reduceEqDiff, reduceAdd, reduceMul, reduceCtorEq, reduceEq, reduceLT, reduceLE, c3]
   ·simp -implicitDefEqProofs only [V, ↓reduceIte, reduceEqDiff, reduceAdd, reduceMul, reduceCtorEq, reduceEq, reduceLT, reduceLE]
   ·simp -implicitDefEqProofs only [V, ↓reduceIte, reduceEqDiff, reduceAdd, reduceMul, reduceCtorEq, reduceEq, reduceLT, reduceLE, cn]
   ·simp -implicitDefEqProofs only [V, ↓reduceIte, reduceEqDiff, reduceAdd, reduceMul, reduceCtorEq, reduceEq, reduceLT, reduceLE, b5, hf]
   rintro e s2 ⟨rfl, ⟨⟨v2, ps2, d1, d2, d3⟩, e1, e2, e3, e4, e5⟩, f0, f3, f2⟩
   simp -implicitDefEqProofs only [V, ↓reduceIte, reduceEqDiff, reduceAdd, reduceMul, reduceCtorEq, reduceEq, reduceLT, reduceLE, c2, b5] at e3 e4 e5 f2
   refine ⟨rfl, ⟨⟨v2, ps2, ?_, ?_, d3⟩, e1, e2, ?_, ?_, ?_⟩, f0, f3, f2⟩
   ·rw [List.length_cons, show k + ((rList f m (f st).2).1.length + 1) = k + 1 + (rList f m (f st).2).1.length by omega]
    exact d1
   ·rw [d2, a2, List.flatMap_cons, List.append_assoc]
   ·omega
   ·intro x x1 x2 x3
    rw [e4 x x1 x2 x3, b4 x x1 x2 x3]
   ·rw [e5]
end Go.Proofs.YtijpnlmmaoecgaaGreatDoor

namespace Go.Proofs.YtijpnlmmaoecgaaGreatDoor
open Go Go.AM
set_option maxHeartbeats 4000000 in
theorem f9_l1_run {g r C lo N : Nat} {F : List UInt8} {x0 x1 y : AV} (hF : F.length < 2 ^ 28) (hN : N < 2 ^ 29) (hC : C < lo) (hr : r < lo) (hrC : r ≠ C) :
  ∀ (m i k : Nat) (s : St) (st : RS) (v : AV) (ps : List (AV × AV)), i + m = N → k ≤ i → Rq s.h r F st → (st.bad = false → st.rest.length < g + 1) → NoTag s.h → RowR s.h lo (g + 1) k 5 v ps → lo ≤ s.h.next → s.h.get C = some (.cells [x0, x1, v, y] true) →
  s.eval (.t 5) = some (.ptr r 0) → s.eval (.t 6) = some (.ptr C 0) → s.eval (.t 8) = some (.val (.int .i64 (i : Nat))) → s.eval (.t 7) = some (.val (.int .i64 (N : Nat))) → s.defers = [] →
  Run E1 f9_l1 s fun e s' => e = .exit 0 ∧ LsTo s s' r C lo (g + 1) (k + (rList (dSo (g + 1)) m st).1.length) 5 F [x0, x1] [y] (rList (dSo (g + 1)) m st).2 ps ((rList (dSo (g + 1)) m st).1.flatMap So.cells) ∧ s'.eval (.t 5) = some (.ptr r 0) ∧ s'.eval (.t 6) = some (.ptr C 0) ∧ s'.eval (.t 2) = s.eval (.t 2)
 | 0, i, k, s, st, v, ps, hi, hki, hrq, hB, hnt, hrow, hlo, hg, h0, h3, hi5, h4, hf => by
  have c1 := dec_ge (i := i) (n := N) (by omega)
  apply loop_of (rfl : f9_l1 = .loop f9_b1)
  simp -implicitDefEqProofs only [f9_b1, V, ↓reduceIte, reduceEqDiff, reduceAdd, reduceMul, reduceCtorEq, reduceEq, reduceLT, reduceLE, h0, h3, hi5, h4, c1, rList, List.length_nil, List.flatMap_nil]
  refine ⟨⟨v, ps, ?_, ?_, ?_⟩, ?_, ?_, ?_, ?_, ?_⟩
  ·exact hrow
  ·rw [List.append_nil]
  ·exact hg
  ·exact hrq
  ·exact hnt
  ·exact Nat.le_refl _
  ·exact fun x _ _ _ => rfl
  ·simp -implicitDefEqProofs only [V, ↓reduceIte, reduceEqDiff, reduceAdd, reduceMul, reduceCtorEq, reduceEq, reduceLT, reduceLE]
 | m + 1, i, k, s, st, v, ps, hi, hki, hrq, hB, hnt, hrow, hlo, hg, h0, h3, hi5, h4, hf => by
  have c1 := dec_lt (i := i) (n := N) (by omega)
  have w1 := wrap_succ (i := i) (by omega)
  obtain ⟨cap, at', gr⟩ := rq_bad hrq
  cases hb : st.bad with
  | true =>
   rw [hb] at gr
   have hrl : rList (dSo (g + 1)) (m + 1) st = ([], st) := by rw [rList, if_pos hb]
   rw [hrl]
   apply loop_of (rfl : f9_l1 = .loop f9_b1)
   simp -implicitDefEqProofs only [f9_b1, V, ↓reduceIte, reduceEqDiff, reduceAdd, reduceMul, reduceCtorEq, reduceEq, reduceLT, reduceLE, h0, h3, hi5, h4, c1, gr, q_f2, List.length_nil, List.flatMap_nil]
   refine ⟨⟨v, ps, ?_, ?_, ?_⟩, ?_, ?_, ?_, ?_, ?_⟩
   ·exact hrow
   ·rw [List.append_nil]
   ·exact hg
   ·exact hrq
   ·exact hnt
   ·exact Nat.le_refl _
   ·exact fun x _ _ _ => rfl
   ·simp -implicitDefEqProofs only [V, ↓reduceIte, reduceEqDiff, reduceAdd, reduceMul, reduceCtorEq, reduceEq, reduceLT, reduceLE]
  | false =>
   rw [hb] at gr
   have hne : ¬ st.bad = true := by rw [hb]; decide
   have hrl : rList (dSo (g + 1)) (m + 1) st = ((dSo (g + 1) st).1 :: (rList (dSo (g + 1)) m (dSo (g + 1) st).2).1, (rList (dSo (g + 1)) m (dSo (g + 1) st).2).2) := by rw [rList, if_neg hne]
   rw [hrl]
   have hF60 : F.length < 2 ^ 60 := by omega
   have hv := hrow.cells
   have rl : r < s.h.next := hrq.1
   apply loop_of (rfl : f9_l1 = .loop f9_b1)
   simp -implicitDefEqProofs only [f9_b1, V, ↓reduceIte, reduceEqDiff, reduceAdd, reduceMul, reduceCtorEq, reduceEq, reduceLT, reduceLE, h0, h3, hi5, h4, c1, gr, q_f2]
   refine callK_of (text24_call hrq hF60) ?_
   rintro v1 h2 ⟨⟨rfl, hr2, hf2⟩, hn2⟩
   have hf2 : Fd s.h h2 r := hf2
   have hn2 : h2.next = s.h.next := hn2
   have hfill : ∀ s' : St, s'.eval (.t 68) = some (.val (.string (dText st).1)) → fill s' [.val (.string ⟨#[]⟩), .val (.int .i64 0), .val (.string ⟨#[]⟩), .val (.int .i64 0), .val (.slice none 0 0)] [(0, 1, .t 68)] = some [.val (.string (dText st).1), .val (.int .i64 0), .val (.string ⟨#[]⟩), .val (.int .i64 0), .val (.slice none 0 0)] := fun s' e => fill_head e rfl
   have hst3 := store_new (h := h2) (z := zSo) (l := [.val (.string (dText st).1), .val (.int .i64 0), .val (.string ⟨#[]⟩), .val (.int .i64 0), .val (.slice none 0 0)]) (n := 5) rfl rfl
   rw [zSo] at hst3
   simp -implicitDefEqProofs only [V, ↓reduceIte, reduceEqDiff, reduceAdd, reduceMul, reduceCtorEq, reduceEq, reduceLT, reduceLE, h0, hfill, hst3]
   generalize e3 : (h2.alloc (.cells [.val (.string ⟨#[]⟩), .val (.int .i64 0), .val (.string ⟨#[]⟩), .val (.int .i64 0), .val (.slice none 0 0)] true)).put h2.next (some (.cells [.val (.string (dText st).1), .val (.int .i64 0), .val (.string ⟨#[]⟩), .val (.int .i64 0), .val (.slice none 0 0)] true)) = h5
   have hn5 : h5.next = s.h.next + 1 := by rw [← e3, p_next, a_next, hn2]
   have hB5 : h5.get h2.next = some (.cells [.val (.string (dText st).1), .val (.int .i64 0), .val (.string ⟨#[]⟩), .val (.int .i64 0), .val (.slice none 0 0)] true) := by rw [← e3, put_get]
   have hr5 : Rq h5 r F (dText st).2 := by rw [← e3]; exact hr2.alloc.other (by omega)
   have hf5 : Fd s.h h5 r := by rw [← e3]; exact (hf2.trans Fd.alloc).above (by omega)
   have hlt := dText_len st
   refine callK_of (pred27_any g (pred27_ok hF g) hr5 (hf5.nt hnt) (fun hb' => by have := hB (dText_bad hb'); omega) hF) ?_
   rintro v2 h6 ⟨qs, rfl, hqs, hrep, hr6, hf6⟩
   have hrep : ∀ q ∈ qs, Rep h6 h5.next h6.next (g + 1) q.1 q.2 := hrep
   have hf6 : Fd h5 h6 r := hf6
   have l6 := hf6.le
   have hql : qs.length = 4 := by rw [← List.length_map (f := fun x : AV × AV => x.2), hqs, Pr.len]
   have hB6 := hf6.keep (by omega) (by omega) hB5
   obtain ⟨q5, hq5⟩ : ∃ q5, q5 = ((.val (.string (dText st).1), .val (.string (dText st).1)) :: qs : List (AV × AV)) := ⟨_, rfl⟩
   have hst7 : storeH h6 4 (.ptr h2.next 1) (qs.map (·.1)) = some (h6.put h2.next (some (.cells (q5.map (·.1)) true))) := by
    rw [hq5]
    exact st_sol hB6 (by rw [List.length_map]; exact hql)
   have hl5 : q5.length = 5 := by rw [hq5, List.length_cons, hql]
   have hcf : ∀ w : AV, cfB (some (.cells [x0, x1, w, y] true)) 2 = some [w, y] := fun _ => rfl
   have hg7 : (h6.put h2.next (some (.cells (q5.map (·.1)) true))).get C = some (.cells [x0, x1, v, y] true) := by rw [get_put_old (by omega), hf6.get C (by omega) (by omega), hf5.get C (by omega) (by omega), hg]
   have hB7 : (h6.put h2.next (some (.cells (q5.map (·.1)) true))).get h2.next = some (.cells (q5.map (·.1)) true) := put_get
   have tk : takeN (some 5) (q5.map (·.1)) = some (.agg (q5.map (·.1))) := takeN_full (by rw [List.length_map, hl5])
   have hfill2 : ∀ s' : St, s'.eval (.t 74) = some (.agg (q5.map (·.1))) → fill s' [.val (.string ⟨#[]⟩), .val (.int .i64 0), .val (.string ⟨#[]⟩), .val (.int .i64 0), .val (.slice none 0 0)] [(0, 5, .t 74)] = some (q5.map (·.1)) := fun s' hs' => fill_all hs' rfl (by rw [List.length_map]; exact hl5) rfl
   simp -implicitDefEqProofs only [V, ↓reduceIte, reduceEqDiff, reduceAdd, reduceMul, reduceCtorEq, reduceEq, reduceLT, reduceLE, h0, h3, hst7, hg7, hcf, hB7, tk, hfill2]
   have hrep5 : ∀ q ∈ q5, Rep (h6.put h2.next (some (.cells (q5.map (·.1)) true))) s.h.next h6.next (g + 1) q.1 q.2 := fun q hq => by
    rw [hq5] at hq
    rcases List.mem_cons.1 hq with rfl | hq
    ·exact Rep.leaf (Leaf.val _)
    ·exact rep_same (by omega) (Nat.le_refl _) (fun x x1 x2 => by rw [get_put_old (by omega)]) (hrep q hq)
   have fr7 : ∀ x, x < s.h.next → x ≠ r → (h6.put h2.next (some (.cells (q5.map (·.1)) true))).get x = s.h.get x := fun x x1 x2 => by rw [get_put_old (by omega), hf6.get x (by omega) x2, hf5.get x x1 x2]
   have hr7 : Rq (h6.put h2.next (some (.cells (q5.map (·.1)) true))) r F (dSo (g + 1) st).2 := hr6.other (by omega)
   have hnt7 : NoTag (h6.put h2.next (some (.cells (q5.map (·.1)) true))) := NoTag.put (hf6.nt (hf5.nt hnt))
   have hn7 : (h6.put h2.next (some (.cells (q5.map (·.1)) true))).next = h6.next := p_next
   generalize h6.put h2.next (some (.cells (q5.map (·.1)) true)) = h7 at *
   have hnew : (h7.alloc (.cells (q5.map (·.1)) true)).get h7.next = some (.cells (q5.map (·.1)) true) := box_get
   have frame : ∀ x, lo ≤ x → x < s.h.next → (h7.alloc (.cells (q5.map (·.1)) true)).get x = s.h.get x := fun x x1 x2 => by rw [get_alloc_old (by omega), fr7 x x2 (by omega)]
   rw [app_rows (lo := lo) (n := g + 1) (k := k) (c := h7.next) (h1 := s.h) (v := v) (ps := ps) (qs := q5) hrow frame hnew hl5 (okLen_of (by omega) (by decide)) ?_ ?_]
   ·obtain ⟨p1, p2, p3⟩ := pushR_ok (h := h7.alloc (.cells (q5.map (·.1)) true)) hrow hlo (by rw [a_next]; omega) frame hl5 fun q hq => rep_same (Nat.le_refl _) (by rw [a_next]; omega) (fun x x1 x2 => get_alloc_old (by omega)) (hrep5 q hq)
    rw [a_next] at p1
    have hnt8 := pushR_nt (v := v) (cells := q5.map (·.1)) (hnt7.alloc (cs := q5.map (·.1)) (rw := true))
    simp -implicitDefEqProofs only [V, ↓reduceIte, reduceEqDiff, reduceAdd, reduceMul, reduceCtorEq, reduceEq, reduceLT, reduceLE]
    generalize pushR (h7.alloc (.cells (q5.map (·.1)) true)) v (q5.map (·.1)) = h8 at *
    have hg8 : h8.get C = some (.cells [x0, x1, v, y] true) := by rw [p3 C hC, get_alloc_old (by omega), hg7]
    have hst9 := st_at (i := 2) (x := .own (h7.next + 1) 0 (k + 1) 5 none) hg8 (by simp)
    simp only [List.set_cons_succ, List.set_cons_zero] at hst9
    simp -implicitDefEqProofs only [V, ↓reduceIte, reduceEqDiff, reduceAdd, reduceMul, reduceCtorEq, reduceEq, reduceLT, reduceLE, h3, hst9, hi5, w1]
    refine (f9_l1_run (g := g) (x0 := x0) (x1 := x1) (y := y) hF hN hC hr hrC m (i + 1) (k + 1) _ (dSo (g + 1) st).2 (.own (h7.next + 1) 0 (k + 1) 5 none) (ps ++ q5) (by omega) (by omega) ?_ ?_ ?_ ?_ ?_ ?_ ?_ ?_ ?_ ?_ ?_).mono ?_
    ·simp -implicitDefEqProofs only [V, ↓reduceIte, reduceEqDiff, reduceAdd, reduceMul, reduceCtorEq, reduceEq, reduceLT, reduceLE]
     refine Rq.other ?_ hrC
     obtain ⟨z1, z2, z3, z4, z5⟩ := hr7
     exact ⟨by omega, z2, z3, by rw [p3 r hr, get_alloc_old (by omega), z4], z5⟩
    ·exact fun _ => Nat.lt_of_le_of_lt (dSo_len (g + 1) st) (hB hb)
    ·simp -implicitDefEqProofs only [V, ↓reduceIte, reduceEqDiff, reduceAdd, reduceMul, reduceCtorEq, reduceEq, reduceLT, reduceLE]
     exact NoTag.put hnt8
    ·simp -implicitDefEqProofs only [V, ↓reduceIte, reduceEqDiff, reduceAdd, reduceMul, reduceCtorEq, reduceEq, reduceLT, reduceLE]
     exact p2.to (Nat.le_refl _) fun x x1 x2 => by rw [get_put_old (by omega)]
    ·simp -implicitDefEqProofs only [V, ↓reduceIte, reduceEqDiff, reduceAdd, reduceMul, reduceCtorEq, reduceEq, reduceLT, reduceLE]
     omega
    ·first
      | (simp -implicitDefEqProofs only [V, ↓reduceIte, reduceEqDiff, reduceAdd, reduceMul, reduceCtorEq, reduceEq, reduceLT, reduceLE]; done)
      | (simp -implicitDefEqProofs only [V, ↓reduceIte, reduceEqDiff, reduceAdd, reduceMul, reduceCtorEq, reduceEq, reduceLT, reduceLE]; exact put_get)
    ·simp -implicitDefEqProofs only [V, ↓reduceIte, reduceEqDiff, reduceAdd, reduceMul, reduceCtorEq, reduceEq, reduceLT, reduceLE, h0]
    ·simp -implicitDefEqProofs only [V, ↓reduceIte, reduceEqDiff, reduceAdd, reduceMul, reduceCtorEq, reduceEq, reduceLT, reduceLE, h3]
    ·simp -implicitDefEqProofs only [V, ↓reduceIte, reduceEqDiff, reduceAdd, reduceMul, reduceCtorEq, reduceEq, reduceLT, reduceLE]
    ·simp -implicitDefEqProofs only [V, ↓reduceIte, reduceEqDiff, reduceAdd, reduceMul, reduceCtorEq, reduceEq, reduceLT, reduceLE, h4]
    ·simp -implicitDefEqProofs only [V, ↓reduceIte, reduceEqDiff, reduceAdd, reduceMul, reduceCtorEq, reduceEq, reduceLT, reduceLE, hf]
    rintro e s2 ⟨rfl, ⟨⟨v2, ps2, d1, d2, d3⟩, e1, e2, e3', e4, e5⟩, f0, f3, f2⟩
    simp -implicitDefEqProofs only [V, ↓reduceIte, reduceEqDiff, reduceAdd, reduceMul, reduceCtorEq, reduceEq, reduceLT, reduceLE] at e3' e4 e5 f2
    refine ⟨rfl, ⟨⟨v2, ps2, ?_, ?_, d3⟩, e1, e2, ?_, ?_, ?_⟩, f0, f3, f2⟩
    ·rw [List.length_cons, show k + ((rList (dSo (g + 1)) m (dSo (g + 1) st).2).1.length + 1) = k + 1 + (rList (dSo (g + 1)) m (dSo (g + 1) st).2).1.length by omega]
     exact d1
    ·rw [d2, List.map_append, List.flatMap_cons, List.append_assoc, hq5, List.map_cons, hqs]
     rfl
    ·omega
    ·intro x x1 x2 x3
     rw [e4 x x1 x2 x3, if_neg x3, p3 x x1, get_alloc_old (by omega), fr7 x (by omega) x2]
    ·rw [e5]
   ·simp -implicitDefEqProofs only [V, ↓reduceIte, reduceEqDiff, reduceAdd, reduceMul, reduceCtorEq, reduceEq, reduceLT, reduceLE]
   ·simp -implicitDefEqProofs only [V, ↓reduceIte, reduceEqDiff, reduceAdd, reduceMul, reduceCtorEq, reduceEq, reduceLT, reduceLE, hn7]
end Go.Proofs.YtijpnlmmaoecgaaGreatDoor

namespace Go.Proofs.YtijpnlmmaoecgaaGreatDoor
open Go Go.AM
def refCells (f : Nat) (b : List UInt8) : List AV := match refCe f b with
 | some c => c.cells
 | none => zCe
def refErr (f : Nat) (b : List UInt8) : Int := match refCe f b with
 | some _ => 0
 | none => 6
def RefTo (f : Nat) (b : List UInt8) (v : AV) (h : AH) : Prop := ∃ u, v = .tup [u, .val (.int .i64 (refErr f b))] ∧ ∃ n, n < 2 ^ 29 ∧ Rep h 0 h.next n u (.agg (refCells f b))
theorem ref_short {f : Nat} {b : List UInt8} (h : headOk b = false) : refCells f b = zCe ∧ refErr f b = 6 := by
 have : refCe f b = none := by rw [refCe, if_neg (by rw [h]; decide)]
 simp only [refCells, refErr, this, and_self]
theorem ref_head {f : Nat} {b : List UInt8} {nl : Option (Option Addr × Nat)} {cap : Option Nat} (hb : headOk b = false) :
  ∃ v h', RefTo f b v h' ∧ Ev fun n => enterA E1 (exec E1 n) 9 [kidsA (bytesA b) b.length nl cap] .empty = some (v, h') := by
 refine enter1 _ f9_ok fun s hs hh hd hrd => ?_
 apply wp_run
 have h0 := hs 0 _ rfl
 obtain ⟨d1, d2⟩ := ref_short (f := f) hb
 have fin : ∀ h : AH, RefTo f b (.tup [.agg zCe, .val (.int .i64 6)]) h := fun h => ⟨_, by rw [d2], 1, by decide, by rw [d1]; exact zCe_rep⟩
 have hst := st_all (h := AH.empty.alloc (.cells zCe true)) (b := 0) (n := 4) (cs := zCe) (l := zCe) (by simp only [AH.get_alloc, e_next]; rfl) rfl rfl
 have hfill : ∀ s' : St, fill s' zCe [] = some zCe := fun s' => rfl
 have hg : ((AH.empty.alloc (.cells zCe true)).put 0 (some (.cells zCe true))).get 0 = some (.cells zCe true) := put_get
 have tk : takeN (some 4) zCe = some (.agg zCe) := rfl
 simp only [zCe] at hst hg tk hfill
 by_cases hlen : b.length < 7
 ·have c1 : decide (((b.length : Nat) : Int) < 7) = true := by simp; omega
  simp -implicitDefEqProofs only [f9_fn, f9, V, ↓reduceIte, reduceEqDiff, reduceAdd, reduceMul, reduceCtorEq, reduceEq, reduceLT, reduceLE, h0, hh, kidsA_len, c1, hfill, hst, hg, tk, hd]
  exact ⟨_, rfl, fin _⟩
 ·have c1 : decide (((b.length : Nat) : Int) < 7) = false := by simp; omega
  match b, hlen with
  | x :: y :: z :: r, hlen =>
   have hr4 : 4 ≤ r.length := by simp only [List.length_cons] at hlen; omega
   have k0 := bytes_kid (l := x :: y :: z :: r) (i := 0) (nl := nl) (cap := cap) (c := x) (r := y :: z :: r) rfl
   have k1 := bytes_kid (l := x :: y :: z :: r) (i := 1) (nl := nl) (cap := cap) (c := y) (r := z :: r) rfl
   have k2 := bytes_kid (l := x :: y :: z :: r) (i := 2) (nl := nl) (cap := cap) (c := z) (r := r) rfl
   simp only [headOk, decide_eq_true hr4, Bool.true_and] at hb
   by_cases x1 : x.toNat = 69
   ·have d1 : decide (((x.toNat : Nat) : Int) = 69) = true := by simp; omega
    by_cases y1 : y.toNat = 67
    ·have d2 : decide (((y.toNat : Nat) : Int) = 67) = true := by simp; omega
     have z1 : z.toNat ≠ 1 := fun e => by simp [x1, y1, e] at hb
     have d3 : decide (((z.toNat : Nat) : Int) = 1) = false := by simp; omega
     simp -implicitDefEqProofs only [f9_fn, f9, V, ↓reduceIte, reduceEqDiff, reduceAdd, reduceMul, reduceCtorEq, reduceEq, reduceLT, reduceLE, h0, hh, kidsA_len, c1, k0, k1, k2, d1, d2, d3, hfill, hst, hg, tk, hd]
     exact ⟨_, rfl, fin _⟩
    ·have d2 : decide (((y.toNat : Nat) : Int) = 67) = false := by simp; omega
     simp -implicitDefEqProofs only [f9_fn, f9, V, ↓reduceIte, reduceEqDiff, reduceAdd, reduceMul, reduceCtorEq, reduceEq, reduceLT, reduceLE, h0, hh, kidsA_len, c1, k0, k1, d1, d2, hfill, hst, hg, tk, hd]
     exact ⟨_, rfl, fin _⟩
   ·have d1 : decide (((x.toNat : Nat) : Int) = 69) = false := by simp; omega
    simp -implicitDefEqProofs only [f9_fn, f9, V, ↓reduceIte, reduceEqDiff, reduceAdd, reduceMul, reduceCtorEq, reduceEq, reduceLT, reduceLE, h0, hh, kidsA_len, c1, k0, d1, hfill, hst, hg, tk, hd]
    exact ⟨_, rfl, fin _⟩
set_option maxHeartbeats 4000000 in
theorem ref_body {g : Nat} {b : List UInt8} {nl : Option (Option Addr × Nat)} {cap : Option Nat} (hb : headOk b = true) (hg : b.length ≤ g + 1) (hg2 : g + 1 ≤ 2 ^ 28) (hlb : b.length ≤ 99999) :
  ∃ v h', RefTo (g + 1) b v h' ∧ Ev fun n => enterA E1 (exec E1 n) 9 [kidsA (bytesA b) b.length nl cap] .empty = some (v, h') := by
 refine enter1 _ f9_ok fun s hs hh hd hrd => ?_
 apply wp_run
 have h0 := hs 0 _ rfl
 have hb7 : 7 ≤ b.length := by
  match b, hb with
  | x :: y :: z :: r, hb =>
   simp only [headOk, Bool.and_eq_true, decide_eq_true_eq] at hb
   simp only [List.length_cons]
   omega
 have hk : kidsA (bytesA b) b.length nl cap = .imm (bytesA b) b.length cap := by
  have : Nat.beq b.length 0 = false := by
   cases hz : Nat.beq b.length 0 with
   | false => rfl
   | true =>
    have := Nat.eq_of_beq_eq_true hz
    omega
  simp only [kidsA, this, Bool.and_false, cond_false]
 rw [hk] at h0
 have hlenV : lenV (.imm (bytesA b) b.length cap) = some (.val (.int .i64 (b.length : Nat))) := rfl
 have c1 : decide (((b.length : Nat) : Int) < 7) = false := by simp; omega
 have hsp := head_split hb
 obtain ⟨x, y, z, r, rfl, d1, d2, d3⟩ : ∃ x y z r, b = x :: y :: z :: r ∧ decide (((x.toNat : Nat) : Int) = 69) = true ∧ decide (((y.toNat : Nat) : Int) = 67) = true ∧ decide (((z.toNat : Nat) : Int) = 1) = true := by
  match b, hb with
  | x :: y :: z :: r, hb =>
   simp only [headOk, Bool.and_eq_true, decide_eq_true_eq, beq_iff_eq] at hb
   exact ⟨x, y, z, r, rfl, by simp; omega, by simp; omega, by simp; omega⟩
 have k0 := bytes_at (l := x :: y :: z :: r) (i := 0) (cap := cap) (c := x) (r := y :: z :: r) rfl
 have k1 := bytes_at (l := x :: y :: z :: r) (i := 1) (cap := cap) (c := y) (r := z :: r) rfl
 have k2 := bytes_at (l := x :: y :: z :: r) (i := 2) (cap := cap) (c := z) (r := r) rfl
 generalize x :: y :: z :: r = b at *
 obtain ⟨F, hFe⟩ : ∃ F, b.take (b.length - 4) = F := ⟨_, rfl⟩
 have lF : F.length = b.length - 4 := by rw [← hFe, List.length_take]; omega
 obtain ⟨cap', hsl⟩ := slice_to (l := b) (i := b.length - 4) (cap := cap) (by omega)
 rw [hFe] at hsl hsp
 have hmid : midOf b = F.drop 3 := by rw [hsp]; rfl
 have hnil : F ≠ [] := by
  intro e
  rw [e] at lF
  simp only [List.length_nil] at lF
  omega
 have w4 : IntKind.i64.wrap (((b.length : Nat) : Int) - 4) = ((b.length - 4 : Nat) : Int) := by
  rw [show ((b.length : Nat) : Int) - 4 = ((b.length - 4 : Nat) : Int) by omega]
  exact wrap_in (by omega)
 have hf0 : ∀ s' : St, fill s' [] [] = some [] := fun _ => rfl
 simp -implicitDefEqProofs only [f9_fn, f9, V, ↓reduceIte, reduceEqDiff, reduceAdd, reduceMul, reduceCtorEq, reduceEq, reduceLT, reduceLE, h0, hh, hlenV, c1, k0, k1, k2, d1, d2, d3, w4, hsl, hf0]
 refine app_bytes' (b := 1) (cap := some 0) (x := .imm (bytesA F) F.length cap') (l := []) (new := F) hnil (.inr rfl) ?_ ?_ (by simp only [List.length_nil]; omega) ?_ ?_ ?_ ?_
 ·simp -implicitDefEqProofs only [V, ↓reduceIte, reduceEqDiff, reduceAdd, reduceMul, reduceCtorEq, reduceEq, reduceLT, reduceLE]
  exact NoTag.alloc (NoTag.alloc NoTag.empty)
 ·simp -implicitDefEqProofs only [V, ↓reduceIte, reduceEqDiff, reduceAdd, reduceMul, reduceCtorEq, reduceEq, reduceLT, reduceLE]
  rfl
 ·have h1 : Nat.ble (F.length * 1) (bytesA F).length = true := Nat.ble_eq.mpr (by rw [bytesA_len]; omega)
  simp only [elemsOf, h1, cond_true]
  rw [List.take_of_length_le (by rw [bytesA_len]; omega)]
 ·simp -implicitDefEqProofs only [V, ↓reduceIte, reduceEqDiff, reduceAdd, reduceMul, reduceCtorEq, reduceEq, reduceLT, reduceLE] <;> rfl
 ·simp -implicitDefEqProofs only [V, ↓reduceIte, reduceEqDiff, reduceAdd, reduceMul, reduceCtorEq, reduceEq, reduceLT, reduceLE]
 rw [List.nil_append]
 obtain ⟨hA, eA⟩ : ∃ hA, appH ((AH.empty.alloc (.cells zCe true)).alloc (.cells [] true)) 1 (some 0) (bytesA F) = hA := ⟨_, rfl⟩
 have gA : hA.get 2 = some (.cells (bytesA F) true) := by rw [← eA]; exact appH_new (h := (AH.empty.alloc (.cells zCe true)).alloc (.cells [] true))
 have g0A : hA.get 0 = some (.cells zCe true) := by rw [← eA]; rfl
 have nA : hA.next = 3 := by rw [← eA]; rfl
 have ntA : NoTag hA := by rw [← eA]; exact NoTag.app (NoTag.alloc (NoTag.alloc NoTag.empty))
 have eA2 : appH ((AH.empty.alloc (.cells [.val (.string ⟨#[]⟩), .val (.int .i64 0), .val (.slice none 0 0), .val (.slice none 0 0)] true)).alloc (.cells [] true)) 1 (some 0) (bytesA F) = hA := eA
 simp -implicitDefEqProofs only [V, ↓reduceIte, reduceEqDiff, reduceAdd, reduceMul, reduceCtorEq, reduceEq, reduceLT, reduceLE, eA2]
 have hstz0 := fun (h : AH) (q : h.get 0 = some (.cells zCe true)) => st_all (h := h) (b := 0) (n := 4) (cs := zCe) (l := zCe) q rfl rfl
 have hfz : ∀ s' : St, fill s' zCe [] = some zCe := fun s' => rfl
 have tkz : takeN (some 4) zCe = some (.agg zCe) := rfl
 have hgz : ∀ h : AH, (h.put 0 (some (.cells zCe true))).get 0 = some (.cells zCe true) := fun h => put_get
 have noans : refCe (g + 1) b = none → ∀ h : AH, RefTo (g + 1) b (.tup [.agg zCe, .val (.int .i64 6)]) h := fun e h => ⟨.agg zCe, by simp only [refErr, e], 1, by decide, by simp only [refCells, e]; exact zCe_rep⟩
 refine (f9_seal (b := 2) (l := F) (B := b) (cap := cap) ?_ ?_ ?_ ?_ (by omega) ?_).mono ?_
 ·simp -implicitDefEqProofs only [V, ↓reduceIte, reduceEqDiff, reduceAdd, reduceMul, reduceCtorEq, reduceEq, reduceLT, reduceLE]
 ·simp -implicitDefEqProofs only [V, ↓reduceIte, reduceEqDiff, reduceAdd, reduceMul, reduceCtorEq, reduceEq, reduceLT, reduceLE]
  exact gA
 ·simp -implicitDefEqProofs only [V, ↓reduceIte, reduceEqDiff, reduceAdd, reduceMul, reduceCtorEq, reduceEq, reduceLT, reduceLE]
  omega
 ·simp -implicitDefEqProofs only [V, ↓reduceIte, reduceEqDiff, reduceAdd, reduceMul, reduceCtorEq, reduceEq, reduceLT, reduceLE]
  exact ntA
 ·simp -implicitDefEqProofs only [V, ↓reduceIte, reduceEqDiff, reduceAdd, reduceMul, reduceCtorEq, reduceEq, reduceLT, reduceLE, h0]
 rintro e s1 ⟨rfl, q1, q2, q3, q4, q5, q6, q7⟩
 simp -implicitDefEqProofs only [V, ↓reduceIte, reduceEqDiff, reduceAdd, reduceMul, reduceCtorEq, reduceEq, reduceLT, reduceLE, h0, hd] at q2 q3 q4 q5 q6 q7
 have nS : s1.h.next = 5 := by rw [q2, nA]
 have g0S : s1.h.get 0 = some (.cells zCe true) := by rw [q4 0 (by omega) (by omega), g0A]
 clear q4 q2 eA2 eA gA g0A nA ntA
 have hdec : refCe (g + 1) b = if (sealB F == b) = true then (if (dCe (g + 1) ⟨midOf b, false⟩).2.bad || !(dCe (g + 1) ⟨midOf b, false⟩).2.rest.isEmpty then none else some (dCe (g + 1) ⟨midOf b, false⟩).1) else none := by
  rw [refCe, if_pos hb, hFe]
  rfl
 by_cases he : (sealB F == b) = false
 ·have hno : refCe (g + 1) b = none := by rw [hdec, he]; rfl
  rw [he] at q1
  have hst' := hstz0 s1.h g0S
  have hg' := hgz s1.h
  simp only [zCe] at hst' hg' hfz tkz
  simp -implicitDefEqProofs only [V, ↓reduceIte, reduceEqDiff, reduceAdd, reduceMul, reduceCtorEq, reduceEq, reduceLT, reduceLE, q1, q5, q7, hst', hfz, tkz, hg']
  exact ⟨_, rfl, noans hno _⟩
 have hse : (sealB F == b) = true := by simpa using he
 rw [if_pos hse] at hdec
 rw [hse] at q1
 have hf52 : ∀ s' : St, s'.eval (.t 51) = some (.imm (bytesA F) F.length cap') → fill s' [.val (.slice none 0 0), .val (.int .i64 0), .val (.bool false)] [(0, 1, .t 51), (1, 1, .c (.val (.int .i64 3)))] = some [.imm (bytesA F) F.length cap', .val (.int .i64 3), .val (.bool false)] := fun s' e => by
  simp only [fill, e]
  rfl
 have hst1 := store_new (h := s1.h) (z := [.val (.slice none 0 0), .val (.int .i64 0), .val (.bool false)]) (l := [.imm (bytesA F) F.length cap', .val (.int .i64 3), .val (.bool false)]) (n := 3) rfl rfl
 simp -implicitDefEqProofs only [V, ↓reduceIte, reduceEqDiff, reduceAdd, reduceMul, reduceCtorEq, reduceEq, reduceLT, reduceLE, q1, q6, q7, hlenV, w4, hsl, hf52, hst1]
 generalize e1 : (s1.h.alloc (.cells [.val (.slice none 0 0), .val (.int .i64 0), .val (.bool false)] true)).put s1.h.next (some (.cells [.imm (bytesA F) F.length cap', .val (.int .i64 3), .val (.bool false)] true)) = h1
 have hn1 : h1.next = 6 := by rw [← e1, p_next, a_next, nS]
 have hA1 : h1.get 0 = some (.cells zCe true) := by rw [← e1, get_put_old (by omega), get_alloc_old (by omega), g0S]
 have hF60 : F.length < 2 ^ 60 := by omega
 have hF28 : F.length < 2 ^ 28 := by omega
 have hr1 : Rq h1 s1.h.next F ⟨midOf b, false⟩ := ⟨by omega, cap', 3, by rw [← e1, put_get]; rfl, hmid, by omega⟩
 have hnt1 : NoTag h1 := by rw [← e1]; exact NoTag.put (NoTag.alloc q3)
 clear e1 hst1 hf52
 rw [nS] at *
 have lm : (midOf b).length = b.length - 7 := by rw [hmid, List.length_drop]; omega
 generalize hst0 : (⟨midOf b, false⟩ : RS) = st at *
 have lst : st.rest.length = b.length - 7 := by rw [← hst0]; exact lm
 refine callK_of (text24_call hr1 hF60) ?_
 rintro v h2 ⟨⟨rfl, hr2, hf2⟩, hn2⟩
 have hf2 : Fd h1 h2 5 := hf2
 have hn2 : h2.next = 6 := by
  have : h2.next = h1.next := hn2
  omega
 have hA2 : h2.get 0 = some (.cells zCe true) := hf2.keep (by omega) (by omega) hA1
 have hfill : ∀ s' : St, s'.eval (.t 53) = some (.val (.string (dText st).1)) → fill s' [.val (.string ⟨#[]⟩), .val (.int .i64 0), .val (.slice none 0 0), .val (.slice none 0 0)] [(0, 1, .t 53)] = some [.val (.string (dText st).1), .val (.int .i64 0), .val (.slice none 0 0), .val (.slice none 0 0)] := fun s' e => fill_head e rfl
 have hst3 := store_new (h := h2) (z := zCe) (l := [.val (.string (dText st).1), .val (.int .i64 0), .val (.slice none 0 0), .val (.slice none 0 0)]) (n := 4) rfl rfl
 rw [zCe] at hst3
 simp -implicitDefEqProofs only [V, ↓reduceIte, reduceEqDiff, reduceAdd, reduceMul, reduceCtorEq, reduceEq, reduceLT, reduceLE, hfill, hst3]
 generalize e3 : (h2.alloc (.cells [.val (.string ⟨#[]⟩), .val (.int .i64 0), .val (.slice none 0 0), .val (.slice none 0 0)] true)).put h2.next (some (.cells [.val (.string (dText st).1), .val (.int .i64 0), .val (.slice none 0 0), .val (.slice none 0 0)] true)) = h3
 have hn3 : h3.next = 7 := by rw [← e3, p_next, a_next, hn2]
 have hB3 : h3.get h2.next = some (.cells [.val (.string (dText st).1), .val (.int .i64 0), .val (.slice none 0 0), .val (.slice none 0 0)] true) := by rw [← e3, put_get]
 have hA3 : h3.get 0 = some (.cells zCe true) := by rw [← e3, get_put_old (by omega), get_alloc_old (by omega), hA2]
 have hr3 : Rq h3 5 F (dText st).2 := by rw [← e3]; exact hr2.alloc.other (by omega)
 have hnt3 : NoTag h3 := by rw [← e3]; exact NoTag.put (NoTag.alloc (hf2.nt hnt1))
 clear e3 hst3 hfill
 have len3 := dText_len st
 refine callK_of (number25_call hr3 hF60) ?_
 rintro v h4 ⟨⟨rfl, hr4, hf4⟩, hn4⟩
 have hf4 : Fd h3 h4 5 := hf4
 have hn4 : h4.next = h3.next := hn4
 have hB4 := hf4.keep (by omega) (by omega) hB3
 have hA4 := hf4.keep (by omega) (by omega) hA3
 have hst5 := st_at (i := 1) (x := .val (.int .i64 (dNum (dText st).2).1)) hB4 (by simp)
 simp only [List.set_cons_succ, List.set_cons_zero] at hst5
 simp -implicitDefEqProofs only [V, ↓reduceIte, reduceEqDiff, reduceAdd, reduceMul, reduceCtorEq, reduceEq, reduceLT, reduceLE, hst5]
 generalize e5 : h4.put h2.next (some (.cells [.val (.string (dText st).1), .val (.int .i64 (dNum (dText st).2).1), .val (.slice none 0 0), .val (.slice none 0 0)] true)) = h5
 have hn5 : h5.next = 7 := by rw [← e5, p_next]; omega
 have hB5 : h5.get h2.next = some (.cells [.val (.string (dText st).1), .val (.int .i64 (dNum (dText st).2).1), .val (.slice none 0 0), .val (.slice none 0 0)] true) := by rw [← e5, put_get]
 have hA5 : h5.get 0 = some (.cells zCe true) := by rw [← e5, get_put_old (by omega), hA4]
 have hr5 : Rq h5 5 F (dNum (dText st).2).2 := by rw [← e5]; exact hr4.other (by omega)
 have hnt5 : NoTag h5 := by rw [← e5]; exact NoTag.put (hf4.nt hnt3)
 clear e5 hst5
 have len5 := dNum_len (dText st).2
 refine callK_of (count26_call hr5 hF60) ?_
 rintro v h6 ⟨⟨rfl, hr6, hf6⟩, hn6⟩
 have hf6 : Fd h5 h6 5 := hf6
 have hn6 : h6.next = h5.next := hn6
 have hB6 := hf6.keep (by omega) (by omega) hB5
 have hA6 := hf6.keep (by omega) (by omega) hA5
 have hcl := dCount_le (dNum (dText st).2).2
 have hcl2 := hr6.len
 rw [hn2] at *
 simp -implicitDefEqProofs only [V, ↓reduceIte, reduceEqDiff, reduceAdd, reduceMul, reduceCtorEq, reduceEq, reduceLT, reduceLE]
 refine (f9_l1_run (g := g) (r := 5) (C := 6) (lo := 7) (N := (dCount (dNum (dText st).2).2).1) (F := F) (x0 := .val (.string (dText st).1)) (x1 := .val (.int .i64 (dNum (dText st).2).1)) (y := .val (.slice none 0 0)) hF28 (by omega) (by omega) (by omega) (by omega)
  (dCount (dNum (dText st).2).2).1 0 0 _ (dCount (dNum (dText st).2).2).2 (.val (.slice none 0 0)) [] (by omega) (Nat.le_refl _) ?_ ?_ ?_ ?_ ?_ ?_ ?_ ?_ ?_ ?_ ?_).mono ?_
 ·simp -implicitDefEqProofs only [V, ↓reduceIte, reduceEqDiff, reduceAdd, reduceMul, reduceCtorEq, reduceEq, reduceLT, reduceLE]
  exact hr6
 ·intro hb
  omega
 ·simp -implicitDefEqProofs only [V, ↓reduceIte, reduceEqDiff, reduceAdd, reduceMul, reduceCtorEq, reduceEq, reduceLT, reduceLE]
  exact hf6.nt hnt5
 ·simp -implicitDefEqProofs only [V, ↓reduceIte, reduceEqDiff, reduceAdd, reduceMul, reduceCtorEq, reduceEq, reduceLT, reduceLE]
  exact .nil
 ·simp -implicitDefEqProofs only [V, ↓reduceIte, reduceEqDiff, reduceAdd, reduceMul, reduceCtorEq, reduceEq, reduceLT, reduceLE]
  omega
 ·simp -implicitDefEqProofs only [V, ↓reduceIte, reduceEqDiff, reduceAdd, reduceMul, reduceCtorEq, reduceEq, reduceLT, reduceLE]
  exact hB6
 ·simp -implicitDefEqProofs only [V, ↓reduceIte, reduceEqDiff, reduceAdd, reduceMul, reduceCtorEq, reduceEq, reduceLT, reduceLE]
 ·simp -implicitDefEqProofs only [V, ↓reduceIte, reduceEqDiff, reduceAdd, reduceMul, reduceCtorEq, reduceEq, reduceLT, reduceLE]
 ·simp -implicitDefEqProofs only [V, ↓reduceIte, reduceEqDiff, reduceAdd, reduceMul, reduceCtorEq, reduceEq, reduceLT, reduceLE] <;> rfl
 ·simp -implicitDefEqProofs only [V, ↓reduceIte, reduceEqDiff, reduceAdd, reduceMul, reduceCtorEq, reduceEq, reduceLT, reduceLE]
 ·simp -implicitDefEqProofs only [V, ↓reduceIte, reduceEqDiff, reduceAdd, reduceMul, reduceCtorEq, reduceEq, reduceLT, reduceLE, q5]
 rintro e s9 ⟨rfl, ⟨⟨w, ps, a1, a2, a3⟩, b1, b2, b3, b4, b5⟩, k5, k6, k2'⟩
 simp -implicitDefEqProofs only [V, ↓reduceIte, reduceEqDiff, reduceAdd, reduceMul, reduceCtorEq, reduceEq, reduceLT, reduceLE, q5, q7] at b3 b4 b5 k2'
 have hbeq : Nat.beq 0 0 = true := rfl
 have hbeq2 : Nat.beq 2 2 = true := rfl
 have hA9 : s9.h.get 0 = some (.cells zCe true) := by rw [b4 _ (by omega) (by omega) (by omega), hA6]
 have a3 : s9.h.get 6 = some (.cells [.val (.string (dText st).1), .val (.int .i64 (dNum (dText st).2).1), w, .val (.slice none 0 0)] true) := a3
 rw [Nat.zero_add] at a1
 have hps : ps.map (·.2) = (dRow (dSo (g + 1)) (dNum (dText st).2).2).1.flatMap So.cells := a2
 have b1 : Rq s9.h 5 F (dRow (dSo (g + 1)) (dNum (dText st).2).2).2 := b1
 have a1 : RowR s9.h 7 (g + 1) (dRow (dSo (g + 1)) (dNum (dText st).2).2).1.length 5 w ps := a1
 have hwi : idsL [.val (.string (dText st).1), .val (.int .i64 (dNum (dText st).2).1), w] = ids w := by simp only [idsL, ids, List.nil_append, List.append_nil]
 simp -implicitDefEqProofs only [V, ↓reduceIte, reduceEqDiff, reduceAdd, reduceMul, reduceCtorEq, reduceEq, reduceLT, reduceLE, hbeq, k5]
 refine callK_of (count26_call b1 hF60) ?_
 rintro v h10 ⟨⟨rfl, hr10, hf10⟩, hn10⟩
 have hf10 : Fd s9.h h10 5 := hf10
 have hn10 : h10.next = s9.h.next := hn10
 have b3 : 7 ≤ s9.h.next := by omega
 have hB10 := hf10.keep (by omega) (by omega) a3
 have hA10 := hf10.keep (by omega) (by omega) hA9
 have hcl' := dCount_le (dRow (dSo (g + 1)) (dNum (dText st).2).2).2
 have hcl2' := hr10.len
 have hwb : below h10.next (idsL [.val (.string (dText st).1), .val (.int .i64 (dNum (dText st).2).1), w]) = true := by
  rw [hwi]
  exact below_le a1.at.2.2 (by omega)
 simp -implicitDefEqProofs only [V, ↓reduceIte, reduceEqDiff, reduceAdd, reduceMul, reduceCtorEq, reduceEq, reduceLT, reduceLE, k5]
 refine (f9_l3_run (f := dPf (g + 1)) (cs := Pf.cells) (B := g + 1) (n := g + 1 + 2) (r := 5) (C := 6) (lo := h10.next) (N := (dCount (dRow (dSo (g + 1)) (dNum (dText st).2).2).2).1) (F := F) (X := [.val (.string (dText st).1), .val (.int .i64 (dNum (dText st).2).1), w]) (Y := []) (proof28_ok hF28 (g + 1)) Pf.len (dPf_len (g + 1)) (by omega) (by omega) (by omega) (by omega) rfl hwb rfl
  (dCount (dRow (dSo (g + 1)) (dNum (dText st).2).2).2).1 0 0 _ (dCount (dRow (dSo (g + 1)) (dNum (dText st).2).2).2).2 (.val (.slice none 0 0)) [] (by omega) (Nat.le_refl _) ?_ ?_ ?_ ?_ ?_ ?_ ?_ ?_ ?_ ?_ ?_).mono ?_
 ·simp -implicitDefEqProofs only [V, ↓reduceIte, reduceEqDiff, reduceAdd, reduceMul, reduceCtorEq, reduceEq, reduceLT, reduceLE]
  exact hr10
 ·intro hb
  have := dRow_len (dSo_len (g + 1)) (dNum (dText st).2).2
  omega
 ·simp -implicitDefEqProofs only [V, ↓reduceIte, reduceEqDiff, reduceAdd, reduceMul, reduceCtorEq, reduceEq, reduceLT, reduceLE]
  exact hf10.nt b2
 ·simp -implicitDefEqProofs only [V, ↓reduceIte, reduceEqDiff, reduceAdd, reduceMul, reduceCtorEq, reduceEq, reduceLT, reduceLE]
  exact .nil
 ·simp -implicitDefEqProofs only [V, ↓reduceIte, reduceEqDiff, reduceAdd, reduceMul, reduceCtorEq, reduceEq, reduceLT, reduceLE]
  exact Nat.le_refl _
 ·simp -implicitDefEqProofs only [V, ↓reduceIte, reduceEqDiff, reduceAdd, reduceMul, reduceCtorEq, reduceEq, reduceLT, reduceLE]
  exact hB10
 ·simp -implicitDefEqProofs only [V, ↓reduceIte, reduceEqDiff, reduceAdd, reduceMul, reduceCtorEq, reduceEq, reduceLT, reduceLE, k5]
 ·simp -implicitDefEqProofs only [V, ↓reduceIte, reduceEqDiff, reduceAdd, reduceMul, reduceCtorEq, reduceEq, reduceLT, reduceLE, k6]
 ·simp -implicitDefEqProofs only [V, ↓reduceIte, reduceEqDiff, reduceAdd, reduceMul, reduceCtorEq, reduceEq, reduceLT, reduceLE] <;> rfl
 ·simp -implicitDefEqProofs only [V, ↓reduceIte, reduceEqDiff, reduceAdd, reduceMul, reduceCtorEq, reduceEq, reduceLT, reduceLE]
 ·simp -implicitDefEqProofs only [V, ↓reduceIte, reduceEqDiff, reduceAdd, reduceMul, reduceCtorEq, reduceEq, reduceLT, reduceLE, b5]
 rintro e s11 ⟨rfl, ⟨⟨w', qs, d1', d2', d3'⟩, e1, e2, e3, e4, e5⟩, l5, l6, l2⟩
 simp -implicitDefEqProofs only [V, ↓reduceIte, reduceEqDiff, reduceAdd, reduceMul, reduceCtorEq, reduceEq, reduceLT, reduceLE, k2', b5] at e3 e4 e5 l2
 have hA11 : s11.h.get 0 = some (.cells zCe true) := by rw [e4 _ (by omega) (by omega) (by omega), hA10]
 have d3' : s11.h.get 6 = some (.cells [.val (.string (dText st).1), .val (.int .i64 (dNum (dText st).2).1), w, w'] true) := d3'
 rw [Nat.zero_add] at d1'
 have d1' : RowR s11.h h10.next (g + 1 + 2) (dRow (dPf (g + 1)) (dRow (dSo (g + 1)) (dNum (dText st).2).2).2).1.length 4 w' qs := d1'
 have hqs : qs.map (·.2) = (dRow (dPf (g + 1)) (dRow (dSo (g + 1)) (dNum (dText st).2).2).2).1.flatMap Pf.cells := d2'
 have e1 : Rq s11.h 5 F (dCe (g + 1) st).2 := e1
 have hrep : Rep s11.h 3 s11.h.next (g + 5) (.agg [.val (.string (dText st).1), .val (.int .i64 (dNum (dText st).2).1), w, w']) (.agg (dCe (g + 1) st).1.cells) := by
  have hv6 : Rep s11.h 3 s11.h.next (g + 4) w (dCe (g + 1) st).1.ssA := by
   have e : kidsA (ps.map (·.2)) (dRow (dSo (g + 1)) (dNum (dText st).2).2).1.length nilRow none = (dCe (g + 1) st).1.ssA := by rw [hps]; rfl
   rw [← e]
   refine Rep.to (by omega) (by omega) (fun x x1 x2 cs rw q => ⟨rw, ?_⟩) (by omega) a1.rep
   rw [e4 x (by omega) (by omega) (by omega), hf10.get x x2 (by omega), q]
  have hvp : Rep s11.h 3 s11.h.next (g + 4) w' (dCe (g + 1) st).1.psA := by
   have e : kidsA (qs.map (·.2)) (dRow (dPf (g + 1)) (dRow (dSo (g + 1)) (dNum (dText st).2).2).2).1.length nilRow none = (dCe (g + 1) st).1.psA := by rw [hqs]; rfl
   rw [← e]
   exact Rep.to (by omega) (Nat.le_refl _) (fun x x1 x2 cs rw q => ⟨rw, q⟩) (by omega) d1'.rep
  refine Rep.agg (ps := [(.val (.string (dText st).1), .val (.string (dText st).1)), (.val (.int .i64 (dNum (dText st).2).1), .val (.int .i64 (dNum (dText st).2).1)), (w, (dCe (g + 1) st).1.ssA), (w', (dCe (g + 1) st).1.psA)]) fun p hp => ?_
  simp only [List.mem_cons, List.mem_nil_iff, or_false] at hp
  rcases hp with rfl | rfl | rfl | rfl
  ·exact Rep.leaf (Leaf.val _)
  ·exact Rep.leaf (Leaf.val _)
  ·exact hv6
  ·exact hvp
 generalize (dCe (g + 1) st).1 = c at *
 generalize (dCe (g + 1) st).2 = sf at *
 obtain ⟨z1, cap2, at2, z4, z5, z6⟩ := e1
 have hstz' := hstz0 s11.h hA11
 have hgz' := hgz s11.h
 simp only [zCe] at hstz' hgz' hfz tkz
 have hlF : lenV (.imm (bytesA F) F.length cap2) = some (.val (.int .i64 (F.length : Nat))) := rfl
 by_cases hbad : sf.bad = true
 ·have hno : refCe (g + 1) b = none := by rw [hdec, hbad]; rfl
  rw [hbad] at z4
  simp -implicitDefEqProofs only [V, ↓reduceIte, reduceEqDiff, reduceAdd, reduceMul, reduceCtorEq, reduceEq, reduceLT, reduceLE, hbeq2, l5, l6, l2, z4, q_f0, q_f1, q_f2, hstz', hgz', hfz, tkz, e5]
  exact ⟨_, rfl, noans hno _⟩
 have hbad : sf.bad = false := by simpa using hbad
 rw [hbad] at z4
 by_cases hat : at2 = F.length
 ·have hemp : sf.rest = [] := by rw [z5, hat, List.drop_eq_nil_of_le (Nat.le_refl _)]
  have hsome : refCe (g + 1) b = some c := by rw [hdec, hbad, hemp]; rfl
  have dq : decide (((at2 : Nat) : Int) = ((F.length : Nat) : Int)) = true := by simp; omega
  have hst' := st_all (h := s11.h) (b := 0) (n := 4) (cs := zCe) (l := [.val (.string (dText st).1), .val (.int .i64 (dNum (dText st).2).1), w, w']) hA11 rfl rfl
  have tk' : takeN (some 4) [.val (.string (dText st).1), .val (.int .i64 (dNum (dText st).2).1), w, w'] = some (.agg [.val (.string (dText st).1), .val (.int .i64 (dNum (dText st).2).1), w, w']) := rfl
  have hg' : (s11.h.put 0 (some (.cells [.val (.string (dText st).1), .val (.int .i64 (dNum (dText st).2).1), w, w'] true))).get 0 = some (.cells [.val (.string (dText st).1), .val (.int .i64 (dNum (dText st).2).1), w, w'] true) := put_get
  simp -implicitDefEqProofs only [V, ↓reduceIte, reduceEqDiff, reduceAdd, reduceMul, reduceCtorEq, reduceEq, reduceLT, reduceLE, hbeq2, l5, l6, l2, z4, q_f0, q_f1, q_f2, hlF, dq, d3', tk', hst', hg', e5]
  refine ⟨_, rfl, ⟨_, by simp only [refErr, hsome]; rfl, g + 5, by omega, ?_⟩⟩
  simp only [refCells, hsome]
  refine Rep.to (by omega) (by rw [p_next]; exact Nat.le_refl _) (fun x x1 x2 cs rw q => ⟨rw, ?_⟩) (Nat.le_refl _) hrep
  rw [get_put_old (by omega), q]
 ·have hne : sf.rest.isEmpty = false := by
   cases hq : sf.rest with
   | nil =>
    rw [hq] at z5
    have := congrArg List.length z5
    rw [List.length_drop, List.length_nil] at this
    omega
   | cons _ _ => rfl
  have hno : refCe (g + 1) b = none := by rw [hdec, hne]; simp
  have dq : decide (((at2 : Nat) : Int) = ((F.length : Nat) : Int)) = false := by simp; omega
  simp -implicitDefEqProofs only [V, ↓reduceIte, reduceEqDiff, reduceAdd, reduceMul, reduceCtorEq, reduceEq, reduceLT, reduceLE, hbeq2, l5, l6, l2, z4, q_f0, q_f1, q_f2, hlF, dq, hstz', hgz', hfz, tkz, e5]
  exact ⟨_, rfl, noans hno _⟩
end Go.Proofs.YtijpnlmmaoecgaaGreatDoor
