/- A part of the proofs about certificates: YRr YCost YFit YLen YRp. -/
import Derived.Test.YtijpnlmmaoecgaaGreatDoorQW1
import Derived.Test.YtijpnlmmaoecgaaGreatDoorQR2

set_option linter.all false
open Nat (reduceEqDiff reduceAdd reduceMul)
open Int (reduceEq reduceLT reduceLE)

namespace Go.Proofs.YtijpnlmmaoecgaaGreatDoor
open Go Go.AM
theorem rText_len (s : RS) : (rText s).2.rest.length ≤ s.rest.length := by
 have := rCount_le s
 simp only [rText, List.length_drop]
 omega
theorem rList_len {α : Type} {one : RS → α × RS} (mono : ∀ st, (one st).2.rest.length ≤ st.rest.length) : ∀ (n : Nat) (s : RS), (rList one n s).2.rest.length ≤ s.rest.length
 | 0, s => Nat.le_refl _
 | n + 1, s => by
  simp only [rList]
  split
  ·exact Nat.le_refl _
  ·exact Nat.le_trans (rList_len mono n _) (mono s)
theorem rRow_len {α : Type} {one : RS → α × RS} (mono : ∀ st, (one st).2.rest.length ≤ st.rest.length) (s : RS) : (rRow one s).2.rest.length ≤ s.rest.length := Nat.le_trans (rList_len mono _ _) (rCount_le s).2
theorem rPr_len : ∀ (f : Nat) (s : RS), (rPr f s).2.rest.length ≤ s.rest.length
 | 0, s => Nat.le_refl _
 | f + 1, s => by
  simp only [rPr]
  have h1 := (rNum_len s).1
  have h2 := rText_len (rNum s).2
  have h3 := (rNum_len (rText (rNum s).2).2).1
  have h4 := rRow_len (rPr_len f) (rNum (rText (rNum s).2).2).2
  omega
theorem rBg_len (s : RS) : (rBg s).2.rest.length ≤ s.rest.length := by
 simp only [rBg]
 have h1 := (rNum_len s).1
 have h2 := rRow_len (fun s => (rNum_len s).1) (rNum s).2
 omega
theorem rPf_len : ∀ (f : Nat) (s : RS), (rPf f s).2.rest.length ≤ s.rest.length
 | 0, s => Nat.le_refl _
 | f + 1, s => by
  simp only [rPf]
  have h1 := (rNum_len s).1
  have h2 := (rNum_len (rNum s).2).1
  have h3 := rRow_len rBg_len (rNum (rNum s).2).2
  have h4 := rRow_len (rPf_len f) (rRow rBg (rNum (rNum s).2).2).2
  omega
theorem rSo_len (f : Nat) (s : RS) : (rSo f s).2.rest.length ≤ s.rest.length := by
 simp only [rSo]
 have h1 := rText_len s
 have h2 := rPr_len f (rText s).2
 omega
theorem rText_bad {s : RS} (h : (rText s).2.bad = false) : (rText s).2.rest.length < s.rest.length ∧ s.bad = false := by
 have h1 := rCount_bad (s := s) h
 have h2 := rText_len s
 simp only [rText, List.length_drop] at h2 ⊢
 exact ⟨by omega, h1.2⟩
theorem rList_bad {α : Type} {one : RS → α × RS} (mono : ∀ st, (one st).2.bad = false → st.bad = false) : ∀ (n : Nat) (s : RS), (rList one n s).2.bad = false → s.bad = false
 | 0, s, h => h
 | n + 1, s, h => by
  simp only [rList] at h
  split at h
  ·exact h
  ·exact mono s (rList_bad mono n _ h)
theorem rRow_bad {α : Type} {one : RS → α × RS} (mono : ∀ st, (one st).2.bad = false → st.bad = false) {s : RS} (h : (rRow one s).2.bad = false) : (rCount s).2.bad = false := rList_bad mono _ _ h
theorem rBg_bad (s : RS) (h : (rBg s).2.bad = false) : s.bad = false := by
 simp only [rBg] at h
 have h1 := rRow_bad (fun s h => ((rNum_len s).2 h).2) h
 exact ((rNum_len s).2 (rCount_bad h1).2).2
theorem st_at {h : AH} {b i : Nat} {cs : List AV} {x : AV} (g : h.get b = some (.cells cs true)) (hi : i < cs.length) : storeH h 1 (.ptr b i) [x] = some (h.put b (some (.cells (cs.set i x) true))) := by
 have h1 : Nat.beq [x].length 1 = true := rfl
 have h2 : Nat.ble (i + 1) cs.length = true := Nat.ble_eq.mpr (by omega)
 have h3 : putAt cs i [x] = cs.set i x := by
  rw [putAt, List.set_eq_take_append_cons_drop, if_pos hi, List.append_assoc]
  rfl
 simp only [storeH, g, h1, h2, Bool.and_self, cond_true, h3]
theorem st_all {h : AH} {b n : Nat} {cs l : List AV} (g : h.get b = some (.cells cs true)) (hc : cs.length = n) (hl : l.length = n) : storeH h n (.ptr b 0) l = some (h.put b (some (.cells l true))) := by
 have h1 : Nat.beq l.length n = true := by rw [hl]; exact Nat.beq_refl n
 have h2 : Nat.ble (0 + n) cs.length = true := Nat.ble_eq.mpr (by omega)
 have h3 : putAt cs 0 l = l := by
  simp only [putAt, List.take_zero, List.nil_append, Nat.zero_add]
  rw [List.drop_eq_nil_of_le (by omega), List.append_nil]
 simp only [storeH, g, h1, h2, Bool.and_self, cond_true, h3]
theorem fill_head {s : St} {x : Opd} {z v : AV} {zs : List AV} (hx : s.eval x = some v) (hv : v.cells = some [v]) : fill s (z :: zs) [(0, 1, x)] = some (v :: zs) := by
 have h1 : Nat.beq [v].length 1 = true := rfl
 have h2 : Nat.ble (0 + 1) (z :: zs).length = true := Nat.ble_eq.mpr (by simp)
 simp only [fill, hx, hv, h1, h2, Bool.and_self, cond_true, putAt, List.take_zero, List.nil_append, List.cons_append]
 rfl
theorem take4 {a b c d : AV} : takeN (some 4) [a, b, c, d] = some (.agg [a, b, c, d]) := rfl
theorem take2 {a b : AV} : takeN (some 2) [a, b] = some (.agg [a, b]) := rfl
theorem Fd.above {h h' : AH} {r c : Nat} {cs : List AV} {rw : Bool} (f : Fd h h' r) (hc : h.next ≤ c) : Fd h (h'.put c (some (.cells cs rw))) r :=
 ⟨f.le, fun y hy hr => by rw [get_put_old (by omega), f.get y hy hr], fun k => (f.nt k).put⟩
theorem RowR.cells {h : AH} {lo n k es : Nat} {v : AV} {ps : List (AV × AV)} (r : RowR h lo n k es v ps) : v.cells = some [v] := by
 rcases r with ⟨_, _, rfl⟩ | ⟨b, _, _, _, rfl, _⟩ <;> rfl
def OneTo {α : Type} (h : AH) (r n : Nat) (cs : α → List AV) (a : α) (st : RS) (v : AV) (h' : AH) : Prop := ∃ qs : List (AV × AV), v = .agg (qs.map (·.1)) ∧ qs.map (·.2) = cs a ∧ (∀ q ∈ qs, Rep h' h.next h'.next n q.1 q.2) ∧ Rd h' r st ∧ Fd h h' r
theorem OneOk.of {α : Type} {one : Nat} {f : RS → α × RS} {cs : α → List AV} {F n : Nat} (k : ∀ (h : AH) (r : Nat) (st : RS), Rd h r st → st.bad = false → st.rest.length < F → ∃ v h', RunCall E1 (.f one) [.ptr r 0] h v h' ∧ OneTo h r n cs (f st).1 (f st).2 v h') : OneOk one f cs F n := by
 intro h r st a b c
 obtain ⟨v, h', hr, qs, rfl, q⟩ := k h r st a b c
 exact ⟨_, h', hr, qs, rfl, q⟩
def zPr : List AV := [.val (.int .i64 0), .val (.string ⟨#[]⟩), .val (.int .i64 0), .val (.slice none 0 0)]
theorem pred_any (f : Nat) (ok : OneOk 51 (rPr f) Pr.cells f f) {h : AH} {r : Nat} {st : RS} (hr : Rd h r st) (hf : st.bad = false → st.rest.length < f + 1) (hl : st.rest.length < 2 ^ 29) :
  ∃ v h', RunCall E1 (.f 51) [.ptr r 0] h v h' ∧ OneTo h r (f + 1) Pr.cells (rPr (f + 1) st).1 (rPr (f + 1) st).2 v h' := by
 refine shared0 _ (by kernel_rfl) f51_ok fun s hs hh hd hrd => ?_
 have h0 := hs 0 _ rfl
 subst hh
 have rl := hr.1
 have hA1 : (s.h.alloc (.cells zPr true)).get s.h.next = some (.cells zPr true) := box_get
 have z : ([.val (.int .i64 0), .val (.string ⟨#[]⟩), .val (.int .i64 0), .val (.slice none 0 0)] : List AV) = zPr := rfl
 simp -implicitDefEqProofs only [f51_fn, f51, V, ↓reduceIte, reduceEqDiff, reduceAdd, reduceMul, reduceCtorEq, reduceEq, reduceLT, reduceLE, h0]
 refine callK_of (numr_call hr.alloc (by omega)) ?_
 rintro v h2 ⟨⟨rfl, hr2, hf2⟩, hn2⟩
 have hf2 : Fd (s.h.alloc (.cells zPr true)) h2 r := hf2
 have hn2 : h2.next = s.h.next + 1 := hn2
 have hA2 : h2.get s.h.next = some (.cells zPr true) := hf2.keep (by rw [a_next]; omega) (by omega) hA1
 have hfill : ∀ s' : St, s'.eval (.t 5) = some (.val (.int .i64 (rNum st).1)) → fill s' [.val (.int .i64 0), .val (.string ⟨#[]⟩), .val (.int .i64 0), .val (.slice none 0 0)] [(0, 1, .t 5)] = some [.val (.int .i64 (rNum st).1), .val (.string ⟨#[]⟩), .val (.int .i64 0), .val (.slice none 0 0)] := fun s' e => fill_head e rfl
 have hst3 := store_new (h := h2) (z := zPr) (l := [.val (.int .i64 (rNum st).1), .val (.string ⟨#[]⟩), .val (.int .i64 0), .val (.slice none 0 0)]) (n := 4) rfl rfl
 rw [zPr] at hst3
 simp -implicitDefEqProofs only [V, ↓reduceIte, reduceEqDiff, reduceAdd, reduceMul, reduceCtorEq, reduceEq, reduceLT, reduceLE, h0, hfill, hst3]
 generalize e3 : (h2.alloc (.cells [.val (.int .i64 0), .val (.string ⟨#[]⟩), .val (.int .i64 0), .val (.slice none 0 0)] true)).put h2.next (some (.cells [.val (.int .i64 (rNum st).1), .val (.string ⟨#[]⟩), .val (.int .i64 0), .val (.slice none 0 0)] true)) = h3
 have hn3 : h3.next = s.h.next + 2 := by rw [← e3, p_next, a_next, hn2]
 have hB3 : h3.get h2.next = some (.cells [.val (.int .i64 (rNum st).1), .val (.string ⟨#[]⟩), .val (.int .i64 0), .val (.slice none 0 0)] true) := by rw [← e3, put_get]
 have hA3 : h3.get s.h.next = some (.cells zPr true) := by rw [← e3, get_put_old (by omega), get_alloc_old (by omega), hA2]
 have hr3 : Rd h3 r (rNum st).2 := by rw [← e3]; exact hr2.alloc.other (by omega)
 have hf3 : Fd s.h h3 r := by rw [← e3]; exact ((Fd.alloc.trans hf2).trans Fd.alloc).above (by omega)
 refine callK_of (textr_call hr3 (Nat.lt_of_le_of_lt (rNum_len st).1 (by omega))) ?_
 rintro v h4 ⟨⟨rfl, hr4, hf4⟩, hn4⟩
 have hf4 : Fd h3 h4 r := hf4
 have hn4 : h4.next = h3.next := hn4
 have hB4 := hf4.keep (by omega) (by omega) hB3
 have hA4 := hf4.keep (by omega) (by omega) hA3
 have hst5 := st_at (i := 1) (x := .val (.string (rText (rNum st).2).1)) hB4 (by simp)
 simp only [List.set_cons_succ, List.set_cons_zero] at hst5
 simp -implicitDefEqProofs only [V, ↓reduceIte, reduceEqDiff, reduceAdd, reduceMul, reduceCtorEq, reduceEq, reduceLT, reduceLE, h0, hst5]
 generalize e5 : h4.put h2.next (some (.cells [.val (.int .i64 (rNum st).1), .val (.string (rText (rNum st).2).1), .val (.int .i64 0), .val (.slice none 0 0)] true)) = h5
 have hn5 : h5.next = s.h.next + 2 := by rw [← e5, p_next]; omega
 have hB5 : h5.get h2.next = some (.cells [.val (.int .i64 (rNum st).1), .val (.string (rText (rNum st).2).1), .val (.int .i64 0), .val (.slice none 0 0)] true) := by rw [← e5, put_get]
 have hA5 : h5.get s.h.next = some (.cells zPr true) := by rw [← e5, get_put_old (by omega), hA4]
 have hr5 : Rd h5 r (rText (rNum st).2).2 := by rw [← e5]; exact hr4.other (by omega)
 have hf5 : Fd s.h h5 r := by rw [← e5]; exact (hf3.trans hf4).above (by omega)
 have len5 : (rText (rNum st).2).2.rest.length ≤ st.rest.length := Nat.le_trans (rText_len _) (rNum_len st).1
 refine callK_of (numr_call hr5 (by omega)) ?_
 rintro v h6 ⟨⟨rfl, hr6, hf6⟩, hn6⟩
 have hf6 : Fd h5 h6 r := hf6
 have hn6 : h6.next = h5.next := hn6
 have hB6 := hf6.keep (by omega) (by omega) hB5
 have hA6 := hf6.keep (by omega) (by omega) hA5
 have hst7 := st_at (i := 2) (x := .val (.int .i64 (rNum (rText (rNum st).2).2).1)) hB6 (by simp)
 simp only [List.set_cons_succ, List.set_cons_zero] at hst7
 simp -implicitDefEqProofs only [V, ↓reduceIte, reduceEqDiff, reduceAdd, reduceMul, reduceCtorEq, reduceEq, reduceLT, reduceLE, h0, hst7]
 generalize e7 : h6.put h2.next (some (.cells [.val (.int .i64 (rNum st).1), .val (.string (rText (rNum st).2).1), .val (.int .i64 (rNum (rText (rNum st).2).2).1), .val (.slice none 0 0)] true)) = h7
 have hn7 : h7.next = s.h.next + 2 := by rw [← e7, p_next]; omega
 have hB7 : h7.get h2.next = some (.cells [.val (.int .i64 (rNum st).1), .val (.string (rText (rNum st).2).1), .val (.int .i64 (rNum (rText (rNum st).2).2).1), .val (.slice none 0 0)] true) := by rw [← e7, put_get]
 have hA7 : h7.get s.h.next = some (.cells zPr true) := by rw [← e7, get_put_old (by omega), hA6]
 have hr7 : Rd h7 r (rNum (rText (rNum st).2).2).2 := by rw [← e7]; exact hr6.other (by omega)
 have hf7 : Fd s.h h7 r := by rw [← e7]; exact (hf5.trans hf6).above (by omega)
 have len7 := (rNum_len (rText (rNum st).2).2).1
 refine callK_of (list_call74 ok Pr.len (rPr_len f) hr7 (by omega) ?_) ?_
 ·intro hb
  have b1 := rCount_bad hb
  have b2 := (rNum_len (rText (rNum st).2).2).2 b1.2
  have b3 := rText_bad b2.2
  have b4 := (rNum_len st).2 b3.2
  have := hf b4.2
  omega
 rintro v h8 ⟨ps, hrow, hps, hr8, hf8⟩
 have hrow : RowR h8 h7.next f (rRow (rPr f) (rNum (rText (rNum st).2).2).2).1.length 4 v ps := hrow
 have hf8 : Fd h7 h8 r := hf8
 have l8 := hf8.le
 have hB8 := hf8.keep (by omega) (by omega) hB7
 have hA8 := hf8.keep (by omega) (by omega) hA7
 have hv := hrow.cells
 have hst9 := st_at (i := 3) (x := v) hB8 (by simp)
 simp only [List.set_cons_succ, List.set_cons_zero] at hst9
 have hB9 : (h8.put h2.next (some (.cells [.val (.int .i64 (rNum st).1), .val (.string (rText (rNum st).2).1), .val (.int .i64 (rNum (rText (rNum st).2).2).1), v] true))).get h2.next = some (.cells [.val (.int .i64 (rNum st).1), .val (.string (rText (rNum st).2).1), .val (.int .i64 (rNum (rText (rNum st).2).2).1), v] true) := put_get
 have hA9 : (h8.put h2.next (some (.cells [.val (.int .i64 (rNum st).1), .val (.string (rText (rNum st).2).1), .val (.int .i64 (rNum (rText (rNum st).2).2).1), v] true))).get s.h.next = some (.cells zPr true) := by rw [get_put_old (by omega), hA8]
 have hst10 := st_all (n := 4) (l := [.val (.int .i64 (rNum st).1), .val (.string (rText (rNum st).2).1), .val (.int .i64 (rNum (rText (rNum st).2).2).1), v]) hA9 rfl rfl
 simp -implicitDefEqProofs only [V, ↓reduceIte, reduceEqDiff, reduceAdd, reduceMul, reduceCtorEq, reduceEq, reduceLT, reduceLE, hv, hst9, hB9, take4, hst10, hd]
 refine ⟨_, rfl, [(.val (.int .i64 (rNum st).1), .val (.int .i64 (rNum st).1)), (.val (.string (rText (rNum st).2).1), .val (.string (rText (rNum st).2).1)), (.val (.int .i64 (rNum (rText (rNum st).2).2).1), .val (.int .i64 (rNum (rText (rNum st).2).2).1)), (v, kidsA (ps.map (·.2)) (rRow (rPr f) (rNum (rText (rNum st).2).2).2).1.length nilRow none)], rfl, ?_, ?_, ?_, ?_⟩
 ·simp only [rPr, Pr.cells, Pr.cellsL_eq, hps, List.map_cons, List.map_nil]
 ·intro q hq
  simp only [List.mem_cons, List.mem_nil_iff, or_false] at hq
  rcases hq with rfl | rfl | rfl | rfl
  ·exact Rep.leaf (Leaf.val _)
  ·exact Rep.leaf (Leaf.val _)
  ·exact Rep.leaf (Leaf.val _)
  ·exact rep_same (by omega) (by rw [p_next, p_next]; omega) (fun x x1 x2 => by rw [get_put_old (by omega), get_put_old (by omega)]) hrow.rep
 ·exact (hr8.other (by omega)).other (by omega)
 ·exact ((hf7.trans hf8).above (by omega)).above (by omega)
theorem pred_ok : ∀ f, f ≤ 2 ^ 28 → OneOk 51 (rPr f) Pr.cells f f
 | 0, _ => fun h r st _ _ hl => absurd hl (Nat.not_lt_zero _)
 | f + 1, hf => OneOk.of fun h r st hr hb hl => pred_any f (pred_ok f (by omega)) hr (fun _ => hl) (by omega)
end Go.Proofs.YtijpnlmmaoecgaaGreatDoor

namespace Go.Proofs.YtijpnlmmaoecgaaGreatDoor
open Go Go.AM
theorem cost_kidsA {cs : List AV} {n : Nat} : cost (kidsA cs n nilRow none) = if n = 0 then 0 else costL cs + 1 := by
 cases n with
 | zero => rfl
 | succ n =>
  rw [if_neg (by omega)]
  rfl
theorem rList_cost {α : Type} {one : RS → α × RS} {cs : α → List AV} (h : ∀ st, costL (cs (one st).1) + (one st).2.rest.length ≤ st.rest.length) : ∀ (n : Nat) (s : RS), costL ((rList one n s).1.flatMap cs) + (rList one n s).2.rest.length ≤ s.rest.length
 | 0, s => by simp only [rList, List.flatMap_nil, costL]; omega
 | n + 1, s => by
  simp only [rList]
  split
  ·simp only [List.flatMap_nil, costL]; omega
  ·have h1 := h s
   have h2 := rList_cost h n (one s).2
   simp only [List.flatMap_cons, costL_app]
   omega
theorem rRow_cost {α : Type} {one : RS → α × RS} {cs : α → List AV} (h : ∀ st, costL (cs (one st).1) + (one st).2.rest.length ≤ st.rest.length) (s : RS) :
  cost (kidsA ((rRow one s).1.flatMap cs) (rRow one s).1.length nilRow none) + (rRow one s).2.rest.length ≤ s.rest.length := by
 have h1 := rList_cost h (rCount s).1 (rCount s).2
 have h2 := (rCount_le s).2
 rw [cost_kidsA]
 unfold rRow
 split
 ·omega
 ·rename_i hne
  cases hb : (rCount s).2.bad with
  | true =>
   have := rCount_zero hb
   rw [this] at hne
   exact absurd rfl hne
  | false =>
   have := (rCount_bad hb).1
   omega
theorem rPr_cost : ∀ (f : Nat) (s : RS), costL (rPr f s).1.cells + (rPr f s).2.rest.length ≤ s.rest.length
 | 0, s => by simp only [rPr, Pr.cells, costL, cost, Pr.cellsL_eq, List.flatMap_nil, List.length_nil, cost_kidsA, if_true]; omega
 | f + 1, s => by
  have h1 := (rNum_len s).1
  have h2 := rText_len (rNum s).2
  have h3 := (rNum_len (rText (rNum s).2).2).1
  have h4 := rRow_cost (rPr_cost f) (rNum (rText (rNum s).2).2).2
  simp only [rPr, Pr.cells, costL, Pr.cellsL_eq]
  simp only [cost, Nat.zero_add, Nat.add_zero]
  omega
theorem rBg_cost (s : RS) : costL (rBg s).1.cells + (rBg s).2.rest.length ≤ s.rest.length := by
 have h1 := (rNum_len s).1
 have h2 := rRow_cost (one := rNum) (cs := fun n => [AV.val (.int .i64 n)]) (fun st => by
  have := (rNum_len st).1
  simp only [costL, cost]
  omega) (rNum s).2
 simp only [rBg, Bg.cells, Bg.neg, Bg.dsA, intsA, costL]
 simp only [cost, Nat.zero_add, Nat.add_zero]
 omega
theorem rPf_cost : ∀ (f : Nat) (s : RS), costL (rPf f s).1.cells + (rPf f s).2.rest.length ≤ s.rest.length
 | 0, s => by simp only [rPf, Pf.cells, costL, cost, Pf.cellsL_eq, List.flatMap_nil, List.length_nil, cost_kidsA, if_true]; omega
 | f + 1, s => by
  have h1 := (rNum_len s).1
  have h2 := (rNum_len (rNum s).2).1
  have h3 := rRow_cost rBg_cost (rNum (rNum s).2).2
  have h4 := rRow_cost (rPf_cost f) (rRow rBg (rNum (rNum s).2).2).2
  simp only [rPf, Pf.cells, costL, Pf.cellsL_eq]
  simp only [cost, Nat.zero_add, Nat.add_zero]
  omega
theorem rSo_cost (f : Nat) (s : RS) : costL (rSo f s).1.cells + (rSo f s).2.rest.length ≤ s.rest.length := by
 have h1 := rText_len s
 have h2 := rPr_cost f (rText s).2
 simp only [rSo, So.cells, costL]
 simp only [cost, Nat.zero_add]
 omega
theorem rCe_cost (f : Nat) (s : RS) : cost (.agg (rCe f s).1.cells) ≤ s.rest.length := by
 have h1 := rText_len s
 have h2 := (rNum_len (rText s).2).1
 have h3 := rRow_cost (rSo_cost f) (rNum (rText s).2).2
 have h4 := rRow_cost (rPf_cost f) (rRow (rSo f) (rNum (rText s).2).2).2
 simp only [rCe, Ce.cells, Ce.ssA, Ce.psA, cost, costL]
 simp only [cost, Nat.zero_add, Nat.add_zero]
 omega
end Go.Proofs.YtijpnlmmaoecgaaGreatDoor

namespace Go.Proofs.YtijpnlmmaoecgaaGreatDoor
open Go Go.AM
theorem numR_lt : ∀ (l : List UInt8) (u sh u' : Nat) (r : List UInt8), sh % 7 = 0 → (sh ≤ 63 → u < 2 ^ sh) → numR l u sh = some (u', r) → u' < 2 ^ 64
 | [], u, sh, u', r, _, _, h => by cases h
 | c :: l, u, sh, u', r, h7, hu, h => by
  rw [numR] at h
  split at h
  ·cases h
  ·rename_i hbad
   have hc := c.toNat_lt
   have hsh : sh ≤ 63 := by omega
   have hu' := hu hsh
   have hx2 : u + c.toNat % 128 * 2 ^ sh < 2 ^ (sh + 7) := by
    have : c.toNat % 128 * 2 ^ sh ≤ 127 * 2 ^ sh := Nat.mul_le_mul_right _ (by omega)
    rw [Nat.pow_add]
    omega
   have hx3 : u + c.toNat % 128 * 2 ^ sh < 2 ^ 64 := by
    rcases Nat.lt_or_ge sh 63 with q | q
    ·exact Nat.lt_of_lt_of_le hx2 (Nat.pow_le_pow_right (by decide) (by omega))
    ·have e : sh = 63 := by omega
     subst e
     have : c.toNat % 128 ≤ 1 := by omega
     have : c.toNat % 128 * 2 ^ 63 ≤ 1 * 2 ^ 63 := Nat.mul_le_mul_right _ this
     omega
   split at h
   ·cases h
    exact hx3
   ·exact numR_lt l _ _ u' r (by omega) (fun _ => hx2) h
theorem unz_in {u : Nat} (h : u < 2 ^ 64) : in64 (unz u) := by
 unfold in64 unz
 split <;> omega
theorem rNum_in (s : RS) : in64 (rNum s).1 := by
 rw [rNum]
 cases h : numR s.rest 0 0 with
 | none => show in64 0; unfold in64; omega
 | some p =>
  obtain ⟨u, r⟩ := p
  exact unz_in (numR_lt _ _ _ _ _ (by omega) (fun _ => by decide) h)
theorem rText_size (s : RS) : (rText s).1.size ≤ s.rest.length := by
 have h1 := rCount_le s
 show ((rCount s).2.rest.take (rCount s).1).toArray.size ≤ _
 rw [List.size_toArray, List.length_take]
 omega
theorem rList_all {α : Type} {one : RS → α × RS} {P : α → Prop} {L : Nat} (mono : ∀ st, (one st).2.rest.length ≤ st.rest.length) (h : ∀ st, st.rest.length ≤ L → P (one st).1) : ∀ (n : Nat) (s : RS), s.rest.length ≤ L → (rList one n s).1.length ≤ n ∧ ∀ a ∈ (rList one n s).1, P a
 | 0, s, _ => ⟨Nat.le_refl _, fun a ha => by cases ha⟩
 | n + 1, s, hs => by
  simp only [rList]
  split
  ·exact ⟨Nat.zero_le _, fun a ha => by cases ha⟩
  ·obtain ⟨h1, h2⟩ := rList_all mono h n (one s).2 (Nat.le_trans (mono s) hs)
   refine ⟨by simp only [List.length_cons]; omega, fun a ha => ?_⟩
   rcases List.mem_cons.1 ha with rfl | ha
   ·exact h s hs
   ·exact h2 a ha
theorem rRow_all {α : Type} {one : RS → α × RS} {P : α → Prop} {L : Nat} (mono : ∀ st, (one st).2.rest.length ≤ st.rest.length) (h : ∀ st, st.rest.length ≤ L → P (one st).1) (s : RS) (hs : s.rest.length ≤ L) : (rRow one s).1.length ≤ L ∧ ∀ a ∈ (rRow one s).1, P a := by
 have h1 := rCount_le s
 obtain ⟨a, b⟩ := rList_all mono h (rCount s).1 (rCount s).2 (by omega)
 exact ⟨by unfold rRow; omega, b⟩
theorem fitPrL_of : ∀ {l : List Pr}, (∀ p ∈ l, fitPr p) → fitPrL l
 | [], _ => by simp only [fitPrL]
 | k :: r, h => by
  simp only [fitPrL]
  exact ⟨h k List.mem_cons_self, fitPrL_of fun p hp => h p (List.mem_cons_of_mem _ hp)⟩
theorem fitPfL_of : ∀ {l : List Pf}, (∀ p ∈ l, fitPf p) → fitPfL l
 | [], _ => by simp only [fitPfL]
 | k :: r, h => by
  simp only [fitPfL]
  exact ⟨h k List.mem_cons_self, fitPfL_of fun p hp => h p (List.mem_cons_of_mem _ hp)⟩
theorem in64_0 : in64 0 := by unfold in64; omega
theorem rPr_fit : ∀ (f : Nat) (s : RS), s.rest.length ≤ 2 ^ 50 → fitPr (rPr f s).1
 | 0, s, _ => by
  simp only [rPr, fitPr, fitPrL, List.length_nil]
  exact ⟨in64_0, in64_0, by decide, by decide, trivial⟩
 | f + 1, s, hs => by
  have h1 := (rNum_len s).1
  have h2 := rText_len (rNum s).2
  have h3 := (rNum_len (rText (rNum s).2).2).1
  have h4 := rText_size (rNum s).2
  obtain ⟨a, b⟩ := rRow_all (rPr_len f) (rPr_fit f) (rNum (rText (rNum s).2).2).2 (by omega)
  simp only [rPr, fitPr]
  exact ⟨rNum_in _, rNum_in _, by omega, by omega, fitPrL_of b⟩
theorem rBg_fit (s : RS) (hs : s.rest.length ≤ 2 ^ 50) : fitBg (rBg s).1 := by
 have h1 := (rNum_len s).1
 obtain ⟨a, b⟩ := rRow_all (P := in64) (L := 2 ^ 50) (fun s => (rNum_len s).1) (fun st _ => rNum_in st) (rNum s).2 (by omega)
 simp only [rBg, fitBg, Bg.ds]
 exact ⟨by omega, b⟩
theorem rPf_fit : ∀ (f : Nat) (s : RS), s.rest.length ≤ 2 ^ 50 → fitPf (rPf f s).1
 | 0, s, _ => by
  simp only [rPf, fitPf, fitPfL, List.length_nil]
  exact ⟨in64_0, in64_0, by decide, fun b hb => (by cases hb), by decide, trivial⟩
 | f + 1, s, hs => by
  have h1 := (rNum_len s).1
  have h2 := (rNum_len (rNum s).2).1
  have h3 := rRow_len rBg_len (rNum (rNum s).2).2
  obtain ⟨a, b⟩ := rRow_all rBg_len rBg_fit (rNum (rNum s).2).2 (by omega)
  obtain ⟨c, d⟩ := rRow_all (rPf_len f) (rPf_fit f) (rRow rBg (rNum (rNum s).2).2).2 (by omega)
  simp only [rPf, fitPf]
  exact ⟨rNum_in _, rNum_in _, by omega, b, by omega, fitPfL_of d⟩
theorem rSo_fit (f : Nat) (s : RS) (hs : s.rest.length ≤ 2 ^ 50) : fitSo (rSo f s).1 := by
 have h1 := rText_size s
 have h2 := rText_len s
 exact ⟨by show (rText s).1.size < _; omega, rPr_fit f _ (by omega)⟩
theorem rCe_fit (f : Nat) (s : RS) (hs : s.rest.length ≤ 2 ^ 50) : fitCe (rCe f s).1 := by
 have h0 := rText_size s
 have h1 := rText_len s
 have h2 := (rNum_len (rText s).2).1
 obtain ⟨a, b⟩ := rRow_all (rSo_len f) (rSo_fit f) (rNum (rText s).2).2 (by omega)
 have h3 := rRow_len (rSo_len f) (rNum (rText s).2).2
 obtain ⟨c, d⟩ := rRow_all (rPf_len f) (rPf_fit f) (rRow (rSo f) (rNum (rText s).2).2).2 (by omega)
 exact ⟨by show (rText s).1.size < _; omega, rNum_in _, by show (rRow _ _).1.length < _; omega, b, by show (rRow _ _).1.length < _; omega, fitPfL_of d⟩
end Go.Proofs.YtijpnlmmaoecgaaGreatDoor

namespace Go.Proofs.YtijpnlmmaoecgaaGreatDoor
open Go Go.AM
theorem numP_le : ∀ f u, (numP f u).length ≤ f
 | 0, u => by rw [numP]; exact Nat.le_refl _
 | f + 1, u => by
  rw [numP]
  split
  ·exact Nat.zero_le _
  ·have := numP_le f (u / 128)
   rw [List.length_cons]; omega
theorem encNum_le (n : Int) : (encNum n).length ≤ 10 := by
 have := numP_le 9 (zz n)
 simp only [encNum, encU, List.length_append, List.length_cons, List.length_nil]
 omega
theorem rNum_enclen {s : RS} (n : Int) (h : (rNum s).2.bad = false) : (encNum n).length + 10 * (rNum s).2.rest.length ≤ 10 * s.rest.length := by
 have := encNum_le n
 have := (rNum_len s).2 h
 omega
theorem rText_enclen {s : RS} (h : (rText s).2.bad = false) : (encText (rText s).1).length + 10 * (rText s).2.rest.length ≤ 10 * s.rest.length := by
 have h1 := encNum_le ((rText s).1.size : Nat)
 have h2 := rCount_bad (s := s) h
 have h3 := (rCount_le s).1
 have h4 : (rText s).1.data.toList.length = (rCount s).1 := by
  show ((rCount s).2.rest.take (rCount s).1).toArray.toList.length = _
  rw [List.toList_toArray, List.length_take]
  omega
 have h5 : (rText s).2.rest.length = (rCount s).2.rest.length - (rCount s).1 := by simp only [rText, List.length_drop]
 rw [encText, List.length_append, h4, h5]
 omega
theorem rList_enclen {α : Type} {one : RS → α × RS} {enc : α → List UInt8} {F : Nat} (mono : ∀ st, (one st).2.rest.length ≤ st.rest.length) (mb : ∀ st, (one st).2.bad = false → st.bad = false) (h : ∀ st, st.rest.length < F → (one st).2.bad = false → (enc (one st).1).length + 10 * (one st).2.rest.length ≤ 10 * st.rest.length) :
  ∀ (n : Nat) (s : RS), s.rest.length < F → (rList one n s).2.bad = false → ((rList one n s).1.flatMap enc).length + 10 * (rList one n s).2.rest.length ≤ 10 * s.rest.length
 | 0, s, _, _ => by simp [rList]
 | n + 1, s, hs, hb => by
  simp only [rList] at hb ⊢
  split at hb
  ·rename_i e
   rw [if_pos e]
   simp
  ·rename_i e
   rw [if_neg e]
   have h1 := h s hs (rList_bad mb n _ hb)
   have h2 := rList_enclen mono mb h n (one s).2 (Nat.lt_of_le_of_lt (mono s) hs) hb
   simp only [List.flatMap_cons, List.length_append]
   omega
theorem rRow_enclen {α : Type} {one : RS → α × RS} {enc : α → List UInt8} {F : Nat} (mono : ∀ st, (one st).2.rest.length ≤ st.rest.length) (mb : ∀ st, (one st).2.bad = false → st.bad = false) (h : ∀ st, st.rest.length < F → (one st).2.bad = false → (enc (one st).1).length + 10 * (one st).2.rest.length ≤ 10 * st.rest.length)
  {s : RS} (hs : s.rest.length ≤ F) (hb : (rRow one s).2.bad = false) : (encNum ((rRow one s).1.length : Nat)).length + ((rRow one s).1.flatMap enc).length + 10 * (rRow one s).2.rest.length ≤ 10 * s.rest.length := by
 have h1 := encNum_le ((rRow one s).1.length : Nat)
 have h2 := rCount_bad (rRow_bad mb hb)
 have h3 := rList_enclen mono mb h (rCount s).1 (rCount s).2 (by omega) hb
 unfold rRow at *
 omega
theorem rPr_badm : ∀ (f : Nat) (st : RS), (rPr f st).2.bad = false → st.bad = false
 | 0, st, h => h
 | f + 1, st, h => by
  simp only [rPr] at h
  have h1 := rCount_bad (rRow_bad (rPr_badm f) h)
  have h2 := (rNum_len _).2 h1.2
  have h3 := rText_bad h2.2
  exact ((rNum_len _).2 h3.2).2
theorem rPr_enclen : ∀ (f : Nat) (s : RS), s.rest.length < f → (rPr f s).2.bad = false → (encPr (rPr f s).1).length + 10 * (rPr f s).2.rest.length ≤ 10 * s.rest.length
 | 0, s, hs, _ => by omega
 | f + 1, s, hs, hb => by
  simp only [rPr] at hb ⊢
  have b1 := rCount_bad (rRow_bad (rPr_badm f) hb)
  have b2 := (rNum_len _).2 b1.2
  have b3 := rText_bad b2.2
  have b4 := (rNum_len _).2 b3.2
  have c1 := rNum_enclen (rNum s).1 b3.2
  have c2 := rText_enclen b2.2
  have c3 := rNum_enclen (rNum (rText (rNum s).2).2).1 b1.2
  have c4 := rRow_enclen (rPr_len f) (rPr_badm f) (rPr_enclen f) (s := (rNum (rText (rNum s).2).2).2) (by omega) hb
  simp only [encPr, List.length_append, encPrL_flat]
  omega
theorem rBg_enclen {F : Nat} (s : RS) (hs : s.rest.length < F) (hb : (rBg s).2.bad = false) : (encBg (rBg s).1).length + 10 * (rBg s).2.rest.length ≤ 10 * s.rest.length := by
 simp only [rBg] at hb ⊢
 have mb : ∀ st, (rNum st).2.bad = false → st.bad = false := fun st h => ((rNum_len st).2 h).2
 have b1 := rCount_bad (rRow_bad mb hb)
 have b2 := (rNum_len _).2 b1.2
 have c1 := rNum_enclen (if (Bg.mk (decide ((rNum s).1 = 1)) (rRow rNum (rNum s).2).1 nilRow none).neg then 1 else 0) b1.2
 have c2 := rRow_enclen (enc := encNum) (F := F) (fun s => (rNum_len s).1) mb (fun st _ h => rNum_enclen _ h) (s := (rNum s).2) (by omega) hb
 simp only [encBg, encInts, List.length_append]
 simp only [Bg.ds] at *
 omega
theorem rPf_badm : ∀ (f : Nat) (st : RS), (rPf f st).2.bad = false → st.bad = false
 | 0, st, h => h
 | f + 1, st, h => by
  simp only [rPf] at h
  have h1 := rCount_bad (rRow_bad (rPf_badm f) h)
  have h2 := rCount_bad (rRow_bad rBg_bad h1.2)
  have h3 := (rNum_len _).2 h2.2
  exact ((rNum_len _).2 h3.2).2
theorem rPf_enclen : ∀ (f : Nat) (s : RS), s.rest.length < f → (rPf f s).2.bad = false → (encPf (rPf f s).1).length + 10 * (rPf f s).2.rest.length ≤ 10 * s.rest.length
 | 0, s, hs, _ => by omega
 | f + 1, s, hs, hb => by
  simp only [rPf] at hb ⊢
  have b1 := rCount_bad (rRow_bad (rPf_badm f) hb)
  have b2 := rCount_bad (rRow_bad rBg_bad b1.2)
  have b3 := (rNum_len _).2 b2.2
  have b4 := (rNum_len _).2 b3.2
  have c1 := rNum_enclen (rNum s).1 b3.2
  have c2 := rNum_enclen (rNum (rNum s).2).1 b2.2
  have l3 := rRow_len rBg_len (rNum (rNum s).2).2
  have c3 := rRow_enclen (enc := encBg) (F := f) rBg_len rBg_bad (fun st h1 h2 => rBg_enclen st h1 h2) (s := (rNum (rNum s).2).2) (by omega) b1.2
  have c4 := rRow_enclen (rPf_len f) (rPf_badm f) (rPf_enclen f) (s := (rRow rBg (rNum (rNum s).2).2).2) (by omega) hb
  simp only [encPf, List.length_append, encPfL_flat, encBgs]
  omega
theorem rSo_badm (f : Nat) (st : RS) (h : (rSo f st).2.bad = false) : st.bad = false := by
 simp only [rSo] at h
 exact (rText_bad (rPr_badm f _ h)).2
theorem rSo_enclen (f : Nat) (s : RS) (hs : s.rest.length < f) (hb : (rSo f s).2.bad = false) : (encSo (rSo f s).1).length + 10 * (rSo f s).2.rest.length ≤ 10 * s.rest.length := by
 simp only [rSo] at hb ⊢
 have b1 := rPr_badm f _ hb
 have b2 := rText_bad b1
 have c1 := rText_enclen b1
 have c2 := rPr_enclen f (rText s).2 (by omega) hb
 simp only [encSo, List.length_append]
 omega
theorem rCe_enclen (f : Nat) (s : RS) (hs : s.rest.length < f) (hb : (rCe f s).2.bad = false) : (encCe (rCe f s).1).length ≤ 10 * s.rest.length + 7 := by
 simp only [rCe] at hb ⊢
 have b1 := rCount_bad (rRow_bad (rPf_badm f) hb)
 have b2 := rCount_bad (rRow_bad (rSo_badm f) b1.2)
 have b3 := (rNum_len _).2 b2.2
 have b4 := rText_bad b3.2
 have c1 := rText_enclen b3.2
 have c2 := rNum_enclen (rNum (rText s).2).1 b2.2
 have l3 := rRow_len (rSo_len f) (rNum (rText s).2).2
 have c3 := rRow_enclen (rSo_len f) (rSo_badm f) (rSo_enclen f) (s := (rNum (rText s).2).2) (by omega) b1.2
 have c4 := rRow_enclen (rPf_len f) (rPf_badm f) (rPf_enclen f) (s := (rRow (rSo f) (rNum (rText s).2).2).2) (by omega) hb
 simp only [encCe, encBody, List.length_append, List.length_cons, List.length_nil, tail4_len, encSos, encPfL_flat]
 omega
end Go.Proofs.YtijpnlmmaoecgaaGreatDoor

namespace Go.Proofs.YtijpnlmmaoecgaaGreatDoor
open Go Go.AM
def intC (n : Int) : List AV := [.val (.int .i64 n)]
def zBg : List AV := [.val (.bool false), .val (.slice none 0 0)]
def zPf : List AV := [.val (.int .i64 0), .val (.int .i64 0), .val (.slice none 0 0), .val (.slice none 0 0)]
def zSo : List AV := [.val (.string ⟨#[]⟩), .val (.int .i64 0), .val (.string ⟨#[]⟩), .val (.int .i64 0), .val (.slice none 0 0)]
theorem num_ok {F : Nat} (hF : F ≤ 2 ^ 28) : OneOk 18 rNum intC F 0 := by
 intro h r st hr hb hl
 obtain ⟨v, h', hrun, ⟨rfl, h1, h2⟩, h3⟩ := numr_call hr (by omega)
 refine ⟨_, h', hrun, [(.val (.int .i64 (rNum st).1), .val (.int .i64 (rNum st).1))], rfl, rfl, ?_, h1, h2⟩
 intro q hq
 rw [List.mem_singleton.1 hq]
 exact Rep.leaf (Leaf.val _)
theorem big_any {h : AH} {r : Nat} {st : RS} (hr : Rd h r st) (hl : st.rest.length < 2 ^ 28) :
  ∃ v h', RunCall E1 (.f 53) [.ptr r 0] h v h' ∧ OneTo h r 1 Bg.cells (rBg st).1 (rBg st).2 v h' := by
 refine shared0 _ (by kernel_rfl) f53_ok fun s hs hh hd hrd => ?_
 have h0 := hs 0 _ rfl
 subst hh
 have rl := hr.1
 have hA1 : (s.h.alloc (.cells zBg true)).get s.h.next = some (.cells zBg true) := box_get
 simp -implicitDefEqProofs only [f53_fn, f53, V, ↓reduceIte, reduceEqDiff, reduceAdd, reduceMul, reduceCtorEq, reduceEq, reduceLT, reduceLE, h0]
 refine callK_of (numr_call hr.alloc (by omega)) ?_
 rintro v h2 ⟨⟨rfl, hr2, hf2⟩, hn2⟩
 have hf2 : Fd (s.h.alloc (.cells zBg true)) h2 r := hf2
 have hn2 : h2.next = s.h.next + 1 := hn2
 have hA2 : h2.get s.h.next = some (.cells zBg true) := hf2.keep (by rw [a_next]; omega) (by omega) hA1
 have hfill : ∀ s' : St, s'.eval (.t 6) = some (.val (.bool (decide ((rNum st).1 = 1)))) → fill s' [.val (.bool false), .val (.slice none 0 0)] [(0, 1, .t 6)] = some [.val (.bool (decide ((rNum st).1 = 1))), .val (.slice none 0 0)] := fun s' e => fill_head e rfl
 have hst3 := store_new (h := h2) (z := zBg) (l := [.val (.bool (decide ((rNum st).1 = 1))), .val (.slice none 0 0)]) (n := 2) rfl rfl
 rw [zBg] at hst3
 simp -implicitDefEqProofs only [V, ↓reduceIte, reduceEqDiff, reduceAdd, reduceMul, reduceCtorEq, reduceEq, reduceLT, reduceLE, h0, hfill, hst3]
 generalize e3 : (h2.alloc (.cells [.val (.bool false), .val (.slice none 0 0)] true)).put h2.next (some (.cells [.val (.bool (decide ((rNum st).1 = 1))), .val (.slice none 0 0)] true)) = h7
 have hn7 : h7.next = s.h.next + 2 := by rw [← e3, p_next, a_next, hn2]
 have hB7 : h7.get h2.next = some (.cells [.val (.bool (decide ((rNum st).1 = 1))), .val (.slice none 0 0)] true) := by rw [← e3, put_get]
 have hA7 : h7.get s.h.next = some (.cells zBg true) := by rw [← e3, get_put_old (by omega), get_alloc_old (by omega), hA2]
 have hr7 : Rd h7 r (rNum st).2 := by rw [← e3]; exact hr2.alloc.other (by omega)
 have hf7 : Fd s.h h7 r := by rw [← e3]; exact ((Fd.alloc.trans hf2).trans Fd.alloc).above (by omega)
 have len7 := (rNum_len st).1
 refine callK_of (list_call75 (num_ok (F := 2 ^ 28) (Nat.le_refl _)) (fun _ => rfl) (fun s => (rNum_len s).1) hr7 (by omega) (fun _ => Nat.lt_of_le_of_lt (rCount_le _).2 (by omega))) ?_
 rintro v h8 ⟨ps, hrow, hps, hr8, hf8⟩
 have hrow : RowR h8 h7.next 0 (rRow rNum (rNum st).2).1.length 1 v ps := hrow
 have hf8 : Fd h7 h8 r := hf8
 have l8 := hf8.le
 have hB8 := hf8.keep (by omega) (by omega) hB7
 have hA8 := hf8.keep (by omega) (by omega) hA7
 have hv := hrow.cells
 have hst9 := st_at (i := 1) (x := v) hB8 (by simp)
 simp only [List.set_cons_succ, List.set_cons_zero] at hst9
 have hB9 : (h8.put h2.next (some (.cells [.val (.bool (decide ((rNum st).1 = 1))), v] true))).get h2.next = some (.cells [.val (.bool (decide ((rNum st).1 = 1))), v] true) := put_get
 have hA9 : (h8.put h2.next (some (.cells [.val (.bool (decide ((rNum st).1 = 1))), v] true))).get s.h.next = some (.cells zBg true) := by rw [get_put_old (by omega), hA8]
 have hst10 := st_all (n := 2) (l := [.val (.bool (decide ((rNum st).1 = 1))), v]) hA9 rfl rfl
 simp -implicitDefEqProofs only [V, ↓reduceIte, reduceEqDiff, reduceAdd, reduceMul, reduceCtorEq, reduceEq, reduceLT, reduceLE, hv, hst9, hB9, take2, hst10, hd]
 refine ⟨_, rfl, [(.val (.bool (decide ((rNum st).1 = 1))), .val (.bool (decide ((rNum st).1 = 1)))), (v, kidsA (ps.map (·.2)) (rRow rNum (rNum st).2).1.length nilRow none)], rfl, ?_, ?_, ?_, ?_⟩
 ·simp only [rBg, Bg.cells, Bg.neg, Bg.dsA, hps, List.map_cons, List.map_nil]
  rfl
 ·intro q hq
  simp only [List.mem_cons, List.mem_nil_iff, or_false] at hq
  rcases hq with rfl | rfl
  ·exact Rep.leaf (Leaf.val _)
  ·exact rep_same (by omega) (by rw [p_next, p_next]; omega) (fun x x1 x2 => by rw [get_put_old (by omega), get_put_old (by omega)]) hrow.rep
 ·exact (hr8.other (by omega)).other (by omega)
 ·exact ((hf7.trans hf8).above (by omega)).above (by omega)
theorem big_ok {F : Nat} (hF : F ≤ 2 ^ 28) : OneOk 53 rBg Bg.cells F 1 := OneOk.of fun h r st hr hb hl => big_any hr (by omega)
theorem proof_any (f : Nat) (ok : OneOk 22 (rPf f) Pf.cells f (f + 2)) {h : AH} {r : Nat} {st : RS} (hr : Rd h r st) (hf : st.bad = false → st.rest.length < f + 1) (hl : st.rest.length < 2 ^ 28) :
  ∃ v h', RunCall E1 (.f 22) [.ptr r 0] h v h' ∧ OneTo h r (f + 3) Pf.cells (rPf (f + 1) st).1 (rPf (f + 1) st).2 v h' := by
 refine shared0 _ (by kernel_rfl) f22_ok fun s hs hh hd hrd => ?_
 have h0 := hs 0 _ rfl
 subst hh
 have rl := hr.1
 have hA1 : (s.h.alloc (.cells zPf true)).get s.h.next = some (.cells zPf true) := box_get
 simp -implicitDefEqProofs only [f22_fn, f22, V, ↓reduceIte, reduceEqDiff, reduceAdd, reduceMul, reduceCtorEq, reduceEq, reduceLT, reduceLE, h0]
 refine callK_of (numr_call hr.alloc (by omega)) ?_
 rintro v h2 ⟨⟨rfl, hr2, hf2⟩, hn2⟩
 have hf2 : Fd (s.h.alloc (.cells zPf true)) h2 r := hf2
 have hn2 : h2.next = s.h.next + 1 := hn2
 have hA2 : h2.get s.h.next = some (.cells zPf true) := hf2.keep (by rw [a_next]; omega) (by omega) hA1
 have hfill : ∀ s' : St, s'.eval (.t 5) = some (.val (.int .i64 (rNum st).1)) → fill s' [.val (.int .i64 0), .val (.int .i64 0), .val (.slice none 0 0), .val (.slice none 0 0)] [(0, 1, .t 5)] = some [.val (.int .i64 (rNum st).1), .val (.int .i64 0), .val (.slice none 0 0), .val (.slice none 0 0)] := fun s' e => fill_head e rfl
 have hst3 := store_new (h := h2) (z := zPf) (l := [.val (.int .i64 (rNum st).1), .val (.int .i64 0), .val (.slice none 0 0), .val (.slice none 0 0)]) (n := 4) rfl rfl
 rw [zPf] at hst3
 simp -implicitDefEqProofs only [V, ↓reduceIte, reduceEqDiff, reduceAdd, reduceMul, reduceCtorEq, reduceEq, reduceLT, reduceLE, h0, hfill, hst3]
 generalize e3 : (h2.alloc (.cells [.val (.int .i64 0), .val (.int .i64 0), .val (.slice none 0 0), .val (.slice none 0 0)] true)).put h2.next (some (.cells [.val (.int .i64 (rNum st).1), .val (.int .i64 0), .val (.slice none 0 0), .val (.slice none 0 0)] true)) = h3
 have hn3 : h3.next = s.h.next + 2 := by rw [← e3, p_next, a_next, hn2]
 have hB3 : h3.get h2.next = some (.cells [.val (.int .i64 (rNum st).1), .val (.int .i64 0), .val (.slice none 0 0), .val (.slice none 0 0)] true) := by rw [← e3, put_get]
 have hA3 : h3.get s.h.next = some (.cells zPf true) := by rw [← e3, get_put_old (by omega), get_alloc_old (by omega), hA2]
 have hr3 : Rd h3 r (rNum st).2 := by rw [← e3]; exact hr2.alloc.other (by omega)
 have hf3 : Fd s.h h3 r := by rw [← e3]; exact ((Fd.alloc.trans hf2).trans Fd.alloc).above (by omega)
 have len3 := (rNum_len st).1
 refine callK_of (numr_call hr3 (by omega)) ?_
 rintro v h4 ⟨⟨rfl, hr4, hf4⟩, hn4⟩
 have hf4 : Fd h3 h4 r := hf4
 have hn4 : h4.next = h3.next := hn4
 have hB4 := hf4.keep (by omega) (by omega) hB3
 have hA4 := hf4.keep (by omega) (by omega) hA3
 have hst5 := st_at (i := 1) (x := .val (.int .i64 (rNum (rNum st).2).1)) hB4 (by simp)
 simp only [List.set_cons_succ, List.set_cons_zero] at hst5
 simp -implicitDefEqProofs only [V, ↓reduceIte, reduceEqDiff, reduceAdd, reduceMul, reduceCtorEq, reduceEq, reduceLT, reduceLE, h0, hst5]
 generalize e5 : h4.put h2.next (some (.cells [.val (.int .i64 (rNum st).1), .val (.int .i64 (rNum (rNum st).2).1), .val (.slice none 0 0), .val (.slice none 0 0)] true)) = h5
 have hn5 : h5.next = s.h.next + 2 := by rw [← e5, p_next]; omega
 have hB5 : h5.get h2.next = some (.cells [.val (.int .i64 (rNum st).1), .val (.int .i64 (rNum (rNum st).2).1), .val (.slice none 0 0), .val (.slice none 0 0)] true) := by rw [← e5, put_get]
 have hA5 : h5.get s.h.next = some (.cells zPf true) := by rw [← e5, get_put_old (by omega), hA4]
 have hr5 : Rd h5 r (rNum (rNum st).2).2 := by rw [← e5]; exact hr4.other (by omega)
 have hf5 : Fd s.h h5 r := by rw [← e5]; exact (hf3.trans hf4).above (by omega)
 have len5 := (rNum_len (rNum st).2).1
 refine callK_of (list_call52 (big_ok (F := 2 ^ 28) (Nat.le_refl _)) Bg.len rBg_len hr5 (by omega) (fun _ => Nat.lt_of_le_of_lt (rCount_le _).2 (by omega))) ?_
 rintro v6 h6 ⟨ps6, hrow6, hps6, hr6, hf6⟩
 have hrow6 : RowR h6 h5.next 1 (rRow rBg (rNum (rNum st).2).2).1.length 2 v6 ps6 := hrow6
 have hf6 : Fd h5 h6 r := hf6
 have l6 := hf6.le
 have hB6 := hf6.keep (by omega) (by omega) hB5
 have hA6 := hf6.keep (by omega) (by omega) hA5
 have hv6 := hrow6.cells
 have hst7 := st_at (i := 2) (x := v6) hB6 (by simp)
 simp only [List.set_cons_succ, List.set_cons_zero] at hst7
 simp -implicitDefEqProofs only [V, ↓reduceIte, reduceEqDiff, reduceAdd, reduceMul, reduceCtorEq, reduceEq, reduceLT, reduceLE, h0, hv6, hst7]
 generalize e7 : h6.put h2.next (some (.cells [.val (.int .i64 (rNum st).1), .val (.int .i64 (rNum (rNum st).2).1), v6, .val (.slice none 0 0)] true)) = h7
 have hn7 : h7.next = h6.next := by rw [← e7, p_next]
 have hB7 : h7.get h2.next = some (.cells [.val (.int .i64 (rNum st).1), .val (.int .i64 (rNum (rNum st).2).1), v6, .val (.slice none 0 0)] true) := by rw [← e7, put_get]
 have hA7 : h7.get s.h.next = some (.cells zPf true) := by rw [← e7, get_put_old (by omega), hA6]
 have hr7 : Rd h7 r (rRow rBg (rNum (rNum st).2).2).2 := by rw [← e7]; exact hr6.other (by omega)
 have hf7 : Fd s.h h7 r := by rw [← e7]; exact (hf5.trans hf6).above (by omega)
 have hrep7 : Rep h7 h5.next h6.next 2 v6 (kidsA (ps6.map (·.2)) (rRow rBg (rNum (rNum st).2).2).1.length nilRow none) := rep_same (Nat.le_refl _) (Nat.le_refl _) (fun x x1 x2 => by rw [← e7, get_put_old (by omega)]) hrow6.rep
 have len7 := rRow_len rBg_len (rNum (rNum st).2).2
 refine callK_of (list_call21 ok Pf.len (rPf_len f) hr7 (by omega) ?_) ?_
 ·intro hb
  have b1 := rCount_bad hb
  have b2 := rRow_bad rBg_bad b1.2
  have b3 := rCount_bad b2
  have b4 := (rNum_len (rNum st).2).2 b3.2
  have b5 := (rNum_len st).2 b4.2
  have := hf b5.2
  omega
 rintro v h8 ⟨ps, hrow, hps, hr8, hf8⟩
 have hrow : RowR h8 h7.next (f + 2) (rRow (rPf f) (rRow rBg (rNum (rNum st).2).2).2).1.length 4 v ps := hrow
 have hf8 : Fd h7 h8 r := hf8
 have l8 := hf8.le
 have hB8 := hf8.keep (by omega) (by omega) hB7
 have hA8 := hf8.keep (by omega) (by omega) hA7
 have hv := hrow.cells
 have hst9 := st_at (i := 3) (x := v) hB8 (by simp)
 simp only [List.set_cons_succ, List.set_cons_zero] at hst9
 have hB9 : (h8.put h2.next (some (.cells [.val (.int .i64 (rNum st).1), .val (.int .i64 (rNum (rNum st).2).1), v6, v] true))).get h2.next = some (.cells [.val (.int .i64 (rNum st).1), .val (.int .i64 (rNum (rNum st).2).1), v6, v] true) := put_get
 have hA9 : (h8.put h2.next (some (.cells [.val (.int .i64 (rNum st).1), .val (.int .i64 (rNum (rNum st).2).1), v6, v] true))).get s.h.next = some (.cells zPf true) := by rw [get_put_old (by omega), hA8]
 have hst10 := st_all (n := 4) (l := [.val (.int .i64 (rNum st).1), .val (.int .i64 (rNum (rNum st).2).1), v6, v]) hA9 rfl rfl
 simp -implicitDefEqProofs only [V, ↓reduceIte, reduceEqDiff, reduceAdd, reduceMul, reduceCtorEq, reduceEq, reduceLT, reduceLE, hv, hst9, hB9, take4, hst10, hd]
 refine ⟨_, rfl, [(.val (.int .i64 (rNum st).1), .val (.int .i64 (rNum st).1)), (.val (.int .i64 (rNum (rNum st).2).1), .val (.int .i64 (rNum (rNum st).2).1)), (v6, kidsA (ps6.map (·.2)) (rRow rBg (rNum (rNum st).2).2).1.length nilRow none), (v, kidsA (ps.map (·.2)) (rRow (rPf f) (rRow rBg (rNum (rNum st).2).2).2).1.length nilRow none)], rfl, ?_, ?_, ?_, ?_⟩
 ·simp only [rPf, Pf.cells, Pf.cellsL_eq, hps, hps6, List.map_cons, List.map_nil]
 ·intro q hq
  simp only [List.mem_cons, List.mem_nil_iff, or_false] at hq
  rcases hq with rfl | rfl | rfl | rfl
  ·exact Rep.leaf (Leaf.val _)
  ·exact Rep.leaf (Leaf.val _)
  ·refine Rep.to (by omega) (by rw [p_next, p_next]; omega) (fun x x1 x2 cs rw e => ⟨rw, ?_⟩) (by omega) hrep7
   rw [get_put_old (by omega), get_put_old (by omega), hf8.get x (by omega) (by omega), e]
  ·exact rep_same (by omega) (by rw [p_next, p_next]; omega) (fun x x1 x2 => by rw [get_put_old (by omega), get_put_old (by omega)]) hrow.rep
 ·exact (hr8.other (by omega)).other (by omega)
 ·exact ((hf7.trans hf8).above (by omega)).above (by omega)
theorem proof_ok : ∀ f, f ≤ 2 ^ 28 → OneOk 22 (rPf f) Pf.cells f (f + 2)
 | 0, _ => fun h r st _ _ hl => absurd hl (Nat.not_lt_zero _)
 | f + 1, hf => OneOk.of fun h r st hr hb hl => proof_any f (proof_ok f (by omega)) hr (fun _ => hl) (by omega)
theorem st_sol {h : AH} {b : Nat} {a z1 z2 z3 z4 : AV} {l : List AV} (g : h.get b = some (.cells [a, z1, z2, z3, z4] true)) (hl : l.length = 4) : storeH h 4 (.ptr b 1) l = some (h.put b (some (.cells (a :: l) true))) := by
 have h1 : Nat.beq l.length 4 = true := by rw [hl]; rfl
 have h2 : Nat.ble (1 + 4) [a, z1, z2, z3, z4].length = true := rfl
 have h3 : putAt [a, z1, z2, z3, z4] 1 l = a :: l := by
  simp only [putAt, hl, List.take_succ_cons, List.take_zero, List.cons_append, List.nil_append]
  simp
 simp only [storeH, g, h1, h2, Bool.and_self, cond_true, h3]
theorem sol_any (f : Nat) (hf1 : f + 1 ≤ 2 ^ 28) {h : AH} {r : Nat} {st : RS} (hr : Rd h r st) (hf : st.bad = false → st.rest.length < f + 1) (hl : st.rest.length < 2 ^ 28) :
  ∃ v h', RunCall E1 (.f 20) [.ptr r 0] h v h' ∧ OneTo h r (f + 1) So.cells (rSo (f + 1) st).1 (rSo (f + 1) st).2 v h' := by
 refine shared0 _ (by kernel_rfl) f20_ok fun s hs hh hd hrd => ?_
 have h0 := hs 0 _ rfl
 subst hh
 have rl := hr.1
 have hA1 : (s.h.alloc (.cells zSo true)).get s.h.next = some (.cells zSo true) := box_get
 simp -implicitDefEqProofs only [f20_fn, f20, V, ↓reduceIte, reduceEqDiff, reduceAdd, reduceMul, reduceCtorEq, reduceEq, reduceLT, reduceLE, h0]
 refine callK_of (textr_call hr.alloc (by omega)) ?_
 rintro v h2 ⟨⟨rfl, hr2, hf2⟩, hn2⟩
 have hf2 : Fd (s.h.alloc (.cells zSo true)) h2 r := hf2
 have hn2 : h2.next = s.h.next + 1 := hn2
 have hA2 : h2.get s.h.next = some (.cells zSo true) := hf2.keep (by rw [a_next]; omega) (by omega) hA1
 have hfill : ∀ s' : St, s'.eval (.t 5) = some (.val (.string (rText st).1)) → fill s' [.val (.string ⟨#[]⟩), .val (.int .i64 0), .val (.string ⟨#[]⟩), .val (.int .i64 0), .val (.slice none 0 0)] [(0, 1, .t 5)] = some [.val (.string (rText st).1), .val (.int .i64 0), .val (.string ⟨#[]⟩), .val (.int .i64 0), .val (.slice none 0 0)] := fun s' e => fill_head e rfl
 have hst3 := store_new (h := h2) (z := zSo) (l := [.val (.string (rText st).1), .val (.int .i64 0), .val (.string ⟨#[]⟩), .val (.int .i64 0), .val (.slice none 0 0)]) (n := 5) rfl rfl
 rw [zSo] at hst3
 simp -implicitDefEqProofs only [V, ↓reduceIte, reduceEqDiff, reduceAdd, reduceMul, reduceCtorEq, reduceEq, reduceLT, reduceLE, h0, hfill, hst3]
 generalize e3 : (h2.alloc (.cells [.val (.string ⟨#[]⟩), .val (.int .i64 0), .val (.string ⟨#[]⟩), .val (.int .i64 0), .val (.slice none 0 0)] true)).put h2.next (some (.cells [.val (.string (rText st).1), .val (.int .i64 0), .val (.string ⟨#[]⟩), .val (.int .i64 0), .val (.slice none 0 0)] true)) = h7
 have hn7 : h7.next = s.h.next + 2 := by rw [← e3, p_next, a_next, hn2]
 have hB7 : h7.get h2.next = some (.cells [.val (.string (rText st).1), .val (.int .i64 0), .val (.string ⟨#[]⟩), .val (.int .i64 0), .val (.slice none 0 0)] true) := by rw [← e3, put_get]
 have hA7 : h7.get s.h.next = some (.cells zSo true) := by rw [← e3, get_put_old (by omega), get_alloc_old (by omega), hA2]
 have hr7 : Rd h7 r (rText st).2 := by rw [← e3]; exact hr2.alloc.other (by omega)
 have hf7 : Fd s.h h7 r := by rw [← e3]; exact ((Fd.alloc.trans hf2).trans Fd.alloc).above (by omega)
 have len7 := rText_len st
 refine callK_of (pred_any f (pred_ok f (by omega)) hr7 (fun hb => by have b := rText_bad hb; have := hf b.2; omega) (by omega)) ?_
 rintro v h8 ⟨qs, rfl, hqs, hrep, hr8, hf8⟩
 have hrep : ∀ q ∈ qs, Rep h8 h7.next h8.next (f + 1) q.1 q.2 := hrep
 have hf8 : Fd h7 h8 r := hf8
 have l8 := hf8.le
 have hql : qs.length = 4 := by rw [← List.length_map (f := fun x : AV × AV => x.2), hqs, Pr.len]
 have hB8 := hf8.keep (by omega) (by omega) hB7
 have hA8 := hf8.keep (by omega) (by omega) hA7
 have hst9 := st_sol (l := qs.map (·.1)) hB8 (by rw [List.length_map]; exact hql)
 have hB9 : (h8.put h2.next (some (.cells (.val (.string (rText st).1) :: qs.map (·.1)) true))).get h2.next = some (.cells (.val (.string (rText st).1) :: qs.map (·.1)) true) := put_get
 have hA9 : (h8.put h2.next (some (.cells (.val (.string (rText st).1) :: qs.map (·.1)) true))).get s.h.next = some (.cells zSo true) := by rw [get_put_old (by omega), hA8]
 have tk : takeN (some 5) (.val (.string (rText st).1) :: qs.map (·.1)) = some (.agg (.val (.string (rText st).1) :: qs.map (·.1))) := takeN_full (by rw [List.length_cons, List.length_map, hql])
 have hst10 := st_all (n := 5) (l := .val (.string (rText st).1) :: qs.map (·.1)) hA9 rfl (by rw [List.length_cons, List.length_map, hql])
 simp -implicitDefEqProofs only [V, ↓reduceIte, reduceEqDiff, reduceAdd, reduceMul, reduceCtorEq, reduceEq, reduceLT, reduceLE, hst9, hB9, tk, hst10, hd]
 refine ⟨_, rfl, (.val (.string (rText st).1), .val (.string (rText st).1)) :: qs, rfl, ?_, ?_, ?_, ?_⟩
 ·simp only [rSo, So.cells, hqs, List.map_cons]
 ·intro q hq
  rcases List.mem_cons.1 hq with rfl | hq
  ·exact Rep.leaf (Leaf.val _)
  ·exact rep_same (by omega) (by rw [p_next, p_next]; omega) (fun x x1 x2 => by rw [get_put_old (by omega), get_put_old (by omega)]) (hrep q hq)
 ·exact (hr8.other (by omega)).other (by omega)
 ·exact ((hf7.trans hf8).above (by omega)).above (by omega)
theorem sol_ok {f : Nat} (hf1 : f + 1 ≤ 2 ^ 28) : OneOk 20 (rSo (f + 1)) So.cells (f + 1) (f + 1) := OneOk.of fun h r st hr hb hl => sol_any f hf1 hr (fun _ => hl) (by omega)
end Go.Proofs.YtijpnlmmaoecgaaGreatDoor
