/- A part of the proofs about certificates: YDv YDw YDx. -/
import Derived.Test.YtijpnlmmaoecgaaGreatDoorQB3

set_option linter.all false
open Nat (reduceEqDiff reduceAdd reduceMul)
open Int (reduceEq reduceLT reduceLE)

namespace Go.Proofs.YtijpnlmmaoecgaaGreatDoor
open Go Go.AM
def TwoTo {α : Type} (h : AH) (r n : Nat) (F : List UInt8) (cs : α → List AV) (a : α) (st : RS) (v : AV) (h' : AH) : Prop := ∃ qs : List (AV × AV), v = .agg (qs.map (·.1)) ∧ qs.map (·.2) = cs a ∧ (∀ q ∈ qs, Rep h' h.next h'.next n q.1 q.2) ∧ Rq h' r F st ∧ Fd h h' r
theorem OneD.of {α : Type} {one : Nat} {f : RS → α × RS} {cs : α → List AV} {B n : Nat} {F : List UInt8} (k : ∀ (h : AH) (r : Nat) (st : RS), Rq h r F st → NoTag h → st.bad = false → st.rest.length < B → ∃ v h', RunCall E1 (.f one) [.ptr r 0] h v h' ∧ TwoTo h r n F cs (f st).1 (f st).2 v h') : OneD one f cs B n F := by
 intro h r st a nt b c
 obtain ⟨v, h', hr, qs, rfl, q⟩ := k h r st a nt b c
 exact ⟨_, h', hr, qs, rfl, rfl, q⟩
theorem num_oneD {B : Nat} {F : List UInt8} (hF : F.length < 2 ^ 60) : OneD 25 dNum intC B 0 F := by
 intro h r st a nt b c
 obtain ⟨v, h', hr, ⟨rfl, q1, q2⟩, q3⟩ := number25_call a hF
 refine ⟨_, h', hr, [(.val (.int .i64 (dNum st).1), .val (.int .i64 (dNum st).1))], rfl, rfl, rfl, ?_, q1, q2⟩
 intro q hq
 rw [List.mem_singleton.1 hq]
 exact Rep.leaf (Leaf.val _)
theorem Rq.len {h : AH} {r : Nat} {F : List UInt8} {st : RS} (k : Rq h r F st) : st.rest.length ≤ F.length := by
 obtain ⟨_, _, _, _, e, _⟩ := k
 rw [e, List.length_drop]
 omega
theorem LsTo.fd {s s' : St} {h0 : AH} {r C lo n k es : Nat} {F : List UInt8} {X Y : List AV} {st : RS} {ps : List (AV × AV)} {q : List AV} (t : LsTo s s' r C lo n k es F X Y st ps q) (f : Fd h0 s.h r) (hl : h0.next ≤ lo) (hC : h0.next ≤ C) : Fd h0 s'.h r :=
 ⟨Nat.le_trans f.le t.le, fun x hx hr => by rw [t.old x (by omega) hr (by omega), f.get x hx hr], fun k => t.nt⟩
theorem dCount_bad {s : RS} (h : (dCount s).2.bad = false) : (dCount s).2.rest.length < s.rest.length ∧ s.bad = false := by
 obtain ⟨h1, h2, h3⟩ := dCount_inv h
 have := encNum_pos ((dCount s).1 : Nat)
 have e := congrArg List.length h3
 rw [List.length_append] at e
 exact ⟨by omega, h1⟩
theorem dNum_bad {s : RS} (h : (dNum s).2.bad = false) : (dNum s).2.rest.length < s.rest.length ∧ s.bad = false := by
 obtain ⟨h1, h2, h3⟩ := dNum_inv h
 have := encNum_pos (dNum s).1
 have e := congrArg List.length h3
 rw [List.length_append] at e
 exact ⟨by omega, h1⟩
theorem dText_bad {s : RS} (h : (dText s).2.bad = false) : s.bad = false := (dText_inv h).1
set_option maxHeartbeats 2000000 in
theorem pred27_any (f : Nat) {F : List UInt8} (ok : OneD 27 (dPr f) Pr.cells f f F) {h : AH} {r : Nat} {st : RS} (hr : Rq h r F st) (hnt : NoTag h) (hf : st.bad = false → st.rest.length < f + 1) (hF : F.length < 2 ^ 28) :
  ∃ v h', RunCall E1 (.f 27) [.ptr r 0] h v h' ∧ TwoTo h r (f + 1) F Pr.cells (dPr (f + 1) st).1 (dPr (f + 1) st).2 v h' := by
 refine ptr0 _ (by kernel_rfl) f27_ok fun s hs hh hd hrd => ?_
 have h0 := hs 0 _ rfl
 subst hh
 have rl := hr.1
 have hrlen := hr.len
 have hA1 : (s.h.alloc (.cells zPr true)).get s.h.next = some (.cells zPr true) := box_get
 have hF60 : F.length < 2 ^ 60 := by omega
 simp -implicitDefEqProofs only [f27_fn, f27, V, ↓reduceIte, reduceEqDiff, reduceAdd, reduceMul, reduceCtorEq, reduceEq, reduceLT, reduceLE, h0]
 refine callK_of (number25_call hr.alloc hF60) ?_
 rintro v h2 ⟨⟨rfl, hr2, hf2⟩, hn2⟩
 have hf2 : Fd (s.h.alloc (.cells zPr true)) h2 r := hf2
 have hn2 : h2.next = s.h.next + 1 := hn2
 have hA2 : h2.get s.h.next = some (.cells zPr true) := hf2.keep (by rw [a_next]; omega) (by omega) hA1
 have hfill : ∀ s' : St, s'.eval (.t 7) = some (.val (.int .i64 (dNum st).1)) → fill s' [.val (.int .i64 0), .val (.string ⟨#[]⟩), .val (.int .i64 0), .val (.slice none 0 0)] [(0, 1, .t 7)] = some [.val (.int .i64 (dNum st).1), .val (.string ⟨#[]⟩), .val (.int .i64 0), .val (.slice none 0 0)] := fun s' e => fill_head e rfl
 have hst3 := store_new (h := h2) (z := zPr) (l := [.val (.int .i64 (dNum st).1), .val (.string ⟨#[]⟩), .val (.int .i64 0), .val (.slice none 0 0)]) (n := 4) rfl rfl
 rw [zPr] at hst3
 simp -implicitDefEqProofs only [V, ↓reduceIte, reduceEqDiff, reduceAdd, reduceMul, reduceCtorEq, reduceEq, reduceLT, reduceLE, h0, hfill, hst3]
 generalize e3 : (h2.alloc (.cells [.val (.int .i64 0), .val (.string ⟨#[]⟩), .val (.int .i64 0), .val (.slice none 0 0)] true)).put h2.next (some (.cells [.val (.int .i64 (dNum st).1), .val (.string ⟨#[]⟩), .val (.int .i64 0), .val (.slice none 0 0)] true)) = h3
 have hn3 : h3.next = s.h.next + 2 := by rw [← e3, p_next, a_next, hn2]
 have hB3 : h3.get h2.next = some (.cells [.val (.int .i64 (dNum st).1), .val (.string ⟨#[]⟩), .val (.int .i64 0), .val (.slice none 0 0)] true) := by rw [← e3, put_get]
 have hA3 : h3.get s.h.next = some (.cells zPr true) := by rw [← e3, get_put_old (by omega), get_alloc_old (by omega), hA2]
 have hr3 : Rq h3 r F (dNum st).2 := by rw [← e3]; exact hr2.alloc.other (by omega)
 have hf3 : Fd s.h h3 r := by rw [← e3]; exact ((Fd.alloc.trans hf2).trans Fd.alloc).above (by omega)
 refine callK_of (text24_call hr3 hF60) ?_
 rintro v h4 ⟨⟨rfl, hr4, hf4⟩, hn4⟩
 have hf4 : Fd h3 h4 r := hf4
 have hn4 : h4.next = h3.next := hn4
 have hB4 := hf4.keep (by omega) (by omega) hB3
 have hA4 := hf4.keep (by omega) (by omega) hA3
 have hst5 := st_at (i := 1) (x := .val (.string (dText (dNum st).2).1)) hB4 (by simp)
 simp only [List.set_cons_succ, List.set_cons_zero] at hst5
 simp -implicitDefEqProofs only [V, ↓reduceIte, reduceEqDiff, reduceAdd, reduceMul, reduceCtorEq, reduceEq, reduceLT, reduceLE, h0, hst5]
 generalize e5 : h4.put h2.next (some (.cells [.val (.int .i64 (dNum st).1), .val (.string (dText (dNum st).2).1), .val (.int .i64 0), .val (.slice none 0 0)] true)) = h5
 have hn5 : h5.next = s.h.next + 2 := by rw [← e5, p_next]; omega
 have hB5 : h5.get h2.next = some (.cells [.val (.int .i64 (dNum st).1), .val (.string (dText (dNum st).2).1), .val (.int .i64 0), .val (.slice none 0 0)] true) := by rw [← e5, put_get]
 have hA5 : h5.get s.h.next = some (.cells zPr true) := by rw [← e5, get_put_old (by omega), hA4]
 have hr5 : Rq h5 r F (dText (dNum st).2).2 := by rw [← e5]; exact hr4.other (by omega)
 have hf5 : Fd s.h h5 r := by rw [← e5]; exact (hf3.trans hf4).above (by omega)
 refine callK_of (number25_call hr5 hF60) ?_
 rintro v h6 ⟨⟨rfl, hr6, hf6⟩, hn6⟩
 have hf6 : Fd h5 h6 r := hf6
 have hn6 : h6.next = h5.next := hn6
 have hB6 := hf6.keep (by omega) (by omega) hB5
 have hA6 := hf6.keep (by omega) (by omega) hA5
 have hst7 := st_at (i := 2) (x := .val (.int .i64 (dNum (dText (dNum st).2).2).1)) hB6 (by simp)
 simp only [List.set_cons_succ, List.set_cons_zero] at hst7
 simp -implicitDefEqProofs only [V, ↓reduceIte, reduceEqDiff, reduceAdd, reduceMul, reduceCtorEq, reduceEq, reduceLT, reduceLE, h0, hst7]
 generalize e7 : h6.put h2.next (some (.cells [.val (.int .i64 (dNum st).1), .val (.string (dText (dNum st).2).1), .val (.int .i64 (dNum (dText (dNum st).2).2).1), .val (.slice none 0 0)] true)) = h7
 have hn7 : h7.next = s.h.next + 2 := by rw [← e7, p_next]; omega
 have hB7 : h7.get h2.next = some (.cells [.val (.int .i64 (dNum st).1), .val (.string (dText (dNum st).2).1), .val (.int .i64 (dNum (dText (dNum st).2).2).1), .val (.slice none 0 0)] true) := by rw [← e7, put_get]
 have hA7 : h7.get s.h.next = some (.cells zPr true) := by rw [← e7, get_put_old (by omega), hA6]
 have hr7 : Rq h7 r F (dNum (dText (dNum st).2).2).2 := by rw [← e7]; exact hr6.other (by omega)
 have hf7 : Fd s.h h7 r := by rw [← e7]; exact (hf5.trans hf6).above (by omega)
 refine callK_of (count26_call hr7 hF60) ?_
 rintro v h8 ⟨⟨rfl, hr8, hf8⟩, hn8⟩
 have hf8 : Fd h7 h8 r := hf8
 have hn8 : h8.next = h7.next := hn8
 have hB8 := hf8.keep (by omega) (by omega) hB7
 have hA8 := hf8.keep (by omega) (by omega) hA7
 have hcl := dCount_le (dNum (dText (dNum st).2).2).2
 have hcl2 := hr8.len
 simp -implicitDefEqProofs only [V, ↓reduceIte, reduceEqDiff, reduceAdd, reduceMul, reduceCtorEq, reduceEq, reduceLT, reduceLE, h0]
 refine (f27_l1_run (f := dPr f) (cs := Pr.cells) (B := f) (n := f) (r := r) (C := h2.next) (lo := h8.next) (N := (dCount (dNum (dText (dNum st).2).2).2).1) (F := F) (X := [.val (.int .i64 (dNum st).1), .val (.string (dText (dNum st).2).1), .val (.int .i64 (dNum (dText (dNum st).2).2).1)]) (Y := []) ok Pr.len (dPr_len f) (by omega) (by omega) (by omega) (by omega) rfl rfl rfl
  (dCount (dNum (dText (dNum st).2).2).2).1 0 0 _ (dCount (dNum (dText (dNum st).2).2).2).2 (.val (.slice none 0 0)) [] (by omega) (Nat.le_refl _) ?_ ?_ ?_ ?_ ?_ ?_ ?_ ?_ ?_ ?_ ?_).mono ?_
 ·simp -implicitDefEqProofs only [V, ↓reduceIte, reduceEqDiff, reduceAdd, reduceMul, reduceCtorEq, reduceEq, reduceLT, reduceLE]
  exact hr8
 ·intro hb
  have b1 := dCount_bad hb
  have b2 := dNum_bad b1.2
  have b3 := dText_bad b2.2
  have b4 := dNum_bad b3
  have := hf b4.2
  have := dText_len (dNum st).2
  omega
 ·simp -implicitDefEqProofs only [V, ↓reduceIte, reduceEqDiff, reduceAdd, reduceMul, reduceCtorEq, reduceEq, reduceLT, reduceLE]
  exact hf8.nt (by rw [← e7]; exact NoTag.put (hf6.nt (hf5.nt hnt)))
 ·simp -implicitDefEqProofs only [V, ↓reduceIte, reduceEqDiff, reduceAdd, reduceMul, reduceCtorEq, reduceEq, reduceLT, reduceLE]
  exact .nil
 ·simp -implicitDefEqProofs only [V, ↓reduceIte, reduceEqDiff, reduceAdd, reduceMul, reduceCtorEq, reduceEq, reduceLT, reduceLE]
  exact Nat.le_refl _
 ·simp -implicitDefEqProofs only [V, ↓reduceIte, reduceEqDiff, reduceAdd, reduceMul, reduceCtorEq, reduceEq, reduceLT, reduceLE]
  exact hB8
 ·simp -implicitDefEqProofs only [V, ↓reduceIte, reduceEqDiff, reduceAdd, reduceMul, reduceCtorEq, reduceEq, reduceLT, reduceLE, h0]
 ·simp -implicitDefEqProofs only [V, ↓reduceIte, reduceEqDiff, reduceAdd, reduceMul, reduceCtorEq, reduceEq, reduceLT, reduceLE]
 ·simp -implicitDefEqProofs only [V, ↓reduceIte, reduceEqDiff, reduceAdd, reduceMul, reduceCtorEq, reduceEq, reduceLT, reduceLE] <;> rfl
 ·simp -implicitDefEqProofs only [V, ↓reduceIte, reduceEqDiff, reduceAdd, reduceMul, reduceCtorEq, reduceEq, reduceLT, reduceLE]
 ·simp -implicitDefEqProofs only [V, ↓reduceIte, reduceEqDiff, reduceAdd, reduceMul, reduceCtorEq, reduceEq, reduceLT, reduceLE, hd]
 rintro e s9 ⟨rfl, ⟨⟨w, ps, a1, a2, a3⟩, b1, b2, b3, b4, b5⟩, k0, k3, k2⟩
 simp -implicitDefEqProofs only [V, ↓reduceIte, reduceEqDiff, reduceAdd, reduceMul, reduceCtorEq, reduceEq, reduceLT, reduceLE, hd] at b3 b4 b5 k2
 have hbeq : Nat.beq 0 0 = true := rfl
 have hv := a1.cells
 have hA9 : s9.h.get s.h.next = some (.cells zPr true) := by rw [b4 _ (by omega) (by omega) (by omega), hA8]
 have a3 : s9.h.get h2.next = some (.cells [.val (.int .i64 (dNum st).1), .val (.string (dText (dNum st).2).1), .val (.int .i64 (dNum (dText (dNum st).2).2).1), w] true) := a3
 have hst10 := st_all (n := 4) (l := [.val (.int .i64 (dNum st).1), .val (.string (dText (dNum st).2).1), .val (.int .i64 (dNum (dText (dNum st).2).2).1), w]) hA9 rfl rfl
 simp -implicitDefEqProofs only [V, ↓reduceIte, reduceEqDiff, reduceAdd, reduceMul, reduceCtorEq, reduceEq, reduceLT, reduceLE, hbeq, k2, k3, a3, take4, hst10, b5]
 rw [Nat.zero_add] at a1
 have hps : ps.map (·.2) = (dRow (dPr f) (dNum (dText (dNum st).2).2).2).1.flatMap Pr.cells := a2
 refine ⟨_, rfl, [(.val (.int .i64 (dNum st).1), .val (.int .i64 (dNum st).1)), (.val (.string (dText (dNum st).2).1), .val (.string (dText (dNum st).2).1)), (.val (.int .i64 (dNum (dText (dNum st).2).2).1), .val (.int .i64 (dNum (dText (dNum st).2).2).1)), (w, kidsA (ps.map (·.2)) (dRow (dPr f) (dNum (dText (dNum st).2).2).2).1.length nilRow none)], rfl, ?_, ?_, ?_, ?_⟩
 ·simp only [dPr, Pr.cells, Pr.cellsL_eq, hps, List.map_cons, List.map_nil]
 ·intro q hq
  simp only [List.mem_cons, List.mem_nil_iff, or_false] at hq
  rcases hq with rfl | rfl | rfl | rfl
  ·exact Rep.leaf (Leaf.val _)
  ·exact Rep.leaf (Leaf.val _)
  ·exact Rep.leaf (Leaf.val _)
  ·exact rep_same (by omega) (by rw [p_next]; exact Nat.le_refl _) (fun x x1 x2 => by rw [get_put_old (by omega)]) a1.rep
 ·exact b1.other (by omega)
 ·have t : Fd s.h s9.h r := ⟨by omega, fun x hx hxr => by rw [b4 x (by omega) hxr (by omega), (hf7.trans hf8).get x hx hxr], fun _ => b2⟩
  exact t.above (by omega)
theorem pred27_ok {F : List UInt8} (hF : F.length < 2 ^ 28) : ∀ f, OneD 27 (dPr f) Pr.cells f f F
 | 0 => fun h r st _ _ _ hl => absurd hl (Nat.not_lt_zero _)
 | f + 1 => OneD.of fun h r st hr hnt hb hl => pred27_any f (pred27_ok hF f) hr hnt (fun _ => hl) hF
set_option maxHeartbeats 2000000 in
theorem big55_any {B : Nat} {F : List UInt8} {h : AH} {r : Nat} {st : RS} (hr : Rq h r F st) (hnt : NoTag h) (hF : F.length < 2 ^ 28) :
  ∃ v h', RunCall E1 (.f 55) [.ptr r 0] h v h' ∧ TwoTo h r 1 F Bg.cells (dBg st).1 (dBg st).2 v h' := by
 refine ptr0 _ (by kernel_rfl) f55_ok fun s hs hh hd hrd => ?_
 have h0 := hs 0 _ rfl
 subst hh
 have rl := hr.1
 have hrlen := hr.len
 have hA1 : (s.h.alloc (.cells zBg true)).get s.h.next = some (.cells zBg true) := box_get
 have hF60 : F.length < 2 ^ 60 := by omega
 simp -implicitDefEqProofs only [f55_fn, f55, V, ↓reduceIte, reduceEqDiff, reduceAdd, reduceMul, reduceCtorEq, reduceEq, reduceLT, reduceLE, h0]
 refine callK_of (truth76_call hr.alloc hF60) ?_
 rintro v h2 ⟨⟨rfl, hr2, hf2⟩, hn2⟩
 have hf2 : Fd (s.h.alloc (.cells zBg true)) h2 r := hf2
 have hn2 : h2.next = s.h.next + 1 := hn2
 have hA2 : h2.get s.h.next = some (.cells zBg true) := hf2.keep (by rw [a_next]; omega) (by omega) hA1
 have hfill : ∀ s' : St, s'.eval (.t 7) = some (.val (.bool (dTruth st).1)) → fill s' [.val (.bool false), .val (.slice none 0 0)] [(0, 1, .t 7)] = some [.val (.bool (dTruth st).1), .val (.slice none 0 0)] := fun s' e => fill_head e rfl
 have hst3 := store_new (h := h2) (z := zBg) (l := [.val (.bool (dTruth st).1), .val (.slice none 0 0)]) (n := 2) rfl rfl
 rw [zBg] at hst3
 simp -implicitDefEqProofs only [V, ↓reduceIte, reduceEqDiff, reduceAdd, reduceMul, reduceCtorEq, reduceEq, reduceLT, reduceLE, h0, hfill, hst3]
 generalize e3 : (h2.alloc (.cells [.val (.bool false), .val (.slice none 0 0)] true)).put h2.next (some (.cells [.val (.bool (dTruth st).1), .val (.slice none 0 0)] true)) = h3
 have hn3 : h3.next = s.h.next + 2 := by rw [← e3, p_next, a_next, hn2]
 have hB3 : h3.get h2.next = some (.cells [.val (.bool (dTruth st).1), .val (.slice none 0 0)] true) := by rw [← e3, put_get]
 have hA3 : h3.get s.h.next = some (.cells zBg true) := by rw [← e3, get_put_old (by omega), get_alloc_old (by omega), hA2]
 have hr3 : Rq h3 r F (dTruth st).2 := by rw [← e3]; exact hr2.alloc.other (by omega)
 have hf3 : Fd s.h h3 r := by rw [← e3]; exact ((Fd.alloc.trans hf2).trans Fd.alloc).above (by omega)
 refine callK_of (count26_call hr3 hF60) ?_
 rintro v h8 ⟨⟨rfl, hr8, hf8⟩, hn8⟩
 have hf8 : Fd h3 h8 r := hf8
 have hn8 : h8.next = h3.next := hn8
 have hB8 := hf8.keep (by omega) (by omega) hB3
 have hA8 := hf8.keep (by omega) (by omega) hA3
 have hcl := dCount_le (dTruth st).2
 have hcl2 := hr8.len
 simp -implicitDefEqProofs only [V, ↓reduceIte, reduceEqDiff, reduceAdd, reduceMul, reduceCtorEq, reduceEq, reduceLT, reduceLE, h0]
 refine (f55_l1_run (f := dNum) (cs := intC) (B := 2 ^ 28) (n := 0) (r := r) (C := h2.next) (lo := h8.next) (N := (dCount (dTruth st).2).1) (F := F) (X := [.val (.bool (dTruth st).1)]) (Y := []) (num_oneD hF60) (fun _ => rfl) dNum_len (by omega) (by omega) (by omega) (by omega) rfl rfl rfl
  (dCount (dTruth st).2).1 0 0 _ (dCount (dTruth st).2).2 (.val (.slice none 0 0)) [] (by omega) (Nat.le_refl _) ?_ ?_ ?_ ?_ ?_ ?_ ?_ ?_ ?_ ?_ ?_).mono ?_
 ·simp -implicitDefEqProofs only [V, ↓reduceIte, reduceEqDiff, reduceAdd, reduceMul, reduceCtorEq, reduceEq, reduceLT, reduceLE]
  exact hr8
 ·intro hb
  omega
 ·simp -implicitDefEqProofs only [V, ↓reduceIte, reduceEqDiff, reduceAdd, reduceMul, reduceCtorEq, reduceEq, reduceLT, reduceLE]
  exact hf8.nt (hf3.nt hnt)
 ·simp -implicitDefEqProofs only [V, ↓reduceIte, reduceEqDiff, reduceAdd, reduceMul, reduceCtorEq, reduceEq, reduceLT, reduceLE]
  exact .nil
 ·simp -implicitDefEqProofs only [V, ↓reduceIte, reduceEqDiff, reduceAdd, reduceMul, reduceCtorEq, reduceEq, reduceLT, reduceLE]
  exact Nat.le_refl _
 ·simp -implicitDefEqProofs only [V, ↓reduceIte, reduceEqDiff, reduceAdd, reduceMul, reduceCtorEq, reduceEq, reduceLT, reduceLE]
  exact hB8
 ·simp -implicitDefEqProofs only [V, ↓reduceIte, reduceEqDiff, reduceAdd, reduceMul, reduceCtorEq, reduceEq, reduceLT, reduceLE, h0]
 ·simp -implicitDefEqProofs only [V, ↓reduceIte, reduceEqDiff, reduceAdd, reduceMul, reduceCtorEq, reduceEq, reduceLT, reduceLE]
 ·simp -implicitDefEqProofs only [V, ↓reduceIte, reduceEqDiff, reduceAdd, reduceMul, reduceCtorEq, reduceEq, reduceLT, reduceLE] <;> rfl
 ·simp -implicitDefEqProofs only [V, ↓reduceIte, reduceEqDiff, reduceAdd, reduceMul, reduceCtorEq, reduceEq, reduceLT, reduceLE]
 ·simp -implicitDefEqProofs only [V, ↓reduceIte, reduceEqDiff, reduceAdd, reduceMul, reduceCtorEq, reduceEq, reduceLT, reduceLE, hd]
 rintro e s9 ⟨rfl, ⟨⟨w, ps, a1, a2, a3⟩, b1, b2, b3, b4, b5⟩, k0, k3, k2⟩
 simp -implicitDefEqProofs only [V, ↓reduceIte, reduceEqDiff, reduceAdd, reduceMul, reduceCtorEq, reduceEq, reduceLT, reduceLE, hd] at b3 b4 b5 k2
 have hbeq : Nat.beq 0 0 = true := rfl
 have hv := a1.cells
 have hA9 : s9.h.get s.h.next = some (.cells zBg true) := by rw [b4 _ (by omega) (by omega) (by omega), hA8]
 have a3 : s9.h.get h2.next = some (.cells [.val (.bool (dTruth st).1), w] true) := a3
 have hst10 := st_all (n := 2) (l := [.val (.bool (dTruth st).1), w]) hA9 rfl rfl
 simp -implicitDefEqProofs only [V, ↓reduceIte, reduceEqDiff, reduceAdd, reduceMul, reduceCtorEq, reduceEq, reduceLT, reduceLE, hbeq, k2, k3, a3, take2, hst10, b5]
 rw [Nat.zero_add] at a1
 have hps : ps.map (·.2) = (dRow dNum (dTruth st).2).1.flatMap intC := a2
 refine ⟨_, rfl, [(.val (.bool (dTruth st).1), .val (.bool (dTruth st).1)), (w, kidsA (ps.map (·.2)) (dRow dNum (dTruth st).2).1.length nilRow none)], rfl, ?_, ?_, ?_, ?_⟩
 ·simp only [dBg, Bg.cells, Bg.neg, Bg.dsA, hps, List.map_cons, List.map_nil]
  rfl
 ·intro q hq
  simp only [List.mem_cons, List.mem_nil_iff, or_false] at hq
  rcases hq with rfl | rfl
  ·exact Rep.leaf (Leaf.val _)
  ·exact rep_same (by omega) (by rw [p_next]; exact Nat.le_refl _) (fun x x1 x2 => by rw [get_put_old (by omega)]) a1.rep
 ·exact b1.other (by omega)
 ·have t : Fd s.h s9.h r := ⟨by omega, fun x hx hxr => by rw [b4 x (by omega) hxr (by omega), (hf3.trans hf8).get x hx hxr], fun _ => b2⟩
  exact t.above (by omega)
theorem big55_ok {B : Nat} {F : List UInt8} (hF : F.length < 2 ^ 28) : OneD 55 dBg Bg.cells B 1 F := OneD.of fun h r st hr hnt hb hl => big55_any (B := 0) hr hnt hF
set_option maxHeartbeats 4000000 in
theorem proof28_any (f : Nat) {F : List UInt8} (ok : OneD 28 (dPf f) Pf.cells f (f + 2) F) {h : AH} {r : Nat} {st : RS} (hr : Rq h r F st) (hnt : NoTag h) (hf : st.bad = false → st.rest.length < f + 1) (hF : F.length < 2 ^ 28) :
  ∃ v h', RunCall E1 (.f 28) [.ptr r 0] h v h' ∧ TwoTo h r (f + 3) F Pf.cells (dPf (f + 1) st).1 (dPf (f + 1) st).2 v h' := by
 refine ptr0 _ (by kernel_rfl) f28_ok fun s hs hh hd hrd => ?_
 have h0 := hs 0 _ rfl
 subst hh
 have rl := hr.1
 have hrlen := hr.len
 have hA1 : (s.h.alloc (.cells zPf true)).get s.h.next = some (.cells zPf true) := box_get
 have hF60 : F.length < 2 ^ 60 := by omega
 simp -implicitDefEqProofs only [f28_fn, f28, V, ↓reduceIte, reduceEqDiff, reduceAdd, reduceMul, reduceCtorEq, reduceEq, reduceLT, reduceLE, h0]
 refine callK_of (number25_call hr.alloc hF60) ?_
 rintro v h2 ⟨⟨rfl, hr2, hf2⟩, hn2⟩
 have hf2 : Fd (s.h.alloc (.cells zPf true)) h2 r := hf2
 have hn2 : h2.next = s.h.next + 1 := hn2
 have hA2 : h2.get s.h.next = some (.cells zPf true) := hf2.keep (by rw [a_next]; omega) (by omega) hA1
 have hfill : ∀ s' : St, s'.eval (.t 8) = some (.val (.int .i64 (dNum st).1)) → fill s' [.val (.int .i64 0), .val (.int .i64 0), .val (.slice none 0 0), .val (.slice none 0 0)] [(0, 1, .t 8)] = some [.val (.int .i64 (dNum st).1), .val (.int .i64 0), .val (.slice none 0 0), .val (.slice none 0 0)] := fun s' e => fill_head e rfl
 have hst3 := store_new (h := h2) (z := zPf) (l := [.val (.int .i64 (dNum st).1), .val (.int .i64 0), .val (.slice none 0 0), .val (.slice none 0 0)]) (n := 4) rfl rfl
 rw [zPf] at hst3
 simp -implicitDefEqProofs only [V, ↓reduceIte, reduceEqDiff, reduceAdd, reduceMul, reduceCtorEq, reduceEq, reduceLT, reduceLE, h0, hfill, hst3]
 generalize e3 : (h2.alloc (.cells [.val (.int .i64 0), .val (.int .i64 0), .val (.slice none 0 0), .val (.slice none 0 0)] true)).put h2.next (some (.cells [.val (.int .i64 (dNum st).1), .val (.int .i64 0), .val (.slice none 0 0), .val (.slice none 0 0)] true)) = h3
 have hn3 : h3.next = s.h.next + 2 := by rw [← e3, p_next, a_next, hn2]
 have hB3 : h3.get h2.next = some (.cells [.val (.int .i64 (dNum st).1), .val (.int .i64 0), .val (.slice none 0 0), .val (.slice none 0 0)] true) := by rw [← e3, put_get]
 have hA3 : h3.get s.h.next = some (.cells zPf true) := by rw [← e3, get_put_old (by omega), get_alloc_old (by omega), hA2]
 have hr3 : Rq h3 r F (dNum st).2 := by rw [← e3]; exact hr2.alloc.other (by omega)
 have hf3 : Fd s.h h3 r := by rw [← e3]; exact ((Fd.alloc.trans hf2).trans Fd.alloc).above (by omega)
 refine callK_of (number25_call hr3 hF60) ?_
 rintro v h4 ⟨⟨rfl, hr4, hf4⟩, hn4⟩
 have hf4 : Fd h3 h4 r := hf4
 have hn4 : h4.next = h3.next := hn4
 have hB4 := hf4.keep (by omega) (by omega) hB3
 have hA4 := hf4.keep (by omega) (by omega) hA3
 have hst5 := st_at (i := 1) (x := .val (.int .i64 (dNum (dNum st).2).1)) hB4 (by simp)
 simp only [List.set_cons_succ, List.set_cons_zero] at hst5
 simp -implicitDefEqProofs only [V, ↓reduceIte, reduceEqDiff, reduceAdd, reduceMul, reduceCtorEq, reduceEq, reduceLT, reduceLE, h0, hst5]
 generalize e5 : h4.put h2.next (some (.cells [.val (.int .i64 (dNum st).1), .val (.int .i64 (dNum (dNum st).2).1), .val (.slice none 0 0), .val (.slice none 0 0)] true)) = h5
 have hn5 : h5.next = s.h.next + 2 := by rw [← e5, p_next]; omega
 have hB5 : h5.get h2.next = some (.cells [.val (.int .i64 (dNum st).1), .val (.int .i64 (dNum (dNum st).2).1), .val (.slice none 0 0), .val (.slice none 0 0)] true) := by rw [← e5, put_get]
 have hA5 : h5.get s.h.next = some (.cells zPf true) := by rw [← e5, get_put_old (by omega), hA4]
 have hr5 : Rq h5 r F (dNum (dNum st).2).2 := by rw [← e5]; exact hr4.other (by omega)
 have hf5 : Fd s.h h5 r := by rw [← e5]; exact (hf3.trans hf4).above (by omega)
 refine callK_of (count26_call hr5 hF60) ?_
 rintro v h8 ⟨⟨rfl, hr8, hf8⟩, hn8⟩
 have hf8 : Fd h5 h8 r := hf8
 have hn8 : h8.next = h5.next := hn8
 have hB8 := hf8.keep (by omega) (by omega) hB5
 have hA8 := hf8.keep (by omega) (by omega) hA5
 have hcl := dCount_le (dNum (dNum st).2).2
 have hcl2 := hr8.len
 simp -implicitDefEqProofs only [V, ↓reduceIte, reduceEqDiff, reduceAdd, reduceMul, reduceCtorEq, reduceEq, reduceLT, reduceLE, h0]
 refine (f28_l1_run (f := dBg) (cs := Bg.cells) (B := 2 ^ 28) (n := 1) (r := r) (C := h2.next) (lo := h8.next) (N := (dCount (dNum (dNum st).2).2).1) (F := F) (X := [.val (.int .i64 (dNum st).1), .val (.int .i64 (dNum (dNum st).2).1)]) (Y := [.val (.slice none 0 0)]) (big55_ok hF) (fun _ => rfl) dBg_len (by omega) (by omega) (by omega) (by omega) rfl rfl rfl
  (dCount (dNum (dNum st).2).2).1 0 0 _ (dCount (dNum (dNum st).2).2).2 (.val (.slice none 0 0)) [] (by omega) (Nat.le_refl _) ?_ ?_ ?_ ?_ ?_ ?_ ?_ ?_ ?_ ?_ ?_).mono ?_
 ·simp -implicitDefEqProofs only [V, ↓reduceIte, reduceEqDiff, reduceAdd, reduceMul, reduceCtorEq, reduceEq, reduceLT, reduceLE]
  exact hr8
 ·intro hb
  omega
 ·simp -implicitDefEqProofs only [V, ↓reduceIte, reduceEqDiff, reduceAdd, reduceMul, reduceCtorEq, reduceEq, reduceLT, reduceLE]
  exact hf8.nt (hf5.nt hnt)
 ·simp -implicitDefEqProofs only [V, ↓reduceIte, reduceEqDiff, reduceAdd, reduceMul, reduceCtorEq, reduceEq, reduceLT, reduceLE]
  exact .nil
 ·simp -implicitDefEqProofs only [V, ↓reduceIte, reduceEqDiff, reduceAdd, reduceMul, reduceCtorEq, reduceEq, reduceLT, reduceLE]
  exact Nat.le_refl _
 ·simp -implicitDefEqProofs only [V, ↓reduceIte, reduceEqDiff, reduceAdd, reduceMul, reduceCtorEq, reduceEq, reduceLT, reduceLE]
  exact hB8
 ·simp -implicitDefEqProofs only [V, ↓reduceIte, reduceEqDiff, reduceAdd, reduceMul, reduceCtorEq, reduceEq, reduceLT, reduceLE, h0]
 ·simp -implicitDefEqProofs only [V, ↓reduceIte, reduceEqDiff, reduceAdd, reduceMul, reduceCtorEq, reduceEq, reduceLT, reduceLE]
 ·simp -implicitDefEqProofs only [V, ↓reduceIte, reduceEqDiff, reduceAdd, reduceMul, reduceCtorEq, reduceEq, reduceLT, reduceLE] <;> rfl
 ·simp -implicitDefEqProofs only [V, ↓reduceIte, reduceEqDiff, reduceAdd, reduceMul, reduceCtorEq, reduceEq, reduceLT, reduceLE]
 ·simp -implicitDefEqProofs only [V, ↓reduceIte, reduceEqDiff, reduceAdd, reduceMul, reduceCtorEq, reduceEq, reduceLT, reduceLE, hd]
 rintro e s9 ⟨rfl, ⟨⟨w, ps, a1, a2, a3⟩, b1, b2, b3, b4, b5⟩, k0, k3, k2⟩
 simp -implicitDefEqProofs only [V, ↓reduceIte, reduceEqDiff, reduceAdd, reduceMul, reduceCtorEq, reduceEq, reduceLT, reduceLE, hd] at b3 b4 b5 k2
 have hbeq : Nat.beq 0 0 = true := rfl
 have hbeq2 : Nat.beq 2 2 = true := rfl
 have hA9 : s9.h.get s.h.next = some (.cells zPf true) := by rw [b4 _ (by omega) (by omega) (by omega), hA8]
 have a3 : s9.h.get h2.next = some (.cells [.val (.int .i64 (dNum st).1), .val (.int .i64 (dNum (dNum st).2).1), w, .val (.slice none 0 0)] true) := a3
 rw [Nat.zero_add] at a1
 have hps : ps.map (·.2) = (dRow dBg (dNum (dNum st).2).2).1.flatMap Bg.cells := a2
 have b1 : Rq s9.h r F (dRow dBg (dNum (dNum st).2).2).2 := b1
 have a1 : RowR s9.h h8.next 1 (dRow dBg (dNum (dNum st).2).2).1.length 2 w ps := a1
 have hwi : idsL [.val (.int .i64 (dNum st).1), .val (.int .i64 (dNum (dNum st).2).1), w] = ids w := by simp only [idsL, ids, List.nil_append, List.append_nil]
 simp -implicitDefEqProofs only [V, ↓reduceIte, reduceEqDiff, reduceAdd, reduceMul, reduceCtorEq, reduceEq, reduceLT, reduceLE, hbeq, k0]
 refine callK_of (count26_call b1 hF60) ?_
 rintro v h10 ⟨⟨rfl, hr10, hf10⟩, hn10⟩
 have hf10 : Fd s9.h h10 r := hf10
 have hn10 : h10.next = s9.h.next := hn10
 have hB10 := hf10.keep (by omega) (by omega) a3
 have hA10 := hf10.keep (by omega) (by omega) hA9
 have hcl' := dCount_le (dRow dBg (dNum (dNum st).2).2).2
 have hcl2' := hr10.len
 have hwb : below h10.next (idsL [.val (.int .i64 (dNum st).1), .val (.int .i64 (dNum (dNum st).2).1), w]) = true := by
  rw [hwi]
  exact below_le a1.at.2.2 (by omega)
 simp -implicitDefEqProofs only [V, ↓reduceIte, reduceEqDiff, reduceAdd, reduceMul, reduceCtorEq, reduceEq, reduceLT, reduceLE, k0]
 refine (f28_l3_run (f := dPf f) (cs := Pf.cells) (B := f) (n := f + 2) (r := r) (C := h2.next) (lo := h10.next) (N := (dCount (dRow dBg (dNum (dNum st).2).2).2).1) (F := F) (X := [.val (.int .i64 (dNum st).1), .val (.int .i64 (dNum (dNum st).2).1), w]) (Y := []) ok Pf.len (dPf_len f) (by omega) (by omega) (by omega) (by omega) rfl hwb rfl
  (dCount (dRow dBg (dNum (dNum st).2).2).2).1 0 0 _ (dCount (dRow dBg (dNum (dNum st).2).2).2).2 (.val (.slice none 0 0)) [] (by omega) (Nat.le_refl _) ?_ ?_ ?_ ?_ ?_ ?_ ?_ ?_ ?_ ?_ ?_).mono ?_
 ·simp -implicitDefEqProofs only [V, ↓reduceIte, reduceEqDiff, reduceAdd, reduceMul, reduceCtorEq, reduceEq, reduceLT, reduceLE]
  exact hr10
 ·intro hb
  have c1 := dCount_bad hb
  have c2 : (dCount (dNum (dNum st).2).2).2.bad = false := (rList_inv dBg_len (dBg_inv (F.length + 1)) _ _ (by have := hr8.len; omega) c1.2).1
  have c3 := dCount_bad c2
  have c4 := dNum_bad c3.2
  have c5 := dNum_bad c4.2
  have := hf c5.2
  have := dRow_len dBg_len (dNum (dNum st).2).2
  omega
 ·simp -implicitDefEqProofs only [V, ↓reduceIte, reduceEqDiff, reduceAdd, reduceMul, reduceCtorEq, reduceEq, reduceLT, reduceLE]
  exact hf10.nt b2
 ·simp -implicitDefEqProofs only [V, ↓reduceIte, reduceEqDiff, reduceAdd, reduceMul, reduceCtorEq, reduceEq, reduceLT, reduceLE]
  exact .nil
 ·simp -implicitDefEqProofs only [V, ↓reduceIte, reduceEqDiff, reduceAdd, reduceMul, reduceCtorEq, reduceEq, reduceLT, reduceLE]
  exact Nat.le_refl _
 ·simp -implicitDefEqProofs only [V, ↓reduceIte, reduceEqDiff, reduceAdd, reduceMul, reduceCtorEq, reduceEq, reduceLT, reduceLE]
  exact hB10
 ·simp -implicitDefEqProofs only [V, ↓reduceIte, reduceEqDiff, reduceAdd, reduceMul, reduceCtorEq, reduceEq, reduceLT, reduceLE, k0]
 ·simp -implicitDefEqProofs only [V, ↓reduceIte, reduceEqDiff, reduceAdd, reduceMul, reduceCtorEq, reduceEq, reduceLT, reduceLE, k3]
 ·simp -implicitDefEqProofs only [V, ↓reduceIte, reduceEqDiff, reduceAdd, reduceMul, reduceCtorEq, reduceEq, reduceLT, reduceLE] <;> rfl
 ·simp -implicitDefEqProofs only [V, ↓reduceIte, reduceEqDiff, reduceAdd, reduceMul, reduceCtorEq, reduceEq, reduceLT, reduceLE]
 ·simp -implicitDefEqProofs only [V, ↓reduceIte, reduceEqDiff, reduceAdd, reduceMul, reduceCtorEq, reduceEq, reduceLT, reduceLE, b5]
 rintro e s11 ⟨rfl, ⟨⟨w', qs, d1, d2, d3⟩, e1, e2, e3, e4, e5⟩, l0, l3, l2⟩
 simp -implicitDefEqProofs only [V, ↓reduceIte, reduceEqDiff, reduceAdd, reduceMul, reduceCtorEq, reduceEq, reduceLT, reduceLE, k2, b5] at e3 e4 e5 l2
 have hA11 : s11.h.get s.h.next = some (.cells zPf true) := by rw [e4 _ (by omega) (by omega) (by omega), hA10]
 have d3 : s11.h.get h2.next = some (.cells [.val (.int .i64 (dNum st).1), .val (.int .i64 (dNum (dNum st).2).1), w, w'] true) := d3
 have hst10 := st_all (n := 4) (l := [.val (.int .i64 (dNum st).1), .val (.int .i64 (dNum (dNum st).2).1), w, w']) hA11 rfl rfl
 simp -implicitDefEqProofs only [V, ↓reduceIte, reduceEqDiff, reduceAdd, reduceMul, reduceCtorEq, reduceEq, reduceLT, reduceLE, hbeq2, l2, l3, d3, take4, hst10, e5]
 rw [Nat.zero_add] at d1
 have hqs : qs.map (·.2) = (dRow (dPf f) (dRow dBg (dNum (dNum st).2).2).2).1.flatMap Pf.cells := d2
 refine ⟨_, rfl, [(.val (.int .i64 (dNum st).1), .val (.int .i64 (dNum st).1)), (.val (.int .i64 (dNum (dNum st).2).1), .val (.int .i64 (dNum (dNum st).2).1)), (w, kidsA (ps.map (·.2)) (dRow dBg (dNum (dNum st).2).2).1.length nilRow none), (w', kidsA (qs.map (·.2)) (dRow (dPf f) (dRow dBg (dNum (dNum st).2).2).2).1.length nilRow none)], rfl, ?_, ?_, ?_, ?_⟩
 ·simp only [dPf, Pf.cells, Pf.cellsL_eq, hps, hqs, List.map_cons, List.map_nil]
 ·intro q hq
  simp only [List.mem_cons, List.mem_nil_iff, or_false] at hq
  rcases hq with rfl | rfl | rfl | rfl
  ·exact Rep.leaf (Leaf.val _)
  ·exact Rep.leaf (Leaf.val _)
  ·refine Rep.to (by omega) (by rw [p_next]; omega) (fun x x1 x2 cs rw' q => ⟨rw', ?_⟩) (by omega) a1.rep
   rw [get_put_old (by omega), e4 x (by omega) (by omega) (by omega), hf10.get x x2 (by omega), q]
  ·exact rep_same (by omega) (by rw [p_next]; exact Nat.le_refl _) (fun x x1 x2 => by rw [get_put_old (by omega)]) d1.rep
 ·exact e1.other (by omega)
 ·have t : Fd s.h s11.h r := ⟨by omega, fun x hx hxr => by rw [e4 x (by omega) hxr (by omega), hf10.get x (by omega) hxr, b4 x (by omega) hxr (by omega), (hf5.trans hf8).get x hx hxr], fun _ => e2⟩
  exact t.above (by omega)
theorem proof28_ok {F : List UInt8} (hF : F.length < 2 ^ 28) : ∀ f, OneD 28 (dPf f) Pf.cells f (f + 2) F
 | 0 => fun h r st _ _ _ hl => absurd hl (Nat.not_lt_zero _)
 | f + 1 => OneD.of fun h r st hr hnt hb hl => proof28_any f (proof28_ok hF f) hr hnt (fun _ => hl) hF
end Go.Proofs.YtijpnlmmaoecgaaGreatDoor

namespace Go.Proofs.YtijpnlmmaoecgaaGreatDoor
open Go Go.AM
theorem xor_i64 {P : Program} {t : TypeId} {g : Bool} {a b : Nat} (ha : a < 2 ^ 32) (hb : b < 2 ^ 32) : binA P .xor t g (.val (.int .i64 (a : Nat))) (.val (.int .i64 (b : Nat))) = some (.val (.int .i64 ((a ^^^ b : Nat) : Int))) := by
 have hx : a ^^^ b < 2 ^ 32 := Nat.xor_lt_two_pow ha hb
 rw [v_xor, ofInt_nat, ofInt_nat, BitVec.toNat_xor, BitVec.toNat_ofNat, BitVec.toNat_ofNat]
 have : IntKind.i64.bits = 64 := rfl
 rw [this, Nat.mod_eq_of_lt (by omega), Nat.mod_eq_of_lt (by omega), wrap_in (by omega)]
theorem f54_loop (t : ByteArray) (hp : t.data.toList.length < 2 ^ 60) : ∀ (r : List UInt8) (i h : Nat) (s : St), t.data.toList.drop i = r → h < 4294967296 →
  s.eval (.t 0) = some (.val (.string t)) → s.eval (.t 3) = some (.val (.int .i64 (h : Nat))) → s.eval (.t 6) = some (.val (.int .i64 (t.data.toList.length : Nat))) → s.eval (.t 7) = some (.val (.int .i64 (i : Nat))) → s.defers = [] →
  Run E1 f54_l0 s fun e s' => e = .exit 0 ∧ s'.defers = [] ∧ s'.eval (.t 3) = some (.val (.int .i64 (r.foldl fnv1 h : Nat)))
 | [], i, h, s, hd, hh, h0, h3, h6, h7, hf => by
  have c1 := dec_ge (List.drop_eq_nil_iff.1 hd)
  apply loop_of (rfl : f54_l0 = .loop f54_b0)
  simp -implicitDefEqProofs only [f54_b0, V, ↓reduceIte, reduceEqDiff, reduceAdd, reduceMul, reduceCtorEq, reduceEq, reduceLT, reduceLE, h0, h3, h6, h7, hf, c1, List.foldl_nil]
 | c :: r, i, h, s, hd, hh, h0, h3, h6, h7, hf => by
  obtain ⟨hlt, hd'⟩ := lt_of_drop hd
  have c1 := dec_lt hlt
  have hc := c.toNat_lt
  have w1 := wrap_succ (i := i) (by omega)
  have w2 : IntKind.i64.wrap ((c.toNat : Nat) : Int) = ((c.toNat : Nat) : Int) := wrap_in (by omega)
  have hx : h ^^^ c.toNat < 2 ^ 32 := Nat.xor_lt_two_pow (by omega) (by omega)
  have x1 := xor_i64 (P := E1.P) (t := 3) (g := false) (a := h) (b := c.toNat) (by omega) (by omega)
  have w3 : IntKind.i64.wrap (((h ^^^ c.toNat : Nat) : Int) * 16777619) = (((h ^^^ c.toNat) * 16777619 : Nat) : Int) := wrap_nat (by rw [Int.natCast_mul]; rfl) (by omega)
  have x2 : binA E1.P .rem 3 true (.val (.int .i64 (((h ^^^ c.toNat) * 16777619 : Nat) : Int))) (.val (.int .i64 4294967296)) = some (.val (.int .i64 ((fnv1 h c : Nat) : Int))) := by
   rw [v_rem (by decide)]
   rfl
  apply loop_of (rfl : f54_l0 = .loop f54_b0)
  simp -implicitDefEqProofs only [f54_b0, V, ↓reduceIte, reduceEqDiff, reduceAdd, reduceMul, reduceCtorEq, reduceEq, reduceLT, reduceLE, h0, h3, h6, h7, c1, idx_str hd, w2, x1, w3, x2, w1]
  refine (f54_loop t hp r (i + 1) (fnv1 h c) _ hd' (fnv1_lt _ _) ?_ ?_ ?_ ?_ ?_).mono ?_
  ·simp -implicitDefEqProofs only [V, ↓reduceIte, reduceEqDiff, reduceAdd, reduceMul, reduceCtorEq, reduceEq, reduceLT, reduceLE, h0]
  ·simp -implicitDefEqProofs only [V, ↓reduceIte, reduceEqDiff, reduceAdd, reduceMul, reduceCtorEq, reduceEq, reduceLT, reduceLE]
  ·simp -implicitDefEqProofs only [V, ↓reduceIte, reduceEqDiff, reduceAdd, reduceMul, reduceCtorEq, reduceEq, reduceLT, reduceLE, h6]
  ·simp -implicitDefEqProofs only [V, ↓reduceIte, reduceEqDiff, reduceAdd, reduceMul, reduceCtorEq, reduceEq, reduceLT, reduceLE]
  ·simp -implicitDefEqProofs only [V, ↓reduceIte, reduceEqDiff, reduceAdd, reduceMul, reduceCtorEq, reduceEq, reduceLT, reduceLE, hf]
  ·rintro e s' ⟨r1, r2, r3⟩
   exact ⟨r1, r2, r3⟩
theorem sum54_call {t : ByteArray} (hp : t.data.toList.length < 2 ^ 60) : ∀ h, RunCall E1 (.f 54) [.val (.string t)] h (.val (.int .i64 (fnv t.data.toList : Nat))) h := by
 refine pure0 (by kernel_rfl) f54_ok (mem1 (Tree.val _)) rfl (Tree.val _) fun s hs hh hd hr => ?_
 have h0 := hs 0 _ rfl
 have q : lenStrV (.val (.string t)) = some (.val (.int .i64 (t.data.toList.length : Nat))) := rfl
 simp -implicitDefEqProofs only [f54_fn, f54, V, ↓reduceIte, reduceEqDiff, reduceAdd, reduceMul, reduceCtorEq, reduceEq, reduceLT, reduceLE, h0, q]
 refine (f54_loop t hp t.data.toList 0 2166136261 _ rfl (by decide) ?_ ?_ ?_ ?_ ?_).mono ?_
 ·simp -implicitDefEqProofs only [V, ↓reduceIte, reduceEqDiff, reduceAdd, reduceMul, reduceCtorEq, reduceEq, reduceLT, reduceLE, h0]
 ·simp -implicitDefEqProofs only [V, ↓reduceIte, reduceEqDiff, reduceAdd, reduceMul, reduceCtorEq, reduceEq, reduceLT, reduceLE] <;> rfl
 ·simp -implicitDefEqProofs only [V, ↓reduceIte, reduceEqDiff, reduceAdd, reduceMul, reduceCtorEq, reduceEq, reduceLT, reduceLE]
 ·simp -implicitDefEqProofs only [V, ↓reduceIte, reduceEqDiff, reduceAdd, reduceMul, reduceCtorEq, reduceEq, reduceLT, reduceLE] <;> rfl
 ·simp -implicitDefEqProofs only [V, ↓reduceIte, reduceEqDiff, reduceAdd, reduceMul, reduceCtorEq, reduceEq, reduceLT, reduceLE, hd]
 ·rintro e s' ⟨rfl, rd, r3⟩
  have hbeq : Nat.beq 0 0 = true := rfl
  have r3 : s'.eval (.t 3) = some (.val (.int .i64 (fnv t.data.toList : Nat))) := r3
  simp -implicitDefEqProofs only [V, ↓reduceIte, reduceEqDiff, reduceAdd, reduceMul, reduceCtorEq, reduceEq, reduceLT, reduceLE, hbeq, rd, r3]
def sealB (l : List UInt8) : List UInt8 := l ++ tail4 (fnv l)
theorem sealed_call {h : AH} {b : Nat} {l : List UInt8} (hb : h.get b = some (.cells (bytesA l) true)) (hn : b < h.next) (hnt : NoTag h) (hl : l.length ≤ 2 ^ 39) :
  ∃ v h', RunCall E1 (.f 23) [.own b 0 l.length 1 none] h v h' ∧ v = .own (h.next + 1) 0 (sealB l).length 1 none ∧ h'.next = h.next + 2 ∧ h'.get (h.next + 1) = some (.cells (bytesA (sealB l)) true) ∧ NoTag h' := by
 refine shared0 _ (by kernel_rfl) f23_ok fun s hs hh hd hr => ?_
 have h0 := hs 0 _ rfl
 subst hh
 have hstr : strB s.h (.own b 0 l.length 1 none) = some (.val (.string ⟨l.toArray⟩)) := by
  have := elems_row (cap := none) hb (bytesA_len _)
  simp only [strB, this, bytesA_of, Option.map_some]
 have hsum := sum54_call (t := ⟨l.toArray⟩) (by show l.length < _; omega)
 have ee : (⟨l.toArray⟩ : ByteArray).data.toList = l := rfl
 rw [ee] at hsum
 have hfl := fnv_lt l
 have z24 := fun k' : IntKind => shr_n (P := E1.P) (t := 3) (g := true) (u := fnv l) (k := 24) (k' := k') (by omega)
 have z16 := fun k' : IntKind => shr_n (P := E1.P) (t := 3) (g := true) (u := fnv l) (k := 16) (k' := k') (by omega)
 have z8 := fun k' : IntKind => shr_n (P := E1.P) (t := 3) (g := true) (u := fnv l) (k := 8) (k' := k') (by omega)
 have e24 : ((24 : Nat) : Int) = 24 := rfl
 have e16 : ((16 : Nat) : Int) = 16 := rfl
 have e8 : ((8 : Nat) : Int) = 8 := rfl
 rw [e24] at z24
 rw [e16] at z16
 rw [e8] at z8
 have m1 : IntKind.u8.wrap ((fnv l / 2 ^ 24 : Nat) : Int) = ((fnv l / 2 ^ 24 % 256 : Nat) : Int) := wrap_u8_mod _
 have m2 : IntKind.u8.wrap ((fnv l / 2 ^ 16 : Nat) : Int) = ((fnv l / 2 ^ 16 % 256 : Nat) : Int) := wrap_u8_mod _
 have m3 : IntKind.u8.wrap ((fnv l / 2 ^ 8 : Nat) : Int) = ((fnv l / 2 ^ 8 % 256 : Nat) : Int) := wrap_u8_mod _
 have m4 : IntKind.u8.wrap ((fnv l : Nat) : Int) = ((fnv l % 256 : Nat) : Int) := wrap_u8_mod _
 have hfill : ∀ s' : St, s'.eval (.t 10) = some (.val (.int .u8 ((fnv l / 2 ^ 24 % 256 : Nat) : Int))) → s'.eval (.t 13) = some (.val (.int .u8 ((fnv l / 2 ^ 16 % 256 : Nat) : Int))) → s'.eval (.t 16) = some (.val (.int .u8 ((fnv l / 2 ^ 8 % 256 : Nat) : Int))) → s'.eval (.t 18) = some (.val (.int .u8 ((fnv l % 256 : Nat) : Int))) →
   fill s' [.val (.int .u8 0), .val (.int .u8 0), .val (.int .u8 0), .val (.int .u8 0)] [(0, 1, .t 10), (1, 1, .t 13), (2, 1, .t 16), (3, 1, .t 18)] = some (bytesA (tail4 (fnv l))) := fun s' h1 h2 h3 h4 => by
  rw [fill_four h1 h2 h3 h4, tail_cells]
 simp -implicitDefEqProofs only [f23_fn, f23, V, ↓reduceIte, reduceEqDiff, reduceAdd, reduceMul, reduceCtorEq, reduceEq, reduceLT, reduceLE, h0, hstr, callK_all hsum, z24, z16, z8, m1, m2, m3, m4, hfill]
 have t4 := tail4_len (fnv l)
 refine app_bytes' (b := b) (cap := none) (x := .own s.h.next 0 4 1 (some 4)) (l := l) (new := tail4 (fnv l)) (List.cons_ne_nil _ _) (.inl rfl) ?_ ?_ (by rw [t4]; omega) ?_ ?_ ?_ ?_
 ·simp -implicitDefEqProofs only [V, ↓reduceIte, reduceEqDiff, reduceAdd, reduceMul, reduceCtorEq, reduceEq, reduceLT, reduceLE]
  exact hnt.alloc
 ·simp -implicitDefEqProofs only [V, ↓reduceIte, reduceEqDiff, reduceAdd, reduceMul, reduceCtorEq, reduceEq, reduceLT, reduceLE]
  rw [if_neg (by omega)]
  exact hb
 ·simp -implicitDefEqProofs only [V, ↓reduceIte, reduceEqDiff, reduceAdd, reduceMul, reduceCtorEq, reduceEq, reduceLT, reduceLE]
  exact elems_row (h := s.h.alloc _) (by rw [AH.get_alloc, if_pos rfl]) rfl
 ·simp -implicitDefEqProofs only [V, ↓reduceIte, reduceEqDiff, reduceAdd, reduceMul, reduceCtorEq, reduceEq, reduceLT, reduceLE, h0]
 ·simp -implicitDefEqProofs only [V, ↓reduceIte, reduceEqDiff, reduceAdd, reduceMul, reduceCtorEq, reduceEq, reduceLT, reduceLE]
 ·simp -implicitDefEqProofs only [V, ↓reduceIte, reduceEqDiff, reduceAdd, reduceMul, reduceCtorEq, reduceEq, reduceLT, reduceLE, hd]
  refine ⟨_, rfl, rfl, rfl, ?_, ?_⟩
  ·exact appH_new (h := s.h.alloc _)
  ·exact (hnt.alloc).app
end Go.Proofs.YtijpnlmmaoecgaaGreatDoor

namespace Go.Proofs.YtijpnlmmaoecgaaGreatDoor
open Go Go.AM
theorem nice_own {h : AH} {b o n es : Nat} {c : Option Nat} {cs : List AV} {rw' : Bool} (hb : b < h.next) (g : h.get b = some (.cells cs rw')) (hi : below h.next (idsL cs) = true) : niceT h (some (.own b o n es c)) = true := by
 have : Nat.blt b h.next = true := Nat.blt_eq.mpr hb
 simp only [niceT, niceV, ids, List.all_cons, List.all_nil, this, g, hi, Bool.and_self]
theorem str_draw {s : St} {K : St → Prop} {rest : List DOp} {done : List DRec} {dst i : Nat} {v w : AV} (he : s.eval (.t i) = some v) (hn : niceT s.h (some v) = true) (hw : strB s.h v = some w)
  (k : ∀ rec, DrawTo E1 rest (done ++ [rec]) (s.put (some dst) w) K) : DrawTo E1 (⟨⟨some dst, none, .strOfBytes (.t i)⟩, [i], []⟩ :: rest) done s K := by
 have ho : runOp E1 noCall s (.strOfBytes (.t i)) = some (w, s) := by
  rw [strB_eq, he]
  simp only [Option.bind_some, hw, Option.map_some]
 have st := calm_step (E := E1) (d := ⟨⟨some dst, none, .strOfBytes (.t i)⟩, [i], []⟩) (near := nearOf done []) (s := s) (by show memN [i] i = true; simp [memN]) rfl rfl (by
  have e : s.tm.get i = some v := he
  simp only [List.all_cons, List.all_nil, e, hn, Bool.and_self]) ho
 exact draw_next (d := ⟨⟨some dst, none, .strOfBytes (.t i)⟩, [i], []⟩) rfl st (k _)
theorem f9_seal {s : St} {b : Nat} {l B : List UInt8} {cap : Option Nat} (h4 : s.eval (.t 4) = some (.own b 0 l.length 1 none)) (hb : s.h.get b = some (.cells (bytesA l) true)) (hbn : b < s.h.next) (hnt : NoTag s.h) (hl : l.length ≤ 2 ^ 39) (h0 : s.eval (.t 0) = some (.imm (bytesA B) B.length cap)) :
  Run E1 f9_d0 s fun e s' => e = .normal ∧ s'.eval (.t 45) = some (.val (.bool (!(sealB l == B)))) ∧ s'.h.next = s.h.next + 2 ∧ NoTag s'.h ∧ (∀ x, x < s.h.next → x ≠ b → s'.h.get x = s.h.get x) ∧ s'.defers = s.defers ∧ s'.eval (.t 0) = s.eval (.t 0) ∧ s'.eval (.t 2) = s.eval (.t 2) := by
 have hids : idsL (bytesA l) = [] := flat_ids fun x hx => (bytesA_leaf l x hx).ids
 have hrb : (restrictH s.h [b]).get b = some (.cells (bytesA l) true) := by rw [restrict_in (List.mem_singleton_self b), hb]
 obtain ⟨v, h1, hcall, rfl, n1, g1, nt1⟩ := sealed_call hrb hbn (noTag_restrict hnt) hl
 have n1 : h1.next = s.h.next + 2 := n1
 have g1 : h1.get (s.h.next + 1) = some (.cells (bytesA (sealB l)) true) := g1
 refine run_draw ?_
 show DrawTo E1 f9_o0 [] s _
 unfold f9_o0
 refine pure_draw rfl rfl ?_ (v := .own b 0 l.length 1 none) ?_ (fun i hi => by cases hi) ?_
 ·simp only [List.all_cons, List.all_nil, h4, nice_own hbn hb (by rw [hids]; rfl), Bool.and_self]
 ·simp only [runOp, h4]
  rfl
 generalize hs1 : St.put s (some 40) _ = s1
 have a0 : s1.eval (.t 0) = some (.imm (bytesA B) B.length cap) := by rw [← hs1]; simp -implicitDefEqProofs only [V, ↓reduceIte, reduceEqDiff, reduceAdd, reduceMul, reduceCtorEq, reduceEq, reduceLT, reduceLE, h0]
 have a40 : s1.eval (.t 40) = some (.own b 0 l.length 1 none) := by rw [← hs1]; simp -implicitDefEqProofs only [V, ↓reduceIte, reduceEqDiff, reduceAdd, reduceMul, reduceCtorEq, reduceEq, reduceLT, reduceLE]
 have a2 : s1.eval (.t 2) = s.eval (.t 2) := by rw [← hs1]; simp -implicitDefEqProofs only [V, ↓reduceIte, reduceEqDiff, reduceAdd, reduceMul, reduceCtorEq, reduceEq, reduceLT, reduceLE]
 have eh : s1.h = s.h := by rw [← hs1]; rfl
 have ed : s1.defers = s.defers := by rw [← hs1]; rfl
 have hpk : idsL (pickTm s1.tm [40]).vals = [b] := by
  have e : s1.tm.get 40 = some (.own b 0 l.length 1 none) := a40
  simp only [pickTm, e]
  rfl
 clear hs1
 rw [← eh] at hb hbn hnt hcall n1 g1
 refine call_draw (f := 23) (i := 40) (r := b) (h1 := h1) (cs := bytesA l) (rw' := true) a40 hpk hbn hb hids hnt hcall (by omega) (fun D hD => rfl) ?_
 intro D h2 hD m1 m2 m3 m4 m5
 have gS : h2.get (s1.h.next + 1) = some (.cells (bytesA (sealB l)) true) := by rw [m2 _ (by omega) (by omega), g1]
 have hnt2 : NoTag h2 := fun x y t n' e => by
  rcases Nat.lt_or_ge x s1.h.next with q | q
  ·by_cases e' : x = b
   ·subst e'
    rw [m3] at e
    exact nt1 _ _ _ _ e
   ·rw [m4 x q e'] at e
    exact hnt _ _ _ _ e
  ·rcases Nat.lt_or_ge x h1.next with q' | q'
   ·rw [m2 x q q'] at e
    exact nt1 _ _ _ _ e
   ·rw [m5 x q'] at e
    exact hnt _ _ _ _ e
 have hids2 : idsL (bytesA (sealB l)) = [] := flat_ids fun x hx => (bytesA_leaf _ x hx).ids
 generalize hs2 : St.put (St.toH s1 h2) (some 41) _ = s2
 have hh2 : s2.h = h2 := by rw [← hs2]; rfl
 have b0 : s2.eval (.t 0) = some (.imm (bytesA B) B.length cap) := by rw [← hs2]; simp -implicitDefEqProofs only [V, ↓reduceIte, reduceEqDiff, reduceAdd, reduceMul, reduceCtorEq, reduceEq, reduceLT, reduceLE, a0]
 have b41 : s2.eval (.t 41) = some (.own (s.h.next + 1) 0 (sealB l).length 1 none) := by
  rw [← hs2, ← eh]
  simp -implicitDefEqProofs only [V, ↓reduceIte, reduceEqDiff, reduceAdd, reduceMul, reduceCtorEq, reduceEq, reduceLT, reduceLE]
  rfl
 have b2 : s2.eval (.t 2) = s.eval (.t 2) := by rw [← hs2, ← a2]; simp -implicitDefEqProofs only [V, ↓reduceIte, reduceEqDiff, reduceAdd, reduceMul, reduceCtorEq, reduceEq, reduceLT, reduceLE]
 have bd : s2.defers = s.defers := by rw [← hs2, ← ed]; simp -implicitDefEqProofs only [V, ↓reduceIte, reduceEqDiff, reduceAdd, reduceMul, reduceCtorEq, reduceEq, reduceLT, reduceLE]
 clear hs2
 rw [eh] at gS m4 n1
 refine str_draw (v := .own (s.h.next + 1) 0 (sealB l).length 1 none) (w := .val (.string ⟨(sealB l).toArray⟩)) b41 ?_ ?_ ?_
 ·rw [hh2]
  exact nice_own (by omega) gS (by rw [hids2]; rfl)
 ·rw [hh2]
  have := elems_row (cap := none) gS (bytesA_len _)
  simp only [strB, this, bytesA_of, Option.map_some]
 intro rec
 refine plain_draw _ _ _ (by rfl) ?_
 simp -implicitDefEqProofs only [wpDp, g_none, g_some, gIf_t, gIf_f, List.all_cons, List.all_nil, plain_val, plain_imm, plain_iptr, plain_undef, V, ↓reduceIte, reduceEqDiff, reduceAdd, reduceMul, reduceCtorEq, reduceEq, reduceLT, reduceLE, b0, b2, bd, h0, hh2, strB_imm, strEq_list]
 exact ⟨by omega, hnt2, m4⟩
end Go.Proofs.YtijpnlmmaoecgaaGreatDoor
