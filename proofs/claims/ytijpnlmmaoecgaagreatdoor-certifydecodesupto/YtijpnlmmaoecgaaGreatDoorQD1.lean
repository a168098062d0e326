/- A part of the proofs about certificates: YDd YDc. -/
import Derived.Test.YtijpnlmmaoecgaaGreatDoorQW1
import Derived.Test.YtijpnlmmaoecgaaGreatDoorQR3

set_option linter.all false
open Nat (reduceEqDiff reduceAdd reduceMul)
open Int (reduceEq reduceLT reduceLE)

namespace Go.Proofs.YtijpnlmmaoecgaaGreatDoor
open Go Go.AM
theorem f8_calm : calmAt 0 f8_o0 = true := by rfl
def f8_oA : List DOp := [⟨⟨(some 51), none, .mv (.t 4)⟩, [4], []⟩, ⟨⟨(some 52), none, .nilck (.t 51)⟩, [51], []⟩, ⟨⟨(some 53), none, .fieldAddr 1 (.t 52)⟩, [52], []⟩, ⟨⟨(some 54), none, .load none (.t 53)⟩, [53], []⟩, ⟨⟨(some 55), none, .mv (.t 54)⟩, [54], []⟩, ⟨⟨(some 56), some (55, false), .mv (.t 4)⟩, [4, 55], []⟩, ⟨⟨(some 57), some (55, false), .nilck (.t 56)⟩, [56, 55], []⟩, ⟨⟨(some 58), some (55, false), .fieldAddr 0 (.t 57)⟩, [57, 55], []⟩, ⟨⟨(some 59), some (55, false), .load none (.t 58)⟩, [58, 55], []⟩, ⟨⟨(some 60), some (55, false), .lenS (.t 59)⟩, [59, 55], []⟩, ⟨⟨(some 61), some (55, false), .bin .gtr 3 true (.t 60) (.c (.val (.int .i64 0)))⟩, [60, 55], []⟩, ⟨⟨(some 62), none, .pick (.t 55) (.c (.val (.bool true))) (.t 61)⟩, [55, 61], []⟩, ⟨⟨(some 63), none, .mv (.t 62)⟩, [62], []⟩, ⟨⟨(some 64), some (63, false), .load (some 4) (.t 5)⟩, [5, 63], []⟩]
def f8_oC : DOp := ⟨⟨(some 65), some (63, false), .call 12 [(.t 64)]⟩, [64, 63], []⟩
def f8_oB : List DOp := [⟨⟨(some 66), some (63, false), .strOfBytes (.t 65)⟩, [65, 63], []⟩, ⟨⟨(some 67), some (63, false), .mv (.t 0)⟩, [0, 63], [13, 14, 15]⟩, ⟨⟨(some 68), some (63, false), .strOfBytes (.t 67)⟩, [67, 63], [13, 14, 15]⟩, ⟨⟨(some 69), some (63, false), .bin .neq 9 false (.t 66) (.t 68)⟩, [66, 68, 63], []⟩, ⟨⟨(some 70), none, .pick (.t 63) (.c (.val (.bool true))) (.t 69)⟩, [63, 69], []⟩]
theorem f8_split : f8_o0 = f8_oA ++ (f8_oC :: f8_oB) := rfl
theorem f8_calmA : calmAt 0 f8_oA = true := by rfl
theorem f8_calmB : calmOnly 15 f8_oB = true := by rfl
theorem strB_imm {h : AH} {l : List UInt8} {cap : Option Nat} : strB h (.imm (bytesA l) l.length cap) = some (.val (.string ⟨l.toArray⟩)) := by
 have e : elemsOf h 1 (.imm (bytesA l) l.length cap) = some (bytesA l, l.length) := by
  have h1 : Nat.ble (l.length * 1) (bytesA l).length = true := Nat.ble_eq.mpr (by rw [bytesA_len]; omega)
  simp only [elemsOf, h1, cond_true]
  rw [List.take_of_length_le (by rw [bytesA_len]; omega)]
 simp only [strB, e, bytesA_of, Option.map_some]
theorem strEq_list (a b : List UInt8) : strEq ⟨a.toArray⟩ ⟨b.toArray⟩ = (a == b) := eqBytes_eq _ _
theorem rep_below {h : AH} {lo hi n : Nat} {v t : AV} (k : Rep h lo hi n v t) (hh : hi ≤ h.next) : below h.next (ids v) = true := by
 obtain ⟨l, e1, e2, e3⟩ := rep_sees n v t k
 refine List.all_eq_true.2 fun b hb => Nat.blt_eq.mpr ?_
 rw [e1] at hb
 obtain ⟨p, hp, rfl⟩ := List.mem_map.1 hb
 cases e2 p hp with
 | mk _ h1 h2 => omega
structure Tl (s : St) (C : Nat) (b : List UInt8) (cap : Option Nat) (st : RS) (c : Ce) (cs : List AV) (lo n : Nat) : Prop where
 h0 : s.eval (.t 0) = some (.imm (bytesA b) b.length cap)
 h4 : s.eval (.t 4) = some (.ptr 1 0)
 h5 : s.eval (.t 5) = some (.ptr C 0)
 rd : Rd s.h 1 st
 gC : s.h.get C = some (.cells cs true)
 hC : C < s.h.next
 l4 : cs.length = 4
 rep : Rep s.h lo s.h.next n (.agg cs) (.agg c.cells)
theorem draw_bad {s : St} {C : Nat} {b : List UInt8} {cap : Option Nat} {st : RS} {c : Ce} {cs : List AV} {lo n : Nat} (k : Tl s C b cap st c cs lo n) (hb : st.bad = true ∨ st.rest ≠ []) :
  Run E1 f8_d0 s fun e s' => e = .normal ∧ s'.eval (.t 70) = some (.val (.bool true)) ∧ s'.h = s.h ∧ s'.defers = s.defers ∧ s'.eval (.t 2) = s.eval (.t 2) ∧ s'.eval (.t 5) = s.eval (.t 5) := by
 obtain ⟨h0, h4, h5, ⟨r1, cap', g⟩, gC, hC, l4, rep⟩ := k
 have np : ∀ o, niceT s.h (some (.ptr 1 o)) = true := fun o => nice_ptr r1 g rfl
 have nC : ∀ o, niceT s.h (some (.ptr C o)) = true := fun o => nice_ptr hC gC (rep_below rep (Nat.le_refl _))
 refine run_calm f8_calm ?_
 by_cases bad : st.bad = true
 ·rw [bad] at g
  simp -implicitDefEqProofs only [f8_o0, wpDr, g_none, g_some, gIf_t, gIf_f, List.all_cons, List.all_nil, nice_val, nice_imm, nice_iptr, nice_undef, V, ↓reduceIte, reduceEqDiff, reduceAdd, reduceMul, reduceCtorEq, reduceEq, reduceLT, reduceLE, np, nC, g, rd_f0, rd_f1, h0, h4, h5]
 ·have bad : st.bad = false := by simpa using bad
  have hr : st.rest ≠ [] := hb.resolve_left (by rw [bad]; decide)
  have hl : decide ((0 : Int) < ((st.rest.length : Nat) : Int)) = true := by
   have := List.length_pos_iff.2 hr
   simp <;> omega
  have hlen : ∀ cap', lenV (.imm (bytesA st.rest) st.rest.length cap') = some (.val (.int .i64 (st.rest.length : Nat))) := fun _ => rfl
  rw [bad] at g
  simp -implicitDefEqProofs only [f8_o0, wpDr, g_none, g_some, gIf_t, gIf_f, List.all_cons, List.all_nil, nice_val, nice_imm, nice_iptr, nice_undef, V, ↓reduceIte, reduceEqDiff, reduceAdd, reduceMul, reduceCtorEq, reduceEq, reduceLT, reduceLE, np, nC, g, rd_f0, rd_f1, h0, h4, h5, hlen, hl]
theorem draw_good {s : St} {C : Nat} {b : List UInt8} {cap : Option Nat} {st : RS} {c : Ce} {cs : List AV} {lo n : Nat} (k : Tl s C b cap st c cs lo n) (bad : st.bad = false) (hr : st.rest = [])
  (hc : fitCe c) (hl : (encCe c).length ≤ 2 ^ 40) (hn : n < deepest) (hcost : cost (.agg c.cells) ≤ 99999) (ht : NoTag s.h) :
  Run E1 f8_d0 s fun e s' => e = .normal ∧ s'.eval (.t 70) = some (.val (.bool (!(encCe c == b)))) ∧ (Fz s.h s'.h ∧ ∀ x, x < lo → s'.h.get x = s.h.get x) ∧ s'.defers = s.defers ∧ s'.eval (.t 2) = s.eval (.t 2) ∧ s'.eval (.t 5) = s.eval (.t 5) := by
 obtain ⟨h0, h4, h5, ⟨r1, cap', g⟩, gC, hC, l4, rep⟩ := k
 have np : ∀ o, niceT s.h (some (.ptr 1 o)) = true := fun o => nice_ptr r1 g rfl
 have nC : ∀ o, niceT s.h (some (.ptr C o)) = true := fun o => nice_ptr hC gC (rep_below rep (Nat.le_refl _))
 have take : takeN (some 4) cs = some (.agg cs) := takeN_full l4
 have hlen : ∀ cap', lenV (.imm (bytesA []) 0 cap') = some (.val (.int .i64 ((0 : Nat) : Int))) := fun _ => rfl
 have hz : decide ((0 : Int) < ((0 : Nat) : Int)) = false := rfl
 rw [bad, hr] at g
 have g' : s.h.get 1 = some (rdB [] cap' false) := g
 refine run_draw ?_
 rw [f8_split]
 refine calm_pre f8_oA [] s f8_calmA (fun x hx => by cases hx) ?_
 obtain ⟨bb, hcc, hbb, hrun⟩ := encode_ans hc hl
 have hrt := own_tree (k := (encCe c).length) (es := 1) (cap := none) hbb (by rw [bytesA_len]; omega) (bytesA_leaf _)
 simp -implicitDefEqProofs only [f8_oA, wpDr, g_none, g_some, gIf_t, gIf_f, List.all_cons, List.all_nil, nice_val, nice_imm, nice_iptr, nice_undef, V, ↓reduceIte, reduceEqDiff, reduceAdd, reduceMul, reduceCtorEq, reduceEq, reduceLT, reduceLE, np, nC, g', rd_f0, rd_f1, h0, h4, h5, hlen, gC, take, List.length_nil, hz]
 intro done' hd hq
 have hd : done'.length = 14 := hd
 generalize es1 : St.set _ 64 (.agg cs) = s1
 have e64 : s1.eval (.t 64) = some (.agg cs) := by rw [← es1]; simp -implicitDefEqProofs only [V, ↓reduceIte, reduceEqDiff, reduceAdd, reduceMul, reduceCtorEq, reduceEq, reduceLT, reduceLE]
 have e63 : s1.eval (.t 63) = some (.val (.bool false)) := by rw [← es1]; simp -implicitDefEqProofs only [V, ↓reduceIte, reduceEqDiff, reduceAdd, reduceMul, reduceCtorEq, reduceEq, reduceLT, reduceLE]
 have e0 : s1.eval (.t 0) = some (.imm (bytesA b) b.length cap) := by rw [← es1]; simp -implicitDefEqProofs only [V, ↓reduceIte, reduceEqDiff, reduceAdd, reduceMul, reduceCtorEq, reduceEq, reduceLT, reduceLE, h0]
 have e5 : s1.eval (.t 5) = some (.ptr C 0) := by rw [← es1]; simp -implicitDefEqProofs only [V, ↓reduceIte, reduceEqDiff, reduceAdd, reduceMul, reduceCtorEq, reduceEq, reduceLT, reduceLE, h5]
 have e2 : s1.eval (.t 2) = s.eval (.t 2) := by rw [← es1]; simp -implicitDefEqProofs only [V, ↓reduceIte, reduceEqDiff, reduceAdd, reduceMul, reduceCtorEq, reduceEq, reduceLT, reduceLE]
 have eh : s1.h = s.h := by rw [← es1]; simp -implicitDefEqProofs only [V, ↓reduceIte, reduceEqDiff, reduceAdd, reduceMul, reduceCtorEq, reduceEq, reduceLT, reduceLE]
 have ed : s1.defers = s.defers := by rw [← es1]; simp -implicitDefEqProofs only [V, ↓reduceIte, reduceEqDiff, reduceAdd, reduceMul, reduceCtorEq, reduceEq, reduceLT, reduceLE]
 clear es1
 have hv : idsL (pickTm s1.tm f8_oC.reads).vals = ids (.agg cs) := by
  have a : s1.tm.get 64 = some (.agg cs) := e64
  have b : s1.tm.get 63 = some (.val (.bool false)) := e63
  show idsL (pickTm s1.tm [64, 63]).vals = _
  simp only [pickTm, a, b]
  show idsL ([.agg cs, .val (.bool false)] : List AV) = ids (.agg cs)
  simp only [idsL, List.append_nil]
  rw [show ids (.val (.bool false)) = [] from rfl, List.append_nil]
 have hw : wantedA s1 f8_oC.o.guard = some true := by
  have b : s1.tm.get 63 = some (.val (.bool false)) := e63
  show wantedA s1 (some (63, false)) = some true
  simp only [wantedA, b]
  rfl
 obtain ⟨rec, h', hst, hfz, hlow⟩ := frz_step (E := E1) (s := s1) (d := f8_oC) (near := nearOf done' []) (f := 12) (i := 64) (lo := lo) (hi := s.h.next) (n := n) (t := .agg c.cells) rfl rfl rfl hw hv e64 (by rw [eh]; exact rep) (by rw [eh]; exact Nat.le_refl _) hn hcost (by rw [eh]; exact ht) (by kernel_rfl) (fresh_known (by kernel_rfl) _) hrun hrt rfl
 rw [eh] at hfz hlow
 refine draw_next (d := f8_oC) rfl hst ?_
 refine plain_draw f8_oB _ _ ?_ ?_
 ·rw [List.length_append, hd]
  exact f8_calmB
 have ed65 : f8_oC.o.dst = some 65 := rfl
 simp -implicitDefEqProofs only [f8_oB, ed65, wpDp, g_none, g_some, gIf_t, gIf_f, List.all_cons, List.all_nil, plain_val, plain_imm, plain_iptr, plain_undef, V, ↓reduceIte, reduceEqDiff, reduceAdd, reduceMul, reduceCtorEq, reduceEq, reduceLT, reduceLE, e64, e63, e0, e5, e2, ed, h5, strB_imm, strEq_list]
 exact ⟨hfz, hlow⟩
end Go.Proofs.YtijpnlmmaoecgaaGreatDoor

namespace Go.Proofs.YtijpnlmmaoecgaaGreatDoor
open Go Go.AM
def zCe : List AV := [.val (.string ⟨#[]⟩), .val (.int .i64 0), .val (.slice none 0 0), .val (.slice none 0 0)]
def decCells (f : Nat) (b : List UInt8) : List AV := match decCe f b with
 | some c => c.cells
 | none => zCe
def decErr (f : Nat) (b : List UInt8) : Int := match decCe f b with
 | some _ => 0
 | none => 6
theorem slice_mid3 {l : List UInt8} {cap : Option Nat} (h : 7 ≤ l.length) : ∃ cap', sliceA' 1 (.imm (bytesA l) l.length cap) (some 3) (some (l.length - 4)) none = some (.imm (bytesA (midOf l)) (midOf l).length cap') := by
 have a1 : Nat.ble l.length l.length = true := Nat.ble_eq.mpr (Nat.le_refl _)
 have a2 : Nat.ble (l.length - 4) l.length = true := Nat.ble_eq.mpr (by omega)
 have a3 : Nat.ble 3 (l.length - 4) = true := Nat.ble_eq.mpr (by omega)
 have a4 : ((bytesA l).drop (3 * 1)).take ((l.length - 4 - 3) * 1) = bytesA (midOf l) := by
  rw [bytesA_drop, Nat.mul_one, bytesA_take, midOf, show l.length - 4 - 3 = l.length - 7 by omega]
 have a5 : (midOf l).length = l.length - 4 - 3 := by
  rw [midOf, List.length_take, List.length_drop]
  omega
 cases cap with
 | none => exact ⟨none, by simp only [sliceA', sliceB, Option.getD_none, Option.getD_some, a1, a2, a3, Option.isNone_none, Bool.true_or, Bool.and_self, cond_true, a4, a5]⟩
 | some c => exact ⟨some (c - 3), by simp only [sliceA', sliceB, Option.getD_none, Option.getD_some, a1, a2, a3, Option.isNone_none, Bool.true_or, Bool.and_self, cond_true, a4, a5]⟩
theorem bytes_kid {l : List UInt8} {i : Nat} {c : UInt8} {r : List UInt8} {nl : Option (Option Addr × Nat)} {cap : Option Nat} (h : l.drop i = c :: r) : idxAddrSV 1 (kidsA (bytesA l) l.length nl cap) i = some (.iptr (.val (.int .u8 (c.toNat : Nat)) :: bytesA r)) :=
 row_kid (es := 1) (f := fun b : UInt8 => [AV.val (.int .u8 (b.toNat : Nat))]) (fun _ => rfl) h
def DecTo (f : Nat) (b : List UInt8) (v : AV) (h : AH) : Prop := ∃ u, v = .tup [u, .val (.int .i64 (decErr f b))] ∧ ∃ n, n < 2 ^ 29 ∧ Rep h 0 h.next n u (.agg (decCells f b))
theorem dec_short {f : Nat} {b : List UInt8} (h : headOk b = false) : decCells f b = zCe ∧ decErr f b = 6 := by
 have : decCe f b = none := by rw [decCe, if_neg (by rw [h]; decide)]
 simp only [decCells, decErr, this, and_self]
theorem zCe_rep {h : AH} {n : Nat} : Rep h 0 h.next (n + 1) (.agg zCe) (.agg zCe) := by
 have := Rep.agg (h := h) (lo := 0) (hi := h.next) (n := n) (ps := zCe.map fun v => (v, v)) (fun p hp => by
  obtain ⟨v, hv, rfl⟩ := List.mem_map.1 hp
  simp only [zCe, List.mem_cons, List.mem_nil_iff, or_false] at hv
  rcases hv with rfl | rfl | rfl | rfl <;> exact Rep.leaf (Leaf.val _))
 simpa only [List.map_map, Function.comp_def, List.map_id'] using this
theorem decode_head {f : Nat} {b : List UInt8} {nl : Option (Option Addr × Nat)} {cap : Option Nat} (hb : headOk b = false) :
  ∃ v h', DecTo f b v h' ∧ Ev fun n => enterA E1 (exec E1 n) 8 [kidsA (bytesA b) b.length nl cap] .empty = some (v, h') := by
 refine enter1 _ f8_ok fun s hs hh hd hrd => ?_
 apply wp_run
 have h0 := hs 0 _ rfl
 obtain ⟨d1, d2⟩ := dec_short (f := f) hb
 have fin : ∀ h : AH, DecTo f b (.tup [.agg zCe, .val (.int .i64 6)]) h := fun h => ⟨_, by rw [d2], 1, by decide, by rw [d1]; exact zCe_rep⟩
 have hst := st_all (h := AH.empty.alloc (.cells zCe true)) (b := 0) (n := 4) (cs := zCe) (l := zCe) (by simp only [AH.get_alloc, e_next]; rfl) rfl rfl
 have hfill : ∀ s' : St, fill s' zCe [] = some zCe := fun s' => rfl
 have hg : ((AH.empty.alloc (.cells zCe true)).put 0 (some (.cells zCe true))).get 0 = some (.cells zCe true) := put_get
 have tk : takeN (some 4) zCe = some (.agg zCe) := rfl
 simp only [zCe] at hst hg tk hfill
 by_cases hlen : b.length < 7
 ·have c1 : decide (((b.length : Nat) : Int) < 7) = true := by simp; omega
  simp -implicitDefEqProofs only [f8_fn, f8, V, ↓reduceIte, reduceEqDiff, reduceAdd, reduceMul, reduceCtorEq, reduceEq, reduceLT, reduceLE, h0, hh, kidsA_len, c1, hfill, hst, hg, tk, hd]
  exact ⟨_, rfl, fin _⟩
 ·have c1 : decide (((b.length : Nat) : Int) < 7) = false := by simp; omega
  match b, hlen with
  | x :: y :: z :: r, hlen =>
   have hr4 : 4 ≤ r.length := by simp only [List.length_cons] at hlen; omega
   have k0 := bytes_kid (l := x :: y :: z :: r) (i := 0) (nl := nl) (cap := cap) (c := x) (r := y :: z :: r) rfl
   have k1 := bytes_kid (l := x :: y :: z :: r) (i := 1) (nl := nl) (cap := cap) (c := y) (r := z :: r) rfl
   have k2 := bytes_kid (l := x :: y :: z :: r) (i := 2) (nl := nl) (cap := cap) (c := z) (r := r) rfl
   simp only [headOk, decide_eq_true hr4, Bool.true_and] at hb
   by_cases x1 : x.toNat = 69
   ·have d1 : decide (((x.toNat : Nat) : Int) = 69) = true := by simp; omega
    by_cases y1 : y.toNat = 67
    ·have d2 : decide (((y.toNat : Nat) : Int) = 67) = true := by simp; omega
     have z1 : z.toNat ≠ 1 := fun e => by simp [x1, y1, e] at hb
     have d3 : decide (((z.toNat : Nat) : Int) = 1) = false := by simp; omega
     simp -implicitDefEqProofs only [f8_fn, f8, V, ↓reduceIte, reduceEqDiff, reduceAdd, reduceMul, reduceCtorEq, reduceEq, reduceLT, reduceLE, h0, hh, kidsA_len, c1, k0, k1, k2, d1, d2, d3, hfill, hst, hg, tk, hd]
     exact ⟨_, rfl, fin _⟩
    ·have d2 : decide (((y.toNat : Nat) : Int) = 67) = false := by simp; omega
     simp -implicitDefEqProofs only [f8_fn, f8, V, ↓reduceIte, reduceEqDiff, reduceAdd, reduceMul, reduceCtorEq, reduceEq, reduceLT, reduceLE, h0, hh, kidsA_len, c1, k0, k1, d1, d2, hfill, hst, hg, tk, hd]
     exact ⟨_, rfl, fin _⟩
   ·have d1 : decide (((x.toNat : Nat) : Int) = 69) = false := by simp; omega
    simp -implicitDefEqProofs only [f8_fn, f8, V, ↓reduceIte, reduceEqDiff, reduceAdd, reduceMul, reduceCtorEq, reduceEq, reduceLT, reduceLE, h0, hh, kidsA_len, c1, k0, d1, hfill, hst, hg, tk, hd]
    exact ⟨_, rfl, fin _⟩
set_option maxHeartbeats 2000000 in
theorem decode_body {g : Nat} {b : List UInt8} {nl : Option (Option Addr × Nat)} {cap : Option Nat} (hb : headOk b = true) (hg : b.length ≤ g + 1) (hg2 : g + 1 ≤ 2 ^ 28) (hlb : b.length ≤ 99999) :
  ∃ v h', DecTo (g + 1) b v h' ∧ Ev fun n => enterA E1 (exec E1 n) 8 [kidsA (bytesA b) b.length nl cap] .empty = some (v, h') := by
 refine enter1 _ f8_ok fun s hs hh hd hrd => ?_
 apply wp_run
 have h0 := hs 0 _ rfl
 have hb7 : 7 ≤ b.length := by
  match b, hb with
  | x :: y :: z :: r, hb =>
   simp only [headOk, Bool.and_eq_true, decide_eq_true_eq] at hb
   simp only [List.length_cons]
   omega
 have hk : kidsA (bytesA b) b.length nl cap = .imm (bytesA b) b.length cap := by
  have : Nat.beq b.length 0 = false := by
   cases hz : Nat.beq b.length 0 with
   | false => rfl
   | true =>
    have := Nat.eq_of_beq_eq_true hz
    omega
  simp only [kidsA, this, Bool.and_false, cond_false]
 rw [hk] at h0
 have hlenV : lenV (.imm (bytesA b) b.length cap) = some (.val (.int .i64 (b.length : Nat))) := rfl
 have c1 : decide (((b.length : Nat) : Int) < 7) = false := by simp; omega
 obtain ⟨x, y, z, r, rfl, d1, d2, d3⟩ : ∃ x y z r, b = x :: y :: z :: r ∧ decide (((x.toNat : Nat) : Int) = 69) = true ∧ decide (((y.toNat : Nat) : Int) = 67) = true ∧ decide (((z.toNat : Nat) : Int) = 1) = true := by
  match b, hb with
  | x :: y :: z :: r, hb =>
   simp only [headOk, Bool.and_eq_true, decide_eq_true_eq, beq_iff_eq] at hb
   exact ⟨x, y, z, r, rfl, by simp; omega, by simp; omega, by simp; omega⟩
 have k0 := bytes_at (l := x :: y :: z :: r) (i := 0) (cap := cap) (c := x) (r := y :: z :: r) rfl
 have k1 := bytes_at (l := x :: y :: z :: r) (i := 1) (cap := cap) (c := y) (r := z :: r) rfl
 have k2 := bytes_at (l := x :: y :: z :: r) (i := 2) (cap := cap) (c := z) (r := r) rfl
 generalize x :: y :: z :: r = b at *
 obtain ⟨cap', hsl⟩ := slice_mid3 (l := b) (cap := cap) hb7
 have w4 : IntKind.i64.wrap (((b.length : Nat) : Int) - 4) = ((b.length - 4 : Nat) : Int) := by
  rw [show ((b.length : Nat) : Int) - 4 = ((b.length - 4 : Nat) : Int) by omega]
  exact wrap_in (by omega)
 have n3 : ∀ k : IntKind, asN (.val (.int k 3)) = some 3 := fun _ => rfl
 have oc : ∀ (s' : St) (v : AV), optN s' (some (.c v)) = (asN v).map some := fun _ _ => rfl
 have hf32 : ∀ s' : St, s'.eval (.t 32) = some (.imm (bytesA (midOf b)) (midOf b).length cap') → fill s' [.val (.slice none 0 0), .val (.bool false)] [(0, 1, .t 32)] = some [.imm (bytesA (midOf b)) (midOf b).length cap', .val (.bool false)] := fun s' e => fill_head e rfl
 simp -implicitDefEqProofs only [f8_fn, f8, V, ↓reduceIte, reduceEqDiff, reduceAdd, reduceMul, reduceCtorEq, reduceEq, reduceLT, reduceLE, h0, hh, hlenV, c1, k0, k1, k2, d1, d2, d3, w4, n3, oc, hsl, hf32]
 have hr1 : Rd ((AH.empty.alloc (.cells zCe true)).alloc (rdB (midOf b) cap' false)) 1 ⟨midOf b, false⟩ := ⟨by simp only [a_next, e_next]; omega, cap', box_get⟩
 have hA1 : ((AH.empty.alloc (.cells zCe true)).alloc (rdB (midOf b) cap' false)).get 0 = some (.cells zCe true) := by rw [get_alloc_old (by simp only [a_next, e_next]; omega)]; exact box_get
 have lm : (midOf b).length = b.length - 7 := by rw [midOf, List.length_take, List.length_drop]; omega
 refine callK_of (textr_call hr1 (by show (midOf b).length < _; omega)) ?_
 rintro v h2 ⟨⟨rfl, hr2, hf2⟩, hn2⟩
 have hf2 : Fd ((AH.empty.alloc (.cells zCe true)).alloc (rdB (midOf b) cap' false)) h2 1 := hf2
 have hn2 : h2.next = 2 := hn2
 generalize hst0 : (⟨midOf b, false⟩ : RS) = st at *
 have lst : st.rest.length = b.length - 7 := by rw [← hst0]; exact lm
 have hA2 : h2.get 0 = some (.cells zCe true) := hf2.keep (by simp only [a_next, e_next]; omega) (by omega) hA1
 have hfill : ∀ s' : St, s'.eval (.t 36) = some (.val (.string (rText st).1)) → fill s' [.val (.string ⟨#[]⟩), .val (.int .i64 0), .val (.slice none 0 0), .val (.slice none 0 0)] [(0, 1, .t 36)] = some [.val (.string (rText st).1), .val (.int .i64 0), .val (.slice none 0 0), .val (.slice none 0 0)] := fun s' e => fill_head e rfl
 have hst3 := store_new (h := h2) (z := zCe) (l := [.val (.string (rText st).1), .val (.int .i64 0), .val (.slice none 0 0), .val (.slice none 0 0)]) (n := 4) rfl rfl
 rw [zCe] at hst3
 simp -implicitDefEqProofs only [V, ↓reduceIte, reduceEqDiff, reduceAdd, reduceMul, reduceCtorEq, reduceEq, reduceLT, reduceLE, hfill, hst3]
 generalize e3 : (h2.alloc (.cells [.val (.string ⟨#[]⟩), .val (.int .i64 0), .val (.slice none 0 0), .val (.slice none 0 0)] true)).put h2.next (some (.cells [.val (.string (rText st).1), .val (.int .i64 0), .val (.slice none 0 0), .val (.slice none 0 0)] true)) = h3
 have hn3 : h3.next = 3 := by rw [← e3, p_next, a_next, hn2]
 have hB3 : h3.get h2.next = some (.cells [.val (.string (rText st).1), .val (.int .i64 0), .val (.slice none 0 0), .val (.slice none 0 0)] true) := by rw [← e3, put_get]
 have hA3 : h3.get 0 = some (.cells zCe true) := by rw [← e3, get_put_old (by omega), get_alloc_old (by omega), hA2]
 have hr3 : Rd h3 1 (rText st).2 := by rw [← e3]; exact hr2.alloc.other (by omega)
 have len3 := rText_len st
 refine callK_of (numr_call hr3 (by omega)) ?_
 rintro v h4 ⟨⟨rfl, hr4, hf4⟩, hn4⟩
 have hf4 : Fd h3 h4 1 := hf4
 have hn4 : h4.next = h3.next := hn4
 have hB4 := hf4.keep (by omega) (by omega) hB3
 have hA4 := hf4.keep (by omega) (by omega) hA3
 have hst5 := st_at (i := 1) (x := .val (.int .i64 (rNum (rText st).2).1)) hB4 (by simp)
 simp only [List.set_cons_succ, List.set_cons_zero] at hst5
 simp -implicitDefEqProofs only [V, ↓reduceIte, reduceEqDiff, reduceAdd, reduceMul, reduceCtorEq, reduceEq, reduceLT, reduceLE, hst5]
 generalize e5 : h4.put h2.next (some (.cells [.val (.string (rText st).1), .val (.int .i64 (rNum (rText st).2).1), .val (.slice none 0 0), .val (.slice none 0 0)] true)) = h5
 have hn5 : h5.next = 3 := by rw [← e5, p_next]; omega
 have hB5 : h5.get h2.next = some (.cells [.val (.string (rText st).1), .val (.int .i64 (rNum (rText st).2).1), .val (.slice none 0 0), .val (.slice none 0 0)] true) := by rw [← e5, put_get]
 have hA5 : h5.get 0 = some (.cells zCe true) := by rw [← e5, get_put_old (by omega), hA4]
 have hr5 : Rd h5 1 (rNum (rText st).2).2 := by rw [← e5]; exact hr4.other (by omega)
 have len5 := (rNum_len (rText st).2).1
 refine callK_of (list_call19 (sol_ok hg2) So.len (rSo_len (g + 1)) hr5 (by omega) (fun _ => Nat.lt_of_le_of_lt (rCount_le _).2 (by omega))) ?_
 rintro v6 h6 ⟨ps6, hrow6, hps6, hr6, hf6⟩
 have hrow6 : RowR h6 h5.next (g + 1) (rRow (rSo (g + 1)) (rNum (rText st).2).2).1.length 5 v6 ps6 := hrow6
 have hf6 : Fd h5 h6 1 := hf6
 have l6 := hf6.le
 have hB6 := hf6.keep (by omega) (by omega) hB5
 have hA6 := hf6.keep (by omega) (by omega) hA5
 have hv6 := hrow6.cells
 have hst7 := st_at (i := 2) (x := v6) hB6 (by simp)
 simp only [List.set_cons_succ, List.set_cons_zero] at hst7
 simp -implicitDefEqProofs only [V, ↓reduceIte, reduceEqDiff, reduceAdd, reduceMul, reduceCtorEq, reduceEq, reduceLT, reduceLE, hv6, hst7]
 generalize e7 : h6.put h2.next (some (.cells [.val (.string (rText st).1), .val (.int .i64 (rNum (rText st).2).1), v6, .val (.slice none 0 0)] true)) = h7
 have hn7 : h7.next = h6.next := by rw [← e7, p_next]
 have hB7 : h7.get h2.next = some (.cells [.val (.string (rText st).1), .val (.int .i64 (rNum (rText st).2).1), v6, .val (.slice none 0 0)] true) := by rw [← e7, put_get]
 have hA7 : h7.get 0 = some (.cells zCe true) := by rw [← e7, get_put_old (by omega), hA6]
 have hr7 : Rd h7 1 (rRow (rSo (g + 1)) (rNum (rText st).2).2).2 := by rw [← e7]; exact hr6.other (by omega)
 have hrep7 : Rep h7 h5.next h6.next (g + 2) v6 (kidsA (ps6.map (·.2)) (rRow (rSo (g + 1)) (rNum (rText st).2).2).1.length nilRow none) := rep_same (Nat.le_refl _) (Nat.le_refl _) (fun x x1 x2 => by rw [← e7, get_put_old (by omega)]) hrow6.rep
 have len7 := rRow_len (rSo_len (g + 1)) (rNum (rText st).2).2
 refine callK_of (list_call21 (proof_ok (g + 1) hg2) Pf.len (rPf_len (g + 1)) hr7 (by omega) (fun _ => Nat.lt_of_le_of_lt (rCount_le _).2 (by omega))) ?_
 rintro v h8 ⟨ps, hrow, hps, hr8, hf8⟩
 have hrow : RowR h8 h7.next (g + 1 + 2) (rRow (rPf (g + 1)) (rRow (rSo (g + 1)) (rNum (rText st).2).2).2).1.length 4 v ps := hrow
 have hf8 : Fd h7 h8 1 := hf8
 have l8 := hf8.le
 have hB8 := hf8.keep (by omega) (by omega) hB7
 have hA8 := hf8.keep (by omega) (by omega) hA7
 have hv := hrow.cells
 have hst9 := st_at (i := 3) (x := v) hB8 (by simp)
 simp only [List.set_cons_succ, List.set_cons_zero] at hst9
 simp -implicitDefEqProofs only [V, ↓reduceIte, reduceEqDiff, reduceAdd, reduceMul, reduceCtorEq, reduceEq, reduceLT, reduceLE, hv, hst9]
 generalize e9 : h8.put h2.next (some (.cells [.val (.string (rText st).1), .val (.int .i64 (rNum (rText st).2).1), v6, v] true)) = h9
 have hn9 : h9.next = h8.next := by rw [← e9, p_next]
 have hB9 : h9.get 2 = some (.cells [.val (.string (rText st).1), .val (.int .i64 (rNum (rText st).2).1), v6, v] true) := by rw [← e9, hn2, put_get]
 have hA9 : h9.get 0 = some (.cells zCe true) := by rw [← e9, get_put_old (by omega), hA8]
 have hr9 : Rd h9 1 (rCe (g + 1) st).2 := by rw [← e9]; exact hr8.other (by omega)
 have hnt9 : NoTag h9 := by
  rw [← e9]
  refine NoTag.put (hf8.nt ?_)
  rw [← e7]
  refine NoTag.put (hf6.nt ?_)
  rw [← e5]
  refine NoTag.put (hf4.nt ?_)
  rw [← e3]
  exact NoTag.put (NoTag.alloc (hf2.nt (NoTag.alloc (NoTag.alloc NoTag.empty))))
 have hv6 : Rep h9 3 h9.next (g + 4) v6 (rCe (g + 1) st).1.ssA := by
  have e : kidsA (ps6.map (·.2)) (rRow (rSo (g + 1)) (rNum (rText st).2).2).1.length nilRow none = (rCe (g + 1) st).1.ssA := by rw [hps6]; rfl
  rw [← e]
  refine Rep.to (by omega) (by omega) (fun x x1 x2 cs rw q => ⟨rw, ?_⟩) (by omega) hrep7
  rw [← e9, get_put_old (by omega), hf8.get x (by omega) (by omega), q]
 have hvp : Rep h9 3 h9.next (g + 4) v (rCe (g + 1) st).1.psA := by
  have e : kidsA (ps.map (·.2)) (rRow (rPf (g + 1)) (rRow (rSo (g + 1)) (rNum (rText st).2).2).2).1.length nilRow none = (rCe (g + 1) st).1.psA := by rw [hps]; rfl
  rw [← e]
  refine Rep.to (by omega) (by omega) (fun x x1 x2 cs rw q => ⟨rw, ?_⟩) (by omega) hrow.rep
  rw [← e9, get_put_old (by omega), q]
 have hrep9 : Rep h9 3 h9.next (g + 5) (.agg [.val (.string (rText st).1), .val (.int .i64 (rNum (rText st).2).1), v6, v]) (.agg (rCe (g + 1) st).1.cells) := by
  refine Rep.agg (ps := [(.val (.string (rText st).1), .val (.string (rText st).1)), (.val (.int .i64 (rNum (rText st).2).1), .val (.int .i64 (rNum (rText st).2).1)), (v6, (rCe (g + 1) st).1.ssA), (v, (rCe (g + 1) st).1.psA)]) fun p hp => ?_
  simp only [List.mem_cons, List.mem_nil_iff, or_false] at hp
  rcases hp with rfl | rfl | rfl | rfl
  ·exact Rep.leaf (Leaf.val _)
  ·exact Rep.leaf (Leaf.val _)
  ·exact hv6
  ·exact hvp
 have hdec : decCe (g + 1) b = if (rCe (g + 1) st).2.bad || !(rCe (g + 1) st).2.rest.isEmpty || !(encCe (rCe (g + 1) st).1 == b) then none else some (rCe (g + 1) st).1 := by
  rw [decCe, if_pos hb, hst0]
 have hfit : fitCe (rCe (g + 1) st).1 := rCe_fit _ _ (by omega)
 have hcost := rCe_cost (g + 1) st
 have hstz := st_all (h := h9) (b := 0) (n := 4) (cs := zCe) (l := zCe) hA9 rfl rfl
 have hfz : ∀ s' : St, fill s' zCe [] = some zCe := fun s' => rfl
 have tkz : takeN (some 4) zCe = some (.agg zCe) := rfl
 simp only [zCe] at hstz hfz tkz
 have hg9 : (h9.put 0 (some (.cells zCe true))).get 0 = some (.cells zCe true) := put_get
 simp only [zCe] at hg9
 have noans : decCe (g + 1) b = none → ∀ h : AH, DecTo (g + 1) b (.tup [.agg zCe, .val (.int .i64 6)]) h := fun e h => ⟨.agg zCe, by simp only [decErr, e], 1, by decide, by simp only [decCells, e]; exact zCe_rep⟩
 generalize eC : (rCe (g + 1) st).1 = c at *
 generalize eS : (rCe (g + 1) st).2 = sf at *
 by_cases hbad : sf.bad = true ∨ sf.rest ≠ []
 ·have hno : decCe (g + 1) b = none := by
   rw [hdec, if_pos]
   rcases hbad with k | k
   ·rw [k]; rfl
   ·have : sf.rest.isEmpty = false := by
     cases hq : sf.rest with
     | nil => exact absurd hq k
     | cons _ _ => rfl
    rw [this]
    simp
  refine (draw_bad (C := 2) (b := b) (cap := cap) (st := sf) (c := c) (cs := [.val (.string (rText st).1), .val (.int .i64 (rNum (rText st).2).1), v6, v]) (lo := 3) (n := g + 5) ⟨?_, ?_, ?_, ?_, ?_, ?_, rfl, ?_⟩ hbad).mono ?_
  ·simp -implicitDefEqProofs only [V, ↓reduceIte, reduceEqDiff, reduceAdd, reduceMul, reduceCtorEq, reduceEq, reduceLT, reduceLE, h0]
  ·simp -implicitDefEqProofs only [V, ↓reduceIte, reduceEqDiff, reduceAdd, reduceMul, reduceCtorEq, reduceEq, reduceLT, reduceLE]
  ·simp -implicitDefEqProofs only [V, ↓reduceIte, reduceEqDiff, reduceAdd, reduceMul, reduceCtorEq, reduceEq, reduceLT, reduceLE, hn2]
  ·simp -implicitDefEqProofs only [V, ↓reduceIte, reduceEqDiff, reduceAdd, reduceMul, reduceCtorEq, reduceEq, reduceLT, reduceLE]
   exact hr9
  ·simp -implicitDefEqProofs only [V, ↓reduceIte, reduceEqDiff, reduceAdd, reduceMul, reduceCtorEq, reduceEq, reduceLT, reduceLE]
   exact hB9
  ·simp -implicitDefEqProofs only [V, ↓reduceIte, reduceEqDiff, reduceAdd, reduceMul, reduceCtorEq, reduceEq, reduceLT, reduceLE]
   omega
  ·simp -implicitDefEqProofs only [V, ↓reduceIte, reduceEqDiff, reduceAdd, reduceMul, reduceCtorEq, reduceEq, reduceLT, reduceLE]
   exact hrep9
  rintro e s' ⟨rfl, q1, q2, q3, q4, q5⟩
  have q4 : s'.eval (.t 2) = some (.ptr 0 0) := by rw [q4]; simp -implicitDefEqProofs only [V, ↓reduceIte, reduceEqDiff, reduceAdd, reduceMul, reduceCtorEq, reduceEq, reduceLT, reduceLE]
  have q2 : s'.h = h9 := by rw [q2]; simp -implicitDefEqProofs only [V, ↓reduceIte, reduceEqDiff, reduceAdd, reduceMul, reduceCtorEq, reduceEq, reduceLT, reduceLE]
  have q3 : s'.defers = [] := by rw [q3]; simp -implicitDefEqProofs only [V, ↓reduceIte, reduceEqDiff, reduceAdd, reduceMul, reduceCtorEq, reduceEq, reduceLT, reduceLE, hd]
  simp -implicitDefEqProofs only [V, ↓reduceIte, reduceEqDiff, reduceAdd, reduceMul, reduceCtorEq, reduceEq, reduceLT, reduceLE, q1, q2, q3, q4, hstz, hfz, tkz, hg9]
  exact ⟨_, rfl, noans hno _⟩
 ·have hbad1 : sf.bad = false := by
   cases hq : sf.bad with
   | false => rfl
   | true => exact absurd (.inl hq) hbad
  have hbad2 : sf.rest = [] := Classical.byContradiction fun k => hbad (.inr k)
  have hlen : (encCe c).length ≤ 2 ^ 40 := by
   have := rCe_enclen (g + 1) st (by omega) (by rw [eS]; exact hbad1)
   rw [eC] at this
   omega
  refine (draw_good (C := 2) (b := b) (cap := cap) (st := sf) (c := c) (cs := [.val (.string (rText st).1), .val (.int .i64 (rNum (rText st).2).1), v6, v]) (lo := 3) (n := g + 5) ⟨?_, ?_, ?_, ?_, ?_, ?_, rfl, ?_⟩ hbad1 hbad2 hfit hlen ?_ (by omega) ?_).mono ?_
  ·simp -implicitDefEqProofs only [V, ↓reduceIte, reduceEqDiff, reduceAdd, reduceMul, reduceCtorEq, reduceEq, reduceLT, reduceLE, h0]
  ·simp -implicitDefEqProofs only [V, ↓reduceIte, reduceEqDiff, reduceAdd, reduceMul, reduceCtorEq, reduceEq, reduceLT, reduceLE]
  ·simp -implicitDefEqProofs only [V, ↓reduceIte, reduceEqDiff, reduceAdd, reduceMul, reduceCtorEq, reduceEq, reduceLT, reduceLE, hn2]
  ·simp -implicitDefEqProofs only [V, ↓reduceIte, reduceEqDiff, reduceAdd, reduceMul, reduceCtorEq, reduceEq, reduceLT, reduceLE]
   exact hr9
  ·simp -implicitDefEqProofs only [V, ↓reduceIte, reduceEqDiff, reduceAdd, reduceMul, reduceCtorEq, reduceEq, reduceLT, reduceLE]
   exact hB9
  ·simp -implicitDefEqProofs only [V, ↓reduceIte, reduceEqDiff, reduceAdd, reduceMul, reduceCtorEq, reduceEq, reduceLT, reduceLE]
   omega
  ·simp -implicitDefEqProofs only [V, ↓reduceIte, reduceEqDiff, reduceAdd, reduceMul, reduceCtorEq, reduceEq, reduceLT, reduceLE]
   exact hrep9
  ·show g + 5 < 1000000000
   omega
  ·simp -implicitDefEqProofs only [V, ↓reduceIte, reduceEqDiff, reduceAdd, reduceMul, reduceCtorEq, reduceEq, reduceLT, reduceLE]
   exact hnt9
  rintro e s' ⟨rfl, q1, ⟨q2, q6⟩, q3, q4, q5⟩
  simp -implicitDefEqProofs only [V, ↓reduceIte, reduceEqDiff, reduceAdd, reduceMul, reduceCtorEq, reduceEq, reduceLT, reduceLE] at q2 q6
  have q4 : s'.eval (.t 2) = some (.ptr 0 0) := by rw [q4]; simp -implicitDefEqProofs only [V, ↓reduceIte, reduceEqDiff, reduceAdd, reduceMul, reduceCtorEq, reduceEq, reduceLT, reduceLE]
  have q5 : s'.eval (.t 5) = some (.ptr 2 0) := by rw [q5]; simp -implicitDefEqProofs only [V, ↓reduceIte, reduceEqDiff, reduceAdd, reduceMul, reduceCtorEq, reduceEq, reduceLT, reduceLE, hn2]
  have q3 : s'.defers = [] := by rw [q3]; simp -implicitDefEqProofs only [V, ↓reduceIte, reduceEqDiff, reduceAdd, reduceMul, reduceCtorEq, reduceEq, reduceLT, reduceLE, hd]
  have hA' : s'.h.get 0 = some (.cells zCe true) := by rw [q6 0 (by omega), hA9]
  have hB' : s'.h.get 2 = some (.cells [.val (.string (rText st).1), .val (.int .i64 (rNum (rText st).2).1), v6, v] true) := by rw [q6 2 (by omega), hB9]
  by_cases he : (encCe c == b) = true
  ·rw [he] at q1
   have hsome : decCe (g + 1) b = some c := by
    rw [hdec, if_neg]
    rw [he, hbad1, hbad2]
    simp
   have hst' := st_all (h := s'.h) (b := 0) (n := 4) (cs := zCe) (l := [.val (.string (rText st).1), .val (.int .i64 (rNum (rText st).2).1), v6, v]) hA' rfl rfl
   have tk' : takeN (some 4) [.val (.string (rText st).1), .val (.int .i64 (rNum (rText st).2).1), v6, v] = some (.agg [.val (.string (rText st).1), .val (.int .i64 (rNum (rText st).2).1), v6, v]) := rfl
   have hg' : (s'.h.put 0 (some (.cells [.val (.string (rText st).1), .val (.int .i64 (rNum (rText st).2).1), v6, v] true))).get 0 = some (.cells [.val (.string (rText st).1), .val (.int .i64 (rNum (rText st).2).1), v6, v] true) := put_get
   simp -implicitDefEqProofs only [V, ↓reduceIte, reduceEqDiff, reduceAdd, reduceMul, reduceCtorEq, reduceEq, reduceLT, reduceLE, q1, q3, q4, q5, hB', hst', tk', hg']
   refine ⟨_, rfl, ⟨_, by simp only [decErr, hsome]; rfl, g + 5, by omega, ?_⟩⟩
   simp only [decCells, hsome]
   have hfzr := hrep9.fz q2
   have hnx : s'.h.next = h9.next := q2.1
   refine Rep.to (by omega) (by rw [p_next, hnx]; exact Nat.le_refl _) (fun x x1 x2 cs rw q => ⟨rw, ?_⟩) (Nat.le_refl _) hfzr
   rw [get_put_old (by omega), q]
  ·have he : (encCe c == b) = false := by simpa using he
   rw [he] at q1
   have hno : decCe (g + 1) b = none := by
    rw [hdec, if_pos]
    rw [he]
    simp
   have hst' := st_all (h := s'.h) (b := 0) (n := 4) (cs := zCe) (l := zCe) hA' rfl rfl
   have hg' : (s'.h.put 0 (some (.cells zCe true))).get 0 = some (.cells zCe true) := put_get
   simp only [zCe] at hst' hg'
   simp -implicitDefEqProofs only [V, ↓reduceIte, reduceEqDiff, reduceAdd, reduceMul, reduceCtorEq, reduceEq, reduceLT, reduceLE, q1, q3, q4, hst', hfz, tkz, hg']
   exact ⟨_, rfl, noans hno _⟩
end Go.Proofs.YtijpnlmmaoecgaaGreatDoor
