/- A part of the proofs about certificates: YDr YDs YDrE. -/
import Derived.Test.YtijpnlmmaoecgaaGreatDoorQW1
import Derived.Test.YtijpnlmmaoecgaaGreatDoorQC1
import Derived.Test.YtijpnlmmaoecgaaGreatDoorQR2
import Derived.Test.YtijpnlmmaoecgaaGreatDoorQD1
import Derived.Test.YtijpnlmmaoecgaaGreatDoorQS2
import Derived.Test.YtijpnlmmaoecgaaGreatDoorQB1

set_option linter.all false
open Nat (reduceEqDiff reduceAdd reduceMul)
open Int (reduceEq reduceLT reduceLE)

namespace Go.Proofs.YtijpnlmmaoecgaaGreatDoor
open Go Go.AM
def rd2 (F : List UInt8) (cap : Option Nat) (at' : Nat) (bad : Bool) : Blk := .cells [.imm (bytesA F) F.length cap, .val (.int .i64 (at' : Nat)), .val (.bool bad)] true
def Rq (h : AH) (r : Nat) (F : List UInt8) (s : RS) : Prop := r < h.next ∧ ∃ cap at', h.get r = some (rd2 F cap at' s.bad) ∧ s.rest = F.drop at' ∧ at' ≤ F.length
theorem q_f0 {F : List UInt8} {cap : Option Nat} {a : Nat} {bad : Bool} : cfB (some (rd2 F cap a bad)) 0 = some [.imm (bytesA F) F.length cap, .val (.int .i64 (a : Nat)), .val (.bool bad)] := rfl
theorem q_f1 {F : List UInt8} {cap : Option Nat} {a : Nat} {bad : Bool} : cfB (some (rd2 F cap a bad)) 1 = some [.val (.int .i64 (a : Nat)), .val (.bool bad)] := rfl
theorem q_f2 {F : List UInt8} {cap : Option Nat} {a : Nat} {bad : Bool} : cfB (some (rd2 F cap a bad)) 2 = some [.val (.bool bad)] := rfl
theorem q_s1 {h : AH} {r : Nat} {F : List UInt8} {cap : Option Nat} {a b : Nat} {bad : Bool} (g : h.get r = some (rd2 F cap a bad)) : storeH h 1 (.ptr r 1) [.val (.int .i64 (b : Nat))] = some (h.put r (some (rd2 F cap b bad))) := st_at g (by simp)
theorem q_s2 {h : AH} {r : Nat} {F : List UInt8} {cap : Option Nat} {a : Nat} {bad b : Bool} (g : h.get r = some (rd2 F cap a bad)) : storeH h 1 (.ptr r 2) [.val (.bool b)] = some (h.put r (some (rd2 F cap a b))) := st_at g (by simp)
theorem q_nice {h : AH} {r o : Nat} {F : List UInt8} {cap : Option Nat} {a : Nat} {bad : Bool} (hr : r < h.next) (g : h.get r = some (rd2 F cap a bad)) : niceT h (some (.ptr r o)) = true := nice_ptr hr g rfl
theorem Rq.put {h : AH} {r : Nat} {F : List UInt8} {cap : Option Nat} {a : Nat} {bad : Bool} {l : List UInt8} (hr : r < h.next) (hl : l = F.drop a) (ha : a ≤ F.length) : Rq (h.put r (some (rd2 F cap a bad))) r F ⟨l, bad⟩ := ⟨hr, cap, a, put_get, hl, ha⟩
theorem Rq.alloc {h : AH} {r : Nat} {F : List UInt8} {s : RS} {x : Blk} (k : Rq h r F s) : Rq (h.alloc x) r F s := by
 obtain ⟨a, cap, at', b, c⟩ := k
 exact ⟨by rw [a_next]; omega, cap, at', by rw [get_alloc_old a, b], c⟩
theorem Rq.other {h : AH} {r c : Nat} {F : List UInt8} {s : RS} {x : Option Blk} (k : Rq h r F s) (hc : r ≠ c) : Rq (h.put c x) r F s := by
 obtain ⟨a, cap, at', b, d⟩ := k
 exact ⟨a, cap, at', by rw [get_put_old hc, b], d⟩
theorem ptr0 {g r : Nat} {h : AH} {a : AFun} (P : AV → AH → Prop) (hs : freshF g = true) (hf : funOf Tryz.prog g = some a)
  (H : ∀ s : St, (∀ i v, (enterTm [.ptr r 0] 0 .nil).get i = some v → s.eval (.t i) = some v) → s.h = h → s.defers = [] → s.round = none → wp E1 a.body s fun e s => (e = .normal ∨ e = .ret) ∧ s.defers = [] ∧ ∃ r, resultsA E1.globs s a.res = some r ∧ P (oneOrTup r) s.h) :
  ∃ v h', RunCall E1 (.f g) [.ptr r 0] h v h' ∧ P v h' := by
 obtain ⟨v, h', hp, hr⟩ := enter1 P hf fun s h1 h2 h3 h4 => wp_run _ _ _ (H s h1 h2 h3 h4)
 have hm : ∀ h : AH, mapTree h [.ptr r 0] = none := fun h => by
  have e : toTree h deepest (.ptr r 0) = none := by
   rw [show deepest = 999999999 + 1 from rfl, toTree.eq_def]
  simp only [mapTree, e]
 refine ⟨v, h', hr.mono fun n p => ?_, hp⟩
 simp only [callA, callF, fresh_shared hs, hm, p]
def RqTo (h : AH) (r : Nat) (F : List UInt8) (v : AV) (s : RS) (v' : AV) (h' : AH) : Prop := v' = v ∧ Rq h' r F s ∧ Fd h h' r
theorem compl_u64 {u : Nat} (h : u < 2 ^ 63) : unV E1.P .xor (.val (.int .u64 (u : Nat))) = some (.val (.int .u64 ((2 ^ 64 - 1 - u : Nat) : Int))) := by
 have e : unV E1.P .xor (.val (.int .u64 (u : Nat))) = some (.val (.int .u64 (IntKind.u64.wrap ((BitVec.ofInt 64 18446744073709551615 ^^^ BitVec.ofInt 64 (u : Nat)).toNat : Nat)))) := rfl
 have m1 : BitVec.ofInt 64 18446744073709551615 = BitVec.allOnes 64 := by decide
 rw [e, m1, BitVec.allOnes_xor, BitVec.toNat_not, ofInt_nat, BitVec.toNat_ofNat, Nat.mod_eq_of_lt (by omega), wrap_u64 (by omega)]
theorem compl_i64 {u : Nat} (h : u < 2 ^ 63) : IntKind.i64.wrap ((2 ^ 64 - 1 - u : Nat) : Int) = -((u : Nat) : Int) - 1 := by
 simp [IntKind.wrap, IntKind.bits, IntKind.signed]
 omega
theorem f25_calm0 : calmAt 0 f25_o0 = true := by rfl
theorem f25_calm1 : calmAt 0 f25_o1 = true := by rfl
theorem f25_loop (r : Nat) (F : List UInt8) (hF : F.length < 2 ^ 60) (cap : Option Nat) : ∀ (l : List UInt8) (i u sh : Nat) (s : St), F.drop i = l → i ≤ F.length → sh ≤ 70 → sh % 7 = 0 → (sh ≤ 63 → u < 2 ^ sh) → r < s.h.next → s.h.get r = some (rd2 F cap i false) →
  s.eval (.t 0) = some (.ptr r 0) → s.eval (.t 3) = some (.val (.int .u64 (u : Nat))) → s.eval (.t 4) = some (.val (.int .u64 (sh : Nat))) → s.defers = [] →
  Run E1 f25_l2 s fun e s' => e = .ret ∧ s'.defers = [] ∧ s'.eval (.t 2) = some (.val (.int .i64 (dNumV (numD l u sh)).1)) ∧ Rq s'.h r F (dNumV (numD l u sh)).2 ∧ Fd s.h s'.h r ∧ s'.h.next = s.h.next
 | [], i, u, sh, s, hd, hi, h70, hm7, hu, hr, hg, h0, h3, h4, hf => by
  have he : i = F.length := by
   have := List.drop_eq_nil_iff.1 hd
   omega
  have np : ∀ o, niceT s.h (some (.ptr r o)) = true := fun o => q_nice hr hg
  have c1 : decide (((F.length : Nat) : Int) ≤ ((i : Nat) : Int)) = true := dec_le (by omega)
  have hlen : lenV (.imm (bytesA F) F.length cap) = some (.val (.int .i64 (F.length : Nat))) := rfl
  have hs2 := q_s2 (b := true) hg
  apply loop_of (rfl : f25_l2 = .loop f25_b2)
  simp -implicitDefEqProofs only [f25_b2, V, ↓reduceIte, reduceEqDiff, reduceAdd, reduceMul, reduceCtorEq, reduceEq, reduceLT, reduceLE, h0, h3, h4, hg, q_f2]
  refine run_calm f25_calm0 ?_
  simp -implicitDefEqProofs only [f25_o0, wpDr, g_none, g_some, gIf_t, gIf_f, List.all_cons, List.all_nil, nice_val, nice_imm, nice_iptr, nice_undef, V, ↓reduceIte, reduceEqDiff, reduceAdd, reduceMul, reduceCtorEq, reduceEq, reduceLT, reduceLE, h0, h3, h4, hg, q_f0, q_f1, q_f2, np, hlen, c1, hs2, hf]
  exact ⟨rfl, .put hr hd.symm hi, Fd.put⟩
 | c :: l, i, u, sh, s, hd, hi, h70, hm7, hu, hr, hg, h0, h3, h4, hf => by
  obtain ⟨hlt, hd'⟩ := lt_of_drop hd
  have np : ∀ o, niceT s.h (some (.ptr r o)) = true := fun o => q_nice hr hg
  have c1 : decide (((F.length : Nat) : Int) ≤ ((i : Nat) : Int)) = false := dec_gt (by omega)
  have hlen : lenV (.imm (bytesA F) F.length cap) = some (.val (.int .i64 (F.length : Nat))) := rfl
  have w1 := wrap_succ (i := i) (by omega)
  have hc := c.toNat_lt
  rw [numD]
  by_cases h63 : 63 < sh
  ·rw [if_pos h63]
   have d1 : decide ((63 : Int) < (sh : Nat)) = true := by simp; omega
   have hs2 := q_s2 (b := true) hg
   apply loop_of (rfl : f25_l2 = .loop f25_b2)
   simp -implicitDefEqProofs only [f25_b2, V, ↓reduceIte, reduceEqDiff, reduceAdd, reduceMul, reduceCtorEq, reduceEq, reduceLT, reduceLE, h0, h3, h4, hg, q_f2]
   refine run_calm f25_calm0 ?_
   simp -implicitDefEqProofs only [f25_o0, wpDr, g_none, g_some, gIf_t, gIf_f, List.all_cons, List.all_nil, nice_val, nice_imm, nice_iptr, nice_undef, V, ↓reduceIte, reduceEqDiff, reduceAdd, reduceMul, reduceCtorEq, reduceEq, reduceLT, reduceLE, h0, h3, h4, hg, q_f0, q_f1, q_f2, np, hlen, c1, d1, hs2, hf]
   exact ⟨rfl, .put hr hd.symm hi, Fd.put⟩
  ·rw [if_neg h63]
   have hsh : sh ≤ 63 := by omega
   have hu' := hu hsh
   have d1 : decide ((63 : Int) < (sh : Nat)) = false := by simp; omega
   have hs1 := q_s1 (b := i + 1) hg
   have hg1 : (s.h.put r (some (rd2 F cap (i + 1) false))).get r = some (rd2 F cap (i + 1) false) := put_get
   have hs3 := q_s2 (b := true) hg1
   have bk := bytes_at (cap := cap) hd
   by_cases hbad : (sh = 63 ∧ 1 < c.toNat) ∨ (0 < sh ∧ c.toNat = 0)
   ·rw [if_pos hbad]
    apply loop_of (rfl : f25_l2 = .loop f25_b2)
    simp -implicitDefEqProofs only [f25_b2, V, ↓reduceIte, reduceEqDiff, reduceAdd, reduceMul, reduceCtorEq, reduceEq, reduceLT, reduceLE, h0, h3, h4, hg, q_f2]
    refine run_calm f25_calm0 ?_
    simp -implicitDefEqProofs only [f25_o0, wpDr, g_none, g_some, gIf_t, gIf_f, List.all_cons, List.all_nil, nice_val, nice_imm, nice_iptr, nice_undef, V, ↓reduceIte, reduceEqDiff, reduceAdd, reduceMul, reduceCtorEq, reduceEq, reduceLT, reduceLE, h0, h3, h4, hg, q_f0, q_f1, q_f2, np, hlen, c1, d1]
    refine run_calm f25_calm1 ?_
    simp -implicitDefEqProofs only [f25_o1, wpDr, g_none, g_some, gIf_t, gIf_f, List.all_cons, List.all_nil, nice_val, nice_imm, nice_iptr, nice_undef, V, ↓reduceIte, reduceEqDiff, reduceAdd, reduceMul, reduceCtorEq, reduceEq, reduceLT, reduceLE, h0, h3, h4, hg, q_f0, q_f1, q_f2, np, bk, w1, hs1]
    have hfin : Fd s.h ((s.h.put r (some (rd2 F cap (i + 1) false))).put r (some (rd2 F cap (i + 1) true))) r := Fd.put.trans Fd.put
    rcases hbad with ⟨rfl, q⟩ | ⟨q1, q2⟩
    ·have e1 : decide (((63 : Nat) : Int) = 63) = true := rfl
     have e2 : decide ((1 : Int) < (c.toNat : Nat)) = true := by simp; omega
     simp -implicitDefEqProofs only [V, ↓reduceIte, reduceEqDiff, reduceAdd, reduceMul, reduceCtorEq, reduceEq, reduceLT, reduceLE, h0, h3, h4, e1, e2, hs3, hf]
     exact ⟨rfl, .put hr hd'.symm (by omega), hfin⟩
    ·have e3 : decide ((0 : Int) < (sh : Nat)) = true := by simp; omega
     have e4 : decide (((c.toNat : Nat) : Int) = 0) = true := by simp; omega
     rcases Nat.lt_or_ge sh 63 with q | q
     ·have e1 : decide (((sh : Nat) : Int) = 63) = false := by simp; omega
      simp -implicitDefEqProofs only [V, ↓reduceIte, reduceEqDiff, reduceAdd, reduceMul, reduceCtorEq, reduceEq, reduceLT, reduceLE, h0, h3, h4, e1, e3, e4, hs3, hf]
      exact ⟨rfl, .put hr hd'.symm (by omega), hfin⟩
     ·have e1 : decide (((sh : Nat) : Int) = 63) = true := by simp; omega
      have e2 : decide ((1 : Int) < (c.toNat : Nat)) = false := by simp; omega
      simp -implicitDefEqProofs only [V, ↓reduceIte, reduceEqDiff, reduceAdd, reduceMul, reduceCtorEq, reduceEq, reduceLT, reduceLE, h0, h3, h4, e1, e2, e3, e4, hs3, hf]
      exact ⟨rfl, .put hr hd'.symm (by omega), hfin⟩
   ·rw [if_neg hbad]
    have hx : c.toNat % 128 * 2 ^ sh < 2 ^ 64 := by
     rcases Nat.lt_or_ge sh 63 with q | q
     ·have : 2 ^ sh ≤ 2 ^ 56 := Nat.pow_le_pow_right (by decide) (by omega)
      calc c.toNat % 128 * 2 ^ sh ≤ 127 * 2 ^ 56 := Nat.mul_le_mul (by omega) this
       _ < 2 ^ 64 := by decide
     ·have e : sh = 63 := by omega
      subst e
      have : c.toNat % 128 ≤ 1 := by omega
      calc c.toNat % 128 * 2 ^ 63 ≤ 1 * 2 ^ 63 := Nat.mul_le_mul_right _ this
       _ < 2 ^ 64 := by decide
    have hx2 : u + c.toNat % 128 * 2 ^ sh < 2 ^ (sh + 7) := by
     have : c.toNat % 128 * 2 ^ sh ≤ 127 * 2 ^ sh := Nat.mul_le_mul_right _ (by omega)
     rw [Nat.pow_add]
     omega
    have hx3 : u + c.toNat % 128 * 2 ^ sh < 2 ^ 64 := by
     rcases Nat.lt_or_ge sh 63 with q | q
     ·exact Nat.lt_of_lt_of_le hx2 (Nat.pow_le_pow_right (by decide) (by omega))
     ·have e : sh = 63 := by omega
      subst e
      have : c.toNat % 128 ≤ 1 := by omega
      have : c.toNat % 128 * 2 ^ 63 ≤ 1 * 2 ^ 63 := Nat.mul_le_mul_right _ this
      omega
    have a0 : binA E1.P .rem 5 true (.val (.int .u8 (c.toNat : Nat))) (.val (.int .u8 128)) = some (.val (.int .u8 ((c.toNat % 128 : Nat) : Int))) := by
     rw [v_rem (by decide)]
     rfl
    have a2 : IntKind.u64.wrap ((c.toNat % 128 : Nat) : Int) = ((c.toNat % 128 : Nat) : Int) := wrap_u64 (by omega)
    have a3 := shl_byte (P := E1.P) (t := 141) (g := false) (x := c.toNat % 128) (k' := .u64) hsh hx
    have a4 := or_byte (P := E1.P) (t := 141) (g := false) hu' hsh hx
    have guards : (decide ((sh : Int) = 63) = false ∨ (decide ((sh : Int) = 63) = true ∧ decide ((1 : Int) < (c.toNat : Nat)) = false)) ∧ (decide ((0 : Int) < (sh : Nat)) = false ∨ (decide ((0 : Int) < (sh : Nat)) = true ∧ decide (((c.toNat : Nat) : Int) = 0) = false)) := by
     constructor
     ·rcases Nat.lt_or_ge sh 63 with q | q
      ·exact .inl (by simp; omega)
      ·exact .inr ⟨by simp; omega, by simp; omega⟩
     ·rcases Nat.eq_zero_or_pos sh with q | q
      ·exact .inl (by simp; omega)
      ·exact .inr ⟨by simp; omega, by simp; omega⟩
    obtain ⟨d2, d3⟩ := guards
    apply loop_of (rfl : f25_l2 = .loop f25_b2)
    simp -implicitDefEqProofs only [f25_b2, V, ↓reduceIte, reduceEqDiff, reduceAdd, reduceMul, reduceCtorEq, reduceEq, reduceLT, reduceLE, h0, h3, h4, hg, q_f2]
    refine run_calm f25_calm0 ?_
    simp -implicitDefEqProofs only [f25_o0, wpDr, g_none, g_some, gIf_t, gIf_f, List.all_cons, List.all_nil, nice_val, nice_imm, nice_iptr, nice_undef, V, ↓reduceIte, reduceEqDiff, reduceAdd, reduceMul, reduceCtorEq, reduceEq, reduceLT, reduceLE, h0, h3, h4, hg, q_f0, q_f1, q_f2, np, hlen, c1, d1]
    refine run_calm f25_calm1 ?_
    simp -implicitDefEqProofs only [f25_o1, wpDr, g_none, g_some, gIf_t, gIf_f, List.all_cons, List.all_nil, nice_val, nice_imm, nice_iptr, nice_undef, V, ↓reduceIte, reduceEqDiff, reduceAdd, reduceMul, reduceCtorEq, reduceEq, reduceLT, reduceLE, h0, h3, h4, hg, q_f0, q_f1, q_f2, np, bk, w1, hs1]
    have hfd : Fd s.h (s.h.put r (some (rd2 F cap (i + 1) false))) r := Fd.put
    by_cases h128 : c.toNat < 128
    ·rw [if_pos h128]
     have d4 : decide ((c.toNat : Int) < 128) = true := by simp; omega
     have b1 := shr_1 (P := E1.P) (t := 141) (g := true) (u := u + c.toNat % 128 * 2 ^ sh) (k' := .u64)
     have b2 : binA E1.P .rem 141 true (.val (.int .u64 ((u + c.toNat % 128 * 2 ^ sh : Nat) : Int))) (.val (.int .u64 2)) = some (.val (.int .u64 (((u + c.toNat % 128 * 2 ^ sh) % 2 : Nat) : Int))) := by
      rw [v_rem (by decide)]
      rfl
     generalize u + c.toNat % 128 * 2 ^ sh = U at *
     have b3 := compl_u64 (u := U / 2) (by omega)
     have b4 := compl_i64 (u := U / 2) (by omega)
     have b5 : IntKind.i64.wrap ((U / 2 : Nat) : Int) = ((U / 2 : Nat) : Int) := by
      simp [IntKind.wrap, IntKind.bits, IntKind.signed]
      omega
     have fin : ∀ s1 : St, s1.h = s.h.put r (some (rd2 F cap (i + 1) false)) → s1.eval (.t 3) = some (.val (.int .u64 (U : Nat))) → s1.defers = [] → s1.eval (.t 2) = some (.val (.int .i64 (unz U))) → (s1.eval (.t 2) = some (.val (.int .i64 (dNumV (some U, l)).1)) ∧ Rq s1.h r F (dNumV (some U, l)).2 ∧ Fd s.h s1.h r ∧ s1.h.next = s.h.next) := fun s1 e1 e2 e3 e4 => ⟨e4, by rw [e1]; exact .put hr hd'.symm (by omega), by rw [e1]; exact hfd, by rw [e1]; rfl⟩
     rcases Nat.mod_two_eq_zero_or_one U with ev | od
     ·have d5 : decide (((U % 2 : Nat) : Int) = 1) = false := by rw [ev]; rfl
      have ez : unz U = ((U / 2 : Nat) : Int) := by rw [unz, if_pos ev]
      rcases d2 with d2 | ⟨d2, d2'⟩ <;> rcases d3 with d3 | ⟨d3, d3'⟩
      ·simp -implicitDefEqProofs only [V, ↓reduceIte, reduceEqDiff, reduceAdd, reduceMul, reduceCtorEq, reduceEq, reduceLT, reduceLE, h0, h3, h4, d2, d3, a0, a2, a3, a4, d4, b1, b2, d5, b5, hf, dNumV, ez]
       exact ⟨.put hr hd'.symm (by omega), hfd⟩
      ·simp -implicitDefEqProofs only [V, ↓reduceIte, reduceEqDiff, reduceAdd, reduceMul, reduceCtorEq, reduceEq, reduceLT, reduceLE, h0, h3, h4, d2, d3, d3', a0, a2, a3, a4, d4, b1, b2, d5, b5, hf, dNumV, ez]
       exact ⟨.put hr hd'.symm (by omega), hfd⟩
      ·simp -implicitDefEqProofs only [V, ↓reduceIte, reduceEqDiff, reduceAdd, reduceMul, reduceCtorEq, reduceEq, reduceLT, reduceLE, h0, h3, h4, d2, d2', d3, a0, a2, a3, a4, d4, b1, b2, d5, b5, hf, dNumV, ez]
       exact ⟨.put hr hd'.symm (by omega), hfd⟩
      ·simp -implicitDefEqProofs only [V, ↓reduceIte, reduceEqDiff, reduceAdd, reduceMul, reduceCtorEq, reduceEq, reduceLT, reduceLE, h0, h3, h4, d2, d2', d3, d3', a0, a2, a3, a4, d4, b1, b2, d5, b5, hf, dNumV, ez]
       exact ⟨.put hr hd'.symm (by omega), hfd⟩
     ·have d5 : decide (((U % 2 : Nat) : Int) = 1) = true := by rw [od]; rfl
      have ez : unz U = -((U / 2 : Nat) : Int) - 1 := by rw [unz, if_neg (by omega)]
      rcases d2 with d2 | ⟨d2, d2'⟩ <;> rcases d3 with d3 | ⟨d3, d3'⟩
      ·simp -implicitDefEqProofs only [V, ↓reduceIte, reduceEqDiff, reduceAdd, reduceMul, reduceCtorEq, reduceEq, reduceLT, reduceLE, h0, h3, h4, d2, d3, a0, a2, a3, a4, d4, b1, b2, d5, b3, b4, hf, dNumV, ez]
       exact ⟨.put hr hd'.symm (by omega), hfd⟩
      ·simp -implicitDefEqProofs only [V, ↓reduceIte, reduceEqDiff, reduceAdd, reduceMul, reduceCtorEq, reduceEq, reduceLT, reduceLE, h0, h3, h4, d2, d3, d3', a0, a2, a3, a4, d4, b1, b2, d5, b3, b4, hf, dNumV, ez]
       exact ⟨.put hr hd'.symm (by omega), hfd⟩
      ·simp -implicitDefEqProofs only [V, ↓reduceIte, reduceEqDiff, reduceAdd, reduceMul, reduceCtorEq, reduceEq, reduceLT, reduceLE, h0, h3, h4, d2, d2', d3, a0, a2, a3, a4, d4, b1, b2, d5, b3, b4, hf, dNumV, ez]
       exact ⟨.put hr hd'.symm (by omega), hfd⟩
      ·simp -implicitDefEqProofs only [V, ↓reduceIte, reduceEqDiff, reduceAdd, reduceMul, reduceCtorEq, reduceEq, reduceLT, reduceLE, h0, h3, h4, d2, d2', d3, d3', a0, a2, a3, a4, d4, b1, b2, d5, b3, b4, hf, dNumV, ez]
       exact ⟨.put hr hd'.symm (by omega), hfd⟩
    ·rw [if_neg h128]
     have d4 : decide ((c.toNat : Int) < 128) = false := by simp; omega
     have w7 : IntKind.u64.wrap ((sh : Int) + 7) = ((sh + 7 : Nat) : Int) := by
      rw [show (sh : Int) + 7 = ((sh + 7 : Nat) : Int) by omega]
      exact wrap_u64 (by omega)
     have next : ∀ s1 : St, s1.h = s.h.put r (some (rd2 F cap (i + 1) false)) → s1.eval (.t 0) = some (.ptr r 0) → s1.eval (.t 3) = some (.val (.int .u64 ((u + c.toNat % 128 * 2 ^ sh : Nat) : Int))) → s1.eval (.t 4) = some (.val (.int .u64 ((sh + 7 : Nat) : Int))) → s1.defers = [] →
       Run E1 f25_l2 s1 fun e s' => e = .ret ∧ s'.defers = [] ∧ s'.eval (.t 2) = some (.val (.int .i64 (dNumV (numD l (u + c.toNat % 128 * 2 ^ sh) (sh + 7))).1)) ∧ Rq s'.h r F (dNumV (numD l (u + c.toNat % 128 * 2 ^ sh) (sh + 7))).2 ∧ Fd s.h s'.h r ∧ s'.h.next = s.h.next := fun s1 e1 k0 k3 k4 kd => by
      refine (f25_loop r F hF cap l (i + 1) (u + c.toNat % 128 * 2 ^ sh) (sh + 7) s1 hd' (by omega) (by omega) (by omega) (fun _ => hx2) (by rw [e1]; exact hr) (by rw [e1]; exact hg1) k0 k3 k4 kd).mono ?_
      rintro e s' ⟨r1, r2, r3, r4, r5, r6⟩
      rw [e1] at r5 r6
      exact ⟨r1, r2, r3, r4, hfd.trans r5, r6⟩
     rcases d2 with d2 | ⟨d2, d2'⟩ <;> rcases d3 with d3 | ⟨d3, d3'⟩
     ·simp -implicitDefEqProofs only [V, ↓reduceIte, reduceEqDiff, reduceAdd, reduceMul, reduceCtorEq, reduceEq, reduceLT, reduceLE, h0, h3, h4, d2, d3, a0, a2, a3, a4, d4, w7]
      refine next _ ?_ ?_ ?_ ?_ ?_
      all_goals simp -implicitDefEqProofs only [V, ↓reduceIte, reduceEqDiff, reduceAdd, reduceMul, reduceCtorEq, reduceEq, reduceLT, reduceLE, h0, hf]
     ·simp -implicitDefEqProofs only [V, ↓reduceIte, reduceEqDiff, reduceAdd, reduceMul, reduceCtorEq, reduceEq, reduceLT, reduceLE, h0, h3, h4, d2, d3, d3', a0, a2, a3, a4, d4, w7]
      refine next _ ?_ ?_ ?_ ?_ ?_
      all_goals simp -implicitDefEqProofs only [V, ↓reduceIte, reduceEqDiff, reduceAdd, reduceMul, reduceCtorEq, reduceEq, reduceLT, reduceLE, h0, hf]
     ·simp -implicitDefEqProofs only [V, ↓reduceIte, reduceEqDiff, reduceAdd, reduceMul, reduceCtorEq, reduceEq, reduceLT, reduceLE, h0, h3, h4, d2, d2', d3, a0, a2, a3, a4, d4, w7]
      refine next _ ?_ ?_ ?_ ?_ ?_
      all_goals simp -implicitDefEqProofs only [V, ↓reduceIte, reduceEqDiff, reduceAdd, reduceMul, reduceCtorEq, reduceEq, reduceLT, reduceLE, h0, hf]
     ·simp -implicitDefEqProofs only [V, ↓reduceIte, reduceEqDiff, reduceAdd, reduceMul, reduceCtorEq, reduceEq, reduceLT, reduceLE, h0, h3, h4, d2, d2', d3, d3', a0, a2, a3, a4, d4, w7]
      refine next _ ?_ ?_ ?_ ?_ ?_
      all_goals simp -implicitDefEqProofs only [V, ↓reduceIte, reduceEqDiff, reduceAdd, reduceMul, reduceCtorEq, reduceEq, reduceLT, reduceLE, h0, hf]
theorem number25_call {h : AH} {r : Nat} {F : List UInt8} {st : RS} (hr : Rq h r F st) (hF : F.length < 2 ^ 60) : ∃ v h', RunCall E1 (.f 25) [.ptr r 0] h v h' ∧ RqTo h r F (.val (.int .i64 (dNum st).1)) (dNum st).2 v h' ∧ h'.next = h.next := by
 obtain ⟨r1, cap, at', g, e1, e2⟩ := hr
 refine ptr0 _ (by kernel_rfl) f25_ok fun s hs hh hd hrd => ?_
 have h0 := hs 0 _ rfl
 subst hh
 cases hb : st.bad with
 | true =>
  rw [hb] at g
  have hl : Run E1 f25_l2 (((s.set 2 (.val (.int .i64 0))).set 3 (.val (.int .u64 0))).set 4 (.val (.int .u64 0))) fun e s' => e = .exit 0 ∧ s'.defers = [] ∧ s'.h = s.h := by
   apply loop_of (rfl : f25_l2 = .loop f25_b2)
   simp -implicitDefEqProofs only [f25_b2, V, ↓reduceIte, reduceEqDiff, reduceAdd, reduceMul, reduceCtorEq, reduceEq, reduceLT, reduceLE, h0, g, q_f2, hd]
  simp -implicitDefEqProofs only [f25_fn, f25, V, ↓reduceIte, reduceEqDiff, reduceAdd, reduceMul, reduceCtorEq, reduceEq, reduceLT, reduceLE, h0]
  refine hl.mono ?_
  rintro e s' ⟨rfl, q1, q2⟩
  have hbeq : Nat.beq 0 0 = true := rfl
  have hd1 : dNum st = (0, st) := by rw [dNum, if_pos hb]
  simp -implicitDefEqProofs only [V, ↓reduceIte, reduceEqDiff, reduceAdd, reduceMul, reduceCtorEq, reduceEq, reduceLT, reduceLE, hbeq, q1, q2]
  refine ⟨_, rfl, ?_, ?_, ?_⟩
  ·rw [hd1]; rfl
  ·rw [hd1]; exact ⟨r1, cap, at', by rw [hb]; exact g, e1, e2⟩
  ·exact Fd.refl _ _
 | false =>
  rw [hb] at g
  have hd1 : dNum st = dNumV (numD st.rest 0 0) := by rw [dNum, if_neg (by rw [hb]; decide)]
  simp -implicitDefEqProofs only [f25_fn, f25, V, ↓reduceIte, reduceEqDiff, reduceAdd, reduceMul, reduceCtorEq, reduceEq, reduceLT, reduceLE, h0]
  refine (f25_loop r F hF cap st.rest at' 0 0 _ e1.symm e2 (by omega) (by omega) (fun _ => by decide) ?_ ?_ ?_ ?_ ?_ ?_).mono ?_
  ·simp -implicitDefEqProofs only [V, ↓reduceIte, reduceEqDiff, reduceAdd, reduceMul, reduceCtorEq, reduceEq, reduceLT, reduceLE]
   exact r1
  ·simp -implicitDefEqProofs only [V, ↓reduceIte, reduceEqDiff, reduceAdd, reduceMul, reduceCtorEq, reduceEq, reduceLT, reduceLE]
   exact g
  ·simp -implicitDefEqProofs only [V, ↓reduceIte, reduceEqDiff, reduceAdd, reduceMul, reduceCtorEq, reduceEq, reduceLT, reduceLE, h0]
  ·simp -implicitDefEqProofs only [V, ↓reduceIte, reduceEqDiff, reduceAdd, reduceMul, reduceCtorEq, reduceEq, reduceLT, reduceLE] <;> rfl
  ·simp -implicitDefEqProofs only [V, ↓reduceIte, reduceEqDiff, reduceAdd, reduceMul, reduceCtorEq, reduceEq, reduceLT, reduceLE] <;> rfl
  ·simp -implicitDefEqProofs only [V, ↓reduceIte, reduceEqDiff, reduceAdd, reduceMul, reduceCtorEq, reduceEq, reduceLT, reduceLE, hd]
  rintro e s' ⟨rfl, q1, q2, q3, q4, q5⟩
  simp -implicitDefEqProofs only [V, ↓reduceIte, reduceEqDiff, reduceAdd, reduceMul, reduceCtorEq, reduceEq, reduceLT, reduceLE] at q4 q5
  simp -implicitDefEqProofs only [V, ↓reduceIte, reduceEqDiff, reduceAdd, reduceMul, reduceCtorEq, reduceEq, reduceLT, reduceLE, q1, q2]
  refine ⟨_, rfl, ⟨?_, ?_, q4⟩, q5⟩
  ·rw [hd1]; rfl
  ·rw [hd1]; exact q3
end Go.Proofs.YtijpnlmmaoecgaaGreatDoor

namespace Go.Proofs.YtijpnlmmaoecgaaGreatDoor
open Go Go.AM
theorem f26_calm : calmAt 0 f26_o0 = true := by rfl
theorem f24_calm : calmAt 0 f24_o0 = true := by rfl
set_option maxHeartbeats 4000000 in
theorem count26_call {h : AH} {r : Nat} {F : List UInt8} {st : RS} (hr : Rq h r F st) (hF : F.length < 2 ^ 60) : ∃ v h', RunCall E1 (.f 26) [.ptr r 0] h v h' ∧ RqTo h r F (.val (.int .i64 ((dCount st).1 : Nat))) (dCount st).2 v h' ∧ h'.next = h.next := by
 refine ptr0 _ (by kernel_rfl) f26_ok fun s hs hh hd hrd => ?_
 have h0 := hs 0 _ rfl
 subst hh
 simp -implicitDefEqProofs only [f26_fn, f26, V, ↓reduceIte, reduceEqDiff, reduceAdd, reduceMul, reduceCtorEq, reduceEq, reduceLT, reduceLE, h0]
 refine callK_of (number25_call (F := F) (st := st) ?_ hF) ?_
 ·simp -implicitDefEqProofs only [V, ↓reduceIte, reduceEqDiff, reduceAdd, reduceMul, reduceCtorEq, reduceEq, reduceLT, reduceLE]
  exact hr
 rintro v h1 ⟨⟨rfl, ⟨r1, cap, at', g, e1, e2⟩, f1⟩, n1⟩
 simp -implicitDefEqProofs only [V, ↓reduceIte, reduceEqDiff, reduceAdd, reduceMul, reduceCtorEq, reduceEq, reduceLT, reduceLE] at f1 n1
 have np : ∀ o, niceT h1 (some (.ptr r o)) = true := fun o => q_nice r1 g
 have hlen : lenV (.imm (bytesA F) F.length cap) = some (.val (.int .i64 (F.length : Nat))) := rfl
 have w1 : IntKind.i64.wrap (((F.length : Nat) : Int) - ((at' : Nat) : Int)) = ((F.length - at' : Nat) : Int) := wrap_nat (by omega) (by omega)
 have hrl : (dNum st).2.rest.length = F.length - at' := by rw [e1, List.length_drop]
 have hs2 := q_s2 (b := true) g
 have hbadres : ∀ hh : AH, hh = h1.put r (some (rd2 F cap at' true)) → (dCount st) = (0, ⟨(dNum st).2.rest, true⟩) → RqTo s.h r F (.val (.int .i64 ((dCount st).1 : Nat))) (dCount st).2 (.val (.int .i64 0)) hh := fun hh e q => by
  rw [q, e]
  exact ⟨rfl, .put r1 e1 e2, f1.trans Fd.put⟩
 simp -implicitDefEqProofs only [V, ↓reduceIte, reduceEqDiff, reduceAdd, reduceMul, reduceCtorEq, reduceEq, reduceLT, reduceLE]
 refine run_calm f26_calm ?_
 cases hb : (dNum st).2.bad with
 | true =>
  have hdc : dCount st = (0, ⟨(dNum st).2.rest, true⟩) := by
   unfold dCount
   simp only [hb, Bool.true_or, if_true]
  rw [hb] at g
  simp -implicitDefEqProofs only [f26_o0, wpDr, g_none, g_some, gIf_t, gIf_f, List.all_cons, List.all_nil, nice_val, nice_imm, nice_iptr, nice_undef, V, ↓reduceIte, reduceEqDiff, reduceAdd, reduceMul, reduceCtorEq, reduceEq, reduceLT, reduceLE, h0, g, q_f0, q_f1, q_f2, np, hlen, hs2, hd]
  exact ⟨_, rfl, hbadres _ rfl hdc, n1⟩
 | false =>
  rw [hb] at g
  by_cases hneg : (dNum st).1 < 0
  ·have c1 : decide ((dNum st).1 < 0) = true := decide_eq_true hneg
   have hdc : dCount st = (0, ⟨(dNum st).2.rest, true⟩) := by
    unfold dCount
    simp only [hb, c1, Bool.true_or, Bool.or_true, if_true]
   simp -implicitDefEqProofs only [f26_o0, wpDr, g_none, g_some, gIf_t, gIf_f, List.all_cons, List.all_nil, nice_val, nice_imm, nice_iptr, nice_undef, V, ↓reduceIte, reduceEqDiff, reduceAdd, reduceMul, reduceCtorEq, reduceEq, reduceLT, reduceLE, h0, g, q_f0, q_f1, q_f2, np, hlen, hs2, hd, c1]
   exact ⟨_, rfl, hbadres _ rfl hdc, n1⟩
  ·have c1 : decide ((dNum st).1 < 0) = false := decide_eq_false hneg
   by_cases hbig : ((dNum st).2.rest.length : Int) < (dNum st).1
   ·have c2 : decide (((F.length - at' : Nat) : Int) < (dNum st).1) = true := by rw [← hrl]; exact decide_eq_true hbig
    have hdc : dCount st = (0, ⟨(dNum st).2.rest, true⟩) := by
     unfold dCount
     simp only [hb, c1, decide_eq_true hbig, Bool.or_true, if_true]
    simp -implicitDefEqProofs only [f26_o0, wpDr, g_none, g_some, gIf_t, gIf_f, List.all_cons, List.all_nil, nice_val, nice_imm, nice_iptr, nice_undef, V, ↓reduceIte, reduceEqDiff, reduceAdd, reduceMul, reduceCtorEq, reduceEq, reduceLT, reduceLE, h0, g, q_f0, q_f1, q_f2, np, hlen, hs2, hd, c1, c2, w1]
    exact ⟨_, rfl, hbadres _ rfl hdc, n1⟩
   ·have c2 : decide (((F.length - at' : Nat) : Int) < (dNum st).1) = false := by rw [← hrl]; exact decide_eq_false hbig
    have hdc : dCount st = ((dNum st).1.toNat, (dNum st).2) := by
     unfold dCount
     simp only [hb, c1, decide_eq_false hbig, Bool.or_false, Bool.false_eq_true, if_false]
    have en : (((dNum st).1.toNat : Nat) : Int) = (dNum st).1 := by omega
    simp -implicitDefEqProofs only [f26_o0, wpDr, g_none, g_some, gIf_t, gIf_f, List.all_cons, List.all_nil, nice_val, nice_imm, nice_iptr, nice_undef, V, ↓reduceIte, reduceEqDiff, reduceAdd, reduceMul, reduceCtorEq, reduceEq, reduceLT, reduceLE, h0, g, q_f0, q_f1, q_f2, np, hlen, hd, c1, c2, w1]
    refine ⟨_, rfl, ?_, n1⟩
    rw [hdc]
    refine ⟨?_, ⟨r1, cap, at', ?_, e1, e2⟩, f1⟩
    ·show AV.val (.int .i64 (dNum st).1) = AV.val (.int .i64 (((dNum st).1.toNat : Nat) : Int))
     rw [en]
    ·show h1.get r = some (rd2 F cap at' (dNum st).2.bad)
     rw [hb]; exact g
theorem slice_mid {F : List UInt8} {a n : Nat} {cap : Option Nat} (h : a + n ≤ F.length) : ∃ cap', sliceA' 1 (.imm (bytesA F) F.length cap) (some a) (some (a + n)) none = some (.imm (bytesA ((F.drop a).take n)) ((F.drop a).take n).length cap') := by
 have a1 : Nat.ble F.length F.length = true := Nat.ble_eq.mpr (Nat.le_refl _)
 have a2 : Nat.ble (a + n) F.length = true := Nat.ble_eq.mpr h
 have a3 : Nat.ble a (a + n) = true := Nat.ble_eq.mpr (by omega)
 have a4 : ((bytesA F).drop (a * 1)).take ((a + n - a) * 1) = bytesA ((F.drop a).take n) := by
  rw [bytesA_drop, Nat.mul_one, bytesA_take, Nat.add_sub_cancel_left]
 have a5 : ((F.drop a).take n).length = a + n - a := by
  rw [List.length_take, List.length_drop]
  omega
 cases cap with
 | none => exact ⟨none, by simp only [sliceA', sliceB, Option.getD_none, Option.getD_some, a1, a2, a3, Option.isNone_none, Bool.true_or, Bool.and_self, cond_true, a4, a5]⟩
 | some c => exact ⟨some (c - a), by simp only [sliceA', sliceB, Option.getD_none, Option.getD_some, a1, a2, a3, Option.isNone_none, Bool.true_or, Bool.and_self, cond_true, a4, a5]⟩
set_option maxHeartbeats 4000000 in
theorem text24_call {h : AH} {r : Nat} {F : List UInt8} {st : RS} (hr : Rq h r F st) (hF : F.length < 2 ^ 60) : ∃ v h', RunCall E1 (.f 24) [.ptr r 0] h v h' ∧ RqTo h r F (.val (.string (dText st).1)) (dText st).2 v h' ∧ h'.next = h.next := by
 refine ptr0 _ (by kernel_rfl) f24_ok fun s hs hh hd hrd => ?_
 have h0 := hs 0 _ rfl
 subst hh
 simp -implicitDefEqProofs only [f24_fn, f24, V, ↓reduceIte, reduceEqDiff, reduceAdd, reduceMul, reduceCtorEq, reduceEq, reduceLT, reduceLE, h0]
 refine callK_of (count26_call (F := F) (st := st) ?_ hF) ?_
 ·simp -implicitDefEqProofs only [V, ↓reduceIte, reduceEqDiff, reduceAdd, reduceMul, reduceCtorEq, reduceEq, reduceLT, reduceLE]
  exact hr
 rintro v h1 ⟨⟨rfl, ⟨r1, cap, at', g, e1, e2⟩, f1⟩, n1⟩
 simp -implicitDefEqProofs only [V, ↓reduceIte, reduceEqDiff, reduceAdd, reduceMul, reduceCtorEq, reduceEq, reduceLT, reduceLE] at f1 n1
 have np : ∀ o, niceT h1 (some (.ptr r o)) = true := fun o => q_nice r1 g
 have hle := dCount_le st
 have hrl : (dCount st).2.rest.length = F.length - at' := by rw [e1, List.length_drop]
 have w1 : IntKind.i64.wrap (((at' : Nat) : Int) + (((dCount st).1 : Nat) : Int)) = ((at' + (dCount st).1 : Nat) : Int) := wrap_nat (by omega) (by omega)
 obtain ⟨cap', hsl⟩ := slice_mid (F := F) (a := at') (n := (dCount st).1) (cap := cap) (by omega)
 have hs1 := q_s1 (b := at' + (dCount st).1) g
 have et : (⟨((F.drop at').take (dCount st).1).toArray⟩ : ByteArray) = (dText st).1 := by rw [← e1]; rfl
 simp -implicitDefEqProofs only [V, ↓reduceIte, reduceEqDiff, reduceAdd, reduceMul, reduceCtorEq, reduceEq, reduceLT, reduceLE]
 refine run_calm f24_calm ?_
 simp -implicitDefEqProofs only [f24_o0, wpDr, g_none, g_some, gIf_t, gIf_f, List.all_cons, List.all_nil, nice_val, nice_imm, nice_iptr, nice_undef, V, ↓reduceIte, reduceEqDiff, reduceAdd, reduceMul, reduceCtorEq, reduceEq, reduceLT, reduceLE, h0, g, q_f0, q_f1, q_f2, np, w1, hsl, strB_imm, hs1, hd, et]
 refine ⟨_, rfl, ⟨rfl, ?_, f1.trans Fd.put⟩, n1⟩
 exact .put r1 (by show (dCount st).2.rest.drop (dCount st).1 = _; rw [e1, List.drop_drop]) (by omega)
theorem truth76_call {h : AH} {r : Nat} {F : List UInt8} {st : RS} (hr : Rq h r F st) (hF : F.length < 2 ^ 60) : ∃ v h', RunCall E1 (.f 76) [.ptr r 0] h v h' ∧ RqTo h r F (.val (.bool (dTruth st).1)) (dTruth st).2 v h' ∧ h'.next = h.next := by
 refine ptr0 _ (by kernel_rfl) f76_ok fun s hs hh hd hrd => ?_
 have h0 := hs 0 _ rfl
 subst hh
 simp -implicitDefEqProofs only [f76_fn, f76, V, ↓reduceIte, reduceEqDiff, reduceAdd, reduceMul, reduceCtorEq, reduceEq, reduceLT, reduceLE, h0]
 refine callK_of (number25_call (F := F) (st := st) ?_ hF) ?_
 ·simp -implicitDefEqProofs only [V, ↓reduceIte, reduceEqDiff, reduceAdd, reduceMul, reduceCtorEq, reduceEq, reduceLT, reduceLE]
  exact hr
 rintro v h1 ⟨⟨rfl, ⟨r1, cap, at', g, e1, e2⟩, f1⟩, n1⟩
 simp -implicitDefEqProofs only [V, ↓reduceIte, reduceEqDiff, reduceAdd, reduceMul, reduceCtorEq, reduceEq, reduceLT, reduceLE] at f1 n1
 have key : ∀ bd : Bool, ((dNum st).2.bad || (!decide ((dNum st).1 = 0) && !decide ((dNum st).1 = 1))) = bd → storeH h1 1 (.ptr r 2) [.val (.bool bd)] = some (h1.put r (some (rd2 F cap at' bd))) ∧ (dTruth st).2 = ⟨(dNum st).2.rest, bd⟩ := fun bd e => ⟨q_s2 (b := bd) g, by rw [← e]; rfl⟩
 have fin : ∀ bd : Bool, (dTruth st).2 = ⟨(dNum st).2.rest, bd⟩ → RqTo s.h r F (.val (.bool (dTruth st).1)) (dTruth st).2 (.val (.bool (decide ((dNum st).1 = 1)))) (h1.put r (some (rd2 F cap at' bd))) := fun bd e => by
  rw [e]
  exact ⟨rfl, .put r1 e1 e2, f1.trans Fd.put⟩
 cases hb : (dNum st).2.bad with
 | true =>
  obtain ⟨k1, k2⟩ := key true (by rw [hb]; rfl)
  rw [hb] at g
  simp -implicitDefEqProofs only [V, ↓reduceIte, reduceEqDiff, reduceAdd, reduceMul, reduceCtorEq, reduceEq, reduceLT, reduceLE, h0, g, q_f2, k1, hd]
  exact ⟨_, rfl, fin _ k2, n1⟩
 | false =>
  have g' := g
  rw [hb] at g'
  by_cases hz : (dNum st).1 = 0
  ·have c1 : decide ((dNum st).1 = 0) = true := decide_eq_true hz
   obtain ⟨k1, k2⟩ := key false (by rw [hb, c1]; rfl)
   simp -implicitDefEqProofs only [V, ↓reduceIte, reduceEqDiff, reduceAdd, reduceMul, reduceCtorEq, reduceEq, reduceLT, reduceLE, h0, g', q_f2, k1, hd, c1]
   exact ⟨_, rfl, fin _ k2, n1⟩
  ·have c1 : decide ((dNum st).1 = 0) = false := decide_eq_false hz
   by_cases ho : (dNum st).1 = 1
   ·have c2 : decide ((dNum st).1 = 1) = true := decide_eq_true ho
    obtain ⟨k1, k2⟩ := key false (by rw [hb, c1, c2]; rfl)
    have fin' := fin false k2
    rw [c2] at fin'
    simp -implicitDefEqProofs only [V, ↓reduceIte, reduceEqDiff, reduceAdd, reduceMul, reduceCtorEq, reduceEq, reduceLT, reduceLE, h0, g', q_f2, k1, hd, c1, c2]
    exact ⟨_, rfl, fin', n1⟩
   ·have c2 : decide ((dNum st).1 = 1) = false := decide_eq_false ho
    obtain ⟨k1, k2⟩ := key true (by rw [hb, c1, c2]; rfl)
    have fin' := fin true k2
    rw [c2] at fin'
    simp -implicitDefEqProofs only [V, ↓reduceIte, reduceEqDiff, reduceAdd, reduceMul, reduceCtorEq, reduceEq, reduceLT, reduceLE, h0, g', q_f2, k1, hd, c1, c2]
    exact ⟨_, rfl, fin', n1⟩
end Go.Proofs.YtijpnlmmaoecgaaGreatDoor

namespace Go.Proofs.YtijpnlmmaoecgaaGreatDoor
open Go Go.AM
section
variable {E : Env} {s : St} {K : St → Prop} {rest : List DOp} {done : List DRec}
theorem merge_get {h F : AH} {D : List Nat} (hn : h.next ≤ F.next) (b : Nat) : (mergeH h D F).get b = if h.next ≤ b ∧ b < F.next then F.get b else if b ∈ D then F.get b else h.get b := by
 show (copyNew F h.next (F.next - h.next) (copyOld F D h.tr)).get b = _
 rw [copyNew_get, show h.next + (F.next - h.next) = F.next by omega, copyOld_at]
 rfl
theorem picked {l : List Nat} {i : Nat} {v : AV} (hi : i ∈ l) (he : s.eval (.t i) = some v) : (pickTm s.tm l).get i = some v := by rw [pickTm_get, if_pos hi]; exact he
theorem pure_draw {dst : Option Nat} {op : AOp} {rd fr : List Nat} {v : AV} (hc : calmOp rd op = true) (hnf : footed op = false) (hn : (rd.all fun t => niceT s.h (s.eval (.t t))) = true) (ho : runOp E noCall s op = some (v, s)) (hf : ∀ i ∈ fr, i < done.length)
  (k : DrawTo E rest (done ++ [⟨[], [], s.h.next, s.h.next⟩]) (s.put dst v) K) : DrawTo E (⟨⟨dst, none, op⟩, rd, fr⟩ :: rest) done s K := by
 have st := calm_step (E := E) (d := ⟨⟨dst, none, op⟩, rd, fr⟩) (near := nearOf done fr) hc rfl rfl hn ho
 have e : theFoot op (idsL (pickTm s.tm rd).vals) = [] := by unfold theFoot; rw [hnf]; rfl
 rw [e] at st
 exact draw_next (d := ⟨⟨dst, none, op⟩, rd, fr⟩) (free_new hf) st k
theorem load_draw {dst i b : Nat} {v : AV} {fr : List Nat} {o : Nat} {n : Option Nat} (he : s.eval (.t i) = some (.ptr b o)) (hn : niceT s.h (some (.ptr b o)) = true) (ho : runOp E noCall s (.load n (.t i)) = some (v, s)) (hf : freeOk done ⟨idsL (pickTm s.tm [i]).vals, [], s.h.next, s.h.next⟩ fr = true)
  (k : DrawTo E rest (done ++ [⟨idsL (pickTm s.tm [i]).vals, [], s.h.next, s.h.next⟩]) (s.put (some dst) v) K) : DrawTo E (⟨⟨some dst, none, .load n (.t i)⟩, [i], fr⟩ :: rest) done s K := by
 have st := calm_step (E := E) (d := ⟨⟨some dst, none, .load n (.t i)⟩, [i], fr⟩) (near := nearOf done fr) (by show memN [i] i = true; simp [memN]) rfl rfl (by
  have e : s.tm.get i = some (.ptr b o) := he
  simp only [List.all_cons, List.all_nil, e, hn, Bool.and_self]) ho
 exact draw_next (d := ⟨⟨some dst, none, .load n (.t i)⟩, [i], fr⟩) hf st k
theorem vals_ids {i : Nat} {v : AV} (he : s.eval (.t i) = some v) : ∀ x ∈ idsL (pickTm s.tm [i]).vals, x ∈ ids v := fun x hx => by
 obtain ⟨w, hw, hxw⟩ := idsL_in hx
 obtain ⟨j, hj⟩ := mem_vals hw
 rw [pickTm_get] at hj
 split at hj
 ·rename_i hm
  rw [List.mem_singleton.1 hm] at hj
  have : s.tm.get i = some v := he
  rw [this] at hj
  cases hj
  exact hxw
 ·cases hj
theorem call_draw {dst : Option Nat} {fr : List Nat} {f i r : Nat} {a v : AV} {h1 : AH} {cs : List AV} {rw' : Bool} (he : s.eval (.t i) = some a) (hv : idsL (pickTm s.tm [i]).vals = [r]) (hr : r < s.h.next) (gb : s.h.get r = some (.cells cs rw')) (hcs : idsL cs = []) (ht : NoTag s.h)
  (hc : RunCall E (.f f) [a] (restrictH s.h [r]) v h1) (hn : s.h.next ≤ h1.next) (hfree : ∀ D, (∀ x ∈ D, x = r) → freeOk done ⟨[r], D, s.h.next, h1.next⟩ fr = true)
  (k : ∀ D h', (∀ x ∈ D, x = r) → h'.next = h1.next → (∀ x, s.h.next ≤ x → x < h1.next → h'.get x = h1.get x) → h'.get r = h1.get r → (∀ x, x < s.h.next → x ≠ r → h'.get x = s.h.get x) → (∀ x, h1.next ≤ x → h'.get x = s.h.get x) → DrawTo E rest (done ++ [⟨[r], D, s.h.next, h1.next⟩]) ((s.toH h').put dst v) K) :
  DrawTo E (⟨⟨dst, none, .call f [.t i]⟩, [i], fr⟩ :: rest) done s K := by
 have hl : reach s.h 100000 [r] [] = [r] := by
  have hm : memN ([] : List Nat) r = false := rfl
  have e : reach s.h (99998 + 1 + 1) [r] [] = reach s.h (99998 + 1) [] [r] := by
   simp only [reach, hm, cond_false, gb, idsB, hcs, List.append_nil]
  exact e
 have hrr : Nat.blt r s.h.next = true := Nat.blt_eq.mpr hr
 have hfoot : ∀ tm : Tr AV, foot { tm := tm, h := s.h, defers := [], round := s.round } [r] (.call f [.t i]) = [r] := fun tm => by
  show (bif ([r] : List Nat).isEmpty then [] else withTags s.h (reach s.h 100000 [r] [])) = [r]
  rw [hl, noTags ht]
  rfl
 have hbel : below s.h.next [r] = true := by simp only [below, List.all_cons, List.all_nil, hrr, Bool.and_self]
 have hkn : knownH s.h [r] = true := by simp only [knownH, List.all_cons, List.all_nil, hrr, gb, idsB, hcs, below, Bool.and_self]
 have hev : evalAll { tm := pickTm s.tm [i], h := restrictH s.h [r], defers := [], round := s.round } [.t i] = some [a] := by
  simp only [evalAll, St.eval, picked List.mem_cons_self he]
 generalize hD : ([r].filter fun b => !(memN ([r] ++ nearOf done fr) b && eqB (s.h.get b) (h1.get b))) = D
 have hDr : ∀ x ∈ D, x = r := fun x hx => by
  rw [← hD] at hx
  exact List.mem_singleton.1 (List.mem_filter.1 hx).1
 have hDb : below s.h.next D = true := List.all_eq_true.2 fun x hx => by rw [hDr x hx]; exact hrr
 have hble : Nat.ble s.h.next h1.next = true := Nat.ble_eq.mpr hn
 have hst : Ev fun n => stepDraw E (callA E (exec E n)) ⟨⟨dst, none, .call f [.t i]⟩, [i], fr⟩ (nearOf done fr) s = some (v, ⟨[r], D, s.h.next, h1.next⟩, mergeH s.h D h1) := by
  refine hc.mono fun n p => ?_
  simp only [stepDraw, wantedA, hv, hfoot, hbel, hkn, Bool.and_self, cond_true, runOp, hev, p, Option.bind_some, isCall, List.isEmpty_nil, hble]
  rw [hD, hDb]
  rfl
 refine draw_next (d := ⟨⟨dst, none, .call f [.t i]⟩, [i], fr⟩) (hfree D hDr) hst (k D (mergeH s.h D h1) hDr rfl ?_ ?_ ?_ ?_)
 ·intro x x1 x2
  rw [merge_get hn, if_pos ⟨x1, x2⟩]
 ·rw [merge_get hn, if_neg (by omega)]
  by_cases m : r ∈ D
  ·rw [if_pos m]
  ·rw [if_neg m]
   have hm : memN ([r] ++ nearOf done fr) r = true := mem_memN (by simp)
   rw [← hD, List.mem_filter] at m
   have : (memN ([r] ++ nearOf done fr) r && eqB (s.h.get r) (h1.get r)) = true := by
    cases hq : (memN ([r] ++ nearOf done fr) r && eqB (s.h.get r) (h1.get r)) with
    | true => rfl
    | false => exact absurd ⟨List.mem_singleton_self r, by rw [hq]; rfl⟩ m
   rw [hm, Bool.true_and] at this
   exact eqB_eq this
 ·intro x x1 x2
  rw [merge_get hn, if_neg (by omega), if_neg (fun m => x2 (hDr x m))]
 ·intro x x1
  rw [merge_get hn, if_neg (by omega), if_neg (fun m => by have := hDr x m; omega)]
theorem build_draw {dst i es n : Nat} {z cs : List AV} {v : AV} {fr : List Nat} (he : s.eval (.t i) = some v) (hv : below s.h.next (ids v) = true) (hfill : fill s z [(0, es, .t i)] = some cs) (hf : ∀ i ∈ fr, i < done.length)
  (k : DrawTo E rest (done ++ [⟨[], [], s.h.next, s.h.next + 1⟩]) ((s.toH (s.h.alloc (.cells cs true))).put (some dst) (.own s.h.next 0 n es (some n))) K) : DrawTo E (⟨⟨some dst, none, .buildSlice es n z [(0, es, .t i)]⟩, [i], fr⟩ :: rest) done s K := by
 refine draw_next (d := ⟨⟨some dst, none, .buildSlice es n z [(0, es, .t i)]⟩, [i], fr⟩) (free_new hf) (Ev.of fun m => ?_) k
 have hm : mergeH s.h [] ((restrictH s.h []).alloc (.cells cs true)) = s.h.alloc (.cells cs true) := by
  have e : ((restrictH s.h []).alloc (.cells cs true)).get s.h.next = some (.cells cs true) := by
   rw [AH.get_alloc]
   exact if_pos rfl
  show (⟨s.h.next + 1, copyNew ((restrictH s.h []).alloc (.cells cs true)) s.h.next (s.h.next + 1 - s.h.next) s.h.tr⟩ : AH) = _
  rw [Nat.add_sub_cancel_left]
  simp only [copyNew, Nat.add_zero, e]
  rfl
 have hbel : below s.h.next (idsL (pickTm s.tm [i]).vals) = true := List.all_eq_true.2 fun x hx => List.all_eq_true.1 hv x (vals_ids he x hx)
 have hfl : fill { tm := pickTm s.tm [i], h := restrictH s.h [], defers := [], round := s.round } z [(0, es, .t i)] = some cs := by
  rw [← hfill]
  exact seen_fill (s := s) (l := [i]) (F := []) (by simp [opdIn, memN])
 have hb' : Nat.ble s.h.next ((restrictH s.h []).alloc (.cells cs true)).next = true := Nat.ble_eq.mpr (Nat.le_succ _)
 have hb0 : below s.h.next [] = true := rfl
 simp only [stepDraw, wantedA, hbel, foot, knownH, List.all_nil, Bool.and_self, cond_true, runOp, hfl, Option.bind_some, isCall, cond_false, turned, hm, List.isEmpty_nil, Bool.true_and, hb', hb0]
 rfl
def RowAt (h : AH) (v : AV) (k es : Nat) (pc : List AV) : Prop := (k = 0 ∧ v = .val (.slice none 0 0) ∧ pc = []) ∨ ∃ b, v = .own b 0 k es none ∧ b < h.next ∧ h.get b = some (.cells pc true) ∧ pc.length = k * es
theorem app_run {es bytes a d k c : Nat} {v : AV} {pc new : List AV} (hr : RowAt s.h v k es pc) (he : s.h.get c = some (.cells new true)) (hq : new.length = es) (hok : okLen (k + 1) bytes = true) (h2 : s.eval (.t a) = some v) (h3 : s.eval (.t d) = some (.own c 0 1 es (some 1))) :
  appendA s es bytes (.t a) (.t d) = some (.own s.h.next 0 (k + 1) es none, s.toH (pushR s.h v new)) := by
 have bes : Nat.beq es es = true := Nat.beq_refl es
 have ble1 : Nat.ble (0 + 1 * es) new.length = true := Nat.ble_eq.mpr (by omega)
 have hel : elemsOf s.h es (.own c 0 1 es (some 1)) = some (new, 1) := by
  simp only [elemsOf, bes, cond_true, he, ble1, List.drop_zero]
  rw [List.take_of_length_le (by omega)]
 have hb : Nat.beq 1 0 = false := rfl
 rcases hr with ⟨rfl, rfl, rfl⟩ | ⟨b, rfl, hbn, gb, hl⟩
 ·simp only [Nat.zero_add] at hok
  simp only [appendA, h2, h3, hel, hb, cond_false, hok, cond_true, pushR]
  rfl
 ·have c2 : Nat.ble (0 + k * es) pc.length = true := Nat.ble_eq.mpr (by omega)
  have c3 : Nat.beq (0 + k * es) pc.length = true := Nat.beq_eq.mpr (by omega)
  simp only [appendA, h2, h3, hel, hb, cond_false, gb, bes, c2, hok, Bool.and_self, cond_true, c3, pushR, List.drop_zero]
  rfl
theorem ids_row {h : AH} {v : AV} {k es : Nat} {pc : List AV} (hr : RowAt h v k es pc) : ∀ x ∈ ids v, x < h.next ∧ h.get x = some (.cells pc true) := by
 intro x hx
 rcases hr with ⟨_, rfl, _⟩ | ⟨b, rfl, h1, h2, _⟩
 ·cases hx
 ·simp only [ids, List.mem_singleton] at hx
  subst hx
  exact ⟨h1, h2⟩
theorem app_draw {es bytes dst a d k c : Nat} {v : AV} {pc new : List AV} {fr : List Nat} (hr : RowAt s.h v k es pc) (hpc : below s.h.next (idsL pc) = true) (hc : c < s.h.next) (he : s.h.get c = some (.cells new true)) (hnw : below s.h.next (idsL new) = true) (hq : new.length = es) (hok : okLen (k + 1) bytes = true)
  (h2 : s.eval (.t a) = some v) (h3 : s.eval (.t d) = some (.own c 0 1 es (some 1))) (hfr : fr = [])
  (kk : ∀ rec h', h'.next = s.h.next + 1 → (∀ x, h'.get x = (pushR s.h v new).get x) → DrawTo E rest (done ++ [rec]) ((s.toH h').put (some dst) (.own s.h.next 0 (k + 1) es none)) K) :
  DrawTo E (⟨⟨some dst, none, .append es bytes (.t a) (.t d)⟩, [a, d], fr⟩ :: rest) done s K := by
 subst hfr
 generalize hvs : idsL (pickTm s.tm [a, d]).vals = vs
 have pa : (pickTm s.tm [a, d]).get a = some v := picked List.mem_cons_self h2
 have pd : (pickTm s.tm [a, d]).get d = some (.own c 0 1 es (some 1)) := picked (List.mem_cons_of_mem _ List.mem_cons_self) h3
 have inv : ∀ x ∈ ids v, x ∈ vs := fun x hx => by rw [← hvs]; exact ids_sub (mem_put pa) x hx
 have inc : c ∈ vs := by rw [← hvs]; exact ids_sub (mem_put pd) c (by simp only [ids, List.mem_singleton])
 have out : ∀ x ∈ vs, x ∈ ids v ∨ x = c := fun x hx => by
  rw [← hvs] at hx
  obtain ⟨w, hw, hxw⟩ := idsL_in hx
  obtain ⟨j, hj⟩ := mem_vals hw
  rw [pickTm_get] at hj
  split at hj
  ·rename_i hm
   rcases List.mem_cons.1 hm with rfl | hm
   ·have : s.tm.get j = some v := h2
    rw [this] at hj
    cases hj
    exact .inl hxw
   ·rw [List.mem_singleton.1 hm] at hj
    have : s.tm.get d = some (.own c 0 1 es (some 1)) := h3
    rw [this] at hj
    cases hj
    simp only [ids, List.mem_singleton] at hxw
    exact .inr hxw
  ·cases hj
 have hbel : below s.h.next vs = true := List.all_eq_true.2 fun x hx => Nat.blt_eq.mpr (by
  rcases out x hx with m | rfl
  ·exact (ids_row hr x m).1
  ·exact hc)
 have hkn : knownH s.h vs = true := List.all_eq_true.2 fun x hx => by
  rcases out x hx with m | rfl
  ·obtain ⟨q1, q2⟩ := ids_row hr x m
   have q3 : Nat.blt x s.h.next = true := Nat.blt_eq.mpr q1
   simp only [q3, q2, idsB, hpc, Bool.and_self]
  ·have q3 : Nat.blt x s.h.next = true := Nat.blt_eq.mpr hc
   simp only [q3, he, idsB, hnw, Bool.and_self]
 have hr' : RowAt (restrictH s.h vs) v k es pc := by
  rcases hr with q | ⟨b, rfl, h1, h2', h4⟩
  ·exact .inl q
  ·exact .inr ⟨b, rfl, h1, by rw [restrict_in (inv b (by simp only [ids, List.mem_singleton])), h2'], h4⟩
 have hrun := app_run (s := { tm := pickTm s.tm [a, d], h := restrictH s.h vs, defers := [], round := s.round }) hr' (by rw [restrict_in inc, he]) hq hok pa pd
 have hro : ∀ m, runOp E (callA E (exec E m)) { tm := pickTm s.tm [a, d], h := restrictH s.h vs, defers := [], round := s.round } (.append es bytes (.t a) (.t d)) = some (.own s.h.next 0 (k + 1) es none, { tm := pickTm s.tm [a, d], h := pushR (restrictH s.h vs) v new, defers := [], round := s.round }) := fun m => hrun
 have hnx : (pushR (restrictH s.h vs) v new).next = s.h.next + 1 := by
  rcases hr' with ⟨_, rfl, _⟩ | ⟨b, rfl, _, q, _⟩
  ·rfl
  ·simp only [pushR, q]
   rfl
 have htu : turned { tm := pickTm s.tm [a, d], h := restrictH s.h vs, defers := [], round := s.round } (.append es bytes (.t a) (.t d)) = ids v := by
  simp only [turned, idsO, St.eval, pa]
 have hDb : below s.h.next (ids v) = true := List.all_eq_true.2 fun x hx => Nat.blt_eq.mpr (ids_row hr x hx).1
 have hble : Nat.ble s.h.next (s.h.next + 1) = true := Nat.ble_eq.mpr (Nat.le_succ _)
 have hst : Ev fun n => stepDraw E (callA E (exec E n)) ⟨⟨some dst, none, .append es bytes (.t a) (.t d)⟩, [a, d], []⟩ (nearOf done []) s = some (.own s.h.next 0 (k + 1) es none, ⟨vs, ids v, s.h.next, s.h.next + 1⟩, mergeH s.h (ids v) (pushR (restrictH s.h vs) v new)) := by
  refine Ev.of fun n => ?_
  simp only [stepDraw, wantedA, hvs, foot, hbel, hkn, Bool.and_self, cond_true, hro, isCall, cond_false, htu, List.isEmpty_nil, hnx, hble, hDb]
 refine draw_next (d := ⟨⟨some dst, none, .append es bytes (.t a) (.t d)⟩, [a, d], []⟩) rfl hst (kk _ _ hnx fun x => ?_)
 rw [merge_get (by rw [hnx]; omega), hnx]
 rcases hr with ⟨_, rfl, _⟩ | ⟨b, rfl, h1, h2', _⟩
 ·show (if s.h.next ≤ x ∧ x < s.h.next + 1 then ((restrictH s.h vs).alloc (.cells new true)).get x else if x ∈ ([] : List Nat) then _ else s.h.get x) = (s.h.alloc (.cells new true)).get x
  rw [AH.get_alloc, AH.get_alloc, show (restrictH s.h vs).next = s.h.next from rfl]
  by_cases e : x = s.h.next
  ·rw [if_pos ⟨by omega, by omega⟩, if_pos e, if_pos e]
  ·rw [if_neg (by omega), if_neg (by simp), if_neg e]
 ·have q : (restrictH s.h vs).get b = some (.cells pc true) := by rw [restrict_in (inv b (by simp only [ids, List.mem_singleton])), h2']
  simp only [pushR, q, h2', ids]
  rw [AH.get_alloc, AH.get_alloc, show ((restrictH s.h vs).put b none).next = s.h.next from rfl, show (s.h.put b none).next = s.h.next from rfl]
  by_cases e : x = s.h.next
  ·rw [if_pos ⟨by omega, by omega⟩, if_pos e, if_pos e]
  ·rw [if_neg (by omega), if_neg e, if_neg e]
   by_cases e2 : x = b
   ·subst e2
    rw [if_pos (by simp), AH.get_put, AH.get_put, if_pos rfl, if_pos rfl]
   ·rw [if_neg (by simpa using e2), AH.get_put, if_neg e2]
theorem store_draw2 {n a x b off : Nat} {v : AV} {cs l : List AV} {h' : AH} (ha : s.eval (.t a) = some (.ptr b off)) (hx : s.eval (.t x) = some v) (hv : below s.h.next (ids v) = true) (hl : v.cells = some l)
  (hg : s.h.get b = some (.cells cs true)) (hi : below s.h.next (idsL cs) = true) (hb : b < s.h.next) (hst : storeH s.h n (.ptr b off) l = some h')
  (k : DrawTo E rest (done ++ [⟨[b], [b], s.h.next, s.h.next⟩]) (s.toH h') K) : DrawTo E (⟨⟨none, none, .store n (.t a) (.t x)⟩, [a, x], []⟩ :: rest) done s K := by
 refine draw_next (d := ⟨⟨none, none, .store n (.t a) (.t x)⟩, [a, x], []⟩) (v := undefA) rfl (Ev.of fun m => ?_) k
 have pa : (pickTm s.tm [a, x]).get a = some (.ptr b off) := picked List.mem_cons_self ha
 have px : (pickTm s.tm [a, x]).get x = some v := picked (List.mem_cons_of_mem _ List.mem_cons_self) hx
 have hbel : below s.h.next (idsL (pickTm s.tm [a, x]).vals) = true := List.all_eq_true.2 fun y hy => by
  obtain ⟨w, hw, hyw⟩ := idsL_in hy
  obtain ⟨i, hi⟩ := mem_vals hw
  rw [pickTm_get] at hi
  split at hi
  ·rename_i hm
   rcases List.mem_cons.1 hm with rfl | hm
   ·have : s.tm.get i = some (.ptr b off) := ha
    rw [this] at hi
    cases hi
    simp only [ids, List.mem_singleton] at hyw
    subst hyw
    exact Nat.blt_eq.mpr hb
   ·rw [List.mem_singleton.1 hm] at hi
    have : s.tm.get x = some v := hx
    rw [this] at hi
    cases hi
    exact List.all_eq_true.1 hv y hyw
  ·cases hi
 have hbb : Nat.blt b s.h.next = true := Nat.blt_eq.mpr hb
 have hkn : knownH s.h [b] = true := by simp only [knownH, List.all_cons, List.all_nil, hbb, hg, idsB, hi, Bool.and_self]
 have hg' : (restrictH s.h [b]).get b = some (.cells cs true) := by rw [restrict_in List.mem_cons_self, hg]
 simp only [storeH, hg] at hst
 have hc : (Nat.beq l.length n && Nat.ble (off + n) cs.length) = true := by
  cases hq : (Nat.beq l.length n && Nat.ble (off + n) cs.length) with
  | true => rfl
  | false => rw [hq] at hst; cases hst
 rw [hc] at hst
 simp only [cond_true, Option.some.injEq] at hst
 have hm : mergeH s.h [b] ((restrictH s.h [b]).put b (some (.cells (putAt cs off l) true))) = h' := by
  rw [← hst]
  have e : ((restrictH s.h [b]).put b (some (.cells (putAt cs off l) true))).get b = some (.cells (putAt cs off l) true) := by rw [AH.get_put, if_pos rfl]
  show (⟨s.h.next, copyNew _ s.h.next (s.h.next - s.h.next) (s.h.tr.put b (((restrictH s.h [b]).put b (some (.cells (putAt cs off l) true))).get b))⟩ : AH) = _
  rw [Nat.sub_self, e]
  rfl
 have hble : Nat.ble s.h.next s.h.next = true := Nat.ble_eq.mpr (Nat.le_refl _)
 have hbl1 : below s.h.next [b] = true := by simp only [below, List.all_cons, List.all_nil, hbb, Bool.and_self]
 have i1 : ∀ h : AH, idsO { tm := pickTm s.tm [a, x], h := h, defers := [], round := s.round } (.t a) = [b] := fun h => by
  simp only [idsO, St.eval, pa, ids]
 have hro : runOp E (callA E (exec E m)) { tm := pickTm s.tm [a, x], h := restrictH s.h [b], defers := [], round := s.round } (.store n (.t a) (.t x)) = some (undefA, { tm := pickTm s.tm [a, x], h := (restrictH s.h [b]).put b (some (.cells (putAt cs off l) true)), defers := [], round := s.round }) := by
  simp only [runOp, St.eval, pa, px, Option.bind_some, hl, hg', hc, cond_true]
 have hn2 : ((restrictH s.h [b]).put b (some (.cells (putAt cs off l) true))).next = s.h.next := rfl
 simp only [stepDraw, wantedA, hbel, foot, i1, hkn, Bool.and_self, cond_true, hro, isCall, cond_false, turned, List.isEmpty_nil, hn2, hble, hbl1, hm]
end
end Go.Proofs.YtijpnlmmaoecgaaGreatDoor
