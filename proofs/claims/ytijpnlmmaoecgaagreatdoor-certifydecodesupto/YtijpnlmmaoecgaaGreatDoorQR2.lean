/- A part of the proofs about certificates: YRd YRt YLs. -/
import Derived.Test.YtijpnlmmaoecgaaGreatDoorQW1
import Derived.Test.YtijpnlmmaoecgaaGreatDoorQR1

set_option linter.all false
open Nat (reduceEqDiff reduceAdd reduceMul)
open Int (reduceEq reduceLT reduceLE)

namespace Go.Proofs.YtijpnlmmaoecgaaGreatDoor
open Go Go.AM
def rdB (rest : List UInt8) (cap : Option Nat) (bad : Bool) : Blk := .cells [.imm (bytesA rest) rest.length cap, .val (.bool bad)] true
def Rd (h : AH) (r : Nat) (s : RS) : Prop := r < h.next ∧ ∃ cap, h.get r = some (rdB s.rest cap s.bad)
structure Fd (h h' : AH) (r : Nat) : Prop where
 le : h.next ≤ h'.next
 get : ∀ x, x < h.next → x ≠ r → h'.get x = h.get x
 nt : NoTag h → NoTag h'
theorem Fd.refl (h : AH) (r : Nat) : Fd h h r := ⟨Nat.le_refl _, fun _ _ _ => rfl, id⟩
theorem Fd.trans {h h1 h2 : AH} {r : Nat} (a : Fd h h1 r) (c : Fd h1 h2 r) : Fd h h2 r :=
 ⟨Nat.le_trans a.le c.le, fun x hx hr => by rw [c.get x (Nat.lt_of_lt_of_le hx a.le) hr, a.get x hx hr], fun k => c.nt (a.nt k)⟩
theorem Fd.put {h : AH} {r : Nat} {cs : List AV} {rw : Bool} : Fd h (h.put r (some (.cells cs rw))) r := ⟨Nat.le_refl _, fun _ _ hr => get_put_old hr, fun k => k.put⟩
theorem Fd.alloc {h : AH} {r : Nat} {cs : List AV} {rw : Bool} : Fd h (h.alloc (.cells cs rw)) r := ⟨by rw [a_next]; omega, fun _ hx _ => get_alloc_old hx, fun k => k.alloc⟩
theorem Fd.keep {h h' : AH} {r x : Nat} {k : Blk} (f : Fd h h' r) (hx : x < h.next) (h1 : x ≠ r) (g : h.get x = some k) : h'.get x = some k := by rw [f.get x hx h1, g]
theorem Rd.put {h : AH} {r : Nat} {rest : List UInt8} {cap : Option Nat} {bad : Bool} (hr : r < h.next) : Rd (h.put r (some (rdB rest cap bad))) r ⟨rest, bad⟩ := ⟨hr, cap, put_get⟩
theorem Rd.alloc {h : AH} {r : Nat} {s : RS} {x : Blk} (k : Rd h r s) : Rd (h.alloc x) r s := by
 obtain ⟨a, cap, b⟩ := k
 exact ⟨by rw [a_next]; omega, cap, by rw [get_alloc_old a, b]⟩
theorem Rd.other {h : AH} {r c : Nat} {s : RS} {x : Option Blk} (k : Rd h r s) (hc : r ≠ c) : Rd (h.put c x) r s := by
 obtain ⟨a, cap, b⟩ := k
 exact ⟨a, cap, by rw [get_put_old hc, b]⟩
theorem rd_f0 {rest : List UInt8} {cap : Option Nat} {bad : Bool} : cfB (some (rdB rest cap bad)) 0 = some [.imm (bytesA rest) rest.length cap, .val (.bool bad)] := rfl
theorem rd_f1 {rest : List UInt8} {cap : Option Nat} {bad : Bool} : cfB (some (rdB rest cap bad)) 1 = some [.val (.bool bad)] := rfl
theorem rd_s0 {h : AH} {r : Nat} {rest rest' : List UInt8} {cap cap' : Option Nat} {bad : Bool} (g : h.get r = some (rdB rest cap bad)) : storeH h 1 (.ptr r 0) [.imm (bytesA rest') rest'.length cap'] = some (h.put r (some (rdB rest' cap' bad))) := by
 simp only [storeH, g, rdB]
 rfl
theorem rd_s1 {h : AH} {r : Nat} {rest : List UInt8} {cap : Option Nat} {bad : Bool} (g : h.get r = some (rdB rest cap bad)) : storeH h 1 (.ptr r 1) [.val (.bool true)] = some (h.put r (some (rdB rest cap true))) := by
 simp only [storeH, g, rdB]
 rfl
theorem bytes_at {l : List UInt8} {i : Nat} {c : UInt8} {r : List UInt8} {cap : Option Nat} (h : l.drop i = c :: r) : idxAddrSV 1 (.imm (bytesA l) l.length cap) i = some (.iptr (.val (.int .u8 (c.toNat : Nat)) :: bytesA r)) :=
 row_kid (es := 1) (f := fun b : UInt8 => [AV.val (.int .u8 (b.toNat : Nat))]) (nl := none) (fun _ => rfl) h
theorem bytesA_drop (l : List UInt8) (i : Nat) : (bytesA l).drop (i * 1) = bytesA (l.drop i) := flatC_drop (f := fun b : UInt8 => [AV.val (.int .u8 (b.toNat : Nat))]) (es := 1) (fun _ => rfl) l i
theorem bytesA_take : ∀ (l : List UInt8) (i : Nat), (bytesA l).take i = bytesA (l.take i)
 | [], i => by simp [bytesA]
 | a :: r, 0 => rfl
 | a :: r, i + 1 => by
  have := bytesA_take r i
  simp only [bytesA, List.flatMap_cons, List.cons_append, List.nil_append, List.take_succ_cons] at this ⊢
  rw [this]
theorem slice_from {l : List UInt8} {i : Nat} {cap : Option Nat} (h : i ≤ l.length) : ∃ cap', sliceA' 1 (.imm (bytesA l) l.length cap) (some i) none none = some (.imm (bytesA (l.drop i)) (l.drop i).length cap') := by
 have a1 : Nat.ble l.length l.length = true := Nat.ble_eq.mpr (Nat.le_refl _)
 have a2 : Nat.ble i l.length = true := Nat.ble_eq.mpr h
 have a3 : ((bytesA l).drop (i * 1)).take ((l.length - i) * 1) = bytesA (l.drop i) := by
  rw [bytesA_drop]
  exact List.take_of_length_le (by rw [bytesA_len, List.length_drop]; omega)
 cases cap with
 | none => exact ⟨none, by simp only [sliceA', sliceB, Option.getD_none, Option.getD_some, a1, a2, Option.isNone_none, Bool.true_or, Bool.and_self, cond_true, a3, List.length_drop]⟩
 | some c => exact ⟨some (c - i), by simp only [sliceA', sliceB, Option.getD_none, Option.getD_some, a1, a2, Option.isNone_none, Bool.true_or, Bool.and_self, cond_true, a3, List.length_drop]⟩
theorem slice_to {l : List UInt8} {i : Nat} {cap : Option Nat} (h : i ≤ l.length) : ∃ cap', sliceA' 1 (.imm (bytesA l) l.length cap) none (some i) none = some (.imm (bytesA (l.take i)) (l.take i).length cap') := by
 have a1 : Nat.ble l.length l.length = true := Nat.ble_eq.mpr (Nat.le_refl _)
 have a2 : Nat.ble i l.length = true := Nat.ble_eq.mpr h
 have a0 : Nat.ble 0 i = true := Nat.ble_eq.mpr (Nat.zero_le _)
 have a3 : ((bytesA l).drop (0 * 1)).take (i * 1) = bytesA (l.take i) := by
  rw [Nat.zero_mul, List.drop_zero, Nat.mul_one, bytesA_take]
 have a4 : (l.take i).length = i := by rw [List.length_take]; omega
 cases cap with
 | none => exact ⟨none, by simp only [sliceA', sliceB, Option.getD_none, Option.getD_some, a1, a2, a0, Option.isNone_none, Bool.true_or, Bool.and_self, cond_true, a3, a4, Nat.sub_zero]⟩
 | some c => exact ⟨some (c - 0), by simp only [sliceA', sliceB, Option.getD_none, Option.getD_some, a1, a2, a0, Option.isNone_none, Bool.true_or, Bool.and_self, cond_true, a3, a4, Nat.sub_zero]⟩
theorem and_127b {P : Program} {t : TypeId} {g : Bool} (c : UInt8) : binA P .and t g (.val (.int .u8 (c.toNat : Nat))) (.val (.int .u8 127)) = some (.val (.int .u8 ((c.toNat % 128 : Nat) : Int))) := by
 have hc := c.toNat_lt
 have e : ((127 : Int)) = ((127 : Nat) : Int) := rfl
 rw [v_and, e, and_u8 (by omega) (by decide)]
 have : c.toNat &&& 127 = c.toNat % 128 := Nat.and_two_pow_sub_one_eq_mod c.toNat 7
 rw [this]
theorem shl_byte {P : Program} {t : TypeId} {g : Bool} {x sh : Nat} {k' : IntKind} (hs : sh ≤ 63) (hx : x * 2 ^ sh < 2 ^ 64) : binA P .shl t g (.val (.int .u64 (x : Nat))) (.val (.int k' (sh : Nat))) = some (.val (.int .u64 ((x * 2 ^ sh : Nat) : Int))) := by
 rw [v_shl (by show sh ≤ 64; omega)]
 have : (x : Int) * 2 ^ sh = ((x * 2 ^ sh : Nat) : Int) := by norm_cast
 rw [this, wrap_u64 hx]
theorem or_byte {P : Program} {t : TypeId} {g : Bool} {u x sh : Nat} (hu : u < 2 ^ sh) (hs : sh ≤ 63) (hx : x * 2 ^ sh < 2 ^ 64) : binA P .or t g (.val (.int .u64 (u : Nat))) (.val (.int .u64 ((x * 2 ^ sh : Nat) : Int))) = some (.val (.int .u64 ((u + x * 2 ^ sh : Nat) : Int))) := by
 have h63 : u < 2 ^ 64 := Nat.lt_of_lt_of_le hu (Nat.pow_le_pow_right (by decide) (by omega))
 rw [v_or, or_u64 h63 hx]
 have : u ||| x * 2 ^ sh = u + x * 2 ^ sh := by
  have := Nat.two_pow_add_eq_or_of_lt hu x
  rw [Nat.or_comm, Nat.add_comm, Nat.mul_comm]
  exact this.symm
 rw [this]
theorem shr_1 {P : Program} {t : TypeId} {g : Bool} {u : Nat} {k' : IntKind} : binA P .shr t g (.val (.int .u64 (u : Int))) (.val (.int k' 1)) = some (.val (.int .u64 ((u / 2 : Nat) : Int))) := by
 have e : ((1 : Int)) = ((1 : Nat) : Int) := rfl
 rw [e, v_shr (by decide)]
 have : ((u : Int)).fdiv (2 ^ 1) = ((u / 2 : Nat) : Int) := by
  rw [Int.fdiv_eq_ediv_of_nonneg _ (by decide)]
  norm_cast
 rw [this]
theorem and_1 {P : Program} {t : TypeId} {g : Bool} {u : Nat} (h : u < 2 ^ 64) : binA P .and t g (.val (.int .u64 (u : Int))) (.val (.int .u64 1)) = some (.val (.int .u64 ((u % 2 : Nat) : Int))) := by
 have e : ((1 : Int)) = ((1 : Nat) : Int) := rfl
 rw [v_and, e, and_u64 h (by decide)]
 have : u &&& 1 = u % 2 := Nat.and_two_pow_sub_one_eq_mod u 1
 rw [this]
theorem unz_code {u : Nat} (h : u < 2 ^ 64) : IntKind.i64.wrap ((BitVec.ofInt IntKind.i64.bits (IntKind.i64.wrap ((u / 2 : Nat) : Int)) ^^^ BitVec.ofInt IntKind.i64.bits (IntKind.i64.wrap (0 - IntKind.i64.wrap ((u % 2 : Nat) : Int)))).toNat : Nat) = unz u := by
 have hq : u / 2 < 9223372036854775808 := by omega
 have w1 : IntKind.i64.wrap ((u / 2 : Nat) : Int) = ((u / 2 : Nat) : Int) := by
  simp [IntKind.wrap, IntKind.bits, IntKind.signed]
  omega
 have hb : IntKind.i64.bits = 64 := rfl
 have t1 : (BitVec.ofInt 64 ((u / 2 : Nat) : Int)).toNat = u / 2 := by
  rw [ofInt_nat, BitVec.toNat_ofNat, Nat.mod_eq_of_lt (by omega)]
 rw [w1, hb]
 unfold unz
 rcases Nat.mod_two_eq_zero_or_one u with e | e
 ·have w2 : IntKind.i64.wrap (0 - IntKind.i64.wrap ((u % 2 : Nat) : Int)) = ((0 : Nat) : Int) := by rw [e]; rfl
  rw [w2, if_pos e, BitVec.toNat_xor, t1, ofInt_nat, BitVec.toNat_ofNat, Nat.zero_mod, Nat.xor_zero, w1]
 ·have w2 : IntKind.i64.wrap (0 - IntKind.i64.wrap ((u % 2 : Nat) : Int)) = -1 := by rw [e]; rfl
  have m1 : BitVec.ofInt 64 (-1) = BitVec.allOnes 64 := by decide
  rw [w2, if_neg (by omega), m1, BitVec.xor_allOnes, BitVec.toNat_not, t1]
  simp [IntKind.wrap, IntKind.bits, IntKind.signed]
  omega
theorem f18_loop (r : Nat) (rest : List UInt8) (hrl : rest.length < 2 ^ 60) (bad : Bool) (cap : Option Nat) : ∀ (l : List UInt8) (i u sh : Nat) (s : St), rest.drop i = l → sh ≤ 70 → 7 * 10 - sh = 7 * (10 - sh / 7) → sh % 7 = 0 → (sh ≤ 63 → u < 2 ^ sh) →
  s.h.get r = some (rdB rest cap bad) →
  s.eval (.t 0) = some (.ptr r 0) → s.eval (.t 3) = some (.val (.int .u64 (u : Nat))) → s.eval (.t 4) = some (.val (.int .i64 (sh : Nat))) → s.eval (.t 10) = some (.imm (bytesA rest) rest.length cap) → s.eval (.t 11) = some (.val (.int .i64 (rest.length : Nat))) → s.eval (.t 12) = some (.val (.int .i64 (i : Nat))) → s.defers = [] →
  Run E1 f18_l0 s fun e s' => s'.defers = [] ∧ match numR l u sh with
   | some (u', r') => e = .ret ∧ s'.eval (.t 2) = some (.val (.int .i64 (unz u'))) ∧ ∃ cap', s'.h = s.h.put r (some (rdB r' cap' bad))
   | none => e = .exit 0 ∧ s'.h = s.h ∧ s'.eval (.t 0) = some (.ptr r 0)
 | [], i, u, sh, s, hd, h70, hm, hm7, hu, hg, h0, h3, h4, h10, h11, h12, hf => by
  have c1 := dec_ge (List.drop_eq_nil_iff.1 hd)
  apply loop_of (rfl : f18_l0 = .loop f18_b0)
  simp -implicitDefEqProofs only [f18_b0, V, ↓reduceIte, reduceEqDiff, reduceAdd, reduceMul, reduceCtorEq, reduceEq, reduceLT, reduceLE, h0, h3, h4, h10, h11, h12, hf, c1, numR]
 | c :: l, i, u, sh, s, hd, h70, hm, hm7, hu, hg, h0, h3, h4, h10, h11, h12, hf => by
  obtain ⟨hlt, hd'⟩ := lt_of_drop hd
  have c1 := dec_lt hlt
  have w1 := wrap_succ (i := i) (by omega)
  have hc := c.toNat_lt
  have w7 : IntKind.i64.wrap ((sh : Int) + 7) = ((sh + 7 : Nat) : Int) := wrap_in (n := sh + 7) (by omega)
  have a1 := fun (t : TypeId) (g : Bool) => and_127b (P := E1.P) (t := t) (g := g) c
  have a2 : IntKind.u64.wrap ((c.toNat % 128 : Nat) : Int) = ((c.toNat % 128 : Nat) : Int) := wrap_u64 (by omega)
  rw [numR]
  by_cases hbad : 63 < sh ∨ (sh = 63 ∧ 1 < c.toNat)
  ·rw [if_pos hbad]
   have hb01 : Nat.beq 0 1 = false := rfl
   apply loop_of (rfl : f18_l0 = .loop f18_b0)
   rcases hbad with q | ⟨rfl, q⟩
   ·have d1 : decide ((63 : Int) < (sh : Nat)) = true := by simp; omega
    simp -implicitDefEqProofs only [f18_b0, V, ↓reduceIte, reduceEqDiff, reduceAdd, reduceMul, reduceCtorEq, reduceEq, reduceLT, reduceLE, h0, h3, h4, h10, h11, h12, hf, c1, bytes_at hd, d1, hb01]
   ·have d1 : decide ((63 : Int) < ((63 : Nat) : Int)) = false := by decide
    have d2 : decide (((63 : Nat) : Int) = 63) = true := by decide
    have d3 : decide ((1 : Int) < (c.toNat : Nat)) = true := by simp; omega
    simp -implicitDefEqProofs only [f18_b0, V, ↓reduceIte, reduceEqDiff, reduceAdd, reduceMul, reduceCtorEq, reduceEq, reduceLT, reduceLE, h0, h3, h4, h10, h11, h12, hf, c1, bytes_at hd, d1, d2, d3, hb01]
  ·rw [if_neg hbad]
   have hsh : sh ≤ 63 := by omega
   have hu' := hu hsh
   have hx : c.toNat % 128 * 2 ^ sh < 2 ^ 64 := by
    rcases Nat.lt_or_ge sh 63 with q | q
    ·have : 2 ^ sh ≤ 2 ^ 56 := Nat.pow_le_pow_right (by decide) (by omega)
     calc c.toNat % 128 * 2 ^ sh ≤ 127 * 2 ^ 56 := Nat.mul_le_mul (by omega) this
      _ < 2 ^ 64 := by decide
    ·have e : sh = 63 := by omega
     subst e
     have : c.toNat % 128 ≤ 1 := by omega
     calc c.toNat % 128 * 2 ^ 63 ≤ 1 * 2 ^ 63 := Nat.mul_le_mul_right _ this
      _ < 2 ^ 64 := by decide
   have hx2 : u + c.toNat % 128 * 2 ^ sh < 2 ^ (sh + 7) := by
    have : c.toNat % 128 * 2 ^ sh ≤ 127 * 2 ^ sh := Nat.mul_le_mul_right _ (by omega)
    rw [Nat.pow_add]
    omega
   have hx3 : u + c.toNat % 128 * 2 ^ sh < 2 ^ 64 := by
    rcases Nat.lt_or_ge sh 63 with q | q
    ·exact Nat.lt_of_lt_of_le hx2 (Nat.pow_le_pow_right (by decide) (by omega))
    ·have e : sh = 63 := by omega
     subst e
     have : c.toNat % 128 ≤ 1 := by omega
     have : c.toNat % 128 * 2 ^ 63 ≤ 1 * 2 ^ 63 := Nat.mul_le_mul_right _ this
     omega
   have a3 := fun k' : IntKind => shl_byte (P := E1.P) (t := 141) (g := false) (x := c.toNat % 128) (k' := k') hsh hx
   have a4 := or_byte (P := E1.P) (t := 141) (g := false) hu' hsh hx
   have guards : (decide ((63 : Int) < (sh : Nat)) = false) ∧ ((decide ((sh : Int) = 63) = false) ∨ (decide ((sh : Int) = 63) = true ∧ decide ((1 : Int) < (c.toNat : Nat)) = false)) := by
    refine ⟨by simp; omega, ?_⟩
    rcases Nat.lt_or_ge sh 63 with q | q
    ·exact .inl (by simp; omega)
    ·exact .inr ⟨by simp; omega, by simp; omega⟩
   obtain ⟨d1, d2⟩ := guards
   by_cases h128 : c.toNat < 128
   ·rw [if_pos h128]
    have d4 : decide ((c.toNat : Int) < 128) = true := by simp; omega
    obtain ⟨cap', hsl⟩ := slice_from (l := rest) (i := i + 1) (cap := cap) (by omega)
    rw [hd'] at hsl
    have hst := rd_s0 (rest' := l) (cap' := cap') hg
    have b1 := fun k' : IntKind => shr_1 (P := E1.P) (t := 141) (g := true) (u := u + c.toNat % 128 * 2 ^ sh) (k' := k')
    have b2 := and_1 (P := E1.P) (t := 141) (g := true) hx3
    have b3 := unz_code hx3
    apply loop_of (rfl : f18_l0 = .loop f18_b0)
    rcases d2 with d2 | ⟨d2, d3⟩
    ·simp -implicitDefEqProofs only [f18_b0, V, ↓reduceIte, reduceEqDiff, reduceAdd, reduceMul, reduceCtorEq, reduceEq, reduceLT, reduceLE, h0, h3, h4, h10, h11, h12, hf, c1, bytes_at hd, d1, d2, a1, a2, a3, a4, d4, hg, rd_f0, w1, hsl, hst, b1, b2, v_neg, v_xor, b3]
     exact ⟨cap', rfl⟩
    ·simp -implicitDefEqProofs only [f18_b0, V, ↓reduceIte, reduceEqDiff, reduceAdd, reduceMul, reduceCtorEq, reduceEq, reduceLT, reduceLE, h0, h3, h4, h10, h11, h12, hf, c1, bytes_at hd, d1, d2, d3, a1, a2, a3, a4, d4, hg, rd_f0, w1, hsl, hst, b1, b2, v_neg, v_xor, b3]
     exact ⟨cap', rfl⟩
   ·rw [if_neg h128]
    have d4 : decide ((c.toNat : Int) < 128) = false := by simp; omega
    have next : ∀ s1 : St, s1.h = s.h → s1.eval (.t 0) = some (.ptr r 0) → s1.eval (.t 3) = some (.val (.int .u64 ((u + c.toNat % 128 * 2 ^ sh : Nat) : Int))) → s1.eval (.t 4) = some (.val (.int .i64 ((sh + 7 : Nat) : Int))) → s1.eval (.t 10) = some (.imm (bytesA rest) rest.length cap) → s1.eval (.t 11) = some (.val (.int .i64 (rest.length : Nat))) → s1.eval (.t 12) = some (.val (.int .i64 ((i + 1 : Nat) : Int))) → s1.defers = [] →
      Run E1 f18_l0 s1 fun e s' => s'.defers = [] ∧ match numR l (u + c.toNat % 128 * 2 ^ sh) (sh + 7) with
       | some (u', r') => e = .ret ∧ s'.eval (.t 2) = some (.val (.int .i64 (unz u'))) ∧ ∃ cap', s'.h = s.h.put r (some (rdB r' cap' bad))
       | none => e = .exit 0 ∧ s'.h = s.h ∧ s'.eval (.t 0) = some (.ptr r 0) := by
     intro s1 e1 k0 k3 k4 k10 k11 k12 kd
     rw [← e1]
     exact f18_loop r rest hrl bad cap l (i + 1) (u + c.toNat % 128 * 2 ^ sh) (sh + 7) s1 hd' (by omega) (by omega) (by omega) (fun _ => hx2) (by rw [e1]; exact hg) k0 k3 k4 k10 k11 k12 kd
    apply loop_of (rfl : f18_l0 = .loop f18_b0)
    rcases d2 with d2 | ⟨d2, d3⟩
    ·simp -implicitDefEqProofs only [f18_b0, V, ↓reduceIte, reduceEqDiff, reduceAdd, reduceMul, reduceCtorEq, reduceEq, reduceLT, reduceLE, h0, h3, h4, h10, h11, h12, c1, bytes_at hd, d1, d2, a1, a2, a3, a4, d4, w1, w7]
     refine next _ ?_ ?_ ?_ ?_ ?_ ?_ ?_ ?_
     all_goals simp -implicitDefEqProofs only [V, ↓reduceIte, reduceEqDiff, reduceAdd, reduceMul, reduceCtorEq, reduceEq, reduceLT, reduceLE, h0, h10, h11, hf]
    ·simp -implicitDefEqProofs only [f18_b0, V, ↓reduceIte, reduceEqDiff, reduceAdd, reduceMul, reduceCtorEq, reduceEq, reduceLT, reduceLE, h0, h3, h4, h10, h11, h12, c1, bytes_at hd, d1, d2, d3, a1, a2, a3, a4, d4, w1, w7]
     refine next _ ?_ ?_ ?_ ?_ ?_ ?_ ?_ ?_
     all_goals simp -implicitDefEqProofs only [V, ↓reduceIte, reduceEqDiff, reduceAdd, reduceMul, reduceCtorEq, reduceEq, reduceLT, reduceLE, h0, h10, h11, hf]
def RdTo (h : AH) (r : Nat) (v : AV) (s : RS) (v' : AV) (h' : AH) : Prop := v' = v ∧ Rd h' r s ∧ Fd h h' r
theorem numr_call {h : AH} {r : Nat} {st : RS} (hr : Rd h r st) (hl : st.rest.length < 2 ^ 60) : ∃ v h', RunCall E1 (.f 18) [.ptr r 0] h v h' ∧ RdTo h r (.val (.int .i64 (rNum st).1)) (rNum st).2 v h' ∧ h'.next = h.next := by
 obtain ⟨hrl, cap, hg⟩ := hr
 obtain ⟨v, h', a, b, c⟩ : ∃ v h', RunCall E1 (.f 18) [.ptr r 0] h v h' ∧ (RdTo h r (.val (.int .i64 (rNum st).1)) (rNum st).2 v h' ∧ h'.next = h.next) := by
  refine shared0 _ (by kernel_rfl) f18_ok fun s hs hh hd hr => ?_
  have h0 := hs 0 _ rfl
  subst hh
  have q : lenV (.imm (bytesA st.rest) st.rest.length cap) = some (.val (.int .i64 (st.rest.length : Nat))) := rfl
  simp -implicitDefEqProofs only [f18_fn, f18, V, ↓reduceIte, reduceEqDiff, reduceAdd, reduceMul, reduceCtorEq, reduceEq, reduceLT, reduceLE, h0, hg, rd_f0, q]
  refine (f18_loop r st.rest hl st.bad cap st.rest 0 0 0 _ rfl (by omega) (by omega) (by omega) (fun _ => by decide) ?_ ?_ ?_ ?_ ?_ ?_ ?_ ?_).mono ?_
  ·exact hg
  ·simp -implicitDefEqProofs only [V, ↓reduceIte, reduceEqDiff, reduceAdd, reduceMul, reduceCtorEq, reduceEq, reduceLT, reduceLE, h0]
  ·simp -implicitDefEqProofs only [V, ↓reduceIte, reduceEqDiff, reduceAdd, reduceMul, reduceCtorEq, reduceEq, reduceLT, reduceLE] <;> rfl
  ·simp -implicitDefEqProofs only [V, ↓reduceIte, reduceEqDiff, reduceAdd, reduceMul, reduceCtorEq, reduceEq, reduceLT, reduceLE] <;> rfl
  ·simp -implicitDefEqProofs only [V, ↓reduceIte, reduceEqDiff, reduceAdd, reduceMul, reduceCtorEq, reduceEq, reduceLT, reduceLE]
  ·simp -implicitDefEqProofs only [V, ↓reduceIte, reduceEqDiff, reduceAdd, reduceMul, reduceCtorEq, reduceEq, reduceLT, reduceLE]
  ·simp -implicitDefEqProofs only [V, ↓reduceIte, reduceEqDiff, reduceAdd, reduceMul, reduceCtorEq, reduceEq, reduceLT, reduceLE] <;> rfl
  ·simp -implicitDefEqProofs only [V, ↓reduceIte, reduceEqDiff, reduceAdd, reduceMul, reduceCtorEq, reduceEq, reduceLT, reduceLE, hd]
  rintro e s' ⟨rd, k⟩
  rw [rNum]
  cases hn : numR st.rest 0 0 with
  | some p =>
   obtain ⟨u, r'⟩ := p
   rw [hn] at k
   obtain ⟨rfl, k2, cap', k3⟩ := k
   have k3 : s'.h = s.h.put r (some (rdB r' cap' st.bad)) := k3
   simp -implicitDefEqProofs only [V, ↓reduceIte, reduceEqDiff, reduceAdd, reduceMul, reduceCtorEq, reduceEq, reduceLT, reduceLE, rd, k2]
   refine ⟨_, rfl, ⟨rfl, ?_, ?_⟩, ?_⟩
   ·rw [k3]; exact Rd.put hrl
   ·rw [k3]; exact Fd.put
   ·rw [k3]; rfl
  | none =>
   rw [hn] at k
   obtain ⟨rfl, k2, k0⟩ := k
   have k2 : s'.h = s.h := k2
   have hbeq : Nat.beq 0 0 = true := rfl
   have hst := rd_s1 hg
   simp -implicitDefEqProofs only [V, ↓reduceIte, reduceEqDiff, reduceAdd, reduceMul, reduceCtorEq, reduceEq, reduceLT, reduceLE, hbeq, rd, k0, k2, hst]
   exact ⟨_, rfl, rfl, Rd.put hrl, Fd.put⟩
 exact ⟨v, h', a, b, c⟩
end Go.Proofs.YtijpnlmmaoecgaaGreatDoor

namespace Go.Proofs.YtijpnlmmaoecgaaGreatDoor
open Go Go.AM
theorem numR_len : ∀ (l : List UInt8) (u sh u' : Nat) (r : List UInt8), numR l u sh = some (u', r) → r.length < l.length
 | [], u, sh, u', r, h => by cases h
 | c :: l, u, sh, u', r, h => by
  rw [numR] at h
  split at h
  ·cases h
  ·split at h
   ·cases h
    exact Nat.lt_succ_self _
   ·have := numR_len l _ _ u' r h
    rw [List.length_cons]
    omega
theorem rNum_len (s : RS) : (rNum s).2.rest.length ≤ s.rest.length ∧ ((rNum s).2.bad = false → (rNum s).2.rest.length < s.rest.length ∧ s.bad = false) := by
 rw [rNum]
 cases h : numR s.rest 0 0 with
 | none => exact ⟨Nat.le_refl _, fun e => by cases e⟩
 | some p =>
  obtain ⟨u, r⟩ := p
  have := numR_len _ _ _ _ _ h
  exact ⟨by show r.length ≤ _; omega, fun e => ⟨this, e⟩⟩
theorem rCheck_rest (n : Int) (s : RS) : (rCheck n s).rest = s.rest := by
 unfold rCheck
 split <;> rfl
theorem rCheck_bad {n : Int} {s : RS} (h : (rCheck n s).bad = false) : 0 ≤ n ∧ n ≤ s.rest.length ∧ s.bad = false := by
 unfold rCheck at h
 split at h
 ·cases h
 ·rename_i hn
  exact ⟨by omega, by omega, h⟩
theorem rCount_le (s : RS) : (rCount s).1 ≤ (rCount s).2.rest.length ∧ (rCount s).2.rest.length ≤ s.rest.length := by
 have h1 := (rNum_len s).1
 simp only [rCount]
 split
 ·simp only [rCheck_rest]
  omega
 ·rename_i hb
  have hb : (rCheck (rNum s).1 (rNum s).2).bad = false := by simpa using hb
  have := rCheck_bad hb
  simp only [rCheck_rest]
  omega
theorem rCount_bad {s : RS} (h : (rCount s).2.bad = false) : (rCount s).2.rest.length < s.rest.length ∧ s.bad = false := by
 have h1 := (rNum_len s).2
 simp only [rCount] at h ⊢
 split at h
 ·rename_i hb
  simp only [hb] at h
  cases h
 ·rename_i hb
  rw [if_neg hb]
  simp only at h ⊢
  have := rCheck_bad h
  rw [rCheck_rest]
  exact h1 this.2.2
theorem rCount_zero {s : RS} (h : (rCount s).2.bad = true) : (rCount s).1 = 0 := by
 simp only [rCount] at h ⊢
 split at h
 ·rename_i hb
  rw [if_pos hb]
 ·rename_i hb
  exact absurd h hb
theorem count_call {h : AH} {r : Nat} {st : RS} (hr : Rd h r st) (hl : st.rest.length < 2 ^ 60) : ∃ v h', RunCall E1 (.f 50) [.ptr r 0] h v h' ∧ RdTo h r (.val (.int .i64 ((rCount st).1 : Nat))) (rCount st).2 v h' ∧ h'.next = h.next := by
 refine shared0 (fun v h' => RdTo h r (.val (.int .i64 ((rCount st).1 : Nat))) (rCount st).2 v h' ∧ h'.next = h.next) (by kernel_rfl) f50_ok fun s hs hh hd hrd => ?_
 have h0 := hs 0 _ rfl
 subst hh
 simp -implicitDefEqProofs only [f50_fn, f50, V, ↓reduceIte, reduceEqDiff, reduceAdd, reduceMul, reduceCtorEq, reduceEq, reduceLT, reduceLE, h0]
 refine callK_of (numr_call hr hl) ?_
 rintro v h1 ⟨⟨rfl, ⟨hr1, cap, hg⟩, hf1⟩, hn1⟩
 have hf1 : Fd s.h h1 r := hf1
 have hn1 : h1.next = s.h.next := hn1
 have q : lenV (.imm (bytesA (rNum st).2.rest) (rNum st).2.rest.length cap) = some (.val (.int .i64 ((rNum st).2.rest.length : Nat))) := rfl
 have hst := rd_s1 hg
 have hg2 : (h1.put r (some (rdB (rNum st).2.rest cap true))).get r = some (rdB (rNum st).2.rest cap true) := put_get
 by_cases c1 : (rNum st).1 < 0
 ·have d1 : decide ((rNum st).1 < 0) = true := decide_eq_true c1
  have e : rCount st = (0, ⟨(rNum st).2.rest, true⟩) := by
   simp only [rCount, rCheck, if_pos (Or.inl c1)]
   rfl
  rw [e]
  simp -implicitDefEqProofs only [V, ↓reduceIte, reduceEqDiff, reduceAdd, reduceMul, reduceCtorEq, reduceEq, reduceLT, reduceLE, h0, d1, hst, rd_f1, hd, hn1]
  exact ⟨_, rfl, rfl, Rd.put hr1, hf1.trans Fd.put⟩
 ·have d1 : decide ((rNum st).1 < 0) = false := decide_eq_false c1
  by_cases c2 : ((rNum st).2.rest.length : Int) < (rNum st).1
  ·have d2 : decide (((rNum st).2.rest.length : Int) < (rNum st).1) = true := decide_eq_true c2
   have e : rCount st = (0, ⟨(rNum st).2.rest, true⟩) := by
    simp only [rCount, rCheck, if_pos (Or.inr c2)]
    rfl
   rw [e]
   simp -implicitDefEqProofs only [V, ↓reduceIte, reduceEqDiff, reduceAdd, reduceMul, reduceCtorEq, reduceEq, reduceLT, reduceLE, h0, d1, d2, hg, rd_f0, q, hst, rd_f1, hd, hn1]
   exact ⟨_, rfl, rfl, Rd.put hr1, hf1.trans Fd.put⟩
  ·have d2 : decide (((rNum st).2.rest.length : Int) < (rNum st).1) = false := decide_eq_false c2
   have hc : rCheck (rNum st).1 (rNum st).2 = (rNum st).2 := by rw [rCheck, if_neg (by omega)]
   cases hb : (rNum st).2.bad with
   | true =>
    have e : rCount st = (0, (rNum st).2) := by
     simp only [rCount, hc, hb, if_true]
    rw [hb] at hg
    rw [e]
    simp -implicitDefEqProofs only [V, ↓reduceIte, reduceEqDiff, reduceAdd, reduceMul, reduceCtorEq, reduceEq, reduceLT, reduceLE, h0, d1, d2, hg, rd_f0, q, rd_f1, hd, hn1]
    exact ⟨_, rfl, rfl, ⟨hr1, cap, by rw [hb]; exact hg⟩, hf1⟩
   | false =>
    have e : rCount st = ((rNum st).1.toNat, (rNum st).2) := by
     simp only [rCount, hc, hb, Bool.false_eq_true, if_false]
    have en : (((rNum st).1.toNat : Nat) : Int) = (rNum st).1 := Int.toNat_of_nonneg (by omega)
    rw [hb] at hg
    rw [e]
    simp -implicitDefEqProofs only [V, ↓reduceIte, reduceEqDiff, reduceAdd, reduceMul, reduceCtorEq, reduceEq, reduceLT, reduceLE, h0, d1, d2, hg, rd_f0, q, rd_f1, hd, hn1]
    exact ⟨_, rfl, by rw [en]; rfl, ⟨hr1, cap, by rw [hb]; exact hg⟩, hf1⟩
theorem textr_call {h : AH} {r : Nat} {st : RS} (hr : Rd h r st) (hl : st.rest.length < 2 ^ 60) : ∃ v h', RunCall E1 (.f 17) [.ptr r 0] h v h' ∧ RdTo h r (.val (.string (rText st).1)) (rText st).2 v h' ∧ h'.next = h.next := by
 refine shared0 (fun v h' => RdTo h r (.val (.string (rText st).1)) (rText st).2 v h' ∧ h'.next = h.next) (by kernel_rfl) f17_ok fun s hs hh hd hrd => ?_
 have h0 := hs 0 _ rfl
 subst hh
 simp -implicitDefEqProofs only [f17_fn, f17, V, ↓reduceIte, reduceEqDiff, reduceAdd, reduceMul, reduceCtorEq, reduceEq, reduceLT, reduceLE, h0]
 refine callK_of (count_call hr hl) ?_
 rintro v h1 ⟨⟨rfl, ⟨hr1, cap, hg⟩, hf1⟩, hn1⟩
 have hf1 : Fd s.h h1 r := hf1
 have hn1 : h1.next = s.h.next := hn1
 have hle := (rCount_le st).1
 obtain ⟨ca, s1⟩ := slice_to (l := (rCount st).2.rest) (i := (rCount st).1) (cap := cap) hle
 obtain ⟨cb, s2⟩ := slice_from (l := (rCount st).2.rest) (i := (rCount st).1) (cap := cap) hle
 have hstr : strB h1 (.imm (bytesA ((rCount st).2.rest.take (rCount st).1)) ((rCount st).2.rest.take (rCount st).1).length ca) = some (.val (.string ⟨((rCount st).2.rest.take (rCount st).1).toArray⟩)) := by
  have h1 : Nat.ble (((rCount st).2.rest.take (rCount st).1).length * 1) (bytesA ((rCount st).2.rest.take (rCount st).1)).length = true := Nat.ble_eq.mpr (by rw [bytesA_len]; omega)
  simp only [strB, elemsOf, h1, cond_true]
  rw [List.take_of_length_le (by rw [bytesA_len]; omega)]
  simp only [bytesA_of, Option.map_some]
 have hst := rd_s0 (rest' := (rCount st).2.rest.drop (rCount st).1) (cap' := cb) hg
 simp -implicitDefEqProofs only [V, ↓reduceIte, reduceEqDiff, reduceAdd, reduceMul, reduceCtorEq, reduceEq, reduceLT, reduceLE, h0, hg, rd_f0, s1, s2, hstr, hst, hd, hn1]
 exact ⟨_, rfl, rfl, Rd.put hr1, hf1.trans Fd.put⟩
end Go.Proofs.YtijpnlmmaoecgaaGreatDoor

namespace Go.Proofs.YtijpnlmmaoecgaaGreatDoor
open Go Go.AM
def RowR (h : AH) (lo n k es : Nat) (v : AV) (ps : List (AV × AV)) : Prop :=
 (k = 0 ∧ ps = [] ∧ v = .val (.slice none 0 0)) ∨ ∃ b, lo ≤ b ∧ b < h.next ∧ 0 < k ∧ v = .own b 0 k es none ∧ h.get b = some (.cells (ps.map (·.1)) true) ∧ ps.length = k * es ∧ ∀ p ∈ ps, Rep h lo b n p.1 p.2
theorem RowR.nil {h : AH} {lo n es : Nat} : RowR h lo n 0 es (.val (.slice none 0 0)) [] := .inl ⟨rfl, rfl, rfl⟩
theorem rep_same {h h' : AH} {lo hi lo' hi' n : Nat} {v t : AV} (hl : lo' ≤ lo) (hh : hi ≤ hi') (g : ∀ x, lo ≤ x → x < hi → h'.get x = h.get x) (k : Rep h lo hi n v t) : Rep h' lo' hi' n v t :=
 Rep.to hl hh (fun b h1 h2 cs rw e => ⟨rw, by rw [g b h1 h2, e]⟩) (Nat.le_refl _) k
theorem RowR.to {h h' : AH} {lo n k es : Nat} {v : AV} {ps : List (AV × AV)} (r : RowR h lo n k es v ps) (hn : h.next ≤ h'.next) (g : ∀ x, lo ≤ x → x < h.next → h'.get x = h.get x) : RowR h' lo n k es v ps := by
 rcases r with r | ⟨b, h1, h2, h3, e, h4, h5, h6⟩
 ·exact .inl r
 ·refine .inr ⟨b, h1, by omega, h3, e, by rw [g b h1 h2, h4], h5, fun p hp => rep_same (Nat.le_refl _) (Nat.le_refl _) (fun x x1 x2 => g x x1 (by omega)) (h6 p hp)⟩
def pushR (h : AH) (v : AV) (cells : List AV) : AH := match v with
 | .own b _ _ _ _ => match h.get b with
  | some (.cells cs _) => (h.put b none).alloc (.cells (cs ++ cells) true)
  | _ => h
 | _ => h.alloc (.cells cells true)
theorem pushR_nt {h : AH} {v : AV} {cells : List AV} (k : NoTag h) : NoTag (pushR h v cells) := by
 unfold pushR
 split
 ·split
  ·exact k.drop.alloc
  ·exact k
 ·exact k.alloc
theorem pushR_ok {h1 h : AH} {lo n k es : Nat} {v : AV} {ps qs : List (AV × AV)} (r : RowR h1 lo n k es v ps) (hlo : lo ≤ h1.next) (hn : h1.next ≤ h.next) (g : ∀ x, lo ≤ x → x < h1.next → h.get x = h1.get x) (hq : qs.length = es) (hr : ∀ q ∈ qs, Rep h h1.next h.next n q.1 q.2) :
  (pushR h v (qs.map (·.1))).next = h.next + 1 ∧ RowR (pushR h v (qs.map (·.1))) lo n (k + 1) es (.own h.next 0 (k + 1) es none) (ps ++ qs) ∧ (∀ x, x < lo → (pushR h v (qs.map (·.1))).get x = h.get x) := by
 rcases r with ⟨rfl, rfl, rfl⟩ | ⟨b, b1, b2, b3, rfl, b4, b5, b6⟩
 ·refine ⟨rfl, .inr ⟨h.next, by omega, Nat.lt_succ_self _, by omega, rfl, ?_, ?_, ?_⟩, fun x hx => ?_⟩
  ·simp only [pushR, AH.get_alloc, if_true, List.nil_append]
  ·simp only [List.nil_append, hq]; omega
  ·intro p hp
   refine rep_same hlo (Nat.le_refl _) (fun x x1 x2 => ?_) (hr p hp)
   simp only [pushR]
   rw [get_alloc_old x2]
  ·simp only [pushR]
   rw [get_alloc_old (by omega)]
 ·have hb : h.get b = some (.cells (ps.map (·.1)) true) := by rw [g b b1 b2, b4]
  have hp : pushR h (.own b 0 k es none) (qs.map (·.1)) = (h.put b none).alloc (.cells (ps.map (·.1) ++ qs.map (·.1)) true) := by simp only [pushR, hb]
  have hpn : (h.put b none).next = h.next := rfl
  rw [hp]
  refine ⟨rfl, .inr ⟨h.next, by omega, by rw [a_next]; exact Nat.lt_succ_self _, by omega, rfl, ?_, ?_, ?_⟩, fun x hx => ?_⟩
  ·rw [AH.get_alloc, hpn, if_pos rfl, List.map_append]
  ·rw [List.length_append, b5, hq, Nat.add_mul, Nat.one_mul]
  ·intro p hp
   rcases List.mem_append.1 hp with hp | hp
   ·refine rep_same (Nat.le_refl _) (by omega) (fun x x1 x2 => ?_) (b6 p hp)
    rw [get_alloc_old (by omega), get_put_old (by omega), g x x1 (by omega)]
   ·refine rep_same (by omega) (Nat.le_refl _) (fun x x1 x2 => ?_) (hr p hp)
    rw [get_alloc_old (by omega), get_put_old (by omega)]
  ·rw [get_alloc_old (by omega), get_put_old (by omega)]
theorem app_rows {s : St} {K : St → Prop} {r : List AOper} {dst : Option Nat} {es bytes a d1 k c lo n : Nat} {h1 : AH} {v : AV} {ps qs : List (AV × AV)} (hr : RowR h1 lo n k es v ps) (g : ∀ x, lo ≤ x → x < h1.next → s.h.get x = h1.get x)
  (he : s.h.get c = some (.cells (qs.map (·.1)) true)) (hq : qs.length = es) (hok : okLen (k + 1) bytes = true) (h2 : s.eval (.t a) = some v) (h3 : s.eval (.t d1) = some (.own c 0 1 es (some 1))) :
  AM.wpOps E1 (⟨dst, none, .append es bytes (.t a) (.t d1)⟩ :: r) s K = AM.wpOps E1 r ((s.toH (pushR s.h v (qs.map (·.1)))).put dst (.own s.h.next 0 (k + 1) es none)) K := by
 have bes : Nat.beq es es = true := Nat.beq_refl es
 have ble1 : Nat.ble (0 + 1 * es) (qs.map (·.1)).length = true := Nat.ble_eq.mpr (by rw [List.length_map]; omega)
 have hel : elemsOf s.h es (.own c 0 1 es (some 1)) = some (qs.map (·.1), 1) := by
  simp only [elemsOf, bes, cond_true, he, ble1, List.drop_zero]
  rw [List.take_of_length_le (by rw [List.length_map]; omega)]
 have hb : Nat.beq 1 0 = false := rfl
 suffices hs : appendA s es bytes (.t a) (.t d1) = some (.own s.h.next 0 (k + 1) es none, s.toH (pushR s.h v (qs.map (·.1)))) by
  rw [s_append, hs]
  rfl
 rcases hr with ⟨rfl, rfl, rfl⟩ | ⟨b, b1, b2, b3, rfl, b4, b5, b6⟩
 ·simp only [Nat.zero_add] at hok
  simp only [appendA, h2, h3, hel, hb, cond_false, hok, cond_true, pushR]
  rfl
 ·have gb : s.h.get b = some (.cells (ps.map (·.1)) true) := by rw [g b b1 b2, b4]
  have c2 : Nat.ble (0 + k * es) (ps.map (·.1)).length = true := Nat.ble_eq.mpr (by rw [List.length_map]; omega)
  have c3 : Nat.beq (0 + k * es) (ps.map (·.1)).length = true := Nat.beq_eq.mpr (by rw [List.length_map]; omega)
  simp only [appendA, h2, h3, hel, hb, cond_false, gb, bes, c2, hok, Bool.and_self, cond_true, c3, pushR, List.drop_zero]
  rfl
theorem RowR.rep {h : AH} {lo n k es : Nat} {v : AV} {ps : List (AV × AV)} (r : RowR h lo n k es v ps) : Rep h lo h.next (n + 1) v (kidsA (ps.map (·.2)) k nilRow none) := by
 rcases r with ⟨rfl, rfl, rfl⟩ | ⟨b, b1, b2, b3, rfl, b4, b5, b6⟩
 ·exact Rep.leaf (Leaf.val _)
 ·have : kidsA (ps.map (·.2)) k nilRow none = .imm (ps.map (·.2)) k none := by
   have : Nat.beq k 0 = false := by
    cases hk : Nat.beq k 0 with
    | false => rfl
    | true =>
     have := Nat.eq_of_beq_eq_true hk
     omega
   simp only [kidsA, nilRow, this, Bool.and_false, cond_false]
  rw [this]
  exact Rep.own b1 b2 b4 b5 fun p hp => rep_same (Nat.le_refl _) (by omega) (fun _ _ _ => rfl) (b6 p hp)
def OneOk {α : Type} (one : Nat) (f : RS → α × RS) (cs : α → List AV) (F n : Nat) : Prop := ∀ (h : AH) (r : Nat) (st : RS), Rd h r st → st.bad = false → st.rest.length < F →
 ∃ v h', RunCall E1 (.f one) [.ptr r 0] h v h' ∧ ∃ qs : List (AV × AV), v.cells = some (qs.map (·.1)) ∧ qs.map (·.2) = cs (f st).1 ∧ (∀ q ∈ qs, Rep h' h.next h'.next n q.1 q.2) ∧ Rd h' r (f st).2 ∧ Fd h h' r
theorem okLen_of {k bytes : Nat} (hk : k < 2 ^ 30) (hb : bytes ≤ 100) : okLen (k + 1) bytes = true := by
 have : mostBytes = 2 ^ 40 := rfl
 simp only [okLen, this, Bool.and_eq_true]
 exact ⟨Nat.ble_eq.mpr (Nat.le_trans (Nat.mul_le_mul_left _ hb) (by omega)), Nat.ble_eq.mpr (by omega)⟩
theorem fill_all {s : St} {es : Nat} {x : Opd} {z cells : List AV} {v : AV} (hx : s.eval x = some v) (hv : v.cells = some cells) (hl : cells.length = es) (hz : z.length = es) : fill s z [(0, es, x)] = some cells := by
 have h1 : Nat.beq cells.length es = true := by rw [hl]; exact Nat.beq_refl es
 have h2 : Nat.ble (0 + es) z.length = true := Nat.ble_eq.mpr (by omega)
 have h3 : putAt z 0 cells = cells := by
  simp only [putAt, List.take_zero, List.nil_append, Nat.zero_add]
  rw [List.drop_eq_nil_of_le (by omega), List.append_nil]
 simp only [fill, hx, hv, h1, h2, Bool.and_self, cond_true, h3]
theorem dec_pos (m : Nat) : decide ((0 : Int) < ((m + 1 : Nat) : Int)) = true := by simp <;> omega
theorem wrap_pred {m : Nat} (h : m < 2 ^ 61) : IntKind.i64.wrap (((m + 1 : Nat) : Int) - 1) = ((m : Nat) : Int) := by
 have : ((m + 1 : Nat) : Int) - 1 = (m : Nat) := by omega
 rw [this]
 exact wrap_in (by omega)
def ListTo {α : Type} (h : AH) (r es n : Nat) (cs : α → List AV) (l : List α) (st : RS) (v : AV) (h' : AH) : Prop := ∃ ps, RowR h' h.next n l.length es v ps ∧ ps.map (·.2) = l.flatMap cs ∧ Rd h' r st ∧ Fd h h' r
theorem f19_loop {α : Type} {one : Nat} {f : RS → α × RS} {cs : α → List AV} {F n r lo : Nat} (ok : OneOk one f cs F n) (hcs : ∀ a, (cs a).length = 5) (mono : ∀ st, (f st).2.rest.length ≤ st.rest.length) (hrl : r < lo) :
  ∀ (m k : Nat) (s : St) (st : RS) (v : AV) (ps : List (AV × AV)), k + m < 2 ^ 30 → (st.bad = false → st.rest.length < F) → RowR s.h lo n k 5 v ps → lo ≤ s.h.next → Rd s.h r st →
  s.eval (.t 0) = some (.ptr r 0) → s.eval (.t 1) = some (.fn (.func one) [.ptr r 0] []) → s.eval (.t 5) = some v → s.eval (.t 6) = some (.val (.int .i64 (m : Nat))) → s.defers = [] →
  Run E1 f19_l0 s fun e s' => e = .exit 0 ∧ s'.defers = [] ∧ ∃ v' ps', s'.eval (.t 5) = some v' ∧ RowR s'.h lo n (k + (rList f m st).1.length) 5 v' ps' ∧ ps'.map (·.2) = ps.map (·.2) ++ (rList f m st).1.flatMap cs ∧ Rd s'.h r (rList f m st).2 ∧ s.h.next ≤ s'.h.next ∧ (NoTag s.h → NoTag s'.h) ∧ ∀ x, x < lo → x ≠ r → s'.h.get x = s.h.get x
 | 0, k, s, st, v, ps, hk, hF, hrow, hlo, hr, h0, h1, h5, h6, hd => by
  have c0 : decide ((0 : Int) < ((0 : Nat) : Int)) = false := by decide
  apply loop_of (rfl : f19_l0 = .loop f19_b0)
  simp -implicitDefEqProofs only [f19_b0, V, ↓reduceIte, reduceEqDiff, reduceAdd, reduceMul, reduceCtorEq, reduceEq, reduceLT, reduceLE, h0, h1, h5, h6, hd, c0]
  exact ⟨v, ps, rfl, hrow, by simp [rList], hr, Nat.le_refl _, by intro k; exact k, by intros; first | rfl | trivial⟩
 | m + 1, k, s, st, v, ps, hk, hF, hrow, hlo, hr, h0, h1, h5, h6, hd => by
  have c0 := dec_pos m
  have w1 := wrap_pred (m := m) (by omega)
  obtain ⟨hr1, cap, hg⟩ := hr
  cases hbad : st.bad with
  | true =>
   rw [hbad] at hg
   apply loop_of (rfl : f19_l0 = .loop f19_b0)
   simp -implicitDefEqProofs only [f19_b0, V, ↓reduceIte, reduceEqDiff, reduceAdd, reduceMul, reduceCtorEq, reduceEq, reduceLT, reduceLE, h0, h1, h5, h6, hd, c0, hg, rd_f1]
   have e : rList f (m + 1) st = ([], st) := by simp only [rList, hbad, if_true]
   rw [e]
   exact ⟨v, ps, rfl, hrow, by simp, ⟨hr1, cap, by rw [hbad]; exact hg⟩, Nat.le_refl _, by intro k; exact k, by intros; first | rfl | trivial⟩
  | false =>
   have e : rList f (m + 1) st = ((f st).1 :: (rList f m (f st).2).1, (rList f m (f st).2).2) := by simp only [rList, hbad, Bool.false_eq_true, if_false]
   have hg' := hg
   rw [hbad] at hg
   apply loop_of (rfl : f19_l0 = .loop f19_b0)
   simp -implicitDefEqProofs only [f19_b0, V, ↓reduceIte, reduceEqDiff, reduceAdd, reduceMul, reduceCtorEq, reduceEq, reduceLT, reduceLE, h0, h1, h5, h6, c0, hg, rd_f1, List.append_nil]
   refine callK_of (ok _ r st ⟨hr1, cap, hg'⟩ hbad (hF hbad)) ?_
   rintro u h2 ⟨qs, q1, q2, q3, q4, q5⟩
   have q3 : ∀ q ∈ qs, Rep h2 s.h.next h2.next n q.1 q.2 := q3
   have q5 : Fd s.h h2 r := q5
   have l2 : s.h.next ≤ h2.next := q5.le
   have hql : qs.length = 5 := by rw [← List.length_map (f := fun x : AV × AV => x.2), q2, hcs]
   have hfill : ∀ s' : St, s'.eval (.t 22) = some u → fill s' [.val (.string ⟨#[]⟩), .val (.int .i64 0), .val (.string ⟨#[]⟩), .val (.int .i64 0), .val (.slice none 0 0)] [(0, 5, .t 22)] = some (qs.map (·.1)) := fun s' hs' => fill_all hs' q1 (by rw [List.length_map]; exact hql) rfl
   simp -implicitDefEqProofs only [V, ↓reduceIte, reduceEqDiff, reduceAdd, reduceMul, reduceCtorEq, reduceEq, reduceLT, reduceLE, hfill, h5]
   have hnew : (h2.alloc (.cells (qs.map (·.1)) true)).get h2.next = some (.cells (qs.map (·.1)) true) := box_get
   have frame : ∀ x, lo ≤ x → x < s.h.next → (h2.alloc (.cells (qs.map (·.1)) true)).get x = s.h.get x := fun x x1 x2 => by rw [get_alloc_old (by omega), q5.get x x2 (by omega)]
   rw [app_rows (lo := lo) (n := n) (k := k) (c := h2.next) (h1 := s.h) (v := v) (ps := ps) (qs := qs) hrow frame hnew hql (okLen_of (by omega) (by decide)) ?_ ?_]
   ·obtain ⟨p1, p2, p3⟩ := pushR_ok (h := h2.alloc (.cells (qs.map (·.1)) true)) hrow hlo (by rw [a_next]; omega) frame hql fun q hq => rep_same (Nat.le_refl _) (by rw [a_next]; omega) (fun x x1 x2 => get_alloc_old x2) (q3 q hq)
    rw [a_next] at p1
    simp -implicitDefEqProofs only [V, ↓reduceIte, reduceEqDiff, reduceAdd, reduceMul, reduceCtorEq, reduceEq, reduceLT, reduceLE, h6, w1]
    refine (f19_loop ok hcs mono hrl m (k + 1) _ (f st).2 (.own (h2.next + 1) 0 (k + 1) 5 none) (ps ++ qs) (by omega) (fun _ => Nat.lt_of_le_of_lt (mono st) (hF hbad)) ?_ ?_ ?_ ?_ ?_ ?_ ?_ ?_).mono ?_
    ·exact p2
    ·show lo ≤ (pushR _ _ _).next
     rw [p1]; omega
    ·obtain ⟨z1, cap2, z2⟩ := q4
     refine ⟨?_, cap2, ?_⟩
     ·show r < (pushR _ _ _).next
      rw [p1]; omega
     ·show (pushR _ _ _).get r = _
      rw [p3 r hrl, get_alloc_old z1, z2]
    ·simp -implicitDefEqProofs only [V, ↓reduceIte, reduceEqDiff, reduceAdd, reduceMul, reduceCtorEq, reduceEq, reduceLT, reduceLE, h0]
    ·simp -implicitDefEqProofs only [V, ↓reduceIte, reduceEqDiff, reduceAdd, reduceMul, reduceCtorEq, reduceEq, reduceLT, reduceLE, h1]
    ·simp -implicitDefEqProofs only [V, ↓reduceIte, reduceEqDiff, reduceAdd, reduceMul, reduceCtorEq, reduceEq, reduceLT, reduceLE]
    ·simp -implicitDefEqProofs only [V, ↓reduceIte, reduceEqDiff, reduceAdd, reduceMul, reduceCtorEq, reduceEq, reduceLT, reduceLE]
    ·simp -implicitDefEqProofs only [V, ↓reduceIte, reduceEqDiff, reduceAdd, reduceMul, reduceCtorEq, reduceEq, reduceLT, reduceLE, hd]
    ·rintro e' s' ⟨r1, r2, v', ps', r3, r4, r5, r6, r7, r9, r8⟩
     have r7 : (pushR (h2.alloc (.cells (qs.map (·.1)) true)) v (qs.map (·.1))).next ≤ s'.h.next := r7
     have r8 : ∀ x, x < lo → x ≠ r → s'.h.get x = (pushR (h2.alloc (.cells (qs.map (·.1)) true)) v (qs.map (·.1))).get x := r8
     rw [e]
     refine ⟨r1, r2, v', ps', r3, ?_, ?_, r6, by omega, fun k => r9 (pushR_nt (q5.nt k).alloc), fun x x1 x2 => ?_⟩
     ·rw [List.length_cons, show k + ((rList f m (f st).2).1.length + 1) = k + 1 + (rList f m (f st).2).1.length by omega]
      exact r4
     ·rw [r5, List.map_append, q2, List.flatMap_cons, List.append_assoc]
     ·rw [r8 x x1 x2, p3 x x1, get_alloc_old (by omega), q5.get x (by omega) x2]
   ·simp -implicitDefEqProofs only [V, ↓reduceIte, reduceEqDiff, reduceAdd, reduceMul, reduceCtorEq, reduceEq, reduceLT, reduceLE]
   ·simp -implicitDefEqProofs only [V, ↓reduceIte, reduceEqDiff, reduceAdd, reduceMul, reduceCtorEq, reduceEq, reduceLT, reduceLE]
theorem list_call19 {α : Type} {one : Nat} {f : RS → α × RS} {cs : α → List AV} {F n r : Nat} (ok : OneOk one f cs F n) (hcs : ∀ a, (cs a).length = 5) (mono : ∀ st, (f st).2.rest.length ≤ st.rest.length) {h : AH} {st : RS} (hr : Rd h r st) (hl : st.rest.length < 2 ^ 29) (hF : (rCount st).2.bad = false → (rCount st).2.rest.length < F) :
  ∃ v h', RunCall E1 (.f 19) [.ptr r 0, .fn (.func one) [.ptr r 0] []] h v h' ∧ ListTo h r 5 n cs (rRow f st).1 (rRow f st).2 v h' := by
 refine shared0 _ (by kernel_rfl) f19_ok fun s hs hh hd hrd => ?_
 have h0 := hs 0 _ rfl
 have h1 := hs 1 _ rfl
 subst hh
 simp -implicitDefEqProofs only [f19_fn, f19, V, ↓reduceIte, reduceEqDiff, reduceAdd, reduceMul, reduceCtorEq, reduceEq, reduceLT, reduceLE, h0, h1]
 refine callK_of (count_call hr (by omega)) ?_
 rintro v h2 ⟨⟨rfl, hr2, hf2⟩, hn2⟩
 have hf2 : Fd s.h h2 r := hf2
 have hn2 : h2.next = s.h.next := hn2
 have hrl := hr.1
 have hc := rCount_le st
 simp -implicitDefEqProofs only [V, ↓reduceIte, reduceEqDiff, reduceAdd, reduceMul, reduceCtorEq, reduceEq, reduceLT, reduceLE]
 refine (f19_loop (lo := s.h.next) ok hcs mono hrl (rCount st).1 0 _ (rCount st).2 (.val (.slice none 0 0)) [] (by omega) hF RowR.nil ?_ ?_ ?_ ?_ ?_ ?_ ?_).mono ?_
 ·show s.h.next ≤ h2.next
  omega
 ·exact hr2
 ·simp -implicitDefEqProofs only [V, ↓reduceIte, reduceEqDiff, reduceAdd, reduceMul, reduceCtorEq, reduceEq, reduceLT, reduceLE, h0]
 ·simp -implicitDefEqProofs only [V, ↓reduceIte, reduceEqDiff, reduceAdd, reduceMul, reduceCtorEq, reduceEq, reduceLT, reduceLE, h1]
 ·simp -implicitDefEqProofs only [V, ↓reduceIte, reduceEqDiff, reduceAdd, reduceMul, reduceCtorEq, reduceEq, reduceLT, reduceLE]
 ·simp -implicitDefEqProofs only [V, ↓reduceIte, reduceEqDiff, reduceAdd, reduceMul, reduceCtorEq, reduceEq, reduceLT, reduceLE]
 ·simp -implicitDefEqProofs only [V, ↓reduceIte, reduceEqDiff, reduceAdd, reduceMul, reduceCtorEq, reduceEq, reduceLT, reduceLE, hd]
 ·rintro e s' ⟨rfl, rd, v', ps', r3, r4, r5, r6, r7, r9, r8⟩
  have hbeq : Nat.beq 0 0 = true := rfl
  have r7 : h2.next ≤ s'.h.next := r7
  have r8 : ∀ x, x < s.h.next → x ≠ r → s'.h.get x = h2.get x := r8
  simp -implicitDefEqProofs only [V, ↓reduceIte, reduceEqDiff, reduceAdd, reduceMul, reduceCtorEq, reduceEq, reduceLT, reduceLE, hbeq, rd, r3]
  refine ⟨_, rfl, ps', ?_, ?_, r6, by omega, fun x x1 x2 => ?_, fun k => r9 (hf2.nt k)⟩
  ·rw [Nat.zero_add] at r4
   exact r4
  ·simpa [rRow] using r5
  ·rw [r8 x x1 x2, hf2.get x x1 x2]
theorem f21_loop {α : Type} {one : Nat} {f : RS → α × RS} {cs : α → List AV} {F n r lo : Nat} (ok : OneOk one f cs F n) (hcs : ∀ a, (cs a).length = 4) (mono : ∀ st, (f st).2.rest.length ≤ st.rest.length) (hrl : r < lo) :
  ∀ (m k : Nat) (s : St) (st : RS) (v : AV) (ps : List (AV × AV)), k + m < 2 ^ 30 → (st.bad = false → st.rest.length < F) → RowR s.h lo n k 4 v ps → lo ≤ s.h.next → Rd s.h r st →
  s.eval (.t 0) = some (.ptr r 0) → s.eval (.t 1) = some (.fn (.func one) [.ptr r 0] []) → s.eval (.t 5) = some v → s.eval (.t 6) = some (.val (.int .i64 (m : Nat))) → s.defers = [] →
  Run E1 f21_l0 s fun e s' => e = .exit 0 ∧ s'.defers = [] ∧ ∃ v' ps', s'.eval (.t 5) = some v' ∧ RowR s'.h lo n (k + (rList f m st).1.length) 4 v' ps' ∧ ps'.map (·.2) = ps.map (·.2) ++ (rList f m st).1.flatMap cs ∧ Rd s'.h r (rList f m st).2 ∧ s.h.next ≤ s'.h.next ∧ (NoTag s.h → NoTag s'.h) ∧ ∀ x, x < lo → x ≠ r → s'.h.get x = s.h.get x
 | 0, k, s, st, v, ps, hk, hF, hrow, hlo, hr, h0, h1, h5, h6, hd => by
  have c0 : decide ((0 : Int) < ((0 : Nat) : Int)) = false := by decide
  apply loop_of (rfl : f21_l0 = .loop f21_b0)
  simp -implicitDefEqProofs only [f21_b0, V, ↓reduceIte, reduceEqDiff, reduceAdd, reduceMul, reduceCtorEq, reduceEq, reduceLT, reduceLE, h0, h1, h5, h6, hd, c0]
  exact ⟨v, ps, rfl, hrow, by simp [rList], hr, Nat.le_refl _, by intro k; exact k, by intros; first | rfl | trivial⟩
 | m + 1, k, s, st, v, ps, hk, hF, hrow, hlo, hr, h0, h1, h5, h6, hd => by
  have c0 := dec_pos m
  have w1 := wrap_pred (m := m) (by omega)
  obtain ⟨hr1, cap, hg⟩ := hr
  cases hbad : st.bad with
  | true =>
   rw [hbad] at hg
   apply loop_of (rfl : f21_l0 = .loop f21_b0)
   simp -implicitDefEqProofs only [f21_b0, V, ↓reduceIte, reduceEqDiff, reduceAdd, reduceMul, reduceCtorEq, reduceEq, reduceLT, reduceLE, h0, h1, h5, h6, hd, c0, hg, rd_f1]
   have e : rList f (m + 1) st = ([], st) := by simp only [rList, hbad, if_true]
   rw [e]
   exact ⟨v, ps, rfl, hrow, by simp, ⟨hr1, cap, by rw [hbad]; exact hg⟩, Nat.le_refl _, by intro k; exact k, by intros; first | rfl | trivial⟩
  | false =>
   have e : rList f (m + 1) st = ((f st).1 :: (rList f m (f st).2).1, (rList f m (f st).2).2) := by simp only [rList, hbad, Bool.false_eq_true, if_false]
   have hg' := hg
   rw [hbad] at hg
   apply loop_of (rfl : f21_l0 = .loop f21_b0)
   simp -implicitDefEqProofs only [f21_b0, V, ↓reduceIte, reduceEqDiff, reduceAdd, reduceMul, reduceCtorEq, reduceEq, reduceLT, reduceLE, h0, h1, h5, h6, c0, hg, rd_f1, List.append_nil]
   refine callK_of (ok _ r st ⟨hr1, cap, hg'⟩ hbad (hF hbad)) ?_
   rintro u h2 ⟨qs, q1, q2, q3, q4, q5⟩
   have q3 : ∀ q ∈ qs, Rep h2 s.h.next h2.next n q.1 q.2 := q3
   have q5 : Fd s.h h2 r := q5
   have l2 : s.h.next ≤ h2.next := q5.le
   have hql : qs.length = 4 := by rw [← List.length_map (f := fun x : AV × AV => x.2), q2, hcs]
   have hfill : ∀ s' : St, s'.eval (.t 22) = some u → fill s' [.val (.int .i64 0), .val (.int .i64 0), .val (.slice none 0 0), .val (.slice none 0 0)] [(0, 4, .t 22)] = some (qs.map (·.1)) := fun s' hs' => fill_all hs' q1 (by rw [List.length_map]; exact hql) rfl
   simp -implicitDefEqProofs only [V, ↓reduceIte, reduceEqDiff, reduceAdd, reduceMul, reduceCtorEq, reduceEq, reduceLT, reduceLE, hfill, h5]
   have hnew : (h2.alloc (.cells (qs.map (·.1)) true)).get h2.next = some (.cells (qs.map (·.1)) true) := box_get
   have frame : ∀ x, lo ≤ x → x < s.h.next → (h2.alloc (.cells (qs.map (·.1)) true)).get x = s.h.get x := fun x x1 x2 => by rw [get_alloc_old (by omega), q5.get x x2 (by omega)]
   rw [app_rows (lo := lo) (n := n) (k := k) (c := h2.next) (h1 := s.h) (v := v) (ps := ps) (qs := qs) hrow frame hnew hql (okLen_of (by omega) (by decide)) ?_ ?_]
   ·obtain ⟨p1, p2, p3⟩ := pushR_ok (h := h2.alloc (.cells (qs.map (·.1)) true)) hrow hlo (by rw [a_next]; omega) frame hql fun q hq => rep_same (Nat.le_refl _) (by rw [a_next]; omega) (fun x x1 x2 => get_alloc_old x2) (q3 q hq)
    rw [a_next] at p1
    simp -implicitDefEqProofs only [V, ↓reduceIte, reduceEqDiff, reduceAdd, reduceMul, reduceCtorEq, reduceEq, reduceLT, reduceLE, h6, w1]
    refine (f21_loop ok hcs mono hrl m (k + 1) _ (f st).2 (.own (h2.next + 1) 0 (k + 1) 4 none) (ps ++ qs) (by omega) (fun _ => Nat.lt_of_le_of_lt (mono st) (hF hbad)) ?_ ?_ ?_ ?_ ?_ ?_ ?_ ?_).mono ?_
    ·exact p2
    ·show lo ≤ (pushR _ _ _).next
     rw [p1]; omega
    ·obtain ⟨z1, cap2, z2⟩ := q4
     refine ⟨?_, cap2, ?_⟩
     ·show r < (pushR _ _ _).next
      rw [p1]; omega
     ·show (pushR _ _ _).get r = _
      rw [p3 r hrl, get_alloc_old z1, z2]
    ·simp -implicitDefEqProofs only [V, ↓reduceIte, reduceEqDiff, reduceAdd, reduceMul, reduceCtorEq, reduceEq, reduceLT, reduceLE, h0]
    ·simp -implicitDefEqProofs only [V, ↓reduceIte, reduceEqDiff, reduceAdd, reduceMul, reduceCtorEq, reduceEq, reduceLT, reduceLE, h1]
    ·simp -implicitDefEqProofs only [V, ↓reduceIte, reduceEqDiff, reduceAdd, reduceMul, reduceCtorEq, reduceEq, reduceLT, reduceLE]
    ·simp -implicitDefEqProofs only [V, ↓reduceIte, reduceEqDiff, reduceAdd, reduceMul, reduceCtorEq, reduceEq, reduceLT, reduceLE]
    ·simp -implicitDefEqProofs only [V, ↓reduceIte, reduceEqDiff, reduceAdd, reduceMul, reduceCtorEq, reduceEq, reduceLT, reduceLE, hd]
    ·rintro e' s' ⟨r1, r2, v', ps', r3, r4, r5, r6, r7, r9, r8⟩
     have r7 : (pushR (h2.alloc (.cells (qs.map (·.1)) true)) v (qs.map (·.1))).next ≤ s'.h.next := r7
     have r8 : ∀ x, x < lo → x ≠ r → s'.h.get x = (pushR (h2.alloc (.cells (qs.map (·.1)) true)) v (qs.map (·.1))).get x := r8
     rw [e]
     refine ⟨r1, r2, v', ps', r3, ?_, ?_, r6, by omega, fun k => r9 (pushR_nt (q5.nt k).alloc), fun x x1 x2 => ?_⟩
     ·rw [List.length_cons, show k + ((rList f m (f st).2).1.length + 1) = k + 1 + (rList f m (f st).2).1.length by omega]
      exact r4
     ·rw [r5, List.map_append, q2, List.flatMap_cons, List.append_assoc]
     ·rw [r8 x x1 x2, p3 x x1, get_alloc_old (by omega), q5.get x (by omega) x2]
   ·simp -implicitDefEqProofs only [V, ↓reduceIte, reduceEqDiff, reduceAdd, reduceMul, reduceCtorEq, reduceEq, reduceLT, reduceLE]
   ·simp -implicitDefEqProofs only [V, ↓reduceIte, reduceEqDiff, reduceAdd, reduceMul, reduceCtorEq, reduceEq, reduceLT, reduceLE]
theorem list_call21 {α : Type} {one : Nat} {f : RS → α × RS} {cs : α → List AV} {F n r : Nat} (ok : OneOk one f cs F n) (hcs : ∀ a, (cs a).length = 4) (mono : ∀ st, (f st).2.rest.length ≤ st.rest.length) {h : AH} {st : RS} (hr : Rd h r st) (hl : st.rest.length < 2 ^ 29) (hF : (rCount st).2.bad = false → (rCount st).2.rest.length < F) :
  ∃ v h', RunCall E1 (.f 21) [.ptr r 0, .fn (.func one) [.ptr r 0] []] h v h' ∧ ListTo h r 4 n cs (rRow f st).1 (rRow f st).2 v h' := by
 refine shared0 _ (by kernel_rfl) f21_ok fun s hs hh hd hrd => ?_
 have h0 := hs 0 _ rfl
 have h1 := hs 1 _ rfl
 subst hh
 simp -implicitDefEqProofs only [f21_fn, f21, V, ↓reduceIte, reduceEqDiff, reduceAdd, reduceMul, reduceCtorEq, reduceEq, reduceLT, reduceLE, h0, h1]
 refine callK_of (count_call hr (by omega)) ?_
 rintro v h2 ⟨⟨rfl, hr2, hf2⟩, hn2⟩
 have hf2 : Fd s.h h2 r := hf2
 have hn2 : h2.next = s.h.next := hn2
 have hrl := hr.1
 have hc := rCount_le st
 simp -implicitDefEqProofs only [V, ↓reduceIte, reduceEqDiff, reduceAdd, reduceMul, reduceCtorEq, reduceEq, reduceLT, reduceLE]
 refine (f21_loop (lo := s.h.next) ok hcs mono hrl (rCount st).1 0 _ (rCount st).2 (.val (.slice none 0 0)) [] (by omega) hF RowR.nil ?_ ?_ ?_ ?_ ?_ ?_ ?_).mono ?_
 ·show s.h.next ≤ h2.next
  omega
 ·exact hr2
 ·simp -implicitDefEqProofs only [V, ↓reduceIte, reduceEqDiff, reduceAdd, reduceMul, reduceCtorEq, reduceEq, reduceLT, reduceLE, h0]
 ·simp -implicitDefEqProofs only [V, ↓reduceIte, reduceEqDiff, reduceAdd, reduceMul, reduceCtorEq, reduceEq, reduceLT, reduceLE, h1]
 ·simp -implicitDefEqProofs only [V, ↓reduceIte, reduceEqDiff, reduceAdd, reduceMul, reduceCtorEq, reduceEq, reduceLT, reduceLE]
 ·simp -implicitDefEqProofs only [V, ↓reduceIte, reduceEqDiff, reduceAdd, reduceMul, reduceCtorEq, reduceEq, reduceLT, reduceLE]
 ·simp -implicitDefEqProofs only [V, ↓reduceIte, reduceEqDiff, reduceAdd, reduceMul, reduceCtorEq, reduceEq, reduceLT, reduceLE, hd]
 ·rintro e s' ⟨rfl, rd, v', ps', r3, r4, r5, r6, r7, r9, r8⟩
  have hbeq : Nat.beq 0 0 = true := rfl
  have r7 : h2.next ≤ s'.h.next := r7
  have r8 : ∀ x, x < s.h.next → x ≠ r → s'.h.get x = h2.get x := r8
  simp -implicitDefEqProofs only [V, ↓reduceIte, reduceEqDiff, reduceAdd, reduceMul, reduceCtorEq, reduceEq, reduceLT, reduceLE, hbeq, rd, r3]
  refine ⟨_, rfl, ps', ?_, ?_, r6, by omega, fun x x1 x2 => ?_, fun k => r9 (hf2.nt k)⟩
  ·rw [Nat.zero_add] at r4
   exact r4
  ·simpa [rRow] using r5
  ·rw [r8 x x1 x2, hf2.get x x1 x2]
theorem f52_loop {α : Type} {one : Nat} {f : RS → α × RS} {cs : α → List AV} {F n r lo : Nat} (ok : OneOk one f cs F n) (hcs : ∀ a, (cs a).length = 2) (mono : ∀ st, (f st).2.rest.length ≤ st.rest.length) (hrl : r < lo) :
  ∀ (m k : Nat) (s : St) (st : RS) (v : AV) (ps : List (AV × AV)), k + m < 2 ^ 30 → (st.bad = false → st.rest.length < F) → RowR s.h lo n k 2 v ps → lo ≤ s.h.next → Rd s.h r st →
  s.eval (.t 0) = some (.ptr r 0) → s.eval (.t 1) = some (.fn (.func one) [.ptr r 0] []) → s.eval (.t 5) = some v → s.eval (.t 6) = some (.val (.int .i64 (m : Nat))) → s.defers = [] →
  Run E1 f52_l0 s fun e s' => e = .exit 0 ∧ s'.defers = [] ∧ ∃ v' ps', s'.eval (.t 5) = some v' ∧ RowR s'.h lo n (k + (rList f m st).1.length) 2 v' ps' ∧ ps'.map (·.2) = ps.map (·.2) ++ (rList f m st).1.flatMap cs ∧ Rd s'.h r (rList f m st).2 ∧ s.h.next ≤ s'.h.next ∧ (NoTag s.h → NoTag s'.h) ∧ ∀ x, x < lo → x ≠ r → s'.h.get x = s.h.get x
 | 0, k, s, st, v, ps, hk, hF, hrow, hlo, hr, h0, h1, h5, h6, hd => by
  have c0 : decide ((0 : Int) < ((0 : Nat) : Int)) = false := by decide
  apply loop_of (rfl : f52_l0 = .loop f52_b0)
  simp -implicitDefEqProofs only [f52_b0, V, ↓reduceIte, reduceEqDiff, reduceAdd, reduceMul, reduceCtorEq, reduceEq, reduceLT, reduceLE, h0, h1, h5, h6, hd, c0]
  exact ⟨v, ps, rfl, hrow, by simp [rList], hr, Nat.le_refl _, by intro k; exact k, by intros; first | rfl | trivial⟩
 | m + 1, k, s, st, v, ps, hk, hF, hrow, hlo, hr, h0, h1, h5, h6, hd => by
  have c0 := dec_pos m
  have w1 := wrap_pred (m := m) (by omega)
  obtain ⟨hr1, cap, hg⟩ := hr
  cases hbad : st.bad with
  | true =>
   rw [hbad] at hg
   apply loop_of (rfl : f52_l0 = .loop f52_b0)
   simp -implicitDefEqProofs only [f52_b0, V, ↓reduceIte, reduceEqDiff, reduceAdd, reduceMul, reduceCtorEq, reduceEq, reduceLT, reduceLE, h0, h1, h5, h6, hd, c0, hg, rd_f1]
   have e : rList f (m + 1) st = ([], st) := by simp only [rList, hbad, if_true]
   rw [e]
   exact ⟨v, ps, rfl, hrow, by simp, ⟨hr1, cap, by rw [hbad]; exact hg⟩, Nat.le_refl _, by intro k; exact k, by intros; first | rfl | trivial⟩
  | false =>
   have e : rList f (m + 1) st = ((f st).1 :: (rList f m (f st).2).1, (rList f m (f st).2).2) := by simp only [rList, hbad, Bool.false_eq_true, if_false]
   have hg' := hg
   rw [hbad] at hg
   apply loop_of (rfl : f52_l0 = .loop f52_b0)
   simp -implicitDefEqProofs only [f52_b0, V, ↓reduceIte, reduceEqDiff, reduceAdd, reduceMul, reduceCtorEq, reduceEq, reduceLT, reduceLE, h0, h1, h5, h6, c0, hg, rd_f1, List.append_nil]
   refine callK_of (ok _ r st ⟨hr1, cap, hg'⟩ hbad (hF hbad)) ?_
   rintro u h2 ⟨qs, q1, q2, q3, q4, q5⟩
   have q3 : ∀ q ∈ qs, Rep h2 s.h.next h2.next n q.1 q.2 := q3
   have q5 : Fd s.h h2 r := q5
   have l2 : s.h.next ≤ h2.next := q5.le
   have hql : qs.length = 2 := by rw [← List.length_map (f := fun x : AV × AV => x.2), q2, hcs]
   have hfill : ∀ s' : St, s'.eval (.t 22) = some u → fill s' [.val (.bool false), .val (.slice none 0 0)] [(0, 2, .t 22)] = some (qs.map (·.1)) := fun s' hs' => fill_all hs' q1 (by rw [List.length_map]; exact hql) rfl
   simp -implicitDefEqProofs only [V, ↓reduceIte, reduceEqDiff, reduceAdd, reduceMul, reduceCtorEq, reduceEq, reduceLT, reduceLE, hfill, h5]
   have hnew : (h2.alloc (.cells (qs.map (·.1)) true)).get h2.next = some (.cells (qs.map (·.1)) true) := box_get
   have frame : ∀ x, lo ≤ x → x < s.h.next → (h2.alloc (.cells (qs.map (·.1)) true)).get x = s.h.get x := fun x x1 x2 => by rw [get_alloc_old (by omega), q5.get x x2 (by omega)]
   rw [app_rows (lo := lo) (n := n) (k := k) (c := h2.next) (h1 := s.h) (v := v) (ps := ps) (qs := qs) hrow frame hnew hql (okLen_of (by omega) (by decide)) ?_ ?_]
   ·obtain ⟨p1, p2, p3⟩ := pushR_ok (h := h2.alloc (.cells (qs.map (·.1)) true)) hrow hlo (by rw [a_next]; omega) frame hql fun q hq => rep_same (Nat.le_refl _) (by rw [a_next]; omega) (fun x x1 x2 => get_alloc_old x2) (q3 q hq)
    rw [a_next] at p1
    simp -implicitDefEqProofs only [V, ↓reduceIte, reduceEqDiff, reduceAdd, reduceMul, reduceCtorEq, reduceEq, reduceLT, reduceLE, h6, w1]
    refine (f52_loop ok hcs mono hrl m (k + 1) _ (f st).2 (.own (h2.next + 1) 0 (k + 1) 2 none) (ps ++ qs) (by omega) (fun _ => Nat.lt_of_le_of_lt (mono st) (hF hbad)) ?_ ?_ ?_ ?_ ?_ ?_ ?_ ?_).mono ?_
    ·exact p2
    ·show lo ≤ (pushR _ _ _).next
     rw [p1]; omega
    ·obtain ⟨z1, cap2, z2⟩ := q4
     refine ⟨?_, cap2, ?_⟩
     ·show r < (pushR _ _ _).next
      rw [p1]; omega
     ·show (pushR _ _ _).get r = _
      rw [p3 r hrl, get_alloc_old z1, z2]
    ·simp -implicitDefEqProofs only [V, ↓reduceIte, reduceEqDiff, reduceAdd, reduceMul, reduceCtorEq, reduceEq, reduceLT, reduceLE, h0]
    ·simp -implicitDefEqProofs only [V, ↓reduceIte, reduceEqDiff, reduceAdd, reduceMul, reduceCtorEq, reduceEq, reduceLT, reduceLE, h1]
    ·simp -implicitDefEqProofs only [V, ↓reduceIte, reduceEqDiff, reduceAdd, reduceMul, reduceCtorEq, reduceEq, reduceLT, reduceLE]
    ·simp -implicitDefEqProofs only [V, ↓reduceIte, reduceEqDiff, reduceAdd, reduceMul, reduceCtorEq, reduceEq, reduceLT, reduceLE]
    ·simp -implicitDefEqProofs only [V, ↓reduceIte, reduceEqDiff, reduceAdd, reduceMul, reduceCtorEq, reduceEq, reduceLT, reduceLE, hd]
    ·rintro e' s' ⟨r1, r2, v', ps', r3, r4, r5, r6, r7, r9, r8⟩
     have r7 : (pushR (h2.alloc (.cells (qs.map (·.1)) true)) v (qs.map (·.1))).next ≤ s'.h.next := r7
     have r8 : ∀ x, x < lo → x ≠ r → s'.h.get x = (pushR (h2.alloc (.cells (qs.map (·.1)) true)) v (qs.map (·.1))).get x := r8
     rw [e]
     refine ⟨r1, r2, v', ps', r3, ?_, ?_, r6, by omega, fun k => r9 (pushR_nt (q5.nt k).alloc), fun x x1 x2 => ?_⟩
     ·rw [List.length_cons, show k + ((rList f m (f st).2).1.length + 1) = k + 1 + (rList f m (f st).2).1.length by omega]
      exact r4
     ·rw [r5, List.map_append, q2, List.flatMap_cons, List.append_assoc]
     ·rw [r8 x x1 x2, p3 x x1, get_alloc_old (by omega), q5.get x (by omega) x2]
   ·simp -implicitDefEqProofs only [V, ↓reduceIte, reduceEqDiff, reduceAdd, reduceMul, reduceCtorEq, reduceEq, reduceLT, reduceLE]
   ·simp -implicitDefEqProofs only [V, ↓reduceIte, reduceEqDiff, reduceAdd, reduceMul, reduceCtorEq, reduceEq, reduceLT, reduceLE]
theorem list_call52 {α : Type} {one : Nat} {f : RS → α × RS} {cs : α → List AV} {F n r : Nat} (ok : OneOk one f cs F n) (hcs : ∀ a, (cs a).length = 2) (mono : ∀ st, (f st).2.rest.length ≤ st.rest.length) {h : AH} {st : RS} (hr : Rd h r st) (hl : st.rest.length < 2 ^ 29) (hF : (rCount st).2.bad = false → (rCount st).2.rest.length < F) :
  ∃ v h', RunCall E1 (.f 52) [.ptr r 0, .fn (.func one) [.ptr r 0] []] h v h' ∧ ListTo h r 2 n cs (rRow f st).1 (rRow f st).2 v h' := by
 refine shared0 _ (by kernel_rfl) f52_ok fun s hs hh hd hrd => ?_
 have h0 := hs 0 _ rfl
 have h1 := hs 1 _ rfl
 subst hh
 simp -implicitDefEqProofs only [f52_fn, f52, V, ↓reduceIte, reduceEqDiff, reduceAdd, reduceMul, reduceCtorEq, reduceEq, reduceLT, reduceLE, h0, h1]
 refine callK_of (count_call hr (by omega)) ?_
 rintro v h2 ⟨⟨rfl, hr2, hf2⟩, hn2⟩
 have hf2 : Fd s.h h2 r := hf2
 have hn2 : h2.next = s.h.next := hn2
 have hrl := hr.1
 have hc := rCount_le st
 simp -implicitDefEqProofs only [V, ↓reduceIte, reduceEqDiff, reduceAdd, reduceMul, reduceCtorEq, reduceEq, reduceLT, reduceLE]
 refine (f52_loop (lo := s.h.next) ok hcs mono hrl (rCount st).1 0 _ (rCount st).2 (.val (.slice none 0 0)) [] (by omega) hF RowR.nil ?_ ?_ ?_ ?_ ?_ ?_ ?_).mono ?_
 ·show s.h.next ≤ h2.next
  omega
 ·exact hr2
 ·simp -implicitDefEqProofs only [V, ↓reduceIte, reduceEqDiff, reduceAdd, reduceMul, reduceCtorEq, reduceEq, reduceLT, reduceLE, h0]
 ·simp -implicitDefEqProofs only [V, ↓reduceIte, reduceEqDiff, reduceAdd, reduceMul, reduceCtorEq, reduceEq, reduceLT, reduceLE, h1]
 ·simp -implicitDefEqProofs only [V, ↓reduceIte, reduceEqDiff, reduceAdd, reduceMul, reduceCtorEq, reduceEq, reduceLT, reduceLE]
 ·simp -implicitDefEqProofs only [V, ↓reduceIte, reduceEqDiff, reduceAdd, reduceMul, reduceCtorEq, reduceEq, reduceLT, reduceLE]
 ·simp -implicitDefEqProofs only [V, ↓reduceIte, reduceEqDiff, reduceAdd, reduceMul, reduceCtorEq, reduceEq, reduceLT, reduceLE, hd]
 ·rintro e s' ⟨rfl, rd, v', ps', r3, r4, r5, r6, r7, r9, r8⟩
  have hbeq : Nat.beq 0 0 = true := rfl
  have r7 : h2.next ≤ s'.h.next := r7
  have r8 : ∀ x, x < s.h.next → x ≠ r → s'.h.get x = h2.get x := r8
  simp -implicitDefEqProofs only [V, ↓reduceIte, reduceEqDiff, reduceAdd, reduceMul, reduceCtorEq, reduceEq, reduceLT, reduceLE, hbeq, rd, r3]
  refine ⟨_, rfl, ps', ?_, ?_, r6, by omega, fun x x1 x2 => ?_, fun k => r9 (hf2.nt k)⟩
  ·rw [Nat.zero_add] at r4
   exact r4
  ·simpa [rRow] using r5
  ·rw [r8 x x1 x2, hf2.get x x1 x2]
theorem f74_loop {α : Type} {one : Nat} {f : RS → α × RS} {cs : α → List AV} {F n r lo : Nat} (ok : OneOk one f cs F n) (hcs : ∀ a, (cs a).length = 4) (mono : ∀ st, (f st).2.rest.length ≤ st.rest.length) (hrl : r < lo) :
  ∀ (m k : Nat) (s : St) (st : RS) (v : AV) (ps : List (AV × AV)), k + m < 2 ^ 30 → (st.bad = false → st.rest.length < F) → RowR s.h lo n k 4 v ps → lo ≤ s.h.next → Rd s.h r st →
  s.eval (.t 0) = some (.ptr r 0) → s.eval (.t 1) = some (.fn (.func one) [.ptr r 0] []) → s.eval (.t 5) = some v → s.eval (.t 6) = some (.val (.int .i64 (m : Nat))) → s.defers = [] →
  Run E1 f74_l0 s fun e s' => e = .exit 0 ∧ s'.defers = [] ∧ ∃ v' ps', s'.eval (.t 5) = some v' ∧ RowR s'.h lo n (k + (rList f m st).1.length) 4 v' ps' ∧ ps'.map (·.2) = ps.map (·.2) ++ (rList f m st).1.flatMap cs ∧ Rd s'.h r (rList f m st).2 ∧ s.h.next ≤ s'.h.next ∧ (NoTag s.h → NoTag s'.h) ∧ ∀ x, x < lo → x ≠ r → s'.h.get x = s.h.get x
 | 0, k, s, st, v, ps, hk, hF, hrow, hlo, hr, h0, h1, h5, h6, hd => by
  have c0 : decide ((0 : Int) < ((0 : Nat) : Int)) = false := by decide
  apply loop_of (rfl : f74_l0 = .loop f74_b0)
  simp -implicitDefEqProofs only [f74_b0, V, ↓reduceIte, reduceEqDiff, reduceAdd, reduceMul, reduceCtorEq, reduceEq, reduceLT, reduceLE, h0, h1, h5, h6, hd, c0]
  exact ⟨v, ps, rfl, hrow, by simp [rList], hr, Nat.le_refl _, by intro k; exact k, by intros; first | rfl | trivial⟩
 | m + 1, k, s, st, v, ps, hk, hF, hrow, hlo, hr, h0, h1, h5, h6, hd => by
  have c0 := dec_pos m
  have w1 := wrap_pred (m := m) (by omega)
  obtain ⟨hr1, cap, hg⟩ := hr
  cases hbad : st.bad with
  | true =>
   rw [hbad] at hg
   apply loop_of (rfl : f74_l0 = .loop f74_b0)
   simp -implicitDefEqProofs only [f74_b0, V, ↓reduceIte, reduceEqDiff, reduceAdd, reduceMul, reduceCtorEq, reduceEq, reduceLT, reduceLE, h0, h1, h5, h6, hd, c0, hg, rd_f1]
   have e : rList f (m + 1) st = ([], st) := by simp only [rList, hbad, if_true]
   rw [e]
   exact ⟨v, ps, rfl, hrow, by simp, ⟨hr1, cap, by rw [hbad]; exact hg⟩, Nat.le_refl _, by intro k; exact k, by intros; first | rfl | trivial⟩
  | false =>
   have e : rList f (m + 1) st = ((f st).1 :: (rList f m (f st).2).1, (rList f m (f st).2).2) := by simp only [rList, hbad, Bool.false_eq_true, if_false]
   have hg' := hg
   rw [hbad] at hg
   apply loop_of (rfl : f74_l0 = .loop f74_b0)
   simp -implicitDefEqProofs only [f74_b0, V, ↓reduceIte, reduceEqDiff, reduceAdd, reduceMul, reduceCtorEq, reduceEq, reduceLT, reduceLE, h0, h1, h5, h6, c0, hg, rd_f1, List.append_nil]
   refine callK_of (ok _ r st ⟨hr1, cap, hg'⟩ hbad (hF hbad)) ?_
   rintro u h2 ⟨qs, q1, q2, q3, q4, q5⟩
   have q3 : ∀ q ∈ qs, Rep h2 s.h.next h2.next n q.1 q.2 := q3
   have q5 : Fd s.h h2 r := q5
   have l2 : s.h.next ≤ h2.next := q5.le
   have hql : qs.length = 4 := by rw [← List.length_map (f := fun x : AV × AV => x.2), q2, hcs]
   have hfill : ∀ s' : St, s'.eval (.t 22) = some u → fill s' [.val (.int .i64 0), .val (.string ⟨#[]⟩), .val (.int .i64 0), .val (.slice none 0 0)] [(0, 4, .t 22)] = some (qs.map (·.1)) := fun s' hs' => fill_all hs' q1 (by rw [List.length_map]; exact hql) rfl
   simp -implicitDefEqProofs only [V, ↓reduceIte, reduceEqDiff, reduceAdd, reduceMul, reduceCtorEq, reduceEq, reduceLT, reduceLE, hfill, h5]
   have hnew : (h2.alloc (.cells (qs.map (·.1)) true)).get h2.next = some (.cells (qs.map (·.1)) true) := box_get
   have frame : ∀ x, lo ≤ x → x < s.h.next → (h2.alloc (.cells (qs.map (·.1)) true)).get x = s.h.get x := fun x x1 x2 => by rw [get_alloc_old (by omega), q5.get x x2 (by omega)]
   rw [app_rows (lo := lo) (n := n) (k := k) (c := h2.next) (h1 := s.h) (v := v) (ps := ps) (qs := qs) hrow frame hnew hql (okLen_of (by omega) (by decide)) ?_ ?_]
   ·obtain ⟨p1, p2, p3⟩ := pushR_ok (h := h2.alloc (.cells (qs.map (·.1)) true)) hrow hlo (by rw [a_next]; omega) frame hql fun q hq => rep_same (Nat.le_refl _) (by rw [a_next]; omega) (fun x x1 x2 => get_alloc_old x2) (q3 q hq)
    rw [a_next] at p1
    simp -implicitDefEqProofs only [V, ↓reduceIte, reduceEqDiff, reduceAdd, reduceMul, reduceCtorEq, reduceEq, reduceLT, reduceLE, h6, w1]
    refine (f74_loop ok hcs mono hrl m (k + 1) _ (f st).2 (.own (h2.next + 1) 0 (k + 1) 4 none) (ps ++ qs) (by omega) (fun _ => Nat.lt_of_le_of_lt (mono st) (hF hbad)) ?_ ?_ ?_ ?_ ?_ ?_ ?_ ?_).mono ?_
    ·exact p2
    ·show lo ≤ (pushR _ _ _).next
     rw [p1]; omega
    ·obtain ⟨z1, cap2, z2⟩ := q4
     refine ⟨?_, cap2, ?_⟩
     ·show r < (pushR _ _ _).next
      rw [p1]; omega
     ·show (pushR _ _ _).get r = _
      rw [p3 r hrl, get_alloc_old z1, z2]
    ·simp -implicitDefEqProofs only [V, ↓reduceIte, reduceEqDiff, reduceAdd, reduceMul, reduceCtorEq, reduceEq, reduceLT, reduceLE, h0]
    ·simp -implicitDefEqProofs only [V, ↓reduceIte, reduceEqDiff, reduceAdd, reduceMul, reduceCtorEq, reduceEq, reduceLT, reduceLE, h1]
    ·simp -implicitDefEqProofs only [V, ↓reduceIte, reduceEqDiff, reduceAdd, reduceMul, reduceCtorEq, reduceEq, reduceLT, reduceLE]
    ·simp -implicitDefEqProofs only [V, ↓reduceIte, reduceEqDiff, reduceAdd, reduceMul, reduceCtorEq, reduceEq, reduceLT, reduceLE]
    ·simp -implicitDefEqProofs only [V, ↓reduceIte, reduceEqDiff, reduceAdd, reduceMul, reduceCtorEq, reduceEq, reduceLT, reduceLE, hd]
    ·rintro e' s' ⟨r1, r2, v', ps', r3, r4, r5, r6, r7, r9, r8⟩
     have r7 : (pushR (h2.alloc (.cells (qs.map (·.1)) true)) v (qs.map (·.1))).next ≤ s'.h.next := r7
     have r8 : ∀ x, x < lo → x ≠ r → s'.h.get x = (pushR (h2.alloc (.cells (qs.map (·.1)) true)) v (qs.map (·.1))).get x := r8
     rw [e]
     refine ⟨r1, r2, v', ps', r3, ?_, ?_, r6, by omega, fun k => r9 (pushR_nt (q5.nt k).alloc), fun x x1 x2 => ?_⟩
     ·rw [List.length_cons, show k + ((rList f m (f st).2).1.length + 1) = k + 1 + (rList f m (f st).2).1.length by omega]
      exact r4
     ·rw [r5, List.map_append, q2, List.flatMap_cons, List.append_assoc]
     ·rw [r8 x x1 x2, p3 x x1, get_alloc_old (by omega), q5.get x (by omega) x2]
   ·simp -implicitDefEqProofs only [V, ↓reduceIte, reduceEqDiff, reduceAdd, reduceMul, reduceCtorEq, reduceEq, reduceLT, reduceLE]
   ·simp -implicitDefEqProofs only [V, ↓reduceIte, reduceEqDiff, reduceAdd, reduceMul, reduceCtorEq, reduceEq, reduceLT, reduceLE]
theorem list_call74 {α : Type} {one : Nat} {f : RS → α × RS} {cs : α → List AV} {F n r : Nat} (ok : OneOk one f cs F n) (hcs : ∀ a, (cs a).length = 4) (mono : ∀ st, (f st).2.rest.length ≤ st.rest.length) {h : AH} {st : RS} (hr : Rd h r st) (hl : st.rest.length < 2 ^ 29) (hF : (rCount st).2.bad = false → (rCount st).2.rest.length < F) :
  ∃ v h', RunCall E1 (.f 74) [.ptr r 0, .fn (.func one) [.ptr r 0] []] h v h' ∧ ListTo h r 4 n cs (rRow f st).1 (rRow f st).2 v h' := by
 refine shared0 _ (by kernel_rfl) f74_ok fun s hs hh hd hrd => ?_
 have h0 := hs 0 _ rfl
 have h1 := hs 1 _ rfl
 subst hh
 simp -implicitDefEqProofs only [f74_fn, f74, V, ↓reduceIte, reduceEqDiff, reduceAdd, reduceMul, reduceCtorEq, reduceEq, reduceLT, reduceLE, h0, h1]
 refine callK_of (count_call hr (by omega)) ?_
 rintro v h2 ⟨⟨rfl, hr2, hf2⟩, hn2⟩
 have hf2 : Fd s.h h2 r := hf2
 have hn2 : h2.next = s.h.next := hn2
 have hrl := hr.1
 have hc := rCount_le st
 simp -implicitDefEqProofs only [V, ↓reduceIte, reduceEqDiff, reduceAdd, reduceMul, reduceCtorEq, reduceEq, reduceLT, reduceLE]
 refine (f74_loop (lo := s.h.next) ok hcs mono hrl (rCount st).1 0 _ (rCount st).2 (.val (.slice none 0 0)) [] (by omega) hF RowR.nil ?_ ?_ ?_ ?_ ?_ ?_ ?_).mono ?_
 ·show s.h.next ≤ h2.next
  omega
 ·exact hr2
 ·simp -implicitDefEqProofs only [V, ↓reduceIte, reduceEqDiff, reduceAdd, reduceMul, reduceCtorEq, reduceEq, reduceLT, reduceLE, h0]
 ·simp -implicitDefEqProofs only [V, ↓reduceIte, reduceEqDiff, reduceAdd, reduceMul, reduceCtorEq, reduceEq, reduceLT, reduceLE, h1]
 ·simp -implicitDefEqProofs only [V, ↓reduceIte, reduceEqDiff, reduceAdd, reduceMul, reduceCtorEq, reduceEq, reduceLT, reduceLE]
 ·simp -implicitDefEqProofs only [V, ↓reduceIte, reduceEqDiff, reduceAdd, reduceMul, reduceCtorEq, reduceEq, reduceLT, reduceLE]
 ·simp -implicitDefEqProofs only [V, ↓reduceIte, reduceEqDiff, reduceAdd, reduceMul, reduceCtorEq, reduceEq, reduceLT, reduceLE, hd]
 ·rintro e s' ⟨rfl, rd, v', ps', r3, r4, r5, r6, r7, r9, r8⟩
  have hbeq : Nat.beq 0 0 = true := rfl
  have r7 : h2.next ≤ s'.h.next := r7
  have r8 : ∀ x, x < s.h.next → x ≠ r → s'.h.get x = h2.get x := r8
  simp -implicitDefEqProofs only [V, ↓reduceIte, reduceEqDiff, reduceAdd, reduceMul, reduceCtorEq, reduceEq, reduceLT, reduceLE, hbeq, rd, r3]
  refine ⟨_, rfl, ps', ?_, ?_, r6, by omega, fun x x1 x2 => ?_, fun k => r9 (hf2.nt k)⟩
  ·rw [Nat.zero_add] at r4
   exact r4
  ·simpa [rRow] using r5
  ·rw [r8 x x1 x2, hf2.get x x1 x2]
theorem f75_loop {α : Type} {one : Nat} {f : RS → α × RS} {cs : α → List AV} {F n r lo : Nat} (ok : OneOk one f cs F n) (hcs : ∀ a, (cs a).length = 1) (mono : ∀ st, (f st).2.rest.length ≤ st.rest.length) (hrl : r < lo) :
  ∀ (m k : Nat) (s : St) (st : RS) (v : AV) (ps : List (AV × AV)), k + m < 2 ^ 30 → (st.bad = false → st.rest.length < F) → RowR s.h lo n k 1 v ps → lo ≤ s.h.next → Rd s.h r st →
  s.eval (.t 0) = some (.ptr r 0) → s.eval (.t 1) = some (.fn (.func one) [.ptr r 0] []) → s.eval (.t 5) = some v → s.eval (.t 6) = some (.val (.int .i64 (m : Nat))) → s.defers = [] →
  Run E1 f75_l0 s fun e s' => e = .exit 0 ∧ s'.defers = [] ∧ ∃ v' ps', s'.eval (.t 5) = some v' ∧ RowR s'.h lo n (k + (rList f m st).1.length) 1 v' ps' ∧ ps'.map (·.2) = ps.map (·.2) ++ (rList f m st).1.flatMap cs ∧ Rd s'.h r (rList f m st).2 ∧ s.h.next ≤ s'.h.next ∧ (NoTag s.h → NoTag s'.h) ∧ ∀ x, x < lo → x ≠ r → s'.h.get x = s.h.get x
 | 0, k, s, st, v, ps, hk, hF, hrow, hlo, hr, h0, h1, h5, h6, hd => by
  have c0 : decide ((0 : Int) < ((0 : Nat) : Int)) = false := by decide
  apply loop_of (rfl : f75_l0 = .loop f75_b0)
  simp -implicitDefEqProofs only [f75_b0, V, ↓reduceIte, reduceEqDiff, reduceAdd, reduceMul, reduceCtorEq, reduceEq, reduceLT, reduceLE, h0, h1, h5, h6, hd, c0]
  exact ⟨v, ps, rfl, hrow, by simp [rList], hr, Nat.le_refl _, by intro k; exact k, by intros; first | rfl | trivial⟩
 | m + 1, k, s, st, v, ps, hk, hF, hrow, hlo, hr, h0, h1, h5, h6, hd => by
  have c0 := dec_pos m
  have w1 := wrap_pred (m := m) (by omega)
  obtain ⟨hr1, cap, hg⟩ := hr
  cases hbad : st.bad with
  | true =>
   rw [hbad] at hg
   apply loop_of (rfl : f75_l0 = .loop f75_b0)
   simp -implicitDefEqProofs only [f75_b0, V, ↓reduceIte, reduceEqDiff, reduceAdd, reduceMul, reduceCtorEq, reduceEq, reduceLT, reduceLE, h0, h1, h5, h6, hd, c0, hg, rd_f1]
   have e : rList f (m + 1) st = ([], st) := by simp only [rList, hbad, if_true]
   rw [e]
   exact ⟨v, ps, rfl, hrow, by simp, ⟨hr1, cap, by rw [hbad]; exact hg⟩, Nat.le_refl _, by intro k; exact k, by intros; first | rfl | trivial⟩
  | false =>
   have e : rList f (m + 1) st = ((f st).1 :: (rList f m (f st).2).1, (rList f m (f st).2).2) := by simp only [rList, hbad, Bool.false_eq_true, if_false]
   have hg' := hg
   rw [hbad] at hg
   apply loop_of (rfl : f75_l0 = .loop f75_b0)
   simp -implicitDefEqProofs only [f75_b0, V, ↓reduceIte, reduceEqDiff, reduceAdd, reduceMul, reduceCtorEq, reduceEq, reduceLT, reduceLE, h0, h1, h5, h6, c0, hg, rd_f1, List.append_nil]
   refine callK_of (ok _ r st ⟨hr1, cap, hg'⟩ hbad (hF hbad)) ?_
   rintro u h2 ⟨qs, q1, q2, q3, q4, q5⟩
   have q3 : ∀ q ∈ qs, Rep h2 s.h.next h2.next n q.1 q.2 := q3
   have q5 : Fd s.h h2 r := q5
   have l2 : s.h.next ≤ h2.next := q5.le
   have hql : qs.length = 1 := by rw [← List.length_map (f := fun x : AV × AV => x.2), q2, hcs]
   have hfill : ∀ s' : St, s'.eval (.t 22) = some u → fill s' [.val (.int .i64 0)] [(0, 1, .t 22)] = some (qs.map (·.1)) := fun s' hs' => fill_all hs' q1 (by rw [List.length_map]; exact hql) rfl
   simp -implicitDefEqProofs only [V, ↓reduceIte, reduceEqDiff, reduceAdd, reduceMul, reduceCtorEq, reduceEq, reduceLT, reduceLE, hfill, h5]
   have hnew : (h2.alloc (.cells (qs.map (·.1)) true)).get h2.next = some (.cells (qs.map (·.1)) true) := box_get
   have frame : ∀ x, lo ≤ x → x < s.h.next → (h2.alloc (.cells (qs.map (·.1)) true)).get x = s.h.get x := fun x x1 x2 => by rw [get_alloc_old (by omega), q5.get x x2 (by omega)]
   rw [app_rows (lo := lo) (n := n) (k := k) (c := h2.next) (h1 := s.h) (v := v) (ps := ps) (qs := qs) hrow frame hnew hql (okLen_of (by omega) (by decide)) ?_ ?_]
   ·obtain ⟨p1, p2, p3⟩ := pushR_ok (h := h2.alloc (.cells (qs.map (·.1)) true)) hrow hlo (by rw [a_next]; omega) frame hql fun q hq => rep_same (Nat.le_refl _) (by rw [a_next]; omega) (fun x x1 x2 => get_alloc_old x2) (q3 q hq)
    rw [a_next] at p1
    simp -implicitDefEqProofs only [V, ↓reduceIte, reduceEqDiff, reduceAdd, reduceMul, reduceCtorEq, reduceEq, reduceLT, reduceLE, h6, w1]
    refine (f75_loop ok hcs mono hrl m (k + 1) _ (f st).2 (.own (h2.next + 1) 0 (k + 1) 1 none) (ps ++ qs) (by omega) (fun _ => Nat.lt_of_le_of_lt (mono st) (hF hbad)) ?_ ?_ ?_ ?_ ?_ ?_ ?_ ?_).mono ?_
    ·exact p2
    ·show lo ≤ (pushR _ _ _).next
     rw [p1]; omega
    ·obtain ⟨z1, cap2, z2⟩ := q4
     refine ⟨?_, cap2, ?_⟩
     ·show r < (pushR _ _ _).next
      rw [p1]; omega
     ·show (pushR _ _ _).get r = _
      rw [p3 r hrl, get_alloc_old z1, z2]
    ·simp -implicitDefEqProofs only [V, ↓reduceIte, reduceEqDiff, reduceAdd, reduceMul, reduceCtorEq, reduceEq, reduceLT, reduceLE, h0]
    ·simp -implicitDefEqProofs only [V, ↓reduceIte, reduceEqDiff, reduceAdd, reduceMul, reduceCtorEq, reduceEq, reduceLT, reduceLE, h1]
    ·simp -implicitDefEqProofs only [V, ↓reduceIte, reduceEqDiff, reduceAdd, reduceMul, reduceCtorEq, reduceEq, reduceLT, reduceLE]
    ·simp -implicitDefEqProofs only [V, ↓reduceIte, reduceEqDiff, reduceAdd, reduceMul, reduceCtorEq, reduceEq, reduceLT, reduceLE]
    ·simp -implicitDefEqProofs only [V, ↓reduceIte, reduceEqDiff, reduceAdd, reduceMul, reduceCtorEq, reduceEq, reduceLT, reduceLE, hd]
    ·rintro e' s' ⟨r1, r2, v', ps', r3, r4, r5, r6, r7, r9, r8⟩
     have r7 : (pushR (h2.alloc (.cells (qs.map (·.1)) true)) v (qs.map (·.1))).next ≤ s'.h.next := r7
     have r8 : ∀ x, x < lo → x ≠ r → s'.h.get x = (pushR (h2.alloc (.cells (qs.map (·.1)) true)) v (qs.map (·.1))).get x := r8
     rw [e]
     refine ⟨r1, r2, v', ps', r3, ?_, ?_, r6, by omega, fun k => r9 (pushR_nt (q5.nt k).alloc), fun x x1 x2 => ?_⟩
     ·rw [List.length_cons, show k + ((rList f m (f st).2).1.length + 1) = k + 1 + (rList f m (f st).2).1.length by omega]
      exact r4
     ·rw [r5, List.map_append, q2, List.flatMap_cons, List.append_assoc]
     ·rw [r8 x x1 x2, p3 x x1, get_alloc_old (by omega), q5.get x (by omega) x2]
   ·simp -implicitDefEqProofs only [V, ↓reduceIte, reduceEqDiff, reduceAdd, reduceMul, reduceCtorEq, reduceEq, reduceLT, reduceLE]
   ·simp -implicitDefEqProofs only [V, ↓reduceIte, reduceEqDiff, reduceAdd, reduceMul, reduceCtorEq, reduceEq, reduceLT, reduceLE]
theorem list_call75 {α : Type} {one : Nat} {f : RS → α × RS} {cs : α → List AV} {F n r : Nat} (ok : OneOk one f cs F n) (hcs : ∀ a, (cs a).length = 1) (mono : ∀ st, (f st).2.rest.length ≤ st.rest.length) {h : AH} {st : RS} (hr : Rd h r st) (hl : st.rest.length < 2 ^ 29) (hF : (rCount st).2.bad = false → (rCount st).2.rest.length < F) :
  ∃ v h', RunCall E1 (.f 75) [.ptr r 0, .fn (.func one) [.ptr r 0] []] h v h' ∧ ListTo h r 1 n cs (rRow f st).1 (rRow f st).2 v h' := by
 refine shared0 _ (by kernel_rfl) f75_ok fun s hs hh hd hrd => ?_
 have h0 := hs 0 _ rfl
 have h1 := hs 1 _ rfl
 subst hh
 simp -implicitDefEqProofs only [f75_fn, f75, V, ↓reduceIte, reduceEqDiff, reduceAdd, reduceMul, reduceCtorEq, reduceEq, reduceLT, reduceLE, h0, h1]
 refine callK_of (count_call hr (by omega)) ?_
 rintro v h2 ⟨⟨rfl, hr2, hf2⟩, hn2⟩
 have hf2 : Fd s.h h2 r := hf2
 have hn2 : h2.next = s.h.next := hn2
 have hrl := hr.1
 have hc := rCount_le st
 simp -implicitDefEqProofs only [V, ↓reduceIte, reduceEqDiff, reduceAdd, reduceMul, reduceCtorEq, reduceEq, reduceLT, reduceLE]
 refine (f75_loop (lo := s.h.next) ok hcs mono hrl (rCount st).1 0 _ (rCount st).2 (.val (.slice none 0 0)) [] (by omega) hF RowR.nil ?_ ?_ ?_ ?_ ?_ ?_ ?_).mono ?_
 ·show s.h.next ≤ h2.next
  omega
 ·exact hr2
 ·simp -implicitDefEqProofs only [V, ↓reduceIte, reduceEqDiff, reduceAdd, reduceMul, reduceCtorEq, reduceEq, reduceLT, reduceLE, h0]
 ·simp -implicitDefEqProofs only [V, ↓reduceIte, reduceEqDiff, reduceAdd, reduceMul, reduceCtorEq, reduceEq, reduceLT, reduceLE, h1]
 ·simp -implicitDefEqProofs only [V, ↓reduceIte, reduceEqDiff, reduceAdd, reduceMul, reduceCtorEq, reduceEq, reduceLT, reduceLE]
 ·simp -implicitDefEqProofs only [V, ↓reduceIte, reduceEqDiff, reduceAdd, reduceMul, reduceCtorEq, reduceEq, reduceLT, reduceLE]
 ·simp -implicitDefEqProofs only [V, ↓reduceIte, reduceEqDiff, reduceAdd, reduceMul, reduceCtorEq, reduceEq, reduceLT, reduceLE, hd]
 ·rintro e s' ⟨rfl, rd, v', ps', r3, r4, r5, r6, r7, r9, r8⟩
  have hbeq : Nat.beq 0 0 = true := rfl
  have r7 : h2.next ≤ s'.h.next := r7
  have r8 : ∀ x, x < s.h.next → x ≠ r → s'.h.get x = h2.get x := r8
  simp -implicitDefEqProofs only [V, ↓reduceIte, reduceEqDiff, reduceAdd, reduceMul, reduceCtorEq, reduceEq, reduceLT, reduceLE, hbeq, rd, r3]
  refine ⟨_, rfl, ps', ?_, ?_, r6, by omega, fun x x1 x2 => ?_, fun k => r9 (hf2.nt k)⟩
  ·rw [Nat.zero_add] at r4
   exact r4
  ·simpa [rRow] using r5
  ·rw [r8 x x1 x2, hf2.get x x1 x2]
end Go.Proofs.YtijpnlmmaoecgaaGreatDoor
