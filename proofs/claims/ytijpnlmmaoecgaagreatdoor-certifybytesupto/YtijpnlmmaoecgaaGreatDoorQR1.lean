/- A part of the proofs about certificates: YWr YWt YWp YEnc. -/
import Derived.Test.YtijpnlmmaoecgaaGreatDoorQW1
import Derived.Test.YtijpnlmmaoecgaaGreatDoorQP1
import Derived.Test.YtijpnlmmaoecgaaGreatDoorQC1

set_option linter.all false
open Nat (reduceEqDiff reduceAdd reduceMul)
open Int (reduceEq reduceLT reduceLE)

namespace Go.Proofs.YtijpnlmmaoecgaaGreatDoor
open Go Go.AM
structure Wr (h : AH) (w b : Nat) (bs : List UInt8) : Prop where
 nt : NoTag h
 wl : w < h.next
 bl : b < h.next
 ne : b ≠ w
 cw : ∃ cap, (cap = none ∨ cap = some bs.length) ∧ h.get w = some (.cells [.own b 0 bs.length 1 cap] true)
 cb : h.get b = some (.cells (bytesA bs) true)
structure Fr (h h' : AH) (w b : Nat) : Prop where
 le : h.next ≤ h'.next
 get : ∀ x, x < h.next → x ≠ w → x ≠ b → h'.get x = h.get x
def Nx (h : AH) (b b' : Nat) : Prop := b' = b ∨ h.next ≤ b'
theorem Fr.refl (h : AH) (w b : Nat) : Fr h h w b := ⟨Nat.le_refl _, fun _ _ _ _ => rfl⟩
theorem Fr.trans {h h1 h2 : AH} {w b b1 : Nat} (a : Fr h h1 w b) (n : Nx h b b1) (c : Fr h1 h2 w b1) : Fr h h2 w b :=
 ⟨Nat.le_trans a.le c.le, fun x hx hw hb => by
  rw [c.get x (Nat.lt_of_lt_of_le hx a.le) hw (by rcases n with rfl | n <;> omega), a.get x hx hw hb]⟩
theorem Nx.trans {h h1 : AH} {b b1 b2 : Nat} (a : Nx h b b1) (l : h.next ≤ h1.next) (c : Nx h1 b1 b2) : Nx h b b2 := by
 unfold Nx at *
 omega
theorem get_alloc_old {h : AH} {x : Blk} {y : Nat} (hy : y < h.next) : (h.alloc x).get y = h.get y := by rw [AH.get_alloc, if_neg (by omega)]
theorem get_put_old {h : AH} {x : Option Blk} {y c : Nat} (hy : y ≠ c) : (h.put c x).get y = h.get y := by rw [AH.get_put, if_neg hy]
theorem Wr.alloc {h : AH} {w b : Nat} {bs : List UInt8} {cs : List AV} (k : Wr h w b bs) : Wr (h.alloc (.cells cs true)) w b bs := by
 obtain ⟨cap, h1, h2⟩ := k.cw
 have := k.wl
 have := k.bl
 refine ⟨k.nt.alloc, by rw [a_next]; omega, by rw [a_next]; omega, k.ne, ⟨cap, h1, ?_⟩, ?_⟩
 ·rw [get_alloc_old k.wl, h2]
 ·rw [get_alloc_old k.bl, k.cb]
theorem Fr.alloc {h : AH} {w b : Nat} {x : Blk} : Fr h (h.alloc x) w b := ⟨by rw [a_next]; omega, fun y hy _ _ => get_alloc_old hy⟩
theorem Wr.put {h : AH} {w b c : Nat} {bs : List UInt8} {cs : List AV} (k : Wr h w b bs) (h1 : c ≠ w) (h2 : c ≠ b) : Wr (h.put c (some (.cells cs true))) w b bs := by
 obtain ⟨cap, e1, e2⟩ := k.cw
 refine ⟨k.nt.put, k.wl, k.bl, k.ne, ⟨cap, e1, ?_⟩, ?_⟩
 ·rw [get_put_old (fun e => h1 e.symm), e2]
 ·rw [get_put_old (fun e => h2 e.symm), k.cb]
def wrH (h : AH) (w b : Nat) (cap : Option Nat) (l : List UInt8) : AH := (appH h b cap (bytesA l)).put w (some (.cells [.own h.next 0 l.length 1 none] true))
theorem wr_app {h : AH} {w b : Nat} {bs : List UInt8} {cap : Option Nat} (k : Wr h w b bs) (l : List UInt8) : Wr (wrH h w b cap l) w h.next l := by
 have h1 := k.wl
 have h2 := k.bl
 have e : (wrH h w b cap l).next = h.next + 1 := appH_next
 refine ⟨k.nt.app.put, by rw [e]; omega, by rw [e]; omega, by omega, ⟨none, .inl rfl, ?_⟩, ?_⟩
 ·simp only [wrH, AH.get_put, if_true]
 ·rw [wrH, get_put_old (by omega), appH_new]
theorem wr_frame {h : AH} {w b : Nat} {bs : List UInt8} {cap : Option Nat} (k : Wr h w b bs) (l : List UInt8) : Fr h (wrH h w b cap l) w b := by
 have e : (wrH h w b cap l).next = h.next + 1 := appH_next
 refine ⟨by rw [e]; omega, fun x hx hw hb => ?_⟩
 rw [wrH, get_put_old hw, appH_get (by omega) hb]
theorem wr_store {h : AH} {w b n : Nat} {bs : List UInt8} {cap cap' : Option Nat} (k : Wr h w b bs) (hc : h.get w = some (.cells [.own b 0 n 1 cap'] true)) (l : List UInt8) :
  storeH (appH h b cap (bytesA l)) 1 (.ptr w 0) [.own h.next 0 l.length 1 none] = some (wrH h w b cap l) := by
 have h1 := k.wl
 have hg : (appH h b cap (bytesA l)).get w = some (.cells [.own b 0 n 1 cap'] true) := by
  rw [appH_get (by omega) (fun e => k.ne e.symm), hc]
 simp only [storeH, hg]
 rfl
theorem elems_row {h : AH} {b n : Nat} {cap : Option Nat} {cs : List AV} (hg : h.get b = some (.cells cs true)) (hl : cs.length = n) : elemsOf h 1 (.own b 0 n 1 cap) = some (cs, n) := by
 have h1 : Nat.beq 1 1 = true := rfl
 have h2 : Nat.ble (0 + n * 1) cs.length = true := Nat.ble_eq.mpr (by omega)
 simp only [elemsOf, h1, cond_true, hg, h2, List.drop_zero]
 rw [List.take_of_length_le (by omega)]
theorem fill_1 {s : St} {x : Opd} {z v : Value} (hx : s.eval x = some (.val v)) : fill s [.val z] [(0, 1, x)] = some [.val v] := by
 rw [fill_one, hx, fillO_val]
theorem numP_ge {f u : Nat} (h : ¬ u < 128) : numP (f + 1) u = UInt8.ofNat (u % 128 + 128) :: numP f (u / 128) := by rw [numP, if_neg h]
theorem numL_ge {f u : Nat} (h : ¬ u < 128) : numL (f + 1) u = numL f (u / 128) := by rw [numL, if_neg h]
theorem numP_lt {f u : Nat} (h : u < 128) : numP f u = [] := by
 cases f with
 | zero => rfl
 | succ f => rw [numP, if_pos h]
theorem numL_lt {f u : Nat} (h : u < 128) : numL f u = u := by
 cases f with
 | zero => rfl
 | succ f => rw [numL, if_pos h]
theorem numP_len : ∀ f u, (numP f u).length ≤ f
 | 0, u => by rw [numP]; exact Nat.le_refl _
 | f + 1, u => by
  rw [numP]
  split
  ·exact Nat.zero_le _
  ·have := numP_len f (u / 128)
   rw [List.length_cons]; omega
theorem numL_small : ∀ f u, u < 128 ^ (f + 1) → numL f u < 128
 | 0, u, h => by rw [numL]; simpa using h
 | f + 1, u, h => by
  rw [numL]
  split
  ·assumption
  ·exact numL_small f _ (Nat.div_lt_of_lt_mul (by rw [Nat.pow_succ] at h; omega))
theorem byte_of {n : Nat} (h : n < 256) : [AV.val (.int .u8 ((n : Nat) : Int))] = bytesA [UInt8.ofNat n] := by
 have : (UInt8.ofNat n).toNat = n := by simp; omega
 simp only [bytesA, List.flatMap_cons, List.flatMap_nil, List.append_nil, this]
theorem number_loop (w : Nat) (f u : Nat) : ∀ (s : St) (b : Nat) (bs : List UInt8), Wr s.h w b bs → u < 2 ^ 64 → u < 128 ^ (f + 1) → bs.length + (numP f u).length ≤ 2 ^ 40 →
  s.eval (.t 0) = some (.ptr w 0) → s.eval (.t 4) = some (.val (.int .u64 (u : Nat))) → s.defers = [] →
  Run E1 f34_l0 s fun e s' => e = .exit 0 ∧ s'.eval (.t 0) = some (.ptr w 0) ∧ s'.eval (.t 4) = some (.val (.int .u64 (numL f u : Nat))) ∧ s'.defers = [] ∧
   ∃ b', Wr s'.h w b' (bs ++ numP f u) ∧ Fr s.h s'.h w b ∧ Nx s.h b b' := by
 induction f generalizing u with
 | zero =>
  intro s b bs hw hu hf hl h0 h4 hd
  have h128 : u < 128 := by simpa using hf
  have c1 : decide ((128 : Int) ≤ (u : Int)) = false := by simp; omega
  apply loop_of (rfl : f34_l0 = .loop f34_b0)
  simp -implicitDefEqProofs only [f34_b0, V, ↓reduceIte, reduceEqDiff, reduceAdd, reduceMul, reduceCtorEq, reduceEq, reduceLT, reduceLE, h0, h4, hd, c1, numP_lt h128, numL_lt h128, List.append_nil]
  exact ⟨b, hw, Fr.refl _ _ _, .inl rfl⟩
 | succ f ih =>
  intro s b bs hw hu hf hl h0 h4 hd
  by_cases h128 : u < 128
  ·have c1 : decide ((128 : Int) ≤ (u : Int)) = false := by simp; omega
   apply loop_of (rfl : f34_l0 = .loop f34_b0)
   simp -implicitDefEqProofs only [f34_b0, V, ↓reduceIte, reduceEqDiff, reduceAdd, reduceMul, reduceCtorEq, reduceEq, reduceLT, reduceLE, h0, h4, hd, c1, numP_lt h128, numL_lt h128, List.append_nil]
   exact ⟨b, hw, Fr.refl _ _ _, .inl rfl⟩
  ·have c1 : decide ((128 : Int) ≤ (u : Int)) = true := by simp; omega
   obtain ⟨cap, hc1, hc2⟩ := hw.cw
   have a1 := and_127 (P := E1.P) (t := 141) (g := true) hu
   have a2 : IntKind.u8.wrap ((u % 128 : Nat) : Int) = ((u % 128 : Nat) : Int) := wrap_u8 (by omega)
   have a3 := or_128 (P := E1.P) (t := 5) (g := true) (u := u % 128) (by omega)
   have a4 := fun k' => shr_7 (P := E1.P) (t := 141) (g := true) (u := u) (k' := k')
   have hfill : ∀ s' : St, s'.eval (.t 22) = some (.val (.int .u8 ((u % 128 + 128 : Nat) : Int))) → fill s' [.val (.int .u8 0)] [(0, 1, .t 22)] = some (bytesA [UInt8.ofNat (u % 128 + 128)]) := fun s' h => by
    rw [fill_1 h, byte_of (by omega)]
   rw [numP_ge h128, List.length_cons] at hl
   have hw1 := hw.alloc (cs := bytesA [UInt8.ofNat (u % 128 + 128)])
   have hst := wr_store (cap := cap) hw1 (by rw [get_alloc_old hw.wl, hc2]) (bs ++ [UInt8.ofNat (u % 128 + 128)])
   rw [a_next] at hst
   apply loop_of (rfl : f34_l0 = .loop f34_b0)
   simp -implicitDefEqProofs only [f34_b0, V, ↓reduceIte, reduceEqDiff, reduceAdd, reduceMul, reduceCtorEq, reduceEq, reduceLT, reduceLE, h0, h4, hd, c1, hc2, a1, a2, a3, hfill]
   refine app_bytes' (b := b) (cap := cap) (x := .own s.h.next 0 1 1 (some 1)) (l := bs) (new := [UInt8.ofNat (u % 128 + 128)]) (List.cons_ne_nil _ _) hc1 hw1.nt hw1.cb (by simp only [List.length_cons, List.length_nil]; omega)
    (elems_row (h := s.h.alloc _) (by rw [AH.get_alloc, if_pos rfl]) rfl) ?_ ?_ ?_
   ·simp -implicitDefEqProofs only [V, ↓reduceIte, reduceEqDiff, reduceAdd, reduceMul, reduceCtorEq, reduceEq, reduceLT, reduceLE]
   ·simp -implicitDefEqProofs only [V, ↓reduceIte, reduceEqDiff, reduceAdd, reduceMul, reduceCtorEq, reduceEq, reduceLT, reduceLE]
   ·simp -implicitDefEqProofs only [V, ↓reduceIte, reduceEqDiff, reduceAdd, reduceMul, reduceCtorEq, reduceEq, reduceLT, reduceLE, h0, h4, hst, a4]
    rw [numL_ge h128, numP_ge h128]
    have hw2 := wr_app (cap := cap) hw1 (bs ++ [UInt8.ofNat (u % 128 + 128)])
    have hf2 := wr_frame (cap := cap) hw1 (bs ++ [UInt8.ofNat (u % 128 + 128)])
    have hn2 : Nx s.h b (s.h.alloc (.cells (bytesA [UInt8.ofNat (u % 128 + 128)]) true)).next := .inr (by rw [a_next]; omega)
    refine (ih (u / 128) _ (s.h.alloc (.cells (bytesA [UInt8.ofNat (u % 128 + 128)]) true)).next (bs ++ [UInt8.ofNat (u % 128 + 128)]) ?_ (by omega) (Nat.div_lt_of_lt_mul (by rw [Nat.pow_succ] at hf; omega)) (by rw [List.length_append, List.length_cons, List.length_nil]; omega) ?_ ?_ ?_).mono ?_
    ·exact hw2
    ·simp -implicitDefEqProofs only [V, ↓reduceIte, reduceEqDiff, reduceAdd, reduceMul, reduceCtorEq, reduceEq, reduceLT, reduceLE, h0]
    ·simp -implicitDefEqProofs only [V, ↓reduceIte, reduceEqDiff, reduceAdd, reduceMul, reduceCtorEq, reduceEq, reduceLT, reduceLE]
    ·simp -implicitDefEqProofs only [V, ↓reduceIte, reduceEqDiff, reduceAdd, reduceMul, reduceCtorEq, reduceEq, reduceLT, reduceLE, hd]
    ·rintro e s' ⟨r1, r2, r3, r4, b', r5, r6, r7⟩
     refine ⟨r1, r2, r3, r4, b', ?_, ?_, ?_⟩
     ·rw [List.append_assoc] at r5
      exact r5
     ·exact ((Fr.alloc (b := b) (w := w)).trans (.inl rfl) hf2).trans hn2 r6
     ·have l1 := hf2.le
      unfold Nx at *
      rw [a_next] at *
      have r8 : b' = s.h.next + 1 ∨ (wrH (s.h.alloc (.cells (bytesA [UInt8.ofNat (u % 128 + 128)]) true)) w b cap (bs ++ [UInt8.ofNat (u % 128 + 128)])).next ≤ b' := r7
      omega
def WrTo (h : AH) (w b : Nat) (bs new : List UInt8) (v : AV) (h' : AH) : Prop := v = .tup [] ∧ ∃ b', Wr h' w b' (bs ++ new) ∧ Fr h h' w b ∧ h.next ≤ b'
theorem encU_len (u : Nat) : (encU u).length = (numP 9 u).length + 1 := by simp only [encU, List.length_append, List.length_cons, List.length_nil]
theorem conv_byte {u : Nat} (h : u < 128) : IntKind.u8.wrap (u : Int) = ((u : Nat) : Int) := wrap_u8 (by omega)
theorem number_call {h : AH} {w b : Nat} {bs : List UInt8} {n : Int} (hw : Wr h w b bs) (hn : in64 n) (hl : bs.length + (encNum n).length ≤ 2 ^ 40) :
  ∃ v h', RunCall E1 (.f 34) [.ptr w 0, .val (.int .i64 n)] h v h' ∧ WrTo h w b bs (encNum n) v h' := by
 refine shared0 _ (by kernel_rfl) f34_ok fun s hs hh hd hr => ?_
 have h0 := hs 0 _ rfl
 have h1 := hs 1 _ rfl
 subst hh
 have z1 := fun k' : IntKind => v_shl (P := E1.P) (t := 141) (g := true) (k := .u64) (k' := k') (a := IntKind.u64.wrap n) (n := 1) (by decide)
 have z2 := fun k' : IntKind => v_shr (P := E1.P) (t := 3) (g := true) (k := .i64) (k' := k') (a := n) (n := 63) (by decide)
 have e1 : ((1 : Nat) : Int) = 1 := rfl
 have e63 : ((63 : Nat) : Int) = 63 := rfl
 rw [e1] at z1
 rw [e63] at z2
 have z3 := zz_code hn
 have hz := zz_lt hn
 rw [encNum, encU_len] at hl
 simp -implicitDefEqProofs only [f34_fn, f34, V, ↓reduceIte, reduceEqDiff, reduceAdd, reduceMul, reduceCtorEq, reduceEq, reduceLT, reduceLE, h0, h1, z1, z2, v_xor, z3]
 refine (number_loop w 9 (zz n) _ b bs ?_ hz (Nat.lt_of_lt_of_le hz (by decide)) (by omega) ?_ ?_ ?_).mono ?_
 ·exact hw
 ·simp -implicitDefEqProofs only [V, ↓reduceIte, reduceEqDiff, reduceAdd, reduceMul, reduceCtorEq, reduceEq, reduceLT, reduceLE, h0]
 ·simp -implicitDefEqProofs only [V, ↓reduceIte, reduceEqDiff, reduceAdd, reduceMul, reduceCtorEq, reduceEq, reduceLT, reduceLE]
 ·simp -implicitDefEqProofs only [V, ↓reduceIte, reduceEqDiff, reduceAdd, reduceMul, reduceCtorEq, reduceEq, reduceLT, reduceLE, hd]
 ·rintro e s' ⟨rfl, r0, r4, rd, b', hw', hf', hx'⟩
  have hsm : numL 9 (zz n) < 128 := numL_small 9 _ (Nat.lt_of_lt_of_le hz (by decide))
  obtain ⟨cap, hc1, hc2⟩ := hw'.cw
  have a2 := conv_byte hsm
  have hfill : ∀ s' : St, s'.eval (.t 35) = some (.val (.int .u8 ((numL 9 (zz n) : Nat) : Int))) → fill s' [.val (.int .u8 0)] [(0, 1, .t 35)] = some (bytesA [UInt8.ofNat (numL 9 (zz n))]) := fun s' h => by
   rw [fill_1 h, byte_of (by omega)]
  have hw1 := hw'.alloc (cs := bytesA [UInt8.ofNat (numL 9 (zz n))])
  have hst := wr_store (cap := cap) hw1 (by rw [get_alloc_old hw'.wl, hc2]) (bs ++ numP 9 (zz n) ++ [UInt8.ofNat (numL 9 (zz n))])
  rw [a_next] at hst
  have hbeq : Nat.beq 0 0 = true := rfl
  simp -implicitDefEqProofs only [V, ↓reduceIte, reduceEqDiff, reduceAdd, reduceMul, reduceCtorEq, reduceEq, reduceLT, reduceLE, hbeq, r0, r4, rd, hc2, a2, hfill]
  refine app_bytes' (b := b') (cap := cap) (x := .own s'.h.next 0 1 1 (some 1)) (l := bs ++ numP 9 (zz n)) (new := [UInt8.ofNat (numL 9 (zz n))]) (List.cons_ne_nil _ _) hc1 hw1.nt hw1.cb (by simp only [List.length_append, List.length_cons, List.length_nil]; omega)
   (elems_row (h := s'.h.alloc _) (by rw [AH.get_alloc, if_pos rfl]) rfl) ?_ ?_ ?_
  ·simp -implicitDefEqProofs only [V, ↓reduceIte, reduceEqDiff, reduceAdd, reduceMul, reduceCtorEq, reduceEq, reduceLT, reduceLE]
  ·simp -implicitDefEqProofs only [V, ↓reduceIte, reduceEqDiff, reduceAdd, reduceMul, reduceCtorEq, reduceEq, reduceLT, reduceLE]
  ·have hw2 := wr_app (cap := cap) hw1 (bs ++ numP 9 (zz n) ++ [UInt8.ofNat (numL 9 (zz n))])
   have hf2 := wr_frame (cap := cap) hw1 (bs ++ numP 9 (zz n) ++ [UInt8.ofNat (numL 9 (zz n))])
   simp -implicitDefEqProofs only [V, ↓reduceIte, reduceEqDiff, reduceAdd, reduceMul, reduceCtorEq, reduceEq, reduceLT, reduceLE, r0, rd, hst]
   refine ⟨[], rfl, rfl, s'.h.next + 1, by rw [encNum, encU, ← List.append_assoc]; exact hw2, ?_, ?_⟩
   ·exact hf'.trans hx' ((Fr.alloc (b := b') (w := w)).trans (.inl rfl) hf2)
   ·have l1 : s.h.next ≤ s'.h.next := hf'.le
    omega
end Go.Proofs.YtijpnlmmaoecgaaGreatDoor

namespace Go.Proofs.YtijpnlmmaoecgaaGreatDoor
open Go Go.AM
theorem wrap_in {n : Nat} (h : n < 2 ^ 62) : IntKind.i64.wrap (n : Int) = n := by
 simp [IntKind.wrap, IntKind.bits, IntKind.signed]
 omega
theorem wrap_succ {i : Nat} (h : i < 2 ^ 61) : IntKind.i64.wrap ((i : Int) + 1) = ((i + 1 : Nat) : Int) := wrap_in (n := i + 1) (by omega)
theorem elems_str {h : AH} {s : ByteArray} : elemsOf h 1 (.val (.string s)) = some (bytesA s.data.toList, s.data.toList.length) := by
 have h1 : Nat.beq 1 1 = true := rfl
 simp only [elemsOf, h1, cond_true]
 rw [← bytesA_map]
 rfl
theorem Wr.same {h : AH} {w b : Nat} {bs : List UInt8} {cap : Option Nat} (k : Wr h w b bs) (hc : h.get w = some (.cells [.own b 0 bs.length 1 cap] true)) : storeH h 1 (.ptr w 0) [.own b 0 bs.length 1 cap] = some (h.put w (some (.cells [.own b 0 bs.length 1 cap] true))) ∧ Wr (h.put w (some (.cells [.own b 0 bs.length 1 cap] true))) w b bs ∧ Fr h (h.put w (some (.cells [.own b 0 bs.length 1 cap] true))) w b := by
 obtain ⟨cap', e1, e2⟩ := k.cw
 rw [hc] at e2
 simp only [Option.some.injEq, Blk.cells.injEq, List.cons.injEq, AV.own.injEq, and_true, true_and] at e2
 subst e2
 refine ⟨?_, ⟨k.nt.put, k.wl, k.bl, k.ne, ⟨cap, e1, ?_⟩, ?_⟩, ⟨Nat.le_refl _, fun x hx hw hb => get_put_old hw⟩⟩
 ·simp only [storeH, hc]
  rfl
 ·rw [AH.get_put, if_pos rfl]
 ·rw [get_put_old k.ne, k.cb]
theorem text_call {h : AH} {w b : Nat} {bs : List UInt8} {t : ByteArray} (hw : Wr h w b bs) (hl : bs.length + (encText t).length ≤ 2 ^ 40) :
  ∃ v h', RunCall E1 (.f 33) [.ptr w 0, .val (.string t)] h v h' ∧ WrTo h w b bs (encText t) v h' := by
 refine shared0 _ (by kernel_rfl) f33_ok fun s hs hh hd hr => ?_
 have h0 := hs 0 _ rfl
 have h1 := hs 1 _ rfl
 subst hh
 have hsz : t.size = t.data.toList.length := rfl
 rw [encText, List.length_append] at hl
 have q : lenStrV (.val (.string t)) = some (.val (.int .i64 (t.size : Nat))) := rfl
 simp -implicitDefEqProofs only [f33_fn, f33, V, ↓reduceIte, reduceEqDiff, reduceAdd, reduceMul, reduceCtorEq, reduceEq, reduceLT, reduceLE, h0, h1, q]
 refine callK_of (number_call hw (in64_nat (by omega)) (by omega)) ?_
 rintro v h2 ⟨rfl, b2, hw2, hf2, hx2⟩
 obtain ⟨cap, hc1, hc2⟩ := hw2.cw
 simp -implicitDefEqProofs only [V, ↓reduceIte, reduceEqDiff, reduceAdd, reduceMul, reduceCtorEq, reduceEq, reduceLT, reduceLE, h0, h1, hc2]
 by_cases he : t.data.toList = []
 ·obtain ⟨s1, s2, s3⟩ := hw2.same hc2
  rw [app_nil (b := b2) (cap := cap) (k := (bs ++ encNum (t.size : Nat)).length) (x := .val (.string t)) hw2.nt ?_ ?_ ?_]
  ·simp -implicitDefEqProofs only [V, ↓reduceIte, reduceEqDiff, reduceAdd, reduceMul, reduceCtorEq, reduceEq, reduceLT, reduceLE, h0, hd, s1]
   refine ⟨[], rfl, rfl, b2, ?_, ?_, hx2⟩
   ·rw [encText, he, List.append_nil]
    exact s2
   ·exact hf2.trans (.inr hx2) s3
  ·simp -implicitDefEqProofs only [V, ↓reduceIte, reduceEqDiff, reduceAdd, reduceMul, reduceCtorEq, reduceEq, reduceLT, reduceLE]
  ·simp -implicitDefEqProofs only [V, ↓reduceIte, reduceEqDiff, reduceAdd, reduceMul, reduceCtorEq, reduceEq, reduceLT, reduceLE]
  ·rw [elems_str, he]
   rfl
 ·have hst := wr_store (cap := cap) hw2 hc2 (bs ++ encNum (t.size : Nat) ++ t.data.toList)
  have w3 := wr_app (cap := cap) hw2 (bs ++ encNum (t.size : Nat) ++ t.data.toList)
  have f3 := wr_frame (cap := cap) hw2 (bs ++ encNum (t.size : Nat) ++ t.data.toList)
  refine app_bytes' (b := b2) (cap := cap) (x := .val (.string t)) (l := bs ++ encNum (t.size : Nat)) (new := t.data.toList) he hc1 hw2.nt hw2.cb (by rw [List.length_append]; omega) elems_str ?_ ?_ ?_
  ·simp -implicitDefEqProofs only [V, ↓reduceIte, reduceEqDiff, reduceAdd, reduceMul, reduceCtorEq, reduceEq, reduceLT, reduceLE]
  ·simp -implicitDefEqProofs only [V, ↓reduceIte, reduceEqDiff, reduceAdd, reduceMul, reduceCtorEq, reduceEq, reduceLT, reduceLE]
  ·simp -implicitDefEqProofs only [V, ↓reduceIte, reduceEqDiff, reduceAdd, reduceMul, reduceCtorEq, reduceEq, reduceLT, reduceLE, h0, hd, hst]
   refine ⟨[], rfl, rfl, h2.next, ?_, ?_, ?_⟩
   ·rw [encText, ← List.append_assoc]
    exact w3
   ·exact hf2.trans (.inr hx2) f3
   ·exact hf2.le
theorem Fr.keep {h h' : AH} {w b x : Nat} {k : Blk} (f : Fr h h' w b) (hx : x < h.next) (h1 : x ≠ w) (h2 : x ≠ b) (g : h.get x = some k) : h'.get x = some k := by rw [f.get x hx h1 h2, g]
theorem box_get {h : AH} {k : Blk} : (h.alloc k).get h.next = some k := by rw [AH.get_alloc, if_pos rfl]
theorem put_get {h : AH} {b : Nat} {k : Blk} : (h.put b (some k)).get b = some k := by rw [AH.get_put, if_pos rfl]
theorem lt_of_drop {α : Type} {l : List α} {i : Nat} {k : α} {r : List α} (h : l.drop i = k :: r) : i < l.length ∧ l.drop (i + 1) = r := by
 refine ⟨?_, ?_⟩
 ·rcases Nat.lt_or_ge i l.length with x | x
  ·exact x
  ·rw [List.drop_eq_nil_of_le x] at h; cases h
 ·rw [← List.drop_drop, h]; rfl
theorem dec_lt {i n : Nat} (h : i < n) : decide ((i : Int) < (n : Nat)) = true := by simp; omega
theorem dec_ge {i n : Nat} (h : n ≤ i) : decide ((i : Int) < (n : Nat)) = false := by simp; omega
def LpTo (h : AH) (w b : Nat) (bs new : List UInt8) (h' : AH) : Prop := ∃ b', Wr h' w b' (bs ++ new) ∧ Fr h h' w b ∧ Nx h b b'
theorem LpTo.nil {h : AH} {w b : Nat} {bs : List UInt8} (k : Wr h w b bs) : LpTo h w b bs [] h := ⟨b, by rw [List.append_nil]; exact k, Fr.refl _ _ _, .inl rfl⟩
theorem LpTo.app {h h1 h2 : AH} {w b b1 : Nat} {bs x y : List UInt8} (f : Fr h h1 w b) (n : Nx h b b1) (k : LpTo h1 w b1 (bs ++ x) y h2) : LpTo h w b bs (x ++ y) h2 := by
 obtain ⟨b2, k1, k2, k3⟩ := k
 exact ⟨b2, by rw [← List.append_assoc]; exact k1, f.trans n k2, n.trans f.le k3⟩
theorem f35_loop (w : Nat) (p : Pr) (hp : p.ks.length < 2 ^ 60) : ∀ (r : List Pr) (i : Nat) (s : St) (b : Nat) (bs : List UInt8), p.ks.drop i = r → i ≤ p.ks.length → Wr s.h w b bs → bs.length + (encPrL r).length ≤ 2 ^ 40 →
  (∀ k ∈ r, ∀ (h : AH) (b : Nat) (bs : List UInt8), Wr h w b bs → bs.length + (encPr k).length ≤ 2 ^ 40 → ∃ v h', RunCall E1 (.f 35) [.ptr w 0, .agg k.cells] h v h' ∧ WrTo h w b bs (encPr k) v h') →
  s.eval (.t 0) = some (.ptr w 0) → s.eval (.t 24) = some p.kids → s.eval (.t 25) = some (.val (.int .i64 (p.ks.length : Nat))) → s.eval (.t 26) = some (.val (.int .i64 (i : Nat))) → s.defers = [] →
  Run E1 f35_l0 s fun e s' => e = .exit 0 ∧ s'.defers = [] ∧ LpTo s.h w b bs (encPrL r) s'.h
 | [], i, s, b, bs, hd, hi, hw, hl, ih, h0, h24, h25, h26, hf => by
  have c1 := dec_ge (List.drop_eq_nil_iff.1 hd)
  apply loop_of (rfl : f35_l0 = .loop f35_b0)
  simp -implicitDefEqProofs only [f35_b0, V, ↓reduceIte, reduceEqDiff, reduceAdd, reduceMul, reduceCtorEq, reduceEq, reduceLT, reduceLE, h0, h24, h25, h26, hf, c1]
  exact LpTo.nil hw
 | k :: r, i, s, b, bs, hd, hi, hw, hl, ih, h0, h24, h25, h26, hf => by
  obtain ⟨hlt, hd'⟩ := lt_of_drop hd
  have c1 := dec_lt hlt
  have w1 := wrap_succ (i := i) (by omega)
  have hs := fun h : AH => store_new (h := h) (z := [.val (.int .i64 0), .val (.string ⟨#[]⟩), .val (.int .i64 0), .val (.slice none 0 0)]) (n := 4) rfl k.len
  rw [encPrL, List.length_append] at hl
  apply loop_of (rfl : f35_l0 = .loop f35_b0)
  simp -implicitDefEqProofs only [f35_b0, V, ↓reduceIte, reduceEqDiff, reduceAdd, reduceMul, reduceCtorEq, reduceEq, reduceLT, reduceLE, h0, h24, h25, h26, c1, kid_at hd, hs]
  have hw1 : Wr ((s.h.alloc (.cells [.val (.int .i64 0), .val (.string ⟨#[]⟩), .val (.int .i64 0), .val (.slice none 0 0)] true)).put s.h.next (some (.cells k.cells true))) w b bs :=
   hw.alloc.put (by have := hw.wl; omega) (by have := hw.bl; omega)
  have hf1 : Fr s.h ((s.h.alloc (.cells [.val (.int .i64 0), .val (.string ⟨#[]⟩), .val (.int .i64 0), .val (.slice none 0 0)] true)).put s.h.next (some (.cells k.cells true))) w b :=
   ⟨by rw [p_next, a_next]; omega, fun x hx _ _ => by rw [get_put_old (by omega), get_alloc_old hx]⟩
  refine callK_of (ih k List.mem_cons_self _ b bs hw1 (by omega)) ?_
  rintro v h2 ⟨rfl, b2, hw2, hf2, hx2⟩
  have hx2 : s.h.next + 1 ≤ b2 := hx2
  simp -implicitDefEqProofs only [V, ↓reduceIte, reduceEqDiff, reduceAdd, reduceMul, reduceCtorEq, reduceEq, reduceLT, reduceLE, h26, w1]
  refine (f35_loop w p hp r (i + 1) _ b2 (bs ++ encPr k) hd' (by omega) ?_ (by rw [List.length_append]; omega) (fun k' hk => ih k' (List.mem_cons_of_mem _ hk)) ?_ ?_ ?_ ?_ ?_).mono ?_
  ·exact hw2
  ·simp -implicitDefEqProofs only [V, ↓reduceIte, reduceEqDiff, reduceAdd, reduceMul, reduceCtorEq, reduceEq, reduceLT, reduceLE, h0]
  ·simp -implicitDefEqProofs only [V, ↓reduceIte, reduceEqDiff, reduceAdd, reduceMul, reduceCtorEq, reduceEq, reduceLT, reduceLE, h24]
  ·simp -implicitDefEqProofs only [V, ↓reduceIte, reduceEqDiff, reduceAdd, reduceMul, reduceCtorEq, reduceEq, reduceLT, reduceLE, h25]
  ·simp -implicitDefEqProofs only [V, ↓reduceIte, reduceEqDiff, reduceAdd, reduceMul, reduceCtorEq, reduceEq, reduceLT, reduceLE]
  ·simp -implicitDefEqProofs only [V, ↓reduceIte, reduceEqDiff, reduceAdd, reduceMul, reduceCtorEq, reduceEq, reduceLT, reduceLE, hf]
  ·rintro e s' ⟨r1, r2, r3⟩
   refine ⟨r1, r2, ?_⟩
   rw [encPrL]
   exact LpTo.app (hf1.trans (.inl rfl) hf2) (.inr (by omega)) r3
mutual
theorem pred_call : ∀ (p : Pr), fitPr p → ∀ (h : AH) (w b : Nat) (bs : List UInt8), Wr h w b bs → bs.length + (encPr p).length ≤ 2 ^ 40 → ∃ v h', RunCall E1 (.f 35) [.ptr w 0, .agg p.cells] h v h' ∧ WrTo h w b bs (encPr p) v h'
 | .mk o t n ks nl cap, hfit, h, w, b, bs, hw, hl => by
  generalize hp : Pr.mk o t n ks nl cap = p
  have e1 : p.op = o := by rw [← hp]; rfl
  have e2 : p.nm = t := by rw [← hp]; rfl
  have e3 : p.n = n := by rw [← hp]; rfl
  have e4 : p.ks = ks := by rw [← hp]; rfl
  have e5 : encPr p = encNum o ++ (encText t ++ (encNum n ++ (encNum (ks.length : Nat) ++ encPrL ks))) := by rw [← hp]; rfl
  rw [hp, e5] at hl
  simp only [List.length_append] at hl
  simp only [fitPr] at hfit
  obtain ⟨i1, i2, i3, i4, i5⟩ := hfit
  refine shared0 _ (by kernel_rfl) f35_ok fun s hs hh hd hr => ?_
  have h0 := hs 0 _ rfl
  have h1 := hs 1 _ rfl
  subst hh
  have hb := hw.bl
  have hwl := hw.wl
  have hg1 : (s.h.alloc (.cells p.cells true)).get s.h.next = some (.cells p.cells true) := box_get
  simp -implicitDefEqProofs only [f35_fn, f35, V, ↓reduceIte, reduceEqDiff, reduceAdd, reduceMul, reduceCtorEq, reduceEq, reduceLT, reduceLE, h0, h1, e1]
  refine callK_of (number_call (b := b) hw.alloc i1 (by omega)) ?_
  rintro v h2 ⟨rfl, b2, hw2, hf2, hx2⟩
  have hf2 : Fr (s.h.alloc (.cells p.cells true)) h2 w b := hf2
  have hx2 : s.h.next + 1 ≤ b2 := hx2
  have l2 : s.h.next + 1 ≤ h2.next := hf2.le
  have hg2 : h2.get s.h.next = some (.cells p.cells true) := hf2.keep (by rw [a_next]; omega) (by omega) (by omega) hg1
  simp -implicitDefEqProofs only [V, ↓reduceIte, reduceEqDiff, reduceAdd, reduceMul, reduceCtorEq, reduceEq, reduceLT, reduceLE, h0, hg2, e2]
  refine callK_of (text_call (b := b2) hw2 (by simp only [List.length_append]; omega)) ?_
  rintro v h3 ⟨rfl, b3, hw3, hf3, hx3⟩
  have hf3 : Fr h2 h3 w b2 := hf3
  have hx3 : h2.next ≤ b3 := hx3
  have l3 : h2.next ≤ h3.next := hf3.le
  have hg3 : h3.get s.h.next = some (.cells p.cells true) := hf3.keep (by omega) (by omega) (by omega) hg2
  simp -implicitDefEqProofs only [V, ↓reduceIte, reduceEqDiff, reduceAdd, reduceMul, reduceCtorEq, reduceEq, reduceLT, reduceLE, h0, hg3, e3]
  refine callK_of (number_call (b := b3) hw3 i2 (by simp only [List.length_append]; omega)) ?_
  rintro v h4 ⟨rfl, b4, hw4, hf4, hx4⟩
  have hf4 : Fr h3 h4 w b3 := hf4
  have hx4 : h3.next ≤ b4 := hx4
  have l4 : h3.next ≤ h4.next := hf4.le
  have hg4 : h4.get s.h.next = some (.cells p.cells true) := hf4.keep (by omega) (by omega) (by omega) hg3
  simp -implicitDefEqProofs only [V, ↓reduceIte, reduceEqDiff, reduceAdd, reduceMul, reduceCtorEq, reduceEq, reduceLT, reduceLE, h0, hg4, e4]
  refine callK_of (number_call (b := b4) hw4 (in64_nat i4) (by simp only [List.length_append]; omega)) ?_
  rintro v h5 ⟨rfl, b5, hw5, hf5, hx5⟩
  have hf5 : Fr h4 h5 w b4 := hf5
  have hx5 : h4.next ≤ b5 := hx5
  have l5 : h4.next ≤ h5.next := hf5.le
  have hg5 : h5.get s.h.next = some (.cells p.cells true) := hf5.keep (by omega) (by omega) (by omega) hg4
  simp -implicitDefEqProofs only [V, ↓reduceIte, reduceEqDiff, reduceAdd, reduceMul, reduceCtorEq, reduceEq, reduceLT, reduceLE, h0, hg5, e4]
  refine (f35_loop w p (by rw [e4]; exact i4) p.ks 0 _ b5 (bs ++ encNum o ++ encText t ++ encNum n ++ encNum (ks.length : Nat)) rfl (Nat.zero_le _) ?_ ?_ (fun k hk => predL_call ks i5 k (by rw [← e4]; exact hk) w) ?_ ?_ ?_ ?_ ?_).mono ?_
  ·exact hw5
  ·rw [e4]
   simp only [List.length_append]
   omega
  ·simp -implicitDefEqProofs only [V, ↓reduceIte, reduceEqDiff, reduceAdd, reduceMul, reduceCtorEq, reduceEq, reduceLT, reduceLE, h0]
  ·simp -implicitDefEqProofs only [V, ↓reduceIte, reduceEqDiff, reduceAdd, reduceMul, reduceCtorEq, reduceEq, reduceLT, reduceLE]
  ·simp -implicitDefEqProofs only [V, ↓reduceIte, reduceEqDiff, reduceAdd, reduceMul, reduceCtorEq, reduceEq, reduceLT, reduceLE, e4]
  ·simp -implicitDefEqProofs only [V, ↓reduceIte, reduceEqDiff, reduceAdd, reduceMul, reduceCtorEq, reduceEq, reduceLT, reduceLE] <;> rfl
  ·simp -implicitDefEqProofs only [V, ↓reduceIte, reduceEqDiff, reduceAdd, reduceMul, reduceCtorEq, reduceEq, reduceLT, reduceLE, hd]
  ·rintro e s' ⟨rfl, rd, b6, hw6, hf6, hx6⟩
   have hbeq : Nat.beq 0 0 = true := rfl
   simp -implicitDefEqProofs only [V, ↓reduceIte, reduceEqDiff, reduceAdd, reduceMul, reduceCtorEq, reduceEq, reduceLT, reduceLE, hbeq, rd]
   have l6 : h5.next ≤ s'.h.next := hf6.le
   have hx6' : b6 = b5 ∨ h5.next ≤ b6 := hx6
   refine ⟨[], rfl, rfl, b6, ?_, ?_, ?_⟩
   ·rw [e5, ← e4]
    rw [← e4] at hw6
    simpa only [List.append_assoc] using hw6
   ·have f1 : Fr s.h (s.h.alloc (.cells p.cells true)) w b := Fr.alloc
    exact f1.trans (.inl rfl) (hf2.trans (.inr (by rw [a_next]; omega)) (hf3.trans (.inr (by omega)) (hf4.trans (.inr (by omega)) (hf5.trans (.inr (by omega)) hf6))))
   ·omega
theorem predL_call : ∀ (l : List Pr), fitPrL l → ∀ k ∈ l, ∀ (w : Nat) (h : AH) (b : Nat) (bs : List UInt8), Wr h w b bs → bs.length + (encPr k).length ≤ 2 ^ 40 → ∃ v h', RunCall E1 (.f 35) [.ptr w 0, .agg k.cells] h v h' ∧ WrTo h w b bs (encPr k) v h'
 | [], _, k, hk, _, _, _, _, _, _ => by cases hk
 | a :: r, hfit, k, hk, w, h, b, bs, hw, hl => by
  simp only [fitPrL] at hfit
  rcases List.mem_cons.1 hk with e | hk
  ·rw [e] at hl ⊢; exact pred_call a hfit.1 h w b bs hw hl
  ·exact predL_call r hfit.2 k hk w h b bs hw hl
end
end Go.Proofs.YtijpnlmmaoecgaaGreatDoor

namespace Go.Proofs.YtijpnlmmaoecgaaGreatDoor
open Go Go.AM
theorem f36_ints (w : Nat) (p : Bg) (hp : p.ds.length < 2 ^ 60) : ∀ (r : List Int) (i : Nat) (s : St) (b : Nat) (bs : List UInt8), p.ds.drop i = r → i ≤ p.ds.length → Wr s.h w b bs → bs.length + (encInts r).length ≤ 2 ^ 40 → (∀ n ∈ r, in64 n) →
  s.eval (.t 0) = some (.ptr w 0) → s.eval (.t 42) = some p.dsA → s.eval (.t 43) = some (.val (.int .i64 (p.ds.length : Nat))) → s.eval (.t 44) = some (.val (.int .i64 (i : Nat))) → s.defers = [] →
  Run E1 f36_l0 s fun e s' => e = .exit 2 ∧ s'.defers = [] ∧ LpTo s.h w b bs (encInts r) s'.h ∧ s'.eval (.t 0) = s.eval (.t 0) ∧ s'.eval (.t 3) = s.eval (.t 3) ∧ s'.eval (.t 25) = s.eval (.t 25) ∧ s'.eval (.t 26) = s.eval (.t 26) ∧ s'.eval (.t 27) = s.eval (.t 27)
 | [], i, s, b, bs, hd, hi, hw, hl, hn, h0, h42, h43, h44, hf => by
  have c1 := dec_ge (List.drop_eq_nil_iff.1 hd)
  apply loop_of (rfl : f36_l0 = .loop f36_b0)
  simp -implicitDefEqProofs only [f36_b0, V, ↓reduceIte, reduceEqDiff, reduceAdd, reduceMul, reduceCtorEq, reduceEq, reduceLT, reduceLE, h42, h43, h44, hf, c1]
  exact LpTo.nil hw
 | k :: r, i, s, b, bs, hd, hi, hw, hl, hn, h0, h42, h43, h44, hf => by
  obtain ⟨hlt, hd'⟩ := lt_of_drop hd
  have c1 := dec_lt hlt
  have w1 := wrap_succ (i := i) (by omega)
  rw [encInts, List.flatMap_cons, List.length_append, ← encInts] at hl
  apply loop_of (rfl : f36_l0 = .loop f36_b0)
  simp -implicitDefEqProofs only [f36_b0, V, ↓reduceIte, reduceEqDiff, reduceAdd, reduceMul, reduceCtorEq, reduceEq, reduceLT, reduceLE, h0, h42, h43, h44, c1, Bg.at hd]
  refine callK_of (number_call (b := b) hw (hn k List.mem_cons_self) (by omega)) ?_
  rintro v h2 ⟨rfl, b2, hw2, hf2, hx2⟩
  have hf2 : Fr s.h h2 w b := hf2
  have hx2 : s.h.next ≤ b2 := hx2
  simp -implicitDefEqProofs only [V, ↓reduceIte, reduceEqDiff, reduceAdd, reduceMul, reduceCtorEq, reduceEq, reduceLT, reduceLE, h44, w1]
  refine (f36_ints w p hp r (i + 1) _ b2 (bs ++ encNum k) hd' (by omega) ?_ (by rw [List.length_append]; omega) (fun k' hk => hn k' (List.mem_cons_of_mem _ hk)) ?_ ?_ ?_ ?_ ?_).mono ?_
  ·exact hw2
  ·simp -implicitDefEqProofs only [V, ↓reduceIte, reduceEqDiff, reduceAdd, reduceMul, reduceCtorEq, reduceEq, reduceLT, reduceLE, h0]
  ·simp -implicitDefEqProofs only [V, ↓reduceIte, reduceEqDiff, reduceAdd, reduceMul, reduceCtorEq, reduceEq, reduceLT, reduceLE, h42]
  ·simp -implicitDefEqProofs only [V, ↓reduceIte, reduceEqDiff, reduceAdd, reduceMul, reduceCtorEq, reduceEq, reduceLT, reduceLE, h43]
  ·simp -implicitDefEqProofs only [V, ↓reduceIte, reduceEqDiff, reduceAdd, reduceMul, reduceCtorEq, reduceEq, reduceLT, reduceLE]
  ·simp -implicitDefEqProofs only [V, ↓reduceIte, reduceEqDiff, reduceAdd, reduceMul, reduceCtorEq, reduceEq, reduceLT, reduceLE, hf]
  ·rintro e s' ⟨r1, r2, r3, r4, r5, r6, r7, r8⟩
   refine ⟨r1, r2, ?_, ?_, ?_, ?_, ?_, ?_⟩
   ·rw [encInts, List.flatMap_cons, ← encInts]
    exact LpTo.app hf2 (.inr hx2) r3
   ·rw [r4]; simp -implicitDefEqProofs only [V, ↓reduceIte, reduceEqDiff, reduceAdd, reduceMul, reduceCtorEq, reduceEq, reduceLT, reduceLE, h0]
   ·rw [r5]; simp -implicitDefEqProofs only [V, ↓reduceIte, reduceEqDiff, reduceAdd, reduceMul, reduceCtorEq, reduceEq, reduceLT, reduceLE]
   ·rw [r6]; simp -implicitDefEqProofs only [V, ↓reduceIte, reduceEqDiff, reduceAdd, reduceMul, reduceCtorEq, reduceEq, reduceLT, reduceLE]
   ·rw [r7]; simp -implicitDefEqProofs only [V, ↓reduceIte, reduceEqDiff, reduceAdd, reduceMul, reduceCtorEq, reduceEq, reduceLT, reduceLE]
   ·rw [r8]; simp -implicitDefEqProofs only [V, ↓reduceIte, reduceEqDiff, reduceAdd, reduceMul, reduceCtorEq, reduceEq, reduceLT, reduceLE]
theorem f36_bigs (w : Nat) (p : Pf) (hp : p.ms.length < 2 ^ 60) : ∀ (r : List Bg) (i : Nat) (s : St) (b : Nat) (bs : List UInt8), p.ms.drop i = r → i ≤ p.ms.length → Wr s.h w b bs → bs.length + (encBgs r).length ≤ 2 ^ 40 → (∀ n ∈ r, fitBg n) →
  s.eval (.t 0) = some (.ptr w 0) → s.eval (.t 25) = some p.msA → s.eval (.t 26) = some (.val (.int .i64 (p.ms.length : Nat))) → s.eval (.t 27) = some (.val (.int .i64 (i : Nat))) → s.defers = [] →
  Run E1 f36_l1 s fun e s' => e = .exit 0 ∧ s'.defers = [] ∧ LpTo s.h w b bs (encBgs r) s'.h ∧ s'.eval (.t 0) = s.eval (.t 0) ∧ s'.eval (.t 3) = s.eval (.t 3)
 | [], i, s, b, bs, hd, hi, hw, hl, hn, h0, h25, h26, h27, hf => by
  have c1 := dec_ge (List.drop_eq_nil_iff.1 hd)
  apply loop_of (rfl : f36_l1 = .loop f36_b1)
  simp -implicitDefEqProofs only [f36_b1, V, ↓reduceIte, reduceEqDiff, reduceAdd, reduceMul, reduceCtorEq, reduceEq, reduceLT, reduceLE, h25, h26, h27, hf, c1]
  exact LpTo.nil hw
 | k :: r, i, s, b, bs, hd, hi, hw, hl, hn, h0, h25, h26, h27, hf => by
  obtain ⟨hlt, hd'⟩ := lt_of_drop hd
  have c1 := dec_lt hlt
  have w1 := wrap_succ (i := i) (by omega)
  obtain ⟨g1, g2⟩ := hn k List.mem_cons_self
  have hk : encBg k = encNum (if k.neg then 1 else 0) ++ (encNum (k.ds.length : Nat) ++ encInts k.ds) := rfl
  rw [encBgs, List.flatMap_cons, List.length_append, ← encBgs, hk] at hl
  simp only [List.length_append] at hl
  have hst := fun h : AH => store_new (h := h) (z := [.val (.bool false), .val (.slice none 0 0)]) (n := 2) rfl k.len
  have hbl := hw.bl
  have hwl := hw.wl
  have hw1 : Wr ((s.h.alloc (.cells [.val (.bool false), .val (.slice none 0 0)] true)).put s.h.next (some (.cells k.cells true))) w b bs := hw.alloc.put (by omega) (by omega)
  have hf1 : Fr s.h ((s.h.alloc (.cells [.val (.bool false), .val (.slice none 0 0)] true)).put s.h.next (some (.cells k.cells true))) w b :=
   ⟨by rw [p_next, a_next]; omega, fun x hx _ _ => by rw [get_put_old (by omega), get_alloc_old hx]⟩
  have hg1 : ((s.h.alloc (.cells [.val (.bool false), .val (.slice none 0 0)] true)).put s.h.next (some (.cells k.cells true))).get s.h.next = some (.cells k.cells true) := put_get
  have main : ∀ (s1 : St) (sg : Int), in64 sg → bs.length + ((encNum sg).length + ((encNum (k.ds.length : Nat)).length + (encInts k.ds).length) + (encBgs r).length) ≤ 2 ^ 40 → s1.h = (s.h.alloc (.cells [.val (.bool false), .val (.slice none 0 0)] true)).put s.h.next (some (.cells k.cells true)) →
    s1.eval (.t 0) = some (.ptr w 0) → s1.eval (.t 5) = some (.ptr s.h.next 0) → s1.eval (.t 25) = some p.msA → s1.eval (.t 26) = some (.val (.int .i64 (p.ms.length : Nat))) → s1.eval (.t 27) = some (.val (.int .i64 (i : Nat))) → s1.eval (.t 3) = s.eval (.t 3) → s1.defers = [] →
    ∀ Q : Ex → St → Prop, (∀ s', s'.defers = [] → LpTo s.h w b bs (encNum sg ++ (encNum (k.ds.length : Nat) ++ encInts k.ds)) s'.h → s'.eval (.t 0) = some (.ptr w 0) → s'.eval (.t 25) = some p.msA → s'.eval (.t 26) = some (.val (.int .i64 (p.ms.length : Nat))) → s'.eval (.t 27) = some (.val (.int .i64 (i : Nat))) → s'.eval (.t 3) = s.eval (.t 3) → Q .normal s') →
    callK E1 34 [] s1 (some 35) (seqK E1 (.seq (.region [⟨(some 36), none, .mv (.t 0)⟩, ⟨(some 37), none, .fieldAddr 1 (.t 5)⟩, ⟨(some 38), none, .load none (.t 37)⟩, ⟨(some 39), none, .lenS (.t 38)⟩, ⟨(some 40), none, .call 34 [(.t 36), (.t 39)]⟩])
     (.seq (.region [⟨(some 41), none, .fieldAddr 1 (.t 5)⟩, ⟨(some 42), none, .load none (.t 41)⟩, ⟨(some 43), none, .lenS (.t 42)⟩, ⟨(some 44), none, .mv (.c (.val (.int .i64 0)))⟩])
     (.block 2 f36_l0))) Q .normal) (some [.ptr w 0, .val (.int .i64 sg)]) := by
   intro s1 sg hsg hl1 e1 a0 a5 a25 a26 a27 a3 ad Q hQ
   rw [← e1] at hw1 hf1 hg1
   have ln : s1.h.next = s.h.next + 1 := by rw [e1]; rfl
   refine callK_of (number_call (b := b) hw1 hsg (by omega)) ?_
   rintro v h2 ⟨rfl, b2, hw2, hf2, hx2⟩
   have hf2 : Fr s1.h h2 w b := hf2
   have hx2 : s1.h.next ≤ b2 := hx2
   have l2 : s1.h.next ≤ h2.next := hf2.le
   have hg2 : h2.get s.h.next = some (.cells k.cells true) := hf2.keep (by omega) (by omega) (by omega) hg1
   simp -implicitDefEqProofs only [V, ↓reduceIte, reduceEqDiff, reduceAdd, reduceMul, reduceCtorEq, reduceEq, reduceLT, reduceLE, a0, a5, hg2]
   refine callK_of (number_call (b := b2) hw2 (in64_nat g1) (by simp only [List.length_append]; omega)) ?_
   rintro v h3 ⟨rfl, b3, hw3, hf3, hx3⟩
   have hf3 : Fr h2 h3 w b2 := hf3
   have hx3 : h2.next ≤ b3 := hx3
   have l3 : h2.next ≤ h3.next := hf3.le
   have hg3 : h3.get s.h.next = some (.cells k.cells true) := hf3.keep (by omega) (by omega) (by omega) hg2
   simp -implicitDefEqProofs only [V, ↓reduceIte, reduceEqDiff, reduceAdd, reduceMul, reduceCtorEq, reduceEq, reduceLT, reduceLE, a0, a5, hg3]
   refine (f36_ints w k g1 k.ds 0 _ b3 (bs ++ encNum sg ++ encNum (k.ds.length : Nat)) rfl (Nat.zero_le _) ?_ ?_ g2 ?_ ?_ ?_ ?_ ?_).mono ?_
   ·exact hw3
   ·simp only [List.length_append]; omega
   ·simp -implicitDefEqProofs only [V, ↓reduceIte, reduceEqDiff, reduceAdd, reduceMul, reduceCtorEq, reduceEq, reduceLT, reduceLE, a0]
   ·simp -implicitDefEqProofs only [V, ↓reduceIte, reduceEqDiff, reduceAdd, reduceMul, reduceCtorEq, reduceEq, reduceLT, reduceLE]
   ·simp -implicitDefEqProofs only [V, ↓reduceIte, reduceEqDiff, reduceAdd, reduceMul, reduceCtorEq, reduceEq, reduceLT, reduceLE]
   ·simp -implicitDefEqProofs only [V, ↓reduceIte, reduceEqDiff, reduceAdd, reduceMul, reduceCtorEq, reduceEq, reduceLT, reduceLE] <;> rfl
   ·simp -implicitDefEqProofs only [V, ↓reduceIte, reduceEqDiff, reduceAdd, reduceMul, reduceCtorEq, reduceEq, reduceLT, reduceLE, ad]
   ·rintro e s' ⟨rfl, r2, ⟨b4, q1, q2, q3⟩, r4, r5, r6, r7, r8⟩
    have hbeq : Nat.beq 2 2 = true := rfl
    have q2 : Fr h3 s'.h w b3 := q2
    have q3 : b4 = b3 ∨ h3.next ≤ b4 := q3
    simp -implicitDefEqProofs only [V, ↓reduceIte, reduceEqDiff, reduceAdd, reduceMul, reduceCtorEq, reduceEq, reduceLT, reduceLE, hbeq]
    refine hQ _ r2 ⟨b4, ?_, ?_, ?_⟩ ?_ ?_ ?_ ?_ ?_
    ·simpa only [List.append_assoc] using q1
    ·exact hf1.trans (.inl rfl) (hf2.trans (.inr hx2) (hf3.trans (.inr hx3) q2))
    ·exact .inr (by omega)
    ·rw [r4]; simp -implicitDefEqProofs only [V, ↓reduceIte, reduceEqDiff, reduceAdd, reduceMul, reduceCtorEq, reduceEq, reduceLT, reduceLE, a0]
    ·rw [r6]; simp -implicitDefEqProofs only [V, ↓reduceIte, reduceEqDiff, reduceAdd, reduceMul, reduceCtorEq, reduceEq, reduceLT, reduceLE, a25]
    ·rw [r7]; simp -implicitDefEqProofs only [V, ↓reduceIte, reduceEqDiff, reduceAdd, reduceMul, reduceCtorEq, reduceEq, reduceLT, reduceLE, a26]
    ·rw [r8]; simp -implicitDefEqProofs only [V, ↓reduceIte, reduceEqDiff, reduceAdd, reduceMul, reduceCtorEq, reduceEq, reduceLT, reduceLE, a27]
    ·rw [r5]; simp -implicitDefEqProofs only [V, ↓reduceIte, reduceEqDiff, reduceAdd, reduceMul, reduceCtorEq, reduceEq, reduceLT, reduceLE, a3]
  have next : ∀ s1 : St, s1.defers = [] → LpTo s.h w b bs (encBg k) s1.h → s1.eval (.t 0) = some (.ptr w 0) → s1.eval (.t 25) = some p.msA → s1.eval (.t 26) = some (.val (.int .i64 (p.ms.length : Nat))) → s1.eval (.t 27) = some (.val (.int .i64 (i : Nat))) → s1.eval (.t 3) = s.eval (.t 3) →
    wp E1 (.region [⟨(some 52), none, .bin .add 3 true (.t 27) (.c (.val (.int .i64 1)))⟩, ⟨(some 27), none, .mv (.t 52)⟩]) s1 (loopK E1 f36_l1 fun e s' => e = .exit 0 ∧ s'.defers = [] ∧ LpTo s.h w b bs (encBgs (k :: r)) s'.h ∧ s'.eval (.t 0) = some (.ptr w 0) ∧ s'.eval (.t 3) = s.eval (.t 3)) := by
   rintro s1 ad ⟨b2, q1, q2, q3⟩ a0 a25 a26 a27 a3
   simp -implicitDefEqProofs only [V, ↓reduceIte, reduceEqDiff, reduceAdd, reduceMul, reduceCtorEq, reduceEq, reduceLT, reduceLE, a27, w1]
   refine (f36_bigs w p hp r (i + 1) _ b2 (bs ++ encBg k) hd' (by omega) ?_ (by rw [hk]; simp only [List.length_append]; omega) (fun k' hk => hn k' (List.mem_cons_of_mem _ hk)) ?_ ?_ ?_ ?_ ?_).mono ?_
   ·exact q1
   ·simp -implicitDefEqProofs only [V, ↓reduceIte, reduceEqDiff, reduceAdd, reduceMul, reduceCtorEq, reduceEq, reduceLT, reduceLE, a0]
   ·simp -implicitDefEqProofs only [V, ↓reduceIte, reduceEqDiff, reduceAdd, reduceMul, reduceCtorEq, reduceEq, reduceLT, reduceLE, a25]
   ·simp -implicitDefEqProofs only [V, ↓reduceIte, reduceEqDiff, reduceAdd, reduceMul, reduceCtorEq, reduceEq, reduceLT, reduceLE, a26]
   ·simp -implicitDefEqProofs only [V, ↓reduceIte, reduceEqDiff, reduceAdd, reduceMul, reduceCtorEq, reduceEq, reduceLT, reduceLE]
   ·simp -implicitDefEqProofs only [V, ↓reduceIte, reduceEqDiff, reduceAdd, reduceMul, reduceCtorEq, reduceEq, reduceLT, reduceLE, ad]
   ·rintro e s' ⟨r1, r2, r3, r4, r5⟩
    refine ⟨r1, r2, ?_, ?_, ?_⟩
    ·rw [encBgs, List.flatMap_cons, ← encBgs]
     exact LpTo.app q2 q3 r3
    ·rw [r4]; simp -implicitDefEqProofs only [V, ↓reduceIte, reduceEqDiff, reduceAdd, reduceMul, reduceCtorEq, reduceEq, reduceLT, reduceLE, a0]
    ·rw [r5]; simp -implicitDefEqProofs only [V, ↓reduceIte, reduceEqDiff, reduceAdd, reduceMul, reduceCtorEq, reduceEq, reduceLT, reduceLE, a3]
  apply loop_of (rfl : f36_l1 = .loop f36_b1)
  cases hneg : k.neg with
  | false =>
   rw [hneg] at hl
   simp -implicitDefEqProofs only [f36_b1, V, ↓reduceIte, reduceEqDiff, reduceAdd, reduceMul, reduceCtorEq, reduceEq, reduceLT, reduceLE, h0, h25, h26, h27, c1, Pf.msAt hd, hst, hneg]
   refine main _ 0 (by unfold in64; omega) ?_ ?_ ?_ ?_ ?_ ?_ ?_ ?_ ?_ _ fun s' q1 q2 q3 q4 q5 q6 q7 => next s' q1 ?_ q3 q4 q5 q6 q7
   ·simpa using hl
   ·simp -implicitDefEqProofs only [V, ↓reduceIte, reduceEqDiff, reduceAdd, reduceMul, reduceCtorEq, reduceEq, reduceLT, reduceLE]
   ·simp -implicitDefEqProofs only [V, ↓reduceIte, reduceEqDiff, reduceAdd, reduceMul, reduceCtorEq, reduceEq, reduceLT, reduceLE, h0]
   ·simp -implicitDefEqProofs only [V, ↓reduceIte, reduceEqDiff, reduceAdd, reduceMul, reduceCtorEq, reduceEq, reduceLT, reduceLE]
   ·simp -implicitDefEqProofs only [V, ↓reduceIte, reduceEqDiff, reduceAdd, reduceMul, reduceCtorEq, reduceEq, reduceLT, reduceLE, h25]
   ·simp -implicitDefEqProofs only [V, ↓reduceIte, reduceEqDiff, reduceAdd, reduceMul, reduceCtorEq, reduceEq, reduceLT, reduceLE, h26]
   ·simp -implicitDefEqProofs only [V, ↓reduceIte, reduceEqDiff, reduceAdd, reduceMul, reduceCtorEq, reduceEq, reduceLT, reduceLE, h27]
   ·simp -implicitDefEqProofs only [V, ↓reduceIte, reduceEqDiff, reduceAdd, reduceMul, reduceCtorEq, reduceEq, reduceLT, reduceLE]
   ·simp -implicitDefEqProofs only [V, ↓reduceIte, reduceEqDiff, reduceAdd, reduceMul, reduceCtorEq, reduceEq, reduceLT, reduceLE, hf]
   ·rw [hk, hneg]
    exact q2
  | true =>
   rw [hneg] at hl
   simp -implicitDefEqProofs only [f36_b1, V, ↓reduceIte, reduceEqDiff, reduceAdd, reduceMul, reduceCtorEq, reduceEq, reduceLT, reduceLE, h0, h25, h26, h27, c1, Pf.msAt hd, hst, hneg]
   refine main _ 1 (by unfold in64; omega) ?_ ?_ ?_ ?_ ?_ ?_ ?_ ?_ ?_ _ fun s' q1 q2 q3 q4 q5 q6 q7 => next s' q1 ?_ q3 q4 q5 q6 q7
   ·simpa using hl
   ·simp -implicitDefEqProofs only [V, ↓reduceIte, reduceEqDiff, reduceAdd, reduceMul, reduceCtorEq, reduceEq, reduceLT, reduceLE]
   ·simp -implicitDefEqProofs only [V, ↓reduceIte, reduceEqDiff, reduceAdd, reduceMul, reduceCtorEq, reduceEq, reduceLT, reduceLE, h0]
   ·simp -implicitDefEqProofs only [V, ↓reduceIte, reduceEqDiff, reduceAdd, reduceMul, reduceCtorEq, reduceEq, reduceLT, reduceLE]
   ·simp -implicitDefEqProofs only [V, ↓reduceIte, reduceEqDiff, reduceAdd, reduceMul, reduceCtorEq, reduceEq, reduceLT, reduceLE, h25]
   ·simp -implicitDefEqProofs only [V, ↓reduceIte, reduceEqDiff, reduceAdd, reduceMul, reduceCtorEq, reduceEq, reduceLT, reduceLE, h26]
   ·simp -implicitDefEqProofs only [V, ↓reduceIte, reduceEqDiff, reduceAdd, reduceMul, reduceCtorEq, reduceEq, reduceLT, reduceLE, h27]
   ·simp -implicitDefEqProofs only [V, ↓reduceIte, reduceEqDiff, reduceAdd, reduceMul, reduceCtorEq, reduceEq, reduceLT, reduceLE]
   ·simp -implicitDefEqProofs only [V, ↓reduceIte, reduceEqDiff, reduceAdd, reduceMul, reduceCtorEq, reduceEq, reduceLT, reduceLE, hf]
   ·rw [hk, hneg]
    exact q2
theorem f36_kids (w : Nat) (p : Pf) (hp : p.ks.length < 2 ^ 60) : ∀ (r : List Pf) (i : Nat) (s : St) (b : Nat) (bs : List UInt8), p.ks.drop i = r → i ≤ p.ks.length → Wr s.h w b bs → bs.length + (encPfL r).length ≤ 2 ^ 40 →
  (∀ k ∈ r, ∀ (h : AH) (b : Nat) (bs : List UInt8), Wr h w b bs → bs.length + (encPf k).length ≤ 2 ^ 40 → ∃ v h', RunCall E1 (.f 36) [.ptr w 0, .agg k.cells] h v h' ∧ WrTo h w b bs (encPf k) v h') →
  s.eval (.t 0) = some (.ptr w 0) → s.eval (.t 59) = some p.ksA → s.eval (.t 60) = some (.val (.int .i64 (p.ks.length : Nat))) → s.eval (.t 61) = some (.val (.int .i64 (i : Nat))) → s.defers = [] →
  Run E1 f36_l2 s fun e s' => e = .exit 4 ∧ s'.defers = [] ∧ LpTo s.h w b bs (encPfL r) s'.h
 | [], i, s, b, bs, hd, hi, hw, hl, ih, h0, h24, h25, h26, hf => by
  have c1 := dec_ge (List.drop_eq_nil_iff.1 hd)
  apply loop_of (rfl : f36_l2 = .loop f36_b2)
  simp -implicitDefEqProofs only [f36_b2, V, ↓reduceIte, reduceEqDiff, reduceAdd, reduceMul, reduceCtorEq, reduceEq, reduceLT, reduceLE, h0, h24, h25, h26, hf, c1]
  exact LpTo.nil hw
 | k :: r, i, s, b, bs, hd, hi, hw, hl, ih, h0, h24, h25, h26, hf => by
  obtain ⟨hlt, hd'⟩ := lt_of_drop hd
  have c1 := dec_lt hlt
  have w1 := wrap_succ (i := i) (by omega)
  have hs := fun h : AH => store_new (h := h) (z := [.val (.int .i64 0), .val (.int .i64 0), .val (.slice none 0 0), .val (.slice none 0 0)]) (n := 4) rfl k.len
  rw [encPfL, List.length_append] at hl
  apply loop_of (rfl : f36_l2 = .loop f36_b2)
  simp -implicitDefEqProofs only [f36_b2, V, ↓reduceIte, reduceEqDiff, reduceAdd, reduceMul, reduceCtorEq, reduceEq, reduceLT, reduceLE, h0, h24, h25, h26, c1, Pf.ksAt hd, hs]
  have hw1 : Wr ((s.h.alloc (.cells [.val (.int .i64 0), .val (.int .i64 0), .val (.slice none 0 0), .val (.slice none 0 0)] true)).put s.h.next (some (.cells k.cells true))) w b bs :=
   hw.alloc.put (by have := hw.wl; omega) (by have := hw.bl; omega)
  have hf1 : Fr s.h ((s.h.alloc (.cells [.val (.int .i64 0), .val (.int .i64 0), .val (.slice none 0 0), .val (.slice none 0 0)] true)).put s.h.next (some (.cells k.cells true))) w b :=
   ⟨by rw [p_next, a_next]; omega, fun x hx _ _ => by rw [get_put_old (by omega), get_alloc_old hx]⟩
  refine callK_of (ih k List.mem_cons_self _ b bs hw1 (by omega)) ?_
  rintro v h2 ⟨rfl, b2, hw2, hf2, hx2⟩
  have hx2 : s.h.next + 1 ≤ b2 := hx2
  simp -implicitDefEqProofs only [V, ↓reduceIte, reduceEqDiff, reduceAdd, reduceMul, reduceCtorEq, reduceEq, reduceLT, reduceLE, h26, w1]
  refine (f36_kids w p hp r (i + 1) _ b2 (bs ++ encPf k) hd' (by omega) ?_ (by rw [List.length_append]; omega) (fun k' hk => ih k' (List.mem_cons_of_mem _ hk)) ?_ ?_ ?_ ?_ ?_).mono ?_
  ·exact hw2
  ·simp -implicitDefEqProofs only [V, ↓reduceIte, reduceEqDiff, reduceAdd, reduceMul, reduceCtorEq, reduceEq, reduceLT, reduceLE, h0]
  ·simp -implicitDefEqProofs only [V, ↓reduceIte, reduceEqDiff, reduceAdd, reduceMul, reduceCtorEq, reduceEq, reduceLT, reduceLE, h24]
  ·simp -implicitDefEqProofs only [V, ↓reduceIte, reduceEqDiff, reduceAdd, reduceMul, reduceCtorEq, reduceEq, reduceLT, reduceLE, h25]
  ·simp -implicitDefEqProofs only [V, ↓reduceIte, reduceEqDiff, reduceAdd, reduceMul, reduceCtorEq, reduceEq, reduceLT, reduceLE]
  ·simp -implicitDefEqProofs only [V, ↓reduceIte, reduceEqDiff, reduceAdd, reduceMul, reduceCtorEq, reduceEq, reduceLT, reduceLE, hf]
  ·rintro e s' ⟨r1, r2, r3⟩
   refine ⟨r1, r2, ?_⟩
   rw [encPfL]
   exact LpTo.app (hf1.trans (.inl rfl) hf2) (.inr (by omega)) r3
mutual
theorem pf_call : ∀ (p : Pf), fitPf p → ∀ (h : AH) (w b : Nat) (bs : List UInt8), Wr h w b bs → bs.length + (encPf p).length ≤ 2 ^ 40 → ∃ v h', RunCall E1 (.f 36) [.ptr w 0, .agg p.cells] h v h' ∧ WrTo h w b bs (encPf p) v h'
 | .mk o n ms mnl mcap ks nl cap, hfit, h, w, b, bs, hw, hl => by
  generalize hp : Pf.mk o n ms mnl mcap ks nl cap = p
  have e1 : p.kd = o := by rw [← hp]; rfl
  have e2 : p.fm = n := by rw [← hp]; rfl
  have e3 : p.ms = ms := by rw [← hp]; rfl
  have e4 : p.ks = ks := by rw [← hp]; rfl
  have e5 : encPf p = encNum o ++ (encNum n ++ (encNum (ms.length : Nat) ++ (encBgs ms ++ (encNum (ks.length : Nat) ++ encPfL ks)))) := by rw [← hp]; rfl
  rw [hp, e5] at hl
  simp only [List.length_append] at hl
  simp only [fitPf] at hfit
  obtain ⟨i1, i2, i3, i4, i5, i6⟩ := hfit
  refine shared0 _ (by kernel_rfl) f36_ok fun s hs hh hd hr => ?_
  have h0 := hs 0 _ rfl
  have h1 := hs 1 _ rfl
  subst hh
  have hb := hw.bl
  have hwl := hw.wl
  have hg1 : (s.h.alloc (.cells p.cells true)).get s.h.next = some (.cells p.cells true) := box_get
  simp -implicitDefEqProofs only [f36_fn, f36, V, ↓reduceIte, reduceEqDiff, reduceAdd, reduceMul, reduceCtorEq, reduceEq, reduceLT, reduceLE, h0, h1, e1]
  refine callK_of (number_call (b := b) hw.alloc i1 (by omega)) ?_
  rintro v h2 ⟨rfl, b2, hw2, hf2, hx2⟩
  have hf2 : Fr (s.h.alloc (.cells p.cells true)) h2 w b := hf2
  have hx2 : s.h.next + 1 ≤ b2 := hx2
  have l2 : s.h.next + 1 ≤ h2.next := hf2.le
  have hg2 : h2.get s.h.next = some (.cells p.cells true) := hf2.keep (by rw [a_next]; omega) (by omega) (by omega) hg1
  simp -implicitDefEqProofs only [V, ↓reduceIte, reduceEqDiff, reduceAdd, reduceMul, reduceCtorEq, reduceEq, reduceLT, reduceLE, h0, hg2, e2]
  refine callK_of (number_call (b := b2) hw2 i2 (by simp only [List.length_append]; omega)) ?_
  rintro v h3 ⟨rfl, b3, hw3, hf3, hx3⟩
  have hf3 : Fr h2 h3 w b2 := hf3
  have hx3 : h2.next ≤ b3 := hx3
  have l3 : h2.next ≤ h3.next := hf3.le
  have hg3 : h3.get s.h.next = some (.cells p.cells true) := hf3.keep (by omega) (by omega) (by omega) hg2
  simp -implicitDefEqProofs only [V, ↓reduceIte, reduceEqDiff, reduceAdd, reduceMul, reduceCtorEq, reduceEq, reduceLT, reduceLE, h0, hg3, e3]
  refine callK_of (number_call (b := b3) hw3 (in64_nat i3) (by simp only [List.length_append]; omega)) ?_
  rintro v h4 ⟨rfl, b4, hw4, hf4, hx4⟩
  have hf4 : Fr h3 h4 w b3 := hf4
  have hx4 : h3.next ≤ b4 := hx4
  have l4 : h3.next ≤ h4.next := hf4.le
  have hg4 : h4.get s.h.next = some (.cells p.cells true) := hf4.keep (by omega) (by omega) (by omega) hg3
  simp -implicitDefEqProofs only [V, ↓reduceIte, reduceEqDiff, reduceAdd, reduceMul, reduceCtorEq, reduceEq, reduceLT, reduceLE, h0, hg4, e3]
  refine (f36_bigs w p (by rw [e3]; exact i3) p.ms 0 _ b4 (bs ++ encNum o ++ encNum n ++ encNum (ms.length : Nat)) rfl (Nat.zero_le _) ?_ ?_ (by rw [e3]; exact i4) ?_ ?_ ?_ ?_ ?_).mono ?_
  ·exact hw4
  ·rw [e3]
   simp only [List.length_append]
   omega
  ·simp -implicitDefEqProofs only [V, ↓reduceIte, reduceEqDiff, reduceAdd, reduceMul, reduceCtorEq, reduceEq, reduceLT, reduceLE, h0]
  ·simp -implicitDefEqProofs only [V, ↓reduceIte, reduceEqDiff, reduceAdd, reduceMul, reduceCtorEq, reduceEq, reduceLT, reduceLE]
  ·simp -implicitDefEqProofs only [V, ↓reduceIte, reduceEqDiff, reduceAdd, reduceMul, reduceCtorEq, reduceEq, reduceLT, reduceLE, e3]
  ·simp -implicitDefEqProofs only [V, ↓reduceIte, reduceEqDiff, reduceAdd, reduceMul, reduceCtorEq, reduceEq, reduceLT, reduceLE] <;> rfl
  ·simp -implicitDefEqProofs only [V, ↓reduceIte, reduceEqDiff, reduceAdd, reduceMul, reduceCtorEq, reduceEq, reduceLT, reduceLE, hd]
  ·rintro e s5 ⟨rfl, rd, ⟨b5, hw5, hf5, hx5⟩, k0, k3⟩
   have hbeq : Nat.beq 0 0 = true := rfl
   have hf5 : Fr h4 s5.h w b4 := hf5
   have hx5 : b5 = b4 ∨ h4.next ≤ b5 := hx5
   have l5 : h4.next ≤ s5.h.next := hf5.le
   have hg5 : s5.h.get s.h.next = some (.cells p.cells true) := hf5.keep (by omega) (by omega) (by omega) hg4
   have k0 : s5.eval (.t 0) = some (.ptr w 0) := by rw [k0]; simp -implicitDefEqProofs only [V, ↓reduceIte, reduceEqDiff, reduceAdd, reduceMul, reduceCtorEq, reduceEq, reduceLT, reduceLE, h0]
   have k3 : s5.eval (.t 3) = some (.ptr s.h.next 0) := by rw [k3]; simp -implicitDefEqProofs only [V, ↓reduceIte, reduceEqDiff, reduceAdd, reduceMul, reduceCtorEq, reduceEq, reduceLT, reduceLE]
   rw [e3] at hw5
   simp -implicitDefEqProofs only [V, ↓reduceIte, reduceEqDiff, reduceAdd, reduceMul, reduceCtorEq, reduceEq, reduceLT, reduceLE, hbeq, k0, k3, hg5, e4]
   refine callK_of (number_call (b := b5) hw5 (in64_nat i5) (by simp only [List.length_append]; omega)) ?_
   rintro v h6 ⟨rfl, b6, hw6, hf6, hx6⟩
   have hf6 : Fr s5.h h6 w b5 := hf6
   have hx6 : s5.h.next ≤ b6 := hx6
   have l6 : s5.h.next ≤ h6.next := hf6.le
   have hg6 : h6.get s.h.next = some (.cells p.cells true) := hf6.keep (by omega) (by omega) (by omega) hg5
   simp -implicitDefEqProofs only [V, ↓reduceIte, reduceEqDiff, reduceAdd, reduceMul, reduceCtorEq, reduceEq, reduceLT, reduceLE, k0, k3, hg6, e4]
   refine (f36_kids w p (by rw [e4]; exact i5) p.ks 0 _ b6 (bs ++ encNum o ++ encNum n ++ encNum (ms.length : Nat) ++ encBgs ms ++ encNum (ks.length : Nat)) rfl (Nat.zero_le _) ?_ ?_ (fun k hk => pfL_call ks i6 k (by rw [← e4]; exact hk) w) ?_ ?_ ?_ ?_ ?_).mono ?_
   ·exact hw6
   ·rw [e4]
    simp only [List.length_append]
    omega
   ·simp -implicitDefEqProofs only [V, ↓reduceIte, reduceEqDiff, reduceAdd, reduceMul, reduceCtorEq, reduceEq, reduceLT, reduceLE, k0]
   ·simp -implicitDefEqProofs only [V, ↓reduceIte, reduceEqDiff, reduceAdd, reduceMul, reduceCtorEq, reduceEq, reduceLT, reduceLE]
   ·simp -implicitDefEqProofs only [V, ↓reduceIte, reduceEqDiff, reduceAdd, reduceMul, reduceCtorEq, reduceEq, reduceLT, reduceLE, e4]
   ·simp -implicitDefEqProofs only [V, ↓reduceIte, reduceEqDiff, reduceAdd, reduceMul, reduceCtorEq, reduceEq, reduceLT, reduceLE] <;> rfl
   ·simp -implicitDefEqProofs only [V, ↓reduceIte, reduceEqDiff, reduceAdd, reduceMul, reduceCtorEq, reduceEq, reduceLT, reduceLE, rd]
   ·rintro e s' ⟨rfl, rd, b7, hw7, hf7, hx7⟩
    have hbeq : Nat.beq 4 4 = true := rfl
    simp -implicitDefEqProofs only [V, ↓reduceIte, reduceEqDiff, reduceAdd, reduceMul, reduceCtorEq, reduceEq, reduceLT, reduceLE, hbeq, rd]
    have hf7 : Fr h6 s'.h w b6 := hf7
    have hx7 : b7 = b6 ∨ h6.next ≤ b7 := hx7
    have l7 : h6.next ≤ s'.h.next := hf7.le
    refine ⟨[], rfl, rfl, b7, ?_, ?_, ?_⟩
    ·rw [e5, ← e4]
     rw [← e4] at hw7
     simpa only [List.append_assoc] using hw7
    ·have f1 : Fr s.h (s.h.alloc (.cells p.cells true)) w b := Fr.alloc
     exact f1.trans (.inl rfl) (hf2.trans (.inr (by rw [a_next]; omega)) (hf3.trans (.inr (by omega)) (hf4.trans (.inr (by omega)) (hf5.trans hx5 (hf6.trans (.inr (by omega)) hf7)))))
    ·omega
theorem pfL_call : ∀ (l : List Pf), fitPfL l → ∀ k ∈ l, ∀ (w : Nat) (h : AH) (b : Nat) (bs : List UInt8), Wr h w b bs → bs.length + (encPf k).length ≤ 2 ^ 40 → ∃ v h', RunCall E1 (.f 36) [.ptr w 0, .agg k.cells] h v h' ∧ WrTo h w b bs (encPf k) v h'
 | [], _, k, hk, _, _, _, _, _, _ => by cases hk
 | a :: r, hfit, k, hk, w, h, b, bs, hw, hl => by
  simp only [fitPfL] at hfit
  rcases List.mem_cons.1 hk with e | hk
  ·rw [e] at hl ⊢; exact pf_call a hfit.1 h w b bs hw hl
  ·exact pfL_call r hfit.2 k hk w h b bs hw hl
end
end Go.Proofs.YtijpnlmmaoecgaaGreatDoor

namespace Go.Proofs.YtijpnlmmaoecgaaGreatDoor
open Go Go.AM
theorem fnv_step {P : Program} {t t' : TypeId} {g g' : Bool} {h : Nat} {c : UInt8} (hh : h < 4294967296) : ∃ x : Int, binA P .xor t g (.val (.int .u32 (h : Int))) (.val (.int .u32 (IntKind.u32.wrap (c.toNat : Nat)))) = some (.val (.int .u32 x)) ∧ IntKind.u32.wrap (x * 16777619) = ((fnv1 h c : Nat) : Int) := by
 have hc := c.toNat_lt
 have e : IntKind.u32.wrap (c.toNat : Nat) = ((c.toNat : Nat) : Int) := by
  rw [wrap_u32_mod, Nat.mod_eq_of_lt (by omega)]
 refine ⟨((h ^^^ c.toNat : Nat) : Int), ?_, ?_⟩
 ·rw [e, v_xor, xor_u32 hh (by omega)]
 ·have : ((h ^^^ c.toNat : Nat) : Int) * 16777619 = (((h ^^^ c.toNat) * 16777619 : Nat) : Int) := by rw [Int.natCast_mul]; rfl
  rw [this, wrap_u32_mod]
  rfl
theorem idx_str {t : ByteArray} {i : Nat} {c : UInt8} {r : List UInt8} (h : t.data.toList.drop i = c :: r) : idxStrV (.val (.string t)) i = some (.val (.int .u8 (c.toNat : Nat))) := by
 have : t.data.toList[i]? = some c := by
  have := List.head?_drop (l := t.data.toList) (i := i)
  rw [h] at this
  exact this.symm
 simp only [idxStrV, this, Option.map_some]
theorem f37_loop (t : ByteArray) (hp : t.data.toList.length < 2 ^ 60) : ∀ (r : List UInt8) (i h : Nat) (s : St), t.data.toList.drop i = r → h < 4294967296 →
  s.eval (.t 0) = some (.val (.string t)) → s.eval (.t 3) = some (.val (.int .u32 (h : Nat))) → s.eval (.t 4) = some (.val (.int .i64 (i : Nat))) → s.defers = [] →
  Run E1 f37_l0 s fun e s' => e = .exit 0 ∧ s'.defers = [] ∧ s'.eval (.t 3) = some (.val (.int .u32 (r.foldl fnv1 h : Nat)))
 | [], i, h, s, hd, hh, h0, h3, h4, hf => by
  have c1 := dec_ge (List.drop_eq_nil_iff.1 hd)
  have q : lenStrV (.val (.string t)) = some (.val (.int .i64 (t.data.toList.length : Nat))) := rfl
  apply loop_of (rfl : f37_l0 = .loop f37_b0)
  simp -implicitDefEqProofs only [f37_b0, V, ↓reduceIte, reduceEqDiff, reduceAdd, reduceMul, reduceCtorEq, reduceEq, reduceLT, reduceLE, h0, h3, h4, hf, q, c1, List.foldl_nil]
 | c :: r, i, h, s, hd, hh, h0, h3, h4, hf => by
  obtain ⟨hlt, hd'⟩ := lt_of_drop hd
  have c1 := dec_lt hlt
  have w1 := wrap_succ (i := i) (by omega)
  have q : lenStrV (.val (.string t)) = some (.val (.int .i64 (t.data.toList.length : Nat))) := rfl
  obtain ⟨x, hx1, hx2⟩ := fnv_step (P := E1.P) (t := 149) (t' := 149) (g := false) (g' := true) (c := c) hh
  apply loop_of (rfl : f37_l0 = .loop f37_b0)
  simp -implicitDefEqProofs only [f37_b0, V, ↓reduceIte, reduceEqDiff, reduceAdd, reduceMul, reduceCtorEq, reduceEq, reduceLT, reduceLE, h0, h3, h4, q, c1, idx_str hd, hx1, hx2, w1]
  refine (f37_loop t hp r (i + 1) (fnv1 h c) _ hd' (fnv1_lt _ _) ?_ ?_ ?_ ?_).mono ?_
  ·simp -implicitDefEqProofs only [V, ↓reduceIte, reduceEqDiff, reduceAdd, reduceMul, reduceCtorEq, reduceEq, reduceLT, reduceLE, h0]
  ·simp -implicitDefEqProofs only [V, ↓reduceIte, reduceEqDiff, reduceAdd, reduceMul, reduceCtorEq, reduceEq, reduceLT, reduceLE]
  ·simp -implicitDefEqProofs only [V, ↓reduceIte, reduceEqDiff, reduceAdd, reduceMul, reduceCtorEq, reduceEq, reduceLT, reduceLE]
  ·simp -implicitDefEqProofs only [V, ↓reduceIte, reduceEqDiff, reduceAdd, reduceMul, reduceCtorEq, reduceEq, reduceLT, reduceLE, hf]
  ·rintro e s' ⟨r1, r2, r3⟩
   exact ⟨r1, r2, r3⟩
theorem sum_call {t : ByteArray} (hp : t.data.toList.length < 2 ^ 60) : ∀ h, RunCall E1 (.f 37) [.val (.string t)] h (.val (.int .i64 (fnv t.data.toList : Nat))) h := by
 refine pure0 (by kernel_rfl) f37_ok (mem1 (Tree.val _)) rfl (Tree.val _) fun s hs hh hd hr => ?_
 have h0 := hs 0 _ rfl
 have hl := fnv_lt t.data.toList
 have w1 : IntKind.i64.wrap (fnv t.data.toList : Nat) = ((fnv t.data.toList : Nat) : Int) := wrap_in (by omega)
 simp -implicitDefEqProofs only [f37_fn, f37, V, ↓reduceIte, reduceEqDiff, reduceAdd, reduceMul, reduceCtorEq, reduceEq, reduceLT, reduceLE, h0]
 refine (f37_loop t hp t.data.toList 0 2166136261 _ rfl (by decide) ?_ ?_ ?_ ?_).mono ?_
 ·simp -implicitDefEqProofs only [V, ↓reduceIte, reduceEqDiff, reduceAdd, reduceMul, reduceCtorEq, reduceEq, reduceLT, reduceLE, h0]
 ·simp -implicitDefEqProofs only [V, ↓reduceIte, reduceEqDiff, reduceAdd, reduceMul, reduceCtorEq, reduceEq, reduceLT, reduceLE] <;> rfl
 ·simp -implicitDefEqProofs only [V, ↓reduceIte, reduceEqDiff, reduceAdd, reduceMul, reduceCtorEq, reduceEq, reduceLT, reduceLE] <;> rfl
 ·simp -implicitDefEqProofs only [V, ↓reduceIte, reduceEqDiff, reduceAdd, reduceMul, reduceCtorEq, reduceEq, reduceLT, reduceLE, hd]
 ·rintro e s' ⟨rfl, rd, r3⟩
  have hbeq : Nat.beq 0 0 = true := rfl
  have r3 : s'.eval (.t 3) = some (.val (.int .u32 (fnv t.data.toList : Nat))) := r3
  simp -implicitDefEqProofs only [V, ↓reduceIte, reduceEqDiff, reduceAdd, reduceMul, reduceCtorEq, reduceEq, reduceLT, reduceLE, hbeq, rd, r3, w1]
theorem f12_sols (w : Nat) (p : Ce) (hp : p.ss.length < 2 ^ 60) : ∀ (r : List So) (i : Nat) (s : St) (b : Nat) (bs : List UInt8), p.ss.drop i = r → i ≤ p.ss.length → Wr s.h w b bs → bs.length + (encSos r).length ≤ 2 ^ 40 → (∀ k ∈ r, fitSo k) →
  s.eval (.t 3) = some (.ptr w 0) → s.eval (.t 26) = some p.ssA → s.eval (.t 27) = some (.val (.int .i64 (p.ss.length : Nat))) → s.eval (.t 28) = some (.val (.int .i64 (i : Nat))) → s.defers = [] →
  Run E1 f12_l0 s fun e s' => e = .exit 0 ∧ s'.defers = [] ∧ LpTo s.h w b bs (encSos r) s'.h ∧ s'.eval (.t 3) = some (.ptr w 0) ∧ s'.eval (.t 1) = s.eval (.t 1)
 | [], i, s, b, bs, hd, hi, hw, hl, hn, h0, h24, h25, h26, hf => by
  have c1 := dec_ge (List.drop_eq_nil_iff.1 hd)
  apply loop_of (rfl : f12_l0 = .loop f12_b0)
  simp -implicitDefEqProofs only [f12_b0, V, ↓reduceIte, reduceEqDiff, reduceAdd, reduceMul, reduceCtorEq, reduceEq, reduceLT, reduceLE, h0, h24, h25, h26, hf, c1]
  exact LpTo.nil hw
 | k :: r, i, s, b, bs, hd, hi, hw, hl, hn, h0, h24, h25, h26, hf => by
  obtain ⟨hlt, hd'⟩ := lt_of_drop hd
  have c1 := dec_lt hlt
  have w1 := wrap_succ (i := i) (by omega)
  obtain ⟨g1, g2⟩ := hn k List.mem_cons_self
  have hs := fun h : AH => store_new (h := h) (z := [.val (.string ⟨#[]⟩), .val (.int .i64 0), .val (.string ⟨#[]⟩), .val (.int .i64 0), .val (.slice none 0 0)]) (n := 5) rfl k.len
  rw [encSos, List.flatMap_cons, List.length_append, ← encSos, encSo, List.length_append] at hl
  have hb := hw.bl
  have hwl := hw.wl
  apply loop_of (rfl : f12_l0 = .loop f12_b0)
  simp -implicitDefEqProofs only [f12_b0, V, ↓reduceIte, reduceEqDiff, reduceAdd, reduceMul, reduceCtorEq, reduceEq, reduceLT, reduceLE, h0, h24, h25, h26, c1, Ce.ssAt hd, hs]
  have hw1 : Wr ((s.h.alloc (.cells [.val (.string ⟨#[]⟩), .val (.int .i64 0), .val (.string ⟨#[]⟩), .val (.int .i64 0), .val (.slice none 0 0)] true)).put s.h.next (some (.cells k.cells true))) w b bs :=
   hw.alloc.put (by omega) (by omega)
  have hf1 : Fr s.h ((s.h.alloc (.cells [.val (.string ⟨#[]⟩), .val (.int .i64 0), .val (.string ⟨#[]⟩), .val (.int .i64 0), .val (.slice none 0 0)] true)).put s.h.next (some (.cells k.cells true))) w b :=
   ⟨by rw [p_next, a_next]; omega, fun x hx _ _ => by rw [get_put_old (by omega), get_alloc_old hx]⟩
  have hg1 : ((s.h.alloc (.cells [.val (.string ⟨#[]⟩), .val (.int .i64 0), .val (.string ⟨#[]⟩), .val (.int .i64 0), .val (.slice none 0 0)] true)).put s.h.next (some (.cells k.cells true))).get s.h.next = some (.cells k.cells true) := put_get
  refine callK_of (text_call (b := b) hw1 (by omega)) ?_
  rintro v h2 ⟨rfl, b2, hw2, hf2, hx2⟩
  have hf2 : Fr ((s.h.alloc (.cells [.val (.string ⟨#[]⟩), .val (.int .i64 0), .val (.string ⟨#[]⟩), .val (.int .i64 0), .val (.slice none 0 0)] true)).put s.h.next (some (.cells k.cells true))) h2 w b := hf2
  have hx2 : s.h.next + 1 ≤ b2 := hx2
  have l2 : s.h.next + 1 ≤ h2.next := hf2.le
  have hg2 : h2.get s.h.next = some (.cells k.cells true) := hf2.keep (by rw [p_next, a_next]; omega) (by omega) (by omega) hg1
  simp -implicitDefEqProofs only [V, ↓reduceIte, reduceEqDiff, reduceAdd, reduceMul, reduceCtorEq, reduceEq, reduceLT, reduceLE, h0, hg2]
  refine callK_of (pred_call k.p g2 _ w b2 _ hw2 (by simp only [List.length_append]; omega)) ?_
  rintro v h3 ⟨rfl, b3, hw3, hf3, hx3⟩
  have hf3 : Fr h2 h3 w b2 := hf3
  have hx3 : h2.next ≤ b3 := hx3
  simp -implicitDefEqProofs only [V, ↓reduceIte, reduceEqDiff, reduceAdd, reduceMul, reduceCtorEq, reduceEq, reduceLT, reduceLE, h26, w1]
  refine (f12_sols w p hp r (i + 1) _ b3 (bs ++ encSo k) hd' (by omega) ?_ (by rw [encSo]; simp only [List.length_append]; omega) (fun k' hk => hn k' (List.mem_cons_of_mem _ hk)) ?_ ?_ ?_ ?_ ?_).mono ?_
  ·rw [encSo, ← List.append_assoc]
   exact hw3
  ·simp -implicitDefEqProofs only [V, ↓reduceIte, reduceEqDiff, reduceAdd, reduceMul, reduceCtorEq, reduceEq, reduceLT, reduceLE, h0]
  ·simp -implicitDefEqProofs only [V, ↓reduceIte, reduceEqDiff, reduceAdd, reduceMul, reduceCtorEq, reduceEq, reduceLT, reduceLE, h24]
  ·simp -implicitDefEqProofs only [V, ↓reduceIte, reduceEqDiff, reduceAdd, reduceMul, reduceCtorEq, reduceEq, reduceLT, reduceLE, h25]
  ·simp -implicitDefEqProofs only [V, ↓reduceIte, reduceEqDiff, reduceAdd, reduceMul, reduceCtorEq, reduceEq, reduceLT, reduceLE]
  ·simp -implicitDefEqProofs only [V, ↓reduceIte, reduceEqDiff, reduceAdd, reduceMul, reduceCtorEq, reduceEq, reduceLT, reduceLE, hf]
  ·rintro e s' ⟨r1, r2, r3, r4, r5⟩
   refine ⟨r1, r2, ?_, r4, ?_⟩
   ·rw [encSos, List.flatMap_cons, ← encSos]
    exact LpTo.app (hf1.trans (.inl rfl) (hf2.trans (.inr (by rw [p_next, a_next]; omega)) hf3)) (.inr (by omega)) r3
   ·rw [r5]; simp -implicitDefEqProofs only [V, ↓reduceIte, reduceEqDiff, reduceAdd, reduceMul, reduceCtorEq, reduceEq, reduceLT, reduceLE]
theorem f12_pfs (w : Nat) (p : Ce) (hp : p.ps.length < 2 ^ 60) : ∀ (r : List Pf) (i : Nat) (s : St) (b : Nat) (bs : List UInt8), p.ps.drop i = r → i ≤ p.ps.length → Wr s.h w b bs → bs.length + (encPfL r).length ≤ 2 ^ 40 → fitPfL r →
  s.eval (.t 3) = some (.ptr w 0) → s.eval (.t 47) = some p.psA → s.eval (.t 48) = some (.val (.int .i64 (p.ps.length : Nat))) → s.eval (.t 49) = some (.val (.int .i64 (i : Nat))) → s.defers = [] →
  Run E1 f12_l1 s fun e s' => e = .exit 2 ∧ s'.defers = [] ∧ LpTo s.h w b bs (encPfL r) s'.h ∧ s'.eval (.t 3) = some (.ptr w 0)
 | [], i, s, b, bs, hd, hi, hw, hl, hn, h0, h24, h25, h26, hf => by
  have c1 := dec_ge (List.drop_eq_nil_iff.1 hd)
  apply loop_of (rfl : f12_l1 = .loop f12_b1)
  simp -implicitDefEqProofs only [f12_b1, V, ↓reduceIte, reduceEqDiff, reduceAdd, reduceMul, reduceCtorEq, reduceEq, reduceLT, reduceLE, h0, h24, h25, h26, hf, c1]
  exact LpTo.nil hw
 | k :: r, i, s, b, bs, hd, hi, hw, hl, hn, h0, h24, h25, h26, hf => by
  obtain ⟨hlt, hd'⟩ := lt_of_drop hd
  have c1 := dec_lt hlt
  have w1 := wrap_succ (i := i) (by omega)
  simp only [fitPfL] at hn
  have hs := fun h : AH => store_new (h := h) (z := [.val (.int .i64 0), .val (.int .i64 0), .val (.slice none 0 0), .val (.slice none 0 0)]) (n := 4) rfl k.len
  rw [encPfL, List.length_append] at hl
  apply loop_of (rfl : f12_l1 = .loop f12_b1)
  simp -implicitDefEqProofs only [f12_b1, V, ↓reduceIte, reduceEqDiff, reduceAdd, reduceMul, reduceCtorEq, reduceEq, reduceLT, reduceLE, h0, h24, h25, h26, c1, Ce.psAt hd, hs]
  have hw1 : Wr ((s.h.alloc (.cells [.val (.int .i64 0), .val (.int .i64 0), .val (.slice none 0 0), .val (.slice none 0 0)] true)).put s.h.next (some (.cells k.cells true))) w b bs :=
   hw.alloc.put (by have := hw.wl; omega) (by have := hw.bl; omega)
  have hf1 : Fr s.h ((s.h.alloc (.cells [.val (.int .i64 0), .val (.int .i64 0), .val (.slice none 0 0), .val (.slice none 0 0)] true)).put s.h.next (some (.cells k.cells true))) w b :=
   ⟨by rw [p_next, a_next]; omega, fun x hx _ _ => by rw [get_put_old (by omega), get_alloc_old hx]⟩
  refine callK_of (pf_call k hn.1 _ w b bs hw1 (by omega)) ?_
  rintro v h2 ⟨rfl, b2, hw2, hf2, hx2⟩
  have hx2 : s.h.next + 1 ≤ b2 := hx2
  simp -implicitDefEqProofs only [V, ↓reduceIte, reduceEqDiff, reduceAdd, reduceMul, reduceCtorEq, reduceEq, reduceLT, reduceLE, h26, w1]
  refine (f12_pfs w p hp r (i + 1) _ b2 (bs ++ encPf k) hd' (by omega) ?_ (by rw [List.length_append]; omega) hn.2 ?_ ?_ ?_ ?_ ?_).mono ?_
  ·exact hw2
  ·simp -implicitDefEqProofs only [V, ↓reduceIte, reduceEqDiff, reduceAdd, reduceMul, reduceCtorEq, reduceEq, reduceLT, reduceLE, h0]
  ·simp -implicitDefEqProofs only [V, ↓reduceIte, reduceEqDiff, reduceAdd, reduceMul, reduceCtorEq, reduceEq, reduceLT, reduceLE, h24]
  ·simp -implicitDefEqProofs only [V, ↓reduceIte, reduceEqDiff, reduceAdd, reduceMul, reduceCtorEq, reduceEq, reduceLT, reduceLE, h25]
  ·simp -implicitDefEqProofs only [V, ↓reduceIte, reduceEqDiff, reduceAdd, reduceMul, reduceCtorEq, reduceEq, reduceLT, reduceLE]
  ·simp -implicitDefEqProofs only [V, ↓reduceIte, reduceEqDiff, reduceAdd, reduceMul, reduceCtorEq, reduceEq, reduceLT, reduceLE, hf]
  ·rintro e s' ⟨r1, r2, r3, r4⟩
   refine ⟨r1, r2, ?_, r4⟩
   rw [encPfL]
   exact LpTo.app (hf1.trans (.inl rfl) hf2) (.inr (by omega)) r3
theorem shr_n {P : Program} {t : TypeId} {g : Bool} {u k : Nat} {k' : IntKind} (hk : k ≤ 64) : binA P .shr t g (.val (.int .i64 (u : Int))) (.val (.int k' (k : Nat))) = some (.val (.int .i64 ((u / 2 ^ k : Nat) : Int))) := by
 rw [v_shr (by exact hk)]
 have : ((u : Int)).fdiv (2 ^ k) = ((u / 2 ^ k : Nat) : Int) := by
  rw [Int.fdiv_eq_ediv_of_nonneg _ (Int.pow_nonneg (by decide))]
  norm_cast
 rw [this]
theorem fill_four {s : St} {x1 x2 x3 x4 : Opd} {z1 z2 z3 z4 a b c d : Value} (h1 : s.eval x1 = some (.val a)) (h2 : s.eval x2 = some (.val b)) (h3 : s.eval x3 = some (.val c)) (h4 : s.eval x4 = some (.val d)) :
  fill s [.val z1, .val z2, .val z3, .val z4] [(0, 1, x1), (1, 1, x2), (2, 1, x3), (3, 1, x4)] = some [.val a, .val b, .val c, .val d] := by
 simp only [fill, h1, h2, h3, h4]
 rfl
theorem fillO_own {b o n e : Nat} {c : Option Nat} : fillO (some (.own b o n e c)) = some [.own b o n e c] := rfl
theorem tail_cells (n : Nat) : bytesA (tail4 n) = [.val (.int .u8 ((n / 2 ^ 24 % 256 : Nat) : Int)), .val (.int .u8 ((n / 2 ^ 16 % 256 : Nat) : Int)), .val (.int .u8 ((n / 2 ^ 8 % 256 : Nat) : Int)), .val (.int .u8 ((n % 256 : Nat) : Int))] := by
 have e : ∀ m : Nat, (UInt8.ofNat m).toNat = m % 256 := fun m => by simp
 simp only [bytesA, tail4, List.flatMap_cons, List.flatMap_nil, List.cons_append, List.nil_append, e]
theorem head_wr {c : List AV} : Wr (((AH.empty.alloc (.cells c true)).alloc (.cells (bytesA [69, 67, 1]) true)).alloc (.cells [.own 1 0 3 1 (some 3)] true)) 2 1 [69, 67, 1] :=
 ⟨NoTag.empty.alloc.alloc.alloc, by simp only [a_next, e_next]; omega, by simp only [a_next, e_next]; omega, by decide, ⟨some 3, .inr rfl, by simp only [AH.get_alloc, a_next, e_next]; rfl⟩, by simp only [AH.get_alloc, a_next, e_next]; rfl⟩
theorem encode_ans {c : Ce} (hc : fitCe c) (hl : (encCe c).length ≤ 2 ^ 40) : ∃ b hc, hc.get b = some (.cells (bytesA (encCe c)) true) ∧ Ev fun n => enterA E1 (exec E1 n) 12 [.agg c.cells] .empty = some (.own b 0 (encCe c).length 1 none, hc) := by
 have hb0 : encCe c = [69, 67, 1] ++ (encText c.nm ++ (encNum c.dg ++ (encNum (c.ss.length : Nat) ++ (encSos c.ss ++ (encNum (c.ps.length : Nat) ++ encPfL c.ps))))) ++ tail4 (fnv (encBody c)) := rfl
 rw [hb0] at hl
 simp only [List.length_append, tail4_len, List.length_cons, List.length_nil] at hl
 obtain ⟨v, h', ⟨b, rfl, hb⟩, hrun⟩ := enter1 (g := 12) (l := [.agg c.cells]) (h := .empty) (fun v h' => ∃ b, v = .own b 0 (encCe c).length 1 none ∧ h'.get b = some (.cells (bytesA (encCe c)) true)) f12_ok fun s hs hh hd hr => by
  apply wp_run
  have h0 := hs 0 _ rfl
  have q1 : ∀ s' : St, fill s' [.val (.int .u8 0), .val (.int .u8 0), .val (.int .u8 0)] [(0, 1, .c (.val (.int .u8 69))), (1, 1, .c (.val (.int .u8 67))), (2, 1, .c (.val (.int .u8 1)))] = some (bytesA [69, 67, 1]) := fun s' => rfl
  have hg : (((AH.empty.alloc (.cells c.cells true)).alloc (.cells (bytesA [69, 67, 1]) true)).alloc (.cells [.own 1 0 3 1 (some 3)] true)).get 0 = some (.cells c.cells true) := by simp only [AH.get_alloc, a_next, e_next]; rfl
  simp -implicitDefEqProofs only [f12_fn, f12, V, ↓reduceIte, reduceEqDiff, reduceAdd, reduceMul, reduceCtorEq, reduceEq, reduceLT, reduceLE, h0, hh, q1, fill_one, fillO_own]
  have hw := head_wr (c := c.cells)
  refine callK_of (text_call (b := 1) hw (by simp only [List.length_cons, List.length_nil]; omega)) ?_
  rintro v h2 ⟨rfl, b2, hw2, hf2, hx2⟩
  have hf2 : Fr (((AH.empty.alloc (.cells c.cells true)).alloc (.cells (bytesA [69, 67, 1]) true)).alloc (.cells [.own 1 0 3 1 (some 3)] true)) h2 2 1 := hf2
  have hx2 : 3 ≤ b2 := hx2
  have l2 : 3 ≤ h2.next := hf2.le
  have hg2 : h2.get 0 = some (.cells c.cells true) := hf2.keep (by simp only [a_next, e_next]; omega) (by omega) (by omega) hg
  simp -implicitDefEqProofs only [V, ↓reduceIte, reduceEqDiff, reduceAdd, reduceMul, reduceCtorEq, reduceEq, reduceLT, reduceLE, hg2]
  refine callK_of (number_call (b := b2) hw2 hc.dg (by simp only [List.length_append, List.length_cons, List.length_nil]; omega)) ?_
  rintro v h3 ⟨rfl, b3, hw3, hf3, hx3⟩
  have hf3 : Fr h2 h3 2 b2 := hf3
  have hx3 : h2.next ≤ b3 := hx3
  have l3 : h2.next ≤ h3.next := hf3.le
  have hg3 : h3.get 0 = some (.cells c.cells true) := hf3.keep (by omega) (by omega) (by omega) hg2
  simp -implicitDefEqProofs only [V, ↓reduceIte, reduceEqDiff, reduceAdd, reduceMul, reduceCtorEq, reduceEq, reduceLT, reduceLE, hg3]
  refine callK_of (number_call (b := b3) hw3 (in64_nat hc.sl) (by simp only [List.length_append, List.length_cons, List.length_nil]; omega)) ?_
  rintro v h4 ⟨rfl, b4, hw4, hf4, hx4⟩
  have hf4 : Fr h3 h4 2 b3 := hf4
  have hx4 : h3.next ≤ b4 := hx4
  have l4 : h3.next ≤ h4.next := hf4.le
  have hg4 : h4.get 0 = some (.cells c.cells true) := hf4.keep (by omega) (by omega) (by omega) hg3
  simp -implicitDefEqProofs only [V, ↓reduceIte, reduceEqDiff, reduceAdd, reduceMul, reduceCtorEq, reduceEq, reduceLT, reduceLE, hg4]
  refine (f12_sols 2 c hc.sl c.ss 0 _ b4 ([69, 67, 1] ++ encText c.nm ++ encNum c.dg ++ encNum (c.ss.length : Nat)) rfl (Nat.zero_le _) ?_ ?_ hc.ss ?_ ?_ ?_ ?_ ?_).mono ?_
  ·exact hw4
  ·simp only [List.length_append, List.length_cons, List.length_nil]
   omega
  ·simp -implicitDefEqProofs only [V, ↓reduceIte, reduceEqDiff, reduceAdd, reduceMul, reduceCtorEq, reduceEq, reduceLT, reduceLE]
  ·simp -implicitDefEqProofs only [V, ↓reduceIte, reduceEqDiff, reduceAdd, reduceMul, reduceCtorEq, reduceEq, reduceLT, reduceLE]
  ·simp -implicitDefEqProofs only [V, ↓reduceIte, reduceEqDiff, reduceAdd, reduceMul, reduceCtorEq, reduceEq, reduceLT, reduceLE]
  ·simp -implicitDefEqProofs only [V, ↓reduceIte, reduceEqDiff, reduceAdd, reduceMul, reduceCtorEq, reduceEq, reduceLT, reduceLE] <;> rfl
  ·simp -implicitDefEqProofs only [V, ↓reduceIte, reduceEqDiff, reduceAdd, reduceMul, reduceCtorEq, reduceEq, reduceLT, reduceLE, hd]
  rintro e s5 ⟨rfl, rd, ⟨b5, hw5, hf5, hx5⟩, k3, k1⟩
  have hbeq : Nat.beq 0 0 = true := rfl
  have hf5 : Fr h4 s5.h 2 b4 := hf5
  have hx5 : b5 = b4 ∨ h4.next ≤ b5 := hx5
  have l5 : h4.next ≤ s5.h.next := hf5.le
  have hg5 : s5.h.get 0 = some (.cells c.cells true) := hf5.keep (by omega) (by omega) (by omega) hg4
  have k1 : s5.eval (.t 1) = some (.ptr 0 0) := by rw [k1]; simp -implicitDefEqProofs only [V, ↓reduceIte, reduceEqDiff, reduceAdd, reduceMul, reduceCtorEq, reduceEq, reduceLT, reduceLE]
  simp -implicitDefEqProofs only [V, ↓reduceIte, reduceEqDiff, reduceAdd, reduceMul, reduceCtorEq, reduceEq, reduceLT, reduceLE, hbeq, k1, k3, hg5]
  refine callK_of (number_call (b := b5) hw5 (in64_nat hc.pl) (by simp only [List.length_append, List.length_cons, List.length_nil]; omega)) ?_
  rintro v h6 ⟨rfl, b6, hw6, hf6, hx6⟩
  have hf6 : Fr s5.h h6 2 b5 := hf6
  have hx6 : s5.h.next ≤ b6 := hx6
  have l6 : s5.h.next ≤ h6.next := hf6.le
  have hg6 : h6.get 0 = some (.cells c.cells true) := hf6.keep (by omega) (by omega) (by omega) hg5
  simp -implicitDefEqProofs only [V, ↓reduceIte, reduceEqDiff, reduceAdd, reduceMul, reduceCtorEq, reduceEq, reduceLT, reduceLE, k1, k3, hg6]
  refine (f12_pfs 2 c hc.pl c.ps 0 _ b6 ([69, 67, 1] ++ encText c.nm ++ encNum c.dg ++ encNum (c.ss.length : Nat) ++ encSos c.ss ++ encNum (c.ps.length : Nat)) rfl (Nat.zero_le _) ?_ ?_ hc.ps ?_ ?_ ?_ ?_ ?_).mono ?_
  ·exact hw6
  ·simp only [List.length_append, List.length_cons, List.length_nil]
   omega
  ·simp -implicitDefEqProofs only [V, ↓reduceIte, reduceEqDiff, reduceAdd, reduceMul, reduceCtorEq, reduceEq, reduceLT, reduceLE, k3]
  ·simp -implicitDefEqProofs only [V, ↓reduceIte, reduceEqDiff, reduceAdd, reduceMul, reduceCtorEq, reduceEq, reduceLT, reduceLE]
  ·simp -implicitDefEqProofs only [V, ↓reduceIte, reduceEqDiff, reduceAdd, reduceMul, reduceCtorEq, reduceEq, reduceLT, reduceLE]
  ·simp -implicitDefEqProofs only [V, ↓reduceIte, reduceEqDiff, reduceAdd, reduceMul, reduceCtorEq, reduceEq, reduceLT, reduceLE] <;> rfl
  ·simp -implicitDefEqProofs only [V, ↓reduceIte, reduceEqDiff, reduceAdd, reduceMul, reduceCtorEq, reduceEq, reduceLT, reduceLE, rd]
  rintro e s7 ⟨rfl, rd7, ⟨b7, hw7, hf7, hx7⟩, k37⟩
  have hbeq2 : Nat.beq 2 2 = true := rfl
  have eb : [69, 67, 1] ++ encText c.nm ++ encNum c.dg ++ encNum (c.ss.length : Nat) ++ encSos c.ss ++ encNum (c.ps.length : Nat) ++ encPfL c.ps = encBody c := by simp only [encBody, List.append_assoc]
  rw [eb] at hw7
  obtain ⟨cap, hc1, hc2⟩ := hw7.cw
  have hlb : (encBody c).length ≤ 2 ^ 40 := by
   rw [← eb]
   simp only [List.length_append, List.length_cons, List.length_nil]
   omega
  have hstr : strB s7.h (.own b7 0 (encBody c).length 1 cap) = some (.val (.string ⟨(encBody c).toArray⟩)) := by
   have := elems_row (cap := cap) hw7.cb (bytesA_len _)
   simp only [strB, this, bytesA_of, Option.map_some]
  have hsum := sum_call (t := ⟨(encBody c).toArray⟩) (Nat.lt_of_le_of_lt hlb (by decide))
  simp -implicitDefEqProofs only [V, ↓reduceIte, reduceEqDiff, reduceAdd, reduceMul, reduceCtorEq, reduceEq, reduceLT, reduceLE, hbeq2, k37, hc2, hstr, callK_all hsum]
  have z24 := fun k' : IntKind => shr_n (P := E1.P) (t := 3) (g := true) (u := fnv (encBody c)) (k := 24) (k' := k') (by omega)
  have z16 := fun k' : IntKind => shr_n (P := E1.P) (t := 3) (g := true) (u := fnv (encBody c)) (k := 16) (k' := k') (by omega)
  have z8 := fun k' : IntKind => shr_n (P := E1.P) (t := 3) (g := true) (u := fnv (encBody c)) (k := 8) (k' := k') (by omega)
  have ee : (({ data := (encBody c).toArray } : ByteArray).data.toList) = encBody c := rfl
  have e24 : ((24 : Nat) : Int) = 24 := rfl
  have e16 : ((16 : Nat) : Int) = 16 := rfl
  have e8 : ((8 : Nat) : Int) = 8 := rfl
  rw [e24] at z24
  rw [e16] at z16
  rw [e8] at z8
  have m1 : IntKind.u8.wrap ((fnv (encBody c) / 2 ^ 24 : Nat) : Int) = ((fnv (encBody c) / 2 ^ 24 % 256 : Nat) : Int) := wrap_u8_mod _
  have m2 : IntKind.u8.wrap ((fnv (encBody c) / 2 ^ 16 : Nat) : Int) = ((fnv (encBody c) / 2 ^ 16 % 256 : Nat) : Int) := wrap_u8_mod _
  have m3 : IntKind.u8.wrap ((fnv (encBody c) / 2 ^ 8 : Nat) : Int) = ((fnv (encBody c) / 2 ^ 8 % 256 : Nat) : Int) := wrap_u8_mod _
  have m4 : IntKind.u8.wrap ((fnv (encBody c) : Nat) : Int) = ((fnv (encBody c) % 256 : Nat) : Int) := wrap_u8_mod _
  have hfill : ∀ s' : St, s'.eval (.t 69) = some (.val (.int .u8 ((fnv (encBody c) / 2 ^ 24 % 256 : Nat) : Int))) → s'.eval (.t 72) = some (.val (.int .u8 ((fnv (encBody c) / 2 ^ 16 % 256 : Nat) : Int))) → s'.eval (.t 75) = some (.val (.int .u8 ((fnv (encBody c) / 2 ^ 8 % 256 : Nat) : Int))) → s'.eval (.t 77) = some (.val (.int .u8 ((fnv (encBody c) % 256 : Nat) : Int))) →
    fill s' [.val (.int .u8 0), .val (.int .u8 0), .val (.int .u8 0), .val (.int .u8 0)] [(0, 1, .t 69), (1, 1, .t 72), (2, 1, .t 75), (3, 1, .t 77)] = some (bytesA (tail4 (fnv (encBody c)))) := fun s' h1 h2 h3 h4 => by
   rw [fill_four h1 h2 h3 h4, tail_cells]
  simp -implicitDefEqProofs only [V, ↓reduceIte, reduceEqDiff, reduceAdd, reduceMul, reduceCtorEq, reduceEq, reduceLT, reduceLE, z24, z16, z8, m1, m2, m3, m4, hfill]
  have hw8 := hw7.alloc (cs := bytesA (tail4 (fnv (encBody c))))
  have t4 := tail4_len (fnv (encBody c))
  refine app_bytes' (b := b7) (cap := cap) (x := .own s7.h.next 0 4 1 (some 4)) (l := encBody c) (new := tail4 (fnv (encBody c))) (List.cons_ne_nil _ _) hc1 hw8.nt hw8.cb (by rw [t4, ← eb]; simp only [List.length_append, List.length_cons, List.length_nil]; omega)
   (elems_row (h := s7.h.alloc _) (by rw [AH.get_alloc, if_pos rfl]) rfl) ?_ ?_ ?_
  ·simp -implicitDefEqProofs only [V, ↓reduceIte, reduceEqDiff, reduceAdd, reduceMul, reduceCtorEq, reduceEq, reduceLT, reduceLE]
  ·simp -implicitDefEqProofs only [V, ↓reduceIte, reduceEqDiff, reduceAdd, reduceMul, reduceCtorEq, reduceEq, reduceLT, reduceLE]
  ·simp -implicitDefEqProofs only [V, ↓reduceIte, reduceEqDiff, reduceAdd, reduceMul, reduceCtorEq, reduceEq, reduceLT, reduceLE, rd7]
   have hnew : (appH (s7.h.alloc (.cells (bytesA (tail4 (fnv (encBody c)))) true)) b7 cap (bytesA (encBody c ++ tail4 (fnv (encBody c))))).get (s7.h.next + 1) = some (.cells (bytesA (encBody c ++ tail4 (fnv (encBody c)))) true) := appH_new
   exact ⟨_, rfl, _, rfl, hnew⟩
 exact ⟨b, h', hb, hrun⟩
theorem encode_call {c : Ce} (hc : fitCe c) (hl : (encCe c).length ≤ 2 ^ 40) : ∀ h, RunCall E1 (.f 12) [.agg c.cells] h (.imm (bytesA (encCe c)) (encCe c).length none) h := by
 obtain ⟨b, h', hb, hrun⟩ := encode_ans hc hl
 exact fun h => call_own (by kernel_rfl) (fresh_known (by kernel_rfl) _) (mem1 (Tree.ce c)) hrun hb (by rw [bytesA_len]; omega) (bytesA_leaf _) h
end Go.Proofs.YtijpnlmmaoecgaaGreatDoor
