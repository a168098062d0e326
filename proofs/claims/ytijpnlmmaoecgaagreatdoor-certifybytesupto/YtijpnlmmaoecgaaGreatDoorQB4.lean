/- A part of the proofs about certificates: YFa YFb. -/
import Derived.Test.YtijpnlmmaoecgaaGreatDoorQW1
import Derived.Test.YtijpnlmmaoecgaaGreatDoorQC1
import Derived.Test.YtijpnlmmaoecgaaGreatDoorQR1
import Derived.Test.YtijpnlmmaoecgaaGreatDoorQB3

set_option linter.all false
open Nat (reduceEqDiff reduceAdd reduceMul)
open Int (reduceEq reduceLT reduceLE)

namespace Go.Proofs.YtijpnlmmaoecgaaGreatDoor
open Go Go.AM
section
variable {E : Env} {s : St} {K : St → Prop} {r : List AOper} {dst : Option Nat}
def bosO (h : AH) : Option AV → Option (AV × AH)
 | some (.val (.string b)) => some (.own h.next 0 b.size 1 none, h.alloc (.cells (bytesA b.data.toList) true))
 | _ => none
theorem bosO_some {h : AH} {b : ByteArray} : bosO h (some (.val (.string b))) = some (.own h.next 0 b.size 1 none, h.alloc (.cells (bytesA b.data.toList) true)) := rfl
theorem s_bytesOfStr {x : Opd} : AM.wpOps E (⟨dst, none, .bytesOfStr x⟩ :: r) s K = stepH E r s dst K (bosO s.h (s.eval x)) := by
 rw [wpOps_vh (o := bosO s.h (s.eval x))]
 ·rfl
 ·have e : ∀ b : ByteArray, (b.data.toList.map fun b => AV.val (.int .u8 (b.toNat : Nat))) = bytesA b.data.toList := fun b => bytesA_map _
  simp only [runOp]
  cases s.eval x with
  | none => rfl
  | some v =>
   cases v with
   | val w =>
    cases w with
    | string b =>
     simp only [bosO, ← e]
     rfl
    | _ => rfl
   | _ => rfl
 ·exact fun _ _ => rfl
def TagsUp (lo : Nat) (h : AH) : Prop := ∀ x, lo ≤ x → x < h.next → ∀ k, h.get x = some k → (∃ cs rw', k = .cells cs rw' ∧ idsL cs = []) ∨ ∃ y t n, k = .tag y t n ∧ lo ≤ y ∧ y < h.next
theorem TagsUp.fresh {lo : Nat} {h : AH} (k : h.next ≤ lo) : TagsUp lo h := fun x h1 h2 => by omega
theorem TagsUp.more {lo : Nat} {h : AH} {n : Nat} {k : Blk} (hn : h.next ≤ n) (q : (∃ cs rw', k = .cells cs rw' ∧ idsL cs = []) ∨ ∃ y t n, k = .tag y t n ∧ lo ≤ y ∧ y < h.next) : (∃ cs rw', k = .cells cs rw' ∧ idsL cs = []) ∨ ∃ y t m, k = .tag y t m ∧ lo ≤ y ∧ y < n := by
 rcases q with q | ⟨y, t, m, e, h1, h2⟩
 ·exact .inl q
 ·exact .inr ⟨y, t, m, e, h1, by omega⟩
theorem TagsUp.alloc {lo : Nat} {h : AH} {cs : List AV} {rw' : Bool} (k : TagsUp lo h) (hc : idsL cs = []) : TagsUp lo (h.alloc (.cells cs rw')) := fun x h1 h2 kk e => by
 rw [AH.get_alloc] at e
 split at e
 ·cases e
  exact .inl ⟨_, _, rfl, hc⟩
 ·rw [a_next] at h2
  exact TagsUp.more (by rw [a_next]; omega) (k x h1 (by omega) kk e)
theorem TagsUp.drop {lo b : Nat} {h : AH} (k : TagsUp lo h) : TagsUp lo (h.put b none) := fun x h1 h2 kk e => by
 rw [AH.get_put] at e
 split at e
 ·cases e
 ·exact k x h1 h2 kk e
theorem TagsUp.mark {lo : Nat} {h : AH} {cs : List AV} (k : TagsUp lo h) (hl : lo ≤ h.next) (hc : idsL cs = []) : TagsUp lo (tagH h 5 cs) := fun x h1 h2 kk e => by
 rw [tagH_next] at h2
 by_cases h3 : x < h.next
 ·rw [tagH_old h3] at e
  exact TagsUp.more (by rw [tagH_next]; omega) (k x h1 h3 kk e)
 ·by_cases h4 : x = h.next
  ·rw [h4, tagH_new] at e
   cases e
   exact .inl ⟨_, _, rfl, hc⟩
  ·have h5 : x = h.next + 1 := by omega
   rw [h5, tagH_tag] at e
   cases e
   exact .inr ⟨_, _, _, rfl, hl, by rw [tagH_next]; omega⟩
theorem TagsUp.trans {lo : Nat} {h h' : AH} (k : TagsUp lo h) (k' : TagsUp h.next h') (hl : lo ≤ h.next) (hn : h.next ≤ h'.next) (g : ∀ x, lo ≤ x → x < h.next → h'.get x = h.get x ∨ h'.get x = .none) : TagsUp lo h' := fun x h1 h2 kk e => by
 by_cases h3 : x < h.next
 ·rcases g x h1 h3 with g | g
  ·rw [g] at e
   exact TagsUp.more hn (k x h1 h3 kk e)
  ·rw [g] at e
   cases e
 ·rcases k' x (by omega) h2 kk e with q | ⟨y, t, n, e, h4, h5⟩
  ·exact .inl q
  ·exact .inr ⟨y, t, n, e, by omega, h5⟩
def RowZ (lo : Nat) (h : AH) (v : AV) (bs : List UInt8) : Prop := (v = .val (.slice none 0 0) ∧ bs = []) ∨ ∃ b, lo ≤ b ∧ v = .own b 0 bs.length 1 none ∧ RowT h b bs
theorem RowZ.nil {lo : Nat} {h : AH} : RowZ lo h (.val (.slice none 0 0)) [] := .inl ⟨rfl, rfl⟩
theorem RowZ.to {lo : Nat} {h h' : AH} {v : AV} {bs : List UInt8} (k : RowZ lo h v bs) (hn : h.next ≤ h'.next) (g : ∀ x, lo ≤ x → x < h.next → h'.get x = h.get x) : RowZ lo h' v bs := by
 rcases k with k | ⟨b, h1, h2, h3⟩
 ·exact .inl k
 ·exact .inr ⟨b, h1, h2, h3.to hn (g b h1 (by have := h3.lt; omega)) (g (b + 1) (by omega) h3.lt)⟩
theorem app_z {lo a c : Nat} {x v : AV} {bs new : List UInt8} (hz : RowZ lo s.h v bs) (hlo : lo ≤ s.h.next) (h0 : new ≠ []) (hl : bs.length + new.length ≤ 2 ^ 40) (he : elemsOf s.h 1 x = some (bytesA new, new.length)) (ha : s.eval (.t a) = some v) (hx : s.eval (.t c) = some x)
  (k : ∀ h' b', lo ≤ b' → RowT h' b' (bs ++ new) → s.h.next ≤ h'.next → (∀ x, x < lo → h'.get x = s.h.get x) → (TagsUp lo s.h → TagsUp lo h') → AM.wpOps E r ((s.toH h').put dst (.own b' 0 (bs ++ new).length 1 none)) K) :
  AM.wpOps E (⟨dst, none, .appT 5 (.t a) (.t c)⟩ :: r) s K := by
 rcases hz with ⟨rfl, rfl⟩ | ⟨b, h1, rfl, h3⟩
 ·simp only [List.length_nil, Nat.zero_add] at hl
  refine app_t0 h0 hl he ha hx ?_
  exact k (tagH s.h 5 (bytesA new)) s.h.next hlo RowT.new (by rw [tagH_next]; omega) (fun x hx => tagH_old (by omega)) (fun k => k.mark hlo (bytesA_ids _))
 ·refine app_t1 h3 h0 hl he ha hx ?_
  have hb := h3.lt
  refine k (tagH (s.h.put b none) 5 (bytesA (bs ++ new))) s.h.next hlo RowT.new (by rw [tagH_next]; exact Nat.le_add_right _ _) (fun x hx => ?_) (fun k => k.drop.mark hlo (bytesA_ids _))
  rw [tagH_old (by show x < s.h.next; omega), get_put_old (by omega)]
end
theorem rem_128 {P : Program} {t : TypeId} {g : Bool} {u : Nat} : binA P .rem t g (.val (.int .u64 (u : Int))) (.val (.int .u64 128)) = some (.val (.int .u64 ((u % 128 : Nat) : Int))) := by
 rw [v_rem (by decide)]
 rfl
theorem quo_128 {P : Program} {t : TypeId} {g : Bool} {u : Nat} (h : u < 2 ^ 64) : binA P .quo t g (.val (.int .u64 (u : Int))) (.val (.int .u64 128)) = some (.val (.int .u64 ((u / 128 : Nat) : Int))) := by
 rw [v_quo (by decide)]
 have e : ((u : Int)).tdiv 128 = ((u / 128 : Nat) : Int) := rfl
 rw [e, wrap_u64 (by omega)]
theorem num39_loop (lo f u : Nat) : ∀ (s : St) (v : AV) (bs : List UInt8), RowZ lo s.h v bs → lo ≤ s.h.next → TagsUp lo s.h → u < 2 ^ 64 → u < 128 ^ (f + 1) → bs.length + (numP f u).length ≤ 2 ^ 40 →
  s.eval (.t 3) = some (.val (.int .u64 (u : Nat))) → s.eval (.t 4) = some v → s.defers = [] →
  Run E1 f39_l0 s fun e s' => e = .exit 0 ∧ s'.eval (.t 3) = some (.val (.int .u64 (numL f u : Nat))) ∧ s'.defers = [] ∧
   ∃ v', s'.eval (.t 4) = some v' ∧ RowZ lo s'.h v' (bs ++ numP f u) ∧ s.h.next ≤ s'.h.next ∧ (∀ x, x < lo → s'.h.get x = s.h.get x) ∧ TagsUp lo s'.h := by
 induction f generalizing u with
 | zero =>
  intro s v bs hz hlo htu hu hf hl h3 h4 hd
  have h128 : u < 128 := by simpa using hf
  have c1 : decide ((128 : Int) ≤ (u : Int)) = false := by simp; omega
  apply loop_of (rfl : f39_l0 = .loop f39_b0)
  simp -implicitDefEqProofs only [f39_b0, V, ↓reduceIte, reduceEqDiff, reduceAdd, reduceMul, reduceCtorEq, reduceEq, reduceLT, reduceLE, h3, h4, hd, c1, numP_lt h128, numL_lt h128, List.append_nil]
  exact ⟨v, rfl, hz, Nat.le_refl _, fun _ _ => trivial, htu⟩
 | succ f ih =>
  intro s v bs hz hlo htu hu hf hl h3 h4 hd
  by_cases h128 : u < 128
  ·have c1 : decide ((128 : Int) ≤ (u : Int)) = false := by simp; omega
   apply loop_of (rfl : f39_l0 = .loop f39_b0)
   simp -implicitDefEqProofs only [f39_b0, V, ↓reduceIte, reduceEqDiff, reduceAdd, reduceMul, reduceCtorEq, reduceEq, reduceLT, reduceLE, h3, h4, hd, c1, numP_lt h128, numL_lt h128, List.append_nil]
   exact ⟨v, rfl, hz, Nat.le_refl _, fun _ _ => trivial, htu⟩
  ·have c1 : decide ((128 : Int) ≤ (u : Int)) = true := by simp; omega
   have a1 := rem_128 (P := E1.P) (t := 141) (g := true) (u := u)
   have a2 : IntKind.u8.wrap ((u % 128 : Nat) : Int) = ((u % 128 : Nat) : Int) := wrap_u8 (by omega)
   have a3 : IntKind.u8.wrap (((u % 128 : Nat) : Int) + 128) = ((u % 128 + 128 : Nat) : Int) := by
    have : ((u % 128 : Nat) : Int) + 128 = ((u % 128 + 128 : Nat) : Int) := by omega
    rw [this, wrap_u8 (by omega)]
   have a4 := quo_128 (P := E1.P) (t := 141) (g := true) hu
   have hfill : ∀ s' : St, s'.eval (.t 18) = some (.val (.int .u8 ((u % 128 + 128 : Nat) : Int))) → fill s' [.val (.int .u8 0)] [(0, 1, .t 18)] = some (bytesA [UInt8.ofNat (u % 128 + 128)]) := fun s' h => by
    rw [fill_1 h, byte_of (by omega)]
   rw [numP_ge h128, List.length_cons] at hl
   have hz1 : RowZ lo (s.h.alloc (.cells (bytesA [UInt8.ofNat (u % 128 + 128)]) true)) v bs := hz.to (by rw [a_next]; omega) (fun x _ hx => get_alloc_old hx)
   apply loop_of (rfl : f39_l0 = .loop f39_b0)
   simp -implicitDefEqProofs only [f39_b0, V, ↓reduceIte, reduceEqDiff, reduceAdd, reduceMul, reduceCtorEq, reduceEq, reduceLT, reduceLE, h3, h4, hd, c1, a1, a2, a3, hfill]
   refine app_z (lo := lo) (v := v) (x := .own s.h.next 0 1 1 (some 1)) (bs := bs) (new := [UInt8.ofNat (u % 128 + 128)]) hz1 ?_ (List.cons_ne_nil _ _) (by simp only [List.length_cons, List.length_nil]; omega)
    (elems_row (h := s.h.alloc _) (by rw [AH.get_alloc, if_pos rfl]) rfl) ?_ ?_ ?_
   ·show lo ≤ s.h.next + 1
    omega
   ·simp -implicitDefEqProofs only [V, ↓reduceIte, reduceEqDiff, reduceAdd, reduceMul, reduceCtorEq, reduceEq, reduceLT, reduceLE]
   ·simp -implicitDefEqProofs only [V, ↓reduceIte, reduceEqDiff, reduceAdd, reduceMul, reduceCtorEq, reduceEq, reduceLT, reduceLE]
   ·intro h' b' hb' hr' hn' ho' ht'
    have hn' : s.h.next + 1 ≤ h'.next := hn'
    have ho' : ∀ x, x < lo → h'.get x = (s.h.alloc (.cells (bytesA [UInt8.ofNat (u % 128 + 128)]) true)).get x := ho'
    simp -implicitDefEqProofs only [V, ↓reduceIte, reduceEqDiff, reduceAdd, reduceMul, reduceCtorEq, reduceEq, reduceLT, reduceLE, h3, a4]
    rw [numL_ge h128, numP_ge h128]
    refine (ih (u / 128) _ (.own b' 0 (bs ++ [UInt8.ofNat (u % 128 + 128)]).length 1 none) (bs ++ [UInt8.ofNat (u % 128 + 128)]) (.inr ⟨b', hb', rfl, ?_⟩) ?_ (ht' (htu.alloc (bytesA_ids _))) (by omega) (Nat.div_lt_of_lt_mul (by rw [Nat.pow_succ] at hf; omega)) (by rw [List.length_append, List.length_cons, List.length_nil]; omega) ?_ ?_ ?_).mono ?_
    ·exact hr'
    ·show lo ≤ h'.next
     omega
    ·simp -implicitDefEqProofs only [V, ↓reduceIte, reduceEqDiff, reduceAdd, reduceMul, reduceCtorEq, reduceEq, reduceLT, reduceLE]
    ·simp -implicitDefEqProofs only [V, ↓reduceIte, reduceEqDiff, reduceAdd, reduceMul, reduceCtorEq, reduceEq, reduceLT, reduceLE]
    ·simp -implicitDefEqProofs only [V, ↓reduceIte, reduceEqDiff, reduceAdd, reduceMul, reduceCtorEq, reduceEq, reduceLT, reduceLE, hd]
    ·rintro e s' ⟨r1, r2, r3, v', r4, r5, r6, r7, r8⟩
     have r6 : h'.next ≤ s'.h.next := r6
     refine ⟨r1, r2, r3, v', r4, ?_, by omega, fun x hx => ?_, r8⟩
     ·rw [List.append_assoc] at r5
      exact r5
     ·have r7 : s'.h.get x = h'.get x := r7 x hx
      rw [r7, ho' x hx, get_alloc_old (by omega)]
structure RowTo (h : AH) (bs : List UInt8) (v : AV) (h' : AH) : Prop where
 ex : ∃ b, h.next ≤ b ∧ v = .own b 0 bs.length 1 none ∧ RowT h' b bs
 le : h.next ≤ h'.next
 old : ∀ x, x < h.next → h'.get x = h.get x
 tu : TagsUp h.next h'
theorem zz_not {n : Int} (h : in64 n) (h0 : n < 0) : IntKind.u64.wrap (IntKind.u64.wrap n * 2 ^ 1) = ((18446744073709551615 - zz n : Nat) : Int) ∧ zz n ≤ 18446744073709551615 := by
 unfold in64 at h
 unfold zz
 rw [if_neg (by omega)]
 constructor
 ·simp [IntKind.wrap, IntKind.bits, IntKind.signed]
  omega
 ·omega
theorem zz_pos {n : Int} (h : in64 n) (h0 : ¬ n < 0) : IntKind.u64.wrap (IntKind.u64.wrap n * 2 ^ 1) = ((zz n : Nat) : Int) := by
 unfold in64 at h
 unfold zz
 rw [if_pos (by omega)]
 simp [IntKind.wrap, IntKind.bits, IntKind.signed]
 omega
theorem v_com {P : Program} {k : IntKind} {a : Int} : unV P .xor (.val (.int k a)) = some (.val (.int k (k.wrap ((BitVec.ofInt k.bits (if k.signed then -1 else k.max) ^^^ BitVec.ofInt k.bits a).toNat : Nat)))) := by
 rfl
theorem not_u64 {P : Program} {u : Nat} (h : u ≤ 18446744073709551615) : unV P .xor (.val (.int .u64 ((18446744073709551615 - u : Nat) : Int))) = some (.val (.int .u64 (u : Int))) := by
 rw [v_com]
 have e : (if IntKind.u64.signed then -1 else IntKind.u64.max) = ((18446744073709551615 : Nat) : Int) := rfl
 rw [e, xor_u64 (by decide) (by omega)]
 have key : ∀ a : BitVec 64, (BitVec.allOnes 64 ^^^ a).toNat = 2 ^ 64 - 1 - a.toNat := fun a => by
  rw [BitVec.allOnes_xor, BitVec.toNat_not]
 have k2 := key (BitVec.ofNat 64 (18446744073709551615 - u))
 rw [BitVec.toNat_xor, BitVec.toNat_ofNat, BitVec.toNat_allOnes, Nat.mod_eq_of_lt (by omega)] at k2
 have e : (2 ^ 64 - 1 : Nat) = 18446744073709551615 := by decide
 rw [e] at k2
 have k3 : 18446744073709551615 - (18446744073709551615 - u) = u := by omega
 rw [k2, k3]
theorem num39_neg {h : AH} {n : Int} (hn : in64 n) (hneg : n < 0) : ∃ v h', RunCall E1 (.f 39) [.val (.int .i64 n)] h v h' ∧ RowTo h (encNum n) v h' := by
 refine shared0 _ (by kernel_rfl) f39_ok fun s hs hh hd hr => ?_
 have h0 := hs 0 _ rfl
 subst hh
 have z1 := fun k' : IntKind => v_shl (P := E1.P) (t := 141) (g := true) (k := .u64) (k' := k') (a := IntKind.u64.wrap n) (n := 1) (by decide)
 have e1 : ((1 : Nat) : Int) = 1 := rfl
 rw [e1] at z1
 have hz := zz_lt hn
 obtain ⟨q1, q2⟩ := zz_not hn hneg
 have c1 : decide (n < 0) = true := by simp; omega
 simp -implicitDefEqProofs only [f39_fn, f39, V, ↓reduceIte, reduceEqDiff, reduceAdd, reduceMul, reduceCtorEq, reduceEq, reduceLT, reduceLE, h0, z1, q1, c1, not_u64 q2]
 refine (num39_loop s.h.next 9 (zz n) _ (.val (.slice none 0 0)) [] RowZ.nil ?_ (by exact TagsUp.fresh (Nat.le_refl _)) hz (Nat.lt_of_lt_of_le hz (by decide)) (by have := numP_len 9 (zz n); simp only [List.length_nil]; omega) ?_ ?_ ?_).mono ?_
 ·exact Nat.le_refl _
 ·simp -implicitDefEqProofs only [V, ↓reduceIte, reduceEqDiff, reduceAdd, reduceMul, reduceCtorEq, reduceEq, reduceLT, reduceLE]
 ·simp -implicitDefEqProofs only [V, ↓reduceIte, reduceEqDiff, reduceAdd, reduceMul, reduceCtorEq, reduceEq, reduceLT, reduceLE]
 ·simp -implicitDefEqProofs only [V, ↓reduceIte, reduceEqDiff, reduceAdd, reduceMul, reduceCtorEq, reduceEq, reduceLT, reduceLE, hd]
 ·rintro e s' ⟨rfl, r3, rd, v', r4, hz', hn', ho', htu⟩
  have hn' : s.h.next ≤ s'.h.next := hn'
  have ho' : ∀ x, x < s.h.next → s'.h.get x = s.h.get x := ho'
  rw [List.nil_append] at hz'
  have hsm : numL 9 (zz n) < 128 := numL_small 9 _ (Nat.lt_of_lt_of_le hz (by decide))
  have a2 := conv_byte hsm
  have hfill : ∀ s' : St, s'.eval (.t 25) = some (.val (.int .u8 ((numL 9 (zz n) : Nat) : Int))) → fill s' [.val (.int .u8 0)] [(0, 1, .t 25)] = some (bytesA [UInt8.ofNat (numL 9 (zz n))]) := fun s' h => by
   rw [fill_1 h, byte_of (by omega)]
  have hbeq : Nat.beq 0 0 = true := rfl
  simp -implicitDefEqProofs only [V, ↓reduceIte, reduceEqDiff, reduceAdd, reduceMul, reduceCtorEq, reduceEq, reduceLT, reduceLE, hbeq, r3, r4, rd, a2, hfill]
  have hz1 : RowZ s.h.next (s'.h.alloc (.cells (bytesA [UInt8.ofNat (numL 9 (zz n))]) true)) v' (numP 9 (zz n)) := hz'.to (by rw [a_next]; omega) (fun x _ hx => get_alloc_old hx)
  refine app_z (lo := s.h.next) (v := v') (x := .own s'.h.next 0 1 1 (some 1)) (bs := numP 9 (zz n)) (new := [UInt8.ofNat (numL 9 (zz n))]) hz1 ?_ (List.cons_ne_nil _ _) (by have := numP_len 9 (zz n); simp only [List.length_cons, List.length_nil]; omega)
   (elems_row (h := s'.h.alloc _) (by rw [AH.get_alloc, if_pos rfl]) rfl) ?_ ?_ ?_
  ·show s.h.next ≤ s'.h.next + 1
   omega
  ·simp -implicitDefEqProofs only [V, ↓reduceIte, reduceEqDiff, reduceAdd, reduceMul, reduceCtorEq, reduceEq, reduceLT, reduceLE]
  ·simp -implicitDefEqProofs only [V, ↓reduceIte, reduceEqDiff, reduceAdd, reduceMul, reduceCtorEq, reduceEq, reduceLT, reduceLE]
  ·intro h2 b2 hb2 hr2 hn2 ho2 ht2
   have hn2 : s'.h.next + 1 ≤ h2.next := hn2
   have ho2 : ∀ x, x < s.h.next → h2.get x = (s'.h.alloc (.cells (bytesA [UInt8.ofNat (numL 9 (zz n))]) true)).get x := ho2
   simp -implicitDefEqProofs only [V, ↓reduceIte, reduceEqDiff, reduceAdd, reduceMul, reduceCtorEq, reduceEq, reduceLT, reduceLE, rd]
   refine ⟨_, rfl, ⟨b2, hb2, rfl, hr2⟩, by omega, fun x hx => ?_, ht2 (htu.alloc (bytesA_ids _))⟩
   rw [ho2 x hx, get_alloc_old (by omega), ho' x hx]
theorem num39_pos {h : AH} {n : Int} (hn : in64 n) (hneg : ¬ n < 0) : ∃ v h', RunCall E1 (.f 39) [.val (.int .i64 n)] h v h' ∧ RowTo h (encNum n) v h' := by
 refine shared0 _ (by kernel_rfl) f39_ok fun s hs hh hd hr => ?_
 have h0 := hs 0 _ rfl
 subst hh
 have z1 := fun k' : IntKind => v_shl (P := E1.P) (t := 141) (g := true) (k := .u64) (k' := k') (a := IntKind.u64.wrap n) (n := 1) (by decide)
 have e1 : ((1 : Nat) : Int) = 1 := rfl
 rw [e1] at z1
 have hz := zz_lt hn
 have q1 := zz_pos hn hneg
 have c1 : decide (n < 0) = false := by simp; omega
 simp -implicitDefEqProofs only [f39_fn, f39, V, ↓reduceIte, reduceEqDiff, reduceAdd, reduceMul, reduceCtorEq, reduceEq, reduceLT, reduceLE, h0, z1, q1, c1]
 refine (num39_loop s.h.next 9 (zz n) _ (.val (.slice none 0 0)) [] RowZ.nil ?_ (by exact TagsUp.fresh (Nat.le_refl _)) hz (Nat.lt_of_lt_of_le hz (by decide)) (by have := numP_len 9 (zz n); simp only [List.length_nil]; omega) ?_ ?_ ?_).mono ?_
 ·exact Nat.le_refl _
 ·simp -implicitDefEqProofs only [V, ↓reduceIte, reduceEqDiff, reduceAdd, reduceMul, reduceCtorEq, reduceEq, reduceLT, reduceLE]
 ·simp -implicitDefEqProofs only [V, ↓reduceIte, reduceEqDiff, reduceAdd, reduceMul, reduceCtorEq, reduceEq, reduceLT, reduceLE]
 ·simp -implicitDefEqProofs only [V, ↓reduceIte, reduceEqDiff, reduceAdd, reduceMul, reduceCtorEq, reduceEq, reduceLT, reduceLE, hd]
 ·rintro e s' ⟨rfl, r3, rd, v', r4, hz', hn', ho', htu⟩
  have hn' : s.h.next ≤ s'.h.next := hn'
  have ho' : ∀ x, x < s.h.next → s'.h.get x = s.h.get x := ho'
  rw [List.nil_append] at hz'
  have hsm : numL 9 (zz n) < 128 := numL_small 9 _ (Nat.lt_of_lt_of_le hz (by decide))
  have a2 := conv_byte hsm
  have hfill : ∀ s' : St, s'.eval (.t 25) = some (.val (.int .u8 ((numL 9 (zz n) : Nat) : Int))) → fill s' [.val (.int .u8 0)] [(0, 1, .t 25)] = some (bytesA [UInt8.ofNat (numL 9 (zz n))]) := fun s' h => by
   rw [fill_1 h, byte_of (by omega)]
  have hbeq : Nat.beq 0 0 = true := rfl
  simp -implicitDefEqProofs only [V, ↓reduceIte, reduceEqDiff, reduceAdd, reduceMul, reduceCtorEq, reduceEq, reduceLT, reduceLE, hbeq, r3, r4, rd, a2, hfill]
  have hz1 : RowZ s.h.next (s'.h.alloc (.cells (bytesA [UInt8.ofNat (numL 9 (zz n))]) true)) v' (numP 9 (zz n)) := hz'.to (by rw [a_next]; omega) (fun x _ hx => get_alloc_old hx)
  refine app_z (lo := s.h.next) (v := v') (x := .own s'.h.next 0 1 1 (some 1)) (bs := numP 9 (zz n)) (new := [UInt8.ofNat (numL 9 (zz n))]) hz1 ?_ (List.cons_ne_nil _ _) (by have := numP_len 9 (zz n); simp only [List.length_cons, List.length_nil]; omega)
   (elems_row (h := s'.h.alloc _) (by rw [AH.get_alloc, if_pos rfl]) rfl) ?_ ?_ ?_
  ·show s.h.next ≤ s'.h.next + 1
   omega
  ·simp -implicitDefEqProofs only [V, ↓reduceIte, reduceEqDiff, reduceAdd, reduceMul, reduceCtorEq, reduceEq, reduceLT, reduceLE]
  ·simp -implicitDefEqProofs only [V, ↓reduceIte, reduceEqDiff, reduceAdd, reduceMul, reduceCtorEq, reduceEq, reduceLT, reduceLE]
  ·intro h2 b2 hb2 hr2 hn2 ho2 ht2
   have hn2 : s'.h.next + 1 ≤ h2.next := hn2
   have ho2 : ∀ x, x < s.h.next → h2.get x = (s'.h.alloc (.cells (bytesA [UInt8.ofNat (numL 9 (zz n))]) true)).get x := ho2
   simp -implicitDefEqProofs only [V, ↓reduceIte, reduceEqDiff, reduceAdd, reduceMul, reduceCtorEq, reduceEq, reduceLT, reduceLE, rd]
   refine ⟨_, rfl, ⟨b2, hb2, rfl, hr2⟩, by omega, fun x hx => ?_, ht2 (htu.alloc (bytesA_ids _))⟩
   rw [ho2 x hx, get_alloc_old (by omega), ho' x hx]
theorem num39_call {h : AH} {n : Int} (hn : in64 n) : ∃ v h', RunCall E1 (.f 39) [.val (.int .i64 n)] h v h' ∧ RowTo h (encNum n) v h' := by
 by_cases hneg : n < 0
 ·exact num39_neg hn hneg
 ·exact num39_pos hn hneg
theorem encNum_ne (n : Int) : encNum n ≠ [] := by
 intro e
 have := congrArg List.length e
 simp only [encNum, encU_len, List.length_nil] at this
 omega
theorem encText_ne (t : ByteArray) : encText t ≠ [] := by
 intro e
 exact encNum_ne _ (List.append_eq_nil_iff.1 e).1
theorem truth_call {h : AH} {b : Bool} : ∃ v h', RunCall E1 (.f 57) [.val (.bool b)] h v h' ∧ RowTo h (encNum (if b then 1 else 0)) v h' := by
 refine shared0 _ (by kernel_rfl) f57_ok fun s hs hh hd hr => ?_
 have h0 := hs 0 _ rfl
 subst hh
 cases b with
 | true =>
  simp -implicitDefEqProofs only [f57_fn, f57, V, ↓reduceIte, reduceEqDiff, reduceAdd, reduceMul, reduceCtorEq, reduceEq, reduceLT, reduceLE, h0]
  refine callK_of (num39_call (n := 1) (by unfold in64; omega)) ?_
  intro v h' hv
  simp -implicitDefEqProofs only [V, ↓reduceIte, reduceEqDiff, reduceAdd, reduceMul, reduceCtorEq, reduceEq, reduceLT, reduceLE, hd]
  exact ⟨_, rfl, hv⟩
 | false =>
  simp -implicitDefEqProofs only [f57_fn, f57, V, ↓reduceIte, reduceEqDiff, reduceAdd, reduceMul, reduceCtorEq, reduceEq, reduceLT, reduceLE, h0]
  refine callK_of (num39_call (n := 0) (by unfold in64; omega)) ?_
  intro v h' hv
  simp -implicitDefEqProofs only [V, ↓reduceIte, reduceEqDiff, reduceAdd, reduceMul, reduceCtorEq, reduceEq, reduceLT, reduceLE, hd]
  exact ⟨_, rfl, hv⟩
theorem text38_call {h : AH} {t : ByteArray} (hl : (encText t).length ≤ 2 ^ 40) : ∃ v h', RunCall E1 (.f 38) [.val (.string t)] h v h' ∧ RowTo h (encText t) v h' := by
 refine shared0 _ (by kernel_rfl) f38_ok fun s hs hh hd hr => ?_
 have h0 := hs 0 _ rfl
 subst hh
 have hsz : t.size = t.data.toList.length := rfl
 rw [encText, List.length_append] at hl
 have q : lenStrV (.val (.string t)) = some (.val (.int .i64 (t.size : Nat))) := rfl
 simp -implicitDefEqProofs only [f38_fn, f38, V, ↓reduceIte, reduceEqDiff, reduceAdd, reduceMul, reduceCtorEq, reduceEq, reduceLT, reduceLE, h0, q]
 refine callK_of (num39_call (n := (t.size : Nat)) (by unfold in64; omega)) ?_
 rintro v h' ⟨⟨b, hb, rfl, hr'⟩, hle, hold, htu⟩
 have hb : s.h.next ≤ b := hb
 have hle : s.h.next ≤ h'.next := hle
 have hold : ∀ x, x < s.h.next → h'.get x = s.h.get x := hold
 simp -implicitDefEqProofs only [V, ↓reduceIte, reduceEqDiff, reduceAdd, reduceMul, reduceCtorEq, reduceEq, reduceLT, reduceLE, s_bytesOfStr, bosO_some, h0]
 have hlt := hr'.lt
 have hr1 : RowT (h'.alloc (.cells (bytesA t.data.toList) true)) b (encNum (t.size : Nat)) := hr'.to (by rw [a_next]; omega) (get_alloc_old (by omega)) (get_alloc_old hlt)
 by_cases he : t.data.toList = []
 ·refine app_t2 (b := b) (l := encNum (t.size : Nat)) (x := .own h'.next 0 t.size 1 none) hr1 ?_ ?_ ?_ ?_
  ·have := elems_row (h := h'.alloc (.cells (bytesA t.data.toList) true)) (b := h'.next) (n := t.size) (cap := none) (by rw [AH.get_alloc, if_pos rfl]) (by rw [bytesA_len, hsz])
   rw [he] at this
   rw [hsz, he] at this
   show elemsOf (h'.alloc (.cells (bytesA t.data.toList) true)) 1 (.own h'.next 0 t.size 1 none) = _
   rw [hsz, he]
   exact this
  ·simp -implicitDefEqProofs only [V, ↓reduceIte, reduceEqDiff, reduceAdd, reduceMul, reduceCtorEq, reduceEq, reduceLT, reduceLE]
  ·simp -implicitDefEqProofs only [V, ↓reduceIte, reduceEqDiff, reduceAdd, reduceMul, reduceCtorEq, reduceEq, reduceLT, reduceLE]
  ·simp -implicitDefEqProofs only [V, ↓reduceIte, reduceEqDiff, reduceAdd, reduceMul, reduceCtorEq, reduceEq, reduceLT, reduceLE, hd]
   refine ⟨_, rfl, ⟨b, hb, ?_, ?_⟩, ?_, fun x hx => ?_, TagsUp.alloc htu (bytesA_ids _)⟩
   ·show AV.own b 0 _ 1 none = _
    rw [encText, he, List.append_nil]
   ·rw [encText, he, List.append_nil]
    rw [he] at hr1
    exact hr1
   ·show s.h.next ≤ h'.next + 1
    omega
   ·show (h'.alloc _).get x = _
    rw [get_alloc_old (by omega), hold x hx]
 ·refine app_t1 (b := b) (l := encNum (t.size : Nat)) (new := t.data.toList) (x := .own h'.next 0 t.size 1 none) hr1 he (by omega) ?_ ?_ ?_ ?_
  ·have := elems_row (h := h'.alloc (.cells (bytesA t.data.toList) true)) (b := h'.next) (n := t.size) (cap := none) (by rw [AH.get_alloc, if_pos rfl]) (by rw [bytesA_len, hsz])
   exact this
  ·simp -implicitDefEqProofs only [V, ↓reduceIte, reduceEqDiff, reduceAdd, reduceMul, reduceCtorEq, reduceEq, reduceLT, reduceLE]
  ·simp -implicitDefEqProofs only [V, ↓reduceIte, reduceEqDiff, reduceAdd, reduceMul, reduceCtorEq, reduceEq, reduceLT, reduceLE]
  ·simp -implicitDefEqProofs only [V, ↓reduceIte, reduceEqDiff, reduceAdd, reduceMul, reduceCtorEq, reduceEq, reduceLT, reduceLE, hd]
   refine ⟨_, rfl, ⟨_, ?_, rfl, RowT.new⟩, ?_, fun x hx => ?_, TagsUp.mark (TagsUp.drop (TagsUp.alloc htu (bytesA_ids _))) (by show s.h.next ≤ h'.next + 1; omega) (bytesA_ids _)⟩
   ·show s.h.next ≤ h'.next + 1
    omega
   ·show s.h.next ≤ h'.next + 1 + 2
    omega
   ·rw [tagH_old (by show x < h'.next + 1; omega), get_put_old (by omega), get_alloc_old (by omega), hold x hx]
end Go.Proofs.YtijpnlmmaoecgaaGreatDoor

namespace Go.Proofs.YtijpnlmmaoecgaaGreatDoor
open Go Go.AM
section
variable {E : Env} {s : St} {K : St → Prop} {rest : List DOp} {done : List DRec}
theorem call_drawR {dst : Nat} {fr : List Nat} {f i : Nat} {a : AV} {bs : List UInt8} (he : s.eval (.t i) = some a) (hv : ids a = []) (hf : ∀ j ∈ fr, j < done.length)
  (hc : ∀ h, ∃ v h', RunCall E (.f f) [a] h v h' ∧ RowTo h bs v h')
  (k : ∀ h' b, s.h.next ≤ b → RowT h' b bs → s.h.next ≤ h'.next → (∀ x, x < s.h.next → h'.get x = s.h.get x) → TagsUp s.h.next h' → DrawTo E rest (done ++ [⟨[], [], s.h.next, h'.next⟩]) ((s.toH h').put (some dst) (.own b 0 bs.length 1 none)) K) :
  DrawTo E (⟨⟨some dst, none, .call f [.t i]⟩, [i], fr⟩ :: rest) done s K := by
 obtain ⟨v, h1, hc1, ⟨b, hb, rfl, hr⟩, hle, hold, htu⟩ := hc (restrictH s.h [])
 have hb : s.h.next ≤ b := hb
 have hle : s.h.next ≤ h1.next := hle
 have hlt := hr.lt
 refine call_draw0 he hv hc1 hle hf fun h' g1 g2 g3 => ?_
 have := k h' b hb (hr.to (by omega) (g2 b hb (by omega)) (g2 (b + 1) (by omega) hlt)) (by omega) g3 (fun x x1 x2 kk e => TagsUp.more (by rw [g1]; exact Nat.le_refl _) (htu x x1 (by omega) kk (by rw [← g2 x x1 (by omega)]; exact e)))
 rw [g1] at this
 exact this
theorem app_drawR {dst a d b c : Nat} {l new : List UInt8} (kb : RowT s.h b l) (kc : RowT s.h c new) (h0 : new ≠ []) (hl : l.length + new.length ≤ 2 ^ 40) (h2 : s.eval (.t a) = some (.own b 0 l.length 1 none)) (h3 : s.eval (.t d) = some (.own c 0 new.length 1 none))
  (k : ∀ F D h' b', s.h.next ≤ b' → RowT h' b' (l ++ new) → s.h.next ≤ h'.next → (∀ x, x < s.h.next → x ≠ b → h'.get x = s.h.get x) → (∀ x ∈ D, x = b) → h'.get b = none → TagsUp s.h.next h' → DrawTo E rest (done ++ [⟨F, D, s.h.next, h'.next⟩]) ((s.toH h').put (some dst) (.own b' 0 (l ++ new).length 1 none)) K) :
  DrawTo E (⟨⟨some dst, none, .appT 5 (.t a) (.t d)⟩, [a, d], []⟩ :: rest) done s K := by
 have hbl := kb.lt
 have hcl := kc.lt
 have G : ∀ h : AH, (tagH (h.put b none) 5 (bytesA (l ++ new))).next = h.next + 2 := fun h => rfl
 refine app_drawT (G := fun h => tagH (h.put b none) 5 (bytesA (l ++ new))) (w := .own s.h.next 0 (l ++ new).length 1 none) h2 h3 hbl hcl ?_ ?_ (by rw [G]; omega) (fun h e => by rw [G, G, e]) ?_ ?_ ?_ ?_
 ·intro x hx kk hk
  rcases hx with rfl | rfl | rfl | rfl
  ·rw [kb.cb] at hk
   cases hk
   exact bytes_below
  ·rw [kb.tg] at hk
   cases hk
   simp only [idsB, below, List.all_cons, List.all_nil, Bool.and_true]
   exact Nat.blt_eq.mpr (by omega)
  ·rw [kc.cb] at hk
   cases hk
   exact bytes_below
  ·rw [kc.tg] at hk
   cases hk
   simp only [idsB, below, List.all_cons, List.all_nil, Bool.and_true]
   exact Nat.blt_eq.mpr (by omega)
 ·intro s0 e1 e2 e3 e4
  have kb0 : RowT s0.h b l := ⟨by rw [e4 b (.inl rfl), kb.cb], by rw [e4 (b + 1) (.inr (.inl rfl)), kb.tg], by rw [e3]; exact hbl⟩
  have ht := typed_row (s := s0) (a := a) (c := d) (x := .own c 0 new.length 1 none) kb0 e1 e2 (elems_row (by rw [e4 c (.inr (.inr (.inl rfl))), kc.cb]) (bytesA_len _)) h0 hl
  rw [e3] at ht
  simp only [runOp, ht]
 ·intro h e x h1 h2'
  rw [G] at h2'
  have hx : x = s.h.next ∨ x = s.h.next + 1 := by omega
  have n1 : (h.put b none).next = s.h.next := e
  have n2 : (s.h.put b none).next = s.h.next := rfl
  rcases hx with rfl | rfl
  ·have g1 := tagH_new (h := h.put b none) (e := 5) (cs := bytesA (l ++ new))
   have g2 := tagH_new (h := s.h.put b none) (e := 5) (cs := bytesA (l ++ new))
   rw [n1] at g1
   rw [n2] at g2
   rw [g1, g2]
  ·have g1 := tagH_tag (h := h.put b none) (e := 5) (cs := bytesA (l ++ new))
   have g2 := tagH_tag (h := s.h.put b none) (e := 5) (cs := bytesA (l ++ new))
   rw [n1] at g1
   rw [n2] at g2
   rw [g1, g2]
 ·intro h e
  rw [tagH_old (by show b < h.next; omega), tagH_old (by show b < s.h.next; omega), AH.get_put, AH.get_put, if_pos rfl, if_pos rfl]
 ·intro x h1 h2'
  rw [tagH_old (by show x < s.h.next; omega), get_put_old h2']
 ·intro D h' hD hn hg F
  rw [G] at hn
  have n2 : (s.h.put b none).next = s.h.next := rfl
  have hr : RowT h' s.h.next (l ++ new) := by
   have r := RowT.new (h := s.h.put b none) (bs := l ++ new)
   rw [n2] at r
   refine r.to (by rw [hn, G]; exact Nat.le_refl _) (hg _ (by rw [G]; omega)) (hg _ (by rw [G]; omega))
  have := k F D h' s.h.next (Nat.le_refl _) hr (by omega) (fun x h1 h2' => by
   rw [hg x (by rw [G]; omega), tagH_old (by show x < s.h.next; omega), get_put_old h2']) hD (by rw [hg b (by rw [G]; omega), tagH_old (by show b < s.h.next; omega), AH.get_put, if_pos rfl]) (fun x x1 x2 kk e => TagsUp.more (by rw [hn]; exact Nat.le_refl _) ((TagsUp.fresh (h := s.h.put b none) (Nat.le_refl _)).mark (cs := bytesA (l ++ new)) (Nat.le_refl _) (bytesA_ids _) x x1 (by show x < s.h.next + 2; omega) kk (by rw [← hg x (by rw [G]; omega)]; exact e)))
  rw [hn] at this
  exact this
theorem mv_draw {dst i : Nat} {v : AV} {fr : List Nat} (he : s.eval (.t i) = some v) (hn : niceT s.h (some v) = true) (hf : ∀ j ∈ fr, j < done.length)
  (k : DrawTo E rest (done ++ [⟨[], [], s.h.next, s.h.next⟩]) (s.put (some dst) v) K) : DrawTo E (⟨⟨some dst, none, .mv (.t i)⟩, [i], fr⟩ :: rest) done s K := by
 refine pure_draw (v := v) (by show memN [i] i = true; simp [memN]) rfl ?_ ?_ hf k
 ·simp only [List.all_cons, List.all_nil, he, hn, Bool.and_self]
 ·simp only [runOp, he]
  rfl
theorem nice_row {h : AH} {b n : Nat} {bs : List UInt8} {cap : Option Nat} (g : h.get b = some (.cells (bytesA bs) true)) (hb : b < h.next) : niceT h (some (.own b 0 n 1 cap)) = true := by
 have : Nat.blt b h.next = true := Nat.blt_eq.mpr hb
 simp only [niceT, niceV, ids, List.all_cons, List.all_nil, this, g, bytes_below, Bool.and_self]
end
theorem mild_call {r0 lo hi : Nat} (h : r0 < lo) : MildR [r0] ⟨[], [], lo, hi⟩ := fun r hr => by
 rw [List.mem_singleton.1 hr]
 exact ⟨fun h => (by cases h), fun hab => by have := hab.1; simp only at this; omega⟩
theorem mild_app {r0 b lo hi : Nat} {F D : List Nat} (h : r0 < lo) (hb : r0 ≠ b) (hD : ∀ x ∈ D, x = b) : MildR [r0] ⟨F, D, lo, hi⟩ := fun r hr => by
 rw [List.mem_singleton.1 hr]
 exact ⟨fun h => hb (hD r0 h), fun hab => by have := hab.1; simp only at this; omega⟩
theorem mild_snoc {R : List Nat} {done : List DRec} {x : DRec} (h : ∀ y ∈ done, MildR R y) (k : MildR R x) : ∀ y ∈ done ++ [x], MildR R y := fun y hy => by
 rcases List.mem_append.1 hy with hy | hy
 ·exact h y hy
 ·rw [List.mem_singleton.1 hy]; exact k
structure MadeTo (lo : Nat) (s s' : St) (t : Nat) (bs : List UInt8) : Prop where
 row : ∃ b, lo ≤ b ∧ s'.eval (.t t) = some (.own b 0 bs.length 1 none) ∧ RowT s'.h b bs
 le : s.h.next ≤ s'.h.next
 old : ∀ x, x < lo → s'.h.get x = s.h.get x
 df : s'.defers = s.defers
 tu : TagsUp s.h.next s'.h
theorem f40_d0_run {s : St} {r0 : Nat} {a1 a2 : AV} {cs : List AV} {x y : List UInt8} (hg : s.h.get r0 = some (.cells (a1 :: a2 :: cs) true)) (hr : r0 < s.h.next) (i1 : ids a1 = []) (i2 : ids a2 = []) (i3 : idsL cs = [])
  (c1 : ∀ h, ∃ v h', RunCall E1 (.f 39) [a1] h v h' ∧ RowTo h x v h') (c2 : ∀ h, ∃ v h', RunCall E1 (.f 38) [a2] h v h' ∧ RowTo h y v h') (hy : y ≠ []) (hl : x.length + y.length ≤ 2 ^ 40) (h1 : s.eval (.t 1) = some (.ptr r0 0)) :
  Run E1 f40_d0 s fun e s' => e = .normal ∧ s'.eval (.t 1) = some (.ptr r0 0) ∧ MadeTo s.h.next s s' 3 (x ++ y) := by
 have hi : idsL (a1 :: a2 :: cs) = [] := by simp only [idsL, i1, i2, i3, List.append_nil]
 have hpl : ∀ {h : AH}, niceT h (some a1) = true := plain_nice (by simp only [plainT, i1]; rfl)
 have hpl2 : ∀ {h : AH}, niceT h (some a2) = true := plain_nice (by simp only [plainT, i2]; rfl)
 have np : ∀ (h : AH) o, h.get r0 = some (.cells (a1 :: a2 :: cs) true) → r0 < h.next → niceT h (some (.ptr r0 o)) = true := fun h o g k => nice_ptr k g (by rw [hi]; rfl)
 have n0 := fun o => np s.h o hg hr
 have on : ∀ o, onlyT [r0] (some (.ptr r0 o)) = true := fun o => by simp [onlyT, ids, memN]
 have q1 : cfB (some (.cells (a1 :: a2 :: cs) true)) 1 = some (a2 :: cs) := rfl
 refine run_draw ?_
 show DrawTo E1 (f40_o0.take 2 ++ f40_o0.drop 2) [] s _
 refine mild_pre (R := [r0]) _ [] s rfl (fun x hx => by cases hx) (fun r hr' => by rw [List.mem_singleton.1 hr']; exact hr) ?_
 simp -implicitDefEqProofs only [f40_o0, List.take_succ_cons, List.take_zero, wpDm, g_none, List.all_cons, List.all_nil, footed, V, ↓reduceIte, reduceEqDiff, reduceAdd, reduceMul, reduceCtorEq, reduceEq, reduceLT, reduceLE, h1, hg, n0, on, hpl]
 intro _ done hdl hdm
 have hdl : done.length = 2 := hdl
 refine call_drawR (f := 39) (i := 6) (a := a1) (bs := x) ?_ i1 (fun j hj => by cases hj) c1 ?_
 ·simp -implicitDefEqProofs only [V, ↓reduceIte, reduceEqDiff, reduceAdd, reduceMul, reduceCtorEq, reduceEq, reduceLT, reduceLE]
 intro h2 b2 hb2 hr2 hn2 ho2 ht2
 have hb2 : s.h.next ≤ b2 := hb2
 have hn2 : s.h.next ≤ h2.next := hn2
 have ho2 : ∀ x, x < s.h.next → h2.get x = s.h.get x := ho2
 have hg2 : h2.get r0 = some (.cells (a1 :: a2 :: cs) true) := by rw [ho2 _ hr, hg]
 have n2 := fun o => np h2 o hg2 (by omega)
 have hdm2 := mild_snoc hdm (mild_call (r0 := r0) (lo := s.h.next) (hi := h2.next) hr)
 show DrawTo E1 ((f40_o0.drop 3).take 2 ++ f40_o0.drop 5) _ _ _
 refine mild_pre (R := [r0]) _ _ _ ?_ hdm2 (fun r hr' => by rw [List.mem_singleton.1 hr']; show r0 < h2.next; omega) ?_
 ·rw [List.length_append, hdl]
  rfl
 simp -implicitDefEqProofs only [f40_o0, List.take_succ_cons, List.take_zero, List.drop_succ_cons, List.drop_zero, wpDm, g_none, List.all_cons, List.all_nil, footed, V, ↓reduceIte, reduceEqDiff, reduceAdd, reduceMul, reduceCtorEq, reduceEq, reduceLT, reduceLE, h1, hg2, q1, n2, on, hpl2]
 intro _ done3 hdl3 hdm3
 have hdl3 : done3.length = 5 := by rw [hdl3, List.length_append, hdl]; rfl
 refine call_drawR (f := 38) (i := 9) (a := a2) (bs := y) ?_ i2 (fun j hj => by cases hj) c2 ?_
 ·simp -implicitDefEqProofs only [V, ↓reduceIte, reduceEqDiff, reduceAdd, reduceMul, reduceCtorEq, reduceEq, reduceLT, reduceLE]
 intro h3 b3 hb3 hr3 hn3 ho3 ht3
 have hb3 : h2.next ≤ b3 := hb3
 have hn3 : h2.next ≤ h3.next := hn3
 have ho3 : ∀ x, x < h2.next → h3.get x = h2.get x := ho3
 have l2 := hr2.lt
 refine app_drawR (b := b2) (c := b3) (l := x) (new := y) ?_ ?_ hy hl ?_ ?_ ?_
 ·exact hr2.to hn3 (ho3 b2 (by omega)) (ho3 (b2 + 1) l2)
 ·exact hr3
 ·simp -implicitDefEqProofs only [V, ↓reduceIte, reduceEqDiff, reduceAdd, reduceMul, reduceCtorEq, reduceEq, reduceLT, reduceLE]
 ·simp -implicitDefEqProofs only [V, ↓reduceIte, reduceEqDiff, reduceAdd, reduceMul, reduceCtorEq, reduceEq, reduceLT, reduceLE]
 intro F D h4 b4 hb4 hr4 hn4 ho4 hD hb0 ht4
 have hb4 : h3.next ≤ b4 := hb4
 have hn4 : h3.next ≤ h4.next := hn4
 have ho4 : ∀ x, x < h3.next → x ≠ b2 → h4.get x = h3.get x := ho4
 refine mv_draw (v := .own b4 0 (x ++ y).length 1 none) ?_ ?_ (fun j hj => by cases hj) (draw_nil ?_)
 ·simp -implicitDefEqProofs only [V, ↓reduceIte, reduceEqDiff, reduceAdd, reduceMul, reduceCtorEq, reduceEq, reduceLT, reduceLE]
 ·exact nice_row hr4.cb (by have := hr4.lt; show b4 < h4.next; omega)
 refine ⟨?_, ⟨⟨b4, by omega, ?_, ?_⟩, ?_, ?_, ?_, ?_⟩⟩
 ·simp -implicitDefEqProofs only [V, ↓reduceIte, reduceEqDiff, reduceAdd, reduceMul, reduceCtorEq, reduceEq, reduceLT, reduceLE, h1]
 ·simp -implicitDefEqProofs only [V, ↓reduceIte, reduceEqDiff, reduceAdd, reduceMul, reduceCtorEq, reduceEq, reduceLT, reduceLE]
 ·exact hr4
 ·show s.h.next ≤ h4.next
  omega
 ·intro z hz
  show h4.get z = s.h.get z
  rw [ho4 z (by omega) (by omega), ho3 z (by omega), ho2 z hz]
 ·simp -implicitDefEqProofs only [V, ↓reduceIte, reduceEqDiff, reduceAdd, reduceMul, reduceCtorEq, reduceEq, reduceLT, reduceLE]
 ·have k2 : TagsUp s.h.next h2 := ht2
  have k3 : TagsUp h2.next h3 := ht3
  have k4 : TagsUp h3.next h4 := ht4
  have hb0 : h4.get b2 = none := hb0
  refine (k2.trans k3 hn2 hn3 (fun x _ h => .inl (ho3 x h))).trans k4 (by omega) hn4 (fun x _ h => ?_)
  by_cases e : x = b2
  ·rw [e]
   exact .inr hb0
  ·exact .inl (ho4 x h e)
theorem f41_d0_run {s : St} {r0 : Nat} {a1 a2 : AV} {cs : List AV} {x y : List UInt8} (hg : s.h.get r0 = some (.cells (a1 :: a2 :: cs) true)) (hr : r0 < s.h.next) (i1 : ids a1 = []) (i2 : ids a2 = []) (i3 : idsL cs = [])
  (c1 : ∀ h, ∃ v h', RunCall E1 (.f 39) [a1] h v h' ∧ RowTo h x v h') (c2 : ∀ h, ∃ v h', RunCall E1 (.f 39) [a2] h v h' ∧ RowTo h y v h') (hy : y ≠ []) (hl : x.length + y.length ≤ 2 ^ 40) (h1 : s.eval (.t 1) = some (.ptr r0 0)) :
  Run E1 f41_d0 s fun e s' => e = .normal ∧ s'.eval (.t 1) = some (.ptr r0 0) ∧ MadeTo s.h.next s s' 3 (x ++ y) := by
 have hi : idsL (a1 :: a2 :: cs) = [] := by simp only [idsL, i1, i2, i3, List.append_nil]
 have hpl : ∀ {h : AH}, niceT h (some a1) = true := plain_nice (by simp only [plainT, i1]; rfl)
 have hpl2 : ∀ {h : AH}, niceT h (some a2) = true := plain_nice (by simp only [plainT, i2]; rfl)
 have np : ∀ (h : AH) o, h.get r0 = some (.cells (a1 :: a2 :: cs) true) → r0 < h.next → niceT h (some (.ptr r0 o)) = true := fun h o g k => nice_ptr k g (by rw [hi]; rfl)
 have n0 := fun o => np s.h o hg hr
 have on : ∀ o, onlyT [r0] (some (.ptr r0 o)) = true := fun o => by simp [onlyT, ids, memN]
 have q1 : cfB (some (.cells (a1 :: a2 :: cs) true)) 1 = some (a2 :: cs) := rfl
 refine run_draw ?_
 show DrawTo E1 (f41_o0.take 2 ++ f41_o0.drop 2) [] s _
 refine mild_pre (R := [r0]) _ [] s rfl (fun x hx => by cases hx) (fun r hr' => by rw [List.mem_singleton.1 hr']; exact hr) ?_
 simp -implicitDefEqProofs only [f41_o0, List.take_succ_cons, List.take_zero, wpDm, g_none, List.all_cons, List.all_nil, footed, V, ↓reduceIte, reduceEqDiff, reduceAdd, reduceMul, reduceCtorEq, reduceEq, reduceLT, reduceLE, h1, hg, n0, on, hpl]
 intro _ done hdl hdm
 have hdl : done.length = 2 := hdl
 refine call_drawR (f := 39) (i := 8) (a := a1) (bs := x) ?_ i1 (fun j hj => by cases hj) c1 ?_
 ·simp -implicitDefEqProofs only [V, ↓reduceIte, reduceEqDiff, reduceAdd, reduceMul, reduceCtorEq, reduceEq, reduceLT, reduceLE]
 intro h2 b2 hb2 hr2 hn2 ho2 ht2
 have hb2 : s.h.next ≤ b2 := hb2
 have hn2 : s.h.next ≤ h2.next := hn2
 have ho2 : ∀ x, x < s.h.next → h2.get x = s.h.get x := ho2
 have hg2 : h2.get r0 = some (.cells (a1 :: a2 :: cs) true) := by rw [ho2 _ hr, hg]
 have n2 := fun o => np h2 o hg2 (by omega)
 have hdm2 := mild_snoc hdm (mild_call (r0 := r0) (lo := s.h.next) (hi := h2.next) hr)
 show DrawTo E1 ((f41_o0.drop 3).take 2 ++ f41_o0.drop 5) _ _ _
 refine mild_pre (R := [r0]) _ _ _ ?_ hdm2 (fun r hr' => by rw [List.mem_singleton.1 hr']; show r0 < h2.next; omega) ?_
 ·rw [List.length_append, hdl]
  rfl
 simp -implicitDefEqProofs only [f41_o0, List.take_succ_cons, List.take_zero, List.drop_succ_cons, List.drop_zero, wpDm, g_none, List.all_cons, List.all_nil, footed, V, ↓reduceIte, reduceEqDiff, reduceAdd, reduceMul, reduceCtorEq, reduceEq, reduceLT, reduceLE, h1, hg2, q1, n2, on, hpl2]
 intro _ done3 hdl3 hdm3
 have hdl3 : done3.length = 5 := by rw [hdl3, List.length_append, hdl]; rfl
 refine call_drawR (f := 39) (i := 11) (a := a2) (bs := y) ?_ i2 (fun j hj => by cases hj) c2 ?_
 ·simp -implicitDefEqProofs only [V, ↓reduceIte, reduceEqDiff, reduceAdd, reduceMul, reduceCtorEq, reduceEq, reduceLT, reduceLE]
 intro h3 b3 hb3 hr3 hn3 ho3 ht3
 have hb3 : h2.next ≤ b3 := hb3
 have hn3 : h2.next ≤ h3.next := hn3
 have ho3 : ∀ x, x < h2.next → h3.get x = h2.get x := ho3
 have l2 := hr2.lt
 refine app_drawR (b := b2) (c := b3) (l := x) (new := y) ?_ ?_ hy hl ?_ ?_ ?_
 ·exact hr2.to hn3 (ho3 b2 (by omega)) (ho3 (b2 + 1) l2)
 ·exact hr3
 ·simp -implicitDefEqProofs only [V, ↓reduceIte, reduceEqDiff, reduceAdd, reduceMul, reduceCtorEq, reduceEq, reduceLT, reduceLE]
 ·simp -implicitDefEqProofs only [V, ↓reduceIte, reduceEqDiff, reduceAdd, reduceMul, reduceCtorEq, reduceEq, reduceLT, reduceLE]
 intro F D h4 b4 hb4 hr4 hn4 ho4 hD hb0 ht4
 have hb4 : h3.next ≤ b4 := hb4
 have hn4 : h3.next ≤ h4.next := hn4
 have ho4 : ∀ x, x < h3.next → x ≠ b2 → h4.get x = h3.get x := ho4
 refine mv_draw (v := .own b4 0 (x ++ y).length 1 none) ?_ ?_ (fun j hj => by cases hj) (draw_nil ?_)
 ·simp -implicitDefEqProofs only [V, ↓reduceIte, reduceEqDiff, reduceAdd, reduceMul, reduceCtorEq, reduceEq, reduceLT, reduceLE]
 ·exact nice_row hr4.cb (by have := hr4.lt; show b4 < h4.next; omega)
 refine ⟨?_, ⟨⟨b4, by omega, ?_, ?_⟩, ?_, ?_, ?_, ?_⟩⟩
 ·simp -implicitDefEqProofs only [V, ↓reduceIte, reduceEqDiff, reduceAdd, reduceMul, reduceCtorEq, reduceEq, reduceLT, reduceLE, h1]
 ·simp -implicitDefEqProofs only [V, ↓reduceIte, reduceEqDiff, reduceAdd, reduceMul, reduceCtorEq, reduceEq, reduceLT, reduceLE]
 ·exact hr4
 ·show s.h.next ≤ h4.next
  omega
 ·intro z hz
  show h4.get z = s.h.get z
  rw [ho4 z (by omega) (by omega), ho3 z (by omega), ho2 z hz]
 ·simp -implicitDefEqProofs only [V, ↓reduceIte, reduceEqDiff, reduceAdd, reduceMul, reduceCtorEq, reduceEq, reduceLT, reduceLE]
 ·have k2 : TagsUp s.h.next h2 := ht2
  have k3 : TagsUp h2.next h3 := ht3
  have k4 : TagsUp h3.next h4 := ht4
  have hb0 : h4.get b2 = none := hb0
  refine (k2.trans k3 hn2 hn3 (fun x _ h => .inl (ho3 x h))).trans k4 (by omega) hn4 (fun x _ h => ?_)
  by_cases e : x = b2
  ·rw [e]
   exact .inr hb0
  ·exact .inl (ho4 x h e)
structure OntoTo (b0 : Nat) (s s' : St) (t : Nat) (bs : List UInt8) : Prop where
 row : ∃ b, s.h.next ≤ b ∧ s'.eval (.t t) = some (.own b 0 bs.length 1 none) ∧ RowT s'.h b bs
 le : s.h.next ≤ s'.h.next
 old : ∀ x, x < s.h.next → x ≠ b0 → s'.h.get x = s.h.get x
 df : s'.defers = s.defers
 tu : ∀ lo, lo ≤ s.h.next → TagsUp lo s.h → TagsUp lo s'.h
theorem tag_none {h : AH} {b : Nat} (k : TagsUp (b + 1) h) (hb : b + 1 < h.next) : tagOf h b = none := by
 unfold tagOf
 split
 ·rename_i b' t n e
  have hlb : b + 1 ≤ b' := by
   rcases k (b + 1) (Nat.le_refl _) hb _ e with ⟨cs, rw', q, _⟩ | ⟨y, t, n, q, h1, _⟩
   ·cases q
   ·cases q
    exact h1
  have : Nat.beq b b' = false := by
   cases hq : Nat.beq b b' with
   | false => rfl
   | true =>
    have := Nat.eq_of_beq_eq_true hq
    omega
  rw [this]
  rfl
 ·rfl
theorem tag_known {lo x : Nat} {h : AH} (k : TagsUp lo h) (h1 : lo ≤ x) (h2 : x < h.next) : ∀ kk, h.get x = some kk → below h.next (idsB kk) = true := fun kk e => by
 rcases k x h1 h2 kk e with ⟨cs, rw', rfl, q⟩ | ⟨y, t, n, rfl, _, q⟩
 ·simp only [idsB, q]
  rfl
 ·simp only [idsB, below, List.all_cons, List.all_nil, Bool.and_true]
  exact Nat.blt_eq.mpr q
theorem tag_same {h h' : AH} {b : Nat} (g : h'.get (b + 1) = h.get (b + 1)) : tagOf h' b = tagOf h b := by unfold tagOf; rw [g]
section
variable {E : Env} {s : St} {K : St → Prop} {rest : List DOp} {done : List DRec}
theorem app_drawU {dst a d b c : Nat} {l new : List UInt8} (kb : s.h.get b = some (.cells (bytesA l) true)) (hbl : b + 1 < s.h.next) (ht : tagOf s.h b = none) (hkb : ∀ k, s.h.get (b + 1) = some k → below s.h.next (idsB k) = true) (kc : RowT s.h c new) (h0 : new ≠ []) (hl : l.length + new.length ≤ 2 ^ 40) (h2 : s.eval (.t a) = some (.own b 0 l.length 1 none)) (h3 : s.eval (.t d) = some (.own c 0 new.length 1 none))
  (k : ∀ F D h', h'.next = s.h.next + 1 → h'.get s.h.next = some (.cells (bytesA (l ++ new)) true) → (∀ x, x < s.h.next → x ≠ b → h'.get x = s.h.get x) → (∀ x ∈ D, x = b) → h'.get b = none → DrawTo E rest (done ++ [⟨F, D, s.h.next, h'.next⟩]) ((s.toH h').put (some dst) (.own s.h.next 0 (l ++ new).length 1 none)) K) :
  DrawTo E (⟨⟨some dst, none, .appT 5 (.t a) (.t d)⟩, [a, d], []⟩ :: rest) done s K := by
 have hcl := kc.lt
 have G : ∀ h : AH, ((h.put b none).alloc (.cells (bytesA (l ++ new)) true)).next = h.next + 1 := fun h => rfl
 refine app_drawT (G := fun h => (h.put b none).alloc (.cells (bytesA (l ++ new)) true)) (w := .own s.h.next 0 (l ++ new).length 1 none) h2 h3 hbl hcl ?_ ?_ (by rw [G]; omega) (fun h e => by rw [G, G, e]) ?_ ?_ ?_ ?_
 ·intro x hx kk hk
  rcases hx with rfl | rfl | rfl | rfl
  ·rw [kb] at hk
   cases hk
   exact bytes_below
  ·exact hkb kk hk
  ·rw [kc.cb] at hk
   cases hk
   exact bytes_below
  ·rw [kc.tg] at hk
   cases hk
   simp only [idsB, below, List.all_cons, List.all_nil, Bool.and_true]
   exact Nat.blt_eq.mpr (by omega)
 ·intro s0 e1 e2 e3 e4
  have hr := plain_run (E := E) (s := s0) (a := a) (c := d) (x := .own c 0 new.length 1 none) (by rw [tag_same (e4 (b + 1) (.inr (.inl rfl))), ht]) e1 e2 (elems_row (by rw [e4 c (.inr (.inr (.inl rfl))), kc.cb]) (bytesA_len _)) h0 (by rw [e4 b (.inl rfl), kb]) hl
  rw [e3] at hr
  exact hr
 ·intro h e x h1 h2'
  rw [G] at h2'
  have hx : x = s.h.next := by omega
  have n1 : (h.put b none).next = s.h.next := e
  have n2 : (s.h.put b none).next = s.h.next := rfl
  rw [AH.get_alloc, AH.get_alloc, n1, n2, if_pos hx, if_pos hx]
 ·intro h e
  have n1 : (h.put b none).next = s.h.next := e
  have n2 : (s.h.put b none).next = s.h.next := rfl
  rw [AH.get_alloc, AH.get_alloc, n1, n2, if_neg (by omega), if_neg (by omega), AH.get_put, AH.get_put, if_pos rfl, if_pos rfl]
 ·intro x h1 h2'
  have n2 : (s.h.put b none).next = s.h.next := rfl
  rw [AH.get_alloc, n2, if_neg (by omega), get_put_old h2']
 ·intro D h' hD hn hg F
  rw [G] at hn
  have n2 : (s.h.put b none).next = s.h.next := rfl
  have := k F D h' hn (by rw [hg _ (by rw [G]; omega), AH.get_alloc, n2, if_pos rfl]) (fun x h1 h2' => by
   rw [hg x (by rw [G]; omega), AH.get_alloc, n2, if_neg (by omega), get_put_old h2']) hD (by rw [hg b (by rw [G]; omega), AH.get_alloc, n2, if_neg (by omega), AH.get_put, if_pos rfl])
  rw [hn] at this
  exact this
end
theorem f40_d1_run {s : St} {r0 b0 : Nat} {p : Pr} {l : List UInt8} (hg : s.h.get r0 = some (.cells p.cells true)) (hr : r0 < s.h.next) (hrow : RowT s.h b0 l) (hne : r0 ≠ b0) (hn : in64 p.n) (hk : p.ks.length < 2 ^ 60) (hl : l.length + ((encNum p.n).length + (encNum (p.ks.length : Nat)).length) ≤ 2 ^ 40)
  (h1 : s.eval (.t 1) = some (.ptr r0 0)) (h3 : s.eval (.t 3) = some (.own b0 0 l.length 1 none)) :
  Run E1 f40_d1 s fun e s' => e = .normal ∧ s'.eval (.t 1) = some (.ptr r0 0) ∧ OntoTo b0 s s' 3 (l ++ encNum p.n ++ encNum (p.ks.length : Nat)) := by
 have hb0 := hrow.lt
 have np : ∀ (h : AH) o, h.get r0 = some (.cells p.cells true) → r0 < h.next → niceT h (some (.ptr r0 o)) = true := fun h o g k => nice_ptr k g (by rw [p.ids0]; rfl)
 have n0 := fun o => np s.h o hg hr
 have nk : ∀ h : AH, niceT h (some p.kids) = true := fun h => plain_nice (by simp only [plainT, p.kids_ids]; rfl)
 have ok : onlyT [r0] (some p.kids) = true := by simp only [onlyT, p.kids_ids, List.all_nil]
 have on : ∀ o, onlyT [r0] (some (.ptr r0 o)) = true := fun o => by simp [onlyT, ids, memN]
 have nb : niceT s.h (some (.own b0 0 l.length 1 none)) = true := nice_row hrow.cb (by omega)
 refine run_draw ?_
 show DrawTo E1 (f40_o1.take 3 ++ f40_o1.drop 3) [] s _
 refine mild_pre (R := [r0]) _ [] s rfl (fun x hx => by cases hx) (fun r hr' => by rw [List.mem_singleton.1 hr']; exact hr) ?_
 simp -implicitDefEqProofs only [f40_o1, List.take_succ_cons, List.take_zero, wpDm, g_none, List.all_cons, List.all_nil, footed, V, ↓reduceIte, reduceEqDiff, reduceAdd, reduceMul, reduceCtorEq, reduceEq, reduceLT, reduceLE, h1, h3, hg, n0, on, nb]
 intro _ done hdl hdm
 have hdl : done.length = 3 := hdl
 refine call_drawR (f := 39) (i := 14) (a := .val (.int .i64 p.n)) (bs := encNum p.n) ?_ rfl (fun j hj => ?_) (fun h => num39_call hn) ?_
 ·simp -implicitDefEqProofs only [V, ↓reduceIte, reduceEqDiff, reduceAdd, reduceMul, reduceCtorEq, reduceEq, reduceLT, reduceLE]
 ·rw [hdl, List.mem_singleton.1 hj]; decide
 intro h2 b2 hb2 hr2 hn2 ho2 ht2
 have hb2 : s.h.next ≤ b2 := hb2
 have hn2 : s.h.next ≤ h2.next := hn2
 have ho2 : ∀ x, x < s.h.next → h2.get x = s.h.get x := ho2
 have hg2 : h2.get r0 = some (.cells p.cells true) := by rw [ho2 _ hr, hg]
 have hdm2 := mild_snoc hdm (mild_call (r0 := r0) (lo := s.h.next) (hi := h2.next) hr)
 refine app_drawR (b := b0) (c := b2) (l := l) (new := encNum p.n) ?_ hr2 (encNum_ne _) (by omega) ?_ ?_ ?_
 ·exact hrow.to hn2 (ho2 b0 (by omega)) (ho2 (b0 + 1) hb0)
 ·simp -implicitDefEqProofs only [V, ↓reduceIte, reduceEqDiff, reduceAdd, reduceMul, reduceCtorEq, reduceEq, reduceLT, reduceLE]
 ·simp -implicitDefEqProofs only [V, ↓reduceIte, reduceEqDiff, reduceAdd, reduceMul, reduceCtorEq, reduceEq, reduceLT, reduceLE]
 intro F D h3' b3 hb3 hr3 hn3 ho3 hD hbn ht3
 have hb3 : h2.next ≤ b3 := hb3
 have hn3 : h2.next ≤ h3'.next := hn3
 have ho3 : ∀ x, x < h2.next → x ≠ b0 → h3'.get x = h2.get x := ho3
 have hg3 : h3'.get r0 = some (.cells p.cells true) := by rw [ho3 _ (by omega) hne, hg2]
 have n3 := fun o => np h3' o hg3 (by omega)
 have hdm3 := mild_snoc hdm2 (mild_app (r0 := r0) (b := b0) (lo := h2.next) (hi := h3'.next) (F := F) (D := D) (by omega) hne hD)
 show DrawTo E1 ((f40_o1.drop 5).take 3 ++ f40_o1.drop 8) _ _ _
 refine mild_pre (R := [r0]) _ _ _ ?_ hdm3 (fun r hr' => by rw [List.mem_singleton.1 hr']; show r0 < h3'.next; omega) ?_
 ·rw [List.length_append, List.length_append, hdl]
  rfl
 simp -implicitDefEqProofs only [f40_o1, List.take_succ_cons, List.take_zero, List.drop_succ_cons, List.drop_zero, wpDm, g_none, List.all_cons, List.all_nil, footed, V, ↓reduceIte, reduceEqDiff, reduceAdd, reduceMul, reduceCtorEq, reduceEq, reduceLT, reduceLE, h1, hg3, n3, on, nk, ok]
 intro _ done4 hdl4 hdm4
 refine call_drawR (f := 39) (i := 19) (a := .val (.int .i64 (p.ks.length : Nat))) (bs := encNum (p.ks.length : Nat)) ?_ rfl (fun j hj => by cases hj) (fun h => num39_call (in64_nat hk)) ?_
 ·simp -implicitDefEqProofs only [V, ↓reduceIte, reduceEqDiff, reduceAdd, reduceMul, reduceCtorEq, reduceEq, reduceLT, reduceLE]
 intro h4 b4 hb4 hr4 hn4 ho4 ht4
 have hb4 : h3'.next ≤ b4 := hb4
 have hn4 : h3'.next ≤ h4.next := hn4
 have ho4 : ∀ x, x < h3'.next → h4.get x = h3'.get x := ho4
 have l3 := hr3.lt
 refine app_drawR (b := b3) (c := b4) (l := l ++ encNum p.n) (new := encNum (p.ks.length : Nat)) ?_ hr4 (encNum_ne _) (by rw [List.length_append]; omega) ?_ ?_ ?_
 ·exact hr3.to hn4 (ho4 b3 (by omega)) (ho4 (b3 + 1) l3)
 ·simp -implicitDefEqProofs only [V, ↓reduceIte, reduceEqDiff, reduceAdd, reduceMul, reduceCtorEq, reduceEq, reduceLT, reduceLE]
 ·simp -implicitDefEqProofs only [V, ↓reduceIte, reduceEqDiff, reduceAdd, reduceMul, reduceCtorEq, reduceEq, reduceLT, reduceLE]
 intro F' D' h5 b5 hb5 hr5 hn5 ho5 hD' hbn' ht5
 have hb5 : h4.next ≤ b5 := hb5
 have hn5 : h4.next ≤ h5.next := hn5
 have ho5 : ∀ x, x < h4.next → x ≠ b3 → h5.get x = h4.get x := ho5
 refine mv_draw (v := .own b5 0 (l ++ encNum p.n ++ encNum (p.ks.length : Nat)).length 1 none) ?_ ?_ (fun j hj => by cases hj) (draw_nil ?_)
 ·simp -implicitDefEqProofs only [V, ↓reduceIte, reduceEqDiff, reduceAdd, reduceMul, reduceCtorEq, reduceEq, reduceLT, reduceLE]
 ·exact nice_row hr5.cb (by have := hr5.lt; show b5 < h5.next; omega)
 refine ⟨?_, ⟨⟨b5, by omega, ?_, ?_⟩, ?_, ?_, ?_, ?_⟩⟩
 ·simp -implicitDefEqProofs only [V, ↓reduceIte, reduceEqDiff, reduceAdd, reduceMul, reduceCtorEq, reduceEq, reduceLT, reduceLE, h1]
 ·simp -implicitDefEqProofs only [V, ↓reduceIte, reduceEqDiff, reduceAdd, reduceMul, reduceCtorEq, reduceEq, reduceLT, reduceLE]
 ·exact hr5
 ·show s.h.next ≤ h5.next
  omega
 ·intro z hz hzb
  show h5.get z = s.h.get z
  rw [ho5 z (by omega) (by omega), ho4 z (by omega), ho3 z (by omega) hzb, ho2 z hz]
 ·simp -implicitDefEqProofs only [V, ↓reduceIte, reduceEqDiff, reduceAdd, reduceMul, reduceCtorEq, reduceEq, reduceLT, reduceLE]
 ·intro lo hlo k1
  have k2 : TagsUp s.h.next h2 := ht2
  have k3 : TagsUp h2.next h3' := ht3
  have k4 : TagsUp h3'.next h4 := ht4
  have k5 : TagsUp h4.next h5 := ht5
  have hbn : h3'.get b0 = none := hbn
  have hbn' : h5.get b3 = none := hbn'
  refine (((k1.trans k2 hlo hn2 (fun x _ h => .inl (ho2 x h))).trans k3 (by omega) hn3 (fun x _ h => ?_)).trans k4 (by omega) hn4 (fun x _ h => .inl (ho4 x h))).trans k5 (by omega) hn5 (fun x _ h => ?_)
  ·by_cases e : x = b0
   ·rw [e]; exact .inr hbn
   ·exact .inl (ho3 x h e)
  ·by_cases e : x = b3
   ·rw [e]; exact .inr hbn'
   ·exact .inl (ho5 x h e)
end Go.Proofs.YtijpnlmmaoecgaaGreatDoor
