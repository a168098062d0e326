/- A part of the proofs about certificates: YRef YRefb. -/
import Derived.Test.YtijpnlmmaoecgaaGreatDoorQR3

set_option linter.all false

namespace Go.Proofs.YtijpnlmmaoecgaaGreatDoor
open Go Go.AM
def numD : List UInt8 → Nat → Nat → Option Nat × List UInt8
 | [], _, _ => (none, [])
 | c :: r, u, sh => if 63 < sh then (none, c :: r) else if (sh = 63 ∧ 1 < c.toNat) ∨ (0 < sh ∧ c.toNat = 0) then (none, r) else if c.toNat < 128 then (some (u + c.toNat % 128 * 2 ^ sh), r) else numD r (u + c.toNat % 128 * 2 ^ sh) (sh + 7)
def dNumV (p : Option Nat × List UInt8) : Int × RS := match p.1 with
 | some u => (unz u, ⟨p.2, false⟩)
 | none => (0, ⟨p.2, true⟩)
def dNum (s : RS) : Int × RS := if s.bad then (0, s) else dNumV (numD s.rest 0 0)
def dCount (s : RS) : Nat × RS :=
 let a := dNum s
 if a.2.bad || (decide (a.1 < 0) || decide ((a.2.rest.length : Int) < a.1)) then (0, ⟨a.2.rest, true⟩) else (a.1.toNat, a.2)
def dText (s : RS) : ByteArray × RS :=
 let a := dCount s
 (⟨(a.2.rest.take a.1).toArray⟩, ⟨a.2.rest.drop a.1, a.2.bad⟩)
def dTruth (s : RS) : Bool × RS :=
 let a := dNum s
 (decide (a.1 = 1), ⟨a.2.rest, a.2.bad || (!decide (a.1 = 0) && !decide (a.1 = 1))⟩)
def dRow {α : Type} (one : RS → α × RS) (s : RS) : List α × RS := rList one (dCount s).1 (dCount s).2
def dPr : Nat → RS → Pr × RS
 | 0, s => (.mk 0 ⟨#[]⟩ 0 [] nilRow none, s)
 | f + 1, s =>
  let a := dNum s
  let b := dText a.2
  let c := dNum b.2
  let d := dRow (dPr f) c.2
  (.mk a.1 b.1 c.1 d.1 nilRow none, d.2)
def dBg (s : RS) : Bg × RS :=
 let a := dTruth s
 let b := dRow dNum a.2
 (.mk a.1 b.1 nilRow none, b.2)
def dPf : Nat → RS → Pf × RS
 | 0, s => (.mk 0 0 [] nilRow none [] nilRow none, s)
 | f + 1, s =>
  let a := dNum s
  let b := dNum a.2
  let c := dRow dBg b.2
  let d := dRow (dPf f) c.2
  (.mk a.1 b.1 c.1 nilRow none d.1 nilRow none, d.2)
def dSo (f : Nat) (s : RS) : So × RS :=
 let a := dText s
 let b := dPr f a.2
 (⟨a.1, b.1⟩, b.2)
def dCe (f : Nat) (s : RS) : Ce × RS :=
 let a := dText s
 let b := dNum a.2
 let c := dRow (dSo f) b.2
 let d := dRow (dPf f) c.2
 (⟨a.1, b.1, c.1, nilRow, none, d.1, nilRow, none⟩, d.2)
def refCe (f : Nat) (b : List UInt8) : Option Ce :=
 if headOk b then
  if (b.take (b.length - 4) ++ tail4 (fnv (b.take (b.length - 4))) == b) then
   let a := dCe f ⟨midOf b, false⟩
   if a.2.bad || !a.2.rest.isEmpty then none else some a.1
  else none
 else none
theorem numD_enc (rest : List UInt8) : ∀ (f u acc : Nat), f ≤ 9 → u * 2 ^ (63 - 7 * f) < 2 ^ 64 → (f < 9 → 0 < u) → numD (numP f u ++ (UInt8.ofNat (numL f u) :: rest)) acc (63 - 7 * f) = (some (acc + u * 2 ^ (63 - 7 * f)), rest)
 | 0, u, acc, hf, hu, hp => by
  have hu' : u < 2 := by
   simp only [Nat.mul_zero, Nat.sub_zero] at hu
   omega
  have hp := hp (by omega)
  have e : (UInt8.ofNat u).toNat = u := ofNat_toNat (by omega)
  simp only [numP, numL, List.nil_append, numD, Nat.mul_zero, Nat.sub_zero, e]
  rw [if_neg (by omega), if_neg (by omega), if_pos (by omega), Nat.mod_eq_of_lt (by omega)]
 | f + 1, u, acc, hf, hu, hp => by
  have hs : 63 - 7 * (f + 1) + 7 = 63 - 7 * f := by omega
  have hpw : 2 ^ (63 - 7 * f) = 2 ^ (63 - 7 * (f + 1)) * 128 := by
   rw [← hs, Nat.pow_add]
  by_cases h : u < 128
  ·have e : (UInt8.ofNat u).toNat = u := ofNat_toNat (by omega)
   rw [numP, numL, if_pos h, if_pos h]
   simp only [List.nil_append, numD, e]
   rw [if_neg (by omega), if_neg (by omega), if_pos h, Nat.mod_eq_of_lt h]
  ·have e : (UInt8.ofNat (u % 128 + 128)).toNat = u % 128 + 128 := ofNat_toNat (by omega)
   rw [numP, numL, if_neg h, if_neg h]
   simp only [List.cons_append, numD, e]
   have m : (u % 128 + 128) % 128 = u % 128 := by omega
   have hdm : u = 128 * (u / 128) + u % 128 := (Nat.div_add_mod u 128).symm
   rw [if_neg (by omega), if_neg (by omega), if_neg (by omega), m, hs, numD_enc rest f (u / 128) _ (by omega) ?_ (fun _ => by omega)]
   ·congr 2
    rw [hpw]
    generalize 2 ^ (63 - 7 * (f + 1)) = k
    generalize u / 128 = q at *
    generalize u % 128 = t at *
    subst hdm
    rw [Nat.add_mul, Nat.add_assoc]
    congr 1
    rw [Nat.add_comm]
    congr 1
    rw [Nat.mul_comm k 128, ← Nat.mul_assoc, Nat.mul_comm q 128]
   ·rw [hpw]
    refine Nat.lt_of_le_of_lt ?_ hu
    rw [Nat.mul_comm (2 ^ (63 - 7 * (f + 1))) 128, ← Nat.mul_assoc]
    exact Nat.mul_le_mul_right _ (by omega)
theorem dNum_enc {n : Int} (h : in64 n) (rest : List UInt8) : dNum ⟨encNum n ++ rest, false⟩ = (n, ⟨rest, false⟩) := by
 have hz := zz_lt h
 have := numD_enc rest 9 (zz n) 0 (Nat.le_refl _) (by simpa using hz) (fun h => by omega)
 simp only [dNum, Bool.false_eq_true, if_false, encNum, encU, List.append_assoc, List.cons_append, List.nil_append]
 simp only [Nat.reduceMul, Nat.reduceSub, Nat.pow_zero, Nat.mul_one, Nat.zero_add] at this
 rw [this]
 simp only [dNumV, unz_zz h]
theorem dCount_enc {n : Nat} (h : n < 2 ^ 60) (rest : List UInt8) (hl : n ≤ rest.length) : dCount ⟨encNum (n : Nat) ++ rest, false⟩ = (n, ⟨rest, false⟩) := by
 have h1 : decide ((n : Int) < 0) = false := by simp
 have h2 : decide ((rest.length : Int) < (n : Int)) = false := by simp; omega
 simp only [dCount, dNum_enc (in64_nat h), h1, h2, Bool.or_self, Bool.false_eq_true, if_false, Int.toNat_natCast]
theorem dText_enc {t : ByteArray} (h : t.size < 2 ^ 60) (rest : List UInt8) : dText ⟨encText t ++ rest, false⟩ = (t, ⟨rest, false⟩) := by
 have hsz : t.size = t.data.toList.length := rfl
 simp only [dText, encText, List.append_assoc]
 rw [dCount_enc h _ (by rw [List.length_append]; omega)]
 simp only [hsz, List.take_left, List.drop_left]
theorem dRow_enc {α : Type} {one : RS → α × RS} {enc : α → List UInt8} {st : α → α} {l : List α} (hl : l.length < 2 ^ 60) (h : ∀ a ∈ l, ∀ rest, one ⟨enc a ++ rest, false⟩ = (st a, ⟨rest, false⟩)) (hp : ∀ a ∈ l, 1 ≤ (enc a).length) (rest : List UInt8) :
  dRow one ⟨encNum (l.length : Nat) ++ (l.flatMap enc ++ rest), false⟩ = (l.map st, ⟨rest, false⟩) := by
 have := flat_len l hp
 rw [dRow, dCount_enc hl _ (by rw [List.length_append]; omega)]
 exact rList_enc l h rest
mutual
theorem dPr_enc : ∀ (p : Pr), fitPr p → ∀ f, (encPr p).length < f → ∀ rest, dPr f ⟨encPr p ++ rest, false⟩ = (stPr p, ⟨rest, false⟩)
 | .mk o t n ks nl cap, h, f, hf, rest => by
  simp only [fitPr] at h
  obtain ⟨h1, h2, h3, h4, h5⟩ := h
  cases f with
  | zero => omega
  | succ f =>
   have l1 := encNum_pos o
   simp only [encPr, List.length_append] at hf
   have hk := dPrL_enc ks h5 f (by omega)
   simp only [dPr, encPr, List.append_assoc, dNum_enc h1, dText_enc h3, dNum_enc h2]
   rw [encPrL_flat, dRow_enc (st := stPr) h4 hk (fun a _ => encPr_pos a)]
   simp only [stPr, stPrL_map]
theorem dPrL_enc : ∀ (l : List Pr), fitPrL l → ∀ f, (encPrL l).length < f → ∀ p ∈ l, ∀ rest, dPr f ⟨encPr p ++ rest, false⟩ = (stPr p, ⟨rest, false⟩)
 | [], _, _, _, p, hp, _ => by cases hp
 | k :: r, h, f, hf, p, hp, rest => by
  simp only [fitPrL] at h
  simp only [encPrL, List.length_append] at hf
  rcases List.mem_cons.1 hp with e | hp
  ·rw [e]; exact dPr_enc k h.1 f (by omega) rest
  ·exact dPrL_enc r h.2 f (by omega) p hp rest
end
theorem dBg_enc {b : Bg} (h : fitBg b) (rest : List UInt8) : dBg ⟨encBg b ++ rest, false⟩ = (stBg b, ⟨rest, false⟩) := by
 obtain ⟨h1, h2⟩ := h
 have hs : in64 (if b.neg then 1 else 0) := by
  unfold in64
  split <;> omega
 obtain ⟨neg, ds, nl, cap⟩ := b
 have hr : ∀ rest, dRow dNum ⟨encNum (ds.length : Nat) ++ (ds.flatMap encNum ++ rest), false⟩ = (ds.map id, ⟨rest, false⟩) := fun rest => dRow_enc (one := dNum) (enc := encNum) (st := id) h1 (fun a ha r => dNum_enc (h2 a ha) r) (fun a _ => encNum_pos a) rest
 have hbt : ∀ (n : Int) (rest : List UInt8), in64 n → (n = 0 ∨ n = 1) → dTruth ⟨encNum n ++ rest, false⟩ = (decide (n = 1), ⟨rest, false⟩) := fun n rest hn h01 => by
  simp only [dTruth, dNum_enc hn]
  rcases h01 with rfl | rfl <;> rfl
 have hs : in64 (if neg then 1 else 0) := hs
 have e1 : encBg (.mk neg ds nl cap) = encNum (if neg then 1 else 0) ++ (encNum (ds.length : Nat) ++ ds.flatMap encNum) := rfl
 rw [e1, List.append_assoc, List.append_assoc, dBg, hbt _ _ hs (by cases neg <;> simp), hr, List.map_id]
 cases neg <;> rfl
mutual
theorem dPf_enc : ∀ (p : Pf), fitPf p → ∀ f, (encPf p).length < f → ∀ rest, dPf f ⟨encPf p ++ rest, false⟩ = (stPf p, ⟨rest, false⟩)
 | .mk k t ms mnl mcap ks nl cap, h, f, hf, rest => by
  simp only [fitPf] at h
  obtain ⟨h1, h2, h3, h4, h5, h6⟩ := h
  cases f with
  | zero => omega
  | succ f =>
   have l1 := encNum_pos k
   simp only [encPf, List.length_append] at hf
   have hk := dPfL_enc ks h6 f (by omega)
   have hm := dRow_enc (one := dBg) (enc := encBg) (st := stBg) h3 (fun a ha r => dBg_enc (h4 a ha) r) (fun a _ => encBg_pos a)
   simp only [dPf, encPf, List.append_assoc, dNum_enc h1, dNum_enc h2, encBgs, hm]
   rw [encPfL_flat, dRow_enc (st := stPf) h5 hk (fun a _ => encPf_pos a)]
   simp only [stPf, stPfL_map]
theorem dPfL_enc : ∀ (l : List Pf), fitPfL l → ∀ f, (encPfL l).length < f → ∀ p ∈ l, ∀ rest, dPf f ⟨encPf p ++ rest, false⟩ = (stPf p, ⟨rest, false⟩)
 | [], _, _, _, p, hp, _ => by cases hp
 | k :: r, h, f, hf, p, hp, rest => by
  simp only [fitPfL] at h
  simp only [encPfL, List.length_append] at hf
  rcases List.mem_cons.1 hp with e | hp
  ·rw [e]; exact dPf_enc k h.1 f (by omega) rest
  ·exact dPfL_enc r h.2 f (by omega) p hp rest
end
theorem dSo_enc {s : So} (h : fitSo s) {f : Nat} (hf : (encSo s).length < f) (rest : List UInt8) : dSo f ⟨encSo s ++ rest, false⟩ = (stSo s, ⟨rest, false⟩) := by
 simp only [encSo, List.length_append] at hf
 simp only [dSo, encSo, List.append_assoc, dText_enc h.1, dPr_enc s.p h.2 f (by omega)]
 rfl
theorem dCe_enc {c : Ce} (h : fitCe c) {f : Nat} (hf : (encMid c).length < f) : dCe f ⟨encMid c, false⟩ = (stCe c, ⟨[], false⟩) := by
 simp only [encMid, List.length_append] at hf
 have hs := dRow_enc (one := dSo f) (enc := encSo) (st := stSo) h.sl (fun a ha r => dSo_enc (h.ss a ha) (by
  have := mem_flat_len (enc := encSo) c.ss a ha
  rw [encSos] at hf
  omega) r) (fun a _ => encSo_pos a)
 have hp := dRow_enc (one := dPf f) (enc := encPf) (st := stPf) h.pl (dPfL_enc c.ps h.ps f (by omega)) (fun a _ => encPf_pos a) []
 rw [List.append_nil, ← encPfL_flat] at hp
 simp only [dCe, encMid, dText_enc h.nm, dNum_enc h.dg, encSos, hs, hp, stCe, stPfL_map]
theorem numD_inv : ∀ (l : List UInt8) (f acc u : Nat) (r : List UInt8), f ≤ 9 → numD l acc (63 - 7 * f) = (some u, r) → ∃ v, u = acc + v * 2 ^ (63 - 7 * f) ∧ v < 2 ^ (64 - (63 - 7 * f)) ∧ l = numP f v ++ (UInt8.ofNat (numL f v) :: r) ∧ (f < 9 → 0 < v)
 | [], f, acc, u, r, hf, h => by simp [numD] at h
 | c :: l, f, acc, u, r, hf, h => by
  have hc := c.toNat_lt
  have hof : UInt8.ofNat c.toNat = c := by simp
  simp only [numD] at h
  rw [if_neg (by omega)] at h
  split at h
  ·cases h
  ·rename_i hn
   split at h
   ·rename_i hlt
    simp only [Prod.mk.injEq, Option.some.injEq] at h
    obtain ⟨rfl, rfl⟩ := h
    refine ⟨c.toNat, by rw [Nat.mod_eq_of_lt hlt], ?_, ?_, fun hf9 => by omega⟩
    ·cases f with
     | zero =>
      simp only [Nat.mul_zero, Nat.sub_zero]
      omega
     | succ f =>
      refine Nat.lt_of_lt_of_le hlt ?_
      exact Nat.le_trans (by decide : 128 ≤ 2 ^ 7) (Nat.pow_le_pow_right (by decide) (by omega))
    ·cases f with
     | zero => simp only [numP, numL, List.nil_append, hof]
     | succ f => rw [numP, numL, if_pos hlt, if_pos hlt, List.nil_append, hof]
   ·rename_i hge
    cases f with
    | zero => exact absurd (by omega : (63 - 7 * 0 = 63 ∧ 1 < c.toNat) ∨ (0 < 63 - 7 * 0 ∧ c.toNat = 0)) hn
    | succ f =>
     have hs : 63 - 7 * (f + 1) + 7 = 63 - 7 * f := by omega
     rw [hs] at h
     obtain ⟨v, h1, h2, h3, h4⟩ := numD_inv l f _ u r (by omega) h
     have h4 := h4 (by omega)
     have hpw : 2 ^ (63 - 7 * f) = 2 ^ (63 - 7 * (f + 1)) * 128 := by
      rw [← hs, Nat.pow_add]
     have hv : ¬ (c.toNat % 128 + 128 * v) < 128 := by omega
     have d1 : (c.toNat % 128 + 128 * v) / 128 = v := by omega
     have d2 : (c.toNat % 128 + 128 * v) % 128 + 128 = c.toNat := by omega
     refine ⟨c.toNat % 128 + 128 * v, ?_, ?_, ?_, fun _ => by omega⟩
     ·rw [h1, hpw, Nat.add_mul, Nat.add_assoc]
      congr 2
      rw [Nat.mul_comm (2 ^ (63 - 7 * (f + 1))) 128, ← Nat.mul_assoc, Nat.mul_comm v 128]
     ·have e : 64 - (63 - 7 * (f + 1)) = (64 - (63 - 7 * f)) + 7 := by omega
      rw [e, Nat.pow_add]
      omega
     ·rw [numP, numL, if_neg hv, if_neg hv, d1, d2, hof, List.cons_append, h3]
theorem zz_unz {u : Nat} : zz (unz u) = u := by
 unfold unz
 split
 ·unfold zz
  rw [if_pos (by omega)]
  omega
 ·unfold zz
  rw [if_neg (by omega)]
  omega
theorem dNum_inv {s : RS} (h : (dNum s).2.bad = false) : s.bad = false ∧ in64 (dNum s).1 ∧ s.rest = encNum (dNum s).1 ++ (dNum s).2.rest := by
 unfold dNum at h ⊢
 cases hb : s.bad with
 | true =>
  rw [hb] at h
  simp only [if_true] at h
  rw [hb] at h
  cases h
 | false =>
  rw [hb] at h
  simp only [Bool.false_eq_true, if_false] at h ⊢
  cases hq : numD s.rest 0 0 with
  | mk o r =>
   cases o with
   | none => rw [hq] at h; cases h
   | some u =>
    obtain ⟨v, h1, h2, h3, _⟩ := numD_inv s.rest 9 0 u r (Nat.le_refl _) hq
    simp only [Nat.reduceMul, Nat.reduceSub, Nat.pow_zero, Nat.mul_one, Nat.zero_add] at h1 h2
    subst h1
    refine ⟨trivial, unz_in h2, ?_⟩
    simp only [dNumV, encNum, zz_unz, encU]
    rw [h3]
    simp only [List.append_assoc, List.cons_append, List.nil_append]
theorem dCount_inv {s : RS} (h : (dCount s).2.bad = false) : s.bad = false ∧ (dCount s).1 ≤ (dCount s).2.rest.length ∧ s.rest = encNum ((dCount s).1 : Nat) ++ (dCount s).2.rest := by
 unfold dCount at h ⊢
 simp only at h ⊢
 split at h
 ·cases h
 ·rename_i hn
  rw [if_neg hn]
  simp only [Bool.or_eq_true, decide_eq_true_eq, not_or, Bool.not_eq_true] at hn
  obtain ⟨n1, n2, n3⟩ := hn
  obtain ⟨h1, h2, h3⟩ := dNum_inv n1
  have e : (((dNum s).1.toNat : Nat) : Int) = (dNum s).1 := by omega
  refine ⟨h1, by show (dNum s).1.toNat ≤ (dNum s).2.rest.length; omega, ?_⟩
  show s.rest = encNum (((dNum s).1.toNat : Nat) : Int) ++ _
  rw [e]
  exact h3
theorem dText_inv {s : RS} (h : (dText s).2.bad = false) : s.bad = false ∧ s.rest = encText (dText s).1 ++ (dText s).2.rest := by
 obtain ⟨h1, h2, h3⟩ := dCount_inv (s := s) h
 refine ⟨h1, ?_⟩
 have hl : (⟨((dCount s).2.rest.take (dCount s).1).toArray⟩ : ByteArray).size = (dCount s).1 := by
  show ((dCount s).2.rest.take (dCount s).1).toArray.size = _
  rw [List.size_toArray, List.length_take]
  omega
 have ht : (⟨((dCount s).2.rest.take (dCount s).1).toArray⟩ : ByteArray).data.toList = (dCount s).2.rest.take (dCount s).1 := rfl
 simp only [dText, encText, hl, ht, List.append_assoc, List.take_append_drop]
 exact h3
theorem dTruth_inv {s : RS} (h : (dTruth s).2.bad = false) : s.bad = false ∧ s.rest = encNum (if (dTruth s).1 then 1 else 0) ++ (dTruth s).2.rest := by
 simp only [dTruth, Bool.or_eq_false_iff] at h
 obtain ⟨n1, n2⟩ := h
 obtain ⟨h1, h2, h3⟩ := dNum_inv n1
 refine ⟨h1, ?_⟩
 have e : (if (dTruth s).1 = true then (1 : Int) else 0) = (dNum s).1 := by
  simp only [dTruth, decide_eq_true_eq]
  simp only [Bool.and_eq_false_iff, Bool.not_eq_false', decide_eq_true_eq] at n2
  split <;> omega
 rw [e]
 exact h3
theorem numD_len : ∀ (l : List UInt8) (u sh : Nat), (numD l u sh).2.length ≤ l.length
 | [], _, _ => Nat.le_refl _
 | c :: r, u, sh => by
  rw [numD]
  split
  ·exact Nat.le_refl _
  ·split
   ·exact Nat.le_succ _
   ·split
    ·exact Nat.le_succ _
    ·exact Nat.le_trans (numD_len r _ _) (Nat.le_succ _)
theorem dNumV_rest (p : Option Nat × List UInt8) : (dNumV p).2.rest = p.2 := by
 unfold dNumV
 cases p.1 <;> rfl
theorem dNum_len (s : RS) : (dNum s).2.rest.length ≤ s.rest.length := by
 unfold dNum
 split
 ·exact Nat.le_refl _
 ·rw [dNumV_rest]; exact numD_len _ _ _
theorem dCount_rest (s : RS) : (dCount s).2.rest = (dNum s).2.rest := by
 unfold dCount
 simp only
 split <;> rfl
theorem dCount_len (s : RS) : (dCount s).2.rest.length ≤ s.rest.length := by rw [dCount_rest]; exact dNum_len s
theorem dCount_le (s : RS) : (dCount s).1 ≤ (dCount s).2.rest.length := by
 unfold dCount
 simp only
 split
 ·exact Nat.zero_le _
 ·rename_i hn
  simp only [Bool.or_eq_true, decide_eq_true_eq, not_or, Bool.not_eq_true] at hn
  show (dNum s).1.toNat ≤ (dNum s).2.rest.length
  omega
theorem dText_len (s : RS) : (dText s).2.rest.length ≤ s.rest.length := by
 have := dCount_len s
 simp only [dText, List.length_drop]
 omega
theorem dTruth_len (s : RS) : (dTruth s).2.rest.length ≤ s.rest.length := dNum_len s
theorem dRow_len {α : Type} {one : RS → α × RS} (mono : ∀ st, (one st).2.rest.length ≤ st.rest.length) (s : RS) : (dRow one s).2.rest.length ≤ s.rest.length := Nat.le_trans (rList_len mono _ _) (dCount_len s)
theorem dPr_len : ∀ (f : Nat) (s : RS), (dPr f s).2.rest.length ≤ s.rest.length
 | 0, s => Nat.le_refl _
 | f + 1, s => by
  have h1 := dNum_len s
  have h2 := dText_len (dNum s).2
  have h3 := dNum_len (dText (dNum s).2).2
  have h4 := dRow_len (dPr_len f) (dNum (dText (dNum s).2).2).2
  simp only [dPr]
  omega
theorem dBg_len (s : RS) : (dBg s).2.rest.length ≤ s.rest.length := by
 have h1 := dTruth_len s
 have h2 := dRow_len dNum_len (dTruth s).2
 simp only [dBg]
 omega
theorem dPf_len : ∀ (f : Nat) (s : RS), (dPf f s).2.rest.length ≤ s.rest.length
 | 0, s => Nat.le_refl _
 | f + 1, s => by
  have h1 := dNum_len s
  have h2 := dNum_len (dNum s).2
  have h3 := dRow_len dBg_len (dNum (dNum s).2).2
  have h4 := dRow_len (dPf_len f) (dRow dBg (dNum (dNum s).2).2).2
  simp only [dPf]
  omega
theorem dSo_len (f : Nat) (s : RS) : (dSo f s).2.rest.length ≤ s.rest.length := by
 have h1 := dText_len s
 have h2 := dPr_len f (dText s).2
 simp only [dSo]
 omega
def InvOk {α : Type} (one : RS → α × RS) (enc : α → List UInt8) (F : Nat) : Prop := ∀ s : RS, s.rest.length < F → (one s).2.bad = false → s.bad = false ∧ s.rest = enc (one s).1 ++ (one s).2.rest
theorem rList_inv {α : Type} {one : RS → α × RS} {enc : α → List UInt8} {F : Nat} (mono : ∀ st, (one st).2.rest.length ≤ st.rest.length) (h : InvOk one enc F) : ∀ (n : Nat) (s : RS), s.rest.length < F → (rList one n s).2.bad = false → s.bad = false ∧ (rList one n s).1.length = n ∧ s.rest = (rList one n s).1.flatMap enc ++ (rList one n s).2.rest
 | 0, s, _, hb => ⟨hb, rfl, by simp only [rList, List.flatMap_nil, List.nil_append]⟩
 | n + 1, s, hl, hb => by
  cases hs : s.bad with
  | true =>
   rw [rList, if_pos hs] at hb
   rw [hs] at hb
   cases hb
  | false =>
   have hne : ¬ s.bad = true := by rw [hs]; decide
   rw [rList, if_neg hne] at hb ⊢
   obtain ⟨a1, a2, a3⟩ := rList_inv mono h n (one s).2 (Nat.lt_of_le_of_lt (mono s) hl) hb
   obtain ⟨b1, b2⟩ := h s hl a1
   refine ⟨rfl, by simp only [List.length_cons, a2], ?_⟩
   simp only [List.flatMap_cons, List.append_assoc]
   rw [← a3]
   exact b2
theorem dRow_inv {α : Type} {one : RS → α × RS} {enc : α → List UInt8} {F : Nat} (mono : ∀ st, (one st).2.rest.length ≤ st.rest.length) (h : InvOk one enc F) {s : RS} (hl : s.rest.length < F) (hb : (dRow one s).2.bad = false) : s.bad = false ∧ s.rest = encNum ((dRow one s).1.length : Nat) ++ ((dRow one s).1.flatMap enc ++ (dRow one s).2.rest) := by
 obtain ⟨a1, a2, a3⟩ := rList_inv mono h _ _ (Nat.lt_of_le_of_lt (dCount_len s) hl) hb
 obtain ⟨b1, b2, b3⟩ := dCount_inv a1
 refine ⟨b1, ?_⟩
 rw [dRow, a2, ← a3]
 exact b3
theorem num_inv (F : Nat) : InvOk dNum encNum F := fun s _ h => ⟨(dNum_inv h).1, (dNum_inv h).2.2⟩
theorem dPr_inv : ∀ (f : Nat), InvOk (dPr f) encPr f
 | 0, s, hl, _ => by omega
 | f + 1, s, hl, hb => by
  have hb' : (dRow (dPr f) (dNum (dText (dNum s).2).2).2).2.bad = false := hb
  have l1 := dNum_len s
  have l2 := dText_len (dNum s).2
  have l3 := dNum_len (dText (dNum s).2).2
  by_cases hz : (dNum (dText (dNum s).2).2).2.rest.length < f
  ·obtain ⟨a1, a2⟩ := dRow_inv (dPr_len f) (dPr_inv f) hz hb'
   obtain ⟨b1, _, b2⟩ := dNum_inv a1
   obtain ⟨c1, c2⟩ := dText_inv b1
   obtain ⟨d1, _, d2⟩ := dNum_inv c1
   refine ⟨d1, ?_⟩
   have e : encPr (dPr (f + 1) s).1 = encNum (dNum s).1 ++ (encText (dText (dNum s).2).1 ++ (encNum (dNum (dText (dNum s).2).2).1 ++ (encNum ((dRow (dPr f) (dNum (dText (dNum s).2).2).2).1.length : Nat) ++ encPrL (dRow (dPr f) (dNum (dText (dNum s).2).2).2).1))) := rfl
   rw [e, encPrL_flat]
   simp only [List.append_assoc]
   rw [d2]
   congr 1
   rw [c2]
   congr 1
   rw [b2]
   congr 1
  ·exfalso
   have hc : (dCount (dNum (dText (dNum s).2).2).2).2.bad = false := by
    cases hq : (dCount (dNum (dText (dNum s).2).2).2).2.bad with
    | false => rfl
    | true =>
     have : ∀ n, (rList (dPr f) n (dCount (dNum (dText (dNum s).2).2).2).2).2.bad = true := fun n => by
      cases n with
      | zero => exact hq
      | succ n => rw [rList, if_pos hq]; exact hq
     rw [dRow, this] at hb'
     cases hb'
   obtain ⟨a1, a2, a3⟩ := dCount_inv hc
   obtain ⟨b1, _, b2⟩ := dNum_inv a1
   have p1 := encNum_pos (dNum (dText (dNum s).2).2).1
   have := congrArg List.length b2
   rw [List.length_append] at this
   omega
theorem dBg_inv (F : Nat) : InvOk dBg encBg F := fun s hl hb => by
 have hb' : (dRow dNum (dTruth s).2).2.bad = false := hb
 obtain ⟨a1, a2⟩ := dRow_inv dNum_len (num_inv _) (Nat.lt_succ_self _) hb'
 obtain ⟨b1, b2⟩ := dTruth_inv a1
 refine ⟨b1, ?_⟩
 have e : encBg (dBg s).1 = encNum (if (dTruth s).1 then 1 else 0) ++ (encNum ((dRow dNum (dTruth s).2).1.length : Nat) ++ (dRow dNum (dTruth s).2).1.flatMap encNum) := rfl
 rw [e]
 simp only [List.append_assoc]
 rw [b2]
 congr 1
theorem dPf_inv : ∀ (f : Nat), InvOk (dPf f) encPf f
 | 0, s, hl, _ => by omega
 | f + 1, s, hl, hb => by
  have hb' : (dRow (dPf f) (dRow dBg (dNum (dNum s).2).2).2).2.bad = false := hb
  have l1 := dNum_len s
  have l2 := dNum_len (dNum s).2
  have l3 := dRow_len dBg_len (dNum (dNum s).2).2
  by_cases hz : (dRow dBg (dNum (dNum s).2).2).2.rest.length < f
  ·obtain ⟨a1, a2⟩ := dRow_inv (dPf_len f) (dPf_inv f) hz hb'
   obtain ⟨b1, b2⟩ := dRow_inv dBg_len (dBg_inv _) (Nat.lt_succ_self _) a1
   obtain ⟨c1, _, c2⟩ := dNum_inv b1
   obtain ⟨d1, _, d2⟩ := dNum_inv c1
   refine ⟨d1, ?_⟩
   have e : encPf (dPf (f + 1) s).1 = encNum (dNum s).1 ++ (encNum (dNum (dNum s).2).1 ++ (encNum ((dRow dBg (dNum (dNum s).2).2).1.length : Nat) ++ ((dRow dBg (dNum (dNum s).2).2).1.flatMap encBg ++ (encNum ((dRow (dPf f) (dRow dBg (dNum (dNum s).2).2).2).1.length : Nat) ++ encPfL (dRow (dPf f) (dRow dBg (dNum (dNum s).2).2).2).1)))) := rfl
   rw [e, encPfL_flat]
   simp only [List.append_assoc]
   rw [d2]
   congr 1
   rw [c2]
   congr 1
   rw [b2]
   congr 2
  ·exfalso
   have hc : (dRow dBg (dNum (dNum s).2).2).2.bad = false := by
    have hc0 : (dCount (dRow dBg (dNum (dNum s).2).2).2).2.bad = false := by
     cases hq : (dCount (dRow dBg (dNum (dNum s).2).2).2).2.bad with
     | false => rfl
     | true =>
      have : ∀ n, (rList (dPf f) n (dCount (dRow dBg (dNum (dNum s).2).2).2).2).2.bad = true := fun n => by
       cases n with
       | zero => exact hq
       | succ n => rw [rList, if_pos hq]; exact hq
      rw [dRow, this] at hb'
      cases hb'
    exact (dCount_inv hc0).1
   obtain ⟨b1, b2⟩ := dRow_inv dBg_len (dBg_inv _) (Nat.lt_succ_self _) hc
   obtain ⟨c1, _, c2⟩ := dNum_inv b1
   have p1 := encNum_pos (dNum (dNum s).2).1
   have := congrArg List.length c2
   rw [List.length_append] at this
   omega
theorem dSo_inv (F : Nat) : InvOk (dSo F) encSo F := fun s hl hb => by
 have hb' : (dPr F (dText s).2).2.bad = false := hb
 obtain ⟨a1, a2⟩ := dPr_inv F (dText s).2 (Nat.lt_of_le_of_lt (dText_len s) hl) hb'
 obtain ⟨b1, b2⟩ := dText_inv a1
 refine ⟨b1, ?_⟩
 have e : encSo (dSo F s).1 = encText (dText s).1 ++ encPr (dPr F (dText s).2).1 := rfl
 rw [e, List.append_assoc, b2]
 congr 1
theorem dCe_inv (F : Nat) (s : RS) (hl : s.rest.length < F) (hb : (dCe F s).2.bad = false) : s.bad = false ∧ s.rest = encMid (dCe F s).1 ++ (dCe F s).2.rest := by
 have hb' : (dRow (dPf F) (dRow (dSo F) (dNum (dText s).2).2).2).2.bad = false := hb
 have l1 := dText_len s
 have l2 := dNum_len (dText s).2
 have l3 := dRow_len (dSo_len F) (dNum (dText s).2).2
 obtain ⟨a1, a2⟩ := dRow_inv (dPf_len F) (dPf_inv F) (by omega) hb'
 obtain ⟨b1, b2⟩ := dRow_inv (dSo_len F) (dSo_inv F) (by omega) a1
 obtain ⟨c1, _, c2⟩ := dNum_inv b1
 obtain ⟨d1, d2⟩ := dText_inv c1
 refine ⟨d1, ?_⟩
 have e : encMid (dCe F s).1 = encText (dText s).1 ++ (encNum (dNum (dText s).2).1 ++ (encNum ((dRow (dSo F) (dNum (dText s).2).2).1.length : Nat) ++ ((dRow (dSo F) (dNum (dText s).2).2).1.flatMap encSo ++ (encNum ((dRow (dPf F) (dRow (dSo F) (dNum (dText s).2).2).2).1.length : Nat) ++ encPfL (dRow (dPf F) (dRow (dSo F) (dNum (dText s).2).2).2).1)))) := rfl
 rw [e, encPfL_flat]
 simp only [List.append_assoc]
 rw [d2]
 congr 1
 rw [c2]
 congr 1
 rw [b2]
 congr 2
end Go.Proofs.YtijpnlmmaoecgaaGreatDoor

namespace Go.Proofs.YtijpnlmmaoecgaaGreatDoor
open Go Go.AM
theorem numD_lt : ∀ (l : List UInt8) (u sh u' : Nat) (r : List UInt8), sh % 7 = 0 → (sh ≤ 63 → u < 2 ^ sh) → numD l u sh = (some u', r) → u' < 2 ^ 64
 | [], u, sh, u', r, _, _, h => by simp [numD] at h
 | c :: l, u, sh, u', r, h7, hu, h => by
  have hc := c.toNat_lt
  simp only [numD] at h
  split at h
  ·cases h
  ·rename_i h63
   have hu := hu (by omega)
   split at h
   ·cases h
   ·rename_i hn
    have hk : c.toNat % 128 * 2 ^ sh + 2 ^ sh ≤ 2 ^ (sh + 7) := by
     rw [Nat.pow_add]
     have : c.toNat % 128 + 1 ≤ 128 := by omega
     calc c.toNat % 128 * 2 ^ sh + 2 ^ sh = (c.toNat % 128 + 1) * 2 ^ sh := by rw [Nat.add_mul, Nat.one_mul]
      _ ≤ 128 * 2 ^ sh := Nat.mul_le_mul_right _ this
      _ = 2 ^ sh * 2 ^ 7 := by rw [Nat.mul_comm]
    split at h
    ·rename_i hlt
     simp only [Prod.mk.injEq, Option.some.injEq] at h
     obtain ⟨rfl, rfl⟩ := h
     by_cases hs : sh = 63
     ·subst hs
      have : c.toNat ≤ 1 := by omega
      have : c.toNat % 128 * 2 ^ 63 ≤ 1 * 2 ^ 63 := Nat.mul_le_mul_right _ (by omega)
      omega
     ·have : 2 ^ (sh + 7) ≤ 2 ^ 63 := Nat.pow_le_pow_right (by decide) (by omega)
      omega
    ·refine numD_lt l _ (sh + 7) u' r (by omega) (fun hs => ?_) h
     omega
theorem dNum_in (s : RS) : in64 (dNum s).1 := by
 unfold dNum
 split
 ·exact in64_0
 ·cases h : numD s.rest 0 0 with
  | mk o r =>
   cases o with
   | none => exact in64_0
   | some u => exact unz_in (numD_lt _ _ _ _ _ (by omega) (fun _ => by decide) h)
theorem dText_size (s : RS) : (dText s).1.size ≤ s.rest.length := by
 have h1 := dCount_le s
 have h2 := dCount_len s
 show ((dCount s).2.rest.take (dCount s).1).toArray.size ≤ _
 rw [List.size_toArray, List.length_take]
 omega
theorem dRow_all {α : Type} {one : RS → α × RS} {P : α → Prop} {L : Nat} (mono : ∀ st, (one st).2.rest.length ≤ st.rest.length) (h : ∀ st, st.rest.length ≤ L → P (one st).1) (s : RS) (hs : s.rest.length ≤ L) : (dRow one s).1.length ≤ L ∧ ∀ a ∈ (dRow one s).1, P a := by
 have h1 := dCount_le s
 have h2 := dCount_len s
 obtain ⟨a, b⟩ := rList_all mono h (dCount s).1 (dCount s).2 (by omega)
 exact ⟨by unfold dRow; omega, b⟩
theorem dPr_fit : ∀ (f : Nat) (s : RS), s.rest.length ≤ 2 ^ 50 → fitPr (dPr f s).1
 | 0, s, _ => by
  simp only [dPr, fitPr, fitPrL, List.length_nil]
  exact ⟨in64_0, in64_0, by decide, by decide, trivial⟩
 | f + 1, s, hs => by
  have h1 := dNum_len s
  have h2 := dText_len (dNum s).2
  have h3 := dNum_len (dText (dNum s).2).2
  have h4 := dText_size (dNum s).2
  obtain ⟨a, b⟩ := dRow_all (dPr_len f) (dPr_fit f) (dNum (dText (dNum s).2).2).2 (by omega)
  simp only [dPr, fitPr]
  exact ⟨dNum_in _, dNum_in _, by omega, by omega, fitPrL_of b⟩
theorem dBg_fit (s : RS) (hs : s.rest.length ≤ 2 ^ 50) : fitBg (dBg s).1 := by
 have h1 := dTruth_len s
 obtain ⟨a, b⟩ := dRow_all (P := in64) (L := 2 ^ 50) dNum_len (fun st _ => dNum_in st) (dTruth s).2 (by omega)
 simp only [dBg, fitBg, Bg.ds]
 exact ⟨by omega, b⟩
theorem dPf_fit : ∀ (f : Nat) (s : RS), s.rest.length ≤ 2 ^ 50 → fitPf (dPf f s).1
 | 0, s, _ => by
  simp only [dPf, fitPf, fitPfL, List.length_nil]
  exact ⟨in64_0, in64_0, by decide, fun b hb => (by cases hb), by decide, trivial⟩
 | f + 1, s, hs => by
  have h1 := dNum_len s
  have h2 := dNum_len (dNum s).2
  have h3 := dRow_len dBg_len (dNum (dNum s).2).2
  obtain ⟨a, b⟩ := dRow_all dBg_len dBg_fit (dNum (dNum s).2).2 (by omega)
  obtain ⟨c, d⟩ := dRow_all (dPf_len f) (dPf_fit f) (dRow dBg (dNum (dNum s).2).2).2 (by omega)
  simp only [dPf, fitPf]
  exact ⟨dNum_in _, dNum_in _, by omega, b, by omega, fitPfL_of d⟩
theorem dSo_fit (f : Nat) (s : RS) (hs : s.rest.length ≤ 2 ^ 50) : fitSo (dSo f s).1 := by
 have h1 := dText_size s
 have h2 := dText_len s
 exact ⟨by show (dText s).1.size < _; omega, dPr_fit f _ (by omega)⟩
theorem dCe_fit (f : Nat) (s : RS) (hs : s.rest.length ≤ 2 ^ 50) : fitCe (dCe f s).1 := by
 have h0 := dText_size s
 have h1 := dText_len s
 have h2 := dNum_len (dText s).2
 obtain ⟨a, b⟩ := dRow_all (dSo_len f) (dSo_fit f) (dNum (dText s).2).2 (by omega)
 have h3 := dRow_len (dSo_len f) (dNum (dText s).2).2
 obtain ⟨c, d⟩ := dRow_all (dPf_len f) (dPf_fit f) (dRow (dSo f) (dNum (dText s).2).2).2 (by omega)
 exact ⟨by show (dText s).1.size < _; omega, dNum_in _, by show (dRow _ _).1.length < _; omega, b, by show (dRow _ _).1.length < _; omega, fitPfL_of d⟩
theorem decCe_fit {f : Nat} {b : List UInt8} {x : Ce} (hb : b.length ≤ 2 ^ 50) (h : decCe f b = some x) : fitCe x := by
 rw [decCe] at h
 split at h
 ·simp only at h
  split at h
  ·cases h
  ·cases h
   refine rCe_fit _ _ ?_
   have : (midOf b).length ≤ b.length := by rw [midOf, List.length_take, List.length_drop]; omega
   show (midOf b).length ≤ _
   omega
 ·cases h
theorem head_split {b : List UInt8} (h : headOk b = true) : b.take (b.length - 4) = [69, 67, 1] ++ midOf b := by
 match b, h with
 | x :: y :: z :: r, h =>
  simp only [headOk, Bool.and_eq_true, decide_eq_true_eq, beq_iff_eq] at h
  obtain ⟨h4, h1, h2, h3⟩ := h
  have e1 : x = 69 := by rw [← UInt8.ofNat_toNat (x := x), h1]; rfl
  have e2 : y = 67 := by rw [← UInt8.ofNat_toNat (x := y), h2]; rfl
  have e3 : z = 1 := by rw [← UInt8.ofNat_toNat (x := z), h3]; rfl
  subst e1; subst e2; subst e3
  have l1 : (69 :: 67 :: 1 :: r : List UInt8).length - 4 = (r.length - 4) + 3 := by simp only [List.length_cons]; omega
  have l2 : (69 :: 67 :: 1 :: r : List UInt8).length - 7 = r.length - 4 := by simp only [List.length_cons]; omega
  rw [midOf, l1, l2]
  rfl
theorem ref_enc {c : Ce} (hc : fitCe c) {f : Nat} (hf : (encCe c).length ≤ f) : refCe f (encCe c) = some (stCe c) := by
 have e1 : encCe c = 69 :: 67 :: 1 :: (encMid c ++ tail4 (fnv (encBody c))) := by
  simp only [encCe, encBody_eq, List.cons_append, List.nil_append]
 have hl : (encCe c).length = (encMid c).length + 7 := by
  rw [e1]
  simp only [List.length_cons, List.length_append, tail4_len]
 have hh : headOk (encCe c) = true := by
  rw [e1]
  simp only [headOk, List.length_append, tail4_len]
  have : decide (4 ≤ (encMid c).length + 4) = true := by simp
  rw [this]
  rfl
 have hm : midOf (encCe c) = encMid c := by
  rw [midOf, hl, e1]
  simp only [List.drop_succ_cons, List.drop_zero, Nat.add_sub_cancel, List.take_left]
 have ht : (encCe c).take ((encCe c).length - 4) = encBody c := by
  rw [head_split hh, hm]
  rfl
 have hs : (encBody c ++ tail4 (fnv (encBody c)) == encCe c) = true := by
  rw [← encCe]
  exact beq_self_eq_true _
 rw [refCe, if_pos hh, ht, if_pos hs, hm]
 simp only [dCe_enc hc (f := f) (by omega)]
 rfl
theorem ref_some {f : Nat} {b : List UInt8} {c : Ce} (hf : b.length ≤ f) (hb : b.length ≤ 2 ^ 50) (h : refCe f b = some c) : fitCe c ∧ b = encCe c := by
 rw [refCe] at h
 split at h
 ·rename_i hh
  split at h
  ·rename_i hs
   simp only at h
   split at h
   ·cases h
   ·rename_i hn
    cases h
    simp only [Bool.or_eq_true, Bool.not_eq_true', not_or, Bool.not_eq_true, Bool.not_eq_false] at hn
    obtain ⟨n1, n2⟩ := hn
    have hm : (midOf b).length < f + 1 := by
     have : (midOf b).length ≤ b.length := by rw [midOf, List.length_take, List.length_drop]; omega
     omega
    have hm7 : (midOf b).length < f := by
     have e := head_split hh
     have := congrArg List.length e
     rw [List.length_take, List.length_append, List.length_cons, List.length_cons, List.length_cons, List.length_nil] at this
     omega
    obtain ⟨-, i2⟩ := dCe_inv f ⟨midOf b, false⟩ hm7 n1
    rw [List.isEmpty_iff.1 n2, List.append_nil] at i2
    have i2 : midOf b = encMid (dCe f ⟨midOf b, false⟩).1 := i2
    have hmb : (midOf b).length ≤ b.length := by rw [midOf, List.length_take, List.length_drop]; omega
    have hfit : fitCe (dCe f ⟨midOf b, false⟩).1 := dCe_fit _ _ (Nat.le_trans hmb hb)
    have e := head_split hh
    generalize (dCe f ⟨midOf b, false⟩).1 = c at *
    refine ⟨hfit, ?_⟩
    rw [i2, ← encBody_eq] at e
    have hs := eq_of_beq hs
    rw [e] at hs
    show b = encBody c ++ tail4 (fnv (encBody c))
    rw [hs]
  ·cases h
 ·cases h
mutual
theorem stPr_idem' : ∀ p, stPr (stPr p) = stPr p
 | .mk o s n ks nl cap => by rw [stPr, stPr, stPrL_idem']
theorem stPrL_idem' : ∀ l, stPrL (stPrL l) = stPrL l
 | [] => rfl
 | k :: r => by rw [stPrL, stPrL, stPr_idem', stPrL_idem']
end
mutual
theorem stPf_idem' : ∀ p, stPf (stPf p) = stPf p
 | .mk k f ms mnl mcap ks nl cap => by
  rw [stPf, stPf, stPfL_idem', List.map_map]
  rfl
theorem stPfL_idem' : ∀ l, stPfL (stPfL l) = stPfL l
 | [] => rfl
 | k :: r => by rw [stPfL, stPfL, stPf_idem', stPfL_idem']
end
theorem stCe_idem' (c : Ce) : stCe (stCe c) = stCe c := by
 simp only [stCe, stPfL_idem', List.map_map]
 have : stSo ∘ stSo = stSo := by
  funext s
  simp only [Function.comp_def, stSo, stPr_idem']
 rw [this]
theorem ref_dec {f : Nat} {b : List UInt8} (hf : b.length ≤ f) (hb : b.length ≤ 2 ^ 50) : (refCe f b).map stCe = (decCe f b).map stCe := by
 cases h : refCe f b with
 | some c =>
  obtain ⟨h1, h2⟩ := ref_some hf hb h
  subst h2
  rw [dec_back h1 hf]
  simp only [Option.map_some, stCe_idem']
 | none =>
  cases hd : decCe f b with
  | none => rfl
  | some c =>
   have h1 := decCe_fit hb hd
   have h2 := dec_same hd
   subst h2
   rw [ref_enc h1 hf] at h
   cases h
end Go.Proofs.YtijpnlmmaoecgaaGreatDoor
