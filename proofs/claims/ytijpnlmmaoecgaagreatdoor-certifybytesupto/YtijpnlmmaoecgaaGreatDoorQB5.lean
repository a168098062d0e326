/- A part of the proofs about certificates: YFc YFd. -/
import Derived.Test.YtijpnlmmaoecgaaGreatDoorQB4

set_option linter.all false
open Nat (reduceEqDiff reduceAdd reduceMul)
open Int (reduceEq reduceLT reduceLE)

namespace Go.Proofs.YtijpnlmmaoecgaaGreatDoor
open Go Go.AM
structure LoopTo (lo : Nat) (s s' : St) (t : Nat) (bs : List UInt8) : Prop where
 row : ∃ b, lo ≤ b ∧ s'.eval (.t t) = some (.own b 0 bs.length 1 none) ∧ RowT s'.h b bs
 le : s.h.next ≤ s'.h.next
 old : ∀ x, x < lo → s'.h.get x = s.h.get x
 tu : TagsUp lo s'.h
theorem app_rr {E : Env} {s : St} {K : St → Prop} {r : List AOper} {dst : Option Nat} {lo a b c d : Nat} {l new : List UInt8} (kb : RowT s.h b l) (hb : lo ≤ b) (hlo : lo ≤ s.h.next) (htu : TagsUp lo s.h) (kc : RowT s.h c new) (h0 : new ≠ []) (hl : l.length + new.length ≤ 2 ^ 40) (ha : s.eval (.t a) = some (.own b 0 l.length 1 none)) (hd : s.eval (.t d) = some (.own c 0 new.length 1 none))
  (k : ∀ h' b', lo ≤ b' → RowT h' b' (l ++ new) → s.h.next ≤ h'.next → (∀ x, x < lo → h'.get x = s.h.get x) → TagsUp lo h' → AM.wpOps E r ((s.toH h').put dst (.own b' 0 (l ++ new).length 1 none)) K) : AM.wpOps E (⟨dst, none, .appT 5 (.t a) (.t d)⟩ :: r) s K :=
 app_z (lo := lo) (.inr ⟨b, hb, rfl, kb⟩) hlo h0 hl (elems_row kc.cb (bytesA_len _)) ha hd fun h' b' h1 h2 h3 h4 h5 => k h' b' h1 h2 h3 h4 (h5 htu)
theorem f40_loop (r0 : Nat) (p : Pr) (hp : p.ks.length < 2 ^ 60) : ∀ (r : List Pr) (i : Nat) (s : St) (b : Nat) (bs : List UInt8), p.ks.drop i = r → RowT s.h b bs → r0 < b → r0 < s.h.next → TagsUp (r0 + 1) s.h → s.h.get r0 = some (.cells p.cells true) → bs.length + (encPrL r).length ≤ 2 ^ 40 →
  (∀ k ∈ r, ∀ h, (encPr k).length ≤ 2 ^ 40 → ∃ v h', RunCall E1 (.f 40) [.agg k.cells] h v h' ∧ RowTo h (encPr k) v h') →
  s.eval (.t 1) = some (.ptr r0 0) → s.eval (.t 3) = some (.own b 0 bs.length 1 none) → s.eval (.t 4) = some (.val (.int .i64 (i : Nat))) → s.defers = [] →
  Run E1 f40_l2 s fun e s' => e = .exit 0 ∧ s'.defers = [] ∧ LoopTo (r0 + 1) s s' 3 (bs ++ encPrL r)
 | [], i, s, b, bs, hd, hrow, hb, hr, htu, hg, hl, ih, h1, h3, h4, hf => by
  have c1 := dec_ge (List.drop_eq_nil_iff.1 hd)
  apply loop_of (rfl : f40_l2 = .loop f40_b2)
  simp -implicitDefEqProofs only [f40_b2, V, ↓reduceIte, reduceEqDiff, reduceAdd, reduceMul, reduceCtorEq, reduceEq, reduceLT, reduceLE, h1, h3, h4, hg, hf, c1, encPrL, List.append_nil]
  refine ⟨⟨b, hb, ?_, ?_⟩, ?_, ?_, ?_⟩
  ·simp -implicitDefEqProofs only [V, ↓reduceIte, reduceEqDiff, reduceAdd, reduceMul, reduceCtorEq, reduceEq, reduceLT, reduceLE, h3]
  ·exact hrow
  ·exact Nat.le_refl _
  ·exact fun x _ => rfl
  ·exact htu
 | k :: r, i, s, b, bs, hd, hrow, hb, hr, htu, hg, hl, ih, h1, h3, h4, hf => by
  obtain ⟨hlt, hd'⟩ := lt_of_drop hd
  have c1 := dec_lt hlt
  have w1 := wrap_succ (i := i) (by omega)
  rw [encPrL, List.length_append] at hl
  have hlt := hrow.lt
  apply loop_of (rfl : f40_l2 = .loop f40_b2)
  simp -implicitDefEqProofs only [f40_b2, V, ↓reduceIte, reduceEqDiff, reduceAdd, reduceMul, reduceCtorEq, reduceEq, reduceLT, reduceLE, h1, h3, h4, hg, c1, kid_at hd]
  refine callK_of (ih k List.mem_cons_self _ (by omega)) ?_
  rintro v h2 ⟨⟨b2, hb2, rfl, hr2⟩, hle2, ho2, htu2⟩
  have hb2 : s.h.next ≤ b2 := hb2
  have hle2 : s.h.next ≤ h2.next := hle2
  have ho2 : ∀ x, x < s.h.next → h2.get x = s.h.get x := ho2
  have htu2 : TagsUp s.h.next h2 := htu2
  refine app_rr (lo := r0 + 1) (b := b) (c := b2) (l := bs) (new := encPr k) (hrow.to hle2 (ho2 b (by omega)) (ho2 (b + 1) hlt)) hb (by show r0 + 1 ≤ h2.next; omega) (htu.trans htu2 (by omega) (by assumption) (fun x _ h => .inl (ho2 x h))) hr2 ?_ (by omega) ?_ ?_ ?_
  ·cases k
   exact fun e => encNum_ne _ (List.append_eq_nil_iff.1 e).1
  ·simp -implicitDefEqProofs only [V, ↓reduceIte, reduceEqDiff, reduceAdd, reduceMul, reduceCtorEq, reduceEq, reduceLT, reduceLE, h3]
  ·simp -implicitDefEqProofs only [V, ↓reduceIte, reduceEqDiff, reduceAdd, reduceMul, reduceCtorEq, reduceEq, reduceLT, reduceLE]
  intro h3' b3 hb3 hr3 hn3 ho3 ht3
  have hn3 : h2.next ≤ h3'.next := hn3
  have ho3 : ∀ x, x < r0 + 1 → h3'.get x = h2.get x := ho3
  simp -implicitDefEqProofs only [V, ↓reduceIte, reduceEqDiff, reduceAdd, reduceMul, reduceCtorEq, reduceEq, reduceLT, reduceLE, h4, w1]
  refine (f40_loop r0 p hp r (i + 1) _ b3 (bs ++ encPr k) hd' ?_ hb3 ?_ ?_ ?_ ?_ (fun k' hk => ih k' (List.mem_cons_of_mem _ hk)) ?_ ?_ ?_ ?_).mono ?_
  ·exact hr3
  ·show r0 < h3'.next
   omega
  ·exact ht3
  ·show h3'.get r0 = _
   rw [ho3 r0 (by omega), ho2 r0 hr, hg]
  ·rw [List.length_append]; omega
  ·simp -implicitDefEqProofs only [V, ↓reduceIte, reduceEqDiff, reduceAdd, reduceMul, reduceCtorEq, reduceEq, reduceLT, reduceLE, h1]
  ·simp -implicitDefEqProofs only [V, ↓reduceIte, reduceEqDiff, reduceAdd, reduceMul, reduceCtorEq, reduceEq, reduceLT, reduceLE]
  ·simp -implicitDefEqProofs only [V, ↓reduceIte, reduceEqDiff, reduceAdd, reduceMul, reduceCtorEq, reduceEq, reduceLT, reduceLE]
  ·simp -implicitDefEqProofs only [V, ↓reduceIte, reduceEqDiff, reduceAdd, reduceMul, reduceCtorEq, reduceEq, reduceLT, reduceLE, hf]
  ·rintro e s' ⟨r1, r2, ⟨row, le, old, tu⟩⟩
   have le : h3'.next ≤ s'.h.next := le
   have old : ∀ x, x < r0 + 1 → s'.h.get x = h3'.get x := old
   refine ⟨r1, r2, ⟨?_, by omega, fun x hx => ?_, tu⟩⟩
   ·rw [List.append_assoc] at row
    rw [encPrL]
    exact row
   ·rw [old x hx, ho3 x hx, ho2 x (by omega)]
mutual
theorem pred40_call : ∀ (p : Pr), fitPr p → ∀ h, (encPr p).length ≤ 2 ^ 40 → ∃ v h', RunCall E1 (.f 40) [.agg p.cells] h v h' ∧ RowTo h (encPr p) v h'
 | .mk o t n ks nl cap, hfit, h, hl => by
  generalize hp : Pr.mk o t n ks nl cap = p
  have e1 : p.op = o := by rw [← hp]; rfl
  have e2 : p.nm = t := by rw [← hp]; rfl
  have e3 : p.n = n := by rw [← hp]; rfl
  have e4 : p.ks = ks := by rw [← hp]; rfl
  have e5 : encPr p = encNum o ++ (encText t ++ (encNum n ++ (encNum (ks.length : Nat) ++ encPrL ks))) := by rw [← hp]; rfl
  rw [hp, e5] at hl
  simp only [List.length_append] at hl
  simp only [fitPr] at hfit
  obtain ⟨i1, i2, i3, i4, i5⟩ := hfit
  refine shared0 _ (by kernel_rfl) f40_ok fun s hs hh hd hr => ?_
  have h0 := hs 0 _ rfl
  subst hh
  simp -implicitDefEqProofs only [f40_fn, f40, V, ↓reduceIte, reduceEqDiff, reduceAdd, reduceMul, reduceCtorEq, reduceEq, reduceLT, reduceLE, h0]
  refine (f40_d0_run (r0 := s.h.next) (a1 := .val (.int .i64 o)) (a2 := .val (.string t)) (cs := [.val (.int .i64 p.n), p.kids]) (x := encNum o) (y := encText t) ?_ ?_ rfl rfl ?_ (fun h => num39_call i1) (fun h => text38_call (by omega)) (encText_ne t) (by omega) ?_).mono ?_
  ·simp -implicitDefEqProofs only [V, ↓reduceIte, reduceEqDiff, reduceAdd, reduceMul, reduceCtorEq, reduceEq, reduceLT, reduceLE]
   rw [← e1, ← e2, ← p.cells_eq]
  ·show s.h.next < s.h.next + 1
   omega
  ·simp only [idsL, ids, p.kids_ids, List.append_nil]
  ·simp -implicitDefEqProofs only [V, ↓reduceIte, reduceEqDiff, reduceAdd, reduceMul, reduceCtorEq, reduceEq, reduceLT, reduceLE]
  rintro e s1 ⟨rfl, k1, ⟨⟨b, hb, k3, hrow⟩, hle, hold, hdf, htu⟩⟩
  have hb : s.h.next + 1 ≤ b := hb
  have hle : s.h.next + 1 ≤ s1.h.next := hle
  have hold : ∀ x, x < s.h.next + 1 → s1.h.get x = (s.h.alloc (.cells p.cells true)).get x := hold
  have htu : TagsUp (s.h.next + 1) s1.h := htu
  have hdf : s1.defers = [] := by rw [hdf]; simp -implicitDefEqProofs only [V, ↓reduceIte, reduceEqDiff, reduceAdd, reduceMul, reduceCtorEq, reduceEq, reduceLT, reduceLE, hd]
  have hg1 : s1.h.get s.h.next = some (.cells p.cells true) := by rw [hold _ (by omega), box_get]
  simp -implicitDefEqProofs only [V, ↓reduceIte, reduceEqDiff, reduceAdd, reduceMul, reduceCtorEq, reduceEq, reduceLT, reduceLE]
  refine (f40_d1_run (r0 := s.h.next) (b0 := b) (p := p) (l := encNum o ++ encText t) hg1 (by omega) hrow (by omega) (by rw [e3]; exact i2) (by rw [e4]; exact i4) (by rw [List.length_append, e3, e4]; omega) k1 k3).mono ?_
  rintro e s2 ⟨rfl, q1, ⟨⟨b2, hb2, q3, hrow2⟩, hle2, hold2, hdf2, htu2⟩⟩
  have hg2 : s2.h.get s.h.next = some (.cells p.cells true) := by rw [hold2 _ (by omega) (by omega), hg1]
  rw [e3, e4] at hrow2 q3
  simp -implicitDefEqProofs only [V, ↓reduceIte, reduceEqDiff, reduceAdd, reduceMul, reduceCtorEq, reduceEq, reduceLT, reduceLE]
  refine (f40_loop s.h.next p (by rw [e4]; exact i4) p.ks 0 _ b2 (encNum o ++ encText t ++ encNum n ++ encNum (ks.length : Nat)) rfl ?_ (by omega) ?_ ?_ ?_ ?_ (fun k hk => predL40_call ks i5 k (by rw [← e4]; exact hk)) ?_ ?_ ?_ ?_).mono ?_
  ·exact hrow2
  ·show s.h.next < s2.h.next
   omega
  ·exact htu2 _ (by omega) htu
  ·exact hg2
  ·rw [e4]
   simp only [List.length_append]
   omega
  ·simp -implicitDefEqProofs only [V, ↓reduceIte, reduceEqDiff, reduceAdd, reduceMul, reduceCtorEq, reduceEq, reduceLT, reduceLE, q1]
  ·simp -implicitDefEqProofs only [V, ↓reduceIte, reduceEqDiff, reduceAdd, reduceMul, reduceCtorEq, reduceEq, reduceLT, reduceLE, q3]
  ·simp -implicitDefEqProofs only [V, ↓reduceIte, reduceEqDiff, reduceAdd, reduceMul, reduceCtorEq, reduceEq, reduceLT, reduceLE] <;> rfl
  ·simp -implicitDefEqProofs only [V, ↓reduceIte, reduceEqDiff, reduceAdd, reduceMul, reduceCtorEq, reduceEq, reduceLT, reduceLE, hdf2, hdf]
  rintro e s3 ⟨rfl, rd, ⟨⟨b3, hb3, q33, hrow3⟩, hle3, hold3, htu3⟩⟩
  have hle3 : s2.h.next ≤ s3.h.next := hle3
  have hold3 : ∀ x, x < s.h.next + 1 → s3.h.get x = s2.h.get x := hold3
  have hbeq : Nat.beq 0 0 = true := rfl
  have e6 : encNum o ++ encText t ++ encNum n ++ encNum (ks.length : Nat) ++ encPrL p.ks = encPr p := by rw [e5, e4]; simp only [List.append_assoc]
  rw [e6] at q33 hrow3
  simp -implicitDefEqProofs only [V, ↓reduceIte, reduceEqDiff, reduceAdd, reduceMul, reduceCtorEq, reduceEq, reduceLT, reduceLE, hbeq, rd, q33]
  refine ⟨_, rfl, ⟨b3, by omega, rfl, hrow3⟩, by omega, fun x hx => ?_, ?_⟩
  ·rw [hold3 x (by omega), hold2 x (by omega) (by omega), hold x (by omega), get_alloc_old hx]
  ·intro x h1 h2 kk e
   by_cases hx : x = s.h.next
   ·have : s3.h.get s.h.next = some (.cells p.cells true) := by rw [hold3 _ (by omega), hg2]
    rw [hx, this] at e
    cases e
    exact .inl ⟨_, _, rfl, p.ids0⟩
   ·rcases htu3 x (by omega) h2 kk e with q | ⟨y, t, n, q, h3, h4⟩
    ·exact .inl q
    ·exact .inr ⟨y, t, n, q, by omega, h4⟩
theorem predL40_call : ∀ (l : List Pr), fitPrL l → ∀ k ∈ l, ∀ h, (encPr k).length ≤ 2 ^ 40 → ∃ v h', RunCall E1 (.f 40) [.agg k.cells] h v h' ∧ RowTo h (encPr k) v h'
 | [], _, k, hk, _, _ => by cases hk
 | a :: r, hfit, k, hk, h, hl => by
  simp only [fitPrL] at hfit
  rcases List.mem_cons.1 hk with e | hk
  ·rw [e] at hl ⊢
   exact pred40_call a hfit.1 h hl
  ·exact predL40_call r hfit.2 k hk h hl
end
end Go.Proofs.YtijpnlmmaoecgaaGreatDoor

namespace Go.Proofs.YtijpnlmmaoecgaaGreatDoor
open Go Go.AM
theorem fb1 {bg : Bg} {l : List AV} : fieldAddrV 1 (.iptr (bg.cells ++ l)) = some (.iptr (bg.dsA :: l)) := rfl
theorem th1 {bg : Bg} {l : List AV} : takeN none (bg.cells ++ l) = some (.val (.bool bg.neg)) := rfl
theorem f41_digits (r0 : Nat) (p : Pf) (bg : Bg) (rm : List Bg) (i : Nat) (hm : p.ms.drop i = bg :: rm) (hfit : fitBg bg) : ∀ (r : List Int) (j : Nat) (s : St) (b : Nat) (bs : List UInt8), bg.ds.drop j = r → RowT s.h b bs → r0 < b → r0 < s.h.next → TagsUp (r0 + 1) s.h → s.h.get r0 = some (.cells p.cells true) → bs.length + (encInts r).length ≤ 2 ^ 40 → (∀ n ∈ r, in64 n) →
  s.eval (.t 1) = some (.ptr r0 0) → s.eval (.t 3) = some (.own b 0 bs.length 1 none) → s.eval (.t 4) = some (.val (.int .i64 (i : Nat))) → s.eval (.t 5) = some (.val (.int .i64 (j : Nat))) → s.defers = [] →
  Run E1 f41_l1 s fun e s' => e = .exit 2 ∧ s'.defers = [] ∧ s'.eval (.t 1) = some (.ptr r0 0) ∧ s'.eval (.t 4) = some (.val (.int .i64 (i : Nat))) ∧ LoopTo (r0 + 1) s s' 3 (bs ++ encInts r)
 | [], j, s, b, bs, hd, hrow, hb, hr, htu, hg, hl, hn, h1, h3, h4, h5, hf => by
  have c1 := dec_ge (List.drop_eq_nil_iff.1 hd)
  apply loop_of (rfl : f41_l1 = .loop f41_b1)
  simp -implicitDefEqProofs only [f41_b1, V, ↓reduceIte, reduceEqDiff, reduceAdd, reduceMul, reduceCtorEq, reduceEq, reduceLT, reduceLE, h1, h3, h4, h5, hg, hf, c1, Pf.msAt hm, fb1]
  have e : encInts [] = [] := rfl
  rw [e, List.append_nil]
  refine ⟨⟨b, hb, ?_, hrow⟩, Nat.le_refl _, fun x _ => rfl, htu⟩
  simp -implicitDefEqProofs only [V, ↓reduceIte, reduceEqDiff, reduceAdd, reduceMul, reduceCtorEq, reduceEq, reduceLT, reduceLE, h3]
 | k :: r, j, s, b, bs, hd, hrow, hb, hr, htu, hg, hl, hn, h1, h3, h4, h5, hf => by
  obtain ⟨hlt, hd'⟩ := lt_of_drop hd
  have c1 := dec_lt hlt
  have hfl := hfit.1
  have w1 := wrap_succ (i := j) (by omega)
  have e0 : encInts (k :: r) = encNum k ++ encInts r := rfl
  rw [e0, List.length_append] at hl
  have hlt := hrow.lt
  apply loop_of (rfl : f41_l1 = .loop f41_b1)
  simp -implicitDefEqProofs only [f41_b1, V, ↓reduceIte, reduceEqDiff, reduceAdd, reduceMul, reduceCtorEq, reduceEq, reduceLT, reduceLE, h1, h3, h4, h5, hg, c1, Pf.msAt hm, fb1, Bg.at hd]
  refine callK_of (num39_call (hn k List.mem_cons_self)) ?_
  rintro v h2 ⟨⟨b2, hb2, rfl, hr2⟩, hle2, ho2, htu2⟩
  simp -implicitDefEqProofs only [St.h_set, St.h_toH] at hb2 hle2 ho2 htu2
  refine app_rr (lo := r0 + 1) (b := b) (c := b2) (l := bs) (new := encNum k) (hrow.to hle2 (ho2 b (by omega)) (ho2 (b + 1) hlt)) hb (by show r0 + 1 ≤ h2.next; omega) (htu.trans htu2 (by omega) (by assumption) (fun x _ h => .inl (ho2 x h))) hr2 (encNum_ne k) (by omega) ?_ ?_ ?_
  ·simp -implicitDefEqProofs only [V, ↓reduceIte, reduceEqDiff, reduceAdd, reduceMul, reduceCtorEq, reduceEq, reduceLT, reduceLE, h3]
  ·simp -implicitDefEqProofs only [V, ↓reduceIte, reduceEqDiff, reduceAdd, reduceMul, reduceCtorEq, reduceEq, reduceLT, reduceLE]
  intro h3' b3 hb3 hr3 hn3 ho3 ht3
  have hn3 : h2.next ≤ h3'.next := hn3
  have ho3 : ∀ x, x < r0 + 1 → h3'.get x = h2.get x := ho3
  simp -implicitDefEqProofs only [V, ↓reduceIte, reduceEqDiff, reduceAdd, reduceMul, reduceCtorEq, reduceEq, reduceLT, reduceLE, h5, w1]
  refine (f41_digits r0 p bg rm i hm hfit r (j + 1) _ b3 (bs ++ encNum k) hd' ?_ hb3 ?_ ?_ ?_ ?_ (fun k' hk => hn k' (List.mem_cons_of_mem _ hk)) ?_ ?_ ?_ ?_ ?_).mono ?_
  ·exact hr3
  ·show r0 < h3'.next
   omega
  ·exact ht3
  ·show h3'.get r0 = _
   rw [ho3 r0 (by omega), ho2 r0 hr, hg]
  ·rw [List.length_append]; omega
  ·simp -implicitDefEqProofs only [V, ↓reduceIte, reduceEqDiff, reduceAdd, reduceMul, reduceCtorEq, reduceEq, reduceLT, reduceLE, h1]
  ·simp -implicitDefEqProofs only [V, ↓reduceIte, reduceEqDiff, reduceAdd, reduceMul, reduceCtorEq, reduceEq, reduceLT, reduceLE]
  ·simp -implicitDefEqProofs only [V, ↓reduceIte, reduceEqDiff, reduceAdd, reduceMul, reduceCtorEq, reduceEq, reduceLT, reduceLE, h4]
  ·simp -implicitDefEqProofs only [V, ↓reduceIte, reduceEqDiff, reduceAdd, reduceMul, reduceCtorEq, reduceEq, reduceLT, reduceLE]
  ·simp -implicitDefEqProofs only [V, ↓reduceIte, reduceEqDiff, reduceAdd, reduceMul, reduceCtorEq, reduceEq, reduceLT, reduceLE, hf]
  ·rintro e s' ⟨r1, r2, r3, r4, ⟨row, le, old, tu⟩⟩
   have le : h3'.next ≤ s'.h.next := le
   have old : ∀ x, x < r0 + 1 → s'.h.get x = h3'.get x := old
   refine ⟨r1, r2, r3, r4, ⟨?_, by omega, fun x hx => ?_, tu⟩⟩
   ·rw [List.append_assoc] at row
    exact row
   ·rw [old x hx, ho3 x hx, ho2 x (by omega)]
theorem f41_bigs (r0 : Nat) (p : Pf) (hp : p.ms.length < 2 ^ 60) : ∀ (r : List Bg) (i : Nat) (s : St) (b : Nat) (bs : List UInt8), p.ms.drop i = r → RowT s.h b bs → r0 < b → r0 < s.h.next → TagsUp (r0 + 1) s.h → s.h.get r0 = some (.cells p.cells true) → bs.length + (encBgs r).length ≤ 2 ^ 40 → (∀ n ∈ r, fitBg n) →
  s.eval (.t 1) = some (.ptr r0 0) → s.eval (.t 3) = some (.own b 0 bs.length 1 none) → s.eval (.t 4) = some (.val (.int .i64 (i : Nat))) → s.defers = [] →
  Run E1 f41_l2 s fun e s' => e = .exit 0 ∧ s'.defers = [] ∧ s'.eval (.t 1) = some (.ptr r0 0) ∧ LoopTo (r0 + 1) s s' 3 (bs ++ encBgs r)
 | [], i, s, b, bs, hd, hrow, hb, hr, htu, hg, hl, hn, h1, h3, h4, hf => by
  have c1 := dec_ge (List.drop_eq_nil_iff.1 hd)
  apply loop_of (rfl : f41_l2 = .loop f41_b2)
  simp -implicitDefEqProofs only [f41_b2, V, ↓reduceIte, reduceEqDiff, reduceAdd, reduceMul, reduceCtorEq, reduceEq, reduceLT, reduceLE, h1, h3, h4, hg, hf, c1]
  have e : encBgs [] = [] := rfl
  rw [e, List.append_nil]
  refine ⟨⟨b, hb, ?_, hrow⟩, Nat.le_refl _, fun x _ => rfl, htu⟩
  simp -implicitDefEqProofs only [V, ↓reduceIte, reduceEqDiff, reduceAdd, reduceMul, reduceCtorEq, reduceEq, reduceLT, reduceLE, h3]
 | k :: r, i, s, b, bs, hd, hrow, hb, hr, htu, hg, hl, hn, h1, h3, h4, hf => by
  obtain ⟨hlt, hd'⟩ := lt_of_drop hd
  have c1 := dec_lt hlt
  have hfk := hn k List.mem_cons_self
  have w1 := wrap_succ (i := i) (by omega)
  have e0 : encBgs (k :: r) = encBg k ++ encBgs r := rfl
  have e1 : encBg k = encNum (if k.neg then 1 else 0) ++ (encNum (k.ds.length : Nat) ++ encInts k.ds) := rfl
  rw [e0, e1] at hl
  simp only [List.length_append] at hl
  have hlt := hrow.lt
  apply loop_of (rfl : f41_l2 = .loop f41_b2)
  simp -implicitDefEqProofs only [f41_b2, V, ↓reduceIte, reduceEqDiff, reduceAdd, reduceMul, reduceCtorEq, reduceEq, reduceLT, reduceLE, h1, h3, h4, hg, c1, Pf.msAt hd, th1]
  refine callK_of (truth_call (b := k.neg)) ?_
  rintro v h2 ⟨⟨b2, hb2, rfl, hr2⟩, hle2, ho2, htu2⟩
  have hb2 : s.h.next ≤ b2 := hb2
  have hle2 : s.h.next ≤ h2.next := hle2
  have ho2 : ∀ x, x < s.h.next → h2.get x = s.h.get x := ho2
  have htu2 : TagsUp s.h.next h2 := htu2
  refine app_rr (lo := r0 + 1) (b := b) (c := b2) (l := bs) (new := encNum (if k.neg then 1 else 0)) (hrow.to hle2 (ho2 b (by omega)) (ho2 (b + 1) hlt)) hb (by show r0 + 1 ≤ h2.next; omega) (htu.trans htu2 (by omega) (by assumption) (fun x _ h => .inl (ho2 x h))) hr2 (encNum_ne _) (by omega) ?_ ?_ ?_
  ·simp -implicitDefEqProofs only [V, ↓reduceIte, reduceEqDiff, reduceAdd, reduceMul, reduceCtorEq, reduceEq, reduceLT, reduceLE, h3]
  ·simp -implicitDefEqProofs only [V, ↓reduceIte, reduceEqDiff, reduceAdd, reduceMul, reduceCtorEq, reduceEq, reduceLT, reduceLE]
  intro h3' b3 hb3 hr3 hn3 ho3 ht3
  have hn3 : h2.next ≤ h3'.next := hn3
  have ho3 : ∀ x, x < r0 + 1 → h3'.get x = h2.get x := ho3
  have hg3 : h3'.get r0 = some (.cells p.cells true) := by rw [ho3 r0 (by omega), ho2 r0 hr, hg]
  have hlt3 := hr3.lt
  simp -implicitDefEqProofs only [V, ↓reduceIte, reduceEqDiff, reduceAdd, reduceMul, reduceCtorEq, reduceEq, reduceLT, reduceLE, h1, h4, hg3, Pf.msAt hd, fb1, Bg.lenA]
  refine callK_of (num39_call (n := (k.ds.length : Nat)) (in64_nat hfk.1)) ?_
  rintro v h4' ⟨⟨b4, hb4, rfl, hr4⟩, hle4, ho4, htu4⟩
  have hb4 : h3'.next ≤ b4 := hb4
  have hle4 : h3'.next ≤ h4'.next := hle4
  have ho4 : ∀ x, x < h3'.next → h4'.get x = h3'.get x := ho4
  have htu4 : TagsUp h3'.next h4' := htu4
  refine app_rr (lo := r0 + 1) (b := b3) (c := b4) (l := bs ++ encNum (if k.neg then 1 else 0)) (new := encNum (k.ds.length : Nat)) (hr3.to hle4 (ho4 b3 (by omega)) (ho4 (b3 + 1) hlt3)) hb3 (by show r0 + 1 ≤ h4'.next; omega) (ht3.trans htu4 (by omega) (by assumption) (fun x _ h => .inl (ho4 x h))) hr4 (encNum_ne _) (by rw [List.length_append]; omega) ?_ ?_ ?_
  ·simp -implicitDefEqProofs only [V, ↓reduceIte, reduceEqDiff, reduceAdd, reduceMul, reduceCtorEq, reduceEq, reduceLT, reduceLE]
  ·simp -implicitDefEqProofs only [V, ↓reduceIte, reduceEqDiff, reduceAdd, reduceMul, reduceCtorEq, reduceEq, reduceLT, reduceLE]
  intro h5' b5 hb5 hr5 hn5 ho5 ht5
  have hn5 : h4'.next ≤ h5'.next := hn5
  have ho5 : ∀ x, x < r0 + 1 → h5'.get x = h4'.get x := ho5
  have hg5 : h5'.get r0 = some (.cells p.cells true) := by rw [ho5 r0 (by omega), ho4 r0 (by omega), hg3]
  simp -implicitDefEqProofs only [V, ↓reduceIte, reduceEqDiff, reduceAdd, reduceMul, reduceCtorEq, reduceEq, reduceLT, reduceLE]
  refine (f41_digits r0 p k r i hd hfk k.ds 0 _ b5 (bs ++ encNum (if k.neg then 1 else 0) ++ encNum (k.ds.length : Nat)) rfl ?_ hb5 ?_ ?_ ?_ ?_ hfk.2 ?_ ?_ ?_ ?_ ?_).mono ?_
  ·exact hr5
  ·show r0 < h5'.next
   omega
  ·exact ht5
  ·exact hg5
  ·simp only [List.length_append]; omega
  ·simp -implicitDefEqProofs only [V, ↓reduceIte, reduceEqDiff, reduceAdd, reduceMul, reduceCtorEq, reduceEq, reduceLT, reduceLE, h1]
  ·simp -implicitDefEqProofs only [V, ↓reduceIte, reduceEqDiff, reduceAdd, reduceMul, reduceCtorEq, reduceEq, reduceLT, reduceLE]
  ·simp -implicitDefEqProofs only [V, ↓reduceIte, reduceEqDiff, reduceAdd, reduceMul, reduceCtorEq, reduceEq, reduceLT, reduceLE, h4]
  ·simp -implicitDefEqProofs only [V, ↓reduceIte, reduceEqDiff, reduceAdd, reduceMul, reduceCtorEq, reduceEq, reduceLT, reduceLE] <;> rfl
  ·simp -implicitDefEqProofs only [V, ↓reduceIte, reduceEqDiff, reduceAdd, reduceMul, reduceCtorEq, reduceEq, reduceLT, reduceLE, hf]
  rintro e s6 ⟨rfl, k2, k1, k4, ⟨⟨b6, hb6, q3, hrow6⟩, hle6, ho6, htu6⟩⟩
  have hle6 : h5'.next ≤ s6.h.next := hle6
  have ho6 : ∀ x, x < r0 + 1 → s6.h.get x = h5'.get x := ho6
  have hbeq : Nat.beq 2 2 = true := rfl
  have e6 : bs ++ encNum (if k.neg then 1 else 0) ++ encNum (k.ds.length : Nat) ++ encInts k.ds = bs ++ encBg k := by rw [e1]; simp only [List.append_assoc]
  rw [e6] at q3 hrow6
  simp -implicitDefEqProofs only [V, ↓reduceIte, reduceEqDiff, reduceAdd, reduceMul, reduceCtorEq, reduceEq, reduceLT, reduceLE, hbeq, k4, w1]
  refine (f41_bigs r0 p hp r (i + 1) _ b6 (bs ++ encBg k) hd' ?_ hb6 ?_ ?_ ?_ ?_ (fun k' hk => hn k' (List.mem_cons_of_mem _ hk)) ?_ ?_ ?_ ?_).mono ?_
  ·exact hrow6
  ·show r0 < s6.h.next
   omega
  ·exact htu6
  ·show s6.h.get r0 = _
   rw [ho6 r0 (by omega), hg5]
  ·rw [e1]
   simp only [List.length_append]
   omega
  ·simp -implicitDefEqProofs only [V, ↓reduceIte, reduceEqDiff, reduceAdd, reduceMul, reduceCtorEq, reduceEq, reduceLT, reduceLE, k1]
  ·simp -implicitDefEqProofs only [V, ↓reduceIte, reduceEqDiff, reduceAdd, reduceMul, reduceCtorEq, reduceEq, reduceLT, reduceLE, q3]
  ·simp -implicitDefEqProofs only [V, ↓reduceIte, reduceEqDiff, reduceAdd, reduceMul, reduceCtorEq, reduceEq, reduceLT, reduceLE]
  ·simp -implicitDefEqProofs only [V, ↓reduceIte, reduceEqDiff, reduceAdd, reduceMul, reduceCtorEq, reduceEq, reduceLT, reduceLE, k2]
  ·rintro e s' ⟨r1, r2, r3, ⟨row, le, old, tu⟩⟩
   have le : s6.h.next ≤ s'.h.next := le
   have old : ∀ x, x < r0 + 1 → s'.h.get x = s6.h.get x := old
   refine ⟨r1, r2, r3, ⟨?_, by omega, fun x hx => ?_, tu⟩⟩
   ·rw [List.append_assoc] at row
    exact row
   ·rw [old x hx, ho6 x hx, ho5 x hx, ho4 x (by omega), ho3 x hx, ho2 x (by omega)]
theorem f41_kids (r0 : Nat) (p : Pf) (hp : p.ks.length < 2 ^ 60) : ∀ (r : List Pf) (i : Nat) (s : St) (b : Nat) (bs : List UInt8), p.ks.drop i = r → RowT s.h b bs → r0 < b → r0 < s.h.next → TagsUp (r0 + 1) s.h → s.h.get r0 = some (.cells p.cells true) → bs.length + (encPfL r).length ≤ 2 ^ 40 →
  (∀ k ∈ r, ∀ h, (encPf k).length ≤ 2 ^ 40 → ∃ v h', RunCall E1 (.f 41) [.agg k.cells] h v h' ∧ RowTo h (encPf k) v h') →
  s.eval (.t 1) = some (.ptr r0 0) → s.eval (.t 3) = some (.own b 0 bs.length 1 none) → s.eval (.t 6) = some (.val (.int .i64 (i : Nat))) → s.defers = [] →
  Run E1 f41_l3 s fun e s' => e = .exit 4 ∧ s'.defers = [] ∧ LoopTo (r0 + 1) s s' 3 (bs ++ encPfL r)
 | [], i, s, b, bs, hd, hrow, hb, hr, htu, hg, hl, ih, h1, h3, h4, hf => by
  have c1 := dec_ge (List.drop_eq_nil_iff.1 hd)
  apply loop_of (rfl : f41_l3 = .loop f41_b3)
  simp -implicitDefEqProofs only [f41_b3, V, ↓reduceIte, reduceEqDiff, reduceAdd, reduceMul, reduceCtorEq, reduceEq, reduceLT, reduceLE, h1, h3, h4, hg, hf, c1, encPfL, List.append_nil]
  refine ⟨⟨b, hb, ?_, hrow⟩, Nat.le_refl _, fun x _ => rfl, htu⟩
  simp -implicitDefEqProofs only [V, ↓reduceIte, reduceEqDiff, reduceAdd, reduceMul, reduceCtorEq, reduceEq, reduceLT, reduceLE, h3]
 | k :: r, i, s, b, bs, hd, hrow, hb, hr, htu, hg, hl, ih, h1, h3, h4, hf => by
  obtain ⟨hlt, hd'⟩ := lt_of_drop hd
  have c1 := dec_lt hlt
  have w1 := wrap_succ (i := i) (by omega)
  rw [encPfL, List.length_append] at hl
  have hlt := hrow.lt
  apply loop_of (rfl : f41_l3 = .loop f41_b3)
  simp -implicitDefEqProofs only [f41_b3, V, ↓reduceIte, reduceEqDiff, reduceAdd, reduceMul, reduceCtorEq, reduceEq, reduceLT, reduceLE, h1, h3, h4, hg, c1, Pf.ksAt hd]
  refine callK_of (ih k List.mem_cons_self _ (by omega)) ?_
  rintro v h2 ⟨⟨b2, hb2, rfl, hr2⟩, hle2, ho2, htu2⟩
  have hb2 : s.h.next ≤ b2 := hb2
  have hle2 : s.h.next ≤ h2.next := hle2
  have ho2 : ∀ x, x < s.h.next → h2.get x = s.h.get x := ho2
  have htu2 : TagsUp s.h.next h2 := htu2
  refine app_rr (lo := r0 + 1) (b := b) (c := b2) (l := bs) (new := encPf k) (hrow.to hle2 (ho2 b (by omega)) (ho2 (b + 1) hlt)) hb (by show r0 + 1 ≤ h2.next; omega) (htu.trans htu2 (by omega) (by assumption) (fun x _ h => .inl (ho2 x h))) hr2 ?_ (by omega) ?_ ?_ ?_
  ·cases k
   exact fun e => encNum_ne _ (List.append_eq_nil_iff.1 e).1
  ·simp -implicitDefEqProofs only [V, ↓reduceIte, reduceEqDiff, reduceAdd, reduceMul, reduceCtorEq, reduceEq, reduceLT, reduceLE, h3]
  ·simp -implicitDefEqProofs only [V, ↓reduceIte, reduceEqDiff, reduceAdd, reduceMul, reduceCtorEq, reduceEq, reduceLT, reduceLE]
  intro h3' b3 hb3 hr3 hn3 ho3 ht3
  have hn3 : h2.next ≤ h3'.next := hn3
  have ho3 : ∀ x, x < r0 + 1 → h3'.get x = h2.get x := ho3
  simp -implicitDefEqProofs only [V, ↓reduceIte, reduceEqDiff, reduceAdd, reduceMul, reduceCtorEq, reduceEq, reduceLT, reduceLE, h4, w1]
  refine (f41_kids r0 p hp r (i + 1) _ b3 (bs ++ encPf k) hd' ?_ hb3 ?_ ?_ ?_ ?_ (fun k' hk => ih k' (List.mem_cons_of_mem _ hk)) ?_ ?_ ?_ ?_).mono ?_
  ·exact hr3
  ·show r0 < h3'.next
   omega
  ·exact ht3
  ·show h3'.get r0 = _
   rw [ho3 r0 (by omega), ho2 r0 hr, hg]
  ·rw [List.length_append]; omega
  ·simp -implicitDefEqProofs only [V, ↓reduceIte, reduceEqDiff, reduceAdd, reduceMul, reduceCtorEq, reduceEq, reduceLT, reduceLE, h1]
  ·simp -implicitDefEqProofs only [V, ↓reduceIte, reduceEqDiff, reduceAdd, reduceMul, reduceCtorEq, reduceEq, reduceLT, reduceLE]
  ·simp -implicitDefEqProofs only [V, ↓reduceIte, reduceEqDiff, reduceAdd, reduceMul, reduceCtorEq, reduceEq, reduceLT, reduceLE]
  ·simp -implicitDefEqProofs only [V, ↓reduceIte, reduceEqDiff, reduceAdd, reduceMul, reduceCtorEq, reduceEq, reduceLT, reduceLE, hf]
  ·rintro e s' ⟨r1, r2, ⟨row, le, old, tu⟩⟩
   have le : h3'.next ≤ s'.h.next := le
   have old : ∀ x, x < r0 + 1 → s'.h.get x = h3'.get x := old
   refine ⟨r1, r2, ⟨?_, by omega, fun x hx => ?_, tu⟩⟩
   ·rw [List.append_assoc] at row
    rw [encPfL]
    exact row
   ·rw [old x hx, ho3 x hx, ho2 x (by omega)]
mutual
theorem proof41_call : ∀ (p : Pf), fitPf p → ∀ h, (encPf p).length ≤ 2 ^ 40 → ∃ v h', RunCall E1 (.f 41) [.agg p.cells] h v h' ∧ RowTo h (encPf p) v h'
 | .mk kd fm ms mnl mcap ks nl cap, hfit, h, hl => by
  generalize hp : Pf.mk kd fm ms mnl mcap ks nl cap = p
  have e1 : p.kd = kd := by rw [← hp]; rfl
  have e2 : p.fm = fm := by rw [← hp]; rfl
  have e3 : p.ms = ms := by rw [← hp]; rfl
  have e4 : p.ks = ks := by rw [← hp]; rfl
  have e5 : encPf p = encNum kd ++ (encNum fm ++ (encNum (ms.length : Nat) ++ (encBgs ms ++ (encNum (ks.length : Nat) ++ encPfL ks)))) := by rw [← hp]; rfl
  rw [hp, e5] at hl
  simp only [List.length_append] at hl
  simp only [fitPf] at hfit
  obtain ⟨i1, i2, i3, i3', i4, i5⟩ := hfit
  refine shared0 _ (by kernel_rfl) f41_ok fun s hs hh hd hr => ?_
  have h0 := hs 0 _ rfl
  subst hh
  simp -implicitDefEqProofs only [f41_fn, f41, V, ↓reduceIte, reduceEqDiff, reduceAdd, reduceMul, reduceCtorEq, reduceEq, reduceLT, reduceLE, h0]
  refine (f41_d0_run (r0 := s.h.next) (a1 := .val (.int .i64 kd)) (a2 := .val (.int .i64 fm)) (cs := [p.msA, p.ksA]) (x := encNum kd) (y := encNum fm) ?_ ?_ rfl rfl ?_ (fun h => num39_call i1) (fun h => num39_call i2) (encNum_ne fm) (by omega) ?_).mono ?_
  ·simp -implicitDefEqProofs only [V, ↓reduceIte, reduceEqDiff, reduceAdd, reduceMul, reduceCtorEq, reduceEq, reduceLT, reduceLE]
   rw [← e1, ← e2, ← p.cells_eq]
  ·show s.h.next < s.h.next + 1
   omega
  ·simp only [idsL, ids, p.ms_ids, p.ks_ids, List.append_nil]
  ·simp -implicitDefEqProofs only [V, ↓reduceIte, reduceEqDiff, reduceAdd, reduceMul, reduceCtorEq, reduceEq, reduceLT, reduceLE]
  rintro e s1 ⟨rfl, k1, ⟨⟨b, hb, k3, hrow⟩, hle, hold, hdf, htu⟩⟩
  have hb : s.h.next + 1 ≤ b := hb
  have hle : s.h.next + 1 ≤ s1.h.next := hle
  have hold : ∀ x, x < s.h.next + 1 → s1.h.get x = (s.h.alloc (.cells p.cells true)).get x := hold
  have htu : TagsUp (s.h.next + 1) s1.h := htu
  have hdf : s1.defers = [] := by rw [hdf]; simp -implicitDefEqProofs only [V, ↓reduceIte, reduceEqDiff, reduceAdd, reduceMul, reduceCtorEq, reduceEq, reduceLT, reduceLE, hd]
  have hg1 : s1.h.get s.h.next = some (.cells p.cells true) := by rw [hold _ (by omega), box_get]
  have hltb := hrow.lt
  simp -implicitDefEqProofs only [V, ↓reduceIte, reduceEqDiff, reduceAdd, reduceMul, reduceCtorEq, reduceEq, reduceLT, reduceLE, k1, k3, hg1, e3]
  refine callK_of (num39_call (in64_nat i3)) ?_
  rintro v h2 ⟨⟨b2, hb2, rfl, hr2⟩, hle2, ho2, htu2⟩
  have hb2 : s1.h.next ≤ b2 := hb2
  have hle2 : s1.h.next ≤ h2.next := hle2
  have ho2 : ∀ x, x < s1.h.next → h2.get x = s1.h.get x := ho2
  have htu2 : TagsUp s1.h.next h2 := htu2
  refine app_rr (lo := s.h.next + 1) (b := b) (c := b2) (l := encNum kd ++ encNum fm) (new := encNum (ms.length : Nat)) (hrow.to hle2 (ho2 b (by omega)) (ho2 (b + 1) hltb)) hb (by show s.h.next + 1 ≤ h2.next; omega) (htu.trans htu2 (by omega) (by assumption) (fun x _ h => .inl (ho2 x h))) hr2 (encNum_ne _) (by rw [List.length_append]; omega) ?_ ?_ ?_
  ·simp -implicitDefEqProofs only [V, ↓reduceIte, reduceEqDiff, reduceAdd, reduceMul, reduceCtorEq, reduceEq, reduceLT, reduceLE, k3]
  ·simp -implicitDefEqProofs only [V, ↓reduceIte, reduceEqDiff, reduceAdd, reduceMul, reduceCtorEq, reduceEq, reduceLT, reduceLE]
  intro h3' b3 hb3 hr3 hn3 ho3 ht3
  have hn3 : h2.next ≤ h3'.next := hn3
  have ho3 : ∀ x, x < s.h.next + 1 → h3'.get x = h2.get x := ho3
  have hg3 : h3'.get s.h.next = some (.cells p.cells true) := by rw [ho3 _ (by omega), ho2 _ (by omega), hg1]
  simp -implicitDefEqProofs only [V, ↓reduceIte, reduceEqDiff, reduceAdd, reduceMul, reduceCtorEq, reduceEq, reduceLT, reduceLE]
  refine (f41_bigs s.h.next p (by rw [e3]; exact i3) p.ms 0 _ b3 (encNum kd ++ encNum fm ++ encNum (ms.length : Nat)) rfl ?_ hb3 ?_ ?_ ?_ ?_ (by rw [e3]; exact i3') ?_ ?_ ?_ ?_).mono ?_
  ·exact hr3
  ·show s.h.next < h3'.next
   omega
  ·exact ht3
  ·exact hg3
  ·rw [e3]
   simp only [List.length_append]
   omega
  ·simp -implicitDefEqProofs only [V, ↓reduceIte, reduceEqDiff, reduceAdd, reduceMul, reduceCtorEq, reduceEq, reduceLT, reduceLE, k1]
  ·simp -implicitDefEqProofs only [V, ↓reduceIte, reduceEqDiff, reduceAdd, reduceMul, reduceCtorEq, reduceEq, reduceLT, reduceLE]
  ·simp -implicitDefEqProofs only [V, ↓reduceIte, reduceEqDiff, reduceAdd, reduceMul, reduceCtorEq, reduceEq, reduceLT, reduceLE] <;> rfl
  ·simp -implicitDefEqProofs only [V, ↓reduceIte, reduceEqDiff, reduceAdd, reduceMul, reduceCtorEq, reduceEq, reduceLT, reduceLE, hdf]
  rintro e s4 ⟨rfl, rd4, j1, ⟨⟨b4, hb4, j3, hrow4⟩, hle4, ho4, htu4⟩⟩
  have hle4 : h3'.next ≤ s4.h.next := hle4
  have ho4 : ∀ x, x < s.h.next + 1 → s4.h.get x = h3'.get x := ho4
  have hg4 : s4.h.get s.h.next = some (.cells p.cells true) := by rw [ho4 _ (by omega), hg3]
  have hbeq : Nat.beq 0 0 = true := rfl
  have hlt4 := hrow4.lt
  rw [e3] at hrow4 j3
  simp -implicitDefEqProofs only [V, ↓reduceIte, reduceEqDiff, reduceAdd, reduceMul, reduceCtorEq, reduceEq, reduceLT, reduceLE, hbeq, j1, j3, hg4, e4]
  refine callK_of (num39_call (in64_nat i4)) ?_
  rintro v h5 ⟨⟨b5, hb5, rfl, hr5⟩, hle5, ho5, htu5⟩
  have hb5 : s4.h.next ≤ b5 := hb5
  have hle5 : s4.h.next ≤ h5.next := hle5
  have ho5 : ∀ x, x < s4.h.next → h5.get x = s4.h.get x := ho5
  have htu5 : TagsUp s4.h.next h5 := htu5
  refine app_rr (lo := s.h.next + 1) (b := b4) (c := b5) (l := encNum kd ++ encNum fm ++ encNum (ms.length : Nat) ++ encBgs ms) (new := encNum (ks.length : Nat)) (hrow4.to hle5 (ho5 b4 (by omega)) (ho5 (b4 + 1) hlt4)) hb4 (by show s.h.next + 1 ≤ h5.next; omega) (htu4.trans htu5 (by omega) (by assumption) (fun x _ h => .inl (ho5 x h))) hr5 (encNum_ne _) (by simp only [List.length_append]; omega) ?_ ?_ ?_
  ·simp -implicitDefEqProofs only [V, ↓reduceIte, reduceEqDiff, reduceAdd, reduceMul, reduceCtorEq, reduceEq, reduceLT, reduceLE, j3]
  ·simp -implicitDefEqProofs only [V, ↓reduceIte, reduceEqDiff, reduceAdd, reduceMul, reduceCtorEq, reduceEq, reduceLT, reduceLE]
  intro h6 b6 hb6 hr6 hn6 ho6 ht6
  have hn6 : h5.next ≤ h6.next := hn6
  have ho6 : ∀ x, x < s.h.next + 1 → h6.get x = h5.get x := ho6
  have hg6 : h6.get s.h.next = some (.cells p.cells true) := by rw [ho6 _ (by omega), ho5 _ (by omega), hg4]
  simp -implicitDefEqProofs only [V, ↓reduceIte, reduceEqDiff, reduceAdd, reduceMul, reduceCtorEq, reduceEq, reduceLT, reduceLE]
  refine (f41_kids s.h.next p (by rw [e4]; exact i4) p.ks 0 _ b6 (encNum kd ++ encNum fm ++ encNum (ms.length : Nat) ++ encBgs ms ++ encNum (ks.length : Nat)) rfl ?_ hb6 ?_ ?_ ?_ ?_ (fun k hk => proofL41_call ks i5 k (by rw [← e4]; exact hk)) ?_ ?_ ?_ ?_).mono ?_
  ·exact hr6
  ·show s.h.next < h6.next
   omega
  ·exact ht6
  ·exact hg6
  ·rw [e4]
   simp only [List.length_append]
   omega
  ·simp -implicitDefEqProofs only [V, ↓reduceIte, reduceEqDiff, reduceAdd, reduceMul, reduceCtorEq, reduceEq, reduceLT, reduceLE, j1]
  ·simp -implicitDefEqProofs only [V, ↓reduceIte, reduceEqDiff, reduceAdd, reduceMul, reduceCtorEq, reduceEq, reduceLT, reduceLE]
  ·simp -implicitDefEqProofs only [V, ↓reduceIte, reduceEqDiff, reduceAdd, reduceMul, reduceCtorEq, reduceEq, reduceLT, reduceLE] <;> rfl
  ·simp -implicitDefEqProofs only [V, ↓reduceIte, reduceEqDiff, reduceAdd, reduceMul, reduceCtorEq, reduceEq, reduceLT, reduceLE, rd4]
  rintro e s7 ⟨rfl, rd, ⟨⟨b7, hb7, q37, hrow7⟩, hle7, ho7, htu7⟩⟩
  have hle7 : h6.next ≤ s7.h.next := hle7
  have ho7 : ∀ x, x < s.h.next + 1 → s7.h.get x = h6.get x := ho7
  have hbeq4 : Nat.beq 4 4 = true := rfl
  have e6 : encNum kd ++ encNum fm ++ encNum (ms.length : Nat) ++ encBgs ms ++ encNum (ks.length : Nat) ++ encPfL p.ks = encPf p := by rw [e5, e4]; simp only [List.append_assoc]
  rw [e6] at q37 hrow7
  simp -implicitDefEqProofs only [V, ↓reduceIte, reduceEqDiff, reduceAdd, reduceMul, reduceCtorEq, reduceEq, reduceLT, reduceLE, hbeq4, rd, q37]
  refine ⟨_, rfl, ⟨b7, by omega, rfl, hrow7⟩, by omega, fun x hx => ?_, ?_⟩
  ·rw [ho7 x (by omega), ho6 x (by omega), ho5 x (by omega), ho4 x (by omega), ho3 x (by omega), ho2 x (by omega), hold x (by omega), get_alloc_old hx]
  ·intro x h1 h2 kk e
   by_cases hx : x = s.h.next
   ·have : s7.h.get s.h.next = some (.cells p.cells true) := by rw [ho7 _ (by omega), hg6]
    rw [hx, this] at e
    cases e
    exact .inl ⟨_, _, rfl, p.ids0⟩
   ·rcases htu7 x (by omega) h2 kk e with q | ⟨y, t, n, q, h3, h4⟩
    ·exact .inl q
    ·exact .inr ⟨y, t, n, q, by omega, h4⟩
theorem proofL41_call : ∀ (l : List Pf), fitPfL l → ∀ k ∈ l, ∀ h, (encPf k).length ≤ 2 ^ 40 → ∃ v h', RunCall E1 (.f 41) [.agg k.cells] h v h' ∧ RowTo h (encPf k) v h'
 | [], _, k, hk, _, _ => by cases hk
 | a :: r, hfit, k, hk, h, hl => by
  simp only [fitPfL] at hfit
  rcases List.mem_cons.1 hk with e | hk
  ·rw [e] at hl ⊢
   exact proof41_call a hfit.1 h hl
  ·exact proofL41_call r hfit.2 k hk h hl
end
end Go.Proofs.YtijpnlmmaoecgaaGreatDoor
