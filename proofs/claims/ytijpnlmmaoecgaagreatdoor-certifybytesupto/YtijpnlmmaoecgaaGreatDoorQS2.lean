/- A part of the proofs about certificates: YSm YSmb YSame YSamf. -/
import Derived.Test.YtijpnlmmaoecgaaGreatDoorQW1
import Derived.Test.YtijpnlmmaoecgaaGreatDoorQD1

set_option linter.all false
open Nat (reduceEqDiff reduceAdd reduceMul)
open Int (reduceEq reduceLT reduceLE)

namespace Go.Proofs.YtijpnlmmaoecgaaGreatDoor
open Go Go.AM
theorem wrap_nat {x : Int} {n : Nat} (e : x = (n : Int)) (h : n < 2 ^ 62) : IntKind.i64.wrap x = (n : Int) := by rw [e]; exact wrap_in h
theorem dec_le {i n : Nat} (h : i ≤ n) : decide ((i : Int) ≤ (n : Nat)) = true := by simp; omega
theorem dec_gt {i n : Nat} (h : ¬ i ≤ n) : decide ((i : Int) ≤ (n : Nat)) = false := by simp; omega
mutual
def nmPr : Pr → Nat → Nat
 | .mk _ t _ ks _ _, most => nmL ks most (4 + t.size)
def nmL : List Pr → Nat → Nat → Nat
 | [], _, n => n
 | k :: r, most, n => if n ≤ most then nmL r most (n + nmPr k (most - n)) else n
end
def NmOk (p : Pr) : Prop := ∀ most, most ≤ 3000 → nmPr p most ≤ most + 2 ^ 60 + 4 ∧ ∀ h, RunCall E1 (.f 31) [.agg p.cells, .val (.int .i64 (most : Nat))] h (.val (.int .i64 (nmPr p most : Nat))) h
theorem nmL_le : ∀ (r : List Pr) (most n : Nat), (∀ k ∈ r, NmOk k) → most ≤ 3000 → n ≤ most + 2 ^ 60 + 4 → nmL r most n ≤ most + 2 ^ 60 + 4
 | [], most, n, _, _, h => h
 | k :: r, most, n, hk, hm, h => by
  rw [nmL]
  split
  ·have := (hk k List.mem_cons_self (most - n) (by omega)).1
   exact nmL_le r most _ (fun k' h' => hk k' (List.mem_cons_of_mem _ h')) hm (by omega)
  ·exact h
theorem f31_loop (p : Pr) (hp : p.ks.length < 2 ^ 60) (most : Nat) (hm : most ≤ 3000) : ∀ (r : List Pr) (i n : Nat) (s : St), p.ks.drop i = r → i ≤ p.ks.length → (∀ k ∈ r, NmOk k) → n ≤ most + 2 ^ 60 + 4 → s.h.get 0 = some (.cells p.cells true) →
  s.eval (.t 1) = some (.val (.int .i64 (most : Nat))) → s.eval (.t 2) = some (.ptr 0 0) → s.eval (.t 5) = some (.val (.int .i64 (n : Nat))) → s.eval (.t 6) = some (.val (.int .i64 (i : Nat))) → s.defers = [] →
  Run E1 f31_l0 s fun e s' => e = .exit 0 ∧ s'.defers = [] ∧ s'.eval (.t 5) = some (.val (.int .i64 (nmL r most n : Nat)))
 | [], i, n, s, hd, hi, hk, hn, hg, h1, h2, h5, h6, hf => by
  have c1 := dec_ge (List.drop_eq_nil_iff.1 hd)
  apply loop_of (rfl : f31_l0 = .loop f31_b0)
  simp -implicitDefEqProofs only [f31_b0, V, ↓reduceIte, reduceEqDiff, reduceAdd, reduceMul, reduceCtorEq, reduceEq, reduceLT, reduceLE, h1, h2, h5, h6, hg, hf, c1, nmL]
 | k :: r, i, n, s, hd, hi, hk, hn, hg, h1, h2, h5, h6, hf => by
  obtain ⟨hlt, hd'⟩ := lt_of_drop hd
  have c1 := dec_lt hlt
  have w1 := wrap_succ (i := i) (by omega)
  apply loop_of (rfl : f31_l0 = .loop f31_b0)
  by_cases hle : n ≤ most
  ·have c2 := dec_le hle
   obtain ⟨b1, hc⟩ := hk k List.mem_cons_self (most - n) (by omega)
   have w2 : IntKind.i64.wrap ((most : Int) - (n : Int)) = ((most - n : Nat) : Int) := wrap_nat (by omega) (by omega)
   have w3 : IntKind.i64.wrap ((n : Int) + ((nmPr k (most - n) : Nat) : Int)) = ((n + nmPr k (most - n) : Nat) : Int) := wrap_nat (by omega) (by omega)
   simp -implicitDefEqProofs only [f31_b0, V, ↓reduceIte, reduceEqDiff, reduceAdd, reduceMul, reduceCtorEq, reduceEq, reduceLT, reduceLE, h1, h2, h5, h6, hg, c1, c2, kid_at hd, w1, w2, w3, callK_all hc]
   refine (f31_loop p hp most hm r (i + 1) (n + nmPr k (most - n)) _ hd' (by omega) (fun k' h' => hk k' (List.mem_cons_of_mem _ h')) (by omega) ?_ ?_ ?_ ?_ ?_ ?_).mono ?_
   ·simp -implicitDefEqProofs only [V, ↓reduceIte, reduceEqDiff, reduceAdd, reduceMul, reduceCtorEq, reduceEq, reduceLT, reduceLE, hg]
   ·simp -implicitDefEqProofs only [V, ↓reduceIte, reduceEqDiff, reduceAdd, reduceMul, reduceCtorEq, reduceEq, reduceLT, reduceLE, h1]
   ·simp -implicitDefEqProofs only [V, ↓reduceIte, reduceEqDiff, reduceAdd, reduceMul, reduceCtorEq, reduceEq, reduceLT, reduceLE, h2]
   ·simp -implicitDefEqProofs only [V, ↓reduceIte, reduceEqDiff, reduceAdd, reduceMul, reduceCtorEq, reduceEq, reduceLT, reduceLE]
   ·simp -implicitDefEqProofs only [V, ↓reduceIte, reduceEqDiff, reduceAdd, reduceMul, reduceCtorEq, reduceEq, reduceLT, reduceLE]
   ·simp -implicitDefEqProofs only [V, ↓reduceIte, reduceEqDiff, reduceAdd, reduceMul, reduceCtorEq, reduceEq, reduceLT, reduceLE, hf]
   ·rintro e s' ⟨r1, r2, r3⟩
    refine ⟨r1, r2, ?_⟩
    rw [nmL, if_pos hle]
    exact r3
  ·have c2 := dec_gt hle
   simp -implicitDefEqProofs only [f31_b0, V, ↓reduceIte, reduceEqDiff, reduceAdd, reduceMul, reduceCtorEq, reduceEq, reduceLT, reduceLE, h1, h2, h5, h6, hg, hf, c1, c2, nmL]
   simp only [if_neg hle]
theorem names_one (p : Pr) (hf : fitPr p) (hk : ∀ k ∈ p.ks, NmOk k) : NmOk p := by
 intro most hm
 obtain ⟨o, t, n, ks, nl, cap⟩ := p
 simp only [fitPr] at hf
 obtain ⟨i1, i2, i3, i4, i5⟩ := hf
 have hk : ∀ k ∈ ks, NmOk k := hk
 refine ⟨by rw [nmPr]; exact nmL_le ks most _ hk hm (by omega), ?_⟩
 generalize hp : Pr.mk o t n ks nl cap = p
 have e2 : p.nm = t := by rw [← hp]; rfl
 have e4 : p.ks = ks := by rw [← hp]; rfl
 have e5 : nmPr p most = nmL p.ks most (4 + p.nm.size) := by rw [← hp]; rfl
 refine pure0 (by kernel_rfl) f31_ok (mem2 (Tree.pr p) (Tree.val _)) rfl (Tree.val _) fun s hs hh hd hr => ?_
 have h0 := hs 0 _ rfl
 have h1 := hs 1 _ rfl
 have q : lenStrV (.val (.string p.nm)) = some (.val (.int .i64 (p.nm.size : Nat))) := rfl
 have w1 : IntKind.i64.wrap (4 + ((p.nm.size : Nat) : Int)) = ((4 + p.nm.size : Nat) : Int) := wrap_nat (by omega) (by rw [e2]; omega)
 have hg : (AH.empty.alloc (.cells p.cells true)).get 0 = some (.cells p.cells true) := box_get
 simp -implicitDefEqProofs only [f31_fn, f31, V, ↓reduceIte, reduceEqDiff, reduceAdd, reduceMul, reduceCtorEq, reduceEq, reduceLT, reduceLE, h0, hh, q, w1]
 refine (f31_loop p (by rw [e4]; exact i4) most hm p.ks 0 (4 + p.nm.size) _ rfl (Nat.zero_le _) (by rw [e4]; exact hk) (by rw [e2]; omega) ?_ ?_ ?_ ?_ ?_ ?_).mono ?_
 ·simp -implicitDefEqProofs only [V, ↓reduceIte, reduceEqDiff, reduceAdd, reduceMul, reduceCtorEq, reduceEq, reduceLT, reduceLE]
 ·simp -implicitDefEqProofs only [V, ↓reduceIte, reduceEqDiff, reduceAdd, reduceMul, reduceCtorEq, reduceEq, reduceLT, reduceLE, h1]
 ·simp -implicitDefEqProofs only [V, ↓reduceIte, reduceEqDiff, reduceAdd, reduceMul, reduceCtorEq, reduceEq, reduceLT, reduceLE]
 ·simp -implicitDefEqProofs only [V, ↓reduceIte, reduceEqDiff, reduceAdd, reduceMul, reduceCtorEq, reduceEq, reduceLT, reduceLE]
 ·simp -implicitDefEqProofs only [V, ↓reduceIte, reduceEqDiff, reduceAdd, reduceMul, reduceCtorEq, reduceEq, reduceLT, reduceLE] <;> rfl
 ·simp -implicitDefEqProofs only [V, ↓reduceIte, reduceEqDiff, reduceAdd, reduceMul, reduceCtorEq, reduceEq, reduceLT, reduceLE, hd]
 ·rintro e s' ⟨rfl, r2, r3⟩
  have hbeq : Nat.beq 0 0 = true := rfl
  rw [e5]
  simp -implicitDefEqProofs only [V, ↓reduceIte, reduceEqDiff, reduceAdd, reduceMul, reduceCtorEq, reduceEq, reduceLT, reduceLE, hbeq, r2, r3]
mutual
theorem names_call : ∀ (p : Pr), fitPr p → NmOk p
 | .mk o t n ks nl cap, h => names_one (.mk o t n ks nl cap) h (names_all ks (by simp only [fitPr] at h; exact h.2.2.2.2))
theorem names_all : ∀ (l : List Pr), fitPrL l → ∀ k ∈ l, NmOk k
 | [], _, k, hk => by cases hk
 | a :: r, h, k, hk => by
  simp only [fitPrL] at h
  rcases List.mem_cons.1 hk with e | hk
  ·rw [e]; exact names_call a h.1
  ·exact names_all r h.2 k hk
end
def szB (most : Nat) : List Bg → Nat → Nat
 | [], n => n
 | b :: r, n => if n ≤ most then szB most r (n + 2 + 3 * b.ds.length) else n
mutual
def szPf : Pf → Nat → Nat
 | .mk _ _ ms _ _ ks _ _, most => szL ks most (szB most ms 4)
def szL : List Pf → Nat → Nat → Nat
 | [], _, n => n
 | k :: r, most, n => if n ≤ most then szL r most (n + szPf k (most - n)) else n
end
def SzOk (p : Pf) : Prop := ∀ most, most ≤ 3000 → szPf p most ≤ most + 2 ^ 61 + 2 ^ 60 + 4 ∧ ∀ h, RunCall E1 (.f 32) [.agg p.cells, .val (.int .i64 (most : Nat))] h (.val (.int .i64 (szPf p most : Nat))) h
theorem szB_le {most : Nat} : ∀ (r : List Bg) (n : Nat), (∀ b ∈ r, fitBg b) → n ≤ most + 2 ^ 61 + 2 ^ 60 + 4 → szB most r n ≤ most + 2 ^ 61 + 2 ^ 60 + 4
 | [], n, _, h => h
 | b :: r, n, hb, h => by
  have := (hb b List.mem_cons_self).1
  rw [szB]
  split
  ·exact szB_le r _ (fun k' h' => hb k' (List.mem_cons_of_mem _ h')) (by omega)
  ·exact h
theorem szL_le : ∀ (r : List Pf) (most n : Nat), (∀ k ∈ r, SzOk k) → most ≤ 3000 → n ≤ most + 2 ^ 61 + 2 ^ 60 + 4 → szL r most n ≤ most + 2 ^ 61 + 2 ^ 60 + 4
 | [], most, n, _, _, h => h
 | k :: r, most, n, hk, hm, h => by
  rw [szL]
  split
  ·have := (hk k List.mem_cons_self (most - n) (by omega)).1
   exact szL_le r most _ (fun k' h' => hk k' (List.mem_cons_of_mem _ h')) hm (by omega)
  ·exact h
theorem f32_bigs (p : Pf) (hp : p.ms.length < 2 ^ 60) (most : Nat) (hm : most ≤ 3000) : ∀ (r : List Bg) (i n : Nat) (s : St), p.ms.drop i = r → i ≤ p.ms.length → (∀ b ∈ r, fitBg b) → n ≤ most + 2 ^ 61 + 2 ^ 60 + 4 → s.h.get 0 = some (.cells p.cells true) →
  s.eval (.t 1) = some (.val (.int .i64 (most : Nat))) → s.eval (.t 2) = some (.ptr 0 0) → s.eval (.t 5) = some (.val (.int .i64 (n : Nat))) → s.eval (.t 6) = some (.val (.int .i64 (i : Nat))) → s.defers = [] →
  Run E1 f32_l0 s fun e s' => e = .exit 0 ∧ s'.defers = [] ∧ s'.eval (.t 5) = some (.val (.int .i64 (szB most r n : Nat))) ∧ s'.eval (.t 1) = s.eval (.t 1) ∧ s'.eval (.t 2) = s.eval (.t 2) ∧ s'.h = s.h
 | [], i, n, s, hd, hi, hk, hn, hg, h1, h2, h5, h6, hf => by
  have c1 := dec_ge (List.drop_eq_nil_iff.1 hd)
  apply loop_of (rfl : f32_l0 = .loop f32_b0)
  simp -implicitDefEqProofs only [f32_b0, V, ↓reduceIte, reduceEqDiff, reduceAdd, reduceMul, reduceCtorEq, reduceEq, reduceLT, reduceLE, h1, h2, h5, h6, hg, hf, c1, szB]
 | k :: r, i, n, s, hd, hi, hk, hn, hg, h1, h2, h5, h6, hf => by
  obtain ⟨hlt, hd'⟩ := lt_of_drop hd
  have c1 := dec_lt hlt
  have w1 := wrap_succ (i := i) (by omega)
  have hb := (hk k List.mem_cons_self).1
  apply loop_of (rfl : f32_l0 = .loop f32_b0)
  by_cases hle : n ≤ most
  ·have c2 := dec_le hle
   have w2 : IntKind.i64.wrap ((n : Int) + 2) = ((n + 2 : Nat) : Int) := wrap_nat (by omega) (by omega)
   have w4 : IntKind.i64.wrap (3 * ((k.ds.length : Nat) : Int)) = ((3 * k.ds.length : Nat) : Int) := wrap_nat (by omega) (by omega)
   have w3 : IntKind.i64.wrap (((n + 2 : Nat) : Int) + ((3 * k.ds.length : Nat) : Int)) = ((n + 2 + 3 * k.ds.length : Nat) : Int) := wrap_nat (by omega) (by omega)
   have fb : fieldAddrV 1 (.iptr (k.cells ++ r.flatMap Bg.cells)) = some (.iptr (k.dsA :: r.flatMap Bg.cells)) := rfl
   have tb : takeN none (k.dsA :: r.flatMap Bg.cells) = some k.dsA := rfl
   simp -implicitDefEqProofs only [f32_b0, V, ↓reduceIte, reduceEqDiff, reduceAdd, reduceMul, reduceCtorEq, reduceEq, reduceLT, reduceLE, h1, h2, h5, h6, hg, c1, c2, Pf.msAt hd, fb, tb, w1, w2, w3, w4]
   refine (f32_bigs p hp most hm r (i + 1) (n + 2 + 3 * k.ds.length) _ hd' (by omega) (fun k' h' => hk k' (List.mem_cons_of_mem _ h')) (by omega) ?_ ?_ ?_ ?_ ?_ ?_).mono ?_
   ·simp -implicitDefEqProofs only [V, ↓reduceIte, reduceEqDiff, reduceAdd, reduceMul, reduceCtorEq, reduceEq, reduceLT, reduceLE, hg]
   ·simp -implicitDefEqProofs only [V, ↓reduceIte, reduceEqDiff, reduceAdd, reduceMul, reduceCtorEq, reduceEq, reduceLT, reduceLE, h1]
   ·simp -implicitDefEqProofs only [V, ↓reduceIte, reduceEqDiff, reduceAdd, reduceMul, reduceCtorEq, reduceEq, reduceLT, reduceLE, h2]
   ·simp -implicitDefEqProofs only [V, ↓reduceIte, reduceEqDiff, reduceAdd, reduceMul, reduceCtorEq, reduceEq, reduceLT, reduceLE]
   ·simp -implicitDefEqProofs only [V, ↓reduceIte, reduceEqDiff, reduceAdd, reduceMul, reduceCtorEq, reduceEq, reduceLT, reduceLE]
   ·simp -implicitDefEqProofs only [V, ↓reduceIte, reduceEqDiff, reduceAdd, reduceMul, reduceCtorEq, reduceEq, reduceLT, reduceLE, hf]
   ·rintro e s' ⟨r1, r2, r3, r4, r5, r6⟩
    refine ⟨r1, r2, ?_, ?_, ?_, ?_⟩
    ·rw [szB, if_pos hle]
     exact r3
    ·rw [r4]; simp -implicitDefEqProofs only [V, ↓reduceIte, reduceEqDiff, reduceAdd, reduceMul, reduceCtorEq, reduceEq, reduceLT, reduceLE, h1]
    ·rw [r5]; simp -implicitDefEqProofs only [V, ↓reduceIte, reduceEqDiff, reduceAdd, reduceMul, reduceCtorEq, reduceEq, reduceLT, reduceLE, h2]
    ·rw [r6]; simp -implicitDefEqProofs only [V, ↓reduceIte, reduceEqDiff, reduceAdd, reduceMul, reduceCtorEq, reduceEq, reduceLT, reduceLE]
  ·have c2 := dec_gt hle
   simp -implicitDefEqProofs only [f32_b0, V, ↓reduceIte, reduceEqDiff, reduceAdd, reduceMul, reduceCtorEq, reduceEq, reduceLT, reduceLE, h1, h2, h5, h6, hg, hf, c1, c2, szB]
   simp only [if_neg hle]
theorem f32_kids (p : Pf) (hp : p.ks.length < 2 ^ 60) (most : Nat) (hm : most ≤ 3000) : ∀ (r : List Pf) (i n : Nat) (s : St), p.ks.drop i = r → i ≤ p.ks.length → (∀ k ∈ r, SzOk k) → n ≤ most + 2 ^ 61 + 2 ^ 60 + 4 → s.h.get 0 = some (.cells p.cells true) →
  s.eval (.t 1) = some (.val (.int .i64 (most : Nat))) → s.eval (.t 2) = some (.ptr 0 0) → s.eval (.t 5) = some (.val (.int .i64 (n : Nat))) → s.eval (.t 7) = some (.val (.int .i64 (i : Nat))) → s.defers = [] →
  Run E1 f32_l1 s fun e s' => e = .exit 2 ∧ s'.defers = [] ∧ s'.eval (.t 5) = some (.val (.int .i64 (szL r most n : Nat)))
 | [], i, n, s, hd, hi, hk, hn, hg, h1, h2, h5, h6, hf => by
  have c1 := dec_ge (List.drop_eq_nil_iff.1 hd)
  apply loop_of (rfl : f32_l1 = .loop f32_b1)
  simp -implicitDefEqProofs only [f32_b1, V, ↓reduceIte, reduceEqDiff, reduceAdd, reduceMul, reduceCtorEq, reduceEq, reduceLT, reduceLE, h1, h2, h5, h6, hg, hf, c1, szL]
 | k :: r, i, n, s, hd, hi, hk, hn, hg, h1, h2, h5, h6, hf => by
  obtain ⟨hlt, hd'⟩ := lt_of_drop hd
  have c1 := dec_lt hlt
  have w1 := wrap_succ (i := i) (by omega)
  apply loop_of (rfl : f32_l1 = .loop f32_b1)
  by_cases hle : n ≤ most
  ·have c2 := dec_le hle
   obtain ⟨b1, hc⟩ := hk k List.mem_cons_self (most - n) (by omega)
   have w2 : IntKind.i64.wrap ((most : Int) - (n : Int)) = ((most - n : Nat) : Int) := wrap_nat (by omega) (by omega)
   have w3 : IntKind.i64.wrap ((n : Int) + ((szPf k (most - n) : Nat) : Int)) = ((n + szPf k (most - n) : Nat) : Int) := wrap_nat (by omega) (by omega)
   simp -implicitDefEqProofs only [f32_b1, V, ↓reduceIte, reduceEqDiff, reduceAdd, reduceMul, reduceCtorEq, reduceEq, reduceLT, reduceLE, h1, h2, h5, h6, hg, c1, c2, Pf.ksAt hd, w1, w2, w3, callK_all hc]
   refine (f32_kids p hp most hm r (i + 1) (n + szPf k (most - n)) _ hd' (by omega) (fun k' h' => hk k' (List.mem_cons_of_mem _ h')) (by omega) ?_ ?_ ?_ ?_ ?_ ?_).mono ?_
   ·simp -implicitDefEqProofs only [V, ↓reduceIte, reduceEqDiff, reduceAdd, reduceMul, reduceCtorEq, reduceEq, reduceLT, reduceLE, hg]
   ·simp -implicitDefEqProofs only [V, ↓reduceIte, reduceEqDiff, reduceAdd, reduceMul, reduceCtorEq, reduceEq, reduceLT, reduceLE, h1]
   ·simp -implicitDefEqProofs only [V, ↓reduceIte, reduceEqDiff, reduceAdd, reduceMul, reduceCtorEq, reduceEq, reduceLT, reduceLE, h2]
   ·simp -implicitDefEqProofs only [V, ↓reduceIte, reduceEqDiff, reduceAdd, reduceMul, reduceCtorEq, reduceEq, reduceLT, reduceLE]
   ·simp -implicitDefEqProofs only [V, ↓reduceIte, reduceEqDiff, reduceAdd, reduceMul, reduceCtorEq, reduceEq, reduceLT, reduceLE]
   ·simp -implicitDefEqProofs only [V, ↓reduceIte, reduceEqDiff, reduceAdd, reduceMul, reduceCtorEq, reduceEq, reduceLT, reduceLE, hf]
   ·rintro e s' ⟨r1, r2, r3⟩
    refine ⟨r1, r2, ?_⟩
    rw [szL, if_pos hle]
    exact r3
  ·have c2 := dec_gt hle
   simp -implicitDefEqProofs only [f32_b1, V, ↓reduceIte, reduceEqDiff, reduceAdd, reduceMul, reduceCtorEq, reduceEq, reduceLT, reduceLE, h1, h2, h5, h6, hg, hf, c1, c2, szL]
   simp only [if_neg hle]
theorem size_one (p : Pf) (hf : fitPf p) (hk : ∀ k ∈ p.ks, SzOk k) : SzOk p := by
 intro most hm
 obtain ⟨kd, fm, ms, mnl, mcap, ks, nl, cap⟩ := p
 simp only [fitPf] at hf
 obtain ⟨i1, i2, i3, i4, i5, i6⟩ := hf
 have hk : ∀ k ∈ ks, SzOk k := hk
 have hsb : szB most ms 4 ≤ most + 2 ^ 61 + 2 ^ 60 + 4 := szB_le ms 4 i4 (by omega)
 refine ⟨by rw [szPf]; exact szL_le ks most _ hk hm hsb, ?_⟩
 generalize hp : Pf.mk kd fm ms mnl mcap ks nl cap = p
 have e3 : p.ms = ms := by rw [← hp]; rfl
 have e4 : p.ks = ks := by rw [← hp]; rfl
 have e5 : szPf p most = szL p.ks most (szB most p.ms 4) := by rw [← hp]; rfl
 refine pure0 (by kernel_rfl) f32_ok (mem2 (Tree.pf p) (Tree.val _)) rfl (Tree.val _) fun s hs hh hd hr => ?_
 have h0 := hs 0 _ rfl
 have h1 := hs 1 _ rfl
 have hg : (AH.empty.alloc (.cells p.cells true)).get 0 = some (.cells p.cells true) := box_get
 simp -implicitDefEqProofs only [f32_fn, f32, V, ↓reduceIte, reduceEqDiff, reduceAdd, reduceMul, reduceCtorEq, reduceEq, reduceLT, reduceLE, h0, hh]
 refine (f32_bigs p (by rw [e3]; exact i3) most hm p.ms 0 4 _ rfl (Nat.zero_le _) (by rw [e3]; exact i4) (by omega) ?_ ?_ ?_ ?_ ?_ ?_).mono ?_
 ·simp -implicitDefEqProofs only [V, ↓reduceIte, reduceEqDiff, reduceAdd, reduceMul, reduceCtorEq, reduceEq, reduceLT, reduceLE]
 ·simp -implicitDefEqProofs only [V, ↓reduceIte, reduceEqDiff, reduceAdd, reduceMul, reduceCtorEq, reduceEq, reduceLT, reduceLE, h1]
 ·simp -implicitDefEqProofs only [V, ↓reduceIte, reduceEqDiff, reduceAdd, reduceMul, reduceCtorEq, reduceEq, reduceLT, reduceLE]
 ·simp -implicitDefEqProofs only [V, ↓reduceIte, reduceEqDiff, reduceAdd, reduceMul, reduceCtorEq, reduceEq, reduceLT, reduceLE] <;> rfl
 ·simp -implicitDefEqProofs only [V, ↓reduceIte, reduceEqDiff, reduceAdd, reduceMul, reduceCtorEq, reduceEq, reduceLT, reduceLE] <;> rfl
 ·simp -implicitDefEqProofs only [V, ↓reduceIte, reduceEqDiff, reduceAdd, reduceMul, reduceCtorEq, reduceEq, reduceLT, reduceLE, hd]
 ·rintro e s' ⟨rfl, r2, r3, r4, r5, r6⟩
  have hbeq : Nat.beq 0 0 = true := rfl
  have hbeq2 : Nat.beq 2 2 = true := rfl
  simp -implicitDefEqProofs only [V, ↓reduceIte, reduceEqDiff, reduceAdd, reduceMul, reduceCtorEq, reduceEq, reduceLT, reduceLE, h1] at r4 r5 r6
  simp -implicitDefEqProofs only [V, ↓reduceIte, reduceEqDiff, reduceAdd, reduceMul, reduceCtorEq, reduceEq, reduceLT, reduceLE, hbeq, r2, r3]
  refine (f32_kids p (by rw [e4]; exact i5) most hm p.ks 0 (szB most p.ms 4) _ rfl (Nat.zero_le _) (by rw [e4]; exact hk) (by rw [e3]; exact hsb) ?_ ?_ ?_ ?_ ?_ ?_).mono ?_
  ·simp -implicitDefEqProofs only [V, ↓reduceIte, reduceEqDiff, reduceAdd, reduceMul, reduceCtorEq, reduceEq, reduceLT, reduceLE, r6]
  ·simp -implicitDefEqProofs only [V, ↓reduceIte, reduceEqDiff, reduceAdd, reduceMul, reduceCtorEq, reduceEq, reduceLT, reduceLE, r4]
  ·simp -implicitDefEqProofs only [V, ↓reduceIte, reduceEqDiff, reduceAdd, reduceMul, reduceCtorEq, reduceEq, reduceLT, reduceLE, r5]
  ·simp -implicitDefEqProofs only [V, ↓reduceIte, reduceEqDiff, reduceAdd, reduceMul, reduceCtorEq, reduceEq, reduceLT, reduceLE, r3]
  ·simp -implicitDefEqProofs only [V, ↓reduceIte, reduceEqDiff, reduceAdd, reduceMul, reduceCtorEq, reduceEq, reduceLT, reduceLE] <;> rfl
  ·simp -implicitDefEqProofs only [V, ↓reduceIte, reduceEqDiff, reduceAdd, reduceMul, reduceCtorEq, reduceEq, reduceLT, reduceLE, r2]
  ·rintro e s2 ⟨rfl, q2, q3⟩
   rw [e5]
   simp -implicitDefEqProofs only [V, ↓reduceIte, reduceEqDiff, reduceAdd, reduceMul, reduceCtorEq, reduceEq, reduceLT, reduceLE, hbeq2, q2, q3]
mutual
theorem size_call : ∀ (p : Pf), fitPf p → SzOk p
 | .mk kd fm ms mnl mcap ks nl cap, h => size_one (.mk kd fm ms mnl mcap ks nl cap) h (size_all ks (by simp only [fitPf] at h; exact h.2.2.2.2.2))
theorem size_all : ∀ (l : List Pf), fitPfL l → ∀ k ∈ l, SzOk k
 | [], _, k, hk => by cases hk
 | a :: r, h, k, hk => by
  simp only [fitPfL] at h
  rcases List.mem_cons.1 hk with e | hk
  ·rw [e]; exact size_call a h.1
  ·exact size_all r h.2 k hk
end
end Go.Proofs.YtijpnlmmaoecgaaGreatDoor

namespace Go.Proofs.YtijpnlmmaoecgaaGreatDoor
open Go Go.AM
def smS : List So → Nat → Nat
 | [], n => n
 | s :: r, n => if n ≤ 3000 then smS r (n + 4 + s.nm.size + nmPr s.p 3000) else n
def smP : List Pf → Nat → Nat
 | [], n => n
 | p :: r, n => if n ≤ 3000 then smP r (n + szPf p 3000) else n
def smallN (c : Ce) : Nat := smP c.ps (smS c.ss c.nm.size)
theorem f11_calm : calmAt 0 f11_o0 = true := by rfl
theorem smS_le : ∀ (r : List So) (n : Nat), (∀ k ∈ r, fitSo k) → n ≤ 2 ^ 61 + 2 ^ 60 + 10000 → smS r n ≤ 2 ^ 61 + 2 ^ 60 + 10000
 | [], n, _, h => h
 | k :: r, n, hk, h => by
  rw [smS]
  split
  ·have h1 := (hk k List.mem_cons_self).1
   have h2 := (names_call k.p (hk k List.mem_cons_self).2 3000 (by omega)).1
   exact smS_le r _ (fun k' h' => hk k' (List.mem_cons_of_mem _ h')) (by omega)
  ·exact h
theorem f11_sols (c : Ce) (hp : c.ss.length < 2 ^ 60) : ∀ (r : List So) (i n : Nat) (s : St), c.ss.drop i = r → i ≤ c.ss.length → (∀ k ∈ r, fitSo k) → n ≤ 2 ^ 61 + 2 ^ 60 + 10000 → s.h.next = 1 → s.h.get 0 = some (.cells c.cells true) →
  s.eval (.t 1) = some (.ptr 0 0) → s.eval (.t 3) = some (.val (.int .i64 (n : Nat))) → s.eval (.t 4) = some (.val (.int .i64 (i : Nat))) → s.defers = [] →
  Run E1 f11_l1 s fun e s' => e = .exit 0 ∧ s'.defers = [] ∧ s'.eval (.t 3) = some (.val (.int .i64 (smS r n : Nat))) ∧ s'.eval (.t 1) = s.eval (.t 1) ∧ s'.h = s.h
 | [], i, n, s, hd, hi, hk, hn, hx, hg, h1, h3, h4, hf => by
  have c1 := dec_ge (List.drop_eq_nil_iff.1 hd)
  apply loop_of (rfl : f11_l1 = .loop f11_b1)
  simp -implicitDefEqProofs only [f11_b1, V, ↓reduceIte, reduceEqDiff, reduceAdd, reduceMul, reduceCtorEq, reduceEq, reduceLT, reduceLE, h1, h3, h4, hg, hf, c1, smS]
 | k :: r, i, n, s, hd, hi, hk, hn, hx, hg, h1, h3, h4, hf => by
  obtain ⟨hlt, hd'⟩ := lt_of_drop hd
  have c1 := dec_lt hlt
  have w1 := wrap_succ (i := i) (by omega)
  obtain ⟨b1, b2⟩ := hk k List.mem_cons_self
  obtain ⟨b3, hc⟩ := names_call k.p b2 3000 (by omega)
  have hle' : ((3000 : Nat) : Int) = 3000 := rfl
  rw [hle'] at hc
  apply loop_of (rfl : f11_l1 = .loop f11_b1)
  by_cases hle : n ≤ 3000
  ·have c2 : decide ((n : Int) ≤ 3000) = true := dec_le hle
   have n1 : ∀ o, niceT s.h (some (.ptr 0 o)) = true := fun o => nice_ptr (by omega) hg (by rw [c.ids0]; rfl)
   have w2 : IntKind.i64.wrap ((n : Int) + 4) = ((n + 4 : Nat) : Int) := wrap_nat (by omega) (by omega)
   have w3 : IntKind.i64.wrap (((n + 4 : Nat) : Int) + ((k.nm.size : Nat) : Int)) = ((n + 4 + k.nm.size : Nat) : Int) := wrap_nat (by omega) (by omega)
   have w4 : IntKind.i64.wrap (((n + 4 + k.nm.size : Nat) : Int) + ((nmPr k.p 3000 : Nat) : Int)) = ((n + 4 + k.nm.size + nmPr k.p 3000 : Nat) : Int) := wrap_nat (by omega) (by omega)
   have q : lenStrV (.val (.string k.nm)) = some (.val (.int .i64 (k.nm.size : Nat))) := rfl
   have fs0 : fieldAddrV 0 (.iptr (k.cells ++ r.flatMap So.cells)) = some (.iptr (k.cells ++ r.flatMap So.cells)) := rfl
   have fs1 : fieldAddrV 1 (.iptr (k.cells ++ r.flatMap So.cells)) = some (.iptr (k.p.cells ++ r.flatMap So.cells)) := rfl
   have t0 : takeN none (k.cells ++ r.flatMap So.cells) = some (.val (.string k.nm)) := rfl
   have t1 : takeN (some 4) (k.p.cells ++ r.flatMap So.cells) = some (.agg k.p.cells) := takeN_row k.p.len
   have nk : niceT s.h (some c.ssA) = true := plain_nice (by show (ids c.ssA).isEmpty = true; rw [c.ss_ids]; rfl)
   have pk : plainT (some (.agg k.p.cells)) = true := by show (ids (.agg k.p.cells)).isEmpty = true; rw [ids, k.p.ids0]; rfl
   have np := plain_nice (h := s.h) pk
   simp -implicitDefEqProofs only [f11_b1, V, ↓reduceIte, reduceEqDiff, reduceAdd, reduceMul, reduceCtorEq, reduceEq, reduceLT, reduceLE, h1, h3, h4, hg, c1, c2]
   refine run_calm f11_calm ?_
   simp -implicitDefEqProofs only [f11_o0, wpDr, g_none, g_some, gIf_t, gIf_f, List.all_cons, List.all_nil, nice_val, nice_imm, nice_iptr, nice_undef, plain_val, V, ↓reduceIte, reduceEqDiff, reduceAdd, reduceMul, reduceCtorEq, reduceEq, reduceLT, reduceLE, h1, h3, h4, hg, n1, nk, np, pk, Ce.ssAt hd, fs0, fs1, t0, t1, q, w1, w2, w3, w4]
   rw [withV_some]
   refine ⟨_, hc, ?_⟩
   simp -implicitDefEqProofs only [g_none, List.all_cons, List.all_nil, nice_val, V, ↓reduceIte, reduceEqDiff, reduceAdd, reduceMul, reduceCtorEq, reduceEq, reduceLT, reduceLE, w1, w4, h4]
   refine (f11_sols c hp r (i + 1) (n + 4 + k.nm.size + nmPr k.p 3000) _ hd' (by omega) (fun k' h' => hk k' (List.mem_cons_of_mem _ h')) (by omega) ?_ ?_ ?_ ?_ ?_ ?_).mono ?_
   ·simp -implicitDefEqProofs only [V, ↓reduceIte, reduceEqDiff, reduceAdd, reduceMul, reduceCtorEq, reduceEq, reduceLT, reduceLE, hx]
   ·simp -implicitDefEqProofs only [V, ↓reduceIte, reduceEqDiff, reduceAdd, reduceMul, reduceCtorEq, reduceEq, reduceLT, reduceLE, hg]
   ·simp -implicitDefEqProofs only [V, ↓reduceIte, reduceEqDiff, reduceAdd, reduceMul, reduceCtorEq, reduceEq, reduceLT, reduceLE, h1]
   ·simp -implicitDefEqProofs only [V, ↓reduceIte, reduceEqDiff, reduceAdd, reduceMul, reduceCtorEq, reduceEq, reduceLT, reduceLE]
   ·simp -implicitDefEqProofs only [V, ↓reduceIte, reduceEqDiff, reduceAdd, reduceMul, reduceCtorEq, reduceEq, reduceLT, reduceLE]
   ·simp -implicitDefEqProofs only [V, ↓reduceIte, reduceEqDiff, reduceAdd, reduceMul, reduceCtorEq, reduceEq, reduceLT, reduceLE, hf]
   ·rintro e s' ⟨r1, r2, r3, r4, r5⟩
    refine ⟨r1, r2, ?_, ?_, ?_⟩
    ·rw [smS, if_pos hle]
     exact r3
    ·rw [r4]; simp -implicitDefEqProofs only [V, ↓reduceIte, reduceEqDiff, reduceAdd, reduceMul, reduceCtorEq, reduceEq, reduceLT, reduceLE, h1]
    ·rw [r5]; simp -implicitDefEqProofs only [V, ↓reduceIte, reduceEqDiff, reduceAdd, reduceMul, reduceCtorEq, reduceEq, reduceLT, reduceLE]
  ·have c2 : decide ((n : Int) ≤ 3000) = false := dec_gt hle
   simp -implicitDefEqProofs only [f11_b1, V, ↓reduceIte, reduceEqDiff, reduceAdd, reduceMul, reduceCtorEq, reduceEq, reduceLT, reduceLE, h1, h3, h4, hg, hf, c1, c2, smS]
   simp only [if_neg hle]
theorem f11_pfs (c : Ce) (hp : c.ps.length < 2 ^ 60) : ∀ (r : List Pf) (i n : Nat) (s : St), c.ps.drop i = r → i ≤ c.ps.length → (∀ k ∈ r, fitPf k) → n ≤ 2 ^ 61 + 2 ^ 60 + 10000 → s.h.get 0 = some (.cells c.cells true) →
  s.eval (.t 1) = some (.ptr 0 0) → s.eval (.t 3) = some (.val (.int .i64 (n : Nat))) → s.eval (.t 5) = some (.val (.int .i64 (i : Nat))) → s.defers = [] →
  Run E1 f11_l2 s fun e s' => e = .exit 2 ∧ s'.defers = [] ∧ s'.eval (.t 3) = some (.val (.int .i64 (smP r n : Nat)))
 | [], i, n, s, hd, hi, hk, hn, hg, h1, h3, h4, hf => by
  have c1 := dec_ge (List.drop_eq_nil_iff.1 hd)
  apply loop_of (rfl : f11_l2 = .loop f11_b2)
  simp -implicitDefEqProofs only [f11_b2, V, ↓reduceIte, reduceEqDiff, reduceAdd, reduceMul, reduceCtorEq, reduceEq, reduceLT, reduceLE, h1, h3, h4, hg, hf, c1, smP]
 | k :: r, i, n, s, hd, hi, hk, hn, hg, h1, h3, h4, hf => by
  obtain ⟨hlt, hd'⟩ := lt_of_drop hd
  have c1 := dec_lt hlt
  have w1 := wrap_succ (i := i) (by omega)
  obtain ⟨b3, hc⟩ := size_call k (hk k List.mem_cons_self) 3000 (by omega)
  have hle' : ((3000 : Nat) : Int) = 3000 := rfl
  rw [hle'] at hc
  apply loop_of (rfl : f11_l2 = .loop f11_b2)
  by_cases hle : n ≤ 3000
  ·have c2 : decide ((n : Int) ≤ 3000) = true := dec_le hle
   have w4 : IntKind.i64.wrap ((n : Int) + ((szPf k 3000 : Nat) : Int)) = ((n + szPf k 3000 : Nat) : Int) := wrap_nat (by omega) (by omega)
   simp -implicitDefEqProofs only [f11_b2, V, ↓reduceIte, reduceEqDiff, reduceAdd, reduceMul, reduceCtorEq, reduceEq, reduceLT, reduceLE, h1, h3, h4, hg, c1, c2, Ce.psAt hd, w1, w4, callK_all hc]
   refine (f11_pfs c hp r (i + 1) (n + szPf k 3000) _ hd' (by omega) (fun k' h' => hk k' (List.mem_cons_of_mem _ h')) (by omega) ?_ ?_ ?_ ?_ ?_).mono ?_
   ·simp -implicitDefEqProofs only [V, ↓reduceIte, reduceEqDiff, reduceAdd, reduceMul, reduceCtorEq, reduceEq, reduceLT, reduceLE, hg]
   ·simp -implicitDefEqProofs only [V, ↓reduceIte, reduceEqDiff, reduceAdd, reduceMul, reduceCtorEq, reduceEq, reduceLT, reduceLE, h1]
   ·simp -implicitDefEqProofs only [V, ↓reduceIte, reduceEqDiff, reduceAdd, reduceMul, reduceCtorEq, reduceEq, reduceLT, reduceLE]
   ·simp -implicitDefEqProofs only [V, ↓reduceIte, reduceEqDiff, reduceAdd, reduceMul, reduceCtorEq, reduceEq, reduceLT, reduceLE]
   ·simp -implicitDefEqProofs only [V, ↓reduceIte, reduceEqDiff, reduceAdd, reduceMul, reduceCtorEq, reduceEq, reduceLT, reduceLE, hf]
   ·rintro e s' ⟨r1, r2, r3⟩
    refine ⟨r1, r2, ?_⟩
    rw [smP, if_pos hle]
    exact r3
  ·have c2 : decide ((n : Int) ≤ 3000) = false := dec_gt hle
   simp -implicitDefEqProofs only [f11_b2, V, ↓reduceIte, reduceEqDiff, reduceAdd, reduceMul, reduceCtorEq, reduceEq, reduceLT, reduceLE, h1, h3, h4, hg, hf, c1, c2, smP]
   simp only [if_neg hle]
def smallB (c : Ce) : Bool := decide (smallN c ≤ 3000)
theorem small_call (c : Ce) (hf : fitCe c) : ∀ h, RunCall E1 (.f 11) [.agg c.cells] h (.val (.bool (smallB c))) h := by
 have hsb : smS c.ss c.nm.size ≤ 2 ^ 61 + 2 ^ 60 + 10000 := smS_le c.ss _ hf.ss (by have := hf.nm; omega)
 refine pure0 (by kernel_rfl) f11_ok (mem1 (Tree.ce c)) rfl (Tree.val _) fun s hs hh hd hr => ?_
 have h0 := hs 0 _ rfl
 have q : lenStrV (.val (.string c.nm)) = some (.val (.int .i64 (c.nm.size : Nat))) := rfl
 have hg : (AH.empty.alloc (.cells c.cells true)).get 0 = some (.cells c.cells true) := box_get
 simp -implicitDefEqProofs only [f11_fn, f11, V, ↓reduceIte, reduceEqDiff, reduceAdd, reduceMul, reduceCtorEq, reduceEq, reduceLT, reduceLE, h0, hh, q]
 refine (f11_sols c hf.sl c.ss 0 c.nm.size _ rfl (Nat.zero_le _) hf.ss (by have := hf.nm; omega) ?_ ?_ ?_ ?_ ?_ ?_).mono ?_
 ·simp -implicitDefEqProofs only [V, ↓reduceIte, reduceEqDiff, reduceAdd, reduceMul, reduceCtorEq, reduceEq, reduceLT, reduceLE]
 ·simp -implicitDefEqProofs only [V, ↓reduceIte, reduceEqDiff, reduceAdd, reduceMul, reduceCtorEq, reduceEq, reduceLT, reduceLE]
 ·simp -implicitDefEqProofs only [V, ↓reduceIte, reduceEqDiff, reduceAdd, reduceMul, reduceCtorEq, reduceEq, reduceLT, reduceLE]
 ·simp -implicitDefEqProofs only [V, ↓reduceIte, reduceEqDiff, reduceAdd, reduceMul, reduceCtorEq, reduceEq, reduceLT, reduceLE]
 ·simp -implicitDefEqProofs only [V, ↓reduceIte, reduceEqDiff, reduceAdd, reduceMul, reduceCtorEq, reduceEq, reduceLT, reduceLE] <;> rfl
 ·simp -implicitDefEqProofs only [V, ↓reduceIte, reduceEqDiff, reduceAdd, reduceMul, reduceCtorEq, reduceEq, reduceLT, reduceLE, hd]
 ·rintro e s' ⟨rfl, r2, r3, r4, r5⟩
  have hbeq : Nat.beq 0 0 = true := rfl
  have hbeq2 : Nat.beq 2 2 = true := rfl
  simp -implicitDefEqProofs only [V, ↓reduceIte, reduceEqDiff, reduceAdd, reduceMul, reduceCtorEq, reduceEq, reduceLT, reduceLE] at r4 r5
  simp -implicitDefEqProofs only [V, ↓reduceIte, reduceEqDiff, reduceAdd, reduceMul, reduceCtorEq, reduceEq, reduceLT, reduceLE, hbeq, r2, r3]
  refine (f11_pfs c hf.pl c.ps 0 (smS c.ss c.nm.size) _ rfl (Nat.zero_le _) (fun k hk => fitPfL_mem hf.ps k hk) hsb ?_ ?_ ?_ ?_ ?_).mono ?_
  ·simp -implicitDefEqProofs only [V, ↓reduceIte, reduceEqDiff, reduceAdd, reduceMul, reduceCtorEq, reduceEq, reduceLT, reduceLE, r5]
  ·simp -implicitDefEqProofs only [V, ↓reduceIte, reduceEqDiff, reduceAdd, reduceMul, reduceCtorEq, reduceEq, reduceLT, reduceLE, r4]
  ·simp -implicitDefEqProofs only [V, ↓reduceIte, reduceEqDiff, reduceAdd, reduceMul, reduceCtorEq, reduceEq, reduceLT, reduceLE, r3]
  ·simp -implicitDefEqProofs only [V, ↓reduceIte, reduceEqDiff, reduceAdd, reduceMul, reduceCtorEq, reduceEq, reduceLT, reduceLE] <;> rfl
  ·simp -implicitDefEqProofs only [V, ↓reduceIte, reduceEqDiff, reduceAdd, reduceMul, reduceCtorEq, reduceEq, reduceLT, reduceLE, r2]
  ·rintro e s2 ⟨rfl, q2, q3⟩
   have e5 : decide (((smP c.ps (smS c.ss c.nm.size) : Nat) : Int) ≤ 3000) = smallB c := by
    show decide (((smallN c : Nat) : Int) ≤ 3000) = decide (smallN c ≤ 3000)
    generalize smallN c = m
    by_cases hq : m ≤ 3000
    ·rw [decide_eq_true hq]; exact decide_eq_true (by omega)
    ·rw [decide_eq_false hq]; exact decide_eq_false (by omega)
   simp -implicitDefEqProofs only [V, ↓reduceIte, reduceEqDiff, reduceAdd, reduceMul, reduceCtorEq, reduceEq, reduceLT, reduceLE, hbeq2, q2, q3, e5]
theorem nmL_ge : ∀ (r : List Pr) (most n : Nat), n ≤ nmL r most n
 | [], _, _ => Nat.le_refl _
 | k :: r, most, n => by
  rw [nmL]
  split
  ·exact Nat.le_trans (Nat.le_add_right _ _) (nmL_ge r most _)
  ·exact Nat.le_refl _
theorem szL_ge : ∀ (r : List Pf) (most n : Nat), n ≤ szL r most n
 | [], _, _ => Nat.le_refl _
 | k :: r, most, n => by
  rw [szL]
  split
  ·exact Nat.le_trans (Nat.le_add_right _ _) (szL_ge r most _)
  ·exact Nat.le_refl _
theorem smS_ge : ∀ (r : List So) (n : Nat), n ≤ smS r n
 | [], _ => Nat.le_refl _
 | k :: r, n => by
  rw [smS]
  split
  ·exact Nat.le_trans (by omega) (smS_ge r _)
  ·exact Nat.le_refl _
theorem smP_ge : ∀ (r : List Pf) (n : Nat), n ≤ smP r n
 | [], _ => Nat.le_refl _
 | k :: r, n => by
  rw [smP]
  split
  ·exact Nat.le_trans (by omega) (smP_ge r _)
  ·exact Nat.le_refl _
theorem encText_le (t : ByteArray) : (encText t).length ≤ 10 + t.size := by
 have := encNum_le (t.size : Nat)
 have e : t.data.toList.length = t.size := rfl
 simp only [encText, List.length_append]
 omega
mutual
theorem nmPr_enc : ∀ (p : Pr) (most : Nat), nmPr p most ≤ most → (encPr p).length ≤ 10 * nmPr p most
 | .mk o t n ks nl cap, most, h => by
  rw [nmPr] at h ⊢
  have := nmL_enc ks most (4 + t.size) h
  have a1 := encNum_le o
  have a2 := encText_le t
  have a3 := encNum_le n
  have a4 := encNum_le (ks.length : Nat)
  simp only [encPr, List.length_append]
  omega
theorem nmL_enc : ∀ (r : List Pr) (most n : Nat), nmL r most n ≤ most → (encPrL r).length + 10 * n ≤ 10 * nmL r most n
 | [], most, n, h => by simp only [encPrL, nmL, List.length_nil]; omega
 | k :: r, most, n, h => by
  rw [nmL] at h ⊢
  split at h
  ·rename_i hle
   rw [if_pos hle]
   have h1 := nmL_enc r most _ h
   have h2 := nmL_ge r most (n + nmPr k (most - n))
   have h3 := nmPr_enc k (most - n) (by omega)
   simp only [encPrL, List.length_append]
   omega
  ·omega
end
theorem encInts_le : ∀ l : List Int, (encInts l).length ≤ 10 * l.length
 | [] => by simp [encInts]
 | n :: r => by
  have := encInts_le r
  have := encNum_le n
  simp only [encInts, List.flatMap_cons, List.length_append, List.length_cons] at *
  omega
theorem szB_enc {most : Nat} : ∀ (r : List Bg) (n : Nat), szB most r n ≤ most → (encBgs r).length + 10 * n ≤ 10 * szB most r n
 | [], n, h => by simp only [encBgs, szB, List.flatMap_nil, List.length_nil]; omega
 | k :: r, n, h => by
  rw [szB] at h ⊢
  split at h
  ·rename_i hle
   rw [if_pos hle]
   have h1 := szB_enc r _ h
   have a1 := encNum_le (if k.neg then 1 else 0)
   have a2 := encNum_le (k.ds.length : Nat)
   have a3 := encInts_le k.ds
   simp only [encBgs, List.flatMap_cons, List.length_append, encBg] at *
   omega
  ·omega
mutual
theorem szPf_enc : ∀ (p : Pf) (most : Nat), szPf p most ≤ most → (encPf p).length ≤ 10 * szPf p most
 | .mk kd fm ms mnl mcap ks nl cap, most, h => by
  rw [szPf] at h ⊢
  have h1 := szL_enc ks most _ h
  have h2 := szL_ge ks most (szB most ms 4)
  have h3 := szB_enc ms 4 (by omega : szB most ms 4 ≤ most)
  have a1 := encNum_le kd
  have a2 := encNum_le fm
  have a3 := encNum_le (ms.length : Nat)
  have a4 := encNum_le (ks.length : Nat)
  simp only [encPf, List.length_append]
  omega
theorem szL_enc : ∀ (r : List Pf) (most n : Nat), szL r most n ≤ most → (encPfL r).length + 10 * n ≤ 10 * szL r most n
 | [], most, n, h => by simp only [encPfL, szL, List.length_nil]; omega
 | k :: r, most, n, h => by
  rw [szL] at h ⊢
  split at h
  ·rename_i hle
   rw [if_pos hle]
   have h1 := szL_enc r most _ h
   have h2 := szL_ge r most (n + szPf k (most - n))
   have h3 := szPf_enc k (most - n) (by omega)
   simp only [encPfL, List.length_append]
   omega
  ·omega
end
theorem smS_enc : ∀ (r : List So) (n : Nat), smS r n ≤ 3000 → (encSos r).length + 10 * n ≤ 10 * smS r n
 | [], n, h => by simp only [encSos, smS, List.flatMap_nil, List.length_nil]; omega
 | k :: r, n, h => by
  rw [smS] at h ⊢
  split at h
  ·rename_i hle
   rw [if_pos hle]
   have h1 := smS_enc r _ h
   have h2 := smS_ge r (n + 4 + k.nm.size + nmPr k.p 3000)
   have h3 := nmPr_enc k.p 3000 (by omega)
   have a1 := encText_le k.nm
   simp only [encSos, List.flatMap_cons, List.length_append, encSo] at *
   omega
  ·omega
theorem smP_enc : ∀ (r : List Pf) (n : Nat), smP r n ≤ 3000 → (encPfL r).length + 10 * n ≤ 10 * smP r n
 | [], n, h => by simp only [encPfL, smP, List.length_nil]; omega
 | k :: r, n, h => by
  rw [smP] at h ⊢
  split at h
  ·rename_i hle
   rw [if_pos hle]
   have h1 := smP_enc r _ h
   have h2 := smP_ge r (n + szPf k 3000)
   have h3 := szPf_enc k 3000 (by omega)
   simp only [encPfL, List.length_append] at *
   omega
  ·omega
theorem small_enc {c : Ce} (h : smallB c = true) : (encCe c).length ≤ 30100 := by
 have h := of_decide_eq_true h
 rw [smallN] at h
 have h1 := smP_enc _ _ h
 have h2 := smP_ge c.ps (smS c.ss c.nm.size)
 have h3 := smS_enc c.ss c.nm.size (by omega)
 have a1 := encText_le c.nm
 have a2 := encNum_le c.dg
 have a3 := encNum_le (c.ss.length : Nat)
 have a4 := encNum_le (c.ps.length : Nat)
 simp only [encCe, encBody, List.length_append, tail4_len, List.length_cons, List.length_nil]
 omega
end Go.Proofs.YtijpnlmmaoecgaaGreatDoor
