/- A part of the proofs about certificates: YLaw YFg YFh. -/
import Derived.Test.YtijpnlmmaoecgaaGreatDoorQS2
import Derived.Test.YtijpnlmmaoecgaaGreatDoorQB6

set_option linter.all false
open Nat (reduceEqDiff reduceAdd reduceMul)
open Int (reduceEq reduceLT reduceLE)

namespace Go.Proofs.YtijpnlmmaoecgaaGreatDoor
open Go Go.AM
theorem awake_call : ∀ h, RunCall E1 (.f 7) [] h (.val (.bool true)) h := fun h => Ev.of fun n => by
 have hs : E1.shared.get 7 = none := by kernel_rfl
 simp only [callA, callF, hs]
 rfl
end Go.Proofs.YtijpnlmmaoecgaaGreatDoor

namespace Go.Proofs.YtijpnlmmaoecgaaGreatDoor
open Go Go.AM
mutual
def szN : Pf → Nat
 | .mk _ _ _ _ _ ks _ _ => 1 + szNL ks
def szNL : List Pf → Nat
 | [] => 0
 | k :: r => szN k + szNL r
end
mutual
theorem szN_le : ∀ p : Pf, szN p ≤ (encPf p).length
 | .mk k f ms mnl mcap ks nl cap => by
  have := szNL_le ks
  have h1 : 0 < (encNum k).length := List.length_pos_iff.2 (encNum_ne k)
  simp only [szN, encPf, List.length_append]
  omega
theorem szNL_le : ∀ l : List Pf, szNL l ≤ (encPfL l).length
 | [] => Nat.le_refl _
 | k :: r => by
  have := szN_le k
  have := szNL_le r
  simp only [szNL, encPfL, List.length_append]
  omega
end
theorem wrap_add {a b : Nat} (h : a + b < 2 ^ 62) : IntKind.i64.wrap ((a : Int) + (b : Nat)) = ((a + b : Nat) : Int) := by
 rw [← Int.natCast_add]
 exact wrap_in h
theorem f42_loop (ks : List Pf) (ksA : AV) (hat : ∀ {i : Nat} {k : Pf} {r : List Pf}, ks.drop i = k :: r → idxAddrSV 4 ksA i = some (.iptr (k.cells ++ r.flatMap Pf.cells))) (hp : ks.length < 2 ^ 60) : ∀ (r : List Pf) (i n : Nat) (s : St), ks.drop i = r → n + szNL r < 2 ^ 62 →
  (∀ k ∈ r, ∀ h, RunCall E1 (.f 42) [.agg k.cells] h (.val (.int .i64 (szN k : Nat))) h) →
  s.eval (.t 3) = some (.val (.int .i64 (n : Nat))) → s.eval (.t 7) = some ksA → s.eval (.t 8) = some (.val (.int .i64 (ks.length : Nat))) → s.eval (.t 9) = some (.val (.int .i64 (i : Nat))) → s.defers = [] →
  Run E1 f42_l0 s fun e s' => e = .exit 0 ∧ s'.defers = [] ∧ s'.eval (.t 3) = some (.val (.int .i64 (n + szNL r : Nat)))
 | [], i, n, s, hd, hn, ih, h3, h7, h8, h9, hf => by
  have c1 := dec_ge (List.drop_eq_nil_iff.1 hd)
  apply loop_of (rfl : f42_l0 = .loop f42_b0)
  simp -implicitDefEqProofs only [f42_b0, V, ↓reduceIte, reduceEqDiff, reduceAdd, reduceMul, reduceCtorEq, reduceEq, reduceLT, reduceLE, h3, h7, h8, h9, hf, c1, szNL]
 | k :: r, i, n, s, hd, hn, ih, h3, h7, h8, h9, hf => by
  obtain ⟨hlt, hd'⟩ := lt_of_drop hd
  have c1 := dec_lt hlt
  have w1 := wrap_succ (i := i) (by omega)
  rw [szNL] at hn
  have w2 := wrap_add (a := n) (b := szN k) (by omega)
  have hs := fun h : AH => store_new (h := h) (z := [.val (.int .i64 0), .val (.int .i64 0), .val (.slice none 0 0), .val (.slice none 0 0)]) (n := 4) rfl k.len
  have hk := ih k List.mem_cons_self
  apply loop_of (rfl : f42_l0 = .loop f42_b0)
  simp -implicitDefEqProofs only [f42_b0, V, ↓reduceIte, reduceEqDiff, reduceAdd, reduceMul, reduceCtorEq, reduceEq, reduceLT, reduceLE, h3, h7, h8, h9, c1, hat hd, hs, callK_all hk, w2, w1]
  refine (f42_loop ks ksA hat hp r (i + 1) (n + szN k) _ hd' (by omega) (fun k' hk => ih k' (List.mem_cons_of_mem _ hk)) ?_ ?_ ?_ ?_ ?_).mono ?_
  ·simp -implicitDefEqProofs only [V, ↓reduceIte, reduceEqDiff, reduceAdd, reduceMul, reduceCtorEq, reduceEq, reduceLT, reduceLE]
  ·simp -implicitDefEqProofs only [V, ↓reduceIte, reduceEqDiff, reduceAdd, reduceMul, reduceCtorEq, reduceEq, reduceLT, reduceLE, h7]
  ·simp -implicitDefEqProofs only [V, ↓reduceIte, reduceEqDiff, reduceAdd, reduceMul, reduceCtorEq, reduceEq, reduceLT, reduceLE, h8]
  ·simp -implicitDefEqProofs only [V, ↓reduceIte, reduceEqDiff, reduceAdd, reduceMul, reduceCtorEq, reduceEq, reduceLT, reduceLE]
  ·simp -implicitDefEqProofs only [V, ↓reduceIte, reduceEqDiff, reduceAdd, reduceMul, reduceCtorEq, reduceEq, reduceLT, reduceLE, hf]
  ·rintro e s' ⟨r1, r2, r3⟩
   refine ⟨r1, r2, ?_⟩
   rw [szNL, ← Nat.add_assoc]
   exact r3
theorem f14_loop (ks : List Pf) (ksA : AV) (hat : ∀ {i : Nat} {k : Pf} {r : List Pf}, ks.drop i = k :: r → idxAddrSV 4 ksA i = some (.iptr (k.cells ++ r.flatMap Pf.cells))) (hp : ks.length < 2 ^ 60) : ∀ (r : List Pf) (i n : Nat) (s : St), ks.drop i = r → n + szNL r < 2 ^ 62 →
  (∀ k ∈ r, ∀ h, RunCall E1 (.f 42) [.agg k.cells] h (.val (.int .i64 (szN k : Nat))) h) →
  s.eval (.t 3) = some (.val (.int .i64 (n : Nat))) → s.eval (.t 7) = some ksA → s.eval (.t 8) = some (.val (.int .i64 (ks.length : Nat))) → s.eval (.t 9) = some (.val (.int .i64 (i : Nat))) → s.defers = [] →
  Run E1 f14_l0 s fun e s' => e = .exit 0 ∧ s'.defers = [] ∧ s'.eval (.t 3) = some (.val (.int .i64 (n + szNL r : Nat)))
 | [], i, n, s, hd, hn, ih, h3, h7, h8, h9, hf => by
  have c1 := dec_ge (List.drop_eq_nil_iff.1 hd)
  apply loop_of (rfl : f14_l0 = .loop f14_b0)
  simp -implicitDefEqProofs only [f14_b0, V, ↓reduceIte, reduceEqDiff, reduceAdd, reduceMul, reduceCtorEq, reduceEq, reduceLT, reduceLE, h3, h7, h8, h9, hf, c1, szNL]
 | k :: r, i, n, s, hd, hn, ih, h3, h7, h8, h9, hf => by
  obtain ⟨hlt, hd'⟩ := lt_of_drop hd
  have c1 := dec_lt hlt
  have w1 := wrap_succ (i := i) (by omega)
  rw [szNL] at hn
  have w2 := wrap_add (a := n) (b := szN k) (by omega)
  have hs := fun h : AH => store_new (h := h) (z := [.val (.int .i64 0), .val (.int .i64 0), .val (.slice none 0 0), .val (.slice none 0 0)]) (n := 4) rfl k.len
  have hk := ih k List.mem_cons_self
  apply loop_of (rfl : f14_l0 = .loop f14_b0)
  simp -implicitDefEqProofs only [f14_b0, V, ↓reduceIte, reduceEqDiff, reduceAdd, reduceMul, reduceCtorEq, reduceEq, reduceLT, reduceLE, h3, h7, h8, h9, c1, hat hd, hs, callK_all hk, w2, w1]
  refine (f14_loop ks ksA hat hp r (i + 1) (n + szN k) _ hd' (by omega) (fun k' hk => ih k' (List.mem_cons_of_mem _ hk)) ?_ ?_ ?_ ?_ ?_).mono ?_
  ·simp -implicitDefEqProofs only [V, ↓reduceIte, reduceEqDiff, reduceAdd, reduceMul, reduceCtorEq, reduceEq, reduceLT, reduceLE]
  ·simp -implicitDefEqProofs only [V, ↓reduceIte, reduceEqDiff, reduceAdd, reduceMul, reduceCtorEq, reduceEq, reduceLT, reduceLE, h7]
  ·simp -implicitDefEqProofs only [V, ↓reduceIte, reduceEqDiff, reduceAdd, reduceMul, reduceCtorEq, reduceEq, reduceLT, reduceLE, h8]
  ·simp -implicitDefEqProofs only [V, ↓reduceIte, reduceEqDiff, reduceAdd, reduceMul, reduceCtorEq, reduceEq, reduceLT, reduceLE]
  ·simp -implicitDefEqProofs only [V, ↓reduceIte, reduceEqDiff, reduceAdd, reduceMul, reduceCtorEq, reduceEq, reduceLT, reduceLE, hf]
  ·rintro e s' ⟨r1, r2, r3⟩
   refine ⟨r1, r2, ?_⟩
   rw [szNL, ← Nat.add_assoc]
   exact r3
theorem f43_loop (ks : List Pf) (cs : List AV) (ksA : AV) (hcs : cs.length = 4) (hat : ∀ {i : Nat} {k : Pf} {r : List Pf}, ks.drop i = k :: r → idxAddrSV 4 ksA i = some (.iptr (k.cells ++ r.flatMap Pf.cells))) (hlen : lenV ksA = some (.val (.int .i64 (ks.length : Nat)))) (hcf : ∀ rw', cfB (some (.cells cs rw')) 3 = some [ksA]) (hp : ks.length < 2 ^ 60) : ∀ (r : List Pf) (i n : Nat) (s : St), ks.drop i = r → n + szNL r < 2 ^ 62 →
  (∀ k ∈ r, ∀ h, RunCall E1 (.f 43) [.agg k.cells] h (.val (.int .i64 (szN k : Nat))) h) → s.h.get 0 = some (.cells cs true) →
  s.eval (.t 1) = some (.ptr 0 0) → s.eval (.t 3) = some (.val (.int .i64 (n : Nat))) → s.eval (.t 4) = some (.val (.int .i64 (i : Nat))) → s.defers = [] →
  Run E1 f43_l0 s fun e s' => e = .exit 0 ∧ s'.defers = [] ∧ s'.eval (.t 3) = some (.val (.int .i64 (n + szNL r : Nat)))
 | [], i, n, s, hd, hn, ih, hg, h1, h3, h4, hf => by
  have c1 := dec_ge (List.drop_eq_nil_iff.1 hd)
  apply loop_of (rfl : f43_l0 = .loop f43_b0)
  simp -implicitDefEqProofs only [f43_b0, V, ↓reduceIte, reduceEqDiff, reduceAdd, reduceMul, reduceCtorEq, reduceEq, reduceLT, reduceLE, h1, h3, h4, hg, hcf, hlen, hf, c1, szNL]
 | k :: r, i, n, s, hd, hn, ih, hg, h1, h3, h4, hf => by
  obtain ⟨hlt, hd'⟩ := lt_of_drop hd
  have c1 := dec_lt hlt
  have w1 := wrap_succ (i := i) (by omega)
  rw [szNL] at hn
  have w2 := wrap_add (a := n) (b := szN k) (by omega)
  have hk := ih k List.mem_cons_self
  apply loop_of (rfl : f43_l0 = .loop f43_b0)
  simp -implicitDefEqProofs only [f43_b0, V, ↓reduceIte, reduceEqDiff, reduceAdd, reduceMul, reduceCtorEq, reduceEq, reduceLT, reduceLE, h1, h3, h4, hg, hcf, hlen, c1, hat hd, callK_all hk, w2, w1]
  refine (f43_loop ks cs ksA hcs hat hlen hcf hp r (i + 1) (n + szN k) _ hd' (by omega) (fun k' hk => ih k' (List.mem_cons_of_mem _ hk)) ?_ ?_ ?_ ?_ ?_).mono ?_
  ·simp -implicitDefEqProofs only [St.h_set, St.h_toH, St.put]
   exact hg
  ·simp -implicitDefEqProofs only [V, ↓reduceIte, reduceEqDiff, reduceAdd, reduceMul, reduceCtorEq, reduceEq, reduceLT, reduceLE, h1]
  ·simp -implicitDefEqProofs only [V, ↓reduceIte, reduceEqDiff, reduceAdd, reduceMul, reduceCtorEq, reduceEq, reduceLT, reduceLE]
  ·simp -implicitDefEqProofs only [V, ↓reduceIte, reduceEqDiff, reduceAdd, reduceMul, reduceCtorEq, reduceEq, reduceLT, reduceLE]
  ·simp -implicitDefEqProofs only [V, ↓reduceIte, reduceEqDiff, reduceAdd, reduceMul, reduceCtorEq, reduceEq, reduceLT, reduceLE, hf]
  ·rintro e s' ⟨r1, r2, r3⟩
   refine ⟨r1, r2, ?_⟩
   rw [szNL, ← Nat.add_assoc]
   exact r3
theorem f15_loop (ks : List Pf) (cs : List AV) (ksA : AV) (hcs : cs.length = 4) (hat : ∀ {i : Nat} {k : Pf} {r : List Pf}, ks.drop i = k :: r → idxAddrSV 4 ksA i = some (.iptr (k.cells ++ r.flatMap Pf.cells))) (hlen : lenV ksA = some (.val (.int .i64 (ks.length : Nat)))) (hcf : ∀ rw', cfB (some (.cells cs rw')) 3 = some [ksA]) (hp : ks.length < 2 ^ 60) : ∀ (r : List Pf) (i n : Nat) (s : St), ks.drop i = r → n + szNL r < 2 ^ 62 →
  (∀ k ∈ r, ∀ h, RunCall E1 (.f 43) [.agg k.cells] h (.val (.int .i64 (szN k : Nat))) h) → s.h.get 0 = some (.cells cs true) →
  s.eval (.t 1) = some (.ptr 0 0) → s.eval (.t 3) = some (.val (.int .i64 (n : Nat))) → s.eval (.t 4) = some (.val (.int .i64 (i : Nat))) → s.defers = [] →
  Run E1 f15_l0 s fun e s' => e = .exit 0 ∧ s'.defers = [] ∧ s'.eval (.t 3) = some (.val (.int .i64 (n + szNL r : Nat)))
 | [], i, n, s, hd, hn, ih, hg, h1, h3, h4, hf => by
  have c1 := dec_ge (List.drop_eq_nil_iff.1 hd)
  apply loop_of (rfl : f15_l0 = .loop f15_b0)
  simp -implicitDefEqProofs only [f15_b0, V, ↓reduceIte, reduceEqDiff, reduceAdd, reduceMul, reduceCtorEq, reduceEq, reduceLT, reduceLE, h1, h3, h4, hg, hcf, hlen, hf, c1, szNL]
 | k :: r, i, n, s, hd, hn, ih, hg, h1, h3, h4, hf => by
  obtain ⟨hlt, hd'⟩ := lt_of_drop hd
  have c1 := dec_lt hlt
  have w1 := wrap_succ (i := i) (by omega)
  rw [szNL] at hn
  have w2 := wrap_add (a := n) (b := szN k) (by omega)
  have hk := ih k List.mem_cons_self
  apply loop_of (rfl : f15_l0 = .loop f15_b0)
  simp -implicitDefEqProofs only [f15_b0, V, ↓reduceIte, reduceEqDiff, reduceAdd, reduceMul, reduceCtorEq, reduceEq, reduceLT, reduceLE, h1, h3, h4, hg, hcf, hlen, c1, hat hd, callK_all hk, w2, w1]
  refine (f15_loop ks cs ksA hcs hat hlen hcf hp r (i + 1) (n + szN k) _ hd' (by omega) (fun k' hk => ih k' (List.mem_cons_of_mem _ hk)) ?_ ?_ ?_ ?_ ?_).mono ?_
  ·simp -implicitDefEqProofs only [St.h_set, St.h_toH, St.put]
   exact hg
  ·simp -implicitDefEqProofs only [V, ↓reduceIte, reduceEqDiff, reduceAdd, reduceMul, reduceCtorEq, reduceEq, reduceLT, reduceLE, h1]
  ·simp -implicitDefEqProofs only [V, ↓reduceIte, reduceEqDiff, reduceAdd, reduceMul, reduceCtorEq, reduceEq, reduceLT, reduceLE]
  ·simp -implicitDefEqProofs only [V, ↓reduceIte, reduceEqDiff, reduceAdd, reduceMul, reduceCtorEq, reduceEq, reduceLT, reduceLE]
  ·simp -implicitDefEqProofs only [V, ↓reduceIte, reduceEqDiff, reduceAdd, reduceMul, reduceCtorEq, reduceEq, reduceLT, reduceLE, hf]
  ·rintro e s' ⟨r1, r2, r3⟩
   refine ⟨r1, r2, ?_⟩
   rw [szNL, ← Nat.add_assoc]
   exact r3
mutual
theorem size42_call : ∀ (p : Pf), fitPf p → szN p < 2 ^ 61 → ∀ h, RunCall E1 (.f 42) [.agg p.cells] h (.val (.int .i64 (szN p : Nat))) h
 | .mk kd fm ms mnl mcap ks nl cap, hfit, hl => by
  generalize hp : Pf.mk kd fm ms mnl mcap ks nl cap = p
  have e4 : p.ks = ks := by rw [← hp]; rfl
  have e5 : szN p = 1 + szNL ks := by rw [← hp]; rfl
  rw [hp, e5] at hl
  simp only [fitPf] at hfit
  obtain ⟨i1, i2, i3, i3', i4, i5⟩ := hfit
  refine pure0 (by kernel_rfl) f42_ok (mem1 (Tree.pf p)) rfl (Tree.val _) fun s hs hh hd hr => ?_
  have h0 := hs 0 _ rfl
  have e1 : ((1 : Nat) : Int) = 1 := rfl
  simp -implicitDefEqProofs only [f42_fn, f42, V, ↓reduceIte, reduceEqDiff, reduceAdd, reduceMul, reduceCtorEq, reduceEq, reduceLT, reduceLE, h0, hh]
  refine (f42_loop p.ks p.ksA (fun h => Pf.ksAt h) (by rw [e4]; exact i4) p.ks 0 1 _ rfl (by rw [e4]; omega) (fun k hk => sizeL42_call ks i5 (by omega) k (by rw [← e4]; exact hk)) ?_ ?_ ?_ ?_ ?_).mono ?_
  ·simp -implicitDefEqProofs only [V, ↓reduceIte, reduceEqDiff, reduceAdd, reduceMul, reduceCtorEq, reduceEq, reduceLT, reduceLE] <;> rfl
  ·simp -implicitDefEqProofs only [V, ↓reduceIte, reduceEqDiff, reduceAdd, reduceMul, reduceCtorEq, reduceEq, reduceLT, reduceLE]
  ·simp -implicitDefEqProofs only [V, ↓reduceIte, reduceEqDiff, reduceAdd, reduceMul, reduceCtorEq, reduceEq, reduceLT, reduceLE]
  ·simp -implicitDefEqProofs only [V, ↓reduceIte, reduceEqDiff, reduceAdd, reduceMul, reduceCtorEq, reduceEq, reduceLT, reduceLE] <;> rfl
  ·simp -implicitDefEqProofs only [V, ↓reduceIte, reduceEqDiff, reduceAdd, reduceMul, reduceCtorEq, reduceEq, reduceLT, reduceLE, hd]
  ·rintro e s' ⟨rfl, rd, r3⟩
   have hbeq : Nat.beq 0 0 = true := rfl
   rw [e4, ← e5] at r3
   simp -implicitDefEqProofs only [V, ↓reduceIte, reduceEqDiff, reduceAdd, reduceMul, reduceCtorEq, reduceEq, reduceLT, reduceLE, hbeq, rd, r3]
theorem sizeL42_call : ∀ (l : List Pf), fitPfL l → szNL l < 2 ^ 61 → ∀ k ∈ l, ∀ h, RunCall E1 (.f 42) [.agg k.cells] h (.val (.int .i64 (szN k : Nat))) h
 | [], _, _, k, hk => by cases hk
 | a :: r, hfit, hl, k, hk => by
  simp only [fitPfL] at hfit
  rw [szNL] at hl
  rcases List.mem_cons.1 hk with e | hk
  ·rw [e]
   exact size42_call a hfit.1 (by omega)
  ·exact sizeL42_call r hfit.2 (by omega) k hk
end
mutual
theorem size43_call : ∀ (p : Pf), fitPf p → szN p < 2 ^ 61 → ∀ h, RunCall E1 (.f 43) [.agg p.cells] h (.val (.int .i64 (szN p : Nat))) h
 | .mk kd fm ms mnl mcap ks nl cap, hfit, hl => by
  generalize hp : Pf.mk kd fm ms mnl mcap ks nl cap = p
  have e4 : p.ks = ks := by rw [← hp]; rfl
  have e5 : szN p = 1 + szNL ks := by rw [← hp]; rfl
  rw [hp, e5] at hl
  simp only [fitPf] at hfit
  obtain ⟨i1, i2, i3, i3', i4, i5⟩ := hfit
  refine pure0 (by kernel_rfl) f43_ok (mem1 (Tree.pf p)) rfl (Tree.val _) fun s hs hh hd hr => ?_
  have h0 := hs 0 _ rfl
  simp -implicitDefEqProofs only [f43_fn, f43, V, ↓reduceIte, reduceEqDiff, reduceAdd, reduceMul, reduceCtorEq, reduceEq, reduceLT, reduceLE, h0, hh]
  refine (f43_loop p.ks p.cells p.ksA p.len (fun h => Pf.ksAt h) (Pf.ksLen p) (fun _ => Pf.f3) (by rw [e4]; exact i4) p.ks 0 1 _ rfl (by rw [e4]; omega) (fun k hk => sizeL43_call ks i5 (by omega) k (by rw [← e4]; exact hk)) ?_ ?_ ?_ ?_ ?_).mono ?_
  ·simp -implicitDefEqProofs only [V, ↓reduceIte, reduceEqDiff, reduceAdd, reduceMul, reduceCtorEq, reduceEq, reduceLT, reduceLE] <;> rfl
  ·simp -implicitDefEqProofs only [V, ↓reduceIte, reduceEqDiff, reduceAdd, reduceMul, reduceCtorEq, reduceEq, reduceLT, reduceLE]
  ·simp -implicitDefEqProofs only [V, ↓reduceIte, reduceEqDiff, reduceAdd, reduceMul, reduceCtorEq, reduceEq, reduceLT, reduceLE] <;> rfl
  ·simp -implicitDefEqProofs only [V, ↓reduceIte, reduceEqDiff, reduceAdd, reduceMul, reduceCtorEq, reduceEq, reduceLT, reduceLE] <;> rfl
  ·simp -implicitDefEqProofs only [V, ↓reduceIte, reduceEqDiff, reduceAdd, reduceMul, reduceCtorEq, reduceEq, reduceLT, reduceLE, hd]
  ·rintro e s' ⟨rfl, rd, r3⟩
   have hbeq : Nat.beq 0 0 = true := rfl
   rw [e4, ← e5] at r3
   simp -implicitDefEqProofs only [V, ↓reduceIte, reduceEqDiff, reduceAdd, reduceMul, reduceCtorEq, reduceEq, reduceLT, reduceLE, hbeq, rd, r3]
theorem sizeL43_call : ∀ (l : List Pf), fitPfL l → szNL l < 2 ^ 61 → ∀ k ∈ l, ∀ h, RunCall E1 (.f 43) [.agg k.cells] h (.val (.int .i64 (szN k : Nat))) h
 | [], _, _, k, hk => by cases hk
 | a :: r, hfit, hl, k, hk => by
  simp only [fitPfL] at hfit
  rw [szNL] at hl
  rcases List.mem_cons.1 hk with e | hk
  ·rw [e]
   exact size43_call a hfit.1 (by omega)
  ·exact sizeL43_call r hfit.2 (by omega) k hk
end
theorem size14_call {c : Ce} (hc : fitCe c) (hl : szNL c.ps < 2 ^ 61) : ∀ h, RunCall E1 (.f 14) [.agg c.cells] h (.val (.int .i64 (szNL c.ps : Nat))) h := by
 refine pure0 (by kernel_rfl) f14_ok (mem1 (Tree.ce c)) rfl (Tree.val _) fun s hs hh hd hr => ?_
 have h0 := hs 0 _ rfl
 simp -implicitDefEqProofs only [f14_fn, f14, V, ↓reduceIte, reduceEqDiff, reduceAdd, reduceMul, reduceCtorEq, reduceEq, reduceLT, reduceLE, h0, hh]
 refine (f14_loop c.ps c.psA (fun h => Ce.psAt h) hc.pl c.ps 0 0 _ rfl (by omega) (sizeL42_call c.ps hc.ps hl) ?_ ?_ ?_ ?_ ?_).mono ?_
 ·simp -implicitDefEqProofs only [V, ↓reduceIte, reduceEqDiff, reduceAdd, reduceMul, reduceCtorEq, reduceEq, reduceLT, reduceLE] <;> rfl
 ·simp -implicitDefEqProofs only [V, ↓reduceIte, reduceEqDiff, reduceAdd, reduceMul, reduceCtorEq, reduceEq, reduceLT, reduceLE]
 ·simp -implicitDefEqProofs only [V, ↓reduceIte, reduceEqDiff, reduceAdd, reduceMul, reduceCtorEq, reduceEq, reduceLT, reduceLE]
 ·simp -implicitDefEqProofs only [V, ↓reduceIte, reduceEqDiff, reduceAdd, reduceMul, reduceCtorEq, reduceEq, reduceLT, reduceLE] <;> rfl
 ·simp -implicitDefEqProofs only [V, ↓reduceIte, reduceEqDiff, reduceAdd, reduceMul, reduceCtorEq, reduceEq, reduceLT, reduceLE, hd]
 ·rintro e s' ⟨rfl, rd, r3⟩
  have hbeq : Nat.beq 0 0 = true := rfl
  rw [Nat.zero_add] at r3
  simp -implicitDefEqProofs only [V, ↓reduceIte, reduceEqDiff, reduceAdd, reduceMul, reduceCtorEq, reduceEq, reduceLT, reduceLE, hbeq, rd, r3]
theorem size15_call {c : Ce} (hc : fitCe c) (hl : szNL c.ps < 2 ^ 61) : ∀ h, RunCall E1 (.f 15) [.agg c.cells] h (.val (.int .i64 (szNL c.ps : Nat))) h := by
 refine pure0 (by kernel_rfl) f15_ok (mem1 (Tree.ce c)) rfl (Tree.val _) fun s hs hh hd hr => ?_
 have h0 := hs 0 _ rfl
 simp -implicitDefEqProofs only [f15_fn, f15, V, ↓reduceIte, reduceEqDiff, reduceAdd, reduceMul, reduceCtorEq, reduceEq, reduceLT, reduceLE, h0, hh]
 refine (f15_loop c.ps c.cells c.psA rfl (fun h => Ce.psAt h) (Ce.psLen c) (fun _ => Ce.f3) hc.pl c.ps 0 0 _ rfl (by omega) (sizeL43_call c.ps hc.ps hl) ?_ ?_ ?_ ?_ ?_).mono ?_
 ·simp -implicitDefEqProofs only [V, ↓reduceIte, reduceEqDiff, reduceAdd, reduceMul, reduceCtorEq, reduceEq, reduceLT, reduceLE] <;> rfl
 ·simp -implicitDefEqProofs only [V, ↓reduceIte, reduceEqDiff, reduceAdd, reduceMul, reduceCtorEq, reduceEq, reduceLT, reduceLE]
 ·simp -implicitDefEqProofs only [V, ↓reduceIte, reduceEqDiff, reduceAdd, reduceMul, reduceCtorEq, reduceEq, reduceLT, reduceLE] <;> rfl
 ·simp -implicitDefEqProofs only [V, ↓reduceIte, reduceEqDiff, reduceAdd, reduceMul, reduceCtorEq, reduceEq, reduceLT, reduceLE] <;> rfl
 ·simp -implicitDefEqProofs only [V, ↓reduceIte, reduceEqDiff, reduceAdd, reduceMul, reduceCtorEq, reduceEq, reduceLT, reduceLE, hd]
 ·rintro e s' ⟨rfl, rd, r3⟩
  have hbeq : Nat.beq 0 0 = true := rfl
  rw [Nat.zero_add] at r3
  simp -implicitDefEqProofs only [V, ↓reduceIte, reduceEqDiff, reduceAdd, reduceMul, reduceCtorEq, reduceEq, reduceLT, reduceLE, hbeq, rd, r3]
end Go.Proofs.YtijpnlmmaoecgaaGreatDoor

namespace Go.Proofs.YtijpnlmmaoecgaaGreatDoor
open Go Go.AM
theorem mild_quiet {R : List Nat} {x : DRec} (h : Quiet x) : MildR R x := fun r _ => by
 obtain ⟨h1, h2⟩ := h
 exact ⟨(by rw [h1]; exact fun h => by cases h), (by rw [h2]; exact fun hab => by obtain ⟨a, b⟩ := hab; omega)⟩
theorem szNL_small {c : Ce} (hel : (encCe c).length ≤ 30100) : szNL c.ps < 2 ^ 61 := by
 have := szNL_le c.ps
 have e : (encPfL c.ps).length ≤ (encCe c).length := by
  simp only [encCe, encBody, List.length_append]
  omega
 omega
set_option maxHeartbeats 4000000 in
theorem f6_end {s : St} {c : Ce} (hc : fitCe c) (hel : (encCe c).length ≤ 30100) (nx : s.h.next = 1) (g0 : s.h.get 0 = some (.cells c.cells true)) (h1 : s.eval (.t 1) = some (.ptr 0 0)) :
  Run E1 f6_d0 s fun e s' => e = .normal ∧ s'.eval (.t 2) = some (.val (.bool true)) ∧ s'.defers = s.defers := by
 have henc := encode_call hc (by omega)
 have hsz := szNL_small hel
 have hs14 := size14_call hc hsz
 have hs15 := size15_call hc hsz
 have pc : plainT (some (.agg c.cells)) = true := by show (ids (.agg c.cells)).isEmpty = true; rw [ids, c.ids0]; rfl
 have nc : ∀ h : AH, niceT h (some (.agg c.cells)) = true := fun h => plain_nice (h := h) pc
 have np : ∀ h : AH, h.get 0 = some (.cells c.cells true) → 0 < h.next → niceT h (some (.ptr 0 0)) = true := fun h g k => nice_ptr k g (by rw [c.ids0]; rfl)
 have n0 := np s.h g0 (by omega)
 have tc : takeN (some 4) c.cells = some (.agg c.cells) := rfl
 have on : onlyT [0] (some (.ptr 0 0)) = true := rfl
 refine run_draw ?_
 show DrawTo E1 (f6_o0.take 4 ++ f6_o0.drop 4) [] s _
 refine calm_preB _ [] s rfl (fun x hx => by cases hx) ?_
 simp -implicitDefEqProofs only [f6_o0, List.take_succ_cons, List.take_zero, wpDr, g_none, List.all_cons, List.all_nil, nice_val, nice_imm, plain_val, plain_imm, V, ↓reduceIte, reduceEqDiff, reduceAdd, reduceMul, reduceCtorEq, reduceEq, reduceLT, reduceLE, h1, g0, n0, nc, pc, tc, strB_imm]
 rw [withV_some]
 refine ⟨_, henc, ?_⟩
 simp -implicitDefEqProofs only [g_none, List.all_cons, List.all_nil, nice_val, nice_imm, plain_val, plain_imm, V, ↓reduceIte, reduceEqDiff, reduceAdd, reduceMul, reduceCtorEq, reduceEq, reduceLT, reduceLE, h1, g0, n0, nc, pc, tc, strB_imm]
 intro _ done hdl hdm
 have hdl : done.length = 4 := hdl
 obtain ⟨v, h2, hc13, b, rfl, hb1, hb2, hgb⟩ := encode13_call hc (by omega) (restrictH s.h [])
 have hb1 : s.h.next ≤ b := hb1
 refine call_draw0 (f := 13) (i := 10) (a := .agg c.cells) ?_ (by rw [ids, c.ids0]) hc13 (by show s.h.next ≤ h2.next; omega) (fun j hj => ?_) ?_
 ·simp -implicitDefEqProofs only [V, ↓reduceIte, reduceEqDiff, reduceAdd, reduceMul, reduceCtorEq, reduceEq, reduceLT, reduceLE]
 ·rw [hdl, List.mem_singleton.1 hj]; decide
 intro h3 hn3 hnew hold
 simp -implicitDefEqProofs only [St.h_set, St.h_toH, St.put] at hnew hold
 have hg3 : h3.get b = some (.cells (bytesA (encCe c)) true) := by rw [hnew b hb1 hb2, hgb]
 have g3 : h3.get 0 = some (.cells c.cells true) := by rw [hold 0 (by omega), g0]
 refine str_draw (b := b) (n := (encCe c).length) (cap := none) (bs := encCe c) ?_ (by show b < h3.next; omega) hg3 rfl (fun j hj => ?_) ?_
 ·simp -implicitDefEqProofs only [V, ↓reduceIte, reduceEqDiff, reduceAdd, reduceMul, reduceCtorEq, reduceEq, reduceLT, reduceLE]
 ·rw [List.mem_singleton.1 hj]
  refine ⟨done[2]'(by omega), ?_, mild_quiet (hdm _ (List.getElem_mem _)).1⟩
  rw [List.getElem?_append_left (by omega), List.getElem?_eq_getElem]
 intro F
 have n3 := np h3 g3 (by omega)
 have hst : binA E1.P .eql 9 false (.val (.string ⟨(encCe c).toArray⟩)) (.val (.string ⟨(encCe c).toArray⟩)) = some (.val (.bool true)) := by
  rw [v_seql]
  have := strEq_list (encCe c) (encCe c)
  simp [this]
 show DrawTo E1 (f6_o0.drop 6) _ _ _
 refine mild_draw (R := [0]) ?_ ?_ (fun r hr => by rw [List.mem_singleton.1 hr]; show 0 < h3.next; omega) ?_
 ·rw [List.length_append, List.length_append, hdl]
  rfl
 ·refine mild_snoc (mild_snoc (fun x hx => mild_quiet (hdm x hx).1) (mild_call ?_)) (mild_quiet ⟨rfl, rfl⟩)
  show 0 < s.h.next
  omega
 simp -implicitDefEqProofs only [f6_o0, List.drop_succ_cons, List.drop_zero, wpDm, g_none, g_some, gIf_t, gIf_f, List.all_cons, List.all_nil, footed, nice_val, nice_imm, only_val, plain_val, plain_imm, V, ↓reduceIte, reduceEqDiff, reduceAdd, reduceMul, reduceCtorEq, reduceEq, reduceLT, reduceLE, h1, g3, n3, nc, pc, tc, on, hst]
 rw [withV_some]
 refine ⟨_, hs14, ?_⟩
 simp -implicitDefEqProofs only [g_none, g_some, gIf_t, gIf_f, List.all_cons, List.all_nil, footed, nice_val, nice_imm, only_val, plain_val, plain_imm, V, ↓reduceIte, reduceEqDiff, reduceAdd, reduceMul, reduceCtorEq, reduceEq, reduceLT, reduceLE, h1, g3, n3, nc, pc, tc, on]
 rw [withV_some]
 refine ⟨_, hs15, ?_⟩
 simp -implicitDefEqProofs only [g_none, g_some, gIf_t, gIf_f, List.all_cons, List.all_nil, footed, nice_val, nice_imm, only_val, plain_val, plain_imm, V, ↓reduceIte, reduceEqDiff, reduceAdd, reduceMul, reduceCtorEq, reduceEq, reduceLT, reduceLE, h1, g3, n3, nc, pc, tc, on]
 rw [withV_some]
 refine ⟨_, awake_call, ?_⟩
 simp -implicitDefEqProofs only [g_none, g_some, gIf_t, gIf_f, List.all_cons, List.all_nil, footed, nice_val, nice_imm, only_val, plain_val, plain_imm, V, ↓reduceIte, reduceEqDiff, reduceAdd, reduceMul, reduceCtorEq, reduceEq, reduceLT, reduceLE]
theorem law6 (c : Ce) (hc : fitCe c) : ∃ h', Ev fun n => enterA E1 (exec E1 n) 6 [.agg c.cells] .empty = some (.val (.bool true), h') := by
 obtain ⟨v, h', hp, hrun⟩ := enter1 (g := 6) (l := [.agg c.cells]) (h := .empty) (fun v _ => v = .val (.bool true)) f6_ok fun s hs hh hd hr => by
  apply wp_run
  have h0 := hs 0 _ rfl
  have hsm := small_call c hc
  cases hb : smallB c with
  | false =>
   rw [hb] at hsm
   simp -implicitDefEqProofs only [f6_fn, f6, V, ↓reduceIte, reduceEqDiff, reduceAdd, reduceMul, reduceCtorEq, reduceEq, reduceLT, reduceLE, h0, hh, callK_all hsm, callK_all awake_call, hd]
   exact ⟨_, rfl, rfl⟩
  | true =>
   rw [hb] at hsm
   have hel := small_enc hb
   simp -implicitDefEqProofs only [f6_fn, f6, V, ↓reduceIte, reduceEqDiff, reduceAdd, reduceMul, reduceCtorEq, reduceEq, reduceLT, reduceLE, h0, hh, callK_all hsm, hd]
   refine (f6_end (c := c) hc hel ?_ ?_ ?_).mono ?_
   ·simp -implicitDefEqProofs only [V, ↓reduceIte, reduceEqDiff, reduceAdd, reduceMul, reduceCtorEq, reduceEq, reduceLT, reduceLE]
   ·simp -implicitDefEqProofs only [V, ↓reduceIte, reduceEqDiff, reduceAdd, reduceMul, reduceCtorEq, reduceEq, reduceLT, reduceLE]
   ·simp -implicitDefEqProofs only [V, ↓reduceIte, reduceEqDiff, reduceAdd, reduceMul, reduceCtorEq, reduceEq, reduceLT, reduceLE]
   ·rintro e s1 ⟨rfl, k2, kd⟩
    simp -implicitDefEqProofs only [St.h_set, St.h_toH, St.put, St.df_set, St.df_toH, hd] at kd
    simp -implicitDefEqProofs only [V, ↓reduceIte, reduceEqDiff, reduceAdd, reduceMul, reduceCtorEq, reduceEq, reduceLT, reduceLE, k2, kd]
    exact ⟨_, rfl, rfl⟩
 subst hp
 exact ⟨h', hrun⟩
end Go.Proofs.YtijpnlmmaoecgaaGreatDoor
