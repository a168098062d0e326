/- A part of the proof of the law RewriteGrounds: XNode XForm. -/
import Derived.Test.YtbolilekjpoicaaGreatDoorC2

set_option linter.all false

namespace Go.Proofs.YtbolilekjpoicaaGreatDoor
open Go Go.AM
set_option linter.all false
set_option maxHeartbeats 40000000

/-- The error of a node without a name: its name is empty, its number zero or allowed, its kids as many as they must be; the number in range; a product begins with a number. -/
def nodeS (num e z l r m : Bool) : Int := bif !e || (!num && !z) || !l then 1 else bif !r then 2 else bif !m then 6 else 0

theorem tri (c n : Int) : (decide (n < c) = true ∧ decide (c < n) = false ∧ decide (n = c) = false) ∨ (decide (n < c) = false ∧ decide (c < n) = false ∧ decide (n = c) = true) ∨ (decide (n < c) = false ∧ decide (c < n) = true ∧ decide (n = c) = false) := by
  rcases Int.lt_trichotomy n c with h | h | h
  · exact .inl ⟨decide_eq_true h, decide_eq_false (by omega), decide_eq_false (by omega)⟩
  · exact .inr (.inl ⟨decide_eq_false (by omega), decide_eq_false (by omega), decide_eq_true h⟩)
  · exact .inr (.inr ⟨decide_eq_false (by omega), decide_eq_true h, decide_eq_false (by omega)⟩)

theorem bits (n : Int) : (decide (n = 0) = true ∧ decide (n = 1) = false ∧ decide (n < 0) = false ∧ decide (1 < n) = false) ∨ (decide (n = 0) = false ∧ decide (n = 1) = true ∧ decide (n < 0) = false ∧ decide (1 < n) = false) ∨
    (decide (n = 0) = false ∧ decide (n = 1) = false ∧ decide (n < 0) = true ∧ decide (1 < n) = false) ∨ (decide (n = 0) = false ∧ decide (n = 1) = false ∧ decide (n < 0) = false ∧ decide (1 < n) = true) := by
  by_cases a : n = 0
  · exact .inl ⟨decide_eq_true a, decide_eq_false (by omega), decide_eq_false (by omega), decide_eq_false (by omega)⟩
  · by_cases b : n = 1
    · exact .inr (.inl ⟨decide_eq_false (by omega), decide_eq_true b, decide_eq_false (by omega), decide_eq_false (by omega)⟩)
    · by_cases c : n < 0
      · exact .inr (.inr (.inl ⟨decide_eq_false (by omega), decide_eq_false (by omega), decide_eq_true c, decide_eq_false (by omega)⟩))
      · exact .inr (.inr (.inr ⟨decide_eq_false (by omega), decide_eq_false (by omega), decide_eq_false (by omega), decide_eq_true (by omega)⟩))

theorem take_k0 (k : Pr) (l : List AV) : takeN none ((k.cells ++ l).drop 0) = some (.val (.int .i64 k.op)) := by rw [k.cells_eq]; rfl

def Pr.kid0 (p : Pr) : Int := match p.ks with
  | k :: _ => k.op
  | [] => 0

theorem called_call152_1 (p : Pr) (hk : p.op = 1) (h : AH) : RunCall E1 (.f 152) [p.av] h (.val (.bool true)) h := by
  refine call_tree (by kernel_rfl) (by kernel_rfl) (mem1 (Tree.pr p)) rfl (Tree.val _) (ans1s f152_ok fun s hs hh hd => ?_) h
  have h0 := hs 0 _ rfl
  simp -implicitDefEqProofs only [f152_fn, f152, W0, W1, W2, W3, W4, W5, W6, W7, W8, St.put, Option.bind_some, Option.map_some, ↓reduceIte, Nat.reduceEqDiff, Nat.reduceAdd, Nat.reduceMul, reduceCtorEq, cond_true, cond_false, Int.reduceEq, Int.reduceLT, Int.reduceLE, if_true, if_false, h0, hh, hd, hk]
theorem called_call152_2 (p : Pr) (hk : p.op = 2) (h : AH) : RunCall E1 (.f 152) [p.av] h (.val (.bool true)) h := by
  refine call_tree (by kernel_rfl) (by kernel_rfl) (mem1 (Tree.pr p)) rfl (Tree.val _) (ans1s f152_ok fun s hs hh hd => ?_) h
  have h0 := hs 0 _ rfl
  simp -implicitDefEqProofs only [f152_fn, f152, W0, W1, W2, W3, W4, W5, W6, W7, W8, St.put, Option.bind_some, Option.map_some, ↓reduceIte, Nat.reduceEqDiff, Nat.reduceAdd, Nat.reduceMul, reduceCtorEq, cond_true, cond_false, Int.reduceEq, Int.reduceLT, Int.reduceLE, if_true, if_false, h0, hh, hd, hk]
theorem called_call152_6 (p : Pr) (hk : p.op = 6) (h : AH) : RunCall E1 (.f 152) [p.av] h (.val (.bool true)) h := by
  refine call_tree (by kernel_rfl) (by kernel_rfl) (mem1 (Tree.pr p)) rfl (Tree.val _) (ans1s f152_ok fun s hs hh hd => ?_) h
  have h0 := hs 0 _ rfl
  simp -implicitDefEqProofs only [f152_fn, f152, W0, W1, W2, W3, W4, W5, W6, W7, W8, St.put, Option.bind_some, Option.map_some, ↓reduceIte, Nat.reduceEqDiff, Nat.reduceAdd, Nat.reduceMul, reduceCtorEq, cond_true, cond_false, Int.reduceEq, Int.reduceLT, Int.reduceLE, if_true, if_false, h0, hh, hd, hk]
theorem called_call152_7 (p : Pr) (hk : p.op = 7) (h : AH) : RunCall E1 (.f 152) [p.av] h (.val (.bool true)) h := by
  refine call_tree (by kernel_rfl) (by kernel_rfl) (mem1 (Tree.pr p)) rfl (Tree.val _) (ans1s f152_ok fun s hs hh hd => ?_) h
  have h0 := hs 0 _ rfl
  simp -implicitDefEqProofs only [f152_fn, f152, W0, W1, W2, W3, W4, W5, W6, W7, W8, St.put, Option.bind_some, Option.map_some, ↓reduceIte, Nat.reduceEqDiff, Nat.reduceAdd, Nat.reduceMul, reduceCtorEq, cond_true, cond_false, Int.reduceEq, Int.reduceLT, Int.reduceLE, if_true, if_false, h0, hh, hd, hk]
theorem called_call152_8 (p : Pr) (hk : p.op = 8) (h : AH) : RunCall E1 (.f 152) [p.av] h (.val (.bool true)) h := by
  refine call_tree (by kernel_rfl) (by kernel_rfl) (mem1 (Tree.pr p)) rfl (Tree.val _) (ans1s f152_ok fun s hs hh hd => ?_) h
  have h0 := hs 0 _ rfl
  simp -implicitDefEqProofs only [f152_fn, f152, W0, W1, W2, W3, W4, W5, W6, W7, W8, St.put, Option.bind_some, Option.map_some, ↓reduceIte, Nat.reduceEqDiff, Nat.reduceAdd, Nat.reduceMul, reduceCtorEq, cond_true, cond_false, Int.reduceEq, Int.reduceLT, Int.reduceLE, if_true, if_false, h0, hh, hd, hk]
theorem called_call152_9 (p : Pr) (hk : p.op = 9) (h : AH) : RunCall E1 (.f 152) [p.av] h (.val (.bool true)) h := by
  refine call_tree (by kernel_rfl) (by kernel_rfl) (mem1 (Tree.pr p)) rfl (Tree.val _) (ans1s f152_ok fun s hs hh hd => ?_) h
  have h0 := hs 0 _ rfl
  simp -implicitDefEqProofs only [f152_fn, f152, W0, W1, W2, W3, W4, W5, W6, W7, W8, St.put, Option.bind_some, Option.map_some, ↓reduceIte, Nat.reduceEqDiff, Nat.reduceAdd, Nat.reduceMul, reduceCtorEq, cond_true, cond_false, Int.reduceEq, Int.reduceLT, Int.reduceLE, if_true, if_false, h0, hh, hd, hk]
theorem called_call152_10 (p : Pr) (hk : p.op = 10) (h : AH) : RunCall E1 (.f 152) [p.av] h (.val (.bool true)) h := by
  refine call_tree (by kernel_rfl) (by kernel_rfl) (mem1 (Tree.pr p)) rfl (Tree.val _) (ans1s f152_ok fun s hs hh hd => ?_) h
  have h0 := hs 0 _ rfl
  simp -implicitDefEqProofs only [f152_fn, f152, W0, W1, W2, W3, W4, W5, W6, W7, W8, St.put, Option.bind_some, Option.map_some, ↓reduceIte, Nat.reduceEqDiff, Nat.reduceAdd, Nat.reduceMul, reduceCtorEq, cond_true, cond_false, Int.reduceEq, Int.reduceLT, Int.reduceLE, if_true, if_false, h0, hh, hd, hk]
theorem called_call152_11 (p : Pr) (hk : p.op = 11) (h : AH) : RunCall E1 (.f 152) [p.av] h (.val (.bool true)) h := by
  refine call_tree (by kernel_rfl) (by kernel_rfl) (mem1 (Tree.pr p)) rfl (Tree.val _) (ans1s f152_ok fun s hs hh hd => ?_) h
  have h0 := hs 0 _ rfl
  simp -implicitDefEqProofs only [f152_fn, f152, W0, W1, W2, W3, W4, W5, W6, W7, W8, St.put, Option.bind_some, Option.map_some, ↓reduceIte, Nat.reduceEqDiff, Nat.reduceAdd, Nat.reduceMul, reduceCtorEq, cond_true, cond_false, Int.reduceEq, Int.reduceLT, Int.reduceLE, if_true, if_false, h0, hh, hd, hk]
theorem called_call152_12 (p : Pr) (hk : p.op = 12) (h : AH) : RunCall E1 (.f 152) [p.av] h (.val (.bool true)) h := by
  refine call_tree (by kernel_rfl) (by kernel_rfl) (mem1 (Tree.pr p)) rfl (Tree.val _) (ans1s f152_ok fun s hs hh hd => ?_) h
  have h0 := hs 0 _ rfl
  simp -implicitDefEqProofs only [f152_fn, f152, W0, W1, W2, W3, W4, W5, W6, W7, W8, St.put, Option.bind_some, Option.map_some, ↓reduceIte, Nat.reduceEqDiff, Nat.reduceAdd, Nat.reduceMul, reduceCtorEq, cond_true, cond_false, Int.reduceEq, Int.reduceLT, Int.reduceLE, if_true, if_false, h0, hh, hd, hk]
theorem called_call152_13 (p : Pr) (hk : p.op = 13) (h : AH) : RunCall E1 (.f 152) [p.av] h (.val (.bool true)) h := by
  refine call_tree (by kernel_rfl) (by kernel_rfl) (mem1 (Tree.pr p)) rfl (Tree.val _) (ans1s f152_ok fun s hs hh hd => ?_) h
  have h0 := hs 0 _ rfl
  simp -implicitDefEqProofs only [f152_fn, f152, W0, W1, W2, W3, W4, W5, W6, W7, W8, St.put, Option.bind_some, Option.map_some, ↓reduceIte, Nat.reduceEqDiff, Nat.reduceAdd, Nat.reduceMul, reduceCtorEq, cond_true, cond_false, Int.reduceEq, Int.reduceLT, Int.reduceLE, if_true, if_false, h0, hh, hd, hk]
theorem called_call152_14 (p : Pr) (hk : p.op = 14) (h : AH) : RunCall E1 (.f 152) [p.av] h (.val (.bool true)) h := by
  refine call_tree (by kernel_rfl) (by kernel_rfl) (mem1 (Tree.pr p)) rfl (Tree.val _) (ans1s f152_ok fun s hs hh hd => ?_) h
  have h0 := hs 0 _ rfl
  simp -implicitDefEqProofs only [f152_fn, f152, W0, W1, W2, W3, W4, W5, W6, W7, W8, St.put, Option.bind_some, Option.map_some, ↓reduceIte, Nat.reduceEqDiff, Nat.reduceAdd, Nat.reduceMul, reduceCtorEq, cond_true, cond_false, Int.reduceEq, Int.reduceLT, Int.reduceLE, if_true, if_false, h0, hh, hd, hk]
theorem called_call152_15 (p : Pr) (hk : p.op = 15) (h : AH) : RunCall E1 (.f 152) [p.av] h (.val (.bool true)) h := by
  refine call_tree (by kernel_rfl) (by kernel_rfl) (mem1 (Tree.pr p)) rfl (Tree.val _) (ans1s f152_ok fun s hs hh hd => ?_) h
  have h0 := hs 0 _ rfl
  simp -implicitDefEqProofs only [f152_fn, f152, W0, W1, W2, W3, W4, W5, W6, W7, W8, St.put, Option.bind_some, Option.map_some, ↓reduceIte, Nat.reduceEqDiff, Nat.reduceAdd, Nat.reduceMul, reduceCtorEq, cond_true, cond_false, Int.reduceEq, Int.reduceLT, Int.reduceLE, if_true, if_false, h0, hh, hd, hk]
theorem called_call152_16 (p : Pr) (hk : p.op = 16) (h : AH) : RunCall E1 (.f 152) [p.av] h (.val (.bool true)) h := by
  refine call_tree (by kernel_rfl) (by kernel_rfl) (mem1 (Tree.pr p)) rfl (Tree.val _) (ans1s f152_ok fun s hs hh hd => ?_) h
  have h0 := hs 0 _ rfl
  simp -implicitDefEqProofs only [f152_fn, f152, W0, W1, W2, W3, W4, W5, W6, W7, W8, St.put, Option.bind_some, Option.map_some, ↓reduceIte, Nat.reduceEqDiff, Nat.reduceAdd, Nat.reduceMul, reduceCtorEq, cond_true, cond_false, Int.reduceEq, Int.reduceLT, Int.reduceLE, if_true, if_false, h0, hh, hd, hk]
theorem called_call152_17 (p : Pr) (hk : p.op = 17) (h : AH) : RunCall E1 (.f 152) [p.av] h (.val (.bool true)) h := by
  refine call_tree (by kernel_rfl) (by kernel_rfl) (mem1 (Tree.pr p)) rfl (Tree.val _) (ans1s f152_ok fun s hs hh hd => ?_) h
  have h0 := hs 0 _ rfl
  simp -implicitDefEqProofs only [f152_fn, f152, W0, W1, W2, W3, W4, W5, W6, W7, W8, St.put, Option.bind_some, Option.map_some, ↓reduceIte, Nat.reduceEqDiff, Nat.reduceAdd, Nat.reduceMul, reduceCtorEq, cond_true, cond_false, Int.reduceEq, Int.reduceLT, Int.reduceLE, if_true, if_false, h0, hh, hd, hk]
theorem called_call152_18 (p : Pr) (hk : p.op = 18) (h : AH) : RunCall E1 (.f 152) [p.av] h (.val (.bool true)) h := by
  refine call_tree (by kernel_rfl) (by kernel_rfl) (mem1 (Tree.pr p)) rfl (Tree.val _) (ans1s f152_ok fun s hs hh hd => ?_) h
  have h0 := hs 0 _ rfl
  simp -implicitDefEqProofs only [f152_fn, f152, W0, W1, W2, W3, W4, W5, W6, W7, W8, St.put, Option.bind_some, Option.map_some, ↓reduceIte, Nat.reduceEqDiff, Nat.reduceAdd, Nat.reduceMul, reduceCtorEq, cond_true, cond_false, Int.reduceEq, Int.reduceLT, Int.reduceLE, if_true, if_false, h0, hh, hd, hk]
theorem node_call56_1 (p : Pr) (hk : p.op = 1) (h : AH) : RunCall E1 (.f 56) [p.av] h (.val (.int .i64 (nodeS true (strEq p.nm ⟨#[]⟩) (decide (p.n = 0)) (decide (((p.ks.length : Nat) : Int) = 0)) (inB p.n) (true)))) h := by
  refine call_tree (by kernel_rfl) (by kernel_rfl) (mem1 (Tree.pr p)) rfl (Tree.val _) (ans1s f56_ok fun s hs hh hd => ?_) h
  have h0 := hs 0 _ rfl
  rcases tri 0 ((p.ks.length : Nat) : Int) with ⟨L1, L2, L3⟩ | ⟨L1, L2, L3⟩ | ⟨L1, L2, L3⟩
  all_goals cases e : strEq p.nm ⟨#[]⟩ <;> cases z : decide (p.n = 0) <;> cases i : inB p.n <;> simp -implicitDefEqProofs only [f56_fn, f56, W0, W1, W2, W3, W4, W5, W6, W7, W8, St.put, Option.bind_some, Option.map_some, ↓reduceIte, Nat.reduceEqDiff, Nat.reduceAdd, Nat.reduceMul, reduceCtorEq, cond_true, cond_false, Int.reduceEq, Int.reduceLT, Int.reduceLE, if_true, if_false, h0, hh, hd, hk, kids_to94_1, named_to95_1, in_to58, nodeS, e, z, i, L1, L2, L3]
theorem node_call56_2 (p : Pr) (hk : p.op = 2) (h : AH) : RunCall E1 (.f 56) [p.av] h (.val (.int .i64 (nodeS true (strEq p.nm ⟨#[]⟩) (decide (p.n = 0)) (decide (((p.ks.length : Nat) : Int) = 0)) ((decide (p.n = 0) || decide (p.n = 1))) (true)))) h := by
  refine call_tree (by kernel_rfl) (by kernel_rfl) (mem1 (Tree.pr p)) rfl (Tree.val _) (ans1s f56_ok fun s hs hh hd => ?_) h
  have h0 := hs 0 _ rfl
  rcases bits p.n with ⟨z, o, b1, b2⟩ | ⟨z, o, b1, b2⟩ | ⟨z, o, b1, b2⟩ | ⟨z, o, b1, b2⟩
  all_goals rcases tri 0 ((p.ks.length : Nat) : Int) with ⟨L1, L2, L3⟩ | ⟨L1, L2, L3⟩ | ⟨L1, L2, L3⟩
  all_goals cases e : strEq p.nm ⟨#[]⟩ <;> simp -implicitDefEqProofs only [f56_fn, f56, W0, W1, W2, W3, W4, W5, W6, W7, W8, St.put, Option.bind_some, Option.map_some, ↓reduceIte, Nat.reduceEqDiff, Nat.reduceAdd, Nat.reduceMul, reduceCtorEq, cond_true, cond_false, Int.reduceEq, Int.reduceLT, Int.reduceLE, if_true, if_false, h0, hh, hd, hk, kids_to94_2, named_to95_2, in_to58, nodeS, e, z, o, b1, b2, L1, L2, L3]
theorem node_call56_6 (p : Pr) (hk : p.op = 6) (h : AH) : RunCall E1 (.f 56) [p.av] h (.val (.int .i64 (nodeS false (strEq p.nm ⟨#[]⟩) (decide (p.n = 0)) (decide (((p.ks.length : Nat) : Int) = 2)) (true) (true)))) h := by
  refine call_tree (by kernel_rfl) (by kernel_rfl) (mem1 (Tree.pr p)) rfl (Tree.val _) (ans1s f56_ok fun s hs hh hd => ?_) h
  have h0 := hs 0 _ rfl
  rcases tri 2 ((p.ks.length : Nat) : Int) with ⟨L1, L2, L3⟩ | ⟨L1, L2, L3⟩ | ⟨L1, L2, L3⟩
  all_goals cases e : strEq p.nm ⟨#[]⟩ <;> cases z : decide (p.n = 0) <;> simp -implicitDefEqProofs only [f56_fn, f56, W0, W1, W2, W3, W4, W5, W6, W7, W8, St.put, Option.bind_some, Option.map_some, ↓reduceIte, Nat.reduceEqDiff, Nat.reduceAdd, Nat.reduceMul, reduceCtorEq, cond_true, cond_false, Int.reduceEq, Int.reduceLT, Int.reduceLE, if_true, if_false, h0, hh, hd, hk, kids_to94_6, named_to95_6, in_to58, nodeS, e, z, L1, L2, L3]
theorem node_call56_7 (p : Pr) (hk : p.op = 7) (h : AH) : RunCall E1 (.f 56) [p.av] h (.val (.int .i64 (nodeS false (strEq p.nm ⟨#[]⟩) (decide (p.n = 0)) (decide (((p.ks.length : Nat) : Int) = 2)) (true) (true)))) h := by
  refine call_tree (by kernel_rfl) (by kernel_rfl) (mem1 (Tree.pr p)) rfl (Tree.val _) (ans1s f56_ok fun s hs hh hd => ?_) h
  have h0 := hs 0 _ rfl
  rcases tri 2 ((p.ks.length : Nat) : Int) with ⟨L1, L2, L3⟩ | ⟨L1, L2, L3⟩ | ⟨L1, L2, L3⟩
  all_goals cases e : strEq p.nm ⟨#[]⟩ <;> cases z : decide (p.n = 0) <;> simp -implicitDefEqProofs only [f56_fn, f56, W0, W1, W2, W3, W4, W5, W6, W7, W8, St.put, Option.bind_some, Option.map_some, ↓reduceIte, Nat.reduceEqDiff, Nat.reduceAdd, Nat.reduceMul, reduceCtorEq, cond_true, cond_false, Int.reduceEq, Int.reduceLT, Int.reduceLE, if_true, if_false, h0, hh, hd, hk, kids_to94_7, named_to95_7, in_to58, nodeS, e, z, L1, L2, L3]
theorem node_call56_8 (p : Pr) (hk : p.op = 8) (h : AH) : RunCall E1 (.f 56) [p.av] h (.val (.int .i64 (nodeS false (strEq p.nm ⟨#[]⟩) (decide (p.n = 0)) (decide (((p.ks.length : Nat) : Int) = 2)) (true) (decide (p.kid0 = 1))))) h := by
  refine call_tree (by kernel_rfl) (by kernel_rfl) (mem1 (Tree.pr p)) rfl (Tree.val _) (ans1s f56_ok fun s hs hh hd => ?_) h
  have h0 := hs 0 _ rfl
  have ek : ∀ k0 r, p.ks = k0 :: r → p.kid0 = k0.op ∧ idxAddrSV 4 p.kids 0 = some (.iptr (k0.cells ++ Pr.cellsL r)) := fun k0 r e => ⟨by simp only [Pr.kid0, e], kid_at (i := 0) (by rw [List.drop_zero, e])⟩
  rcases tri 2 ((p.ks.length : Nat) : Int) with ⟨L1, L2, L3⟩ | ⟨L1, L2, L3⟩ | ⟨L1, L2, L3⟩
  · cases e : strEq p.nm ⟨#[]⟩ <;> cases z : decide (p.n = 0) <;> simp -implicitDefEqProofs only [f56_fn, f56, W0, W1, W2, W3, W4, W5, W6, W7, W8, St.put, Option.bind_some, Option.map_some, ↓reduceIte, Nat.reduceEqDiff, Nat.reduceAdd, Nat.reduceMul, reduceCtorEq, cond_true, cond_false, Int.reduceEq, Int.reduceLT, Int.reduceLE, if_true, if_false, h0, hh, hd, hk, kids_to94_8, named_to95_8, in_to58, nodeS, e, z, L1, L2, L3]
  · obtain ⟨k0, r, e0⟩ : ∃ k0 r, p.ks = k0 :: r := by
      cases hks : p.ks with
      | nil => rw [hks] at L3; cases L3
      | cons a b => exact ⟨a, b, rfl⟩
    obtain ⟨e1, e2⟩ := ek k0 r e0
    cases e : strEq p.nm ⟨#[]⟩ <;> cases z : decide (p.n = 0) <;> cases q : decide (k0.op = 1) <;> simp -implicitDefEqProofs only [f56_fn, f56, W0, W1, W2, W3, W4, W5, W6, W7, W8, St.put, Option.bind_some, Option.map_some, ↓reduceIte, Nat.reduceEqDiff, Nat.reduceAdd, Nat.reduceMul, reduceCtorEq, cond_true, cond_false, Int.reduceEq, Int.reduceLT, Int.reduceLE, if_true, if_false, h0, hh, hd, hk, kids_to94_8, named_to95_8, in_to58, nodeS, e, z, L1, L2, L3, q, e1, e2, fa_iptr k0 0 (Pr.cellsL r) rfl, take_k0]
  · cases e : strEq p.nm ⟨#[]⟩ <;> cases z : decide (p.n = 0) <;> simp -implicitDefEqProofs only [f56_fn, f56, W0, W1, W2, W3, W4, W5, W6, W7, W8, St.put, Option.bind_some, Option.map_some, ↓reduceIte, Nat.reduceEqDiff, Nat.reduceAdd, Nat.reduceMul, reduceCtorEq, cond_true, cond_false, Int.reduceEq, Int.reduceLT, Int.reduceLE, if_true, if_false, h0, hh, hd, hk, kids_to94_8, named_to95_8, in_to58, nodeS, e, z, L1, L2, L3]
theorem node_call56_9 (p : Pr) (hk : p.op = 9) (h : AH) : RunCall E1 (.f 56) [p.av] h (.val (.int .i64 (nodeS false (strEq p.nm ⟨#[]⟩) (decide (p.n = 0)) (decide (((p.ks.length : Nat) : Int) = 1)) (true) (true)))) h := by
  refine call_tree (by kernel_rfl) (by kernel_rfl) (mem1 (Tree.pr p)) rfl (Tree.val _) (ans1s f56_ok fun s hs hh hd => ?_) h
  have h0 := hs 0 _ rfl
  rcases tri 1 ((p.ks.length : Nat) : Int) with ⟨L1, L2, L3⟩ | ⟨L1, L2, L3⟩ | ⟨L1, L2, L3⟩
  all_goals cases e : strEq p.nm ⟨#[]⟩ <;> cases z : decide (p.n = 0) <;> simp -implicitDefEqProofs only [f56_fn, f56, W0, W1, W2, W3, W4, W5, W6, W7, W8, St.put, Option.bind_some, Option.map_some, ↓reduceIte, Nat.reduceEqDiff, Nat.reduceAdd, Nat.reduceMul, reduceCtorEq, cond_true, cond_false, Int.reduceEq, Int.reduceLT, Int.reduceLE, if_true, if_false, h0, hh, hd, hk, kids_to94_9, named_to95_9, in_to58, nodeS, e, z, L1, L2, L3]
theorem node_call56_10 (p : Pr) (hk : p.op = 10) (h : AH) : RunCall E1 (.f 56) [p.av] h (.val (.int .i64 (nodeS false (strEq p.nm ⟨#[]⟩) (decide (p.n = 0)) (decide (((p.ks.length : Nat) : Int) = 2)) (true) (true)))) h := by
  refine call_tree (by kernel_rfl) (by kernel_rfl) (mem1 (Tree.pr p)) rfl (Tree.val _) (ans1s f56_ok fun s hs hh hd => ?_) h
  have h0 := hs 0 _ rfl
  rcases tri 2 ((p.ks.length : Nat) : Int) with ⟨L1, L2, L3⟩ | ⟨L1, L2, L3⟩ | ⟨L1, L2, L3⟩
  all_goals cases e : strEq p.nm ⟨#[]⟩ <;> cases z : decide (p.n = 0) <;> simp -implicitDefEqProofs only [f56_fn, f56, W0, W1, W2, W3, W4, W5, W6, W7, W8, St.put, Option.bind_some, Option.map_some, ↓reduceIte, Nat.reduceEqDiff, Nat.reduceAdd, Nat.reduceMul, reduceCtorEq, cond_true, cond_false, Int.reduceEq, Int.reduceLT, Int.reduceLE, if_true, if_false, h0, hh, hd, hk, kids_to94_10, named_to95_10, in_to58, nodeS, e, z, L1, L2, L3]
theorem node_call56_11 (p : Pr) (hk : p.op = 11) (h : AH) : RunCall E1 (.f 56) [p.av] h (.val (.int .i64 (nodeS false (strEq p.nm ⟨#[]⟩) (decide (p.n = 0)) (decide (((p.ks.length : Nat) : Int) = 2)) (true) (true)))) h := by
  refine call_tree (by kernel_rfl) (by kernel_rfl) (mem1 (Tree.pr p)) rfl (Tree.val _) (ans1s f56_ok fun s hs hh hd => ?_) h
  have h0 := hs 0 _ rfl
  rcases tri 2 ((p.ks.length : Nat) : Int) with ⟨L1, L2, L3⟩ | ⟨L1, L2, L3⟩ | ⟨L1, L2, L3⟩
  all_goals cases e : strEq p.nm ⟨#[]⟩ <;> cases z : decide (p.n = 0) <;> simp -implicitDefEqProofs only [f56_fn, f56, W0, W1, W2, W3, W4, W5, W6, W7, W8, St.put, Option.bind_some, Option.map_some, ↓reduceIte, Nat.reduceEqDiff, Nat.reduceAdd, Nat.reduceMul, reduceCtorEq, cond_true, cond_false, Int.reduceEq, Int.reduceLT, Int.reduceLE, if_true, if_false, h0, hh, hd, hk, kids_to94_11, named_to95_11, in_to58, nodeS, e, z, L1, L2, L3]
theorem node_call56_12 (p : Pr) (hk : p.op = 12) (h : AH) : RunCall E1 (.f 56) [p.av] h (.val (.int .i64 (nodeS false (strEq p.nm ⟨#[]⟩) (decide (p.n = 0)) (decide (((p.ks.length : Nat) : Int) = 2)) (true) (true)))) h := by
  refine call_tree (by kernel_rfl) (by kernel_rfl) (mem1 (Tree.pr p)) rfl (Tree.val _) (ans1s f56_ok fun s hs hh hd => ?_) h
  have h0 := hs 0 _ rfl
  rcases tri 2 ((p.ks.length : Nat) : Int) with ⟨L1, L2, L3⟩ | ⟨L1, L2, L3⟩ | ⟨L1, L2, L3⟩
  all_goals cases e : strEq p.nm ⟨#[]⟩ <;> cases z : decide (p.n = 0) <;> simp -implicitDefEqProofs only [f56_fn, f56, W0, W1, W2, W3, W4, W5, W6, W7, W8, St.put, Option.bind_some, Option.map_some, ↓reduceIte, Nat.reduceEqDiff, Nat.reduceAdd, Nat.reduceMul, reduceCtorEq, cond_true, cond_false, Int.reduceEq, Int.reduceLT, Int.reduceLE, if_true, if_false, h0, hh, hd, hk, kids_to94_12, named_to95_12, in_to58, nodeS, e, z, L1, L2, L3]
theorem node_call56_13 (p : Pr) (hk : p.op = 13) (h : AH) : RunCall E1 (.f 56) [p.av] h (.val (.int .i64 (nodeS false (strEq p.nm ⟨#[]⟩) (decide (p.n = 0)) (decide (((p.ks.length : Nat) : Int) = 2)) (true) (true)))) h := by
  refine call_tree (by kernel_rfl) (by kernel_rfl) (mem1 (Tree.pr p)) rfl (Tree.val _) (ans1s f56_ok fun s hs hh hd => ?_) h
  have h0 := hs 0 _ rfl
  rcases tri 2 ((p.ks.length : Nat) : Int) with ⟨L1, L2, L3⟩ | ⟨L1, L2, L3⟩ | ⟨L1, L2, L3⟩
  all_goals cases e : strEq p.nm ⟨#[]⟩ <;> cases z : decide (p.n = 0) <;> simp -implicitDefEqProofs only [f56_fn, f56, W0, W1, W2, W3, W4, W5, W6, W7, W8, St.put, Option.bind_some, Option.map_some, ↓reduceIte, Nat.reduceEqDiff, Nat.reduceAdd, Nat.reduceMul, reduceCtorEq, cond_true, cond_false, Int.reduceEq, Int.reduceLT, Int.reduceLE, if_true, if_false, h0, hh, hd, hk, kids_to94_13, named_to95_13, in_to58, nodeS, e, z, L1, L2, L3]
theorem node_call56_14 (p : Pr) (hk : p.op = 14) (h : AH) : RunCall E1 (.f 56) [p.av] h (.val (.int .i64 (nodeS false (strEq p.nm ⟨#[]⟩) (decide (p.n = 0)) (decide (((p.ks.length : Nat) : Int) = 1)) (true) (true)))) h := by
  refine call_tree (by kernel_rfl) (by kernel_rfl) (mem1 (Tree.pr p)) rfl (Tree.val _) (ans1s f56_ok fun s hs hh hd => ?_) h
  have h0 := hs 0 _ rfl
  rcases tri 1 ((p.ks.length : Nat) : Int) with ⟨L1, L2, L3⟩ | ⟨L1, L2, L3⟩ | ⟨L1, L2, L3⟩
  all_goals cases e : strEq p.nm ⟨#[]⟩ <;> cases z : decide (p.n = 0) <;> simp -implicitDefEqProofs only [f56_fn, f56, W0, W1, W2, W3, W4, W5, W6, W7, W8, St.put, Option.bind_some, Option.map_some, ↓reduceIte, Nat.reduceEqDiff, Nat.reduceAdd, Nat.reduceMul, reduceCtorEq, cond_true, cond_false, Int.reduceEq, Int.reduceLT, Int.reduceLE, if_true, if_false, h0, hh, hd, hk, kids_to94_14, named_to95_14, in_to58, nodeS, e, z, L1, L2, L3]
theorem node_call56_15 (p : Pr) (hk : p.op = 15) (h : AH) : RunCall E1 (.f 56) [p.av] h (.val (.int .i64 (nodeS false (strEq p.nm ⟨#[]⟩) (decide (p.n = 0)) (decide (((p.ks.length : Nat) : Int) = 2)) (true) (true)))) h := by
  refine call_tree (by kernel_rfl) (by kernel_rfl) (mem1 (Tree.pr p)) rfl (Tree.val _) (ans1s f56_ok fun s hs hh hd => ?_) h
  have h0 := hs 0 _ rfl
  rcases tri 2 ((p.ks.length : Nat) : Int) with ⟨L1, L2, L3⟩ | ⟨L1, L2, L3⟩ | ⟨L1, L2, L3⟩
  all_goals cases e : strEq p.nm ⟨#[]⟩ <;> cases z : decide (p.n = 0) <;> simp -implicitDefEqProofs only [f56_fn, f56, W0, W1, W2, W3, W4, W5, W6, W7, W8, St.put, Option.bind_some, Option.map_some, ↓reduceIte, Nat.reduceEqDiff, Nat.reduceAdd, Nat.reduceMul, reduceCtorEq, cond_true, cond_false, Int.reduceEq, Int.reduceLT, Int.reduceLE, if_true, if_false, h0, hh, hd, hk, kids_to94_15, named_to95_15, in_to58, nodeS, e, z, L1, L2, L3]
theorem node_call56_16 (p : Pr) (hk : p.op = 16) (h : AH) : RunCall E1 (.f 56) [p.av] h (.val (.int .i64 (nodeS false (strEq p.nm ⟨#[]⟩) (decide (p.n = 0)) (decide (((p.ks.length : Nat) : Int) = 2)) (true) (true)))) h := by
  refine call_tree (by kernel_rfl) (by kernel_rfl) (mem1 (Tree.pr p)) rfl (Tree.val _) (ans1s f56_ok fun s hs hh hd => ?_) h
  have h0 := hs 0 _ rfl
  rcases tri 2 ((p.ks.length : Nat) : Int) with ⟨L1, L2, L3⟩ | ⟨L1, L2, L3⟩ | ⟨L1, L2, L3⟩
  all_goals cases e : strEq p.nm ⟨#[]⟩ <;> cases z : decide (p.n = 0) <;> simp -implicitDefEqProofs only [f56_fn, f56, W0, W1, W2, W3, W4, W5, W6, W7, W8, St.put, Option.bind_some, Option.map_some, ↓reduceIte, Nat.reduceEqDiff, Nat.reduceAdd, Nat.reduceMul, reduceCtorEq, cond_true, cond_false, Int.reduceEq, Int.reduceLT, Int.reduceLE, if_true, if_false, h0, hh, hd, hk, kids_to94_16, named_to95_16, in_to58, nodeS, e, z, L1, L2, L3]
theorem node_call56_17 (p : Pr) (hk : p.op = 17) (h : AH) : RunCall E1 (.f 56) [p.av] h (.val (.int .i64 (nodeS false (strEq p.nm ⟨#[]⟩) (decide (p.n = 0)) (decide (((p.ks.length : Nat) : Int) = 2)) (true) (true)))) h := by
  refine call_tree (by kernel_rfl) (by kernel_rfl) (mem1 (Tree.pr p)) rfl (Tree.val _) (ans1s f56_ok fun s hs hh hd => ?_) h
  have h0 := hs 0 _ rfl
  rcases tri 2 ((p.ks.length : Nat) : Int) with ⟨L1, L2, L3⟩ | ⟨L1, L2, L3⟩ | ⟨L1, L2, L3⟩
  all_goals cases e : strEq p.nm ⟨#[]⟩ <;> cases z : decide (p.n = 0) <;> simp -implicitDefEqProofs only [f56_fn, f56, W0, W1, W2, W3, W4, W5, W6, W7, W8, St.put, Option.bind_some, Option.map_some, ↓reduceIte, Nat.reduceEqDiff, Nat.reduceAdd, Nat.reduceMul, reduceCtorEq, cond_true, cond_false, Int.reduceEq, Int.reduceLT, Int.reduceLE, if_true, if_false, h0, hh, hd, hk, kids_to94_17, named_to95_17, in_to58, nodeS, e, z, L1, L2, L3]
theorem node_call56_18 (p : Pr) (hk : p.op = 18) (h : AH) : RunCall E1 (.f 56) [p.av] h (.val (.int .i64 (nodeS false (strEq p.nm ⟨#[]⟩) (decide (p.n = 0)) (decide (((p.ks.length : Nat) : Int) = 2)) (true) (true)))) h := by
  refine call_tree (by kernel_rfl) (by kernel_rfl) (mem1 (Tree.pr p)) rfl (Tree.val _) (ans1s f56_ok fun s hs hh hd => ?_) h
  have h0 := hs 0 _ rfl
  rcases tri 2 ((p.ks.length : Nat) : Int) with ⟨L1, L2, L3⟩ | ⟨L1, L2, L3⟩ | ⟨L1, L2, L3⟩
  all_goals cases e : strEq p.nm ⟨#[]⟩ <;> cases z : decide (p.n = 0) <;> simp -implicitDefEqProofs only [f56_fn, f56, W0, W1, W2, W3, W4, W5, W6, W7, W8, St.put, Option.bind_some, Option.map_some, ↓reduceIte, Nat.reduceEqDiff, Nat.reduceAdd, Nat.reduceMul, reduceCtorEq, cond_true, cond_false, Int.reduceEq, Int.reduceLT, Int.reduceLE, if_true, if_false, h0, hh, hd, hk, kids_to94_18, named_to95_18, in_to58, nodeS, e, z, L1, L2, L3]
theorem node_call101_1 (p : Pr) (hk : p.op = 1) (h : AH) : RunCall E1 (.f 101) [p.av] h (.val (.int .i64 (nodeS true (strEq p.nm ⟨#[]⟩) (decide (p.n = 0)) (decide (((p.ks.length : Nat) : Int) = 0)) (inB p.n) (true)))) h := by
  refine call_tree (by kernel_rfl) (by kernel_rfl) (mem1 (Tree.pr p)) rfl (Tree.val _) (ans1s f101_ok fun s hs hh hd => ?_) h
  have h0 := hs 0 _ rfl
  rcases tri 0 ((p.ks.length : Nat) : Int) with ⟨L1, L2, L3⟩ | ⟨L1, L2, L3⟩ | ⟨L1, L2, L3⟩
  all_goals cases e : strEq p.nm ⟨#[]⟩ <;> cases z : decide (p.n = 0) <;> cases i : inB p.n <;> simp -implicitDefEqProofs only [f101_fn, f101, W0, W1, W2, W3, W4, W5, W6, W7, W8, St.put, Option.bind_some, Option.map_some, ↓reduceIte, Nat.reduceEqDiff, Nat.reduceAdd, Nat.reduceMul, reduceCtorEq, cond_true, cond_false, Int.reduceEq, Int.reduceLT, Int.reduceLE, if_true, if_false, h0, hh, hd, hk, kids_to151_1, named_to150_1, in_to102, callK_all (called_call152_1 p hk), nodeS, e, z, i, L1, L2, L3]
theorem node_call101_2 (p : Pr) (hk : p.op = 2) (h : AH) : RunCall E1 (.f 101) [p.av] h (.val (.int .i64 (nodeS true (strEq p.nm ⟨#[]⟩) (decide (p.n = 0)) (decide (((p.ks.length : Nat) : Int) = 0)) ((decide (p.n = 0) || decide (p.n = 1))) (true)))) h := by
  refine call_tree (by kernel_rfl) (by kernel_rfl) (mem1 (Tree.pr p)) rfl (Tree.val _) (ans1s f101_ok fun s hs hh hd => ?_) h
  have h0 := hs 0 _ rfl
  rcases bits p.n with ⟨z, o, b1, b2⟩ | ⟨z, o, b1, b2⟩ | ⟨z, o, b1, b2⟩ | ⟨z, o, b1, b2⟩
  all_goals rcases tri 0 ((p.ks.length : Nat) : Int) with ⟨L1, L2, L3⟩ | ⟨L1, L2, L3⟩ | ⟨L1, L2, L3⟩
  all_goals cases e : strEq p.nm ⟨#[]⟩ <;> simp -implicitDefEqProofs only [f101_fn, f101, W0, W1, W2, W3, W4, W5, W6, W7, W8, St.put, Option.bind_some, Option.map_some, ↓reduceIte, Nat.reduceEqDiff, Nat.reduceAdd, Nat.reduceMul, reduceCtorEq, cond_true, cond_false, Int.reduceEq, Int.reduceLT, Int.reduceLE, if_true, if_false, h0, hh, hd, hk, kids_to151_2, named_to150_2, in_to102, callK_all (called_call152_2 p hk), nodeS, e, z, o, b1, b2, L1, L2, L3]
theorem node_call101_6 (p : Pr) (hk : p.op = 6) (h : AH) : RunCall E1 (.f 101) [p.av] h (.val (.int .i64 (nodeS false (strEq p.nm ⟨#[]⟩) (decide (p.n = 0)) (decide (((p.ks.length : Nat) : Int) = 2)) (true) (true)))) h := by
  refine call_tree (by kernel_rfl) (by kernel_rfl) (mem1 (Tree.pr p)) rfl (Tree.val _) (ans1s f101_ok fun s hs hh hd => ?_) h
  have h0 := hs 0 _ rfl
  rcases tri 2 ((p.ks.length : Nat) : Int) with ⟨L1, L2, L3⟩ | ⟨L1, L2, L3⟩ | ⟨L1, L2, L3⟩
  all_goals cases e : strEq p.nm ⟨#[]⟩ <;> cases z : decide (p.n = 0) <;> simp -implicitDefEqProofs only [f101_fn, f101, W0, W1, W2, W3, W4, W5, W6, W7, W8, St.put, Option.bind_some, Option.map_some, ↓reduceIte, Nat.reduceEqDiff, Nat.reduceAdd, Nat.reduceMul, reduceCtorEq, cond_true, cond_false, Int.reduceEq, Int.reduceLT, Int.reduceLE, if_true, if_false, h0, hh, hd, hk, kids_to151_6, named_to150_6, in_to102, callK_all (called_call152_6 p hk), nodeS, e, z, L1, L2, L3]
theorem node_call101_7 (p : Pr) (hk : p.op = 7) (h : AH) : RunCall E1 (.f 101) [p.av] h (.val (.int .i64 (nodeS false (strEq p.nm ⟨#[]⟩) (decide (p.n = 0)) (decide (((p.ks.length : Nat) : Int) = 2)) (true) (true)))) h := by
  refine call_tree (by kernel_rfl) (by kernel_rfl) (mem1 (Tree.pr p)) rfl (Tree.val _) (ans1s f101_ok fun s hs hh hd => ?_) h
  have h0 := hs 0 _ rfl
  rcases tri 2 ((p.ks.length : Nat) : Int) with ⟨L1, L2, L3⟩ | ⟨L1, L2, L3⟩ | ⟨L1, L2, L3⟩
  all_goals cases e : strEq p.nm ⟨#[]⟩ <;> cases z : decide (p.n = 0) <;> simp -implicitDefEqProofs only [f101_fn, f101, W0, W1, W2, W3, W4, W5, W6, W7, W8, St.put, Option.bind_some, Option.map_some, ↓reduceIte, Nat.reduceEqDiff, Nat.reduceAdd, Nat.reduceMul, reduceCtorEq, cond_true, cond_false, Int.reduceEq, Int.reduceLT, Int.reduceLE, if_true, if_false, h0, hh, hd, hk, kids_to151_7, named_to150_7, in_to102, callK_all (called_call152_7 p hk), nodeS, e, z, L1, L2, L3]
theorem node_call101_8 (p : Pr) (hk : p.op = 8) (h : AH) : RunCall E1 (.f 101) [p.av] h (.val (.int .i64 (nodeS false (strEq p.nm ⟨#[]⟩) (decide (p.n = 0)) (decide (((p.ks.length : Nat) : Int) = 2)) (true) (decide (p.kid0 = 1))))) h := by
  refine call_tree (by kernel_rfl) (by kernel_rfl) (mem1 (Tree.pr p)) rfl (Tree.val _) (ans1s f101_ok fun s hs hh hd => ?_) h
  have h0 := hs 0 _ rfl
  have ek : ∀ k0 r, p.ks = k0 :: r → p.kid0 = k0.op ∧ idxAddrSV 4 p.kids 0 = some (.iptr (k0.cells ++ Pr.cellsL r)) := fun k0 r e => ⟨by simp only [Pr.kid0, e], kid_at (i := 0) (by rw [List.drop_zero, e])⟩
  rcases tri 2 ((p.ks.length : Nat) : Int) with ⟨L1, L2, L3⟩ | ⟨L1, L2, L3⟩ | ⟨L1, L2, L3⟩
  · cases e : strEq p.nm ⟨#[]⟩ <;> cases z : decide (p.n = 0) <;> simp -implicitDefEqProofs only [f101_fn, f101, W0, W1, W2, W3, W4, W5, W6, W7, W8, St.put, Option.bind_some, Option.map_some, ↓reduceIte, Nat.reduceEqDiff, Nat.reduceAdd, Nat.reduceMul, reduceCtorEq, cond_true, cond_false, Int.reduceEq, Int.reduceLT, Int.reduceLE, if_true, if_false, h0, hh, hd, hk, kids_to151_8, named_to150_8, in_to102, callK_all (called_call152_8 p hk), nodeS, e, z, L1, L2, L3]
  · obtain ⟨k0, r, e0⟩ : ∃ k0 r, p.ks = k0 :: r := by
      cases hks : p.ks with
      | nil => rw [hks] at L3; cases L3
      | cons a b => exact ⟨a, b, rfl⟩
    obtain ⟨e1, e2⟩ := ek k0 r e0
    cases e : strEq p.nm ⟨#[]⟩ <;> cases z : decide (p.n = 0) <;> cases q : decide (k0.op = 1) <;> simp -implicitDefEqProofs only [f101_fn, f101, W0, W1, W2, W3, W4, W5, W6, W7, W8, St.put, Option.bind_some, Option.map_some, ↓reduceIte, Nat.reduceEqDiff, Nat.reduceAdd, Nat.reduceMul, reduceCtorEq, cond_true, cond_false, Int.reduceEq, Int.reduceLT, Int.reduceLE, if_true, if_false, h0, hh, hd, hk, kids_to151_8, named_to150_8, in_to102, callK_all (called_call152_8 p hk), nodeS, e, z, L1, L2, L3, q, e1, e2, fa_iptr k0 0 (Pr.cellsL r) rfl, take_k0]
  · cases e : strEq p.nm ⟨#[]⟩ <;> cases z : decide (p.n = 0) <;> simp -implicitDefEqProofs only [f101_fn, f101, W0, W1, W2, W3, W4, W5, W6, W7, W8, St.put, Option.bind_some, Option.map_some, ↓reduceIte, Nat.reduceEqDiff, Nat.reduceAdd, Nat.reduceMul, reduceCtorEq, cond_true, cond_false, Int.reduceEq, Int.reduceLT, Int.reduceLE, if_true, if_false, h0, hh, hd, hk, kids_to151_8, named_to150_8, in_to102, callK_all (called_call152_8 p hk), nodeS, e, z, L1, L2, L3]
theorem node_call101_9 (p : Pr) (hk : p.op = 9) (h : AH) : RunCall E1 (.f 101) [p.av] h (.val (.int .i64 (nodeS false (strEq p.nm ⟨#[]⟩) (decide (p.n = 0)) (decide (((p.ks.length : Nat) : Int) = 1)) (true) (true)))) h := by
  refine call_tree (by kernel_rfl) (by kernel_rfl) (mem1 (Tree.pr p)) rfl (Tree.val _) (ans1s f101_ok fun s hs hh hd => ?_) h
  have h0 := hs 0 _ rfl
  rcases tri 1 ((p.ks.length : Nat) : Int) with ⟨L1, L2, L3⟩ | ⟨L1, L2, L3⟩ | ⟨L1, L2, L3⟩
  all_goals cases e : strEq p.nm ⟨#[]⟩ <;> cases z : decide (p.n = 0) <;> simp -implicitDefEqProofs only [f101_fn, f101, W0, W1, W2, W3, W4, W5, W6, W7, W8, St.put, Option.bind_some, Option.map_some, ↓reduceIte, Nat.reduceEqDiff, Nat.reduceAdd, Nat.reduceMul, reduceCtorEq, cond_true, cond_false, Int.reduceEq, Int.reduceLT, Int.reduceLE, if_true, if_false, h0, hh, hd, hk, kids_to151_9, named_to150_9, in_to102, callK_all (called_call152_9 p hk), nodeS, e, z, L1, L2, L3]
theorem node_call101_10 (p : Pr) (hk : p.op = 10) (h : AH) : RunCall E1 (.f 101) [p.av] h (.val (.int .i64 (nodeS false (strEq p.nm ⟨#[]⟩) (decide (p.n = 0)) (decide (((p.ks.length : Nat) : Int) = 2)) (true) (true)))) h := by
  refine call_tree (by kernel_rfl) (by kernel_rfl) (mem1 (Tree.pr p)) rfl (Tree.val _) (ans1s f101_ok fun s hs hh hd => ?_) h
  have h0 := hs 0 _ rfl
  rcases tri 2 ((p.ks.length : Nat) : Int) with ⟨L1, L2, L3⟩ | ⟨L1, L2, L3⟩ | ⟨L1, L2, L3⟩
  all_goals cases e : strEq p.nm ⟨#[]⟩ <;> cases z : decide (p.n = 0) <;> simp -implicitDefEqProofs only [f101_fn, f101, W0, W1, W2, W3, W4, W5, W6, W7, W8, St.put, Option.bind_some, Option.map_some, ↓reduceIte, Nat.reduceEqDiff, Nat.reduceAdd, Nat.reduceMul, reduceCtorEq, cond_true, cond_false, Int.reduceEq, Int.reduceLT, Int.reduceLE, if_true, if_false, h0, hh, hd, hk, kids_to151_10, named_to150_10, in_to102, callK_all (called_call152_10 p hk), nodeS, e, z, L1, L2, L3]
theorem node_call101_11 (p : Pr) (hk : p.op = 11) (h : AH) : RunCall E1 (.f 101) [p.av] h (.val (.int .i64 (nodeS false (strEq p.nm ⟨#[]⟩) (decide (p.n = 0)) (decide (((p.ks.length : Nat) : Int) = 2)) (true) (true)))) h := by
  refine call_tree (by kernel_rfl) (by kernel_rfl) (mem1 (Tree.pr p)) rfl (Tree.val _) (ans1s f101_ok fun s hs hh hd => ?_) h
  have h0 := hs 0 _ rfl
  rcases tri 2 ((p.ks.length : Nat) : Int) with ⟨L1, L2, L3⟩ | ⟨L1, L2, L3⟩ | ⟨L1, L2, L3⟩
  all_goals cases e : strEq p.nm ⟨#[]⟩ <;> cases z : decide (p.n = 0) <;> simp -implicitDefEqProofs only [f101_fn, f101, W0, W1, W2, W3, W4, W5, W6, W7, W8, St.put, Option.bind_some, Option.map_some, ↓reduceIte, Nat.reduceEqDiff, Nat.reduceAdd, Nat.reduceMul, reduceCtorEq, cond_true, cond_false, Int.reduceEq, Int.reduceLT, Int.reduceLE, if_true, if_false, h0, hh, hd, hk, kids_to151_11, named_to150_11, in_to102, callK_all (called_call152_11 p hk), nodeS, e, z, L1, L2, L3]
theorem node_call101_12 (p : Pr) (hk : p.op = 12) (h : AH) : RunCall E1 (.f 101) [p.av] h (.val (.int .i64 (nodeS false (strEq p.nm ⟨#[]⟩) (decide (p.n = 0)) (decide (((p.ks.length : Nat) : Int) = 2)) (true) (true)))) h := by
  refine call_tree (by kernel_rfl) (by kernel_rfl) (mem1 (Tree.pr p)) rfl (Tree.val _) (ans1s f101_ok fun s hs hh hd => ?_) h
  have h0 := hs 0 _ rfl
  rcases tri 2 ((p.ks.length : Nat) : Int) with ⟨L1, L2, L3⟩ | ⟨L1, L2, L3⟩ | ⟨L1, L2, L3⟩
  all_goals cases e : strEq p.nm ⟨#[]⟩ <;> cases z : decide (p.n = 0) <;> simp -implicitDefEqProofs only [f101_fn, f101, W0, W1, W2, W3, W4, W5, W6, W7, W8, St.put, Option.bind_some, Option.map_some, ↓reduceIte, Nat.reduceEqDiff, Nat.reduceAdd, Nat.reduceMul, reduceCtorEq, cond_true, cond_false, Int.reduceEq, Int.reduceLT, Int.reduceLE, if_true, if_false, h0, hh, hd, hk, kids_to151_12, named_to150_12, in_to102, callK_all (called_call152_12 p hk), nodeS, e, z, L1, L2, L3]
theorem node_call101_13 (p : Pr) (hk : p.op = 13) (h : AH) : RunCall E1 (.f 101) [p.av] h (.val (.int .i64 (nodeS false (strEq p.nm ⟨#[]⟩) (decide (p.n = 0)) (decide (((p.ks.length : Nat) : Int) = 2)) (true) (true)))) h := by
  refine call_tree (by kernel_rfl) (by kernel_rfl) (mem1 (Tree.pr p)) rfl (Tree.val _) (ans1s f101_ok fun s hs hh hd => ?_) h
  have h0 := hs 0 _ rfl
  rcases tri 2 ((p.ks.length : Nat) : Int) with ⟨L1, L2, L3⟩ | ⟨L1, L2, L3⟩ | ⟨L1, L2, L3⟩
  all_goals cases e : strEq p.nm ⟨#[]⟩ <;> cases z : decide (p.n = 0) <;> simp -implicitDefEqProofs only [f101_fn, f101, W0, W1, W2, W3, W4, W5, W6, W7, W8, St.put, Option.bind_some, Option.map_some, ↓reduceIte, Nat.reduceEqDiff, Nat.reduceAdd, Nat.reduceMul, reduceCtorEq, cond_true, cond_false, Int.reduceEq, Int.reduceLT, Int.reduceLE, if_true, if_false, h0, hh, hd, hk, kids_to151_13, named_to150_13, in_to102, callK_all (called_call152_13 p hk), nodeS, e, z, L1, L2, L3]
theorem node_call101_14 (p : Pr) (hk : p.op = 14) (h : AH) : RunCall E1 (.f 101) [p.av] h (.val (.int .i64 (nodeS false (strEq p.nm ⟨#[]⟩) (decide (p.n = 0)) (decide (((p.ks.length : Nat) : Int) = 1)) (true) (true)))) h := by
  refine call_tree (by kernel_rfl) (by kernel_rfl) (mem1 (Tree.pr p)) rfl (Tree.val _) (ans1s f101_ok fun s hs hh hd => ?_) h
  have h0 := hs 0 _ rfl
  rcases tri 1 ((p.ks.length : Nat) : Int) with ⟨L1, L2, L3⟩ | ⟨L1, L2, L3⟩ | ⟨L1, L2, L3⟩
  all_goals cases e : strEq p.nm ⟨#[]⟩ <;> cases z : decide (p.n = 0) <;> simp -implicitDefEqProofs only [f101_fn, f101, W0, W1, W2, W3, W4, W5, W6, W7, W8, St.put, Option.bind_some, Option.map_some, ↓reduceIte, Nat.reduceEqDiff, Nat.reduceAdd, Nat.reduceMul, reduceCtorEq, cond_true, cond_false, Int.reduceEq, Int.reduceLT, Int.reduceLE, if_true, if_false, h0, hh, hd, hk, kids_to151_14, named_to150_14, in_to102, callK_all (called_call152_14 p hk), nodeS, e, z, L1, L2, L3]
theorem node_call101_15 (p : Pr) (hk : p.op = 15) (h : AH) : RunCall E1 (.f 101) [p.av] h (.val (.int .i64 (nodeS false (strEq p.nm ⟨#[]⟩) (decide (p.n = 0)) (decide (((p.ks.length : Nat) : Int) = 2)) (true) (true)))) h := by
  refine call_tree (by kernel_rfl) (by kernel_rfl) (mem1 (Tree.pr p)) rfl (Tree.val _) (ans1s f101_ok fun s hs hh hd => ?_) h
  have h0 := hs 0 _ rfl
  rcases tri 2 ((p.ks.length : Nat) : Int) with ⟨L1, L2, L3⟩ | ⟨L1, L2, L3⟩ | ⟨L1, L2, L3⟩
  all_goals cases e : strEq p.nm ⟨#[]⟩ <;> cases z : decide (p.n = 0) <;> simp -implicitDefEqProofs only [f101_fn, f101, W0, W1, W2, W3, W4, W5, W6, W7, W8, St.put, Option.bind_some, Option.map_some, ↓reduceIte, Nat.reduceEqDiff, Nat.reduceAdd, Nat.reduceMul, reduceCtorEq, cond_true, cond_false, Int.reduceEq, Int.reduceLT, Int.reduceLE, if_true, if_false, h0, hh, hd, hk, kids_to151_15, named_to150_15, in_to102, callK_all (called_call152_15 p hk), nodeS, e, z, L1, L2, L3]
theorem node_call101_16 (p : Pr) (hk : p.op = 16) (h : AH) : RunCall E1 (.f 101) [p.av] h (.val (.int .i64 (nodeS false (strEq p.nm ⟨#[]⟩) (decide (p.n = 0)) (decide (((p.ks.length : Nat) : Int) = 2)) (true) (true)))) h := by
  refine call_tree (by kernel_rfl) (by kernel_rfl) (mem1 (Tree.pr p)) rfl (Tree.val _) (ans1s f101_ok fun s hs hh hd => ?_) h
  have h0 := hs 0 _ rfl
  rcases tri 2 ((p.ks.length : Nat) : Int) with ⟨L1, L2, L3⟩ | ⟨L1, L2, L3⟩ | ⟨L1, L2, L3⟩
  all_goals cases e : strEq p.nm ⟨#[]⟩ <;> cases z : decide (p.n = 0) <;> simp -implicitDefEqProofs only [f101_fn, f101, W0, W1, W2, W3, W4, W5, W6, W7, W8, St.put, Option.bind_some, Option.map_some, ↓reduceIte, Nat.reduceEqDiff, Nat.reduceAdd, Nat.reduceMul, reduceCtorEq, cond_true, cond_false, Int.reduceEq, Int.reduceLT, Int.reduceLE, if_true, if_false, h0, hh, hd, hk, kids_to151_16, named_to150_16, in_to102, callK_all (called_call152_16 p hk), nodeS, e, z, L1, L2, L3]
theorem node_call101_17 (p : Pr) (hk : p.op = 17) (h : AH) : RunCall E1 (.f 101) [p.av] h (.val (.int .i64 (nodeS false (strEq p.nm ⟨#[]⟩) (decide (p.n = 0)) (decide (((p.ks.length : Nat) : Int) = 2)) (true) (true)))) h := by
  refine call_tree (by kernel_rfl) (by kernel_rfl) (mem1 (Tree.pr p)) rfl (Tree.val _) (ans1s f101_ok fun s hs hh hd => ?_) h
  have h0 := hs 0 _ rfl
  rcases tri 2 ((p.ks.length : Nat) : Int) with ⟨L1, L2, L3⟩ | ⟨L1, L2, L3⟩ | ⟨L1, L2, L3⟩
  all_goals cases e : strEq p.nm ⟨#[]⟩ <;> cases z : decide (p.n = 0) <;> simp -implicitDefEqProofs only [f101_fn, f101, W0, W1, W2, W3, W4, W5, W6, W7, W8, St.put, Option.bind_some, Option.map_some, ↓reduceIte, Nat.reduceEqDiff, Nat.reduceAdd, Nat.reduceMul, reduceCtorEq, cond_true, cond_false, Int.reduceEq, Int.reduceLT, Int.reduceLE, if_true, if_false, h0, hh, hd, hk, kids_to151_17, named_to150_17, in_to102, callK_all (called_call152_17 p hk), nodeS, e, z, L1, L2, L3]
theorem node_call101_18 (p : Pr) (hk : p.op = 18) (h : AH) : RunCall E1 (.f 101) [p.av] h (.val (.int .i64 (nodeS false (strEq p.nm ⟨#[]⟩) (decide (p.n = 0)) (decide (((p.ks.length : Nat) : Int) = 2)) (true) (true)))) h := by
  refine call_tree (by kernel_rfl) (by kernel_rfl) (mem1 (Tree.pr p)) rfl (Tree.val _) (ans1s f101_ok fun s hs hh hd => ?_) h
  have h0 := hs 0 _ rfl
  rcases tri 2 ((p.ks.length : Nat) : Int) with ⟨L1, L2, L3⟩ | ⟨L1, L2, L3⟩ | ⟨L1, L2, L3⟩
  all_goals cases e : strEq p.nm ⟨#[]⟩ <;> cases z : decide (p.n = 0) <;> simp -implicitDefEqProofs only [f101_fn, f101, W0, W1, W2, W3, W4, W5, W6, W7, W8, St.put, Option.bind_some, Option.map_some, ↓reduceIte, Nat.reduceEqDiff, Nat.reduceAdd, Nat.reduceMul, reduceCtorEq, cond_true, cond_false, Int.reduceEq, Int.reduceLT, Int.reduceLE, if_true, if_false, h0, hh, hd, hk, kids_to151_18, named_to150_18, in_to102, callK_all (called_call152_18 p hk), nodeS, e, z, L1, L2, L3]

end Go.Proofs.YtbolilekjpoicaaGreatDoor

namespace Go.Proofs.YtbolilekjpoicaaGreatDoor
open Go Go.AM
set_option linter.all false
set_option maxHeartbeats 4000000

/-! The first error of the nodes, each before its kids. -/
mutual
def chk (N : Pr → Int) : Pr → Int
  | .mk o nm n ks nl cap => if N (.mk o nm n ks nl cap) = 0 then chkL N ks else N (.mk o nm n ks nl cap)
def chkL (N : Pr → Int) : List Pr → Int
  | [] => 0
  | k :: r => if chk N k = 0 then chkL N r else chk N k
end

theorem f64_loop {E : Env} (N : Pr → Int) (p : Pr) : ∀ (r : List Pr) (i : Nat) (s : St), p.ks.drop i = r → i ≤ p.ks.length → i + r.length + 2 < 2 ^ 62 →
    (∀ k ∈ r, ∀ h, RunCall E (.f 64) [k.av] h (.val (.int .i64 (chk N k))) h) →
    s.eval (.t 13) = some p.kids → s.eval (.t 14) = some (.val (.int .i64 (p.ks.length : Nat))) → s.eval (.t 15) = some (.val (.int .i64 i)) → s.defers = [] →
    Run E f64_l0 s fun e s' => s'.defers = [] ∧ (chkL N r = 0 ∧ e = .exit 0 ∨ chkL N r ≠ 0 ∧ e = .ret ∧ s'.eval (.t 2) = some (.val (.int .i64 (chkL N r))))
  | [], i, s, hd, hi, hb, ih, h7, h8, h9, hf => by
    have hl : i = p.ks.length := by
      have := List.drop_eq_nil_iff.1 hd
      omega
    subst hl
    have hlt : decide (((p.ks.length : Nat) : Int) < (p.ks.length : Nat)) = false := by simp
    apply loop_of (rfl : f64_l0 = .loop f64_b0)
    simp -implicitDefEqProofs only [f64_b0, W0, W1, W2, W3, W4, W5, W6, W7, W8, St.put, Option.bind_some, Option.map_some, ↓reduceIte, Nat.reduceEqDiff, Nat.reduceAdd, Nat.reduceMul, reduceCtorEq, cond_true, cond_false, Int.reduceEq, Int.reduceLT, Int.reduceLE, if_true, if_false, h7, h8, h9, hf, hlt, chkL]
  | k :: r, i, s, hd, hi, hb, ih, h7, h8, h9, hf => by
    have hl : i < p.ks.length := by
      rcases Nat.lt_or_ge i p.ks.length with x | x
      · exact x
      · rw [List.drop_eq_nil_of_le x] at hd; cases hd
    have hlt : decide ((i : Int) < (p.ks.length : Nat)) = true := by simp; omega
    have hd' : p.ks.drop (i + 1) = r := by rw [← List.drop_drop, hd]; rfl
    have hs : ∀ h : AH, storeH (h.alloc (.cells [.val (.int .i64 0), .val (.string ⟨#[]⟩), .val (.int .i64 0), .val (.slice none 0 0)] true)) 4 (.ptr h.next 0) k.cells = _ := fun h => store_new rfl k.len
    have w1 : IntKind.i64.wrap ((i : Int) + 1) = ((i + 1 : Nat) : Int) := wrap_nat (n := i + 1) (by simp only [List.length_cons] at hb; omega)
    apply loop_of (rfl : f64_l0 = .loop f64_b0)
    by_cases c : chk N k = 0
    · have hq : chkL N (k :: r) = chkL N r := by simp only [chkL, c, if_true]
      have c' : decide (chk N k = 0) = true := decide_eq_true c
      simp -implicitDefEqProofs only [f64_b0, W0, W1, W2, W3, W4, W5, W6, W7, W8, St.put, Option.bind_some, Option.map_some, ↓reduceIte, Nat.reduceEqDiff, Nat.reduceAdd, Nat.reduceMul, reduceCtorEq, cond_true, cond_false, Int.reduceEq, Int.reduceLT, Int.reduceLE, if_true, if_false, h7, h8, h9, hlt, kid_at hd, hs, callK_all (ih k List.mem_cons_self), w1, c', hq]
      refine f64_loop N p r (i + 1) _ hd' (by omega) (by simp only [List.length_cons] at hb; omega) (fun k' hk => ih k' (List.mem_cons_of_mem _ hk)) ?_ ?_ ?_ ?_
      all_goals simp -implicitDefEqProofs only [W0, W1, W2, W3, W4, W5, W6, W7, W8, St.put, Option.bind_some, Option.map_some, ↓reduceIte, Nat.reduceEqDiff, Nat.reduceAdd, Nat.reduceMul, reduceCtorEq, cond_true, cond_false, Int.reduceEq, Int.reduceLT, Int.reduceLE, if_true, if_false, h7, h8, hf]
    · have hq : chkL N (k :: r) = chk N k := by simp only [chkL, c, if_false]
      have c' : decide (chk N k = 0) = false := decide_eq_false c
      simp -implicitDefEqProofs only [f64_b0, W0, W1, W2, W3, W4, W5, W6, W7, W8, St.put, Option.bind_some, Option.map_some, ↓reduceIte, Nat.reduceEqDiff, Nat.reduceAdd, Nat.reduceMul, reduceCtorEq, cond_true, cond_false, Int.reduceEq, Int.reduceLT, Int.reduceLE, if_true, if_false, h7, h8, h9, hlt, hf, kid_at hd, hs, callK_all (ih k List.mem_cons_self), w1, c', hq]
      exact .inr c

mutual
theorem form_call64 (N : Pr → Int) (hN : ∀ q h, RunCall E1 (.f 101) [q.av] h (.val (.int .i64 (N q))) h) : ∀ (p : Pr), p.nodes < 2 ^ 61 → ∀ h, RunCall E1 (.f 64) [p.av] h (.val (.int .i64 (chk N p))) h
  | .mk o nm n ks nl cap, hb, h => by
    have hb' : 1 + Pr.nodesL ks < 2 ^ 61 := hb
    have hk : ks.length ≤ Pr.nodesL ks := nodesL_len ks
    refine call_tree (by kernel_rfl) (by kernel_rfl) (mem1 (Tree.pr _)) rfl (Tree.val _) (ans1s f64_ok fun s hs hh hd => ?_) h
    have h0 := hs 0 _ rfl
    have hc : chk N (.mk o nm n ks nl cap) = if N (.mk o nm n ks nl cap) = 0 then chkL N ks else N (.mk o nm n ks nl cap) := by simp only [chk]
    generalize hp : Pr.mk o nm n ks nl cap = p at *
    have hks : p.ks = ks := by rw [← hp]; rfl
    by_cases c : N p = 0
    · have c' : decide (N p = 0) = true := decide_eq_true c
      rw [if_pos c] at hc
      simp -implicitDefEqProofs only [f64_fn, f64, W0, W1, W2, W3, W4, W5, W6, W7, W8, St.put, Option.bind_some, Option.map_some, ↓reduceIte, Nat.reduceEqDiff, Nat.reduceAdd, Nat.reduceMul, reduceCtorEq, cond_true, cond_false, Int.reduceEq, Int.reduceLT, Int.reduceLE, if_true, if_false, h0, hh, hd, callK_all (hN p), c', hc]
      refine (f64_loop N p ks 0 _ (by rw [List.drop_zero, hks]) (Nat.zero_le _) (by omega) (fun k hk => formL_call64 N hN ks (by omega) k hk) ?_ ?_ ?_ ?_).mono ?_
      · simp -implicitDefEqProofs only [W0, W1, W2, W3, W4, W5, W6, W7, W8, St.put, Option.bind_some, Option.map_some, ↓reduceIte, Nat.reduceEqDiff, Nat.reduceAdd, Nat.reduceMul, reduceCtorEq, cond_true, cond_false, Int.reduceEq, Int.reduceLT, Int.reduceLE, if_true, if_false]
      · simp -implicitDefEqProofs only [W0, W1, W2, W3, W4, W5, W6, W7, W8, St.put, Option.bind_some, Option.map_some, ↓reduceIte, Nat.reduceEqDiff, Nat.reduceAdd, Nat.reduceMul, reduceCtorEq, cond_true, cond_false, Int.reduceEq, Int.reduceLT, Int.reduceLE, if_true, if_false] <;> rfl
      · simp -implicitDefEqProofs only [W0, W1, W2, W3, W4, W5, W6, W7, W8, St.put, Option.bind_some, Option.map_some, ↓reduceIte, Nat.reduceEqDiff, Nat.reduceAdd, Nat.reduceMul, reduceCtorEq, cond_true, cond_false, Int.reduceEq, Int.reduceLT, Int.reduceLE, if_true, if_false] <;> rfl
      · simp -implicitDefEqProofs only [W0, W1, W2, W3, W4, W5, W6, W7, W8, St.put, Option.bind_some, Option.map_some, ↓reduceIte, Nat.reduceEqDiff, Nat.reduceAdd, Nat.reduceMul, reduceCtorEq, cond_true, cond_false, Int.reduceEq, Int.reduceLT, Int.reduceLE, if_true, if_false, hd]
      · rintro e s' ⟨hf, ⟨z, rfl⟩ | ⟨z, rfl, h2⟩⟩
        · have : Nat.beq 0 0 = true := rfl
          simp -implicitDefEqProofs only [W0, W1, W2, W3, W4, W5, W6, W7, W8, St.put, Option.bind_some, Option.map_some, ↓reduceIte, Nat.reduceEqDiff, Nat.reduceAdd, Nat.reduceMul, reduceCtorEq, cond_true, cond_false, Int.reduceEq, Int.reduceLT, Int.reduceLE, if_true, if_false, this, hf, z]
        · simp -implicitDefEqProofs only [W0, W1, W2, W3, W4, W5, W6, W7, W8, St.put, Option.bind_some, Option.map_some, ↓reduceIte, Nat.reduceEqDiff, Nat.reduceAdd, Nat.reduceMul, reduceCtorEq, cond_true, cond_false, Int.reduceEq, Int.reduceLT, Int.reduceLE, if_true, if_false, hf, h2]
    · have c' : decide (N p = 0) = false := decide_eq_false c
      rw [if_neg c] at hc
      simp -implicitDefEqProofs only [f64_fn, f64, W0, W1, W2, W3, W4, W5, W6, W7, W8, St.put, Option.bind_some, Option.map_some, ↓reduceIte, Nat.reduceEqDiff, Nat.reduceAdd, Nat.reduceMul, reduceCtorEq, cond_true, cond_false, Int.reduceEq, Int.reduceLT, Int.reduceLE, if_true, if_false, h0, hh, hd, callK_all (hN p), c', hc]
theorem formL_call64 (N : Pr → Int) (hN : ∀ q h, RunCall E1 (.f 101) [q.av] h (.val (.int .i64 (N q))) h) : ∀ (l : List Pr), Pr.nodesL l < 2 ^ 61 → ∀ k ∈ l, ∀ h, RunCall E1 (.f 64) [k.av] h (.val (.int .i64 (chk N k))) h
  | [], _, k, hk, _ => by cases hk
  | a :: r, hb, k, hk, h => by
    have hb' : a.nodes + Pr.nodesL r < 2 ^ 61 := hb
    rcases List.mem_cons.1 hk with e | hk
    · rw [e]; exact form_call64 N hN a (by omega) h
    · exact formL_call64 N hN r (by omega) k hk h
end

end Go.Proofs.YtbolilekjpoicaaGreatDoor
