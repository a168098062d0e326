/- A part of the proof of the law RewriteGrounds: XOps XKids. -/
import Derived.Test.YtbolilekjpoicaaGreatDoorC1
import Derived.KernelRfl

set_option linter.all false

namespace Go.Proofs.YtbolilekjpoicaaGreatDoor
open Go Go.AM
set_option linter.all false
set_option maxHeartbeats 4000000

/-- What an operation on two values answers. -/
def opS (op a b : Int) : Int × Bool :=
  if op = 6 then arith a b (a + b) else
  if op = 7 then arith a b (a - b) else
  if op = 8 then arith a b (a * b) else
  if op = 9 then arith 0 a (0 - a) else
  if op = 10 then (tr (decide (a = b)), true) else
  if op = 11 then (tr (!decide (a = b)), true) else
  if op = 12 then (tr (decide (a < b)), true) else
  if op = 13 then (tr (decide (a ≤ b)), true) else
  if op = 14 then (tr (decide (a = 0)), true) else
  if op = 15 then (tr (!decide (a = 0) && !decide (b = 0)), true) else
  if op = 16 then (tr (!decide (a = 0) || !decide (b = 0)), true) else
  if op = 17 then (tr (decide (a = 0) || !decide (b = 0)), true) else
  (tr ((!decide (a = 0)) == (!decide (b = 0))), true)

theorem b_eql {t : TypeId} {g : Bool} (h : ∀ x y : Bool, binA E1.P .eql t g (.val (.bool x)) (.val (.bool y)) = some (.val (.bool (x == y)))) (x y : Bool) : binA E1.P .eql t g (.val (.bool x)) (.val (.bool y)) = some (.val (.bool (x == y))) := h x y

theorem op_call62_6 (a b : Int) (h : AH) : RunCall E1 (.f 62) [.val (.int .i64 6), .val (.int .i64 a), .val (.int .i64 b)] h (prA (opS 6 a b)) h := by
  refine call_tree (by kernel_rfl) (by kernel_rfl) (mem3 (Tree.val _) (Tree.val _) (Tree.val _)) rfl (Tree.two _ _) (ans2s (rs := [.val (.int .i64 (opS 6 a b).1), .val (.bool (opS 6 a b).2)]) f62_ok fun s hs hh hd => ?_) h
  have h0 := hs 0 _ rfl
  have h1 := hs 1 _ rfl
  have h2 := hs 2 _ rfl
  have be : ∀ x y : Bool, binA E1.P .eql 4 false (.val (.bool x)) (.val (.bool y)) = some (.val (.bool (x == y))) := fun x y => by cases x <;> cases y <;> kernel_rfl
  cases a0 : decide (a = 0) <;> cases b0 : decide (b = 0) <;> simp -implicitDefEqProofs only [f62_fn, f62, W0, W1, W2, W3, W4, W5, W6, W7, W8, St.put, Option.bind_some, Option.map_some, ↓reduceIte, Nat.reduceEqDiff, Nat.reduceAdd, Nat.reduceMul, reduceCtorEq, cond_true, cond_false, Int.reduceEq, Int.reduceLT, Int.reduceLE, if_true, if_false, h0, h1, h2, hh, hd, ar_to99, ar_to60, ar_to100, ar_to104, ar_to105, ar_to106, tr_to61, tr_to107, opS, prA, be, a0, b0]
theorem op_call62_7 (a b : Int) (h : AH) : RunCall E1 (.f 62) [.val (.int .i64 7), .val (.int .i64 a), .val (.int .i64 b)] h (prA (opS 7 a b)) h := by
  refine call_tree (by kernel_rfl) (by kernel_rfl) (mem3 (Tree.val _) (Tree.val _) (Tree.val _)) rfl (Tree.two _ _) (ans2s (rs := [.val (.int .i64 (opS 7 a b).1), .val (.bool (opS 7 a b).2)]) f62_ok fun s hs hh hd => ?_) h
  have h0 := hs 0 _ rfl
  have h1 := hs 1 _ rfl
  have h2 := hs 2 _ rfl
  have be : ∀ x y : Bool, binA E1.P .eql 4 false (.val (.bool x)) (.val (.bool y)) = some (.val (.bool (x == y))) := fun x y => by cases x <;> cases y <;> kernel_rfl
  cases a0 : decide (a = 0) <;> cases b0 : decide (b = 0) <;> simp -implicitDefEqProofs only [f62_fn, f62, W0, W1, W2, W3, W4, W5, W6, W7, W8, St.put, Option.bind_some, Option.map_some, ↓reduceIte, Nat.reduceEqDiff, Nat.reduceAdd, Nat.reduceMul, reduceCtorEq, cond_true, cond_false, Int.reduceEq, Int.reduceLT, Int.reduceLE, if_true, if_false, h0, h1, h2, hh, hd, ar_to99, ar_to60, ar_to100, ar_to104, ar_to105, ar_to106, tr_to61, tr_to107, opS, prA, be, a0, b0]
theorem op_call62_8 (a b : Int) (h : AH) : RunCall E1 (.f 62) [.val (.int .i64 8), .val (.int .i64 a), .val (.int .i64 b)] h (prA (opS 8 a b)) h := by
  refine call_tree (by kernel_rfl) (by kernel_rfl) (mem3 (Tree.val _) (Tree.val _) (Tree.val _)) rfl (Tree.two _ _) (ans2s (rs := [.val (.int .i64 (opS 8 a b).1), .val (.bool (opS 8 a b).2)]) f62_ok fun s hs hh hd => ?_) h
  have h0 := hs 0 _ rfl
  have h1 := hs 1 _ rfl
  have h2 := hs 2 _ rfl
  have be : ∀ x y : Bool, binA E1.P .eql 4 false (.val (.bool x)) (.val (.bool y)) = some (.val (.bool (x == y))) := fun x y => by cases x <;> cases y <;> kernel_rfl
  cases a0 : decide (a = 0) <;> cases b0 : decide (b = 0) <;> simp -implicitDefEqProofs only [f62_fn, f62, W0, W1, W2, W3, W4, W5, W6, W7, W8, St.put, Option.bind_some, Option.map_some, ↓reduceIte, Nat.reduceEqDiff, Nat.reduceAdd, Nat.reduceMul, reduceCtorEq, cond_true, cond_false, Int.reduceEq, Int.reduceLT, Int.reduceLE, if_true, if_false, h0, h1, h2, hh, hd, ar_to99, ar_to60, ar_to100, ar_to104, ar_to105, ar_to106, tr_to61, tr_to107, opS, prA, be, a0, b0]
theorem op_call62_10 (a b : Int) (h : AH) : RunCall E1 (.f 62) [.val (.int .i64 10), .val (.int .i64 a), .val (.int .i64 b)] h (prA (opS 10 a b)) h := by
  refine call_tree (by kernel_rfl) (by kernel_rfl) (mem3 (Tree.val _) (Tree.val _) (Tree.val _)) rfl (Tree.two _ _) (ans2s (rs := [.val (.int .i64 (opS 10 a b).1), .val (.bool (opS 10 a b).2)]) f62_ok fun s hs hh hd => ?_) h
  have h0 := hs 0 _ rfl
  have h1 := hs 1 _ rfl
  have h2 := hs 2 _ rfl
  have be : ∀ x y : Bool, binA E1.P .eql 4 false (.val (.bool x)) (.val (.bool y)) = some (.val (.bool (x == y))) := fun x y => by cases x <;> cases y <;> kernel_rfl
  cases a0 : decide (a = 0) <;> cases b0 : decide (b = 0) <;> simp -implicitDefEqProofs only [f62_fn, f62, W0, W1, W2, W3, W4, W5, W6, W7, W8, St.put, Option.bind_some, Option.map_some, ↓reduceIte, Nat.reduceEqDiff, Nat.reduceAdd, Nat.reduceMul, reduceCtorEq, cond_true, cond_false, Int.reduceEq, Int.reduceLT, Int.reduceLE, if_true, if_false, h0, h1, h2, hh, hd, ar_to99, ar_to60, ar_to100, ar_to104, ar_to105, ar_to106, tr_to61, tr_to107, opS, prA, be, a0, b0]
theorem op_call62_11 (a b : Int) (h : AH) : RunCall E1 (.f 62) [.val (.int .i64 11), .val (.int .i64 a), .val (.int .i64 b)] h (prA (opS 11 a b)) h := by
  refine call_tree (by kernel_rfl) (by kernel_rfl) (mem3 (Tree.val _) (Tree.val _) (Tree.val _)) rfl (Tree.two _ _) (ans2s (rs := [.val (.int .i64 (opS 11 a b).1), .val (.bool (opS 11 a b).2)]) f62_ok fun s hs hh hd => ?_) h
  have h0 := hs 0 _ rfl
  have h1 := hs 1 _ rfl
  have h2 := hs 2 _ rfl
  have be : ∀ x y : Bool, binA E1.P .eql 4 false (.val (.bool x)) (.val (.bool y)) = some (.val (.bool (x == y))) := fun x y => by cases x <;> cases y <;> kernel_rfl
  cases a0 : decide (a = 0) <;> cases b0 : decide (b = 0) <;> simp -implicitDefEqProofs only [f62_fn, f62, W0, W1, W2, W3, W4, W5, W6, W7, W8, St.put, Option.bind_some, Option.map_some, ↓reduceIte, Nat.reduceEqDiff, Nat.reduceAdd, Nat.reduceMul, reduceCtorEq, cond_true, cond_false, Int.reduceEq, Int.reduceLT, Int.reduceLE, if_true, if_false, h0, h1, h2, hh, hd, ar_to99, ar_to60, ar_to100, ar_to104, ar_to105, ar_to106, tr_to61, tr_to107, opS, prA, be, a0, b0]
theorem op_call62_12 (a b : Int) (h : AH) : RunCall E1 (.f 62) [.val (.int .i64 12), .val (.int .i64 a), .val (.int .i64 b)] h (prA (opS 12 a b)) h := by
  refine call_tree (by kernel_rfl) (by kernel_rfl) (mem3 (Tree.val _) (Tree.val _) (Tree.val _)) rfl (Tree.two _ _) (ans2s (rs := [.val (.int .i64 (opS 12 a b).1), .val (.bool (opS 12 a b).2)]) f62_ok fun s hs hh hd => ?_) h
  have h0 := hs 0 _ rfl
  have h1 := hs 1 _ rfl
  have h2 := hs 2 _ rfl
  have be : ∀ x y : Bool, binA E1.P .eql 4 false (.val (.bool x)) (.val (.bool y)) = some (.val (.bool (x == y))) := fun x y => by cases x <;> cases y <;> kernel_rfl
  cases a0 : decide (a = 0) <;> cases b0 : decide (b = 0) <;> simp -implicitDefEqProofs only [f62_fn, f62, W0, W1, W2, W3, W4, W5, W6, W7, W8, St.put, Option.bind_some, Option.map_some, ↓reduceIte, Nat.reduceEqDiff, Nat.reduceAdd, Nat.reduceMul, reduceCtorEq, cond_true, cond_false, Int.reduceEq, Int.reduceLT, Int.reduceLE, if_true, if_false, h0, h1, h2, hh, hd, ar_to99, ar_to60, ar_to100, ar_to104, ar_to105, ar_to106, tr_to61, tr_to107, opS, prA, be, a0, b0]
theorem op_call62_13 (a b : Int) (h : AH) : RunCall E1 (.f 62) [.val (.int .i64 13), .val (.int .i64 a), .val (.int .i64 b)] h (prA (opS 13 a b)) h := by
  refine call_tree (by kernel_rfl) (by kernel_rfl) (mem3 (Tree.val _) (Tree.val _) (Tree.val _)) rfl (Tree.two _ _) (ans2s (rs := [.val (.int .i64 (opS 13 a b).1), .val (.bool (opS 13 a b).2)]) f62_ok fun s hs hh hd => ?_) h
  have h0 := hs 0 _ rfl
  have h1 := hs 1 _ rfl
  have h2 := hs 2 _ rfl
  have be : ∀ x y : Bool, binA E1.P .eql 4 false (.val (.bool x)) (.val (.bool y)) = some (.val (.bool (x == y))) := fun x y => by cases x <;> cases y <;> kernel_rfl
  cases a0 : decide (a = 0) <;> cases b0 : decide (b = 0) <;> simp -implicitDefEqProofs only [f62_fn, f62, W0, W1, W2, W3, W4, W5, W6, W7, W8, St.put, Option.bind_some, Option.map_some, ↓reduceIte, Nat.reduceEqDiff, Nat.reduceAdd, Nat.reduceMul, reduceCtorEq, cond_true, cond_false, Int.reduceEq, Int.reduceLT, Int.reduceLE, if_true, if_false, h0, h1, h2, hh, hd, ar_to99, ar_to60, ar_to100, ar_to104, ar_to105, ar_to106, tr_to61, tr_to107, opS, prA, be, a0, b0]
theorem op_call62_15 (a b : Int) (h : AH) : RunCall E1 (.f 62) [.val (.int .i64 15), .val (.int .i64 a), .val (.int .i64 b)] h (prA (opS 15 a b)) h := by
  refine call_tree (by kernel_rfl) (by kernel_rfl) (mem3 (Tree.val _) (Tree.val _) (Tree.val _)) rfl (Tree.two _ _) (ans2s (rs := [.val (.int .i64 (opS 15 a b).1), .val (.bool (opS 15 a b).2)]) f62_ok fun s hs hh hd => ?_) h
  have h0 := hs 0 _ rfl
  have h1 := hs 1 _ rfl
  have h2 := hs 2 _ rfl
  have be : ∀ x y : Bool, binA E1.P .eql 4 false (.val (.bool x)) (.val (.bool y)) = some (.val (.bool (x == y))) := fun x y => by cases x <;> cases y <;> kernel_rfl
  cases a0 : decide (a = 0) <;> cases b0 : decide (b = 0) <;> simp -implicitDefEqProofs only [f62_fn, f62, W0, W1, W2, W3, W4, W5, W6, W7, W8, St.put, Option.bind_some, Option.map_some, ↓reduceIte, Nat.reduceEqDiff, Nat.reduceAdd, Nat.reduceMul, reduceCtorEq, cond_true, cond_false, Int.reduceEq, Int.reduceLT, Int.reduceLE, if_true, if_false, h0, h1, h2, hh, hd, ar_to99, ar_to60, ar_to100, ar_to104, ar_to105, ar_to106, tr_to61, tr_to107, opS, prA, be, a0, b0]
theorem op_call62_16 (a b : Int) (h : AH) : RunCall E1 (.f 62) [.val (.int .i64 16), .val (.int .i64 a), .val (.int .i64 b)] h (prA (opS 16 a b)) h := by
  refine call_tree (by kernel_rfl) (by kernel_rfl) (mem3 (Tree.val _) (Tree.val _) (Tree.val _)) rfl (Tree.two _ _) (ans2s (rs := [.val (.int .i64 (opS 16 a b).1), .val (.bool (opS 16 a b).2)]) f62_ok fun s hs hh hd => ?_) h
  have h0 := hs 0 _ rfl
  have h1 := hs 1 _ rfl
  have h2 := hs 2 _ rfl
  have be : ∀ x y : Bool, binA E1.P .eql 4 false (.val (.bool x)) (.val (.bool y)) = some (.val (.bool (x == y))) := fun x y => by cases x <;> cases y <;> kernel_rfl
  cases a0 : decide (a = 0) <;> cases b0 : decide (b = 0) <;> simp -implicitDefEqProofs only [f62_fn, f62, W0, W1, W2, W3, W4, W5, W6, W7, W8, St.put, Option.bind_some, Option.map_some, ↓reduceIte, Nat.reduceEqDiff, Nat.reduceAdd, Nat.reduceMul, reduceCtorEq, cond_true, cond_false, Int.reduceEq, Int.reduceLT, Int.reduceLE, if_true, if_false, h0, h1, h2, hh, hd, ar_to99, ar_to60, ar_to100, ar_to104, ar_to105, ar_to106, tr_to61, tr_to107, opS, prA, be, a0, b0]
theorem op_call62_17 (a b : Int) (h : AH) : RunCall E1 (.f 62) [.val (.int .i64 17), .val (.int .i64 a), .val (.int .i64 b)] h (prA (opS 17 a b)) h := by
  refine call_tree (by kernel_rfl) (by kernel_rfl) (mem3 (Tree.val _) (Tree.val _) (Tree.val _)) rfl (Tree.two _ _) (ans2s (rs := [.val (.int .i64 (opS 17 a b).1), .val (.bool (opS 17 a b).2)]) f62_ok fun s hs hh hd => ?_) h
  have h0 := hs 0 _ rfl
  have h1 := hs 1 _ rfl
  have h2 := hs 2 _ rfl
  have be : ∀ x y : Bool, binA E1.P .eql 4 false (.val (.bool x)) (.val (.bool y)) = some (.val (.bool (x == y))) := fun x y => by cases x <;> cases y <;> kernel_rfl
  cases a0 : decide (a = 0) <;> cases b0 : decide (b = 0) <;> simp -implicitDefEqProofs only [f62_fn, f62, W0, W1, W2, W3, W4, W5, W6, W7, W8, St.put, Option.bind_some, Option.map_some, ↓reduceIte, Nat.reduceEqDiff, Nat.reduceAdd, Nat.reduceMul, reduceCtorEq, cond_true, cond_false, Int.reduceEq, Int.reduceLT, Int.reduceLE, if_true, if_false, h0, h1, h2, hh, hd, ar_to99, ar_to60, ar_to100, ar_to104, ar_to105, ar_to106, tr_to61, tr_to107, opS, prA, be, a0, b0]
theorem op_call62_18 (a b : Int) (h : AH) : RunCall E1 (.f 62) [.val (.int .i64 18), .val (.int .i64 a), .val (.int .i64 b)] h (prA (opS 18 a b)) h := by
  refine call_tree (by kernel_rfl) (by kernel_rfl) (mem3 (Tree.val _) (Tree.val _) (Tree.val _)) rfl (Tree.two _ _) (ans2s (rs := [.val (.int .i64 (opS 18 a b).1), .val (.bool (opS 18 a b).2)]) f62_ok fun s hs hh hd => ?_) h
  have h0 := hs 0 _ rfl
  have h1 := hs 1 _ rfl
  have h2 := hs 2 _ rfl
  have be : ∀ x y : Bool, binA E1.P .eql 4 false (.val (.bool x)) (.val (.bool y)) = some (.val (.bool (x == y))) := fun x y => by cases x <;> cases y <;> kernel_rfl
  cases a0 : decide (a = 0) <;> cases b0 : decide (b = 0) <;> simp -implicitDefEqProofs only [f62_fn, f62, W0, W1, W2, W3, W4, W5, W6, W7, W8, St.put, Option.bind_some, Option.map_some, ↓reduceIte, Nat.reduceEqDiff, Nat.reduceAdd, Nat.reduceMul, reduceCtorEq, cond_true, cond_false, Int.reduceEq, Int.reduceLT, Int.reduceLE, if_true, if_false, h0, h1, h2, hh, hd, ar_to99, ar_to60, ar_to100, ar_to104, ar_to105, ar_to106, tr_to61, tr_to107, opS, prA, be, a0, b0]
theorem op_call68_6 (a b : Int) (h : AH) : RunCall E1 (.f 68) [.val (.int .i64 6), .val (.int .i64 a), .val (.int .i64 b)] h (prA (opS 6 a b)) h := by
  refine call_tree (by kernel_rfl) (by kernel_rfl) (mem3 (Tree.val _) (Tree.val _) (Tree.val _)) rfl (Tree.two _ _) (ans2s (rs := [.val (.int .i64 (opS 6 a b).1), .val (.bool (opS 6 a b).2)]) f68_ok fun s hs hh hd => ?_) h
  have h0 := hs 0 _ rfl
  have h1 := hs 1 _ rfl
  have h2 := hs 2 _ rfl
  have be : ∀ x y : Bool, binA E1.P .eql 4 false (.val (.bool x)) (.val (.bool y)) = some (.val (.bool (x == y))) := fun x y => by cases x <;> cases y <;> kernel_rfl
  cases a0 : decide (a = 0) <;> cases b0 : decide (b = 0) <;> simp -implicitDefEqProofs only [f68_fn, f68, W0, W1, W2, W3, W4, W5, W6, W7, W8, St.put, Option.bind_some, Option.map_some, ↓reduceIte, Nat.reduceEqDiff, Nat.reduceAdd, Nat.reduceMul, reduceCtorEq, cond_true, cond_false, Int.reduceEq, Int.reduceLT, Int.reduceLE, if_true, if_false, h0, h1, h2, hh, hd, ar_to99, ar_to60, ar_to100, ar_to104, ar_to105, ar_to106, tr_to61, tr_to107, opS, prA, be, a0, b0]
theorem op_call68_7 (a b : Int) (h : AH) : RunCall E1 (.f 68) [.val (.int .i64 7), .val (.int .i64 a), .val (.int .i64 b)] h (prA (opS 7 a b)) h := by
  refine call_tree (by kernel_rfl) (by kernel_rfl) (mem3 (Tree.val _) (Tree.val _) (Tree.val _)) rfl (Tree.two _ _) (ans2s (rs := [.val (.int .i64 (opS 7 a b).1), .val (.bool (opS 7 a b).2)]) f68_ok fun s hs hh hd => ?_) h
  have h0 := hs 0 _ rfl
  have h1 := hs 1 _ rfl
  have h2 := hs 2 _ rfl
  have be : ∀ x y : Bool, binA E1.P .eql 4 false (.val (.bool x)) (.val (.bool y)) = some (.val (.bool (x == y))) := fun x y => by cases x <;> cases y <;> kernel_rfl
  cases a0 : decide (a = 0) <;> cases b0 : decide (b = 0) <;> simp -implicitDefEqProofs only [f68_fn, f68, W0, W1, W2, W3, W4, W5, W6, W7, W8, St.put, Option.bind_some, Option.map_some, ↓reduceIte, Nat.reduceEqDiff, Nat.reduceAdd, Nat.reduceMul, reduceCtorEq, cond_true, cond_false, Int.reduceEq, Int.reduceLT, Int.reduceLE, if_true, if_false, h0, h1, h2, hh, hd, ar_to99, ar_to60, ar_to100, ar_to104, ar_to105, ar_to106, tr_to61, tr_to107, opS, prA, be, a0, b0]
theorem op_call68_8 (a b : Int) (h : AH) : RunCall E1 (.f 68) [.val (.int .i64 8), .val (.int .i64 a), .val (.int .i64 b)] h (prA (opS 8 a b)) h := by
  refine call_tree (by kernel_rfl) (by kernel_rfl) (mem3 (Tree.val _) (Tree.val _) (Tree.val _)) rfl (Tree.two _ _) (ans2s (rs := [.val (.int .i64 (opS 8 a b).1), .val (.bool (opS 8 a b).2)]) f68_ok fun s hs hh hd => ?_) h
  have h0 := hs 0 _ rfl
  have h1 := hs 1 _ rfl
  have h2 := hs 2 _ rfl
  have be : ∀ x y : Bool, binA E1.P .eql 4 false (.val (.bool x)) (.val (.bool y)) = some (.val (.bool (x == y))) := fun x y => by cases x <;> cases y <;> kernel_rfl
  cases a0 : decide (a = 0) <;> cases b0 : decide (b = 0) <;> simp -implicitDefEqProofs only [f68_fn, f68, W0, W1, W2, W3, W4, W5, W6, W7, W8, St.put, Option.bind_some, Option.map_some, ↓reduceIte, Nat.reduceEqDiff, Nat.reduceAdd, Nat.reduceMul, reduceCtorEq, cond_true, cond_false, Int.reduceEq, Int.reduceLT, Int.reduceLE, if_true, if_false, h0, h1, h2, hh, hd, ar_to99, ar_to60, ar_to100, ar_to104, ar_to105, ar_to106, tr_to61, tr_to107, opS, prA, be, a0, b0]
theorem op_call68_9 (a b : Int) (h : AH) : RunCall E1 (.f 68) [.val (.int .i64 9), .val (.int .i64 a), .val (.int .i64 b)] h (prA (opS 9 a b)) h := by
  refine call_tree (by kernel_rfl) (by kernel_rfl) (mem3 (Tree.val _) (Tree.val _) (Tree.val _)) rfl (Tree.two _ _) (ans2s (rs := [.val (.int .i64 (opS 9 a b).1), .val (.bool (opS 9 a b).2)]) f68_ok fun s hs hh hd => ?_) h
  have h0 := hs 0 _ rfl
  have h1 := hs 1 _ rfl
  have h2 := hs 2 _ rfl
  have be : ∀ x y : Bool, binA E1.P .eql 4 false (.val (.bool x)) (.val (.bool y)) = some (.val (.bool (x == y))) := fun x y => by cases x <;> cases y <;> kernel_rfl
  cases a0 : decide (a = 0) <;> cases b0 : decide (b = 0) <;> simp -implicitDefEqProofs only [f68_fn, f68, W0, W1, W2, W3, W4, W5, W6, W7, W8, St.put, Option.bind_some, Option.map_some, ↓reduceIte, Nat.reduceEqDiff, Nat.reduceAdd, Nat.reduceMul, reduceCtorEq, cond_true, cond_false, Int.reduceEq, Int.reduceLT, Int.reduceLE, if_true, if_false, h0, h1, h2, hh, hd, ar_to99, ar_to60, ar_to100, ar_to104, ar_to105, ar_to106, tr_to61, tr_to107, opS, prA, be, a0, b0]
theorem op_call68_10 (a b : Int) (h : AH) : RunCall E1 (.f 68) [.val (.int .i64 10), .val (.int .i64 a), .val (.int .i64 b)] h (prA (opS 10 a b)) h := by
  refine call_tree (by kernel_rfl) (by kernel_rfl) (mem3 (Tree.val _) (Tree.val _) (Tree.val _)) rfl (Tree.two _ _) (ans2s (rs := [.val (.int .i64 (opS 10 a b).1), .val (.bool (opS 10 a b).2)]) f68_ok fun s hs hh hd => ?_) h
  have h0 := hs 0 _ rfl
  have h1 := hs 1 _ rfl
  have h2 := hs 2 _ rfl
  have be : ∀ x y : Bool, binA E1.P .eql 4 false (.val (.bool x)) (.val (.bool y)) = some (.val (.bool (x == y))) := fun x y => by cases x <;> cases y <;> kernel_rfl
  cases a0 : decide (a = 0) <;> cases b0 : decide (b = 0) <;> simp -implicitDefEqProofs only [f68_fn, f68, W0, W1, W2, W3, W4, W5, W6, W7, W8, St.put, Option.bind_some, Option.map_some, ↓reduceIte, Nat.reduceEqDiff, Nat.reduceAdd, Nat.reduceMul, reduceCtorEq, cond_true, cond_false, Int.reduceEq, Int.reduceLT, Int.reduceLE, if_true, if_false, h0, h1, h2, hh, hd, ar_to99, ar_to60, ar_to100, ar_to104, ar_to105, ar_to106, tr_to61, tr_to107, opS, prA, be, a0, b0]
theorem op_call68_11 (a b : Int) (h : AH) : RunCall E1 (.f 68) [.val (.int .i64 11), .val (.int .i64 a), .val (.int .i64 b)] h (prA (opS 11 a b)) h := by
  refine call_tree (by kernel_rfl) (by kernel_rfl) (mem3 (Tree.val _) (Tree.val _) (Tree.val _)) rfl (Tree.two _ _) (ans2s (rs := [.val (.int .i64 (opS 11 a b).1), .val (.bool (opS 11 a b).2)]) f68_ok fun s hs hh hd => ?_) h
  have h0 := hs 0 _ rfl
  have h1 := hs 1 _ rfl
  have h2 := hs 2 _ rfl
  have be : ∀ x y : Bool, binA E1.P .eql 4 false (.val (.bool x)) (.val (.bool y)) = some (.val (.bool (x == y))) := fun x y => by cases x <;> cases y <;> kernel_rfl
  cases a0 : decide (a = 0) <;> cases b0 : decide (b = 0) <;> simp -implicitDefEqProofs only [f68_fn, f68, W0, W1, W2, W3, W4, W5, W6, W7, W8, St.put, Option.bind_some, Option.map_some, ↓reduceIte, Nat.reduceEqDiff, Nat.reduceAdd, Nat.reduceMul, reduceCtorEq, cond_true, cond_false, Int.reduceEq, Int.reduceLT, Int.reduceLE, if_true, if_false, h0, h1, h2, hh, hd, ar_to99, ar_to60, ar_to100, ar_to104, ar_to105, ar_to106, tr_to61, tr_to107, opS, prA, be, a0, b0]
theorem op_call68_12 (a b : Int) (h : AH) : RunCall E1 (.f 68) [.val (.int .i64 12), .val (.int .i64 a), .val (.int .i64 b)] h (prA (opS 12 a b)) h := by
  refine call_tree (by kernel_rfl) (by kernel_rfl) (mem3 (Tree.val _) (Tree.val _) (Tree.val _)) rfl (Tree.two _ _) (ans2s (rs := [.val (.int .i64 (opS 12 a b).1), .val (.bool (opS 12 a b).2)]) f68_ok fun s hs hh hd => ?_) h
  have h0 := hs 0 _ rfl
  have h1 := hs 1 _ rfl
  have h2 := hs 2 _ rfl
  have be : ∀ x y : Bool, binA E1.P .eql 4 false (.val (.bool x)) (.val (.bool y)) = some (.val (.bool (x == y))) := fun x y => by cases x <;> cases y <;> kernel_rfl
  cases a0 : decide (a = 0) <;> cases b0 : decide (b = 0) <;> simp -implicitDefEqProofs only [f68_fn, f68, W0, W1, W2, W3, W4, W5, W6, W7, W8, St.put, Option.bind_some, Option.map_some, ↓reduceIte, Nat.reduceEqDiff, Nat.reduceAdd, Nat.reduceMul, reduceCtorEq, cond_true, cond_false, Int.reduceEq, Int.reduceLT, Int.reduceLE, if_true, if_false, h0, h1, h2, hh, hd, ar_to99, ar_to60, ar_to100, ar_to104, ar_to105, ar_to106, tr_to61, tr_to107, opS, prA, be, a0, b0]
theorem op_call68_13 (a b : Int) (h : AH) : RunCall E1 (.f 68) [.val (.int .i64 13), .val (.int .i64 a), .val (.int .i64 b)] h (prA (opS 13 a b)) h := by
  refine call_tree (by kernel_rfl) (by kernel_rfl) (mem3 (Tree.val _) (Tree.val _) (Tree.val _)) rfl (Tree.two _ _) (ans2s (rs := [.val (.int .i64 (opS 13 a b).1), .val (.bool (opS 13 a b).2)]) f68_ok fun s hs hh hd => ?_) h
  have h0 := hs 0 _ rfl
  have h1 := hs 1 _ rfl
  have h2 := hs 2 _ rfl
  have be : ∀ x y : Bool, binA E1.P .eql 4 false (.val (.bool x)) (.val (.bool y)) = some (.val (.bool (x == y))) := fun x y => by cases x <;> cases y <;> kernel_rfl
  cases a0 : decide (a = 0) <;> cases b0 : decide (b = 0) <;> simp -implicitDefEqProofs only [f68_fn, f68, W0, W1, W2, W3, W4, W5, W6, W7, W8, St.put, Option.bind_some, Option.map_some, ↓reduceIte, Nat.reduceEqDiff, Nat.reduceAdd, Nat.reduceMul, reduceCtorEq, cond_true, cond_false, Int.reduceEq, Int.reduceLT, Int.reduceLE, if_true, if_false, h0, h1, h2, hh, hd, ar_to99, ar_to60, ar_to100, ar_to104, ar_to105, ar_to106, tr_to61, tr_to107, opS, prA, be, a0, b0]
theorem op_call68_14 (a b : Int) (h : AH) : RunCall E1 (.f 68) [.val (.int .i64 14), .val (.int .i64 a), .val (.int .i64 b)] h (prA (opS 14 a b)) h := by
  refine call_tree (by kernel_rfl) (by kernel_rfl) (mem3 (Tree.val _) (Tree.val _) (Tree.val _)) rfl (Tree.two _ _) (ans2s (rs := [.val (.int .i64 (opS 14 a b).1), .val (.bool (opS 14 a b).2)]) f68_ok fun s hs hh hd => ?_) h
  have h0 := hs 0 _ rfl
  have h1 := hs 1 _ rfl
  have h2 := hs 2 _ rfl
  have be : ∀ x y : Bool, binA E1.P .eql 4 false (.val (.bool x)) (.val (.bool y)) = some (.val (.bool (x == y))) := fun x y => by cases x <;> cases y <;> kernel_rfl
  cases a0 : decide (a = 0) <;> cases b0 : decide (b = 0) <;> simp -implicitDefEqProofs only [f68_fn, f68, W0, W1, W2, W3, W4, W5, W6, W7, W8, St.put, Option.bind_some, Option.map_some, ↓reduceIte, Nat.reduceEqDiff, Nat.reduceAdd, Nat.reduceMul, reduceCtorEq, cond_true, cond_false, Int.reduceEq, Int.reduceLT, Int.reduceLE, if_true, if_false, h0, h1, h2, hh, hd, ar_to99, ar_to60, ar_to100, ar_to104, ar_to105, ar_to106, tr_to61, tr_to107, opS, prA, be, a0, b0]
theorem op_call68_15 (a b : Int) (h : AH) : RunCall E1 (.f 68) [.val (.int .i64 15), .val (.int .i64 a), .val (.int .i64 b)] h (prA (opS 15 a b)) h := by
  refine call_tree (by kernel_rfl) (by kernel_rfl) (mem3 (Tree.val _) (Tree.val _) (Tree.val _)) rfl (Tree.two _ _) (ans2s (rs := [.val (.int .i64 (opS 15 a b).1), .val (.bool (opS 15 a b).2)]) f68_ok fun s hs hh hd => ?_) h
  have h0 := hs 0 _ rfl
  have h1 := hs 1 _ rfl
  have h2 := hs 2 _ rfl
  have be : ∀ x y : Bool, binA E1.P .eql 4 false (.val (.bool x)) (.val (.bool y)) = some (.val (.bool (x == y))) := fun x y => by cases x <;> cases y <;> kernel_rfl
  cases a0 : decide (a = 0) <;> cases b0 : decide (b = 0) <;> simp -implicitDefEqProofs only [f68_fn, f68, W0, W1, W2, W3, W4, W5, W6, W7, W8, St.put, Option.bind_some, Option.map_some, ↓reduceIte, Nat.reduceEqDiff, Nat.reduceAdd, Nat.reduceMul, reduceCtorEq, cond_true, cond_false, Int.reduceEq, Int.reduceLT, Int.reduceLE, if_true, if_false, h0, h1, h2, hh, hd, ar_to99, ar_to60, ar_to100, ar_to104, ar_to105, ar_to106, tr_to61, tr_to107, opS, prA, be, a0, b0]
theorem op_call68_16 (a b : Int) (h : AH) : RunCall E1 (.f 68) [.val (.int .i64 16), .val (.int .i64 a), .val (.int .i64 b)] h (prA (opS 16 a b)) h := by
  refine call_tree (by kernel_rfl) (by kernel_rfl) (mem3 (Tree.val _) (Tree.val _) (Tree.val _)) rfl (Tree.two _ _) (ans2s (rs := [.val (.int .i64 (opS 16 a b).1), .val (.bool (opS 16 a b).2)]) f68_ok fun s hs hh hd => ?_) h
  have h0 := hs 0 _ rfl
  have h1 := hs 1 _ rfl
  have h2 := hs 2 _ rfl
  have be : ∀ x y : Bool, binA E1.P .eql 4 false (.val (.bool x)) (.val (.bool y)) = some (.val (.bool (x == y))) := fun x y => by cases x <;> cases y <;> kernel_rfl
  cases a0 : decide (a = 0) <;> cases b0 : decide (b = 0) <;> simp -implicitDefEqProofs only [f68_fn, f68, W0, W1, W2, W3, W4, W5, W6, W7, W8, St.put, Option.bind_some, Option.map_some, ↓reduceIte, Nat.reduceEqDiff, Nat.reduceAdd, Nat.reduceMul, reduceCtorEq, cond_true, cond_false, Int.reduceEq, Int.reduceLT, Int.reduceLE, if_true, if_false, h0, h1, h2, hh, hd, ar_to99, ar_to60, ar_to100, ar_to104, ar_to105, ar_to106, tr_to61, tr_to107, opS, prA, be, a0, b0]
theorem op_call68_17 (a b : Int) (h : AH) : RunCall E1 (.f 68) [.val (.int .i64 17), .val (.int .i64 a), .val (.int .i64 b)] h (prA (opS 17 a b)) h := by
  refine call_tree (by kernel_rfl) (by kernel_rfl) (mem3 (Tree.val _) (Tree.val _) (Tree.val _)) rfl (Tree.two _ _) (ans2s (rs := [.val (.int .i64 (opS 17 a b).1), .val (.bool (opS 17 a b).2)]) f68_ok fun s hs hh hd => ?_) h
  have h0 := hs 0 _ rfl
  have h1 := hs 1 _ rfl
  have h2 := hs 2 _ rfl
  have be : ∀ x y : Bool, binA E1.P .eql 4 false (.val (.bool x)) (.val (.bool y)) = some (.val (.bool (x == y))) := fun x y => by cases x <;> cases y <;> kernel_rfl
  cases a0 : decide (a = 0) <;> cases b0 : decide (b = 0) <;> simp -implicitDefEqProofs only [f68_fn, f68, W0, W1, W2, W3, W4, W5, W6, W7, W8, St.put, Option.bind_some, Option.map_some, ↓reduceIte, Nat.reduceEqDiff, Nat.reduceAdd, Nat.reduceMul, reduceCtorEq, cond_true, cond_false, Int.reduceEq, Int.reduceLT, Int.reduceLE, if_true, if_false, h0, h1, h2, hh, hd, ar_to99, ar_to60, ar_to100, ar_to104, ar_to105, ar_to106, tr_to61, tr_to107, opS, prA, be, a0, b0]
theorem op_call68_18 (a b : Int) (h : AH) : RunCall E1 (.f 68) [.val (.int .i64 18), .val (.int .i64 a), .val (.int .i64 b)] h (prA (opS 18 a b)) h := by
  refine call_tree (by kernel_rfl) (by kernel_rfl) (mem3 (Tree.val _) (Tree.val _) (Tree.val _)) rfl (Tree.two _ _) (ans2s (rs := [.val (.int .i64 (opS 18 a b).1), .val (.bool (opS 18 a b).2)]) f68_ok fun s hs hh hd => ?_) h
  have h0 := hs 0 _ rfl
  have h1 := hs 1 _ rfl
  have h2 := hs 2 _ rfl
  have be : ∀ x y : Bool, binA E1.P .eql 4 false (.val (.bool x)) (.val (.bool y)) = some (.val (.bool (x == y))) := fun x y => by cases x <;> cases y <;> kernel_rfl
  cases a0 : decide (a = 0) <;> cases b0 : decide (b = 0) <;> simp -implicitDefEqProofs only [f68_fn, f68, W0, W1, W2, W3, W4, W5, W6, W7, W8, St.put, Option.bind_some, Option.map_some, ↓reduceIte, Nat.reduceEqDiff, Nat.reduceAdd, Nat.reduceMul, reduceCtorEq, cond_true, cond_false, Int.reduceEq, Int.reduceLT, Int.reduceLE, if_true, if_false, h0, h1, h2, hh, hd, ar_to99, ar_to60, ar_to100, ar_to104, ar_to105, ar_to106, tr_to61, tr_to107, opS, prA, be, a0, b0]

end Go.Proofs.YtbolilekjpoicaaGreatDoor

namespace Go.Proofs.YtbolilekjpoicaaGreatDoor
open Go Go.AM
set_option linter.all false
set_option maxHeartbeats 4000000

theorem kids_call94_1 (h : AH) : RunCall E1 (.f 94) [.val (.int .i64 1)] h (.tup [.val (.int .i64 0), .val (.int .i64 0)]) h := by
  refine call_tree (by kernel_rfl) (by kernel_rfl) (mem1 (Tree.val _)) rfl (Tree.two _ _) (ans2s (rs := [.val (.int .i64 0), .val (.int .i64 0)]) f94_ok fun s hs hh hd => ?_) h
  have h0 := hs 0 _ rfl
  simp -implicitDefEqProofs only [f94_fn, f94, W0, W1, W2, W3, W4, W5, W6, W7, W8, St.put, Option.bind_some, Option.map_some, ↓reduceIte, Nat.reduceEqDiff, Nat.reduceAdd, Nat.reduceMul, reduceCtorEq, cond_true, cond_false, Int.reduceEq, Int.reduceLT, Int.reduceLE, if_true, if_false, h0, hh, hd]
theorem kids_to94_1 {r : List AOper} {s : St} {dst : Option Nat} {K : St → Prop} : callK E1 94 r s dst K (some [.val (.int .i64 1)]) = AM.wpOps E1 r (s.put dst (.tup [.val (.int .i64 0), .val (.int .i64 0)])) K := callK_all kids_call94_1
theorem kids_call151_1 (n : Int) (h : AH) : RunCall E1 (.f 151) [.val (.int .i64 1), .val (.int .i64 n)] h (.val (.bool (decide (n = 0)))) h := by
  refine call_tree (by kernel_rfl) (by kernel_rfl) (mem2 (Tree.val _) (Tree.val _)) rfl (Tree.val _) (ans1s f151_ok fun s hs hh hd => ?_) h
  have h0 := hs 0 _ rfl
  have h1 := hs 1 _ rfl
  cases a : decide (1 ≤ n) <;> simp -implicitDefEqProofs only [f151_fn, f151, W0, W1, W2, W3, W4, W5, W6, W7, W8, St.put, Option.bind_some, Option.map_some, ↓reduceIte, Nat.reduceEqDiff, Nat.reduceAdd, Nat.reduceMul, reduceCtorEq, cond_true, cond_false, Int.reduceEq, Int.reduceLT, Int.reduceLE, if_true, if_false, h0, h1, hh, hd, a]
theorem kids_to151_1 {n : Int} {r : List AOper} {s : St} {dst : Option Nat} {K : St → Prop} : callK E1 151 r s dst K (some [.val (.int .i64 1), .val (.int .i64 n)]) = AM.wpOps E1 r (s.put dst (.val (.bool (decide (n = 0))))) K := callK_all (kids_call151_1 n)
theorem named_call95_1 (h : AH) : RunCall E1 (.f 95) [.val (.int .i64 1)] h (.val (.bool false)) h := by
  refine call_tree (by kernel_rfl) (by kernel_rfl) (mem1 (Tree.val _)) rfl (Tree.val _) (ans1s f95_ok fun s hs hh hd => ?_) h
  have h0 := hs 0 _ rfl
  simp -implicitDefEqProofs only [f95_fn, f95, W0, W1, W2, W3, W4, W5, W6, W7, W8, St.put, Option.bind_some, Option.map_some, ↓reduceIte, Nat.reduceEqDiff, Nat.reduceAdd, Nat.reduceMul, reduceCtorEq, cond_true, cond_false, Int.reduceEq, Int.reduceLT, Int.reduceLE, if_true, if_false, h0, hh, hd]
theorem named_to95_1 {r : List AOper} {s : St} {dst : Option Nat} {K : St → Prop} : callK E1 95 r s dst K (some [.val (.int .i64 1)]) = AM.wpOps E1 r (s.put dst (.val (.bool false))) K := callK_all named_call95_1
theorem named_call150_1 (h : AH) : RunCall E1 (.f 150) [.val (.int .i64 1)] h (.val (.bool false)) h := by
  refine call_tree (by kernel_rfl) (by kernel_rfl) (mem1 (Tree.val _)) rfl (Tree.val _) (ans1s f150_ok fun s hs hh hd => ?_) h
  have h0 := hs 0 _ rfl
  simp -implicitDefEqProofs only [f150_fn, f150, W0, W1, W2, W3, W4, W5, W6, W7, W8, St.put, Option.bind_some, Option.map_some, ↓reduceIte, Nat.reduceEqDiff, Nat.reduceAdd, Nat.reduceMul, reduceCtorEq, cond_true, cond_false, Int.reduceEq, Int.reduceLT, Int.reduceLE, if_true, if_false, h0, hh, hd]
theorem named_to150_1 {r : List AOper} {s : St} {dst : Option Nat} {K : St → Prop} : callK E1 150 r s dst K (some [.val (.int .i64 1)]) = AM.wpOps E1 r (s.put dst (.val (.bool false))) K := callK_all named_call150_1
theorem kids_call94_2 (h : AH) : RunCall E1 (.f 94) [.val (.int .i64 2)] h (.tup [.val (.int .i64 0), .val (.int .i64 0)]) h := by
  refine call_tree (by kernel_rfl) (by kernel_rfl) (mem1 (Tree.val _)) rfl (Tree.two _ _) (ans2s (rs := [.val (.int .i64 0), .val (.int .i64 0)]) f94_ok fun s hs hh hd => ?_) h
  have h0 := hs 0 _ rfl
  simp -implicitDefEqProofs only [f94_fn, f94, W0, W1, W2, W3, W4, W5, W6, W7, W8, St.put, Option.bind_some, Option.map_some, ↓reduceIte, Nat.reduceEqDiff, Nat.reduceAdd, Nat.reduceMul, reduceCtorEq, cond_true, cond_false, Int.reduceEq, Int.reduceLT, Int.reduceLE, if_true, if_false, h0, hh, hd]
theorem kids_to94_2 {r : List AOper} {s : St} {dst : Option Nat} {K : St → Prop} : callK E1 94 r s dst K (some [.val (.int .i64 2)]) = AM.wpOps E1 r (s.put dst (.tup [.val (.int .i64 0), .val (.int .i64 0)])) K := callK_all kids_call94_2
theorem kids_call151_2 (n : Int) (h : AH) : RunCall E1 (.f 151) [.val (.int .i64 2), .val (.int .i64 n)] h (.val (.bool (decide (n = 0)))) h := by
  refine call_tree (by kernel_rfl) (by kernel_rfl) (mem2 (Tree.val _) (Tree.val _)) rfl (Tree.val _) (ans1s f151_ok fun s hs hh hd => ?_) h
  have h0 := hs 0 _ rfl
  have h1 := hs 1 _ rfl
  cases a : decide (1 ≤ n) <;> simp -implicitDefEqProofs only [f151_fn, f151, W0, W1, W2, W3, W4, W5, W6, W7, W8, St.put, Option.bind_some, Option.map_some, ↓reduceIte, Nat.reduceEqDiff, Nat.reduceAdd, Nat.reduceMul, reduceCtorEq, cond_true, cond_false, Int.reduceEq, Int.reduceLT, Int.reduceLE, if_true, if_false, h0, h1, hh, hd, a]
theorem kids_to151_2 {n : Int} {r : List AOper} {s : St} {dst : Option Nat} {K : St → Prop} : callK E1 151 r s dst K (some [.val (.int .i64 2), .val (.int .i64 n)]) = AM.wpOps E1 r (s.put dst (.val (.bool (decide (n = 0))))) K := callK_all (kids_call151_2 n)
theorem named_call95_2 (h : AH) : RunCall E1 (.f 95) [.val (.int .i64 2)] h (.val (.bool false)) h := by
  refine call_tree (by kernel_rfl) (by kernel_rfl) (mem1 (Tree.val _)) rfl (Tree.val _) (ans1s f95_ok fun s hs hh hd => ?_) h
  have h0 := hs 0 _ rfl
  simp -implicitDefEqProofs only [f95_fn, f95, W0, W1, W2, W3, W4, W5, W6, W7, W8, St.put, Option.bind_some, Option.map_some, ↓reduceIte, Nat.reduceEqDiff, Nat.reduceAdd, Nat.reduceMul, reduceCtorEq, cond_true, cond_false, Int.reduceEq, Int.reduceLT, Int.reduceLE, if_true, if_false, h0, hh, hd]
theorem named_to95_2 {r : List AOper} {s : St} {dst : Option Nat} {K : St → Prop} : callK E1 95 r s dst K (some [.val (.int .i64 2)]) = AM.wpOps E1 r (s.put dst (.val (.bool false))) K := callK_all named_call95_2
theorem named_call150_2 (h : AH) : RunCall E1 (.f 150) [.val (.int .i64 2)] h (.val (.bool false)) h := by
  refine call_tree (by kernel_rfl) (by kernel_rfl) (mem1 (Tree.val _)) rfl (Tree.val _) (ans1s f150_ok fun s hs hh hd => ?_) h
  have h0 := hs 0 _ rfl
  simp -implicitDefEqProofs only [f150_fn, f150, W0, W1, W2, W3, W4, W5, W6, W7, W8, St.put, Option.bind_some, Option.map_some, ↓reduceIte, Nat.reduceEqDiff, Nat.reduceAdd, Nat.reduceMul, reduceCtorEq, cond_true, cond_false, Int.reduceEq, Int.reduceLT, Int.reduceLE, if_true, if_false, h0, hh, hd]
theorem named_to150_2 {r : List AOper} {s : St} {dst : Option Nat} {K : St → Prop} : callK E1 150 r s dst K (some [.val (.int .i64 2)]) = AM.wpOps E1 r (s.put dst (.val (.bool false))) K := callK_all named_call150_2
theorem kids_call94_3 (h : AH) : RunCall E1 (.f 94) [.val (.int .i64 3)] h (.tup [.val (.int .i64 0), .val (.int .i64 0)]) h := by
  refine call_tree (by kernel_rfl) (by kernel_rfl) (mem1 (Tree.val _)) rfl (Tree.two _ _) (ans2s (rs := [.val (.int .i64 0), .val (.int .i64 0)]) f94_ok fun s hs hh hd => ?_) h
  have h0 := hs 0 _ rfl
  simp -implicitDefEqProofs only [f94_fn, f94, W0, W1, W2, W3, W4, W5, W6, W7, W8, St.put, Option.bind_some, Option.map_some, ↓reduceIte, Nat.reduceEqDiff, Nat.reduceAdd, Nat.reduceMul, reduceCtorEq, cond_true, cond_false, Int.reduceEq, Int.reduceLT, Int.reduceLE, if_true, if_false, h0, hh, hd]
theorem kids_to94_3 {r : List AOper} {s : St} {dst : Option Nat} {K : St → Prop} : callK E1 94 r s dst K (some [.val (.int .i64 3)]) = AM.wpOps E1 r (s.put dst (.tup [.val (.int .i64 0), .val (.int .i64 0)])) K := callK_all kids_call94_3
theorem kids_call151_3 (n : Int) (h : AH) : RunCall E1 (.f 151) [.val (.int .i64 3), .val (.int .i64 n)] h (.val (.bool (decide (n = 0)))) h := by
  refine call_tree (by kernel_rfl) (by kernel_rfl) (mem2 (Tree.val _) (Tree.val _)) rfl (Tree.val _) (ans1s f151_ok fun s hs hh hd => ?_) h
  have h0 := hs 0 _ rfl
  have h1 := hs 1 _ rfl
  cases a : decide (1 ≤ n) <;> simp -implicitDefEqProofs only [f151_fn, f151, W0, W1, W2, W3, W4, W5, W6, W7, W8, St.put, Option.bind_some, Option.map_some, ↓reduceIte, Nat.reduceEqDiff, Nat.reduceAdd, Nat.reduceMul, reduceCtorEq, cond_true, cond_false, Int.reduceEq, Int.reduceLT, Int.reduceLE, if_true, if_false, h0, h1, hh, hd, a]
theorem kids_to151_3 {n : Int} {r : List AOper} {s : St} {dst : Option Nat} {K : St → Prop} : callK E1 151 r s dst K (some [.val (.int .i64 3), .val (.int .i64 n)]) = AM.wpOps E1 r (s.put dst (.val (.bool (decide (n = 0))))) K := callK_all (kids_call151_3 n)
theorem named_call95_3 (h : AH) : RunCall E1 (.f 95) [.val (.int .i64 3)] h (.val (.bool true)) h := by
  refine call_tree (by kernel_rfl) (by kernel_rfl) (mem1 (Tree.val _)) rfl (Tree.val _) (ans1s f95_ok fun s hs hh hd => ?_) h
  have h0 := hs 0 _ rfl
  simp -implicitDefEqProofs only [f95_fn, f95, W0, W1, W2, W3, W4, W5, W6, W7, W8, St.put, Option.bind_some, Option.map_some, ↓reduceIte, Nat.reduceEqDiff, Nat.reduceAdd, Nat.reduceMul, reduceCtorEq, cond_true, cond_false, Int.reduceEq, Int.reduceLT, Int.reduceLE, if_true, if_false, h0, hh, hd]
theorem named_to95_3 {r : List AOper} {s : St} {dst : Option Nat} {K : St → Prop} : callK E1 95 r s dst K (some [.val (.int .i64 3)]) = AM.wpOps E1 r (s.put dst (.val (.bool true))) K := callK_all named_call95_3
theorem named_call150_3 (h : AH) : RunCall E1 (.f 150) [.val (.int .i64 3)] h (.val (.bool true)) h := by
  refine call_tree (by kernel_rfl) (by kernel_rfl) (mem1 (Tree.val _)) rfl (Tree.val _) (ans1s f150_ok fun s hs hh hd => ?_) h
  have h0 := hs 0 _ rfl
  simp -implicitDefEqProofs only [f150_fn, f150, W0, W1, W2, W3, W4, W5, W6, W7, W8, St.put, Option.bind_some, Option.map_some, ↓reduceIte, Nat.reduceEqDiff, Nat.reduceAdd, Nat.reduceMul, reduceCtorEq, cond_true, cond_false, Int.reduceEq, Int.reduceLT, Int.reduceLE, if_true, if_false, h0, hh, hd]
theorem named_to150_3 {r : List AOper} {s : St} {dst : Option Nat} {K : St → Prop} : callK E1 150 r s dst K (some [.val (.int .i64 3)]) = AM.wpOps E1 r (s.put dst (.val (.bool true))) K := callK_all named_call150_3
theorem kids_call94_4 (h : AH) : RunCall E1 (.f 94) [.val (.int .i64 4)] h (.tup [.val (.int .i64 1), .val (.int .i64 24)]) h := by
  refine call_tree (by kernel_rfl) (by kernel_rfl) (mem1 (Tree.val _)) rfl (Tree.two _ _) (ans2s (rs := [.val (.int .i64 1), .val (.int .i64 24)]) f94_ok fun s hs hh hd => ?_) h
  have h0 := hs 0 _ rfl
  simp -implicitDefEqProofs only [f94_fn, f94, W0, W1, W2, W3, W4, W5, W6, W7, W8, St.put, Option.bind_some, Option.map_some, ↓reduceIte, Nat.reduceEqDiff, Nat.reduceAdd, Nat.reduceMul, reduceCtorEq, cond_true, cond_false, Int.reduceEq, Int.reduceLT, Int.reduceLE, if_true, if_false, h0, hh, hd]
theorem kids_to94_4 {r : List AOper} {s : St} {dst : Option Nat} {K : St → Prop} : callK E1 94 r s dst K (some [.val (.int .i64 4)]) = AM.wpOps E1 r (s.put dst (.tup [.val (.int .i64 1), .val (.int .i64 24)])) K := callK_all kids_call94_4
theorem kids_call151_4 (n : Int) (h : AH) : RunCall E1 (.f 151) [.val (.int .i64 4), .val (.int .i64 n)] h (.val (.bool (decide (1 ≤ n) && decide (n ≤ 24)))) h := by
  refine call_tree (by kernel_rfl) (by kernel_rfl) (mem2 (Tree.val _) (Tree.val _)) rfl (Tree.val _) (ans1s f151_ok fun s hs hh hd => ?_) h
  have h0 := hs 0 _ rfl
  have h1 := hs 1 _ rfl
  cases a : decide (1 ≤ n) <;> simp -implicitDefEqProofs only [f151_fn, f151, W0, W1, W2, W3, W4, W5, W6, W7, W8, St.put, Option.bind_some, Option.map_some, ↓reduceIte, Nat.reduceEqDiff, Nat.reduceAdd, Nat.reduceMul, reduceCtorEq, cond_true, cond_false, Int.reduceEq, Int.reduceLT, Int.reduceLE, if_true, if_false, h0, h1, hh, hd, a]
theorem kids_to151_4 {n : Int} {r : List AOper} {s : St} {dst : Option Nat} {K : St → Prop} : callK E1 151 r s dst K (some [.val (.int .i64 4), .val (.int .i64 n)]) = AM.wpOps E1 r (s.put dst (.val (.bool (decide (1 ≤ n) && decide (n ≤ 24))))) K := callK_all (kids_call151_4 n)
theorem named_call95_4 (h : AH) : RunCall E1 (.f 95) [.val (.int .i64 4)] h (.val (.bool true)) h := by
  refine call_tree (by kernel_rfl) (by kernel_rfl) (mem1 (Tree.val _)) rfl (Tree.val _) (ans1s f95_ok fun s hs hh hd => ?_) h
  have h0 := hs 0 _ rfl
  simp -implicitDefEqProofs only [f95_fn, f95, W0, W1, W2, W3, W4, W5, W6, W7, W8, St.put, Option.bind_some, Option.map_some, ↓reduceIte, Nat.reduceEqDiff, Nat.reduceAdd, Nat.reduceMul, reduceCtorEq, cond_true, cond_false, Int.reduceEq, Int.reduceLT, Int.reduceLE, if_true, if_false, h0, hh, hd]
theorem named_to95_4 {r : List AOper} {s : St} {dst : Option Nat} {K : St → Prop} : callK E1 95 r s dst K (some [.val (.int .i64 4)]) = AM.wpOps E1 r (s.put dst (.val (.bool true))) K := callK_all named_call95_4
theorem named_call150_4 (h : AH) : RunCall E1 (.f 150) [.val (.int .i64 4)] h (.val (.bool true)) h := by
  refine call_tree (by kernel_rfl) (by kernel_rfl) (mem1 (Tree.val _)) rfl (Tree.val _) (ans1s f150_ok fun s hs hh hd => ?_) h
  have h0 := hs 0 _ rfl
  simp -implicitDefEqProofs only [f150_fn, f150, W0, W1, W2, W3, W4, W5, W6, W7, W8, St.put, Option.bind_some, Option.map_some, ↓reduceIte, Nat.reduceEqDiff, Nat.reduceAdd, Nat.reduceMul, reduceCtorEq, cond_true, cond_false, Int.reduceEq, Int.reduceLT, Int.reduceLE, if_true, if_false, h0, hh, hd]
theorem named_to150_4 {r : List AOper} {s : St} {dst : Option Nat} {K : St → Prop} : callK E1 150 r s dst K (some [.val (.int .i64 4)]) = AM.wpOps E1 r (s.put dst (.val (.bool true))) K := callK_all named_call150_4
theorem kids_call94_5 (h : AH) : RunCall E1 (.f 94) [.val (.int .i64 5)] h (.tup [.val (.int .i64 1), .val (.int .i64 24)]) h := by
  refine call_tree (by kernel_rfl) (by kernel_rfl) (mem1 (Tree.val _)) rfl (Tree.two _ _) (ans2s (rs := [.val (.int .i64 1), .val (.int .i64 24)]) f94_ok fun s hs hh hd => ?_) h
  have h0 := hs 0 _ rfl
  simp -implicitDefEqProofs only [f94_fn, f94, W0, W1, W2, W3, W4, W5, W6, W7, W8, St.put, Option.bind_some, Option.map_some, ↓reduceIte, Nat.reduceEqDiff, Nat.reduceAdd, Nat.reduceMul, reduceCtorEq, cond_true, cond_false, Int.reduceEq, Int.reduceLT, Int.reduceLE, if_true, if_false, h0, hh, hd]
theorem kids_to94_5 {r : List AOper} {s : St} {dst : Option Nat} {K : St → Prop} : callK E1 94 r s dst K (some [.val (.int .i64 5)]) = AM.wpOps E1 r (s.put dst (.tup [.val (.int .i64 1), .val (.int .i64 24)])) K := callK_all kids_call94_5
theorem kids_call151_5 (n : Int) (h : AH) : RunCall E1 (.f 151) [.val (.int .i64 5), .val (.int .i64 n)] h (.val (.bool (decide (1 ≤ n) && decide (n ≤ 24)))) h := by
  refine call_tree (by kernel_rfl) (by kernel_rfl) (mem2 (Tree.val _) (Tree.val _)) rfl (Tree.val _) (ans1s f151_ok fun s hs hh hd => ?_) h
  have h0 := hs 0 _ rfl
  have h1 := hs 1 _ rfl
  cases a : decide (1 ≤ n) <;> simp -implicitDefEqProofs only [f151_fn, f151, W0, W1, W2, W3, W4, W5, W6, W7, W8, St.put, Option.bind_some, Option.map_some, ↓reduceIte, Nat.reduceEqDiff, Nat.reduceAdd, Nat.reduceMul, reduceCtorEq, cond_true, cond_false, Int.reduceEq, Int.reduceLT, Int.reduceLE, if_true, if_false, h0, h1, hh, hd, a]
theorem kids_to151_5 {n : Int} {r : List AOper} {s : St} {dst : Option Nat} {K : St → Prop} : callK E1 151 r s dst K (some [.val (.int .i64 5), .val (.int .i64 n)]) = AM.wpOps E1 r (s.put dst (.val (.bool (decide (1 ≤ n) && decide (n ≤ 24))))) K := callK_all (kids_call151_5 n)
theorem named_call95_5 (h : AH) : RunCall E1 (.f 95) [.val (.int .i64 5)] h (.val (.bool true)) h := by
  refine call_tree (by kernel_rfl) (by kernel_rfl) (mem1 (Tree.val _)) rfl (Tree.val _) (ans1s f95_ok fun s hs hh hd => ?_) h
  have h0 := hs 0 _ rfl
  simp -implicitDefEqProofs only [f95_fn, f95, W0, W1, W2, W3, W4, W5, W6, W7, W8, St.put, Option.bind_some, Option.map_some, ↓reduceIte, Nat.reduceEqDiff, Nat.reduceAdd, Nat.reduceMul, reduceCtorEq, cond_true, cond_false, Int.reduceEq, Int.reduceLT, Int.reduceLE, if_true, if_false, h0, hh, hd]
theorem named_to95_5 {r : List AOper} {s : St} {dst : Option Nat} {K : St → Prop} : callK E1 95 r s dst K (some [.val (.int .i64 5)]) = AM.wpOps E1 r (s.put dst (.val (.bool true))) K := callK_all named_call95_5
theorem named_call150_5 (h : AH) : RunCall E1 (.f 150) [.val (.int .i64 5)] h (.val (.bool true)) h := by
  refine call_tree (by kernel_rfl) (by kernel_rfl) (mem1 (Tree.val _)) rfl (Tree.val _) (ans1s f150_ok fun s hs hh hd => ?_) h
  have h0 := hs 0 _ rfl
  simp -implicitDefEqProofs only [f150_fn, f150, W0, W1, W2, W3, W4, W5, W6, W7, W8, St.put, Option.bind_some, Option.map_some, ↓reduceIte, Nat.reduceEqDiff, Nat.reduceAdd, Nat.reduceMul, reduceCtorEq, cond_true, cond_false, Int.reduceEq, Int.reduceLT, Int.reduceLE, if_true, if_false, h0, hh, hd]
theorem named_to150_5 {r : List AOper} {s : St} {dst : Option Nat} {K : St → Prop} : callK E1 150 r s dst K (some [.val (.int .i64 5)]) = AM.wpOps E1 r (s.put dst (.val (.bool true))) K := callK_all named_call150_5
theorem kids_call94_6 (h : AH) : RunCall E1 (.f 94) [.val (.int .i64 6)] h (.tup [.val (.int .i64 2), .val (.int .i64 2)]) h := by
  refine call_tree (by kernel_rfl) (by kernel_rfl) (mem1 (Tree.val _)) rfl (Tree.two _ _) (ans2s (rs := [.val (.int .i64 2), .val (.int .i64 2)]) f94_ok fun s hs hh hd => ?_) h
  have h0 := hs 0 _ rfl
  simp -implicitDefEqProofs only [f94_fn, f94, W0, W1, W2, W3, W4, W5, W6, W7, W8, St.put, Option.bind_some, Option.map_some, ↓reduceIte, Nat.reduceEqDiff, Nat.reduceAdd, Nat.reduceMul, reduceCtorEq, cond_true, cond_false, Int.reduceEq, Int.reduceLT, Int.reduceLE, if_true, if_false, h0, hh, hd]
theorem kids_to94_6 {r : List AOper} {s : St} {dst : Option Nat} {K : St → Prop} : callK E1 94 r s dst K (some [.val (.int .i64 6)]) = AM.wpOps E1 r (s.put dst (.tup [.val (.int .i64 2), .val (.int .i64 2)])) K := callK_all kids_call94_6
theorem kids_call151_6 (n : Int) (h : AH) : RunCall E1 (.f 151) [.val (.int .i64 6), .val (.int .i64 n)] h (.val (.bool (decide (n = 2)))) h := by
  refine call_tree (by kernel_rfl) (by kernel_rfl) (mem2 (Tree.val _) (Tree.val _)) rfl (Tree.val _) (ans1s f151_ok fun s hs hh hd => ?_) h
  have h0 := hs 0 _ rfl
  have h1 := hs 1 _ rfl
  cases a : decide (1 ≤ n) <;> simp -implicitDefEqProofs only [f151_fn, f151, W0, W1, W2, W3, W4, W5, W6, W7, W8, St.put, Option.bind_some, Option.map_some, ↓reduceIte, Nat.reduceEqDiff, Nat.reduceAdd, Nat.reduceMul, reduceCtorEq, cond_true, cond_false, Int.reduceEq, Int.reduceLT, Int.reduceLE, if_true, if_false, h0, h1, hh, hd, a]
theorem kids_to151_6 {n : Int} {r : List AOper} {s : St} {dst : Option Nat} {K : St → Prop} : callK E1 151 r s dst K (some [.val (.int .i64 6), .val (.int .i64 n)]) = AM.wpOps E1 r (s.put dst (.val (.bool (decide (n = 2))))) K := callK_all (kids_call151_6 n)
theorem named_call95_6 (h : AH) : RunCall E1 (.f 95) [.val (.int .i64 6)] h (.val (.bool false)) h := by
  refine call_tree (by kernel_rfl) (by kernel_rfl) (mem1 (Tree.val _)) rfl (Tree.val _) (ans1s f95_ok fun s hs hh hd => ?_) h
  have h0 := hs 0 _ rfl
  simp -implicitDefEqProofs only [f95_fn, f95, W0, W1, W2, W3, W4, W5, W6, W7, W8, St.put, Option.bind_some, Option.map_some, ↓reduceIte, Nat.reduceEqDiff, Nat.reduceAdd, Nat.reduceMul, reduceCtorEq, cond_true, cond_false, Int.reduceEq, Int.reduceLT, Int.reduceLE, if_true, if_false, h0, hh, hd]
theorem named_to95_6 {r : List AOper} {s : St} {dst : Option Nat} {K : St → Prop} : callK E1 95 r s dst K (some [.val (.int .i64 6)]) = AM.wpOps E1 r (s.put dst (.val (.bool false))) K := callK_all named_call95_6
theorem named_call150_6 (h : AH) : RunCall E1 (.f 150) [.val (.int .i64 6)] h (.val (.bool false)) h := by
  refine call_tree (by kernel_rfl) (by kernel_rfl) (mem1 (Tree.val _)) rfl (Tree.val _) (ans1s f150_ok fun s hs hh hd => ?_) h
  have h0 := hs 0 _ rfl
  simp -implicitDefEqProofs only [f150_fn, f150, W0, W1, W2, W3, W4, W5, W6, W7, W8, St.put, Option.bind_some, Option.map_some, ↓reduceIte, Nat.reduceEqDiff, Nat.reduceAdd, Nat.reduceMul, reduceCtorEq, cond_true, cond_false, Int.reduceEq, Int.reduceLT, Int.reduceLE, if_true, if_false, h0, hh, hd]
theorem named_to150_6 {r : List AOper} {s : St} {dst : Option Nat} {K : St → Prop} : callK E1 150 r s dst K (some [.val (.int .i64 6)]) = AM.wpOps E1 r (s.put dst (.val (.bool false))) K := callK_all named_call150_6
theorem kids_call94_7 (h : AH) : RunCall E1 (.f 94) [.val (.int .i64 7)] h (.tup [.val (.int .i64 2), .val (.int .i64 2)]) h := by
  refine call_tree (by kernel_rfl) (by kernel_rfl) (mem1 (Tree.val _)) rfl (Tree.two _ _) (ans2s (rs := [.val (.int .i64 2), .val (.int .i64 2)]) f94_ok fun s hs hh hd => ?_) h
  have h0 := hs 0 _ rfl
  simp -implicitDefEqProofs only [f94_fn, f94, W0, W1, W2, W3, W4, W5, W6, W7, W8, St.put, Option.bind_some, Option.map_some, ↓reduceIte, Nat.reduceEqDiff, Nat.reduceAdd, Nat.reduceMul, reduceCtorEq, cond_true, cond_false, Int.reduceEq, Int.reduceLT, Int.reduceLE, if_true, if_false, h0, hh, hd]
theorem kids_to94_7 {r : List AOper} {s : St} {dst : Option Nat} {K : St → Prop} : callK E1 94 r s dst K (some [.val (.int .i64 7)]) = AM.wpOps E1 r (s.put dst (.tup [.val (.int .i64 2), .val (.int .i64 2)])) K := callK_all kids_call94_7
theorem kids_call151_7 (n : Int) (h : AH) : RunCall E1 (.f 151) [.val (.int .i64 7), .val (.int .i64 n)] h (.val (.bool (decide (n = 2)))) h := by
  refine call_tree (by kernel_rfl) (by kernel_rfl) (mem2 (Tree.val _) (Tree.val _)) rfl (Tree.val _) (ans1s f151_ok fun s hs hh hd => ?_) h
  have h0 := hs 0 _ rfl
  have h1 := hs 1 _ rfl
  cases a : decide (1 ≤ n) <;> simp -implicitDefEqProofs only [f151_fn, f151, W0, W1, W2, W3, W4, W5, W6, W7, W8, St.put, Option.bind_some, Option.map_some, ↓reduceIte, Nat.reduceEqDiff, Nat.reduceAdd, Nat.reduceMul, reduceCtorEq, cond_true, cond_false, Int.reduceEq, Int.reduceLT, Int.reduceLE, if_true, if_false, h0, h1, hh, hd, a]
theorem kids_to151_7 {n : Int} {r : List AOper} {s : St} {dst : Option Nat} {K : St → Prop} : callK E1 151 r s dst K (some [.val (.int .i64 7), .val (.int .i64 n)]) = AM.wpOps E1 r (s.put dst (.val (.bool (decide (n = 2))))) K := callK_all (kids_call151_7 n)
theorem named_call95_7 (h : AH) : RunCall E1 (.f 95) [.val (.int .i64 7)] h (.val (.bool false)) h := by
  refine call_tree (by kernel_rfl) (by kernel_rfl) (mem1 (Tree.val _)) rfl (Tree.val _) (ans1s f95_ok fun s hs hh hd => ?_) h
  have h0 := hs 0 _ rfl
  simp -implicitDefEqProofs only [f95_fn, f95, W0, W1, W2, W3, W4, W5, W6, W7, W8, St.put, Option.bind_some, Option.map_some, ↓reduceIte, Nat.reduceEqDiff, Nat.reduceAdd, Nat.reduceMul, reduceCtorEq, cond_true, cond_false, Int.reduceEq, Int.reduceLT, Int.reduceLE, if_true, if_false, h0, hh, hd]
theorem named_to95_7 {r : List AOper} {s : St} {dst : Option Nat} {K : St → Prop} : callK E1 95 r s dst K (some [.val (.int .i64 7)]) = AM.wpOps E1 r (s.put dst (.val (.bool false))) K := callK_all named_call95_7
theorem named_call150_7 (h : AH) : RunCall E1 (.f 150) [.val (.int .i64 7)] h (.val (.bool false)) h := by
  refine call_tree (by kernel_rfl) (by kernel_rfl) (mem1 (Tree.val _)) rfl (Tree.val _) (ans1s f150_ok fun s hs hh hd => ?_) h
  have h0 := hs 0 _ rfl
  simp -implicitDefEqProofs only [f150_fn, f150, W0, W1, W2, W3, W4, W5, W6, W7, W8, St.put, Option.bind_some, Option.map_some, ↓reduceIte, Nat.reduceEqDiff, Nat.reduceAdd, Nat.reduceMul, reduceCtorEq, cond_true, cond_false, Int.reduceEq, Int.reduceLT, Int.reduceLE, if_true, if_false, h0, hh, hd]
theorem named_to150_7 {r : List AOper} {s : St} {dst : Option Nat} {K : St → Prop} : callK E1 150 r s dst K (some [.val (.int .i64 7)]) = AM.wpOps E1 r (s.put dst (.val (.bool false))) K := callK_all named_call150_7
theorem kids_call94_8 (h : AH) : RunCall E1 (.f 94) [.val (.int .i64 8)] h (.tup [.val (.int .i64 2), .val (.int .i64 2)]) h := by
  refine call_tree (by kernel_rfl) (by kernel_rfl) (mem1 (Tree.val _)) rfl (Tree.two _ _) (ans2s (rs := [.val (.int .i64 2), .val (.int .i64 2)]) f94_ok fun s hs hh hd => ?_) h
  have h0 := hs 0 _ rfl
  simp -implicitDefEqProofs only [f94_fn, f94, W0, W1, W2, W3, W4, W5, W6, W7, W8, St.put, Option.bind_some, Option.map_some, ↓reduceIte, Nat.reduceEqDiff, Nat.reduceAdd, Nat.reduceMul, reduceCtorEq, cond_true, cond_false, Int.reduceEq, Int.reduceLT, Int.reduceLE, if_true, if_false, h0, hh, hd]
theorem kids_to94_8 {r : List AOper} {s : St} {dst : Option Nat} {K : St → Prop} : callK E1 94 r s dst K (some [.val (.int .i64 8)]) = AM.wpOps E1 r (s.put dst (.tup [.val (.int .i64 2), .val (.int .i64 2)])) K := callK_all kids_call94_8
theorem kids_call151_8 (n : Int) (h : AH) : RunCall E1 (.f 151) [.val (.int .i64 8), .val (.int .i64 n)] h (.val (.bool (decide (n = 2)))) h := by
  refine call_tree (by kernel_rfl) (by kernel_rfl) (mem2 (Tree.val _) (Tree.val _)) rfl (Tree.val _) (ans1s f151_ok fun s hs hh hd => ?_) h
  have h0 := hs 0 _ rfl
  have h1 := hs 1 _ rfl
  cases a : decide (1 ≤ n) <;> simp -implicitDefEqProofs only [f151_fn, f151, W0, W1, W2, W3, W4, W5, W6, W7, W8, St.put, Option.bind_some, Option.map_some, ↓reduceIte, Nat.reduceEqDiff, Nat.reduceAdd, Nat.reduceMul, reduceCtorEq, cond_true, cond_false, Int.reduceEq, Int.reduceLT, Int.reduceLE, if_true, if_false, h0, h1, hh, hd, a]
theorem kids_to151_8 {n : Int} {r : List AOper} {s : St} {dst : Option Nat} {K : St → Prop} : callK E1 151 r s dst K (some [.val (.int .i64 8), .val (.int .i64 n)]) = AM.wpOps E1 r (s.put dst (.val (.bool (decide (n = 2))))) K := callK_all (kids_call151_8 n)
theorem named_call95_8 (h : AH) : RunCall E1 (.f 95) [.val (.int .i64 8)] h (.val (.bool false)) h := by
  refine call_tree (by kernel_rfl) (by kernel_rfl) (mem1 (Tree.val _)) rfl (Tree.val _) (ans1s f95_ok fun s hs hh hd => ?_) h
  have h0 := hs 0 _ rfl
  simp -implicitDefEqProofs only [f95_fn, f95, W0, W1, W2, W3, W4, W5, W6, W7, W8, St.put, Option.bind_some, Option.map_some, ↓reduceIte, Nat.reduceEqDiff, Nat.reduceAdd, Nat.reduceMul, reduceCtorEq, cond_true, cond_false, Int.reduceEq, Int.reduceLT, Int.reduceLE, if_true, if_false, h0, hh, hd]
theorem named_to95_8 {r : List AOper} {s : St} {dst : Option Nat} {K : St → Prop} : callK E1 95 r s dst K (some [.val (.int .i64 8)]) = AM.wpOps E1 r (s.put dst (.val (.bool false))) K := callK_all named_call95_8
theorem named_call150_8 (h : AH) : RunCall E1 (.f 150) [.val (.int .i64 8)] h (.val (.bool false)) h := by
  refine call_tree (by kernel_rfl) (by kernel_rfl) (mem1 (Tree.val _)) rfl (Tree.val _) (ans1s f150_ok fun s hs hh hd => ?_) h
  have h0 := hs 0 _ rfl
  simp -implicitDefEqProofs only [f150_fn, f150, W0, W1, W2, W3, W4, W5, W6, W7, W8, St.put, Option.bind_some, Option.map_some, ↓reduceIte, Nat.reduceEqDiff, Nat.reduceAdd, Nat.reduceMul, reduceCtorEq, cond_true, cond_false, Int.reduceEq, Int.reduceLT, Int.reduceLE, if_true, if_false, h0, hh, hd]
theorem named_to150_8 {r : List AOper} {s : St} {dst : Option Nat} {K : St → Prop} : callK E1 150 r s dst K (some [.val (.int .i64 8)]) = AM.wpOps E1 r (s.put dst (.val (.bool false))) K := callK_all named_call150_8
theorem kids_call94_9 (h : AH) : RunCall E1 (.f 94) [.val (.int .i64 9)] h (.tup [.val (.int .i64 1), .val (.int .i64 1)]) h := by
  refine call_tree (by kernel_rfl) (by kernel_rfl) (mem1 (Tree.val _)) rfl (Tree.two _ _) (ans2s (rs := [.val (.int .i64 1), .val (.int .i64 1)]) f94_ok fun s hs hh hd => ?_) h
  have h0 := hs 0 _ rfl
  simp -implicitDefEqProofs only [f94_fn, f94, W0, W1, W2, W3, W4, W5, W6, W7, W8, St.put, Option.bind_some, Option.map_some, ↓reduceIte, Nat.reduceEqDiff, Nat.reduceAdd, Nat.reduceMul, reduceCtorEq, cond_true, cond_false, Int.reduceEq, Int.reduceLT, Int.reduceLE, if_true, if_false, h0, hh, hd]
theorem kids_to94_9 {r : List AOper} {s : St} {dst : Option Nat} {K : St → Prop} : callK E1 94 r s dst K (some [.val (.int .i64 9)]) = AM.wpOps E1 r (s.put dst (.tup [.val (.int .i64 1), .val (.int .i64 1)])) K := callK_all kids_call94_9
theorem kids_call151_9 (n : Int) (h : AH) : RunCall E1 (.f 151) [.val (.int .i64 9), .val (.int .i64 n)] h (.val (.bool (decide (n = 1)))) h := by
  refine call_tree (by kernel_rfl) (by kernel_rfl) (mem2 (Tree.val _) (Tree.val _)) rfl (Tree.val _) (ans1s f151_ok fun s hs hh hd => ?_) h
  have h0 := hs 0 _ rfl
  have h1 := hs 1 _ rfl
  cases a : decide (1 ≤ n) <;> simp -implicitDefEqProofs only [f151_fn, f151, W0, W1, W2, W3, W4, W5, W6, W7, W8, St.put, Option.bind_some, Option.map_some, ↓reduceIte, Nat.reduceEqDiff, Nat.reduceAdd, Nat.reduceMul, reduceCtorEq, cond_true, cond_false, Int.reduceEq, Int.reduceLT, Int.reduceLE, if_true, if_false, h0, h1, hh, hd, a]
theorem kids_to151_9 {n : Int} {r : List AOper} {s : St} {dst : Option Nat} {K : St → Prop} : callK E1 151 r s dst K (some [.val (.int .i64 9), .val (.int .i64 n)]) = AM.wpOps E1 r (s.put dst (.val (.bool (decide (n = 1))))) K := callK_all (kids_call151_9 n)
theorem named_call95_9 (h : AH) : RunCall E1 (.f 95) [.val (.int .i64 9)] h (.val (.bool false)) h := by
  refine call_tree (by kernel_rfl) (by kernel_rfl) (mem1 (Tree.val _)) rfl (Tree.val _) (ans1s f95_ok fun s hs hh hd => ?_) h
  have h0 := hs 0 _ rfl
  simp -implicitDefEqProofs only [f95_fn, f95, W0, W1, W2, W3, W4, W5, W6, W7, W8, St.put, Option.bind_some, Option.map_some, ↓reduceIte, Nat.reduceEqDiff, Nat.reduceAdd, Nat.reduceMul, reduceCtorEq, cond_true, cond_false, Int.reduceEq, Int.reduceLT, Int.reduceLE, if_true, if_false, h0, hh, hd]
theorem named_to95_9 {r : List AOper} {s : St} {dst : Option Nat} {K : St → Prop} : callK E1 95 r s dst K (some [.val (.int .i64 9)]) = AM.wpOps E1 r (s.put dst (.val (.bool false))) K := callK_all named_call95_9
theorem named_call150_9 (h : AH) : RunCall E1 (.f 150) [.val (.int .i64 9)] h (.val (.bool false)) h := by
  refine call_tree (by kernel_rfl) (by kernel_rfl) (mem1 (Tree.val _)) rfl (Tree.val _) (ans1s f150_ok fun s hs hh hd => ?_) h
  have h0 := hs 0 _ rfl
  simp -implicitDefEqProofs only [f150_fn, f150, W0, W1, W2, W3, W4, W5, W6, W7, W8, St.put, Option.bind_some, Option.map_some, ↓reduceIte, Nat.reduceEqDiff, Nat.reduceAdd, Nat.reduceMul, reduceCtorEq, cond_true, cond_false, Int.reduceEq, Int.reduceLT, Int.reduceLE, if_true, if_false, h0, hh, hd]
theorem named_to150_9 {r : List AOper} {s : St} {dst : Option Nat} {K : St → Prop} : callK E1 150 r s dst K (some [.val (.int .i64 9)]) = AM.wpOps E1 r (s.put dst (.val (.bool false))) K := callK_all named_call150_9
theorem kids_call94_10 (h : AH) : RunCall E1 (.f 94) [.val (.int .i64 10)] h (.tup [.val (.int .i64 2), .val (.int .i64 2)]) h := by
  refine call_tree (by kernel_rfl) (by kernel_rfl) (mem1 (Tree.val _)) rfl (Tree.two _ _) (ans2s (rs := [.val (.int .i64 2), .val (.int .i64 2)]) f94_ok fun s hs hh hd => ?_) h
  have h0 := hs 0 _ rfl
  simp -implicitDefEqProofs only [f94_fn, f94, W0, W1, W2, W3, W4, W5, W6, W7, W8, St.put, Option.bind_some, Option.map_some, ↓reduceIte, Nat.reduceEqDiff, Nat.reduceAdd, Nat.reduceMul, reduceCtorEq, cond_true, cond_false, Int.reduceEq, Int.reduceLT, Int.reduceLE, if_true, if_false, h0, hh, hd]
theorem kids_to94_10 {r : List AOper} {s : St} {dst : Option Nat} {K : St → Prop} : callK E1 94 r s dst K (some [.val (.int .i64 10)]) = AM.wpOps E1 r (s.put dst (.tup [.val (.int .i64 2), .val (.int .i64 2)])) K := callK_all kids_call94_10
theorem kids_call151_10 (n : Int) (h : AH) : RunCall E1 (.f 151) [.val (.int .i64 10), .val (.int .i64 n)] h (.val (.bool (decide (n = 2)))) h := by
  refine call_tree (by kernel_rfl) (by kernel_rfl) (mem2 (Tree.val _) (Tree.val _)) rfl (Tree.val _) (ans1s f151_ok fun s hs hh hd => ?_) h
  have h0 := hs 0 _ rfl
  have h1 := hs 1 _ rfl
  cases a : decide (1 ≤ n) <;> simp -implicitDefEqProofs only [f151_fn, f151, W0, W1, W2, W3, W4, W5, W6, W7, W8, St.put, Option.bind_some, Option.map_some, ↓reduceIte, Nat.reduceEqDiff, Nat.reduceAdd, Nat.reduceMul, reduceCtorEq, cond_true, cond_false, Int.reduceEq, Int.reduceLT, Int.reduceLE, if_true, if_false, h0, h1, hh, hd, a]
theorem kids_to151_10 {n : Int} {r : List AOper} {s : St} {dst : Option Nat} {K : St → Prop} : callK E1 151 r s dst K (some [.val (.int .i64 10), .val (.int .i64 n)]) = AM.wpOps E1 r (s.put dst (.val (.bool (decide (n = 2))))) K := callK_all (kids_call151_10 n)
theorem named_call95_10 (h : AH) : RunCall E1 (.f 95) [.val (.int .i64 10)] h (.val (.bool false)) h := by
  refine call_tree (by kernel_rfl) (by kernel_rfl) (mem1 (Tree.val _)) rfl (Tree.val _) (ans1s f95_ok fun s hs hh hd => ?_) h
  have h0 := hs 0 _ rfl
  simp -implicitDefEqProofs only [f95_fn, f95, W0, W1, W2, W3, W4, W5, W6, W7, W8, St.put, Option.bind_some, Option.map_some, ↓reduceIte, Nat.reduceEqDiff, Nat.reduceAdd, Nat.reduceMul, reduceCtorEq, cond_true, cond_false, Int.reduceEq, Int.reduceLT, Int.reduceLE, if_true, if_false, h0, hh, hd]
theorem named_to95_10 {r : List AOper} {s : St} {dst : Option Nat} {K : St → Prop} : callK E1 95 r s dst K (some [.val (.int .i64 10)]) = AM.wpOps E1 r (s.put dst (.val (.bool false))) K := callK_all named_call95_10
theorem named_call150_10 (h : AH) : RunCall E1 (.f 150) [.val (.int .i64 10)] h (.val (.bool false)) h := by
  refine call_tree (by kernel_rfl) (by kernel_rfl) (mem1 (Tree.val _)) rfl (Tree.val _) (ans1s f150_ok fun s hs hh hd => ?_) h
  have h0 := hs 0 _ rfl
  simp -implicitDefEqProofs only [f150_fn, f150, W0, W1, W2, W3, W4, W5, W6, W7, W8, St.put, Option.bind_some, Option.map_some, ↓reduceIte, Nat.reduceEqDiff, Nat.reduceAdd, Nat.reduceMul, reduceCtorEq, cond_true, cond_false, Int.reduceEq, Int.reduceLT, Int.reduceLE, if_true, if_false, h0, hh, hd]
theorem named_to150_10 {r : List AOper} {s : St} {dst : Option Nat} {K : St → Prop} : callK E1 150 r s dst K (some [.val (.int .i64 10)]) = AM.wpOps E1 r (s.put dst (.val (.bool false))) K := callK_all named_call150_10
theorem kids_call94_11 (h : AH) : RunCall E1 (.f 94) [.val (.int .i64 11)] h (.tup [.val (.int .i64 2), .val (.int .i64 2)]) h := by
  refine call_tree (by kernel_rfl) (by kernel_rfl) (mem1 (Tree.val _)) rfl (Tree.two _ _) (ans2s (rs := [.val (.int .i64 2), .val (.int .i64 2)]) f94_ok fun s hs hh hd => ?_) h
  have h0 := hs 0 _ rfl
  simp -implicitDefEqProofs only [f94_fn, f94, W0, W1, W2, W3, W4, W5, W6, W7, W8, St.put, Option.bind_some, Option.map_some, ↓reduceIte, Nat.reduceEqDiff, Nat.reduceAdd, Nat.reduceMul, reduceCtorEq, cond_true, cond_false, Int.reduceEq, Int.reduceLT, Int.reduceLE, if_true, if_false, h0, hh, hd]
theorem kids_to94_11 {r : List AOper} {s : St} {dst : Option Nat} {K : St → Prop} : callK E1 94 r s dst K (some [.val (.int .i64 11)]) = AM.wpOps E1 r (s.put dst (.tup [.val (.int .i64 2), .val (.int .i64 2)])) K := callK_all kids_call94_11
theorem kids_call151_11 (n : Int) (h : AH) : RunCall E1 (.f 151) [.val (.int .i64 11), .val (.int .i64 n)] h (.val (.bool (decide (n = 2)))) h := by
  refine call_tree (by kernel_rfl) (by kernel_rfl) (mem2 (Tree.val _) (Tree.val _)) rfl (Tree.val _) (ans1s f151_ok fun s hs hh hd => ?_) h
  have h0 := hs 0 _ rfl
  have h1 := hs 1 _ rfl
  cases a : decide (1 ≤ n) <;> simp -implicitDefEqProofs only [f151_fn, f151, W0, W1, W2, W3, W4, W5, W6, W7, W8, St.put, Option.bind_some, Option.map_some, ↓reduceIte, Nat.reduceEqDiff, Nat.reduceAdd, Nat.reduceMul, reduceCtorEq, cond_true, cond_false, Int.reduceEq, Int.reduceLT, Int.reduceLE, if_true, if_false, h0, h1, hh, hd, a]
theorem kids_to151_11 {n : Int} {r : List AOper} {s : St} {dst : Option Nat} {K : St → Prop} : callK E1 151 r s dst K (some [.val (.int .i64 11), .val (.int .i64 n)]) = AM.wpOps E1 r (s.put dst (.val (.bool (decide (n = 2))))) K := callK_all (kids_call151_11 n)
theorem named_call95_11 (h : AH) : RunCall E1 (.f 95) [.val (.int .i64 11)] h (.val (.bool false)) h := by
  refine call_tree (by kernel_rfl) (by kernel_rfl) (mem1 (Tree.val _)) rfl (Tree.val _) (ans1s f95_ok fun s hs hh hd => ?_) h
  have h0 := hs 0 _ rfl
  simp -implicitDefEqProofs only [f95_fn, f95, W0, W1, W2, W3, W4, W5, W6, W7, W8, St.put, Option.bind_some, Option.map_some, ↓reduceIte, Nat.reduceEqDiff, Nat.reduceAdd, Nat.reduceMul, reduceCtorEq, cond_true, cond_false, Int.reduceEq, Int.reduceLT, Int.reduceLE, if_true, if_false, h0, hh, hd]
theorem named_to95_11 {r : List AOper} {s : St} {dst : Option Nat} {K : St → Prop} : callK E1 95 r s dst K (some [.val (.int .i64 11)]) = AM.wpOps E1 r (s.put dst (.val (.bool false))) K := callK_all named_call95_11
theorem named_call150_11 (h : AH) : RunCall E1 (.f 150) [.val (.int .i64 11)] h (.val (.bool false)) h := by
  refine call_tree (by kernel_rfl) (by kernel_rfl) (mem1 (Tree.val _)) rfl (Tree.val _) (ans1s f150_ok fun s hs hh hd => ?_) h
  have h0 := hs 0 _ rfl
  simp -implicitDefEqProofs only [f150_fn, f150, W0, W1, W2, W3, W4, W5, W6, W7, W8, St.put, Option.bind_some, Option.map_some, ↓reduceIte, Nat.reduceEqDiff, Nat.reduceAdd, Nat.reduceMul, reduceCtorEq, cond_true, cond_false, Int.reduceEq, Int.reduceLT, Int.reduceLE, if_true, if_false, h0, hh, hd]
theorem named_to150_11 {r : List AOper} {s : St} {dst : Option Nat} {K : St → Prop} : callK E1 150 r s dst K (some [.val (.int .i64 11)]) = AM.wpOps E1 r (s.put dst (.val (.bool false))) K := callK_all named_call150_11
theorem kids_call94_12 (h : AH) : RunCall E1 (.f 94) [.val (.int .i64 12)] h (.tup [.val (.int .i64 2), .val (.int .i64 2)]) h := by
  refine call_tree (by kernel_rfl) (by kernel_rfl) (mem1 (Tree.val _)) rfl (Tree.two _ _) (ans2s (rs := [.val (.int .i64 2), .val (.int .i64 2)]) f94_ok fun s hs hh hd => ?_) h
  have h0 := hs 0 _ rfl
  simp -implicitDefEqProofs only [f94_fn, f94, W0, W1, W2, W3, W4, W5, W6, W7, W8, St.put, Option.bind_some, Option.map_some, ↓reduceIte, Nat.reduceEqDiff, Nat.reduceAdd, Nat.reduceMul, reduceCtorEq, cond_true, cond_false, Int.reduceEq, Int.reduceLT, Int.reduceLE, if_true, if_false, h0, hh, hd]
theorem kids_to94_12 {r : List AOper} {s : St} {dst : Option Nat} {K : St → Prop} : callK E1 94 r s dst K (some [.val (.int .i64 12)]) = AM.wpOps E1 r (s.put dst (.tup [.val (.int .i64 2), .val (.int .i64 2)])) K := callK_all kids_call94_12
theorem kids_call151_12 (n : Int) (h : AH) : RunCall E1 (.f 151) [.val (.int .i64 12), .val (.int .i64 n)] h (.val (.bool (decide (n = 2)))) h := by
  refine call_tree (by kernel_rfl) (by kernel_rfl) (mem2 (Tree.val _) (Tree.val _)) rfl (Tree.val _) (ans1s f151_ok fun s hs hh hd => ?_) h
  have h0 := hs 0 _ rfl
  have h1 := hs 1 _ rfl
  cases a : decide (1 ≤ n) <;> simp -implicitDefEqProofs only [f151_fn, f151, W0, W1, W2, W3, W4, W5, W6, W7, W8, St.put, Option.bind_some, Option.map_some, ↓reduceIte, Nat.reduceEqDiff, Nat.reduceAdd, Nat.reduceMul, reduceCtorEq, cond_true, cond_false, Int.reduceEq, Int.reduceLT, Int.reduceLE, if_true, if_false, h0, h1, hh, hd, a]
theorem kids_to151_12 {n : Int} {r : List AOper} {s : St} {dst : Option Nat} {K : St → Prop} : callK E1 151 r s dst K (some [.val (.int .i64 12), .val (.int .i64 n)]) = AM.wpOps E1 r (s.put dst (.val (.bool (decide (n = 2))))) K := callK_all (kids_call151_12 n)
theorem named_call95_12 (h : AH) : RunCall E1 (.f 95) [.val (.int .i64 12)] h (.val (.bool false)) h := by
  refine call_tree (by kernel_rfl) (by kernel_rfl) (mem1 (Tree.val _)) rfl (Tree.val _) (ans1s f95_ok fun s hs hh hd => ?_) h
  have h0 := hs 0 _ rfl
  simp -implicitDefEqProofs only [f95_fn, f95, W0, W1, W2, W3, W4, W5, W6, W7, W8, St.put, Option.bind_some, Option.map_some, ↓reduceIte, Nat.reduceEqDiff, Nat.reduceAdd, Nat.reduceMul, reduceCtorEq, cond_true, cond_false, Int.reduceEq, Int.reduceLT, Int.reduceLE, if_true, if_false, h0, hh, hd]
theorem named_to95_12 {r : List AOper} {s : St} {dst : Option Nat} {K : St → Prop} : callK E1 95 r s dst K (some [.val (.int .i64 12)]) = AM.wpOps E1 r (s.put dst (.val (.bool false))) K := callK_all named_call95_12
theorem named_call150_12 (h : AH) : RunCall E1 (.f 150) [.val (.int .i64 12)] h (.val (.bool false)) h := by
  refine call_tree (by kernel_rfl) (by kernel_rfl) (mem1 (Tree.val _)) rfl (Tree.val _) (ans1s f150_ok fun s hs hh hd => ?_) h
  have h0 := hs 0 _ rfl
  simp -implicitDefEqProofs only [f150_fn, f150, W0, W1, W2, W3, W4, W5, W6, W7, W8, St.put, Option.bind_some, Option.map_some, ↓reduceIte, Nat.reduceEqDiff, Nat.reduceAdd, Nat.reduceMul, reduceCtorEq, cond_true, cond_false, Int.reduceEq, Int.reduceLT, Int.reduceLE, if_true, if_false, h0, hh, hd]
theorem named_to150_12 {r : List AOper} {s : St} {dst : Option Nat} {K : St → Prop} : callK E1 150 r s dst K (some [.val (.int .i64 12)]) = AM.wpOps E1 r (s.put dst (.val (.bool false))) K := callK_all named_call150_12
theorem kids_call94_13 (h : AH) : RunCall E1 (.f 94) [.val (.int .i64 13)] h (.tup [.val (.int .i64 2), .val (.int .i64 2)]) h := by
  refine call_tree (by kernel_rfl) (by kernel_rfl) (mem1 (Tree.val _)) rfl (Tree.two _ _) (ans2s (rs := [.val (.int .i64 2), .val (.int .i64 2)]) f94_ok fun s hs hh hd => ?_) h
  have h0 := hs 0 _ rfl
  simp -implicitDefEqProofs only [f94_fn, f94, W0, W1, W2, W3, W4, W5, W6, W7, W8, St.put, Option.bind_some, Option.map_some, ↓reduceIte, Nat.reduceEqDiff, Nat.reduceAdd, Nat.reduceMul, reduceCtorEq, cond_true, cond_false, Int.reduceEq, Int.reduceLT, Int.reduceLE, if_true, if_false, h0, hh, hd]
theorem kids_to94_13 {r : List AOper} {s : St} {dst : Option Nat} {K : St → Prop} : callK E1 94 r s dst K (some [.val (.int .i64 13)]) = AM.wpOps E1 r (s.put dst (.tup [.val (.int .i64 2), .val (.int .i64 2)])) K := callK_all kids_call94_13
theorem kids_call151_13 (n : Int) (h : AH) : RunCall E1 (.f 151) [.val (.int .i64 13), .val (.int .i64 n)] h (.val (.bool (decide (n = 2)))) h := by
  refine call_tree (by kernel_rfl) (by kernel_rfl) (mem2 (Tree.val _) (Tree.val _)) rfl (Tree.val _) (ans1s f151_ok fun s hs hh hd => ?_) h
  have h0 := hs 0 _ rfl
  have h1 := hs 1 _ rfl
  cases a : decide (1 ≤ n) <;> simp -implicitDefEqProofs only [f151_fn, f151, W0, W1, W2, W3, W4, W5, W6, W7, W8, St.put, Option.bind_some, Option.map_some, ↓reduceIte, Nat.reduceEqDiff, Nat.reduceAdd, Nat.reduceMul, reduceCtorEq, cond_true, cond_false, Int.reduceEq, Int.reduceLT, Int.reduceLE, if_true, if_false, h0, h1, hh, hd, a]
theorem kids_to151_13 {n : Int} {r : List AOper} {s : St} {dst : Option Nat} {K : St → Prop} : callK E1 151 r s dst K (some [.val (.int .i64 13), .val (.int .i64 n)]) = AM.wpOps E1 r (s.put dst (.val (.bool (decide (n = 2))))) K := callK_all (kids_call151_13 n)
theorem named_call95_13 (h : AH) : RunCall E1 (.f 95) [.val (.int .i64 13)] h (.val (.bool false)) h := by
  refine call_tree (by kernel_rfl) (by kernel_rfl) (mem1 (Tree.val _)) rfl (Tree.val _) (ans1s f95_ok fun s hs hh hd => ?_) h
  have h0 := hs 0 _ rfl
  simp -implicitDefEqProofs only [f95_fn, f95, W0, W1, W2, W3, W4, W5, W6, W7, W8, St.put, Option.bind_some, Option.map_some, ↓reduceIte, Nat.reduceEqDiff, Nat.reduceAdd, Nat.reduceMul, reduceCtorEq, cond_true, cond_false, Int.reduceEq, Int.reduceLT, Int.reduceLE, if_true, if_false, h0, hh, hd]
theorem named_to95_13 {r : List AOper} {s : St} {dst : Option Nat} {K : St → Prop} : callK E1 95 r s dst K (some [.val (.int .i64 13)]) = AM.wpOps E1 r (s.put dst (.val (.bool false))) K := callK_all named_call95_13
theorem named_call150_13 (h : AH) : RunCall E1 (.f 150) [.val (.int .i64 13)] h (.val (.bool false)) h := by
  refine call_tree (by kernel_rfl) (by kernel_rfl) (mem1 (Tree.val _)) rfl (Tree.val _) (ans1s f150_ok fun s hs hh hd => ?_) h
  have h0 := hs 0 _ rfl
  simp -implicitDefEqProofs only [f150_fn, f150, W0, W1, W2, W3, W4, W5, W6, W7, W8, St.put, Option.bind_some, Option.map_some, ↓reduceIte, Nat.reduceEqDiff, Nat.reduceAdd, Nat.reduceMul, reduceCtorEq, cond_true, cond_false, Int.reduceEq, Int.reduceLT, Int.reduceLE, if_true, if_false, h0, hh, hd]
theorem named_to150_13 {r : List AOper} {s : St} {dst : Option Nat} {K : St → Prop} : callK E1 150 r s dst K (some [.val (.int .i64 13)]) = AM.wpOps E1 r (s.put dst (.val (.bool false))) K := callK_all named_call150_13
theorem kids_call94_14 (h : AH) : RunCall E1 (.f 94) [.val (.int .i64 14)] h (.tup [.val (.int .i64 1), .val (.int .i64 1)]) h := by
  refine call_tree (by kernel_rfl) (by kernel_rfl) (mem1 (Tree.val _)) rfl (Tree.two _ _) (ans2s (rs := [.val (.int .i64 1), .val (.int .i64 1)]) f94_ok fun s hs hh hd => ?_) h
  have h0 := hs 0 _ rfl
  simp -implicitDefEqProofs only [f94_fn, f94, W0, W1, W2, W3, W4, W5, W6, W7, W8, St.put, Option.bind_some, Option.map_some, ↓reduceIte, Nat.reduceEqDiff, Nat.reduceAdd, Nat.reduceMul, reduceCtorEq, cond_true, cond_false, Int.reduceEq, Int.reduceLT, Int.reduceLE, if_true, if_false, h0, hh, hd]
theorem kids_to94_14 {r : List AOper} {s : St} {dst : Option Nat} {K : St → Prop} : callK E1 94 r s dst K (some [.val (.int .i64 14)]) = AM.wpOps E1 r (s.put dst (.tup [.val (.int .i64 1), .val (.int .i64 1)])) K := callK_all kids_call94_14
theorem kids_call151_14 (n : Int) (h : AH) : RunCall E1 (.f 151) [.val (.int .i64 14), .val (.int .i64 n)] h (.val (.bool (decide (n = 1)))) h := by
  refine call_tree (by kernel_rfl) (by kernel_rfl) (mem2 (Tree.val _) (Tree.val _)) rfl (Tree.val _) (ans1s f151_ok fun s hs hh hd => ?_) h
  have h0 := hs 0 _ rfl
  have h1 := hs 1 _ rfl
  cases a : decide (1 ≤ n) <;> simp -implicitDefEqProofs only [f151_fn, f151, W0, W1, W2, W3, W4, W5, W6, W7, W8, St.put, Option.bind_some, Option.map_some, ↓reduceIte, Nat.reduceEqDiff, Nat.reduceAdd, Nat.reduceMul, reduceCtorEq, cond_true, cond_false, Int.reduceEq, Int.reduceLT, Int.reduceLE, if_true, if_false, h0, h1, hh, hd, a]
theorem kids_to151_14 {n : Int} {r : List AOper} {s : St} {dst : Option Nat} {K : St → Prop} : callK E1 151 r s dst K (some [.val (.int .i64 14), .val (.int .i64 n)]) = AM.wpOps E1 r (s.put dst (.val (.bool (decide (n = 1))))) K := callK_all (kids_call151_14 n)
theorem named_call95_14 (h : AH) : RunCall E1 (.f 95) [.val (.int .i64 14)] h (.val (.bool false)) h := by
  refine call_tree (by kernel_rfl) (by kernel_rfl) (mem1 (Tree.val _)) rfl (Tree.val _) (ans1s f95_ok fun s hs hh hd => ?_) h
  have h0 := hs 0 _ rfl
  simp -implicitDefEqProofs only [f95_fn, f95, W0, W1, W2, W3, W4, W5, W6, W7, W8, St.put, Option.bind_some, Option.map_some, ↓reduceIte, Nat.reduceEqDiff, Nat.reduceAdd, Nat.reduceMul, reduceCtorEq, cond_true, cond_false, Int.reduceEq, Int.reduceLT, Int.reduceLE, if_true, if_false, h0, hh, hd]
theorem named_to95_14 {r : List AOper} {s : St} {dst : Option Nat} {K : St → Prop} : callK E1 95 r s dst K (some [.val (.int .i64 14)]) = AM.wpOps E1 r (s.put dst (.val (.bool false))) K := callK_all named_call95_14
theorem named_call150_14 (h : AH) : RunCall E1 (.f 150) [.val (.int .i64 14)] h (.val (.bool false)) h := by
  refine call_tree (by kernel_rfl) (by kernel_rfl) (mem1 (Tree.val _)) rfl (Tree.val _) (ans1s f150_ok fun s hs hh hd => ?_) h
  have h0 := hs 0 _ rfl
  simp -implicitDefEqProofs only [f150_fn, f150, W0, W1, W2, W3, W4, W5, W6, W7, W8, St.put, Option.bind_some, Option.map_some, ↓reduceIte, Nat.reduceEqDiff, Nat.reduceAdd, Nat.reduceMul, reduceCtorEq, cond_true, cond_false, Int.reduceEq, Int.reduceLT, Int.reduceLE, if_true, if_false, h0, hh, hd]
theorem named_to150_14 {r : List AOper} {s : St} {dst : Option Nat} {K : St → Prop} : callK E1 150 r s dst K (some [.val (.int .i64 14)]) = AM.wpOps E1 r (s.put dst (.val (.bool false))) K := callK_all named_call150_14
theorem kids_call94_15 (h : AH) : RunCall E1 (.f 94) [.val (.int .i64 15)] h (.tup [.val (.int .i64 2), .val (.int .i64 2)]) h := by
  refine call_tree (by kernel_rfl) (by kernel_rfl) (mem1 (Tree.val _)) rfl (Tree.two _ _) (ans2s (rs := [.val (.int .i64 2), .val (.int .i64 2)]) f94_ok fun s hs hh hd => ?_) h
  have h0 := hs 0 _ rfl
  simp -implicitDefEqProofs only [f94_fn, f94, W0, W1, W2, W3, W4, W5, W6, W7, W8, St.put, Option.bind_some, Option.map_some, ↓reduceIte, Nat.reduceEqDiff, Nat.reduceAdd, Nat.reduceMul, reduceCtorEq, cond_true, cond_false, Int.reduceEq, Int.reduceLT, Int.reduceLE, if_true, if_false, h0, hh, hd]
theorem kids_to94_15 {r : List AOper} {s : St} {dst : Option Nat} {K : St → Prop} : callK E1 94 r s dst K (some [.val (.int .i64 15)]) = AM.wpOps E1 r (s.put dst (.tup [.val (.int .i64 2), .val (.int .i64 2)])) K := callK_all kids_call94_15
theorem kids_call151_15 (n : Int) (h : AH) : RunCall E1 (.f 151) [.val (.int .i64 15), .val (.int .i64 n)] h (.val (.bool (decide (n = 2)))) h := by
  refine call_tree (by kernel_rfl) (by kernel_rfl) (mem2 (Tree.val _) (Tree.val _)) rfl (Tree.val _) (ans1s f151_ok fun s hs hh hd => ?_) h
  have h0 := hs 0 _ rfl
  have h1 := hs 1 _ rfl
  cases a : decide (1 ≤ n) <;> simp -implicitDefEqProofs only [f151_fn, f151, W0, W1, W2, W3, W4, W5, W6, W7, W8, St.put, Option.bind_some, Option.map_some, ↓reduceIte, Nat.reduceEqDiff, Nat.reduceAdd, Nat.reduceMul, reduceCtorEq, cond_true, cond_false, Int.reduceEq, Int.reduceLT, Int.reduceLE, if_true, if_false, h0, h1, hh, hd, a]
theorem kids_to151_15 {n : Int} {r : List AOper} {s : St} {dst : Option Nat} {K : St → Prop} : callK E1 151 r s dst K (some [.val (.int .i64 15), .val (.int .i64 n)]) = AM.wpOps E1 r (s.put dst (.val (.bool (decide (n = 2))))) K := callK_all (kids_call151_15 n)
theorem named_call95_15 (h : AH) : RunCall E1 (.f 95) [.val (.int .i64 15)] h (.val (.bool false)) h := by
  refine call_tree (by kernel_rfl) (by kernel_rfl) (mem1 (Tree.val _)) rfl (Tree.val _) (ans1s f95_ok fun s hs hh hd => ?_) h
  have h0 := hs 0 _ rfl
  simp -implicitDefEqProofs only [f95_fn, f95, W0, W1, W2, W3, W4, W5, W6, W7, W8, St.put, Option.bind_some, Option.map_some, ↓reduceIte, Nat.reduceEqDiff, Nat.reduceAdd, Nat.reduceMul, reduceCtorEq, cond_true, cond_false, Int.reduceEq, Int.reduceLT, Int.reduceLE, if_true, if_false, h0, hh, hd]
theorem named_to95_15 {r : List AOper} {s : St} {dst : Option Nat} {K : St → Prop} : callK E1 95 r s dst K (some [.val (.int .i64 15)]) = AM.wpOps E1 r (s.put dst (.val (.bool false))) K := callK_all named_call95_15
theorem named_call150_15 (h : AH) : RunCall E1 (.f 150) [.val (.int .i64 15)] h (.val (.bool false)) h := by
  refine call_tree (by kernel_rfl) (by kernel_rfl) (mem1 (Tree.val _)) rfl (Tree.val _) (ans1s f150_ok fun s hs hh hd => ?_) h
  have h0 := hs 0 _ rfl
  simp -implicitDefEqProofs only [f150_fn, f150, W0, W1, W2, W3, W4, W5, W6, W7, W8, St.put, Option.bind_some, Option.map_some, ↓reduceIte, Nat.reduceEqDiff, Nat.reduceAdd, Nat.reduceMul, reduceCtorEq, cond_true, cond_false, Int.reduceEq, Int.reduceLT, Int.reduceLE, if_true, if_false, h0, hh, hd]
theorem named_to150_15 {r : List AOper} {s : St} {dst : Option Nat} {K : St → Prop} : callK E1 150 r s dst K (some [.val (.int .i64 15)]) = AM.wpOps E1 r (s.put dst (.val (.bool false))) K := callK_all named_call150_15
theorem kids_call94_16 (h : AH) : RunCall E1 (.f 94) [.val (.int .i64 16)] h (.tup [.val (.int .i64 2), .val (.int .i64 2)]) h := by
  refine call_tree (by kernel_rfl) (by kernel_rfl) (mem1 (Tree.val _)) rfl (Tree.two _ _) (ans2s (rs := [.val (.int .i64 2), .val (.int .i64 2)]) f94_ok fun s hs hh hd => ?_) h
  have h0 := hs 0 _ rfl
  simp -implicitDefEqProofs only [f94_fn, f94, W0, W1, W2, W3, W4, W5, W6, W7, W8, St.put, Option.bind_some, Option.map_some, ↓reduceIte, Nat.reduceEqDiff, Nat.reduceAdd, Nat.reduceMul, reduceCtorEq, cond_true, cond_false, Int.reduceEq, Int.reduceLT, Int.reduceLE, if_true, if_false, h0, hh, hd]
theorem kids_to94_16 {r : List AOper} {s : St} {dst : Option Nat} {K : St → Prop} : callK E1 94 r s dst K (some [.val (.int .i64 16)]) = AM.wpOps E1 r (s.put dst (.tup [.val (.int .i64 2), .val (.int .i64 2)])) K := callK_all kids_call94_16
theorem kids_call151_16 (n : Int) (h : AH) : RunCall E1 (.f 151) [.val (.int .i64 16), .val (.int .i64 n)] h (.val (.bool (decide (n = 2)))) h := by
  refine call_tree (by kernel_rfl) (by kernel_rfl) (mem2 (Tree.val _) (Tree.val _)) rfl (Tree.val _) (ans1s f151_ok fun s hs hh hd => ?_) h
  have h0 := hs 0 _ rfl
  have h1 := hs 1 _ rfl
  cases a : decide (1 ≤ n) <;> simp -implicitDefEqProofs only [f151_fn, f151, W0, W1, W2, W3, W4, W5, W6, W7, W8, St.put, Option.bind_some, Option.map_some, ↓reduceIte, Nat.reduceEqDiff, Nat.reduceAdd, Nat.reduceMul, reduceCtorEq, cond_true, cond_false, Int.reduceEq, Int.reduceLT, Int.reduceLE, if_true, if_false, h0, h1, hh, hd, a]
theorem kids_to151_16 {n : Int} {r : List AOper} {s : St} {dst : Option Nat} {K : St → Prop} : callK E1 151 r s dst K (some [.val (.int .i64 16), .val (.int .i64 n)]) = AM.wpOps E1 r (s.put dst (.val (.bool (decide (n = 2))))) K := callK_all (kids_call151_16 n)
theorem named_call95_16 (h : AH) : RunCall E1 (.f 95) [.val (.int .i64 16)] h (.val (.bool false)) h := by
  refine call_tree (by kernel_rfl) (by kernel_rfl) (mem1 (Tree.val _)) rfl (Tree.val _) (ans1s f95_ok fun s hs hh hd => ?_) h
  have h0 := hs 0 _ rfl
  simp -implicitDefEqProofs only [f95_fn, f95, W0, W1, W2, W3, W4, W5, W6, W7, W8, St.put, Option.bind_some, Option.map_some, ↓reduceIte, Nat.reduceEqDiff, Nat.reduceAdd, Nat.reduceMul, reduceCtorEq, cond_true, cond_false, Int.reduceEq, Int.reduceLT, Int.reduceLE, if_true, if_false, h0, hh, hd]
theorem named_to95_16 {r : List AOper} {s : St} {dst : Option Nat} {K : St → Prop} : callK E1 95 r s dst K (some [.val (.int .i64 16)]) = AM.wpOps E1 r (s.put dst (.val (.bool false))) K := callK_all named_call95_16
theorem named_call150_16 (h : AH) : RunCall E1 (.f 150) [.val (.int .i64 16)] h (.val (.bool false)) h := by
  refine call_tree (by kernel_rfl) (by kernel_rfl) (mem1 (Tree.val _)) rfl (Tree.val _) (ans1s f150_ok fun s hs hh hd => ?_) h
  have h0 := hs 0 _ rfl
  simp -implicitDefEqProofs only [f150_fn, f150, W0, W1, W2, W3, W4, W5, W6, W7, W8, St.put, Option.bind_some, Option.map_some, ↓reduceIte, Nat.reduceEqDiff, Nat.reduceAdd, Nat.reduceMul, reduceCtorEq, cond_true, cond_false, Int.reduceEq, Int.reduceLT, Int.reduceLE, if_true, if_false, h0, hh, hd]
theorem named_to150_16 {r : List AOper} {s : St} {dst : Option Nat} {K : St → Prop} : callK E1 150 r s dst K (some [.val (.int .i64 16)]) = AM.wpOps E1 r (s.put dst (.val (.bool false))) K := callK_all named_call150_16
theorem kids_call94_17 (h : AH) : RunCall E1 (.f 94) [.val (.int .i64 17)] h (.tup [.val (.int .i64 2), .val (.int .i64 2)]) h := by
  refine call_tree (by kernel_rfl) (by kernel_rfl) (mem1 (Tree.val _)) rfl (Tree.two _ _) (ans2s (rs := [.val (.int .i64 2), .val (.int .i64 2)]) f94_ok fun s hs hh hd => ?_) h
  have h0 := hs 0 _ rfl
  simp -implicitDefEqProofs only [f94_fn, f94, W0, W1, W2, W3, W4, W5, W6, W7, W8, St.put, Option.bind_some, Option.map_some, ↓reduceIte, Nat.reduceEqDiff, Nat.reduceAdd, Nat.reduceMul, reduceCtorEq, cond_true, cond_false, Int.reduceEq, Int.reduceLT, Int.reduceLE, if_true, if_false, h0, hh, hd]
theorem kids_to94_17 {r : List AOper} {s : St} {dst : Option Nat} {K : St → Prop} : callK E1 94 r s dst K (some [.val (.int .i64 17)]) = AM.wpOps E1 r (s.put dst (.tup [.val (.int .i64 2), .val (.int .i64 2)])) K := callK_all kids_call94_17
theorem kids_call151_17 (n : Int) (h : AH) : RunCall E1 (.f 151) [.val (.int .i64 17), .val (.int .i64 n)] h (.val (.bool (decide (n = 2)))) h := by
  refine call_tree (by kernel_rfl) (by kernel_rfl) (mem2 (Tree.val _) (Tree.val _)) rfl (Tree.val _) (ans1s f151_ok fun s hs hh hd => ?_) h
  have h0 := hs 0 _ rfl
  have h1 := hs 1 _ rfl
  cases a : decide (1 ≤ n) <;> simp -implicitDefEqProofs only [f151_fn, f151, W0, W1, W2, W3, W4, W5, W6, W7, W8, St.put, Option.bind_some, Option.map_some, ↓reduceIte, Nat.reduceEqDiff, Nat.reduceAdd, Nat.reduceMul, reduceCtorEq, cond_true, cond_false, Int.reduceEq, Int.reduceLT, Int.reduceLE, if_true, if_false, h0, h1, hh, hd, a]
theorem kids_to151_17 {n : Int} {r : List AOper} {s : St} {dst : Option Nat} {K : St → Prop} : callK E1 151 r s dst K (some [.val (.int .i64 17), .val (.int .i64 n)]) = AM.wpOps E1 r (s.put dst (.val (.bool (decide (n = 2))))) K := callK_all (kids_call151_17 n)
theorem named_call95_17 (h : AH) : RunCall E1 (.f 95) [.val (.int .i64 17)] h (.val (.bool false)) h := by
  refine call_tree (by kernel_rfl) (by kernel_rfl) (mem1 (Tree.val _)) rfl (Tree.val _) (ans1s f95_ok fun s hs hh hd => ?_) h
  have h0 := hs 0 _ rfl
  simp -implicitDefEqProofs only [f95_fn, f95, W0, W1, W2, W3, W4, W5, W6, W7, W8, St.put, Option.bind_some, Option.map_some, ↓reduceIte, Nat.reduceEqDiff, Nat.reduceAdd, Nat.reduceMul, reduceCtorEq, cond_true, cond_false, Int.reduceEq, Int.reduceLT, Int.reduceLE, if_true, if_false, h0, hh, hd]
theorem named_to95_17 {r : List AOper} {s : St} {dst : Option Nat} {K : St → Prop} : callK E1 95 r s dst K (some [.val (.int .i64 17)]) = AM.wpOps E1 r (s.put dst (.val (.bool false))) K := callK_all named_call95_17
theorem named_call150_17 (h : AH) : RunCall E1 (.f 150) [.val (.int .i64 17)] h (.val (.bool false)) h := by
  refine call_tree (by kernel_rfl) (by kernel_rfl) (mem1 (Tree.val _)) rfl (Tree.val _) (ans1s f150_ok fun s hs hh hd => ?_) h
  have h0 := hs 0 _ rfl
  simp -implicitDefEqProofs only [f150_fn, f150, W0, W1, W2, W3, W4, W5, W6, W7, W8, St.put, Option.bind_some, Option.map_some, ↓reduceIte, Nat.reduceEqDiff, Nat.reduceAdd, Nat.reduceMul, reduceCtorEq, cond_true, cond_false, Int.reduceEq, Int.reduceLT, Int.reduceLE, if_true, if_false, h0, hh, hd]
theorem named_to150_17 {r : List AOper} {s : St} {dst : Option Nat} {K : St → Prop} : callK E1 150 r s dst K (some [.val (.int .i64 17)]) = AM.wpOps E1 r (s.put dst (.val (.bool false))) K := callK_all named_call150_17
theorem kids_call94_18 (h : AH) : RunCall E1 (.f 94) [.val (.int .i64 18)] h (.tup [.val (.int .i64 2), .val (.int .i64 2)]) h := by
  refine call_tree (by kernel_rfl) (by kernel_rfl) (mem1 (Tree.val _)) rfl (Tree.two _ _) (ans2s (rs := [.val (.int .i64 2), .val (.int .i64 2)]) f94_ok fun s hs hh hd => ?_) h
  have h0 := hs 0 _ rfl
  simp -implicitDefEqProofs only [f94_fn, f94, W0, W1, W2, W3, W4, W5, W6, W7, W8, St.put, Option.bind_some, Option.map_some, ↓reduceIte, Nat.reduceEqDiff, Nat.reduceAdd, Nat.reduceMul, reduceCtorEq, cond_true, cond_false, Int.reduceEq, Int.reduceLT, Int.reduceLE, if_true, if_false, h0, hh, hd]
theorem kids_to94_18 {r : List AOper} {s : St} {dst : Option Nat} {K : St → Prop} : callK E1 94 r s dst K (some [.val (.int .i64 18)]) = AM.wpOps E1 r (s.put dst (.tup [.val (.int .i64 2), .val (.int .i64 2)])) K := callK_all kids_call94_18
theorem kids_call151_18 (n : Int) (h : AH) : RunCall E1 (.f 151) [.val (.int .i64 18), .val (.int .i64 n)] h (.val (.bool (decide (n = 2)))) h := by
  refine call_tree (by kernel_rfl) (by kernel_rfl) (mem2 (Tree.val _) (Tree.val _)) rfl (Tree.val _) (ans1s f151_ok fun s hs hh hd => ?_) h
  have h0 := hs 0 _ rfl
  have h1 := hs 1 _ rfl
  cases a : decide (1 ≤ n) <;> simp -implicitDefEqProofs only [f151_fn, f151, W0, W1, W2, W3, W4, W5, W6, W7, W8, St.put, Option.bind_some, Option.map_some, ↓reduceIte, Nat.reduceEqDiff, Nat.reduceAdd, Nat.reduceMul, reduceCtorEq, cond_true, cond_false, Int.reduceEq, Int.reduceLT, Int.reduceLE, if_true, if_false, h0, h1, hh, hd, a]
theorem kids_to151_18 {n : Int} {r : List AOper} {s : St} {dst : Option Nat} {K : St → Prop} : callK E1 151 r s dst K (some [.val (.int .i64 18), .val (.int .i64 n)]) = AM.wpOps E1 r (s.put dst (.val (.bool (decide (n = 2))))) K := callK_all (kids_call151_18 n)
theorem named_call95_18 (h : AH) : RunCall E1 (.f 95) [.val (.int .i64 18)] h (.val (.bool false)) h := by
  refine call_tree (by kernel_rfl) (by kernel_rfl) (mem1 (Tree.val _)) rfl (Tree.val _) (ans1s f95_ok fun s hs hh hd => ?_) h
  have h0 := hs 0 _ rfl
  simp -implicitDefEqProofs only [f95_fn, f95, W0, W1, W2, W3, W4, W5, W6, W7, W8, St.put, Option.bind_some, Option.map_some, ↓reduceIte, Nat.reduceEqDiff, Nat.reduceAdd, Nat.reduceMul, reduceCtorEq, cond_true, cond_false, Int.reduceEq, Int.reduceLT, Int.reduceLE, if_true, if_false, h0, hh, hd]
theorem named_to95_18 {r : List AOper} {s : St} {dst : Option Nat} {K : St → Prop} : callK E1 95 r s dst K (some [.val (.int .i64 18)]) = AM.wpOps E1 r (s.put dst (.val (.bool false))) K := callK_all named_call95_18
theorem named_call150_18 (h : AH) : RunCall E1 (.f 150) [.val (.int .i64 18)] h (.val (.bool false)) h := by
  refine call_tree (by kernel_rfl) (by kernel_rfl) (mem1 (Tree.val _)) rfl (Tree.val _) (ans1s f150_ok fun s hs hh hd => ?_) h
  have h0 := hs 0 _ rfl
  simp -implicitDefEqProofs only [f150_fn, f150, W0, W1, W2, W3, W4, W5, W6, W7, W8, St.put, Option.bind_some, Option.map_some, ↓reduceIte, Nat.reduceEqDiff, Nat.reduceAdd, Nat.reduceMul, reduceCtorEq, cond_true, cond_false, Int.reduceEq, Int.reduceLT, Int.reduceLE, if_true, if_false, h0, hh, hd]
theorem named_to150_18 {r : List AOper} {s : St} {dst : Option Nat} {K : St → Prop} : callK E1 150 r s dst K (some [.val (.int .i64 18)]) = AM.wpOps E1 r (s.put dst (.val (.bool false))) K := callK_all named_call150_18

end Go.Proofs.YtbolilekjpoicaaGreatDoor
