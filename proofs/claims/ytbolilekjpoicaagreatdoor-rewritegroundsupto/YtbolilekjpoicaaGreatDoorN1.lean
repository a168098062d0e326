/- A part of the proof of the law RewriteGrounds: XByte XAlnum XKeyw XName XCut XCore. -/
import Derived.Test.YtbolilekjpoicaaGreatDoorW1
import Derived.Test.YtbolilekjpoicaaGreatDoorC1

set_option linter.all false

namespace Go.Proofs.YtbolilekjpoicaaGreatDoor
open Go Go.AM
set_option linter.all false
set_option maxHeartbeats 4000000

theorem byte_call193 (c : Int) (h : AH) : RunCall E1 (.f 193) [.val (.int .u8 c)] h (.val (.bool (decide (97 ≤ c) && decide (c ≤ 122)))) h := by
  refine call_tree (by kernel_rfl) (by kernel_rfl) (mem1 (Tree.val _)) rfl (Tree.val _) (ans1s f193_ok fun s hs hh hd => ?_) h
  have h0 := hs 0 _ rfl
  cases a : decide (97 ≤ c) <;> cases b : decide (c ≤ 122) <;> simp -implicitDefEqProofs only [f193_fn, f193, W0, W1, W2, W3, W4, W5, W6, W7, W8, St.put, Option.bind_some, Option.map_some, ↓reduceIte, Nat.reduceEqDiff, Nat.reduceAdd, Nat.reduceMul, reduceCtorEq, cond_true, cond_false, Int.reduceEq, Int.reduceLT, Int.reduceLE, if_true, if_false, h0, hh, hd, a, b]
theorem byte_to193 {c : Int} {r : List AOper} {s : St} {dst : Option Nat} {K : St → Prop} : callK E1 193 r s dst K (some [.val (.int .u8 c)]) = AM.wpOps E1 r (s.put dst (.val (.bool (decide (97 ≤ c) && decide (c ≤ 122))))) K := callK_all (byte_call193 c)
theorem byte_call195 (c : Int) (h : AH) : RunCall E1 (.f 195) [.val (.int .u8 c)] h (.val (.bool (decide (48 ≤ c) && decide (c ≤ 57)))) h := by
  refine call_tree (by kernel_rfl) (by kernel_rfl) (mem1 (Tree.val _)) rfl (Tree.val _) (ans1s f195_ok fun s hs hh hd => ?_) h
  have h0 := hs 0 _ rfl
  cases a : decide (48 ≤ c) <;> cases b : decide (c ≤ 57) <;> simp -implicitDefEqProofs only [f195_fn, f195, W0, W1, W2, W3, W4, W5, W6, W7, W8, St.put, Option.bind_some, Option.map_some, ↓reduceIte, Nat.reduceEqDiff, Nat.reduceAdd, Nat.reduceMul, reduceCtorEq, cond_true, cond_false, Int.reduceEq, Int.reduceLT, Int.reduceLE, if_true, if_false, h0, hh, hd, a, b]
theorem byte_to195 {c : Int} {r : List AOper} {s : St} {dst : Option Nat} {K : St → Prop} : callK E1 195 r s dst K (some [.val (.int .u8 c)]) = AM.wpOps E1 r (s.put dst (.val (.bool (decide (48 ≤ c) && decide (c ≤ 57))))) K := callK_all (byte_call195 c)
theorem byte_call196 (c : Int) (h : AH) : RunCall E1 (.f 196) [.val (.int .u8 c)] h (.val (.bool (decide (65 ≤ c) && decide (c ≤ 90)))) h := by
  refine call_tree (by kernel_rfl) (by kernel_rfl) (mem1 (Tree.val _)) rfl (Tree.val _) (ans1s f196_ok fun s hs hh hd => ?_) h
  have h0 := hs 0 _ rfl
  cases a : decide (65 ≤ c) <;> cases b : decide (c ≤ 90) <;> simp -implicitDefEqProofs only [f196_fn, f196, W0, W1, W2, W3, W4, W5, W6, W7, W8, St.put, Option.bind_some, Option.map_some, ↓reduceIte, Nat.reduceEqDiff, Nat.reduceAdd, Nat.reduceMul, reduceCtorEq, cond_true, cond_false, Int.reduceEq, Int.reduceLT, Int.reduceLE, if_true, if_false, h0, hh, hd, a, b]
theorem byte_to196 {c : Int} {r : List AOper} {s : St} {dst : Option Nat} {K : St → Prop} : callK E1 196 r s dst K (some [.val (.int .u8 c)]) = AM.wpOps E1 r (s.put dst (.val (.bool (decide (65 ≤ c) && decide (c ≤ 90))))) K := callK_all (byte_call196 c)
theorem byte_call280 (c : Int) (h : AH) : RunCall E1 (.f 280) [.val (.int .u8 c)] h (.val (.bool (decide (97 ≤ c) && decide (c ≤ 122)))) h := by
  refine call_tree (by kernel_rfl) (by kernel_rfl) (mem1 (Tree.val _)) rfl (Tree.val _) (ans1s f280_ok fun s hs hh hd => ?_) h
  have h0 := hs 0 _ rfl
  cases a : decide (97 ≤ c) <;> cases b : decide (c ≤ 122) <;> simp -implicitDefEqProofs only [f280_fn, f280, W0, W1, W2, W3, W4, W5, W6, W7, W8, St.put, Option.bind_some, Option.map_some, ↓reduceIte, Nat.reduceEqDiff, Nat.reduceAdd, Nat.reduceMul, reduceCtorEq, cond_true, cond_false, Int.reduceEq, Int.reduceLT, Int.reduceLE, if_true, if_false, h0, hh, hd, a, b]
theorem byte_to280 {c : Int} {r : List AOper} {s : St} {dst : Option Nat} {K : St → Prop} : callK E1 280 r s dst K (some [.val (.int .u8 c)]) = AM.wpOps E1 r (s.put dst (.val (.bool (decide (97 ≤ c) && decide (c ≤ 122))))) K := callK_all (byte_call280 c)
theorem byte_call282 (c : Int) (h : AH) : RunCall E1 (.f 282) [.val (.int .u8 c)] h (.val (.bool (decide (48 ≤ c) && decide (c ≤ 57)))) h := by
  refine call_tree (by kernel_rfl) (by kernel_rfl) (mem1 (Tree.val _)) rfl (Tree.val _) (ans1s f282_ok fun s hs hh hd => ?_) h
  have h0 := hs 0 _ rfl
  cases a : decide (48 ≤ c) <;> cases b : decide (c ≤ 57) <;> simp -implicitDefEqProofs only [f282_fn, f282, W0, W1, W2, W3, W4, W5, W6, W7, W8, St.put, Option.bind_some, Option.map_some, ↓reduceIte, Nat.reduceEqDiff, Nat.reduceAdd, Nat.reduceMul, reduceCtorEq, cond_true, cond_false, Int.reduceEq, Int.reduceLT, Int.reduceLE, if_true, if_false, h0, hh, hd, a, b]
theorem byte_to282 {c : Int} {r : List AOper} {s : St} {dst : Option Nat} {K : St → Prop} : callK E1 282 r s dst K (some [.val (.int .u8 c)]) = AM.wpOps E1 r (s.put dst (.val (.bool (decide (48 ≤ c) && decide (c ≤ 57))))) K := callK_all (byte_call282 c)
theorem byte_call283 (c : Int) (h : AH) : RunCall E1 (.f 283) [.val (.int .u8 c)] h (.val (.bool (decide (65 ≤ c) && decide (c ≤ 90)))) h := by
  refine call_tree (by kernel_rfl) (by kernel_rfl) (mem1 (Tree.val _)) rfl (Tree.val _) (ans1s f283_ok fun s hs hh hd => ?_) h
  have h0 := hs 0 _ rfl
  cases a : decide (65 ≤ c) <;> cases b : decide (c ≤ 90) <;> simp -implicitDefEqProofs only [f283_fn, f283, W0, W1, W2, W3, W4, W5, W6, W7, W8, St.put, Option.bind_some, Option.map_some, ↓reduceIte, Nat.reduceEqDiff, Nat.reduceAdd, Nat.reduceMul, reduceCtorEq, cond_true, cond_false, Int.reduceEq, Int.reduceLT, Int.reduceLE, if_true, if_false, h0, hh, hd, a, b]
theorem byte_to283 {c : Int} {r : List AOper} {s : St} {dst : Option Nat} {K : St → Prop} : callK E1 283 r s dst K (some [.val (.int .u8 c)]) = AM.wpOps E1 r (s.put dst (.val (.bool (decide (65 ≤ c) && decide (c ≤ 90))))) K := callK_all (byte_call283 c)

theorem len_str {b : ByteArray} : lenStrV (.val (.string b)) = some (.val (.int .i64 (b.size : Nat))) := rfl

theorem sized_call146 (b : ByteArray) (h : AH) : RunCall E1 (.f 146) [.val (.string b)] h (.val (.bool (decide (1 ≤ ((b.size : Nat) : Int)) && decide (((b.size : Nat) : Int) ≤ 24)))) h := by
  refine call_tree (by kernel_rfl) (by kernel_rfl) (mem1 (Tree.val _)) rfl (Tree.val _) (ans1s f146_ok fun s hs hh hd => ?_) h
  have h0 := hs 0 _ rfl
  cases x : decide (1 ≤ ((b.size : Nat) : Int)) <;> cases y : decide (((b.size : Nat) : Int) ≤ 24) <;> simp -implicitDefEqProofs only [f146_fn, f146, W0, W1, W2, W3, W4, W5, W6, W7, W8, St.put, Option.bind_some, Option.map_some, ↓reduceIte, Nat.reduceEqDiff, Nat.reduceAdd, Nat.reduceMul, reduceCtorEq, cond_true, cond_false, Int.reduceEq, Int.reduceLT, Int.reduceLE, if_true, if_false, len_str, h0, hh, hd, x, y]
theorem sized_to146 {b : ByteArray} {r : List AOper} {s : St} {dst : Option Nat} {K : St → Prop} : callK E1 146 r s dst K (some [.val (.string b)]) = AM.wpOps E1 r (s.put dst (.val (.bool (decide (1 ≤ ((b.size : Nat) : Int)) && decide (((b.size : Nat) : Int) ≤ 24))))) K := callK_all (sized_call146 b)

/-- A byte of a text. -/
theorem idx_str {b : ByteArray} {i : Nat} (h : i < b.size) : ∃ c : Nat, idxStrV (.val (.string b)) i = some (.val (.int .u8 c)) := by
  have h' : i < b.data.toList.length := by simpa using h
  refine ⟨(b.data.toList[i]).toNat, ?_⟩
  simp only [idxStrV, List.getElem?_eq_getElem h', Option.map_some]

/-- What a function answers, without saying which. -/
theorem ansE {g : Nat} {l : List AV} {a : AFun} {P : AV → Prop} (hf : funOf Tryz.prog g = some a)
    (h : ∀ s : St, (∀ i v, (enterTm l 0 .nil).get i = some v → s.eval (.t i) = some v) → s.h = .empty → s.defers = [] → wp E1 a.body s fun e s => (e = .normal ∨ e = .ret) ∧ s.defers = [] ∧ ∃ r, P r ∧ resultsA E1.globs s a.res = some [r]) : ∃ r, P r ∧ Ans E1 g l r := by
  obtain ⟨e, s', x, y1, y2, r, hp, y3⟩ := wp_run _ _ _ (h { tm := enterTm l 0 .nil, h := .empty, defers := [], round := none } (fun _ _ h => h) rfl rfl)
  refine ⟨r, hp, s'.h, x.mono fun n p => ?_⟩
  have hl : leaveA E1 a s' = some (r, s'.h) := by
    obtain ⟨tm, h1, df, rd⟩ := s'
    subst y2
    simp only [leaveA, runDefers, y3]
    rfl
  simp only [enterA, (show funOf E1.P g = some a by rw [E1_P]; exact hf), p]
  rcases y1 with rfl | rfl <;> exact hl

end Go.Proofs.YtbolilekjpoicaaGreatDoor

namespace Go.Proofs.YtbolilekjpoicaaGreatDoor
open Go Go.AM
set_option linter.all false
set_option maxHeartbeats 4000000

theorem f147_loop (b : ByteArray) (hb : b.size < 2 ^ 61) : ∀ (n i : Nat) (s : St), i + n = b.size → s.eval (.t 0) = some (.val (.string b)) → s.eval (.t 3) = some (.val (.int .i64 i)) → s.defers = [] →
    Run E1 f147_l0 s fun e s' => s'.defers = [] ∧ (e = .exit 0 ∨ e = .ret ∧ ∃ x, s'.eval (.t 2) = some (.val (.bool x)))
  | 0, i, s, hi, h0, h3, hd => by
    have hlt : decide ((i : Int) < (b.size : Nat)) = false := decide_eq_false (by omega)
    apply loop_of (rfl : f147_l0 = .loop f147_b0)
    simp -implicitDefEqProofs only [f147_b0, W0, W1, W2, W3, W4, W5, W6, W7, W8, St.put, Option.bind_some, Option.map_some, ↓reduceIte, Nat.reduceEqDiff, Nat.reduceAdd, Nat.reduceMul, reduceCtorEq, cond_true, cond_false, Int.reduceEq, Int.reduceLT, Int.reduceLE, if_true, if_false, len_str, h0, h3, hd, hlt]
  | n + 1, i, s, hi, h0, h3, hd => by
    have hlt : decide ((i : Int) < (b.size : Nat)) = true := decide_eq_true (by omega)
    have w1 : IntKind.i64.wrap ((i : Int) + 1) = ((i + 1 : Nat) : Int) := wrap_nat (n := i + 1) (by omega)
    obtain ⟨c, hc⟩ := idx_str (b := b) (i := i) (by omega)
    obtain ⟨B1, e1⟩ : ∃ B, (decide (97 ≤ (c : Int)) && decide ((c : Int) ≤ 122)) = B := ⟨_, rfl⟩
    obtain ⟨B2, e2⟩ : ∃ B, (decide (65 ≤ (c : Int)) && decide ((c : Int) ≤ 90)) = B := ⟨_, rfl⟩
    obtain ⟨B3, e3⟩ : ∃ B, (decide (48 ≤ (c : Int)) && decide ((c : Int) ≤ 57)) = B := ⟨_, rfl⟩
    apply loop_of (rfl : f147_l0 = .loop f147_b0)
    cases B1 <;> cases B2 <;> cases B3 <;> simp -implicitDefEqProofs only [f147_b0, W0, W1, W2, W3, W4, W5, W6, W7, W8, St.put, Option.bind_some, Option.map_some, ↓reduceIte, Nat.reduceEqDiff, Nat.reduceAdd, Nat.reduceMul, reduceCtorEq, cond_true, cond_false, Int.reduceEq, Int.reduceLT, Int.reduceLE, if_true, if_false, len_str, h0, h3, hd, hlt, w1, hc, byte_to193, byte_to195, byte_to196, e1, e2, e3]
    all_goals first
      | exact ⟨_, rfl⟩
      | exact .inr ⟨_, rfl⟩
      | (refine f147_loop b hb n (i + 1) _ (by omega) ?_ ?_ ?_ <;> simp -implicitDefEqProofs only [W0, W1, W2, W3, W4, W5, W6, W7, W8, St.put, Option.bind_some, Option.map_some, ↓reduceIte, Nat.reduceEqDiff, Nat.reduceAdd, Nat.reduceMul, reduceCtorEq, cond_true, cond_false, Int.reduceEq, Int.reduceLT, Int.reduceLE, if_true, if_false, h0, hd])

theorem alnum_ans (b : ByteArray) (hb : b.size < 2 ^ 61) : ∃ x, ∀ h, RunCall E1 (.f 147) [.val (.string b)] h (.val (.bool x)) h := by
  obtain ⟨r, ⟨x, hx⟩, ha⟩ := ansE (g := 147) (l := [.val (.string b)]) (P := fun r => ∃ x, r = .val (.bool x)) f147_ok fun s hs hh hd => by
    have h0 := hs 0 _ rfl
    simp -implicitDefEqProofs only [f147_fn, f147, W0, W1, W2, W3, W4, W5, W6, W7, W8, St.put, Option.bind_some, Option.map_some, ↓reduceIte, Nat.reduceEqDiff, Nat.reduceAdd, Nat.reduceMul, reduceCtorEq, cond_true, cond_false, Int.reduceEq, Int.reduceLT, Int.reduceLE, if_true, if_false, h0, hh, hd]
    refine (f147_loop b hb b.size 0 _ (by omega) ?_ ?_ ?_).mono ?_
    · simp -implicitDefEqProofs only [W0, W1, W2, W3, W4, W5, W6, W7, W8, St.put, Option.bind_some, Option.map_some, ↓reduceIte, Nat.reduceEqDiff, Nat.reduceAdd, Nat.reduceMul, reduceCtorEq, cond_true, cond_false, Int.reduceEq, Int.reduceLT, Int.reduceLE, if_true, if_false, h0]
    · simp -implicitDefEqProofs only [W0, W1, W2, W3, W4, W5, W6, W7, W8, St.put, Option.bind_some, Option.map_some, ↓reduceIte, Nat.reduceEqDiff, Nat.reduceAdd, Nat.reduceMul, reduceCtorEq, cond_true, cond_false, Int.reduceEq, Int.reduceLT, Int.reduceLE, if_true, if_false] <;> rfl
    · simp -implicitDefEqProofs only [W0, W1, W2, W3, W4, W5, W6, W7, W8, St.put, Option.bind_some, Option.map_some, ↓reduceIte, Nat.reduceEqDiff, Nat.reduceAdd, Nat.reduceMul, reduceCtorEq, cond_true, cond_false, Int.reduceEq, Int.reduceLT, Int.reduceLE, if_true, if_false, hd]
    · rintro e s' ⟨hf, rfl | ⟨rfl, x, h2⟩⟩
      · have : Nat.beq 0 0 = true := rfl
        simp -implicitDefEqProofs only [W0, W1, W2, W3, W4, W5, W6, W7, W8, St.put, Option.bind_some, Option.map_some, ↓reduceIte, Nat.reduceEqDiff, Nat.reduceAdd, Nat.reduceMul, reduceCtorEq, cond_true, cond_false, Int.reduceEq, Int.reduceLT, Int.reduceLE, if_true, if_false, this, hf]
        exact ⟨_, ⟨_, rfl⟩, rfl⟩
      · simp -implicitDefEqProofs only [W0, W1, W2, W3, W4, W5, W6, W7, W8, St.put, Option.bind_some, Option.map_some, ↓reduceIte, Nat.reduceEqDiff, Nat.reduceAdd, Nat.reduceMul, reduceCtorEq, cond_true, cond_false, Int.reduceEq, Int.reduceLT, Int.reduceLE, if_true, if_false, hf, h2]
        exact ⟨_, ⟨_, rfl⟩, rfl⟩
  subst hx
  exact ⟨x, call_tree (by kernel_rfl) (by kernel_rfl) (mem1 (Tree.val _)) rfl (Tree.val _) ha⟩

theorem f148_loop (b : ByteArray) (hb : b.size < 2 ^ 61) : ∀ (n i : Nat) (s : St), i + n = b.size → s.eval (.t 0) = some (.val (.string b)) → s.eval (.t 3) = some (.val (.int .i64 i)) → s.defers = [] →
    Run E1 f148_l0 s fun e s' => s'.defers = [] ∧ (e = .exit 0 ∨ e = .ret ∧ ∃ x, s'.eval (.t 2) = some (.val (.bool x)))
  | 0, i, s, hi, h0, h3, hd => by
    have hlt : decide ((i : Int) < (b.size : Nat)) = false := decide_eq_false (by omega)
    apply loop_of (rfl : f148_l0 = .loop f148_b0)
    simp -implicitDefEqProofs only [f148_b0, W0, W1, W2, W3, W4, W5, W6, W7, W8, St.put, Option.bind_some, Option.map_some, ↓reduceIte, Nat.reduceEqDiff, Nat.reduceAdd, Nat.reduceMul, reduceCtorEq, cond_true, cond_false, Int.reduceEq, Int.reduceLT, Int.reduceLE, if_true, if_false, len_str, h0, h3, hd, hlt]
  | n + 1, i, s, hi, h0, h3, hd => by
    have hlt : decide ((i : Int) < (b.size : Nat)) = true := decide_eq_true (by omega)
    have w1 : IntKind.i64.wrap ((i : Int) + 1) = ((i + 1 : Nat) : Int) := wrap_nat (n := i + 1) (by omega)
    obtain ⟨c, hc⟩ := idx_str (b := b) (i := i) (by omega)
    obtain ⟨B1, e1⟩ : ∃ B, (decide (97 ≤ (c : Int)) && decide ((c : Int) ≤ 122)) = B := ⟨_, rfl⟩
    obtain ⟨B2, e2⟩ : ∃ B, decide ((c : Int) = 95) = B := ⟨_, rfl⟩
    obtain ⟨B4, e4⟩ : ∃ B, decide ((i : Int) = 0) = B := ⟨_, rfl⟩
    obtain ⟨B3, e3⟩ : ∃ B, (decide (48 ≤ (c : Int)) && decide ((c : Int) ≤ 57)) = B := ⟨_, rfl⟩
    apply loop_of (rfl : f148_l0 = .loop f148_b0)
    cases B1 <;> cases B2 <;> cases B3 <;> cases B4 <;> simp -implicitDefEqProofs only [f148_b0, W0, W1, W2, W3, W4, W5, W6, W7, W8, St.put, Option.bind_some, Option.map_some, ↓reduceIte, Nat.reduceEqDiff, Nat.reduceAdd, Nat.reduceMul, reduceCtorEq, cond_true, cond_false, Int.reduceEq, Int.reduceLT, Int.reduceLE, if_true, if_false, len_str, h0, h3, hd, hlt, w1, hc, byte_to193, byte_to195, e1, e2, e3, e4]
    all_goals first
      | exact ⟨_, rfl⟩
      | exact .inr ⟨_, rfl⟩
      | (refine f148_loop b hb n (i + 1) _ (by omega) ?_ ?_ ?_ <;> simp -implicitDefEqProofs only [W0, W1, W2, W3, W4, W5, W6, W7, W8, St.put, Option.bind_some, Option.map_some, ↓reduceIte, Nat.reduceEqDiff, Nat.reduceAdd, Nat.reduceMul, reduceCtorEq, cond_true, cond_false, Int.reduceEq, Int.reduceLT, Int.reduceLE, if_true, if_false, h0, hd])

theorem word_ans (b : ByteArray) (hb : b.size < 2 ^ 61) : ∃ x, ∀ h, RunCall E1 (.f 148) [.val (.string b)] h (.val (.bool x)) h := by
  obtain ⟨r, ⟨x, hx⟩, ha⟩ := ansE (g := 148) (l := [.val (.string b)]) (P := fun r => ∃ x, r = .val (.bool x)) f148_ok fun s hs hh hd => by
    have h0 := hs 0 _ rfl
    simp -implicitDefEqProofs only [f148_fn, f148, W0, W1, W2, W3, W4, W5, W6, W7, W8, St.put, Option.bind_some, Option.map_some, ↓reduceIte, Nat.reduceEqDiff, Nat.reduceAdd, Nat.reduceMul, reduceCtorEq, cond_true, cond_false, Int.reduceEq, Int.reduceLT, Int.reduceLE, if_true, if_false, h0, hh, hd]
    refine (f148_loop b hb b.size 0 _ (by omega) ?_ ?_ ?_).mono ?_
    · simp -implicitDefEqProofs only [W0, W1, W2, W3, W4, W5, W6, W7, W8, St.put, Option.bind_some, Option.map_some, ↓reduceIte, Nat.reduceEqDiff, Nat.reduceAdd, Nat.reduceMul, reduceCtorEq, cond_true, cond_false, Int.reduceEq, Int.reduceLT, Int.reduceLE, if_true, if_false, h0]
    · simp -implicitDefEqProofs only [W0, W1, W2, W3, W4, W5, W6, W7, W8, St.put, Option.bind_some, Option.map_some, ↓reduceIte, Nat.reduceEqDiff, Nat.reduceAdd, Nat.reduceMul, reduceCtorEq, cond_true, cond_false, Int.reduceEq, Int.reduceLT, Int.reduceLE, if_true, if_false] <;> rfl
    · simp -implicitDefEqProofs only [W0, W1, W2, W3, W4, W5, W6, W7, W8, St.put, Option.bind_some, Option.map_some, ↓reduceIte, Nat.reduceEqDiff, Nat.reduceAdd, Nat.reduceMul, reduceCtorEq, cond_true, cond_false, Int.reduceEq, Int.reduceLT, Int.reduceLE, if_true, if_false, hd]
    · rintro e s' ⟨hf, rfl | ⟨rfl, x, h2⟩⟩
      · have : Nat.beq 0 0 = true := rfl
        simp -implicitDefEqProofs only [W0, W1, W2, W3, W4, W5, W6, W7, W8, St.put, Option.bind_some, Option.map_some, ↓reduceIte, Nat.reduceEqDiff, Nat.reduceAdd, Nat.reduceMul, reduceCtorEq, cond_true, cond_false, Int.reduceEq, Int.reduceLT, Int.reduceLE, if_true, if_false, this, hf]
        exact ⟨_, ⟨_, rfl⟩, rfl⟩
      · simp -implicitDefEqProofs only [W0, W1, W2, W3, W4, W5, W6, W7, W8, St.put, Option.bind_some, Option.map_some, ↓reduceIte, Nat.reduceEqDiff, Nat.reduceAdd, Nat.reduceMul, reduceCtorEq, cond_true, cond_false, Int.reduceEq, Int.reduceLT, Int.reduceLE, if_true, if_false, hf, h2]
        exact ⟨_, ⟨_, rfl⟩, rfl⟩
  subst hx
  exact ⟨x, call_tree (by kernel_rfl) (by kernel_rfl) (mem1 (Tree.val _)) rfl (Tree.val _) ha⟩

theorem title_ans (b : ByteArray) (hb : b.size < 2 ^ 61) : ∃ x, ∀ h, RunCall E1 (.f 145) [.val (.string b)] h (.val (.bool x)) h := by
  obtain ⟨A, hA⟩ := alnum_ans b hb
  obtain ⟨r, ⟨x, hx⟩, ha⟩ := ansE (g := 145) (l := [.val (.string b)]) (P := fun r => ∃ x, r = .val (.bool x)) f145_ok fun s hs hh hd => by
    have h0 := hs 0 _ rfl
    by_cases hz : 1 ≤ b.size
    · obtain ⟨c, hc⟩ := idx_str (b := b) (i := 0) (by omega)
      have z1 : decide (1 ≤ ((b.size : Nat) : Int)) = true := decide_eq_true (by omega)
      obtain ⟨B0, e0⟩ : ∃ B, decide (((b.size : Nat) : Int) ≤ 24) = B := ⟨_, rfl⟩
      obtain ⟨B2, e2⟩ : ∃ B, (decide (65 ≤ (c : Int)) && decide ((c : Int) ≤ 90)) = B := ⟨_, rfl⟩
      cases B0 <;> cases B2 <;> cases A <;> try (simp -implicitDefEqProofs only [f145_fn, f145, W0, W1, W2, W3, W4, W5, W6, W7, W8, St.put, Option.bind_some, Option.map_some, ↓reduceIte, Nat.reduceEqDiff, Nat.reduceAdd, Nat.reduceMul, reduceCtorEq, cond_true, cond_false, Int.reduceEq, Int.reduceLT, Int.reduceLE, if_true, if_false, h0, hh, hd, sized_to146, byte_to196, callK_all hA, hc, z1, e0, e2]; exact ⟨_, ⟨_, rfl⟩, rfl⟩)
      obtain ⟨s1, q1⟩ : ∃ B, strEq b ⟨#[73, 110, 116]⟩ = B := ⟨_, rfl⟩
      obtain ⟨s2, q2⟩ : ∃ B, strEq b ⟨#[66, 111, 111, 108]⟩ = B := ⟨_, rfl⟩
      obtain ⟨s3, q3⟩ : ∃ B, strEq b ⟨#[67, 101, 108, 108]⟩ = B := ⟨_, rfl⟩
      obtain ⟨s4, q4⟩ : ∃ B, strEq b ⟨#[70, 117, 110]⟩ = B := ⟨_, rfl⟩
      cases s1 <;> cases s2 <;> cases s3 <;> cases s4 <;> (simp -implicitDefEqProofs only [f145_fn, f145, W0, W1, W2, W3, W4, W5, W6, W7, W8, St.put, Option.bind_some, Option.map_some, ↓reduceIte, Nat.reduceEqDiff, Nat.reduceAdd, Nat.reduceMul, reduceCtorEq, cond_true, cond_false, Int.reduceEq, Int.reduceLT, Int.reduceLE, if_true, if_false, h0, hh, hd, sized_to146, byte_to196, callK_all hA, hc, z1, e0, e2, q1, q2, q3, q4]; exact ⟨_, ⟨_, rfl⟩, rfl⟩)
    · have z1 : decide (1 ≤ ((b.size : Nat) : Int)) = false := decide_eq_false (by omega)
      simp -implicitDefEqProofs only [f145_fn, f145, W0, W1, W2, W3, W4, W5, W6, W7, W8, St.put, Option.bind_some, Option.map_some, ↓reduceIte, Nat.reduceEqDiff, Nat.reduceAdd, Nat.reduceMul, reduceCtorEq, cond_true, cond_false, Int.reduceEq, Int.reduceLT, Int.reduceLE, if_true, if_false, h0, hh, hd, sized_to146, z1]
      exact ⟨_, ⟨_, rfl⟩, rfl⟩
  subst hx
  exact ⟨x, call_tree (by kernel_rfl) (by kernel_rfl) (mem1 (Tree.val _)) rfl (Tree.val _) ha⟩

end Go.Proofs.YtbolilekjpoicaaGreatDoor

namespace Go.Proofs.YtbolilekjpoicaaGreatDoor
open Go Go.AM
set_option linter.all false
set_option maxHeartbeats 4000000

def isStrO : Option AV → Bool
  | some (.val (.string _)) => true
  | _ => false
theorem isStrO_some {o : Option AV} (h : isStrO o = true) : ∃ b, o = some (.val (.string b)) := by
  unfold isStrO at h
  split at h
  · exact ⟨_, rfl⟩
  · cases h

theorem kw_cells : cellsFrom E1.globs .empty (.val (.pointer (some ⟨0, 0, none⟩))) = some keywordCells := by kernel_rfl
theorem kw_take : takeN (some 42) keywordCells = some (.agg keywordCells) := by kernel_rfl
theorem kw_all : (List.range 42).all (fun i => isStrO (idxAV 42 1 none (.agg keywordCells) i)) = true := by kernel_rfl
theorem kw_at {i : Nat} (h : i < 42) : ∃ b, idxAV 42 1 none (.agg keywordCells) i = some (.val (.string b)) :=
  isStrO_some (List.all_eq_true.1 kw_all i (List.mem_range.2 h))

theorem f194_loop (b : ByteArray) : ∀ (n i : Nat) (s : St), i + n = 42 → s.eval (.t 0) = some (.val (.string b)) → s.eval (.t 5) = some (.agg keywordCells) → s.eval (.t 6) = some (.val (.int .i64 i)) → s.defers = [] →
    Run E1 f194_l0 s fun e s' => s'.defers = [] ∧ (e = .exit 0 ∨ e = .ret ∧ ∃ x, s'.eval (.t 2) = some (.val (.bool x)))
  | 0, i, s, hi, h0, h5, h3, hd => by
    have hlt : decide ((i : Int) < 42) = false := decide_eq_false (by omega)
    apply loop_of (rfl : f194_l0 = .loop f194_b0)
    simp -implicitDefEqProofs only [f194_b0, W0, W1, W2, W3, W4, W5, W6, W7, W8, St.put, Option.bind_some, Option.map_some, ↓reduceIte, Nat.reduceEqDiff, Nat.reduceAdd, Nat.reduceMul, reduceCtorEq, cond_true, cond_false, Int.reduceEq, Int.reduceLT, Int.reduceLE, if_true, if_false, h0, h3, hd, hlt]
  | n + 1, i, s, hi, h0, h5, h3, hd => by
    have hlt : decide ((i : Int) < 42) = true := decide_eq_true (by omega)
    have w1 : IntKind.i64.wrap ((i : Int) + 1) = ((i + 1 : Nat) : Int) := wrap_nat (n := i + 1) (by omega)
    obtain ⟨c, hc⟩ := kw_at (i := i) (by omega)
    obtain ⟨B1, e1⟩ : ∃ B, strEq c b = B := ⟨_, rfl⟩
    apply loop_of (rfl : f194_l0 = .loop f194_b0)
    cases B1 <;> simp -implicitDefEqProofs only [f194_b0, W0, W1, W2, W3, W4, W5, W6, W7, W8, St.put, Option.bind_some, Option.map_some, ↓reduceIte, Nat.reduceEqDiff, Nat.reduceAdd, Nat.reduceMul, reduceCtorEq, cond_true, cond_false, Int.reduceEq, Int.reduceLT, Int.reduceLE, if_true, if_false, s_idxA, idxAO_some, h0, h3, h5, hd, hlt, w1, hc, e1]
    all_goals first
      | exact ⟨_, rfl⟩
      | exact .inr ⟨_, rfl⟩
      | (refine f194_loop b n (i + 1) _ (by omega) ?_ ?_ ?_ ?_ <;> simp -implicitDefEqProofs only [W0, W1, W2, W3, W4, W5, W6, W7, W8, St.put, Option.bind_some, Option.map_some, ↓reduceIte, Nat.reduceEqDiff, Nat.reduceAdd, Nat.reduceMul, reduceCtorEq, cond_true, cond_false, Int.reduceEq, Int.reduceLT, Int.reduceLE, if_true, if_false, h0, h5, hd])

theorem keyw_ans (b : ByteArray) : ∃ x, ∀ h, RunCall E1 (.f 194) [.val (.string b)] h (.val (.bool x)) h := by
  obtain ⟨r, ⟨x, hx⟩, ha⟩ := ansE (g := 194) (l := [.val (.string b)]) (P := fun r => ∃ x, r = .val (.bool x)) f194_ok fun s hs hh hd => by
    have h0 := hs 0 _ rfl
    simp -implicitDefEqProofs only [f194_fn, f194, W0, W1, W2, W3, W4, W5, W6, W7, W8, St.put, Option.bind_some, Option.map_some, ↓reduceIte, Nat.reduceEqDiff, Nat.reduceAdd, Nat.reduceMul, reduceCtorEq, cond_true, cond_false, Int.reduceEq, Int.reduceLT, Int.reduceLE, if_true, if_false, h0, hh, hd, kw_cells, kw_take]
    refine (f194_loop b 42 0 _ (by omega) ?_ ?_ ?_ ?_).mono ?_
    · simp -implicitDefEqProofs only [W0, W1, W2, W3, W4, W5, W6, W7, W8, St.put, Option.bind_some, Option.map_some, ↓reduceIte, Nat.reduceEqDiff, Nat.reduceAdd, Nat.reduceMul, reduceCtorEq, cond_true, cond_false, Int.reduceEq, Int.reduceLT, Int.reduceLE, if_true, if_false, h0]
    · simp -implicitDefEqProofs only [W0, W1, W2, W3, W4, W5, W6, W7, W8, St.put, Option.bind_some, Option.map_some, ↓reduceIte, Nat.reduceEqDiff, Nat.reduceAdd, Nat.reduceMul, reduceCtorEq, cond_true, cond_false, Int.reduceEq, Int.reduceLT, Int.reduceLE, if_true, if_false] <;> rfl
    · simp -implicitDefEqProofs only [W0, W1, W2, W3, W4, W5, W6, W7, W8, St.put, Option.bind_some, Option.map_some, ↓reduceIte, Nat.reduceEqDiff, Nat.reduceAdd, Nat.reduceMul, reduceCtorEq, cond_true, cond_false, Int.reduceEq, Int.reduceLT, Int.reduceLE, if_true, if_false] <;> rfl
    · simp -implicitDefEqProofs only [W0, W1, W2, W3, W4, W5, W6, W7, W8, St.put, Option.bind_some, Option.map_some, ↓reduceIte, Nat.reduceEqDiff, Nat.reduceAdd, Nat.reduceMul, reduceCtorEq, cond_true, cond_false, Int.reduceEq, Int.reduceLT, Int.reduceLE, if_true, if_false, hd]
    · rintro e s' ⟨hf, rfl | ⟨rfl, x, h2⟩⟩
      · have : Nat.beq 0 0 = true := rfl
        simp -implicitDefEqProofs only [W0, W1, W2, W3, W4, W5, W6, W7, W8, St.put, Option.bind_some, Option.map_some, ↓reduceIte, Nat.reduceEqDiff, Nat.reduceAdd, Nat.reduceMul, reduceCtorEq, cond_true, cond_false, Int.reduceEq, Int.reduceLT, Int.reduceLE, if_true, if_false, this, hf]
        exact ⟨_, ⟨_, rfl⟩, rfl⟩
      · simp -implicitDefEqProofs only [W0, W1, W2, W3, W4, W5, W6, W7, W8, St.put, Option.bind_some, Option.map_some, ↓reduceIte, Nat.reduceEqDiff, Nat.reduceAdd, Nat.reduceMul, reduceCtorEq, cond_true, cond_false, Int.reduceEq, Int.reduceLT, Int.reduceLE, if_true, if_false, hf, h2]
        exact ⟨_, ⟨_, rfl⟩, rfl⟩
  subst hx
  exact ⟨x, call_tree (by kernel_rfl) (by kernel_rfl) (mem1 (Tree.val _)) rfl (Tree.val _) ha⟩

end Go.Proofs.YtbolilekjpoicaaGreatDoor

namespace Go.Proofs.YtbolilekjpoicaaGreatDoor
open Go Go.AM
set_option linter.all false
set_option maxHeartbeats 4000000

theorem f144_loop (b : ByteArray) (hb : b.size < 2 ^ 61) : ∀ (n i : Nat) (s : St), i + n = b.size → s.eval (.t 0) = some (.val (.string b)) → s.eval (.t 3) = some (.val (.int .i64 i)) → s.defers = [] →
    Run E1 f144_l0 s fun e s' => s'.defers = [] ∧ (e = .exit 0 ∨ e = .ret ∧ ∃ x, s'.eval (.t 2) = some (.val (.bool x)))
  | 0, i, s, hi, h0, h3, hd => by
    have hlt : decide ((i : Int) < (b.size : Nat)) = false := decide_eq_false (by omega)
    apply loop_of (rfl : f144_l0 = .loop f144_b0)
    simp -implicitDefEqProofs only [f144_b0, W0, W1, W2, W3, W4, W5, W6, W7, W8, St.put, Option.bind_some, Option.map_some, ↓reduceIte, Nat.reduceEqDiff, Nat.reduceAdd, Nat.reduceMul, reduceCtorEq, cond_true, cond_false, Int.reduceEq, Int.reduceLT, Int.reduceLE, if_true, if_false, len_str, h0, h3, hd, hlt]
  | n + 1, i, s, hi, h0, h3, hd => by
    have hlt : decide ((i : Int) < (b.size : Nat)) = true := decide_eq_true (by omega)
    have w1 : IntKind.i64.wrap ((i : Int) + 1) = ((i + 1 : Nat) : Int) := wrap_nat (n := i + 1) (by omega)
    obtain ⟨c, hc⟩ := idx_str (b := b) (i := i) (by omega)
    obtain ⟨B1, e1⟩ : ∃ B, (decide (97 ≤ (c : Int)) && decide ((c : Int) ≤ 122)) = B := ⟨_, rfl⟩
    obtain ⟨B2, e2⟩ : ∃ B, decide ((c : Int) = 95) = B := ⟨_, rfl⟩
    obtain ⟨B3, e3⟩ : ∃ B, (decide (48 ≤ (c : Int)) && decide ((c : Int) ≤ 57)) = B := ⟨_, rfl⟩
    apply loop_of (rfl : f144_l0 = .loop f144_b0)
    cases B1 <;> cases B2 <;> cases B3 <;> simp -implicitDefEqProofs only [f144_b0, W0, W1, W2, W3, W4, W5, W6, W7, W8, St.put, Option.bind_some, Option.map_some, ↓reduceIte, Nat.reduceEqDiff, Nat.reduceAdd, Nat.reduceMul, reduceCtorEq, cond_true, cond_false, Int.reduceEq, Int.reduceLT, Int.reduceLE, if_true, if_false, len_str, h0, h3, hd, hlt, w1, hc, byte_to193, byte_to195, e1, e2, e3]
    all_goals first
      | exact ⟨_, rfl⟩
      | exact .inr ⟨_, rfl⟩
      | (refine f144_loop b hb n (i + 1) _ (by omega) ?_ ?_ ?_ <;> simp -implicitDefEqProofs only [W0, W1, W2, W3, W4, W5, W6, W7, W8, St.put, Option.bind_some, Option.map_some, ↓reduceIte, Nat.reduceEqDiff, Nat.reduceAdd, Nat.reduceMul, reduceCtorEq, cond_true, cond_false, Int.reduceEq, Int.reduceLT, Int.reduceLE, if_true, if_false, h0, hd])


theorem name_ans (b : ByteArray) (hb : b.size < 2 ^ 61) : ∃ x, ∀ h, RunCall E1 (.f 144) [.val (.string b)] h (.val (.bool x)) h := by
  obtain ⟨A, hA⟩ := keyw_ans b
  obtain ⟨r, ⟨x, hx⟩, ha⟩ := ansE (g := 144) (l := [.val (.string b)]) (P := fun r => ∃ x, r = .val (.bool x)) f144_ok fun s hs hh hd => by
    have h0 := hs 0 _ rfl
    by_cases hz : 1 ≤ b.size
    · obtain ⟨c, hc⟩ := idx_str (b := b) (i := 0) (by omega)
      have z1 : decide (1 ≤ ((b.size : Nat) : Int)) = true := decide_eq_true (by omega)
      obtain ⟨B0, e0⟩ : ∃ B, decide (((b.size : Nat) : Int) ≤ 24) = B := ⟨_, rfl⟩
      obtain ⟨B2, e2⟩ : ∃ B, (decide (97 ≤ (c : Int)) && decide ((c : Int) ≤ 122)) = B := ⟨_, rfl⟩
      cases B0 <;> cases B2 <;> cases A <;> try (simp -implicitDefEqProofs only [f144_fn, f144, W0, W1, W2, W3, W4, W5, W6, W7, W8, St.put, Option.bind_some, Option.map_some, ↓reduceIte, Nat.reduceEqDiff, Nat.reduceAdd, Nat.reduceMul, reduceCtorEq, cond_true, cond_false, Int.reduceEq, Int.reduceLT, Int.reduceLE, if_true, if_false, h0, hh, hd, sized_to146, byte_to193, callK_all hA, hc, z1, e0, e2]; exact ⟨_, ⟨_, rfl⟩, rfl⟩)
      simp -implicitDefEqProofs only [f144_fn, f144, W0, W1, W2, W3, W4, W5, W6, W7, W8, St.put, Option.bind_some, Option.map_some, ↓reduceIte, Nat.reduceEqDiff, Nat.reduceAdd, Nat.reduceMul, reduceCtorEq, cond_true, cond_false, Int.reduceEq, Int.reduceLT, Int.reduceLE, if_true, if_false, h0, hh, hd, sized_to146, byte_to193, callK_all hA, hc, z1, e0, e2]
      refine (f144_loop b hb (b.size - 1) 1 _ (by omega) ?_ ?_ ?_).mono ?_
      · simp -implicitDefEqProofs only [W0, W1, W2, W3, W4, W5, W6, W7, W8, St.put, Option.bind_some, Option.map_some, ↓reduceIte, Nat.reduceEqDiff, Nat.reduceAdd, Nat.reduceMul, reduceCtorEq, cond_true, cond_false, Int.reduceEq, Int.reduceLT, Int.reduceLE, if_true, if_false, h0]
      · simp -implicitDefEqProofs only [W0, W1, W2, W3, W4, W5, W6, W7, W8, St.put, Option.bind_some, Option.map_some, ↓reduceIte, Nat.reduceEqDiff, Nat.reduceAdd, Nat.reduceMul, reduceCtorEq, cond_true, cond_false, Int.reduceEq, Int.reduceLT, Int.reduceLE, if_true, if_false] <;> rfl
      · simp -implicitDefEqProofs only [W0, W1, W2, W3, W4, W5, W6, W7, W8, St.put, Option.bind_some, Option.map_some, ↓reduceIte, Nat.reduceEqDiff, Nat.reduceAdd, Nat.reduceMul, reduceCtorEq, cond_true, cond_false, Int.reduceEq, Int.reduceLT, Int.reduceLE, if_true, if_false, hd]
      · rintro e s' ⟨hf, rfl | ⟨rfl, x, h2⟩⟩
        · have : Nat.beq 0 0 = true := rfl
          simp -implicitDefEqProofs only [W0, W1, W2, W3, W4, W5, W6, W7, W8, St.put, Option.bind_some, Option.map_some, ↓reduceIte, Nat.reduceEqDiff, Nat.reduceAdd, Nat.reduceMul, reduceCtorEq, cond_true, cond_false, Int.reduceEq, Int.reduceLT, Int.reduceLE, if_true, if_false, this, hf]
          exact ⟨_, ⟨_, rfl⟩, rfl⟩
        · simp -implicitDefEqProofs only [W0, W1, W2, W3, W4, W5, W6, W7, W8, St.put, Option.bind_some, Option.map_some, ↓reduceIte, Nat.reduceEqDiff, Nat.reduceAdd, Nat.reduceMul, reduceCtorEq, cond_true, cond_false, Int.reduceEq, Int.reduceLT, Int.reduceLE, if_true, if_false, hf, h2]
          exact ⟨_, ⟨_, rfl⟩, rfl⟩
    · have z1 : decide (1 ≤ ((b.size : Nat) : Int)) = false := decide_eq_false (by omega)
      simp -implicitDefEqProofs only [f144_fn, f144, W0, W1, W2, W3, W4, W5, W6, W7, W8, St.put, Option.bind_some, Option.map_some, ↓reduceIte, Nat.reduceEqDiff, Nat.reduceAdd, Nat.reduceMul, reduceCtorEq, cond_true, cond_false, Int.reduceEq, Int.reduceLT, Int.reduceLE, if_true, if_false, h0, hh, hd, sized_to146, z1]
      exact ⟨_, ⟨_, rfl⟩, rfl⟩
  subst hx
  exact ⟨x, call_tree (by kernel_rfl) (by kernel_rfl) (mem1 (Tree.val _)) rfl (Tree.val _) ha⟩

end Go.Proofs.YtbolilekjpoicaaGreatDoor

namespace Go.Proofs.YtbolilekjpoicaaGreatDoor
open Go Go.AM
set_option linter.all false
set_option maxHeartbeats 4000000

theorem quiet_app {l : List DRec} {x : DRec} (h : ∀ y ∈ l, Quiet y) (k : Quiet x) : ∀ y ∈ l ++ [x], Quiet y := fun y hy => by
  rcases List.mem_append.1 hy with a | a
  · exact h y a
  · rw [List.mem_singleton.1 a]; exact k

section
variable {E : Env} {s : St} {K : St → Prop} {r : List DOp} {done : List DRec}

theorem flat1 {t : Nat} {v : Value} (hv : s.eval (.t t) = some (.val v)) : idsL (pickTm s.tm [t]).vals = [] :=
  reads_flat fun i hi x hx => by
    rw [List.mem_singleton.1 hi] at hx
    have hg : s.tm.get t = some (.val v) := hv
    rw [hg] at hx
    cases hx
    rfl
theorem flat2 {t u : Nat} {v w : Value} (hv : s.eval (.t t) = some (.val v)) (hw : s.eval (.t u) = some (.val w)) : idsL (pickTm s.tm [t, u]).vals = [] :=
  reads_flat fun i hi x hx => by
    have hg : s.tm.get t = some (.val v) := hv
    have hg2 : s.tm.get u = some (.val w) := hw
    simp only [List.mem_cons, List.mem_nil_iff, or_false] at hi
    rcases hi with rfl | rfl
    · rw [hg] at hx; cases hx; rfl
    · rw [hg2] at hx; cases hx; rfl
theorem seen_eval {l : List Nat} {t : Nat} (h : t ∈ l) : (AM.seen s l []).tm.get t = s.tm.get t := by
  simp only [AM.seen, pickTm_get, if_pos h]

/-- A drawn move. -/
theorem draw_mv {t d : Nat} {fr : List Nat} {v : Value} (hq : ∀ x ∈ done, Quiet x) (hf : ∀ i ∈ fr, i < done.length) (hv : s.eval (.t t) = some (.val v))
    (k : ∀ rec, Quiet rec → DrawTo E r (done ++ [rec]) (s.set d (.val v)) K) : DrawTo E (⟨⟨some d, none, .mv (.t t)⟩, [t], fr⟩ :: r) done s K := by
  have hg : s.tm.get t = some (.val v) := hv
  refine draw_flat (v := .val v) hq hf rfl rfl (flat1 hv) (fun _ => rfl) (fun _ => rfl) ?_ k
  simp only [runOp, St.eval, seen_eval (List.mem_singleton.2 rfl : t ∈ [t]), hg]
  rfl

theorem draw_mvc {d : Nat} {fr : List Nat} {v : Value} (hq : ∀ x ∈ done, Quiet x) (hf : ∀ i ∈ fr, i < done.length)
    (k : ∀ rec, Quiet rec → DrawTo E r (done ++ [rec]) (s.set d (.val v)) K) : DrawTo E (⟨⟨some d, none, .mv (.c (.val v))⟩, [], fr⟩ :: r) done s K := by
  refine draw_flat (v := .val v) hq hf rfl rfl rfl (fun _ => rfl) (fun _ => rfl) ?_ k
  rfl

theorem draw_inc {t d : Nat} {ty : TypeId} {g : Bool} {fr : List Nat} {n : Int} (hq : ∀ x ∈ done, Quiet x) (hf : ∀ i ∈ fr, i < done.length) (hv : s.eval (.t t) = some (.val (.int .i64 n)))
    (k : ∀ rec, Quiet rec → DrawTo E r (done ++ [rec]) (s.set d (.val (.int .i64 (IntKind.i64.wrap (n + 1))))) K) : DrawTo E (⟨⟨some d, none, .bin .add ty g (.t t) (.c (.val (.int .i64 1)))⟩, [t], fr⟩ :: r) done s K := by
  have hg : s.tm.get t = some (.val (.int .i64 n)) := hv
  refine draw_flat (v := .val (.int .i64 (IntKind.i64.wrap (n + 1)))) hq hf rfl rfl (flat1 hv) (fun _ => rfl) (fun _ => rfl) ?_ k
  simp only [runOp, St.eval, seen_eval (List.mem_singleton.2 rfl : t ∈ [t]), hg, v_add]
  rfl

theorem draw_to {t u d : Nat} {fr : List Nat} {b : ByteArray} {i : Nat} {v : Value} (hq : ∀ x ∈ done, Quiet x) (hf : ∀ i ∈ fr, i < done.length) (hv : s.eval (.t t) = some (.val (.string b))) (hw : s.eval (.t u) = some (.val (.int .i64 (i : Nat))))
    (hs : sliceStrV (.val (.string b)) none (some i) = some (.val v))
    (k : ∀ rec, Quiet rec → DrawTo E r (done ++ [rec]) (s.set d (.val v)) K) : DrawTo E (⟨⟨some d, none, .sliceStr (.t t) none (some (.t u))⟩, [t, u], fr⟩ :: r) done s K := by
  have hg : s.tm.get t = some (.val (.string b)) := hv
  have hg2 : s.tm.get u = some (.val (.int .i64 (i : Nat))) := hw
  refine draw_flat (v := .val v) hq hf rfl rfl (flat2 hv hw) (fun _ => rfl) (fun _ => rfl) ?_ k
  simp only [runOp, St.eval, optN, seen_eval (List.mem_cons_self : t ∈ [t, u]), seen_eval (List.mem_cons_of_mem _ (List.mem_singleton.2 rfl) : u ∈ [t, u]), hg, hg2, n_cast, Option.map_some]
  simp only [sliceStrV] at hs
  cases hb : sliceB b.size b.size none (some i) none with
  | none => rw [hb] at hs; cases hs
  | some q => rw [hb] at hs; cases hs; rfl

theorem draw_from {t u d : Nat} {fr : List Nat} {b : ByteArray} {i : Nat} {v : Value} (hq : ∀ x ∈ done, Quiet x) (hf : ∀ i ∈ fr, i < done.length) (hv : s.eval (.t t) = some (.val (.string b))) (hw : s.eval (.t u) = some (.val (.int .i64 (i : Nat))))
    (hs : sliceStrV (.val (.string b)) (some i) none = some (.val v))
    (k : ∀ rec, Quiet rec → DrawTo E r (done ++ [rec]) (s.set d (.val v)) K) : DrawTo E (⟨⟨some d, none, .sliceStr (.t t) (some (.t u)) none⟩, [t, u], fr⟩ :: r) done s K := by
  have hg : s.tm.get t = some (.val (.string b)) := hv
  have hg2 : s.tm.get u = some (.val (.int .i64 (i : Nat))) := hw
  refine draw_flat (v := .val v) hq hf rfl rfl (flat2 hv hw) (fun _ => rfl) (fun _ => rfl) ?_ k
  simp only [runOp, St.eval, optN, seen_eval (List.mem_cons_self : t ∈ [t, u]), seen_eval (List.mem_cons_of_mem _ (List.mem_singleton.2 rfl) : u ∈ [t, u]), hg, hg2, n_cast, Option.map_some]
  simp only [sliceStrV] at hs
  cases hb : sliceB b.size b.size (some i) none none with
  | none => rw [hb] at hs; cases hs
  | some q => rw [hb] at hs; cases hs; rfl
end

theorem slice_to {b : ByteArray} {i : Nat} (h : i ≤ b.size) : sliceStrV (.val (.string b)) none (some i) = some (.val (.string (b.extract 0 i))) := by
  have h1 : Nat.ble b.size b.size = true := Nat.ble_eq.mpr (Nat.le_refl _)
  have h2 : Nat.ble i b.size = true := Nat.ble_eq.mpr h
  have h3 : Nat.ble 0 i = true := Nat.ble_eq.mpr (Nat.zero_le _)
  simp only [sliceStrV, sliceB, Option.getD_none, Option.getD_some, h1, h2, h3, Option.isNone_none, Bool.true_or, Bool.and_self, cond_true, Option.map_some]
theorem slice_from {b : ByteArray} {i : Nat} (h : i ≤ b.size) : sliceStrV (.val (.string b)) (some i) none = some (.val (.string (b.extract i b.size))) := by
  have h1 : Nat.ble b.size b.size = true := Nat.ble_eq.mpr (Nat.le_refl _)
  have h2 : Nat.ble i b.size = true := Nat.ble_eq.mpr h
  simp only [sliceStrV, sliceB, Option.getD_none, Option.getD_some, h1, h2, Option.isNone_none, Bool.true_or, Bool.and_self, cond_true, Option.map_some]

theorem f143_draw (b : ByteArray) (i : Nat) (hi : i < b.size) (hb : b.size < 2 ^ 61) (s : St) (h0 : s.eval (.t 0) = some (.val (.string b))) (h5 : s.eval (.t 5) = some (.val (.int .i64 (i : Nat)))) (hd : s.defers = []) :
    Run E1 f143_d0 s fun e s' => e = .normal ∧ s'.defers = [] ∧ s'.eval (.t 2) = some (.val (.string (b.extract 0 i))) ∧ s'.eval (.t 3) = some (.val (.string (b.extract (i + 1) b.size))) ∧ s'.eval (.t 4) = some (.val (.bool true)) := by
  have w1 : IntKind.i64.wrap ((i : Int) + 1) = ((i + 1 : Nat) : Int) := wrap_nat (n := i + 1) (by omega)
  refine run_draw ?_
  refine draw_mv (v := .string b) (by simp) (by simp) h0 fun r1 q1 => ?_
  refine draw_mv (v := .int .i64 (i : Nat)) (by simp [q1]) (by simp) (by simp -implicitDefEqProofs only [W0, W1, W2, W3, W4, W5, W6, W7, W8, St.put, Option.bind_some, Option.map_some, ↓reduceIte, Nat.reduceEqDiff, Nat.reduceAdd, Nat.reduceMul, reduceCtorEq, cond_true, cond_false, Int.reduceEq, Int.reduceLT, Int.reduceLE, if_true, if_false, h5]) fun r2 q2 => ?_
  refine draw_to (b := b) (i := i) (by simp [q1, q2]) (by simp) (by simp -implicitDefEqProofs only [W0, W1, W2, W3, W4, W5, W6, W7, W8, St.put, Option.bind_some, Option.map_some, ↓reduceIte, Nat.reduceEqDiff, Nat.reduceAdd, Nat.reduceMul, reduceCtorEq, cond_true, cond_false, Int.reduceEq, Int.reduceLT, Int.reduceLE, if_true, if_false]) (by simp -implicitDefEqProofs only [W0, W1, W2, W3, W4, W5, W6, W7, W8, St.put, Option.bind_some, Option.map_some, ↓reduceIte, Nat.reduceEqDiff, Nat.reduceAdd, Nat.reduceMul, reduceCtorEq, cond_true, cond_false, Int.reduceEq, Int.reduceLT, Int.reduceLE, if_true, if_false]) (slice_to (by omega)) fun r3 q3 => ?_
  refine draw_mv (v := .string b) (by simp [q1, q2, q3]) (by simp) (by simp -implicitDefEqProofs only [W0, W1, W2, W3, W4, W5, W6, W7, W8, St.put, Option.bind_some, Option.map_some, ↓reduceIte, Nat.reduceEqDiff, Nat.reduceAdd, Nat.reduceMul, reduceCtorEq, cond_true, cond_false, Int.reduceEq, Int.reduceLT, Int.reduceLE, if_true, if_false, h0]) fun r4 q4 => ?_
  refine draw_mv (v := .int .i64 (i : Nat)) (by simp [q1, q2, q3, q4]) (by simp) (by simp -implicitDefEqProofs only [W0, W1, W2, W3, W4, W5, W6, W7, W8, St.put, Option.bind_some, Option.map_some, ↓reduceIte, Nat.reduceEqDiff, Nat.reduceAdd, Nat.reduceMul, reduceCtorEq, cond_true, cond_false, Int.reduceEq, Int.reduceLT, Int.reduceLE, if_true, if_false, h5]) fun r5 q5 => ?_
  refine draw_inc (n := i) (by simp [q1, q2, q3, q4, q5]) (by simp) (by simp -implicitDefEqProofs only [W0, W1, W2, W3, W4, W5, W6, W7, W8, St.put, Option.bind_some, Option.map_some, ↓reduceIte, Nat.reduceEqDiff, Nat.reduceAdd, Nat.reduceMul, reduceCtorEq, cond_true, cond_false, Int.reduceEq, Int.reduceLT, Int.reduceLE, if_true, if_false]) fun r6 q6 => ?_
  rw [w1]
  refine draw_from (b := b) (i := i + 1) (by simp [q1, q2, q3, q4, q5, q6]) (by simp) (by simp -implicitDefEqProofs only [W0, W1, W2, W3, W4, W5, W6, W7, W8, St.put, Option.bind_some, Option.map_some, ↓reduceIte, Nat.reduceEqDiff, Nat.reduceAdd, Nat.reduceMul, reduceCtorEq, cond_true, cond_false, Int.reduceEq, Int.reduceLT, Int.reduceLE, if_true, if_false]) (by simp -implicitDefEqProofs only [W0, W1, W2, W3, W4, W5, W6, W7, W8, St.put, Option.bind_some, Option.map_some, ↓reduceIte, Nat.reduceEqDiff, Nat.reduceAdd, Nat.reduceMul, reduceCtorEq, cond_true, cond_false, Int.reduceEq, Int.reduceLT, Int.reduceLE, if_true, if_false]) (slice_from (by omega)) fun r7 q7 => ?_
  refine draw_mv (v := .string (b.extract 0 i)) (by simp [q1, q2, q3, q4, q5, q6, q7]) (by simp) (by simp -implicitDefEqProofs only [W0, W1, W2, W3, W4, W5, W6, W7, W8, St.put, Option.bind_some, Option.map_some, ↓reduceIte, Nat.reduceEqDiff, Nat.reduceAdd, Nat.reduceMul, reduceCtorEq, cond_true, cond_false, Int.reduceEq, Int.reduceLT, Int.reduceLE, if_true, if_false]) fun r8 q8 => ?_
  refine draw_mv (v := .string (b.extract (i + 1) b.size)) (by simp [q1, q2, q3, q4, q5, q6, q7, q8]) (by simp) (by simp -implicitDefEqProofs only [W0, W1, W2, W3, W4, W5, W6, W7, W8, St.put, Option.bind_some, Option.map_some, ↓reduceIte, Nat.reduceEqDiff, Nat.reduceAdd, Nat.reduceMul, reduceCtorEq, cond_true, cond_false, Int.reduceEq, Int.reduceLT, Int.reduceLE, if_true, if_false]) fun r9 q9 => ?_
  refine draw_mvc (by simp [q1, q2, q3, q4, q5, q6, q7, q8, q9]) (by simp) fun r10 q10 => ?_
  refine draw_nil ?_
  simp -implicitDefEqProofs only [W0, W1, W2, W3, W4, W5, W6, W7, W8, St.put, Option.bind_some, Option.map_some, ↓reduceIte, Nat.reduceEqDiff, Nat.reduceAdd, Nat.reduceMul, reduceCtorEq, cond_true, cond_false, Int.reduceEq, Int.reduceLT, Int.reduceLE, if_true, if_false, hd]

theorem f143_loop (b : ByteArray) (hb : b.size < 2 ^ 61) : ∀ (n i : Nat) (s : St), i + n = b.size → s.eval (.t 0) = some (.val (.string b)) → s.eval (.t 5) = some (.val (.int .i64 i)) → s.defers = [] →
    Run E1 f143_l1 s fun e s' => s'.defers = [] ∧ (e = .exit 0 ∧ s'.eval (.t 0) = some (.val (.string b)) ∨ e = .ret ∧ ∃ x y m, x.size ≤ b.size ∧ y.size ≤ b.size ∧ (m = true → y.size < b.size) ∧ s'.eval (.t 2) = some (.val (.string x)) ∧ s'.eval (.t 3) = some (.val (.string y)) ∧ s'.eval (.t 4) = some (.val (.bool m)))
  | 0, i, s, hi, h0, h5, hd => by
    have hlt : decide ((i : Int) < (b.size : Nat)) = false := decide_eq_false (by omega)
    apply loop_of (rfl : f143_l1 = .loop f143_b1)
    simp -implicitDefEqProofs only [f143_b1, W0, W1, W2, W3, W4, W5, W6, W7, W8, St.put, Option.bind_some, Option.map_some, ↓reduceIte, Nat.reduceEqDiff, Nat.reduceAdd, Nat.reduceMul, reduceCtorEq, cond_true, cond_false, Int.reduceEq, Int.reduceLT, Int.reduceLE, if_true, if_false, len_str, h0, h5, hd, hlt]
  | n + 1, i, s, hi, h0, h5, hd => by
    have hlt : decide ((i : Int) < (b.size : Nat)) = true := decide_eq_true (by omega)
    have w1 : IntKind.i64.wrap ((i : Int) + 1) = ((i + 1 : Nat) : Int) := wrap_nat (n := i + 1) (by omega)
    obtain ⟨c, hc⟩ := idx_str (b := b) (i := i) (by omega)
    obtain ⟨B1, e1⟩ : ∃ B, decide ((c : Int) = 46) = B := ⟨_, rfl⟩
    have wd : ∀ (s : St) Q, wp E1 f143_d0 s Q = Run E1 f143_d0 s Q := fun _ _ => rfl
    apply loop_of (rfl : f143_l1 = .loop f143_b1)
    cases B1 with
    | false =>
      simp -implicitDefEqProofs only [f143_b1, W0, W1, W2, W3, W4, W5, W6, W7, W8, St.put, Option.bind_some, Option.map_some, ↓reduceIte, Nat.reduceEqDiff, Nat.reduceAdd, Nat.reduceMul, reduceCtorEq, cond_true, cond_false, Int.reduceEq, Int.reduceLT, Int.reduceLE, if_true, if_false, len_str, h0, h5, hd, hlt, w1, hc, e1]
      refine f143_loop b hb n (i + 1) _ (by omega) ?_ ?_ ?_ <;> simp -implicitDefEqProofs only [W0, W1, W2, W3, W4, W5, W6, W7, W8, St.put, Option.bind_some, Option.map_some, ↓reduceIte, Nat.reduceEqDiff, Nat.reduceAdd, Nat.reduceMul, reduceCtorEq, cond_true, cond_false, Int.reduceEq, Int.reduceLT, Int.reduceLE, if_true, if_false, h0, hd]
    | true =>
      simp -implicitDefEqProofs only [f143_b1, W0, W1, W2, W3, W4, W5, W6, W7, W8, St.put, Option.bind_some, Option.map_some, ↓reduceIte, Nat.reduceEqDiff, Nat.reduceAdd, Nat.reduceMul, reduceCtorEq, cond_true, cond_false, Int.reduceEq, Int.reduceLT, Int.reduceLE, if_true, if_false, len_str, h0, h5, hd, hlt, w1, hc, e1, wd]
      refine (f143_draw b i (by omega) hb _ ?_ ?_ ?_).mono ?_
      · simp -implicitDefEqProofs only [W0, W1, W2, W3, W4, W5, W6, W7, W8, St.put, Option.bind_some, Option.map_some, ↓reduceIte, Nat.reduceEqDiff, Nat.reduceAdd, Nat.reduceMul, reduceCtorEq, cond_true, cond_false, Int.reduceEq, Int.reduceLT, Int.reduceLE, if_true, if_false, h0]
      · simp -implicitDefEqProofs only [W0, W1, W2, W3, W4, W5, W6, W7, W8, St.put, Option.bind_some, Option.map_some, ↓reduceIte, Nat.reduceEqDiff, Nat.reduceAdd, Nat.reduceMul, reduceCtorEq, cond_true, cond_false, Int.reduceEq, Int.reduceLT, Int.reduceLE, if_true, if_false, h5]
      · simp -implicitDefEqProofs only [W0, W1, W2, W3, W4, W5, W6, W7, W8, St.put, Option.bind_some, Option.map_some, ↓reduceIte, Nat.reduceEqDiff, Nat.reduceAdd, Nat.reduceMul, reduceCtorEq, cond_true, cond_false, Int.reduceEq, Int.reduceLT, Int.reduceLE, if_true, if_false, hd]
      · rintro e s' ⟨rfl, g1, g2, g3, g4⟩
        simp -implicitDefEqProofs only [W0, W1, W2, W3, W4, W5, W6, W7, W8, St.put, Option.bind_some, Option.map_some, ↓reduceIte, Nat.reduceEqDiff, Nat.reduceAdd, Nat.reduceMul, reduceCtorEq, cond_true, cond_false, Int.reduceEq, Int.reduceLT, Int.reduceLE, if_true, if_false, g1]
        refine .inr ⟨_, _, _, ?_, ?_, fun _ => ?_, g2, g3, g4⟩
        · simp only [ByteArray.size_extract]; omega
        · simp only [ByteArray.size_extract]; omega
        · simp only [ByteArray.size_extract]; omega

theorem ansEs {g : Nat} {l : List AV} {a : AFun} {P : List AV → Prop} (hf : funOf Tryz.prog g = some a)
    (h : ∀ s : St, (∀ i v, (enterTm l 0 .nil).get i = some v → s.eval (.t i) = some v) → s.h = .empty → s.defers = [] → wp E1 a.body s fun e s => (e = .normal ∨ e = .ret) ∧ s.defers = [] ∧ ∃ r, P r ∧ resultsA E1.globs s a.res = some r) : ∃ r, P r ∧ Ans E1 g l (oneOrTup r) := by
  obtain ⟨e, s', x, y1, y2, r, hp, y3⟩ := wp_run _ _ _ (h { tm := enterTm l 0 .nil, h := .empty, defers := [], round := none } (fun _ _ h => h) rfl rfl)
  refine ⟨r, hp, s'.h, x.mono fun n p => ?_⟩
  have hl : leaveA E1 a s' = some (oneOrTup r, s'.h) := by
    obtain ⟨tm, h1, df, rd⟩ := s'
    subst y2
    simp only [leaveA, runDefers, y3]
  simp only [enterA, (show funOf E1.P g = some a by rw [E1_P]; exact hf), p]
  rcases y1 with rfl | rfl <;> exact hl

theorem cut_ans (b : ByteArray) (hb : b.size < 2 ^ 61) : ∃ (x y : ByteArray) (m : Bool), x.size ≤ b.size ∧ y.size ≤ b.size ∧ (m = true → y.size < b.size) ∧ ∀ h, RunCall E1 (.f 143) [.val (.string b)] h (.tup [.val (.string x), .val (.string y), .val (.bool m)]) h := by
  obtain ⟨r, ⟨x, y, m, hx, hy, hm, hr⟩, ha⟩ := ansEs (g := 143) (l := [.val (.string b)]) (P := fun r => ∃ (x y : ByteArray) (m : Bool), x.size ≤ b.size ∧ y.size ≤ b.size ∧ (m = true → y.size < b.size) ∧ r = [.val (.string x), .val (.string y), .val (.bool m)]) f143_ok fun s hs hh hd => by
    have h0 := hs 0 _ rfl
    simp -implicitDefEqProofs only [f143_fn, f143, W0, W1, W2, W3, W4, W5, W6, W7, W8, St.put, Option.bind_some, Option.map_some, ↓reduceIte, Nat.reduceEqDiff, Nat.reduceAdd, Nat.reduceMul, reduceCtorEq, cond_true, cond_false, Int.reduceEq, Int.reduceLT, Int.reduceLE, if_true, if_false, h0, hh, hd]
    refine (f143_loop b hb b.size 0 _ (by omega) ?_ ?_ ?_).mono ?_
    · simp -implicitDefEqProofs only [W0, W1, W2, W3, W4, W5, W6, W7, W8, St.put, Option.bind_some, Option.map_some, ↓reduceIte, Nat.reduceEqDiff, Nat.reduceAdd, Nat.reduceMul, reduceCtorEq, cond_true, cond_false, Int.reduceEq, Int.reduceLT, Int.reduceLE, if_true, if_false, h0]
    · simp -implicitDefEqProofs only [W0, W1, W2, W3, W4, W5, W6, W7, W8, St.put, Option.bind_some, Option.map_some, ↓reduceIte, Nat.reduceEqDiff, Nat.reduceAdd, Nat.reduceMul, reduceCtorEq, cond_true, cond_false, Int.reduceEq, Int.reduceLT, Int.reduceLE, if_true, if_false] <;> rfl
    · simp -implicitDefEqProofs only [W0, W1, W2, W3, W4, W5, W6, W7, W8, St.put, Option.bind_some, Option.map_some, ↓reduceIte, Nat.reduceEqDiff, Nat.reduceAdd, Nat.reduceMul, reduceCtorEq, cond_true, cond_false, Int.reduceEq, Int.reduceLT, Int.reduceLE, if_true, if_false, hd]
    · rintro e s' ⟨hf, ⟨rfl, g0⟩ | ⟨rfl, x, y, m, hx, hy, hm, g2, g3, g4⟩⟩
      · have : Nat.beq 0 0 = true := rfl
        simp -implicitDefEqProofs only [W0, W1, W2, W3, W4, W5, W6, W7, W8, St.put, Option.bind_some, Option.map_some, ↓reduceIte, Nat.reduceEqDiff, Nat.reduceAdd, Nat.reduceMul, reduceCtorEq, cond_true, cond_false, Int.reduceEq, Int.reduceLT, Int.reduceLE, if_true, if_false, this, hf, g0]
        exact ⟨_, ⟨b, ⟨#[]⟩, false, Nat.le_refl _, Nat.zero_le _, fun h => (by cases h), rfl⟩, rfl⟩
      · simp -implicitDefEqProofs only [W0, W1, W2, W3, W4, W5, W6, W7, W8, St.put, Option.bind_some, Option.map_some, ↓reduceIte, Nat.reduceEqDiff, Nat.reduceAdd, Nat.reduceMul, reduceCtorEq, cond_true, cond_false, Int.reduceEq, Int.reduceLT, Int.reduceLE, if_true, if_false, hf, g2, g3, g4]
        exact ⟨_, ⟨x, y, m, hx, hy, hm, rfl⟩, rfl⟩
  subst hr
  exact ⟨x, y, m, hx, hy, hm, call_tree (by kernel_rfl) (by kernel_rfl) (mem1 (Tree.val _)) rfl (Tree.three _ _ _) ha⟩

end Go.Proofs.YtbolilekjpoicaaGreatDoor

namespace Go.Proofs.YtbolilekjpoicaaGreatDoor
open Go Go.AM
set_option linter.all false
set_option maxHeartbeats 4000000

theorem f96_loop : ∀ (n : Nat) (y : ByteArray) (m : Bool) (s : St), (m = true → y.size < n) → y.size < 2 ^ 61 → s.eval (.t 4) = some (.val (.string y)) → s.eval (.t 5) = some (.val (.bool m)) → s.defers = [] →
    Run E1 f96_l0 s fun e s' => s'.defers = [] ∧ (e = .exit 0 ∨ e = .ret ∧ ∃ x, s'.eval (.t 2) = some (.val (.int .i64 x)))
  | n, y, false, s, hn, hb, h4, h5, hd => by
    apply loop_of (rfl : f96_l0 = .loop f96_b0)
    simp -implicitDefEqProofs only [f96_b0, W0, W1, W2, W3, W4, W5, W6, W7, W8, St.put, Option.bind_some, Option.map_some, ↓reduceIte, Nat.reduceEqDiff, Nat.reduceAdd, Nat.reduceMul, reduceCtorEq, cond_true, cond_false, Int.reduceEq, Int.reduceLT, Int.reduceLE, if_true, if_false, h4, h5, hd]
  | 0, y, true, s, hn, hb, h4, h5, hd => absurd (hn rfl) (Nat.not_lt_zero _)
  | n + 1, y, true, s, hn, hb, h4, h5, hd => by
    obtain ⟨x, z, m, hx, hz, hm, hr⟩ := cut_ans y hb
    obtain ⟨A, hA⟩ := alnum_ans x (by omega)
    obtain ⟨B, hB⟩ := word_ans x (by omega)
    obtain ⟨S, hS⟩ : ∃ S, (decide (1 ≤ ((x.size : Nat) : Int)) && decide (((x.size : Nat) : Int) ≤ 24)) = S := ⟨_, rfl⟩
    have hlt : y.size < n + 1 := hn rfl
    apply loop_of (rfl : f96_l0 = .loop f96_b0)
    cases S <;> cases A <;> cases B <;> simp -implicitDefEqProofs only [f96_b0, W0, W1, W2, W3, W4, W5, W6, W7, W8, St.put, Option.bind_some, Option.map_some, ↓reduceIte, Nat.reduceEqDiff, Nat.reduceAdd, Nat.reduceMul, reduceCtorEq, cond_true, cond_false, Int.reduceEq, Int.reduceLT, Int.reduceLE, if_true, if_false, h4, h5, hd, callK_all hr, callK_all hA, callK_all hB, sized_to146, hS]
    all_goals first
      | exact ⟨_, rfl⟩
      | exact .inr ⟨_, rfl⟩
      | (refine f96_loop n z m _ (fun e => by have := hm e; omega) (by omega) ?_ ?_ ?_ <;> simp -implicitDefEqProofs only [W0, W1, W2, W3, W4, W5, W6, W7, W8, St.put, Option.bind_some, Option.map_some, ↓reduceIte, Nat.reduceEqDiff, Nat.reduceAdd, Nat.reduceMul, reduceCtorEq, cond_true, cond_false, Int.reduceEq, Int.reduceLT, Int.reduceLE, if_true, if_false, hd])

theorem core_ans (b : ByteArray) : ∃ x, ∀ h, RunCall E1 (.f 96) [.val (.string b)] h (.val (.int .i64 x)) h := by
  obtain ⟨r, ⟨x, hx⟩, ha⟩ := ansE (g := 96) (l := [.val (.string b)]) (P := fun r => ∃ x, r = .val (.int .i64 x)) f96_ok fun s hs hh hd => by
    have h0 := hs 0 _ rfl
    by_cases hz : 120 < b.size
    · have z1 : decide (120 < ((b.size : Nat) : Int)) = true := decide_eq_true (by omega)
      simp -implicitDefEqProofs only [f96_fn, f96, W0, W1, W2, W3, W4, W5, W6, W7, W8, St.put, Option.bind_some, Option.map_some, ↓reduceIte, Nat.reduceEqDiff, Nat.reduceAdd, Nat.reduceMul, reduceCtorEq, cond_true, cond_false, Int.reduceEq, Int.reduceLT, Int.reduceLE, if_true, if_false, len_str, h0, hh, hd, z1]
      exact ⟨_, ⟨_, rfl⟩, rfl⟩
    · have z1 : decide (120 < ((b.size : Nat) : Int)) = false := decide_eq_false (by omega)
      obtain ⟨x, y, m, hx, hy, hm, hr⟩ := cut_ans b (by omega)
      obtain ⟨A, hA⟩ := name_ans x (by omega)
      obtain ⟨T, hT⟩ := title_ans x (by omega)
      obtain ⟨V, hV⟩ : ∃ V, strEq x ⟨#[118]⟩ = V := ⟨_, rfl⟩
      cases A <;> cases T <;> cases V <;> cases m <;> simp -implicitDefEqProofs only [f96_fn, f96, W0, W1, W2, W3, W4, W5, W6, W7, W8, St.put, Option.bind_some, Option.map_some, ↓reduceIte, Nat.reduceEqDiff, Nat.reduceAdd, Nat.reduceMul, reduceCtorEq, cond_true, cond_false, Int.reduceEq, Int.reduceLT, Int.reduceLE, if_true, if_false, len_str, h0, hh, hd, z1, callK_all hr, callK_all hA, callK_all hT, hV]
      all_goals first
        | exact ⟨_, ⟨_, rfl⟩, rfl⟩
        | (refine (f96_loop (y.size + 1) y true _ (fun _ => by omega) (by omega) ?_ ?_ ?_).mono ?_
           · simp -implicitDefEqProofs only [W0, W1, W2, W3, W4, W5, W6, W7, W8, St.put, Option.bind_some, Option.map_some, ↓reduceIte, Nat.reduceEqDiff, Nat.reduceAdd, Nat.reduceMul, reduceCtorEq, cond_true, cond_false, Int.reduceEq, Int.reduceLT, Int.reduceLE, if_true, if_false] <;> rfl
           · simp -implicitDefEqProofs only [W0, W1, W2, W3, W4, W5, W6, W7, W8, St.put, Option.bind_some, Option.map_some, ↓reduceIte, Nat.reduceEqDiff, Nat.reduceAdd, Nat.reduceMul, reduceCtorEq, cond_true, cond_false, Int.reduceEq, Int.reduceLT, Int.reduceLE, if_true, if_false] <;> rfl
           · simp -implicitDefEqProofs only [W0, W1, W2, W3, W4, W5, W6, W7, W8, St.put, Option.bind_some, Option.map_some, ↓reduceIte, Nat.reduceEqDiff, Nat.reduceAdd, Nat.reduceMul, reduceCtorEq, cond_true, cond_false, Int.reduceEq, Int.reduceLT, Int.reduceLE, if_true, if_false, hd]
           · rintro e s' ⟨hf, rfl | ⟨rfl, x, h2⟩⟩
             · have : Nat.beq 0 0 = true := rfl
               simp -implicitDefEqProofs only [W0, W1, W2, W3, W4, W5, W6, W7, W8, St.put, Option.bind_some, Option.map_some, ↓reduceIte, Nat.reduceEqDiff, Nat.reduceAdd, Nat.reduceMul, reduceCtorEq, cond_true, cond_false, Int.reduceEq, Int.reduceLT, Int.reduceLE, if_true, if_false, this, hf]
               exact ⟨_, ⟨_, rfl⟩, rfl⟩
             · simp -implicitDefEqProofs only [W0, W1, W2, W3, W4, W5, W6, W7, W8, St.put, Option.bind_some, Option.map_some, ↓reduceIte, Nat.reduceEqDiff, Nat.reduceAdd, Nat.reduceMul, reduceCtorEq, cond_true, cond_false, Int.reduceEq, Int.reduceLT, Int.reduceLE, if_true, if_false, hf, h2]
               exact ⟨_, ⟨_, rfl⟩, rfl⟩)
        | (refine (f96_loop (y.size + 1) y false _ (fun _ => by omega) (by omega) ?_ ?_ ?_).mono ?_
           · simp -implicitDefEqProofs only [W0, W1, W2, W3, W4, W5, W6, W7, W8, St.put, Option.bind_some, Option.map_some, ↓reduceIte, Nat.reduceEqDiff, Nat.reduceAdd, Nat.reduceMul, reduceCtorEq, cond_true, cond_false, Int.reduceEq, Int.reduceLT, Int.reduceLE, if_true, if_false] <;> rfl
           · simp -implicitDefEqProofs only [W0, W1, W2, W3, W4, W5, W6, W7, W8, St.put, Option.bind_some, Option.map_some, ↓reduceIte, Nat.reduceEqDiff, Nat.reduceAdd, Nat.reduceMul, reduceCtorEq, cond_true, cond_false, Int.reduceEq, Int.reduceLT, Int.reduceLE, if_true, if_false] <;> rfl
           · simp -implicitDefEqProofs only [W0, W1, W2, W3, W4, W5, W6, W7, W8, St.put, Option.bind_some, Option.map_some, ↓reduceIte, Nat.reduceEqDiff, Nat.reduceAdd, Nat.reduceMul, reduceCtorEq, cond_true, cond_false, Int.reduceEq, Int.reduceLT, Int.reduceLE, if_true, if_false, hd]
           · rintro e s' ⟨hf, rfl | ⟨rfl, x, h2⟩⟩
             · have : Nat.beq 0 0 = true := rfl
               simp -implicitDefEqProofs only [W0, W1, W2, W3, W4, W5, W6, W7, W8, St.put, Option.bind_some, Option.map_some, ↓reduceIte, Nat.reduceEqDiff, Nat.reduceAdd, Nat.reduceMul, reduceCtorEq, cond_true, cond_false, Int.reduceEq, Int.reduceLT, Int.reduceLE, if_true, if_false, this, hf]
               exact ⟨_, ⟨_, rfl⟩, rfl⟩
             · simp -implicitDefEqProofs only [W0, W1, W2, W3, W4, W5, W6, W7, W8, St.put, Option.bind_some, Option.map_some, ↓reduceIte, Nat.reduceEqDiff, Nat.reduceAdd, Nat.reduceMul, reduceCtorEq, cond_true, cond_false, Int.reduceEq, Int.reduceLT, Int.reduceLE, if_true, if_false, hf, h2]
               exact ⟨_, ⟨_, rfl⟩, rfl⟩)
  subst hx
  exact ⟨x, call_tree (by kernel_rfl) (by kernel_rfl) (mem1 (Tree.val _)) rfl (Tree.val _) ha⟩

end Go.Proofs.YtbolilekjpoicaaGreatDoor
