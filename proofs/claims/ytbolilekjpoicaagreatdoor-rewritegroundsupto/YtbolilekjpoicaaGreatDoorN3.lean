/- A part of the proof of the law RewriteGrounds: XNamed. -/
import Derived.Test.YtbolilekjpoicaaGreatDoorC3
import Derived.Test.YtbolilekjpoicaaGreatDoorN1
import Derived.Test.YtbolilekjpoicaaGreatDoorN2

set_option linter.all false

namespace Go.Proofs.YtbolilekjpoicaaGreatDoor
open Go Go.AM
set_option linter.all false
set_option maxHeartbeats 40000000
set_option maxRecDepth 10000

/-! Nodes with a name: that there is an answer. -/
theorem nodeE56_3 (p : Pr) (hk : p.op = 3) : ∃ x, ∀ h, RunCall E1 (.f 56) [p.av] h (.val (.int .i64 x)) h := by
  obtain ⟨A, hA⟩ := core_ans p.nm
  obtain ⟨r, ⟨x, hx⟩, ha⟩ := ansE (g := 56) (l := [p.av]) (P := fun r => ∃ x, r = .val (.int .i64 x)) f56_ok fun s hs hh hd => by
    have h0 := hs 0 _ rfl
    obtain ⟨B, hB⟩ : ∃ B, decide (A = 0) = B := ⟨_, rfl⟩
    obtain ⟨z, hz⟩ : ∃ B, decide (p.n = 0) = B := ⟨_, rfl⟩
    obtain ⟨L1, hL1⟩ : ∃ B, decide (((p.ks.length : Nat) : Int) < 0) = B := ⟨_, rfl⟩
    obtain ⟨L2, hL2⟩ : ∃ B, decide ((0 : Int) < ((p.ks.length : Nat) : Int)) = B := ⟨_, rfl⟩
    obtain ⟨V, hV⟩ : ∃ B, strEq p.nm ⟨#[118]⟩ = B := ⟨_, rfl⟩
    obtain ⟨T, hT⟩ : ∃ B, strEq p.nm ⟨#[116, 97, 103]⟩ = B := ⟨_, rfl⟩
    obtain ⟨U, hU⟩ : ∃ B, strEq p.nm ⟨#[118, 97, 108]⟩ = B := ⟨_, rfl⟩
    cases z with
    | false =>
      simp -implicitDefEqProofs only [f56_fn, f56, W0, W1, W2, W3, W4, W5, W6, W7, W8, St.put, Option.bind_some, Option.map_some, ↓reduceIte, Nat.reduceEqDiff, Nat.reduceAdd, Nat.reduceMul, reduceCtorEq, cond_true, cond_false, Int.reduceEq, Int.reduceLT, Int.reduceLE, if_true, if_false, h0, hh, hd, hk, kids_to94_3, named_to95_3, in_to58, hz]
      exact ⟨_, ⟨_, rfl⟩, rfl⟩
    | true => cases L1 with
      | true =>
        simp -implicitDefEqProofs only [f56_fn, f56, W0, W1, W2, W3, W4, W5, W6, W7, W8, St.put, Option.bind_some, Option.map_some, ↓reduceIte, Nat.reduceEqDiff, Nat.reduceAdd, Nat.reduceMul, reduceCtorEq, cond_true, cond_false, Int.reduceEq, Int.reduceLT, Int.reduceLE, if_true, if_false, h0, hh, hd, hk, kids_to94_3, named_to95_3, in_to58, hz, hL1]
        exact ⟨_, ⟨_, rfl⟩, rfl⟩
      | false => cases L2 with
        | true =>
          simp -implicitDefEqProofs only [f56_fn, f56, W0, W1, W2, W3, W4, W5, W6, W7, W8, St.put, Option.bind_some, Option.map_some, ↓reduceIte, Nat.reduceEqDiff, Nat.reduceAdd, Nat.reduceMul, reduceCtorEq, cond_true, cond_false, Int.reduceEq, Int.reduceLT, Int.reduceLE, if_true, if_false, h0, hh, hd, hk, kids_to94_3, named_to95_3, in_to58, hz, hL1, hL2]
          exact ⟨_, ⟨_, rfl⟩, rfl⟩
        | false => cases B with
          | true =>
            simp -implicitDefEqProofs only [f56_fn, f56, W0, W1, W2, W3, W4, W5, W6, W7, W8, St.put, Option.bind_some, Option.map_some, ↓reduceIte, Nat.reduceEqDiff, Nat.reduceAdd, Nat.reduceMul, reduceCtorEq, cond_true, cond_false, Int.reduceEq, Int.reduceLT, Int.reduceLE, if_true, if_false, h0, hh, hd, hk, kids_to94_3, named_to95_3, in_to58, callK_all hA, hz, hL1, hL2, hB]
            exact ⟨_, ⟨_, rfl⟩, rfl⟩
          | false =>
            cases V <;> cases T <;> cases U <;> simp -implicitDefEqProofs only [f56_fn, f56, W0, W1, W2, W3, W4, W5, W6, W7, W8, St.put, Option.bind_some, Option.map_some, ↓reduceIte, Nat.reduceEqDiff, Nat.reduceAdd, Nat.reduceMul, reduceCtorEq, cond_true, cond_false, Int.reduceEq, Int.reduceLT, Int.reduceLE, if_true, if_false, h0, hh, hd, hk, kids_to94_3, named_to95_3, in_to58, callK_all hA, hz, hL1, hL2, hB, hV, hT, hU]
            all_goals exact ⟨_, ⟨_, rfl⟩, rfl⟩
  subst hx
  exact ⟨x, call_tree (by kernel_rfl) (by kernel_rfl) (mem1 (Tree.pr p)) rfl (Tree.val _) ha⟩

theorem calledE152_3 (p : Pr) (hk : p.op = 3) : ∃ x, ∀ h, RunCall E1 (.f 152) [p.av] h (.val (.bool x)) h := by
  obtain ⟨A, hA⟩ := rcore_ans p.nm
  obtain ⟨r, ⟨x, hx⟩, ha⟩ := ansE (g := 152) (l := [p.av]) (P := fun r => ∃ x, r = .val (.bool x)) f152_ok fun s hs hh hd => by
    have h0 := hs 0 _ rfl
    obtain ⟨B, hB⟩ : ∃ B, decide (A = 0) = B := ⟨_, rfl⟩
    obtain ⟨V, hV⟩ : ∃ B, strEq p.nm ⟨#[118]⟩ = B := ⟨_, rfl⟩
    obtain ⟨T, hT⟩ : ∃ B, strEq p.nm ⟨#[116, 97, 103]⟩ = B := ⟨_, rfl⟩
    obtain ⟨U, hU⟩ : ∃ B, strEq p.nm ⟨#[118, 97, 108]⟩ = B := ⟨_, rfl⟩
    cases V <;> cases T <;> cases U <;> simp -implicitDefEqProofs only [f152_fn, f152, W0, W1, W2, W3, W4, W5, W6, W7, W8, St.put, Option.bind_some, Option.map_some, ↓reduceIte, Nat.reduceEqDiff, Nat.reduceAdd, Nat.reduceMul, reduceCtorEq, cond_true, cond_false, Int.reduceEq, Int.reduceLT, Int.reduceLE, if_true, if_false, h0, hh, hd, hk, callK_all hA, hB, hV, hT, hU]
    all_goals exact ⟨_, ⟨_, rfl⟩, rfl⟩
  subst hx
  exact ⟨x, call_tree (by kernel_rfl) (by kernel_rfl) (mem1 (Tree.pr p)) rfl (Tree.val _) ha⟩

theorem nodeE101_3 (p : Pr) (hk : p.op = 3) : ∃ x, ∀ h, RunCall E1 (.f 101) [p.av] h (.val (.int .i64 x)) h := by
  obtain ⟨A, hA⟩ := calledE152_3 p hk
  obtain ⟨r, ⟨x, hx⟩, ha⟩ := ansE (g := 101) (l := [p.av]) (P := fun r => ∃ x, r = .val (.int .i64 x)) f101_ok fun s hs hh hd => by
    have h0 := hs 0 _ rfl
    obtain ⟨e, he⟩ : ∃ B, strEq p.nm ⟨#[]⟩ = B := ⟨_, rfl⟩
    obtain ⟨z, hz⟩ : ∃ B, decide (p.n = 0) = B := ⟨_, rfl⟩
    obtain ⟨K, hK⟩ : ∃ B, (bif 0 == 0 then decide (((p.ks.length : Nat) : Int) = 0) else (decide (1 ≤ ((p.ks.length : Nat) : Int)) && decide (((p.ks.length : Nat) : Int) ≤ 24))) = B := ⟨_, rfl⟩
    simp only [Nat.reduceBEq, cond_true, cond_false] at hK
    cases e <;> cases z <;> cases K <;> cases A <;> simp -implicitDefEqProofs only [f101_fn, f101, W0, W1, W2, W3, W4, W5, W6, W7, W8, St.put, Option.bind_some, Option.map_some, ↓reduceIte, Nat.reduceEqDiff, Nat.reduceAdd, Nat.reduceMul, reduceCtorEq, cond_true, cond_false, Int.reduceEq, Int.reduceLT, Int.reduceLE, if_true, if_false, h0, hh, hd, hk, kids_to151_3, named_to150_3, in_to102, callK_all hA, he, hz, hK]
    all_goals exact ⟨_, ⟨_, rfl⟩, rfl⟩
  subst hx
  exact ⟨x, call_tree (by kernel_rfl) (by kernel_rfl) (mem1 (Tree.pr p)) rfl (Tree.val _) ha⟩
theorem nodeE56_4 (p : Pr) (hk : p.op = 4) : ∃ x, ∀ h, RunCall E1 (.f 56) [p.av] h (.val (.int .i64 x)) h := by
  obtain ⟨A, hA⟩ := core_ans p.nm
  obtain ⟨r, ⟨x, hx⟩, ha⟩ := ansE (g := 56) (l := [p.av]) (P := fun r => ∃ x, r = .val (.int .i64 x)) f56_ok fun s hs hh hd => by
    have h0 := hs 0 _ rfl
    obtain ⟨B, hB⟩ : ∃ B, decide (A = 0) = B := ⟨_, rfl⟩
    obtain ⟨z, hz⟩ : ∃ B, decide (p.n = 0) = B := ⟨_, rfl⟩
    obtain ⟨L1, hL1⟩ : ∃ B, decide (((p.ks.length : Nat) : Int) < 1) = B := ⟨_, rfl⟩
    obtain ⟨L2, hL2⟩ : ∃ B, decide ((24 : Int) < ((p.ks.length : Nat) : Int)) = B := ⟨_, rfl⟩
    obtain ⟨V, hV⟩ : ∃ B, strEq p.nm ⟨#[118]⟩ = B := ⟨_, rfl⟩
    obtain ⟨T, hT⟩ : ∃ B, strEq p.nm ⟨#[116, 97, 103]⟩ = B := ⟨_, rfl⟩
    obtain ⟨U, hU⟩ : ∃ B, strEq p.nm ⟨#[118, 97, 108]⟩ = B := ⟨_, rfl⟩
    cases z with
    | false =>
      simp -implicitDefEqProofs only [f56_fn, f56, W0, W1, W2, W3, W4, W5, W6, W7, W8, St.put, Option.bind_some, Option.map_some, ↓reduceIte, Nat.reduceEqDiff, Nat.reduceAdd, Nat.reduceMul, reduceCtorEq, cond_true, cond_false, Int.reduceEq, Int.reduceLT, Int.reduceLE, if_true, if_false, h0, hh, hd, hk, kids_to94_4, named_to95_4, in_to58, hz]
      exact ⟨_, ⟨_, rfl⟩, rfl⟩
    | true => cases L1 with
      | true =>
        simp -implicitDefEqProofs only [f56_fn, f56, W0, W1, W2, W3, W4, W5, W6, W7, W8, St.put, Option.bind_some, Option.map_some, ↓reduceIte, Nat.reduceEqDiff, Nat.reduceAdd, Nat.reduceMul, reduceCtorEq, cond_true, cond_false, Int.reduceEq, Int.reduceLT, Int.reduceLE, if_true, if_false, h0, hh, hd, hk, kids_to94_4, named_to95_4, in_to58, hz, hL1]
        exact ⟨_, ⟨_, rfl⟩, rfl⟩
      | false => cases L2 with
        | true =>
          simp -implicitDefEqProofs only [f56_fn, f56, W0, W1, W2, W3, W4, W5, W6, W7, W8, St.put, Option.bind_some, Option.map_some, ↓reduceIte, Nat.reduceEqDiff, Nat.reduceAdd, Nat.reduceMul, reduceCtorEq, cond_true, cond_false, Int.reduceEq, Int.reduceLT, Int.reduceLE, if_true, if_false, h0, hh, hd, hk, kids_to94_4, named_to95_4, in_to58, hz, hL1, hL2]
          exact ⟨_, ⟨_, rfl⟩, rfl⟩
        | false => cases B with
          | true =>
            simp -implicitDefEqProofs only [f56_fn, f56, W0, W1, W2, W3, W4, W5, W6, W7, W8, St.put, Option.bind_some, Option.map_some, ↓reduceIte, Nat.reduceEqDiff, Nat.reduceAdd, Nat.reduceMul, reduceCtorEq, cond_true, cond_false, Int.reduceEq, Int.reduceLT, Int.reduceLE, if_true, if_false, h0, hh, hd, hk, kids_to94_4, named_to95_4, in_to58, callK_all hA, hz, hL1, hL2, hB]
            exact ⟨_, ⟨_, rfl⟩, rfl⟩
          | false =>
            cases V <;> cases T <;> cases U <;> simp -implicitDefEqProofs only [f56_fn, f56, W0, W1, W2, W3, W4, W5, W6, W7, W8, St.put, Option.bind_some, Option.map_some, ↓reduceIte, Nat.reduceEqDiff, Nat.reduceAdd, Nat.reduceMul, reduceCtorEq, cond_true, cond_false, Int.reduceEq, Int.reduceLT, Int.reduceLE, if_true, if_false, h0, hh, hd, hk, kids_to94_4, named_to95_4, in_to58, callK_all hA, hz, hL1, hL2, hB, hV, hT, hU]
            all_goals exact ⟨_, ⟨_, rfl⟩, rfl⟩
  subst hx
  exact ⟨x, call_tree (by kernel_rfl) (by kernel_rfl) (mem1 (Tree.pr p)) rfl (Tree.val _) ha⟩

theorem calledE152_4 (p : Pr) (hk : p.op = 4) : ∃ x, ∀ h, RunCall E1 (.f 152) [p.av] h (.val (.bool x)) h := by
  obtain ⟨A, hA⟩ := rcore_ans p.nm
  obtain ⟨r, ⟨x, hx⟩, ha⟩ := ansE (g := 152) (l := [p.av]) (P := fun r => ∃ x, r = .val (.bool x)) f152_ok fun s hs hh hd => by
    have h0 := hs 0 _ rfl
    obtain ⟨B, hB⟩ : ∃ B, decide (A = 0) = B := ⟨_, rfl⟩
    obtain ⟨V, hV⟩ : ∃ B, strEq p.nm ⟨#[118]⟩ = B := ⟨_, rfl⟩
    obtain ⟨T, hT⟩ : ∃ B, strEq p.nm ⟨#[116, 97, 103]⟩ = B := ⟨_, rfl⟩
    obtain ⟨U, hU⟩ : ∃ B, strEq p.nm ⟨#[118, 97, 108]⟩ = B := ⟨_, rfl⟩
    cases V <;> cases T <;> cases U <;> simp -implicitDefEqProofs only [f152_fn, f152, W0, W1, W2, W3, W4, W5, W6, W7, W8, St.put, Option.bind_some, Option.map_some, ↓reduceIte, Nat.reduceEqDiff, Nat.reduceAdd, Nat.reduceMul, reduceCtorEq, cond_true, cond_false, Int.reduceEq, Int.reduceLT, Int.reduceLE, if_true, if_false, h0, hh, hd, hk, callK_all hA, hB, hV, hT, hU]
    all_goals exact ⟨_, ⟨_, rfl⟩, rfl⟩
  subst hx
  exact ⟨x, call_tree (by kernel_rfl) (by kernel_rfl) (mem1 (Tree.pr p)) rfl (Tree.val _) ha⟩

theorem nodeE101_4 (p : Pr) (hk : p.op = 4) : ∃ x, ∀ h, RunCall E1 (.f 101) [p.av] h (.val (.int .i64 x)) h := by
  obtain ⟨A, hA⟩ := calledE152_4 p hk
  obtain ⟨r, ⟨x, hx⟩, ha⟩ := ansE (g := 101) (l := [p.av]) (P := fun r => ∃ x, r = .val (.int .i64 x)) f101_ok fun s hs hh hd => by
    have h0 := hs 0 _ rfl
    obtain ⟨e, he⟩ : ∃ B, strEq p.nm ⟨#[]⟩ = B := ⟨_, rfl⟩
    obtain ⟨z, hz⟩ : ∃ B, decide (p.n = 0) = B := ⟨_, rfl⟩
    obtain ⟨K, hK⟩ : ∃ B, (bif 1 == 0 then decide (((p.ks.length : Nat) : Int) = 0) else (decide (1 ≤ ((p.ks.length : Nat) : Int)) && decide (((p.ks.length : Nat) : Int) ≤ 24))) = B := ⟨_, rfl⟩
    simp only [Nat.reduceBEq, cond_true, cond_false] at hK
    cases e <;> cases z <;> cases K <;> cases A <;> simp -implicitDefEqProofs only [f101_fn, f101, W0, W1, W2, W3, W4, W5, W6, W7, W8, St.put, Option.bind_some, Option.map_some, ↓reduceIte, Nat.reduceEqDiff, Nat.reduceAdd, Nat.reduceMul, reduceCtorEq, cond_true, cond_false, Int.reduceEq, Int.reduceLT, Int.reduceLE, if_true, if_false, h0, hh, hd, hk, kids_to151_4, named_to150_4, in_to102, callK_all hA, he, hz, hK]
    all_goals exact ⟨_, ⟨_, rfl⟩, rfl⟩
  subst hx
  exact ⟨x, call_tree (by kernel_rfl) (by kernel_rfl) (mem1 (Tree.pr p)) rfl (Tree.val _) ha⟩
theorem nodeE56_5 (p : Pr) (hk : p.op = 5) : ∃ x, ∀ h, RunCall E1 (.f 56) [p.av] h (.val (.int .i64 x)) h := by
  obtain ⟨A, hA⟩ := core_ans p.nm
  obtain ⟨r, ⟨x, hx⟩, ha⟩ := ansE (g := 56) (l := [p.av]) (P := fun r => ∃ x, r = .val (.int .i64 x)) f56_ok fun s hs hh hd => by
    have h0 := hs 0 _ rfl
    obtain ⟨B, hB⟩ : ∃ B, decide (A = 0) = B := ⟨_, rfl⟩
    obtain ⟨z, hz⟩ : ∃ B, decide (p.n = 0) = B := ⟨_, rfl⟩
    obtain ⟨L1, hL1⟩ : ∃ B, decide (((p.ks.length : Nat) : Int) < 1) = B := ⟨_, rfl⟩
    obtain ⟨L2, hL2⟩ : ∃ B, decide ((24 : Int) < ((p.ks.length : Nat) : Int)) = B := ⟨_, rfl⟩
    obtain ⟨V, hV⟩ : ∃ B, strEq p.nm ⟨#[118]⟩ = B := ⟨_, rfl⟩
    obtain ⟨T, hT⟩ : ∃ B, strEq p.nm ⟨#[116, 97, 103]⟩ = B := ⟨_, rfl⟩
    obtain ⟨U, hU⟩ : ∃ B, strEq p.nm ⟨#[118, 97, 108]⟩ = B := ⟨_, rfl⟩
    cases z with
    | false =>
      simp -implicitDefEqProofs only [f56_fn, f56, W0, W1, W2, W3, W4, W5, W6, W7, W8, St.put, Option.bind_some, Option.map_some, ↓reduceIte, Nat.reduceEqDiff, Nat.reduceAdd, Nat.reduceMul, reduceCtorEq, cond_true, cond_false, Int.reduceEq, Int.reduceLT, Int.reduceLE, if_true, if_false, h0, hh, hd, hk, kids_to94_5, named_to95_5, in_to58, hz]
      exact ⟨_, ⟨_, rfl⟩, rfl⟩
    | true => cases L1 with
      | true =>
        simp -implicitDefEqProofs only [f56_fn, f56, W0, W1, W2, W3, W4, W5, W6, W7, W8, St.put, Option.bind_some, Option.map_some, ↓reduceIte, Nat.reduceEqDiff, Nat.reduceAdd, Nat.reduceMul, reduceCtorEq, cond_true, cond_false, Int.reduceEq, Int.reduceLT, Int.reduceLE, if_true, if_false, h0, hh, hd, hk, kids_to94_5, named_to95_5, in_to58, hz, hL1]
        exact ⟨_, ⟨_, rfl⟩, rfl⟩
      | false => cases L2 with
        | true =>
          simp -implicitDefEqProofs only [f56_fn, f56, W0, W1, W2, W3, W4, W5, W6, W7, W8, St.put, Option.bind_some, Option.map_some, ↓reduceIte, Nat.reduceEqDiff, Nat.reduceAdd, Nat.reduceMul, reduceCtorEq, cond_true, cond_false, Int.reduceEq, Int.reduceLT, Int.reduceLE, if_true, if_false, h0, hh, hd, hk, kids_to94_5, named_to95_5, in_to58, hz, hL1, hL2]
          exact ⟨_, ⟨_, rfl⟩, rfl⟩
        | false => cases B with
          | true =>
            simp -implicitDefEqProofs only [f56_fn, f56, W0, W1, W2, W3, W4, W5, W6, W7, W8, St.put, Option.bind_some, Option.map_some, ↓reduceIte, Nat.reduceEqDiff, Nat.reduceAdd, Nat.reduceMul, reduceCtorEq, cond_true, cond_false, Int.reduceEq, Int.reduceLT, Int.reduceLE, if_true, if_false, h0, hh, hd, hk, kids_to94_5, named_to95_5, in_to58, callK_all hA, hz, hL1, hL2, hB]
            exact ⟨_, ⟨_, rfl⟩, rfl⟩
          | false =>
            cases V <;> cases T <;> cases U <;> simp -implicitDefEqProofs only [f56_fn, f56, W0, W1, W2, W3, W4, W5, W6, W7, W8, St.put, Option.bind_some, Option.map_some, ↓reduceIte, Nat.reduceEqDiff, Nat.reduceAdd, Nat.reduceMul, reduceCtorEq, cond_true, cond_false, Int.reduceEq, Int.reduceLT, Int.reduceLE, if_true, if_false, h0, hh, hd, hk, kids_to94_5, named_to95_5, in_to58, callK_all hA, hz, hL1, hL2, hB, hV, hT, hU]
            all_goals exact ⟨_, ⟨_, rfl⟩, rfl⟩
  subst hx
  exact ⟨x, call_tree (by kernel_rfl) (by kernel_rfl) (mem1 (Tree.pr p)) rfl (Tree.val _) ha⟩

theorem calledE152_5 (p : Pr) (hk : p.op = 5) : ∃ x, ∀ h, RunCall E1 (.f 152) [p.av] h (.val (.bool x)) h := by
  obtain ⟨A, hA⟩ := rcore_ans p.nm
  obtain ⟨r, ⟨x, hx⟩, ha⟩ := ansE (g := 152) (l := [p.av]) (P := fun r => ∃ x, r = .val (.bool x)) f152_ok fun s hs hh hd => by
    have h0 := hs 0 _ rfl
    obtain ⟨B, hB⟩ : ∃ B, decide (A = 0) = B := ⟨_, rfl⟩
    obtain ⟨V, hV⟩ : ∃ B, strEq p.nm ⟨#[118]⟩ = B := ⟨_, rfl⟩
    obtain ⟨T, hT⟩ : ∃ B, strEq p.nm ⟨#[116, 97, 103]⟩ = B := ⟨_, rfl⟩
    obtain ⟨U, hU⟩ : ∃ B, strEq p.nm ⟨#[118, 97, 108]⟩ = B := ⟨_, rfl⟩
    cases V <;> cases T <;> cases U <;> simp -implicitDefEqProofs only [f152_fn, f152, W0, W1, W2, W3, W4, W5, W6, W7, W8, St.put, Option.bind_some, Option.map_some, ↓reduceIte, Nat.reduceEqDiff, Nat.reduceAdd, Nat.reduceMul, reduceCtorEq, cond_true, cond_false, Int.reduceEq, Int.reduceLT, Int.reduceLE, if_true, if_false, h0, hh, hd, hk, callK_all hA, hB, hV, hT, hU]
    all_goals exact ⟨_, ⟨_, rfl⟩, rfl⟩
  subst hx
  exact ⟨x, call_tree (by kernel_rfl) (by kernel_rfl) (mem1 (Tree.pr p)) rfl (Tree.val _) ha⟩

theorem nodeE101_5 (p : Pr) (hk : p.op = 5) : ∃ x, ∀ h, RunCall E1 (.f 101) [p.av] h (.val (.int .i64 x)) h := by
  obtain ⟨A, hA⟩ := calledE152_5 p hk
  obtain ⟨r, ⟨x, hx⟩, ha⟩ := ansE (g := 101) (l := [p.av]) (P := fun r => ∃ x, r = .val (.int .i64 x)) f101_ok fun s hs hh hd => by
    have h0 := hs 0 _ rfl
    obtain ⟨e, he⟩ : ∃ B, strEq p.nm ⟨#[]⟩ = B := ⟨_, rfl⟩
    obtain ⟨z, hz⟩ : ∃ B, decide (p.n = 0) = B := ⟨_, rfl⟩
    obtain ⟨K, hK⟩ : ∃ B, (bif 1 == 0 then decide (((p.ks.length : Nat) : Int) = 0) else (decide (1 ≤ ((p.ks.length : Nat) : Int)) && decide (((p.ks.length : Nat) : Int) ≤ 24))) = B := ⟨_, rfl⟩
    simp only [Nat.reduceBEq, cond_true, cond_false] at hK
    cases e <;> cases z <;> cases K <;> cases A <;> simp -implicitDefEqProofs only [f101_fn, f101, W0, W1, W2, W3, W4, W5, W6, W7, W8, St.put, Option.bind_some, Option.map_some, ↓reduceIte, Nat.reduceEqDiff, Nat.reduceAdd, Nat.reduceMul, reduceCtorEq, cond_true, cond_false, Int.reduceEq, Int.reduceLT, Int.reduceLE, if_true, if_false, h0, hh, hd, hk, kids_to151_5, named_to150_5, in_to102, callK_all hA, he, hz, hK]
    all_goals exact ⟨_, ⟨_, rfl⟩, rfl⟩
  subst hx
  exact ⟨x, call_tree (by kernel_rfl) (by kernel_rfl) (mem1 (Tree.pr p)) rfl (Tree.val _) ha⟩

/-! Numbers of no kind. -/
theorem node_out56 (p : Pr) (hk : p.op < 1 ∨ 18 < p.op) (h : AH) : RunCall E1 (.f 56) [p.av] h (.val (.int .i64 1)) h := by
  refine call_tree (by kernel_rfl) (by kernel_rfl) (mem1 (Tree.pr p)) rfl (Tree.val _) (ans1s f56_ok fun s hs hh hd => ?_) h
  have h0 := hs 0 _ rfl
  by_cases a : p.op < 1
  · have b : decide (p.op < 1) = true := decide_eq_true a
    simp -implicitDefEqProofs only [f56_fn, f56, W0, W1, W2, W3, W4, W5, W6, W7, W8, St.put, Option.bind_some, Option.map_some, ↓reduceIte, Nat.reduceEqDiff, Nat.reduceAdd, Nat.reduceMul, reduceCtorEq, cond_true, cond_false, Int.reduceEq, Int.reduceLT, Int.reduceLE, if_true, if_false, h0, hh, hd, b]
  · have b : decide (p.op < 1) = false := decide_eq_false a
    have c : decide (18 < p.op) = true := decide_eq_true (by omega)
    simp -implicitDefEqProofs only [f56_fn, f56, W0, W1, W2, W3, W4, W5, W6, W7, W8, St.put, Option.bind_some, Option.map_some, ↓reduceIte, Nat.reduceEqDiff, Nat.reduceAdd, Nat.reduceMul, reduceCtorEq, cond_true, cond_false, Int.reduceEq, Int.reduceLT, Int.reduceLE, if_true, if_false, h0, hh, hd, b, c]
theorem node_out101 (p : Pr) (hk : p.op < 1 ∨ 18 < p.op) (h : AH) : RunCall E1 (.f 101) [p.av] h (.val (.int .i64 1)) h := by
  refine call_tree (by kernel_rfl) (by kernel_rfl) (mem1 (Tree.pr p)) rfl (Tree.val _) (ans1s f101_ok fun s hs hh hd => ?_) h
  have h0 := hs 0 _ rfl
  have n1 : decide (p.op = 1) = false := decide_eq_false (by omega)
  have n2 : decide (p.op = 2) = false := decide_eq_false (by omega)
  by_cases a : p.op < 1
  · have b : decide (p.op < 1) = true := decide_eq_true a
    simp -implicitDefEqProofs only [f101_fn, f101, W0, W1, W2, W3, W4, W5, W6, W7, W8, St.put, Option.bind_some, Option.map_some, ↓reduceIte, Nat.reduceEqDiff, Nat.reduceAdd, Nat.reduceMul, reduceCtorEq, cond_true, cond_false, Int.reduceEq, Int.reduceLT, Int.reduceLE, if_true, if_false, h0, hh, hd, b, n1, n2]
  · have b : decide (p.op < 1) = false := decide_eq_false a
    have c : decide (18 < p.op) = true := decide_eq_true (by omega)
    simp -implicitDefEqProofs only [f101_fn, f101, W0, W1, W2, W3, W4, W5, W6, W7, W8, St.put, Option.bind_some, Option.map_some, ↓reduceIte, Nat.reduceEqDiff, Nat.reduceAdd, Nat.reduceMul, reduceCtorEq, cond_true, cond_false, Int.reduceEq, Int.reduceLT, Int.reduceLE, if_true, if_false, h0, hh, hd, b, c, n1, n2]

/-! ### what the two checks say of a node -/
def isNamed (p : Pr) : Prop := p.op = 3 ∨ p.op = 4 ∨ p.op = 5

/-- A node that is right, as far as the values need it. -/
def okNode (p : Pr) : Prop := 1 ≤ p.op ∧ p.op ≤ 18 ∧ ((p.op = 1 ∨ p.op = 2) → p.ks.length = 0) ∧ ((p.op = 9 ∨ p.op = 14) → p.ks.length = 1) ∧ ((6 ≤ p.op ∧ p.op ≠ 9 ∧ p.op ≠ 14) → p.ks.length = 2)

theorem nodeS_ok {num e z l r m : Bool} (h : nodeS num e z l r m = 0) : l = true := by
  cases num <;> cases e <;> cases z <;> cases l <;> cases r <;> cases m <;> first | rfl | cases h

theorem op_cases {o : Int} (h1 : 1 ≤ o) (h2 : o ≤ 18) : o = 1 ∨ o = 2 ∨ o = 3 ∨ o = 4 ∨ o = 5 ∨ o = 6 ∨ o = 7 ∨ o = 8 ∨ o = 9 ∨ o = 10 ∨ o = 11 ∨ o = 12 ∨ o = 13 ∨ o = 14 ∨ o = 15 ∨ o = 16 ∨ o = 17 ∨ o = 18 := by omega

/-- Both checks answer; and the same, if the node has no name. -/
theorem node_both (p : Pr) : ∃ x y, (∀ h, RunCall E1 (.f 56) [p.av] h (.val (.int .i64 x)) h) ∧ (∀ h, RunCall E1 (.f 101) [p.av] h (.val (.int .i64 y)) h) ∧ (¬ isNamed p → x = y ∧ (x = 0 → okNode p)) := by
  by_cases h : p.op < 1 ∨ 18 < p.op
  · exact ⟨1, 1, node_out56 p h, node_out101 p h, fun _ => ⟨rfl, fun e => (by cases e)⟩⟩
  · rcases op_cases (o := p.op) (by omega) (by omega) with k | k | k | k | k | k | k | k | k | k | k | k | k | k | k | k | k | k
    · refine ⟨_, _, node_call56_1 p k, node_call101_1 p k, fun _ => ⟨rfl, fun e => ?_⟩⟩
      have hl := of_decide_eq_true (nodeS_ok e)
      exact ⟨by omega, by omega, fun _ => by omega, fun q => by omega, fun q => by omega⟩
    · refine ⟨_, _, node_call56_2 p k, node_call101_2 p k, fun _ => ⟨rfl, fun e => ?_⟩⟩
      have hl := of_decide_eq_true (nodeS_ok e)
      exact ⟨by omega, by omega, fun _ => by omega, fun q => by omega, fun q => by omega⟩
    · obtain ⟨x, hx⟩ := nodeE56_3 p k
      obtain ⟨y, hy⟩ := nodeE101_3 p k
      exact ⟨x, y, hx, hy, fun q => absurd (by unfold isNamed; omega) q⟩
    · obtain ⟨x, hx⟩ := nodeE56_4 p k
      obtain ⟨y, hy⟩ := nodeE101_4 p k
      exact ⟨x, y, hx, hy, fun q => absurd (by unfold isNamed; omega) q⟩
    · obtain ⟨x, hx⟩ := nodeE56_5 p k
      obtain ⟨y, hy⟩ := nodeE101_5 p k
      exact ⟨x, y, hx, hy, fun q => absurd (by unfold isNamed; omega) q⟩
    · refine ⟨_, _, node_call56_6 p k, node_call101_6 p k, fun _ => ⟨rfl, fun e => ?_⟩⟩
      have hl := of_decide_eq_true (nodeS_ok e)
      exact ⟨by omega, by omega, fun q => by omega, fun q => by omega, fun q => by omega⟩
    · refine ⟨_, _, node_call56_7 p k, node_call101_7 p k, fun _ => ⟨rfl, fun e => ?_⟩⟩
      have hl := of_decide_eq_true (nodeS_ok e)
      exact ⟨by omega, by omega, fun q => by omega, fun q => by omega, fun q => by omega⟩
    · refine ⟨_, _, node_call56_8 p k, node_call101_8 p k, fun _ => ⟨rfl, fun e => ?_⟩⟩
      have hl := of_decide_eq_true (nodeS_ok e)
      exact ⟨by omega, by omega, fun q => by omega, fun q => by omega, fun q => by omega⟩
    · refine ⟨_, _, node_call56_9 p k, node_call101_9 p k, fun _ => ⟨rfl, fun e => ?_⟩⟩
      have hl := of_decide_eq_true (nodeS_ok e)
      exact ⟨by omega, by omega, fun q => by omega, fun q => by omega, fun q => by omega⟩
    · refine ⟨_, _, node_call56_10 p k, node_call101_10 p k, fun _ => ⟨rfl, fun e => ?_⟩⟩
      have hl := of_decide_eq_true (nodeS_ok e)
      exact ⟨by omega, by omega, fun q => by omega, fun q => by omega, fun q => by omega⟩
    · refine ⟨_, _, node_call56_11 p k, node_call101_11 p k, fun _ => ⟨rfl, fun e => ?_⟩⟩
      have hl := of_decide_eq_true (nodeS_ok e)
      exact ⟨by omega, by omega, fun q => by omega, fun q => by omega, fun q => by omega⟩
    · refine ⟨_, _, node_call56_12 p k, node_call101_12 p k, fun _ => ⟨rfl, fun e => ?_⟩⟩
      have hl := of_decide_eq_true (nodeS_ok e)
      exact ⟨by omega, by omega, fun q => by omega, fun q => by omega, fun q => by omega⟩
    · refine ⟨_, _, node_call56_13 p k, node_call101_13 p k, fun _ => ⟨rfl, fun e => ?_⟩⟩
      have hl := of_decide_eq_true (nodeS_ok e)
      exact ⟨by omega, by omega, fun q => by omega, fun q => by omega, fun q => by omega⟩
    · refine ⟨_, _, node_call56_14 p k, node_call101_14 p k, fun _ => ⟨rfl, fun e => ?_⟩⟩
      have hl := of_decide_eq_true (nodeS_ok e)
      exact ⟨by omega, by omega, fun q => by omega, fun q => by omega, fun q => by omega⟩
    · refine ⟨_, _, node_call56_15 p k, node_call101_15 p k, fun _ => ⟨rfl, fun e => ?_⟩⟩
      have hl := of_decide_eq_true (nodeS_ok e)
      exact ⟨by omega, by omega, fun q => by omega, fun q => by omega, fun q => by omega⟩
    · refine ⟨_, _, node_call56_16 p k, node_call101_16 p k, fun _ => ⟨rfl, fun e => ?_⟩⟩
      have hl := of_decide_eq_true (nodeS_ok e)
      exact ⟨by omega, by omega, fun q => by omega, fun q => by omega, fun q => by omega⟩
    · refine ⟨_, _, node_call56_17 p k, node_call101_17 p k, fun _ => ⟨rfl, fun e => ?_⟩⟩
      have hl := of_decide_eq_true (nodeS_ok e)
      exact ⟨by omega, by omega, fun q => by omega, fun q => by omega, fun q => by omega⟩
    · refine ⟨_, _, node_call56_18 p k, node_call101_18 p k, fun _ => ⟨rfl, fun e => ?_⟩⟩
      have hl := of_decide_eq_true (nodeS_ok e)
      exact ⟨by omega, by omega, fun q => by omega, fun q => by omega, fun q => by omega⟩

noncomputable def Na (p : Pr) : Int := (node_both p).choose
noncomputable def Nb (p : Pr) : Int := (node_both p).choose_spec.choose
theorem Na_call (p : Pr) (h : AH) : RunCall E1 (.f 56) [p.av] h (.val (.int .i64 (Na p))) h := (node_both p).choose_spec.choose_spec.1 h
theorem Nb_call (p : Pr) (h : AH) : RunCall E1 (.f 101) [p.av] h (.val (.int .i64 (Nb p))) h := (node_both p).choose_spec.choose_spec.2.1 h
theorem Na_Nb {p : Pr} (h : ¬ isNamed p) : Na p = Nb p := ((node_both p).choose_spec.choose_spec.2.2 h).1
theorem Na_ok {p : Pr} (h : ¬ isNamed p) (k : Na p = 0) : okNode p := ((node_both p).choose_spec.choose_spec.2.2 h).2 k
theorem Nb_ok {p : Pr} (h : ¬ isNamed p) (k : Nb p = 0) : okNode p := Na_ok h (by rw [Na_Nb h]; exact k)

end Go.Proofs.YtbolilekjpoicaaGreatDoor
