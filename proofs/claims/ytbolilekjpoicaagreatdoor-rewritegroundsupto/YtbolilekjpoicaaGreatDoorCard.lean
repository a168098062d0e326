/-
  PROVED: THE CARD OF 'liquidchecklaw43.RewriteGrounds' IN ITS SECOND FORM ('Rows.RewriteGroundsUptoCardSaid'): called with any predicate, the law returns true, and the predicate reads afterwards as it read before.
  CONDITIONS: what is read (the predicate) holds at most 1048576 values and letters, each counted each time it is reached; the listed package variables hold what the program's text lays (tied by the given tie).
-/
import Derived.Test.YtbolilekjpoicaaGreatDoorF1
import Derived.Test.YtbolilekjpoicaaGreatDoorL1

set_option linter.all false

/- The row's statement, and its card. -/
namespace Go.Proofs.YtbolilekjpoicaaGreatDoor
open Go
set_option linter.all false
set_option maxRecDepth 100000
set_option maxHeartbeats 0

theorem named3 : Tryz.pinned.checked.prog.funcNamed Rows.rewriteGroundsUptoRow.func = some 3 := by kernel_rfl
theorem inst3 : Tryz.f3.isInstance Tryz.pinned.checked.prog Rows.rewriteGroundsUptoRow.origin Rows.rewriteGroundsUptoRow.targs := of_decide_eq_true (by kernel_rfl)
theorem wrap3 : Tryz.f3.isWrapper Tryz.pinned.checked.prog Rows.rewriteGroundsUptoRow.wrapper Rows.rewriteGroundsUptoRow.mainSum := by
  unfold Func.isWrapper
  first
    | (rw [if_pos (by decide +kernel)]; kernel_rfl)
    | (rw [if_neg (by decide +kernel)]; exact ⟨rfl, rfl⟩)

theorem saidUpto : Rows.RewriteGroundsUptoSaid :=
  OpenClaim.holds_of_cond 3 Tryz.f3 rfl rfl rfl rfl rfl rfl rfl ⟨rfl, rfl, rfl, rfl, rfl⟩ rfl rfl rfl rfl rfl named3 Tryz.func3 closed inst3 wrap3
    (fun os started H enc _ F => by rw [OpenClaim.pre_eq_preRow]; exact liftedUpto os started H enc F)

theorem plain (f : FuncId) (fn : Func) (hf : Tryz.pinned.checked.prog.funcNamed Rows.rewriteGroundsUptoRow.func = some f) (hfn : Tryz.pinned.checked.prog.funcs[f]? = some fn) :
    true = Tryz.pinned.checked.prog.looks [] ∧ ∀ (j : Nat) t, fn.params[j]? = some t → Tryz.pinned.checked.prog.wantsStandIn t = false := by
  obtain rfl : f = 3 := Option.some.inj (named3.symm.trans hf) |>.symm
  obtain rfl : fn = Tryz.f3 := (Option.some.inj (Tryz.func3.symm.trans hfn)).symm
  refine ⟨by kernel_rfl, fun j t ht => ?_⟩
  rw [Tryz.params3] at ht
  obtain rfl : t = 25 := by simpa using Array.mem_of_getElem? ht
  exact (show Tryz.prog.wantsStandIn 25 = false by kernel_rfl)

end Go.Proofs.YtbolilekjpoicaaGreatDoor

/- The card. -/
namespace Go.Proofs.YtbolilekjpoicaaGreatDoor
open Go
set_option linter.all false
set_option maxRecDepth 100000
set_option maxHeartbeats 0

theorem none_goes : Tryz.prog.funcs.toList.all (fun f => !f.goes) = true := by kernel_rfl
theorem goes_not (fn : Func) (h : fn ∈ Tryz.prog.funcs.toList) : fn.goes = false := by
  have := List.all_eq_true.1 none_goes fn h
  simpa using this
theorem goes_f (P : Program) (hall : ∀ fn ∈ P.funcs.toList, fn.goes = false) (f : FuncId) : P.goes f = false := by
  have h1 : ∀ g : FuncId, (P.funcs[g]?).any Func.goes = false := fun g => by
    cases hg : P.funcs[g]? with
    | none => rfl
    | some fn => exact hall fn (Array.mem_toList_iff.2 (Array.mem_of_getElem? hg))
  have h2 : P.funcs.any Func.goes = false := by
    rw [Array.any_eq_false]
    intro i hi
    rw [hall _ (Array.mem_toList_iff.2 (Array.getElem_mem hi))]
    decide
  unfold Program.goes
  rw [h2, Bool.and_false, Bool.or_false, List.any_eq_false]
  intro g _
  rw [h1 g]
  decide
theorem goes_by (P : Program) (c : OpenClaim) (f : FuncId) (hf : P.funcNamed c.func = some f) (hs : c.start = .entering) (h : P.goes f = false) : false = c.goesBy P := by
  unfold OpenClaim.goesBy Program.goesAt Program.goesFrom
  rw [hf, hs]
  simp only [Option.any_some, h, Bool.or_false]
theorem prog_eq : Tryz.pinned.checked.prog = Tryz.prog := by kernel_rfl
theorem goes3 : false = Rows.rewriteGroundsUptoRow.goesBy Tryz.pinned.checked.prog :=
  goes_by _ _ 3 named3 rfl (goes_f _ (fun fn h => by rw [prog_eq] at h; exact goes_not fn h) 3)
theorem wfText : Rows.rewriteGroundsUptoRow.wfByText (Rows.OpenSpec.upto Rows.rewriteGroundsSpec) = true := by kernel_rfl
theorem main3 : Tryz.pinned.checked.prog.mainIs = some (true, "94951113743e7c947bbd3d83d5a6c422e922cad7723dbd242d5608e014c9d50d".toList) := by kernel_rfl

theorem rewriteGrounds_card : Rows.RewriteGroundsUptoCardSaid :=
  Claim7.holds_tied_plain_at .later [] _ _ _ _ saidUpto (fun _ h => by cases h) wfText (fun _ h => by cases h) rewriteGroundsUpto_row_tie rfl ⟨rfl, rfl⟩ main3 rfl plain goes3

end Go.Proofs.YtbolilekjpoicaaGreatDoor
