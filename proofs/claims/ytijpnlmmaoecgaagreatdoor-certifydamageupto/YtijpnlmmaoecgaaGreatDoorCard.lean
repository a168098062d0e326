/-
  PROVED: THE CARD OF 'liquidchecklaw55.CertifyDamage' IN ITS SECOND FORM ('Rows.CertifyDamageUptoCardSaid'): called with any certificate, any 16-bit number and any byte, the law returns true, and the arguments read afterwards as they read before.
  CONDITIONS: what is read (the arguments) holds at most 1048576 values and letters, each counted each time it is reached; the listed package variables hold what the program's text lays (tied in the text T1).
-/
import Derived.Test.YtijpnlmmaoecgaaGreatDoorT1
import Derived.Test.YtijpnlmmaoecgaaGreatDoorL2
import Derived.Test.YtijpnlmmaoecgaaGreatDoorF1
import Derived.Test.YtijpnlmmaoecgaaGreatDoorCards

set_option linter.all false

/- The row's statement, and its card. -/
namespace Go.Proofs.YtijpnlmmaoecgaaGreatDoor
open Go
set_option linter.all false
set_option maxRecDepth 100000
set_option maxHeartbeats 0

theorem named5 : Tryz.pinned.checked.prog.funcNamed Rows.certifyDamageUptoRow.func = some 5 := by kernel_rfl
theorem inst5 : Tryz.f5.isInstance Tryz.pinned.checked.prog Rows.certifyDamageUptoRow.origin Rows.certifyDamageUptoRow.targs := of_decide_eq_true (by kernel_rfl)
theorem wrap5 : Tryz.f5.isWrapper Tryz.pinned.checked.prog Rows.certifyDamageUptoRow.wrapper Rows.certifyDamageUptoRow.mainSum := by
  unfold Func.isWrapper
  first
    | (rw [if_pos (by decide +kernel)]; kernel_rfl)
    | (rw [if_neg (by decide +kernel)]; exact ⟨rfl, rfl⟩)

theorem saidUpto : Rows.CertifyDamageUptoSaid :=
  OpenClaim.holds_of_cond 5 Tryz.f5 rfl rfl rfl rfl rfl rfl rfl ⟨rfl, rfl, rfl, rfl, rfl⟩ rfl rfl rfl rfl rfl named5 Tryz.func5 closed5 inst5 wrap5
    (fun os started H enc _ F => by rw [OpenClaim.pre_eq_preRow]; exact liftedUpto5 os started H enc F)

theorem plain (f : FuncId) (fn : Func) (hf : Tryz.pinned.checked.prog.funcNamed Rows.certifyDamageUptoRow.func = some f) (hfn : Tryz.pinned.checked.prog.funcs[f]? = some fn) :
    true = Tryz.pinned.checked.prog.looks [] ∧ ∀ (j : Nat) t, fn.params[j]? = some t → Tryz.pinned.checked.prog.wantsStandIn t = false := by
  obtain rfl : f = 5 := Option.some.inj (named5.symm.trans hf) |>.symm
  obtain rfl : fn = Tryz.f5 := (Option.some.inj (Tryz.func5.symm.trans hfn)).symm
  refine ⟨by kernel_rfl, fun j t ht => ?_⟩
  rw [Tryz.params5] at ht
  have hm := Array.mem_of_getElem? ht
  simp only [List.mem_toArray, List.mem_cons, List.mem_nil_iff, or_false] at hm
  rcases hm with rfl | rfl | rfl
  · exact (show Tryz.prog.wantsStandIn 27 = false by kernel_rfl)
  · exact (show Tryz.prog.wantsStandIn 36 = false by kernel_rfl)
  · exact (show Tryz.prog.wantsStandIn 5 = false by kernel_rfl)

theorem none_goes : Tryz.prog.funcs.toList.all (fun f => !f.goes) = true := by kernel_rfl
theorem goes_not (fn : Func) (h : fn ∈ Tryz.prog.funcs.toList) : fn.goes = false := by
  have := List.all_eq_true.1 none_goes fn h
  simpa using this
theorem goes_f (P : Program) (hall : ∀ fn ∈ P.funcs.toList, fn.goes = false) (f : FuncId) : P.goes f = false := by
  have h1 : ∀ g : FuncId, (P.funcs[g]?).any Func.goes = false := fun g => by
    cases hg : P.funcs[g]? with
    | none => rfl
    | some fn => exact hall fn (Array.mem_toList_iff.2 (Array.mem_of_getElem? hg))
  have h2 : P.funcs.any Func.goes = false := by
    rw [Array.any_eq_false]
    intro i hi
    rw [hall _ (Array.mem_toList_iff.2 (Array.getElem_mem hi))]
    decide
  unfold Program.goes
  rw [h2, Bool.and_false, Bool.or_false, List.any_eq_false]
  intro g _
  rw [h1 g]
  decide
theorem goes_by (P : Program) (c : OpenClaim) (f : FuncId) (hf : P.funcNamed c.func = some f) (hs : c.start = .entering) (h : P.goes f = false) : false = c.goesBy P := by
  unfold OpenClaim.goesBy Program.goesAt Program.goesFrom
  rw [hf, hs]
  simp only [Option.any_some, h, Bool.or_false]
theorem prog_eq : Tryz.pinned.checked.prog = Tryz.prog := by kernel_rfl
theorem goes5 : false = Rows.certifyDamageUptoRow.goesBy Tryz.pinned.checked.prog :=
  goes_by _ _ 5 named5 rfl (goes_f _ (fun fn h => by rw [prog_eq] at h; exact goes_not fn h) 5)
theorem wfText : Rows.certifyDamageUptoRow.wfByText (Rows.OpenSpec.upto Rows.certifyDamageSpec) = true := by kernel_rfl
theorem main5 : Tryz.pinned.checked.prog.mainIs = some (true, "77d2c37746ca4c556601784abe9c39892f8c8e4db3b075e5cc1d0a0ac4290da1".toList) := by kernel_rfl

theorem certifyDamage_card : Rows.CertifyDamageUptoCardSaid :=
  Claim7.holds_tied_plain_at .later [] _ _ _ _ saidUpto (fun _ h => by cases h) wfText (fun _ h => by cases h) certifyDamageUpto_row_tie rfl ⟨rfl, rfl⟩ main5 rfl plain goes5

end Go.Proofs.YtijpnlmmaoecgaaGreatDoor
