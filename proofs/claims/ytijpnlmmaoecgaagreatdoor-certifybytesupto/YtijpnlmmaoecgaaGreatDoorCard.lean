/-
  PROVED: THE CARD OF 'liquidchecklaw55.CertifyBytes' IN ITS SECOND FORM ('Rows.CertifyBytesUptoCardSaid'): called with any certificate, the law returns true, and the argument reads afterwards as it read before.
  CONDITIONS: what is read (the argument) holds at most 1048576 values and letters, each counted each time it is reached; the listed package variables hold what the program's text lays (tied in the text T1).
-/
import Derived.Test.YtijpnlmmaoecgaaGreatDoorT1
import Derived.Test.YtijpnlmmaoecgaaGreatDoorQL2
import Derived.Test.YtijpnlmmaoecgaaGreatDoorQF1
import Derived.Test.YtijpnlmmaoecgaaGreatDoorCards

set_option linter.all false

namespace Go.Proofs.YtijpnlmmaoecgaaGreatDoor
open Go
set_option maxRecDepth 100000
set_option maxHeartbeats 0
theorem certifyBytesUpto_row_tie : Rows.certifyBytesUptoRow.laidByTextAt .later Tryz.pinned [.data, .data, .data, .data, .pinned, .data, .pinned, .pinned, .pinned, .pinned, .pinned, .sentinel, .sentinel] true :=
 OpenClaim.laidByTextAt_pinned rfl rfl tie rfl rfl rfl rfl (fun y hy _e => by
  simp only [Rows.certifyBytesUptoRow, List.zip_cons_cons, List.zip_nil_right, List.mem_cons, List.mem_nil_iff, or_false] at hy
  rcases hy with rfl | rfl | rfl | rfl | rfl | rfl | rfl | rfl | rfl | rfl | rfl | rfl | rfl
  ·cases _e
  ·cases _e
  ·cases _e
  ·cases _e
  ·exact ⟨pin_laid_unicode_utf8_first, by kernel_rfl⟩
  ·cases _e
  ·exact ⟨pin_laid_strconv_isPrint16, by kernel_rfl⟩
  ·exact ⟨pin_laid_strconv_isNotPrint16, by kernel_rfl⟩
  ·exact ⟨pin_laid_strconv_isPrint32, by kernel_rfl⟩
  ·exact ⟨pin_laid_strconv_isNotPrint32, by kernel_rfl⟩
  ·exact ⟨pin_laid_strconv_isGraphic, by kernel_rfl⟩
  ·cases _e
  ·cases _e) fits1
end Go.Proofs.YtijpnlmmaoecgaaGreatDoor

namespace Go.Proofs.YtijpnlmmaoecgaaGreatDoor
open Go
set_option maxRecDepth 100000
set_option maxHeartbeats 0
theorem named6 : Tryz.pinned.checked.prog.funcNamed Rows.certifyBytesUptoRow.func = some 6 := by kernel_rfl
theorem inst6 : Tryz.f6.isInstance Tryz.pinned.checked.prog Rows.certifyBytesUptoRow.origin Rows.certifyBytesUptoRow.targs := of_decide_eq_true (by kernel_rfl)
theorem wrap6 : Tryz.f6.isWrapper Tryz.pinned.checked.prog Rows.certifyBytesUptoRow.wrapper Rows.certifyBytesUptoRow.mainSum := by
 unfold Func.isWrapper
 first
  | (rw [if_pos (by decide +kernel)]; kernel_rfl)
  | (rw [if_neg (by decide +kernel)]; exact ⟨rfl, rfl⟩)
theorem saidUpto : Rows.CertifyBytesUptoSaid :=
 OpenClaim.holds_of_cond 6 Tryz.f6 rfl rfl rfl rfl rfl rfl rfl ⟨rfl, rfl, rfl, rfl, rfl⟩ rfl rfl rfl rfl rfl named6 Tryz.func6 closed6 inst6 wrap6
  (fun os started H enc _ F => by rw [OpenClaim.pre_eq_preRow]; exact liftedUpto6 os started H enc F)
theorem plain (f : FuncId) (fn : Func) (hf : Tryz.pinned.checked.prog.funcNamed Rows.certifyBytesUptoRow.func = some f) (hfn : Tryz.pinned.checked.prog.funcs[f]? = some fn) :
  true = Tryz.pinned.checked.prog.looks [] ∧ ∀ (j : Nat) t, fn.params[j]? = some t → Tryz.pinned.checked.prog.wantsStandIn t = false := by
 obtain rfl : f = 6 := Option.some.inj (named6.symm.trans hf) |>.symm
 obtain rfl : fn = Tryz.f6 := (Option.some.inj (Tryz.func6.symm.trans hfn)).symm
 refine ⟨by kernel_rfl, fun j t ht => ?_⟩
 rw [Tryz.params6] at ht
 have hm := Array.mem_of_getElem? ht
 simp only [List.mem_toArray, List.mem_cons, List.mem_nil_iff, or_false] at hm
 subst hm
 exact (show Tryz.prog.wantsStandIn 27 = false by kernel_rfl)
theorem none_goes : Tryz.prog.funcs.toList.all (fun f => !f.goes) = true := by kernel_rfl
theorem goes_not (fn : Func) (h : fn ∈ Tryz.prog.funcs.toList) : fn.goes = false := by
 have := List.all_eq_true.1 none_goes fn h
 simpa using this
theorem goes_f (P : Program) (hall : ∀ fn ∈ P.funcs.toList, fn.goes = false) (f : FuncId) : P.goes f = false := by
 have h1 : ∀ g : FuncId, (P.funcs[g]?).any Func.goes = false := fun g => by
  cases hg : P.funcs[g]? with
  | none => rfl
  | some fn => exact hall fn (Array.mem_toList_iff.2 (Array.mem_of_getElem? hg))
 have h2 : P.funcs.any Func.goes = false := by
  rw [Array.any_eq_false]
  intro i hi
  rw [hall _ (Array.mem_toList_iff.2 (Array.getElem_mem hi))]
  decide
 unfold Program.goes
 rw [h2, Bool.and_false, Bool.or_false, List.any_eq_false]
 intro g _
 rw [h1 g]
 decide
theorem goes_by (P : Program) (c : OpenClaim) (f : FuncId) (hf : P.funcNamed c.func = some f) (hs : c.start = .entering) (h : P.goes f = false) : false = c.goesBy P := by
 unfold OpenClaim.goesBy Program.goesAt Program.goesFrom
 rw [hf, hs]
 simp only [Option.any_some, h, Bool.or_false]
theorem prog_eq : Tryz.pinned.checked.prog = Tryz.prog := by kernel_rfl
theorem goes6 : false = Rows.certifyBytesUptoRow.goesBy Tryz.pinned.checked.prog :=
 goes_by _ _ 6 named6 rfl (goes_f _ (fun fn h => by rw [prog_eq] at h; exact goes_not fn h) 6)
theorem wfText : Rows.certifyBytesUptoRow.wfByText (Rows.OpenSpec.upto Rows.certifyBytesSpec) = true := by kernel_rfl
theorem main3 : Tryz.pinned.checked.prog.mainIs = some (true, "77d2c37746ca4c556601784abe9c39892f8c8e4db3b075e5cc1d0a0ac4290da1".toList) := by kernel_rfl
theorem certifyBytes_card : Rows.CertifyBytesUptoCardSaid :=
 Claim7.holds_tied_plain_at .later [] _ _ _ _ saidUpto (fun _ h => by cases h) wfText (fun _ h => by cases h) certifyBytesUpto_row_tie rfl ⟨rfl, rfl⟩ main3 rfl plain goes6
end Go.Proofs.YtijpnlmmaoecgaaGreatDoor
