/- A part of the proofs about certificates: YFactsB. -/
import Derived.Test.YtijpnlmmaoecgaaGreatDoorQK1
import Derived.Test.YtijpnlmmaoecgaaGreatDoorRows
import Derived.JoinedCond
import Derived.KernelRfl

set_option linter.all false

namespace Go.Proofs.YtijpnlmmaoecgaaGreatDoor
open Go
set_option maxRecDepth 100000
set_option maxHeartbeats 0
theorem and_mk6 {a b : Bool} (h : a = true) (k : b = true) : (a && b) = true := by rw [h, k]; rfl
theorem closed6 : joinedFacts Tryz.pinned.checked.prog 6 Tryz.f6 (Rows.OpenSpec.upto Rows.certifyBytesSpec).bare Rows.certifyBytesUptoRow = true := by
 unfold joinedFacts
 iterate 31 refine and_mk6 ?_ ?_
 ·as_aux_lemma => kernel_rfl
 ·as_aux_lemma =>
   rw [show Tryz.pinned.checked.prog = Tryz.prog by kernel_rfl]
   exact laidOut
 ·as_aux_lemma => kernel_rfl
 ·as_aux_lemma => kernel_rfl
 ·as_aux_lemma => kernel_rfl
 ·as_aux_lemma => kernel_rfl
 ·as_aux_lemma => kernel_rfl
 ·as_aux_lemma => kernel_rfl
 ·as_aux_lemma => kernel_rfl
 ·as_aux_lemma => kernel_rfl
 ·as_aux_lemma => kernel_rfl
 ·as_aux_lemma => kernel_rfl
 ·as_aux_lemma => kernel_rfl
 ·as_aux_lemma => kernel_rfl
 ·as_aux_lemma => kernel_rfl
 ·as_aux_lemma => kernel_rfl
 ·as_aux_lemma => kernel_rfl
 ·as_aux_lemma => kernel_rfl
 ·as_aux_lemma => kernel_rfl
 ·as_aux_lemma => kernel_rfl
 ·as_aux_lemma => kernel_rfl
 ·as_aux_lemma => kernel_rfl
 ·as_aux_lemma => kernel_rfl
 ·as_aux_lemma => kernel_rfl
 ·as_aux_lemma => kernel_rfl
 ·as_aux_lemma => kernel_rfl
 ·as_aux_lemma => kernel_rfl
 ·as_aux_lemma => kernel_rfl
 ·as_aux_lemma => kernel_rfl
 ·as_aux_lemma => kernel_rfl
 ·as_aux_lemma => kernel_rfl
 ·as_aux_lemma => kernel_rfl
end Go.Proofs.YtijpnlmmaoecgaaGreatDoor
