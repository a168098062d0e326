/- A part of the proofs about certificates: YFactsD. -/
import Derived.Test.YtijpnlmmaoecgaaGreatDoorK1
import Derived.Test.YtijpnlmmaoecgaaGreatDoorRows
import Derived.JoinedCond
import Derived.KernelRfl

set_option linter.all false

/- The closed facts of the row. -/
namespace Go.Proofs.YtijpnlmmaoecgaaGreatDoor
open Go
set_option linter.all false
set_option maxRecDepth 100000
set_option maxHeartbeats 0

theorem and_mk5 {a b : Bool} (h : a = true) (k : b = true) : (a && b) = true := by rw [h, k]; rfl

theorem closed5 : joinedFacts Tryz.pinned.checked.prog 5 Tryz.f5 (Rows.OpenSpec.upto Rows.certifyDamageSpec).bare Rows.certifyDamageUptoRow = true := by
  unfold joinedFacts
  iterate 31 refine and_mk5 ?_ ?_
  · as_aux_lemma => kernel_rfl
  · as_aux_lemma =>
      rw [show Tryz.pinned.checked.prog = Tryz.prog by kernel_rfl]
      exact laidOut
  · as_aux_lemma => kernel_rfl
  · as_aux_lemma => kernel_rfl
  · as_aux_lemma => kernel_rfl
  · as_aux_lemma => kernel_rfl
  · as_aux_lemma => kernel_rfl
  · as_aux_lemma => kernel_rfl
  · as_aux_lemma => kernel_rfl
  · as_aux_lemma => kernel_rfl
  · as_aux_lemma => kernel_rfl
  · as_aux_lemma => kernel_rfl
  · as_aux_lemma => kernel_rfl
  · as_aux_lemma => kernel_rfl
  · as_aux_lemma => kernel_rfl
  · as_aux_lemma => kernel_rfl
  · as_aux_lemma => kernel_rfl
  · as_aux_lemma => kernel_rfl
  · as_aux_lemma => kernel_rfl
  · as_aux_lemma => kernel_rfl
  · as_aux_lemma => kernel_rfl
  · as_aux_lemma => kernel_rfl
  · as_aux_lemma => kernel_rfl
  · as_aux_lemma => kernel_rfl
  · as_aux_lemma => kernel_rfl
  · as_aux_lemma => kernel_rfl
  · as_aux_lemma => kernel_rfl
  · as_aux_lemma => kernel_rfl
  · as_aux_lemma => kernel_rfl
  · as_aux_lemma => kernel_rfl
  · as_aux_lemma => kernel_rfl
  · as_aux_lemma => kernel_rfl


end Go.Proofs.YtijpnlmmaoecgaaGreatDoor
