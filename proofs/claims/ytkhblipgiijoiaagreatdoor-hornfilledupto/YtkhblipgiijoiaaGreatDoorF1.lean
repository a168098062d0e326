/- A part of the proof about filled horn systems: ZFacts. -/
import Derived.Test.YtkhblipgiijoiaaGreatDoorU0
import Derived.Test.YtkhblipgiijoiaaGreatDoorRows
import Derived.JoinedCond
import Derived.KernelRfl

set_option linter.all false
namespace Go.Proofs.YtkhblipgiijoiaaGreatDoor
open Go
set_option maxRecDepth 100000
set_option maxHeartbeats 0
theorem and_mk{a b:Bool}(h:a=true)(k:b=true):(a&&b)=true:=by rw[h,k];rfl
theorem closed:joinedFacts Tryz.pinned.checked.prog 4 Tryz.f4 (Rows.OpenSpec.upto Rows.hornFilledSpec).bare Rows.hornFilledUptoRow=true:=by
 unfold joinedFacts
 iterate 31 refine and_mk ?_ ?_
 ·exact U116
 ·exact U116
 ·exact U116
 ·exact U116
 ·exact U116
 ·exact U116
 ·exact U116
 ·exact U116
 ·exact U116
 ·exact U116
 ·exact U116
 ·exact U116
 ·exact U116
 ·exact U116
 ·exact U116
 ·exact U116
 ·exact U116
 ·exact U116
 ·exact U116
 ·exact U116
 ·exact U116
 ·exact U116
 ·exact U116
 ·exact U116
 ·exact U116
 ·exact U116
 ·exact U116
 ·exact U116
 ·exact U116
 ·exact U116
 ·exact U116
 ·exact U116
end Go.Proofs.YtkhblipgiijoiaaGreatDoor
