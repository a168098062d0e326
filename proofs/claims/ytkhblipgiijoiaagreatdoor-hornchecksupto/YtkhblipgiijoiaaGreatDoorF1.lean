/- ZFactsH -/
import Derived.Test.YtkhblipgiijoiaaGreatDoorU0
import Derived.Test.YtkhblipgiijoiaaGreatDoorRows
import Derived.JoinedCond
import Derived.KernelRfl

set_option linter.all false
namespace Go.Proofs.YtkhblipgiijoiaaGreatDoor
open Go
set_option maxRecDepth 100000
set_option maxHeartbeats 0
theorem aKU{a b:Bool}(h:a=true)(k:b=true):(a&&b)=true:=by rw[h,k];rfl
theorem aEC:joinedFacts Tryz.pinned.checked.prog 3 Tryz.f3 (Rows.OpenSpec.upto Rows.hornChecksSpec).bare Rows.hornChecksUptoRow=true:=by
 unfold joinedFacts
 iterate 31 refine aKU ?_ ?_
 ·exact U147
 ·exact U147
 ·exact U147
 ·exact U147
 ·exact U147
 ·exact U147
 ·exact U147
 ·exact U147
 ·exact U147
 ·exact U147
 ·exact U147
 ·exact U147
 ·exact U147
 ·exact U147
 ·exact U147
 ·exact U147
 ·exact U147
 ·exact U147
 ·exact U147
 ·exact U147
 ·exact U147
 ·exact U147
 ·exact U147
 ·exact U147
 ·exact U147
 ·exact U147
 ·exact U147
 ·exact U147
 ·exact U147
 ·exact U147
 ·exact U147
 ·exact U147
end Go.Proofs.YtkhblipgiijoiaaGreatDoor
