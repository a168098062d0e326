/- VFacts -/
import Derived.Test.YtmbabhlmdhghdaaGreatDoorU0
import Derived.Test.YtmbabhlmdhghdaaGreatDoorRows
import Derived.JoinedCond
set_option linter.all false
open Option renaming some->Z, none->Y
open Bool renaming true->J, false->U
namespace Go.Proofs.YtmbabhlmdhghdaaGreatDoor
open Go
set_option maxRecDepth 100000
set_option maxHeartbeats 0
theorem bOO{a b:Bool}(h:a=J)(k:b=J):(a&&b)=J:=by rw[h,k];rfl
theorem closed:joinedFacts Tryz.pinned.checked.prog 3 Tryz.f3 (Rows.OpenSpec.upto Rows.fixpointStartsSpec).bare Rows.fixpointStartsUptoRow=J:=by
 unfold joinedFacts
 iterate 31 refine bOO ?_ ?_
 ·exact U56
 ·exact U56
 ·exact U56
 ·exact U56
 ·exact U56
 ·exact U56
 ·exact U56
 ·exact U56
 ·exact U56
 ·exact U56
 ·exact U56
 ·exact U56
 ·exact U56
 ·exact U56
 ·exact U56
 ·exact U56
 ·exact U56
 ·exact U56
 ·exact U56
 ·exact U56
 ·exact U56
 ·exact U56
 ·exact U56
 ·exact U56
 ·exact U56
 ·exact U56
 ·exact U56
 ·exact U56
 ·exact U56
 ·exact U56
 ·exact U56
 ·exact U56
end Go.Proofs.YtmbabhlmdhghdaaGreatDoor
