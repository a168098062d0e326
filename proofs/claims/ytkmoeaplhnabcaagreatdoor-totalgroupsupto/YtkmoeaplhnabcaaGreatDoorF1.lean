/- TFactsG -/
import Derived.Test.YtkmoeaplhnabcaaGreatDoorU0
import Derived.Test.YtkmoeaplhnabcaaGreatDoorRows
import Derived.JoinedCond
import Derived.KernelRfl

set_option linter.all false
namespace Go.Proofs.YtkmoeaplhnabcaaGreatDoor
open Go
set_option maxRecDepth 100000
set_option maxHeartbeats 0
theorem Su{a b:Bool}(h:a=true)(k:b=true):(a&&b)=true:=by rw[h,k];rfl
theorem Mc:joinedFacts Tryz.pinned.checked.prog 3 Tryz.f3 (Rows.OpenSpec.upto Rows.totalGroupsSpec).bare Rows.totalGroupsUptoRow=true:=by
 unfold joinedFacts
 iterate 31 refine Su ?_ ?_
 ·exact U86
 ·exact U86
 ·exact U86
 ·exact U86
 ·exact U86
 ·exact U86
 ·exact U86
 ·exact U86
 ·exact U86
 ·exact U86
 ·exact U86
 ·exact U86
 ·exact U86
 ·exact U86
 ·exact U86
 ·exact U86
 ·exact U86
 ·exact U86
 ·exact U86
 ·exact U86
 ·exact U86
 ·exact U86
 ·exact U86
 ·exact U86
 ·exact U86
 ·exact U86
 ·exact U86
 ·exact U86
 ·exact U86
 ·exact U86
 ·exact U86
 ·exact U86
end Go.Proofs.YtkmoeaplhnabcaaGreatDoor
