/- TFactsO -/
import Derived.Test.YtkmoeaplhnabcaaGreatDoorU0
import Derived.Test.YtkmoeaplhnabcaaGreatDoorRows
import Derived.JoinedCond
import Derived.KernelRfl

set_option linter.all false
namespace Go.Proofs.YtkmoeaplhnabcaaGreatDoor
open Go
set_option maxRecDepth 100000
set_option maxHeartbeats 0
theorem Ob{a b:Bool}(h:a=true)(k:b=true):(a&&b)=true:=by rw[h,k];rfl
theorem Hw:joinedFacts Tryz.pinned.checked.prog 4 Tryz.f4 (Rows.OpenSpec.upto Rows.totalOrderSpec).bare Rows.totalOrderUptoRow=true:=by
 unfold joinedFacts
 iterate 31 refine Ob ?_ ?_
 ·exact U80
 ·exact U80
 ·exact U80
 ·exact U80
 ·exact U80
 ·exact U80
 ·exact U80
 ·exact U80
 ·exact U80
 ·exact U80
 ·exact U80
 ·exact U80
 ·exact U80
 ·exact U80
 ·exact U80
 ·exact U80
 ·exact U80
 ·exact U80
 ·exact U80
 ·exact U80
 ·exact U80
 ·exact U80
 ·exact U80
 ·exact U80
 ·exact U80
 ·exact U80
 ·exact U80
 ·exact U80
 ·exact U80
 ·exact U80
 ·exact U80
 ·exact U80
end Go.Proofs.YtkmoeaplhnabcaaGreatDoor
