/- TChunkP -/
import Derived.Test.YtkmoeaplhnabcaaGreatDoorE2

set_option linter.all false
namespace Go.Proofs.YtkmoeaplhnabcaaGreatDoor
open Go Go.AM
theorem c31:answers (pureRunK (Ek [(373,a27,r27),(373,a28,r28),(373,a29,r29),(216,a30,r30)]) 1000000 151 a31) r31=true:=by kernel_rfl
end Go.Proofs.YtkmoeaplhnabcaaGreatDoor
