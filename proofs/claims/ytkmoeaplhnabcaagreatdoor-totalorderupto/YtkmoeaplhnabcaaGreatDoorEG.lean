/- TChunkG -/
import Derived.Test.YtkmoeaplhnabcaaGreatDoorE2

set_option linter.all false
namespace Go.Proofs.YtkmoeaplhnabcaaGreatDoor
open Go Go.AM
theorem c4:answers (pureRunK (Ek [(338,a3,r3)]) 1000000 217 a4) r4=true:=by kernel_rfl
end Go.Proofs.YtkmoeaplhnabcaaGreatDoor
