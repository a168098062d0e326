/- TChunkQ -/
import Derived.Test.YtkmoeaplhnabcaaGreatDoorE2

set_option linter.all false
namespace Go.Proofs.YtkmoeaplhnabcaaGreatDoor
open Go Go.AM
theorem c33:answers (pureRunK (Ek [(387,a32,r32)]) 1000000 217 a33) r33=true:=by kernel_rfl
end Go.Proofs.YtkmoeaplhnabcaaGreatDoor
