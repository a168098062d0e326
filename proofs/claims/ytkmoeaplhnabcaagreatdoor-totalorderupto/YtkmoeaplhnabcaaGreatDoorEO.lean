/- TChunkO -/
import Derived.Test.YtkmoeaplhnabcaaGreatDoorE2

set_option linter.all false
namespace Go.Proofs.YtkmoeaplhnabcaaGreatDoor
open Go Go.AM
theorem c29:answers (pureRunK (Ek [(536,a8,r8),(536,a16,r16)]) 1000000 373 a29) r29=true:=by kernel_rfl
end Go.Proofs.YtkmoeaplhnabcaaGreatDoor
