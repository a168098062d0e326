/- TChunkI -/
import Derived.Test.YtkmoeaplhnabcaaGreatDoorE2

set_option linter.all false
namespace Go.Proofs.YtkmoeaplhnabcaaGreatDoor
open Go Go.AM
theorem c17:answers (pureRunK (Ek [(536,a8,r8),(536,a11,r11),(536,a16,r16)]) 1000000 373 a17) r17=true:=by kernel_rfl
end Go.Proofs.YtkmoeaplhnabcaaGreatDoor
