/- TChunkH -/
import Derived.Test.YtkmoeaplhnabcaaGreatDoorE2

set_option linter.all false
namespace Go.Proofs.YtkmoeaplhnabcaaGreatDoor
open Go Go.AM
theorem c14:answers (pureRunK (Ek [(536,a8,r8),(536,a11,r11)]) 1000000 373 a14) r14=true:=by kernel_rfl
end Go.Proofs.YtkmoeaplhnabcaaGreatDoor
