/- TChunkL -/
import Derived.Test.YtkmoeaplhnabcaaGreatDoorE2

set_option linter.all false
namespace Go.Proofs.YtkmoeaplhnabcaaGreatDoor
open Go Go.AM
theorem c24:answers (pureRunK (Ek [(83,ka2,kr2),(49,ka3,kr3)]) 1000000 35 a24) r24=true:=by kernel_rfl
end Go.Proofs.YtkmoeaplhnabcaaGreatDoor
