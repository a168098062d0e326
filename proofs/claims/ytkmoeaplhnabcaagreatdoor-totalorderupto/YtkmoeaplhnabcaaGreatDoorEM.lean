/- TChunkM -/
import Derived.Test.YtkmoeaplhnabcaaGreatDoorE2

set_option linter.all false
namespace Go.Proofs.YtkmoeaplhnabcaaGreatDoor
open Go Go.AM
theorem c26:answers (pureRunK (Ek [(387,a25,r25)]) 1000000 217 a26) r26=true:=by kernel_rfl
end Go.Proofs.YtkmoeaplhnabcaaGreatDoor
