/- TChunkF -/
import Derived.Test.YtkmoeaplhnabcaaGreatDoorE2

set_option linter.all false
namespace Go.Proofs.YtkmoeaplhnabcaaGreatDoor
open Go Go.AM
theorem c1:answers (pureRunK (Ek [(83,ka0,kr0),(49,ka1,kr1),(91,a0,r0)]) 1000000 35 a1) r1=true:=by kernel_rfl
end Go.Proofs.YtkmoeaplhnabcaaGreatDoor
