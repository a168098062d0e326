/- TChunkB -/
import Derived.Test.YtkmoeaplhnabcaaGreatDoorE2

set_option linter.all false
namespace Go.Proofs.YtkmoeaplhnabcaaGreatDoor
open Go Go.AM
theorem c2:answers (pureRunK (Ek []) 1000000 387 a2) r2=true:=by kernel_rfl
theorem c8:answers (pureRunK (Ek [(541,a7,r7)]) 1000000 536 a8) r8=true:=by kernel_rfl
theorem c13:answers (pureRunK (Ek []) 1000000 326 a13) r13=true:=by kernel_rfl
theorem c21:answers (pureRunK (Ek []) 1000000 326 a21) r21=true:=by kernel_rfl
theorem c32:answers (pureRunK (Ek []) 1000000 387 a32) r32=true:=by kernel_rfl
theorem c39:answers (pureRunK (Ek [(49,ka3,kr3),(69,ka6,kr6),(35,a24,r24),(37,a35,r35),(66,a38,r38)]) 1000000 21 a39) r39=true:=by kernel_rfl
end Go.Proofs.YtkmoeaplhnabcaaGreatDoor
