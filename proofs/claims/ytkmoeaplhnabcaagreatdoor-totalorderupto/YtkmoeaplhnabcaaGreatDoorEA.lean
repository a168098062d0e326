/- TChunkA -/
import Derived.Test.YtkmoeaplhnabcaaGreatDoorE2

set_option linter.all false
namespace Go.Proofs.YtkmoeaplhnabcaaGreatDoor
open Go Go.AM
theorem c0:answers (pureRunK (Ek []) 1000000 91 a0) r0=true:=by kernel_rfl
theorem c7:answers (pureRunK (Ek []) 1000000 541 a7) r7=true:=by kernel_rfl
theorem c12:answers (pureRunK (Ek [(536,a8,r8),(536,a11,r11)]) 1000000 373 a12) r12=true:=by kernel_rfl
theorem c20:answers (pureRunK (Ek []) 1000000 326 a20) r20=true:=by kernel_rfl
theorem c30:answers (pureRunK (Ek []) 1000000 216 a30) r30=true:=by kernel_rfl
theorem c38:answers (pureRunK (Ek []) 1000000 66 a38) r38=true:=by kernel_rfl
end Go.Proofs.YtkmoeaplhnabcaaGreatDoor
