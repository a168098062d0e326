/- TChunkE -/
import Derived.Test.YtkmoeaplhnabcaaGreatDoorE2

set_option linter.all false
namespace Go.Proofs.YtkmoeaplhnabcaaGreatDoor
open Go Go.AM
theorem c6:answers (pureRunK (Ek []) 1000000 326 a6) r6=true:=by kernel_rfl
theorem c11:answers (pureRunK (Ek [(541,a7,r7)]) 1000000 536 a11) r11=true:=by kernel_rfl
theorem c18:answers (pureRunK (Ek []) 1000000 326 a18) r18=true:=by kernel_rfl
theorem c27:answers (pureRunK (Ek [(536,a8,r8),(536,a16,r16)]) 1000000 373 a27) r27=true:=by kernel_rfl
theorem c37:answers (pureRunK (Ek [(49,ka1,kr1),(69,ka5,kr5),(35,a1,r1),(37,a23,r23),(66,a36,r36)]) 1000000 21 a37) r37=true:=by kernel_rfl
end Go.Proofs.YtkmoeaplhnabcaaGreatDoor
