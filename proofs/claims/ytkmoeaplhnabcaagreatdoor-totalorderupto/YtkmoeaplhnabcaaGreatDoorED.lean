/- TChunkD -/
import Derived.Test.YtkmoeaplhnabcaaGreatDoorE2

set_option linter.all false
namespace Go.Proofs.YtkmoeaplhnabcaaGreatDoor
open Go Go.AM
theorem c5:answers (pureRunK (Ek []) 1000000 326 a5) r5=true:=by kernel_rfl
theorem c10:answers (pureRunK (Ek []) 1000000 326 a10) r10=true:=by kernel_rfl
theorem c16:answers (pureRunK (Ek [(541,a7,r7)]) 1000000 536 a16) r16=true:=by kernel_rfl
theorem c25:answers (pureRunK (Ek []) 1000000 387 a25) r25=true:=by kernel_rfl
theorem c36:answers (pureRunK (Ek []) 1000000 66 a36) r36=true:=by kernel_rfl
end Go.Proofs.YtkmoeaplhnabcaaGreatDoor
