/- TChunkC -/
import Derived.Test.YtkmoeaplhnabcaaGreatDoorE2

set_option linter.all false
namespace Go.Proofs.YtkmoeaplhnabcaaGreatDoor
open Go Go.AM
theorem c3:answers (pureRunK (Ek [(387,a2,r2)]) 1000000 338 a3) r3=true:=by kernel_rfl
theorem c9:answers (pureRunK (Ek [(536,a8,r8)]) 1000000 373 a9) r9=true:=by kernel_rfl
theorem c15:answers (pureRunK (Ek []) 1000000 326 a15) r15=true:=by kernel_rfl
theorem c23:answers (pureRunK (Ek [(217,a4,r4),(151,a22,r22)]) 1000000 37 a23) r23=true:=by kernel_rfl
theorem c35:answers (pureRunK (Ek [(217,a26,r26),(151,a31,r31),(217,a33,r33),(151,a34,r34)]) 1000000 37 a35) r35=true:=by kernel_rfl
theorem c40:answers (pureRunK (Ek [(49,ka1,kr1),(49,ka3,kr3),(49,ka4,kr4),(69,ka5,kr5),(69,ka6,kr6),(69,ka7,kr7),(35,a1,r1),(37,a23,r23),(35,a24,r24),(37,a35,r35),(21,a37,r37),(21,a39,r39)]) 1000000 6 []) (.val (.bool true))=true:=by kernel_rfl
end Go.Proofs.YtkmoeaplhnabcaaGreatDoor
