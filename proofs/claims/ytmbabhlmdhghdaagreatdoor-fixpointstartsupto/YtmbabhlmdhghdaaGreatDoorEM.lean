/- VChunkM -/
import Derived.Test.YtmbabhlmdhghdaaGreatDoorE2
set_option linter.all false
namespace Go.Proofs.YtmbabhlmdhghdaaGreatDoor
open Go Go.AM
theorem c13:answers (aM (Ek [(113,a4,r4),(113,a9,r9),(152,a10,r10),(156,a11,r11),(53,a12,r12)]) 1000000 120 a13) r13=true:=by kernel_rfl
theorem c34:answers (aM (Ek [(401,a17,r17)]) 1000000 229 a34) r34=true:=by kernel_rfl
end Go.Proofs.YtmbabhlmdhghdaaGreatDoor
