/- VChunkC -/
import Derived.Test.YtmbabhlmdhghdaaGreatDoorE2
set_option linter.all false
namespace Go.Proofs.YtmbabhlmdhghdaaGreatDoor
open Go Go.AM
theorem c2:answers (aM (Ek [(143,a1,r1)]) 1000000 68 a2) r2=true:=kr
theorem c15:answers (aM (Ek []) 1000000 182 a15) r15=true:=kr
theorem c27:answers (aM (Ek [(401,a17,r17)]) 1000000 229 a27) r27=true:=kr
theorem c41:answers (aM (Ek [(182,a39,r39),(182,a40,r40)]) 1000000 81 a41) r41=true:=kr
theorem c55:answers (aM (Ek []) 1000000 113 a55) r55=true:=kr
theorem c69:answers (aM (Ek []) 1000000 182 a69) r69=true:=kr
theorem c81:answers (aM (Ek []) 1000000 182 a81) r81=true:=kr
theorem c94:answers (aM (Ek []) 1000000 143 a94) r94=true:=kr
end Go.Proofs.YtmbabhlmdhghdaaGreatDoor
