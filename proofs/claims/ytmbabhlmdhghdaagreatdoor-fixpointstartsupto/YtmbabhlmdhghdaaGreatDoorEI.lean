/- VChunkI -/
import Derived.Test.YtmbabhlmdhghdaaGreatDoorE2
set_option linter.all false
namespace Go.Proofs.YtmbabhlmdhghdaaGreatDoor
open Go Go.AM
theorem c8:answers (aM (Ek []) 1000000 143 a8) r8=true:=kr
theorem c21:answers (aM (Ek []) 1000000 182 a21) r21=true:=kr
theorem c33:answers (aM (Ek []) 1000000 148 a33) r33=true:=kr
theorem c49:answers (aM (Ek []) 1000000 182 a49) r49=true:=kr
theorem c63:answers (aM (Ek [(120,a48,r48),(81,a54,r54),(120,a57,r57),(81,a58,r58),(120,a61,r61),(81,a62,r62)]) 1000000 41 a63) r63=true:=kr
theorem c75:answers (aM (Ek [(401,a17,r17)]) 1000000 229 a75) r75=true:=kr
theorem c87:answers (aM (Ek []) 1000000 182 a87) r87=true:=kr
end Go.Proofs.YtmbabhlmdhghdaaGreatDoor
