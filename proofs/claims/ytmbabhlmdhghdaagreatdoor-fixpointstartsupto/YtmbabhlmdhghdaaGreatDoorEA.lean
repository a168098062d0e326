/- VChunkA -/
import Derived.Test.YtmbabhlmdhghdaaGreatDoorE2
set_option linter.all false
namespace Go.Proofs.YtmbabhlmdhghdaaGreatDoor
open Go Go.AM
theorem c0:answers (aM (Ek []) 1000000 143 a0) r0=true:=kr
theorem c12:answers (aM (Ek []) 1000000 53 a12) r12=true:=kr
theorem c25:answers (aM (Ek []) 1000000 182 a25) r25=true:=kr
theorem c39:answers (aM (Ek []) 1000000 182 a39) r39=true:=kr
theorem c53:answers (aM (Ek []) 1000000 182 a53) r53=true:=kr
theorem c67:answers (aM (Ek []) 1000000 182 a67) r67=true:=kr
theorem c79:answers (aM (Ek []) 1000000 401 a79) r79=true:=kr
theorem c92:answers (aM (Ek [(143,a0,r0),(143,a1,r1),(68,a2,r2),(40,a37,r37),(120,a38,r38),(81,a41,r41),(41,a45,r45),(41,a63,r63),(120,a65,r65),(81,a90,r90),(143,a91,r91)]) 1000000 19 a92) r92=true:=kr
end Go.Proofs.YtmbabhlmdhghdaaGreatDoor
