/- VChunkF -/
import Derived.Test.YtmbabhlmdhghdaaGreatDoorE2
set_option linter.all false
namespace Go.Proofs.YtmbabhlmdhghdaaGreatDoor
open Go Go.AM
theorem c5:answers (aM (Ek [(143,a3,r3),(113,a4,r4)]) 1000000 120 a5) r5=true:=kr
theorem c18:answers (aM (Ek [(401,a17,r17)]) 1000000 229 a18) r18=true:=kr
theorem c30:answers (aM (Ek []) 1000000 182 a30) r30=true:=kr
theorem c44:answers (aM (Ek []) 1000000 81 a44) r44=true:=kr
theorem c59:answers (aM (Ek []) 1000000 113 a59) r59=true:=kr
theorem c72:answers (aM (Ek []) 1000000 182 a72) r72=true:=kr
theorem c84:answers (aM (Ek [(401,a17,r17)]) 1000000 229 a84) r84=true:=kr
theorem c98:answers (aM (Ek []) 1000000 143 a98) r98=true:=kr
end Go.Proofs.YtmbabhlmdhghdaaGreatDoor
