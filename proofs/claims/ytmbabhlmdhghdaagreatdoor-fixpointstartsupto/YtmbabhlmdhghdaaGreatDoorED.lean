/- VChunkD -/
import Derived.Test.YtmbabhlmdhghdaaGreatDoorE2
set_option linter.all false
namespace Go.Proofs.YtmbabhlmdhghdaaGreatDoor
open Go Go.AM
theorem c3:answers (aM (Ek []) 1000000 143 a3) r3=true:=kr
theorem c16:answers (aM (Ek []) 1000000 182 a16) r16=true:=kr
theorem c28:answers (aM (Ek []) 1000000 182 a28) r28=true:=kr
theorem c42:answers (aM (Ek [(113,a4,r4)]) 1000000 120 a42) r42=true:=kr
theorem c56:answers (aM (Ek []) 1000000 53 a56) r56=true:=kr
theorem c70:answers (aM (Ek []) 1000000 182 a70) r70=true:=kr
theorem c82:answers (aM (Ek []) 1000000 182 a82) r82=true:=kr
theorem c96:answers (aM (Ek []) 1000000 182 a96) r96=true:=kr
end Go.Proofs.YtmbabhlmdhghdaaGreatDoor
