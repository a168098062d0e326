/- VChunkK -/
import Derived.Test.YtmbabhlmdhghdaaGreatDoorE2
set_option linter.all false
namespace Go.Proofs.YtmbabhlmdhghdaaGreatDoor
open Go Go.AM
theorem c10:answers (aM (Ek []) 1000000 152 a10) r10=true:=kr
theorem c23:answers (aM (Ek [(401,a17,r17)]) 1000000 183 a23) r23=true:=kr
theorem c37:answers (aM (Ek [(120,a5,r5),(182,a6,r6),(182,a7,r7),(120,a13,r13),(81,a36,r36)]) 1000000 40 a37) r37=true:=kr
theorem c51:answers (aM (Ek []) 1000000 182 a51) r51=true:=kr
theorem c65:answers (aM (Ek [(113,a4,r4),(143,a64,r64)]) 1000000 120 a65) r65=true:=kr
theorem c77:answers (aM (Ek []) 1000000 182 a77) r77=true:=kr
theorem c89:answers (aM (Ek []) 1000000 182 a89) r89=true:=kr
end Go.Proofs.YtmbabhlmdhghdaaGreatDoor
