/- VChunkB -/
import Derived.Test.YtmbabhlmdhghdaaGreatDoorE2
set_option linter.all false
namespace Go.Proofs.YtmbabhlmdhghdaaGreatDoor
open Go Go.AM
theorem c1:answers (aM (Ek []) 1000000 143 a1) r1=true:=kr
theorem c14:answers (aM (Ek []) 1000000 182 a14) r14=true:=kr
theorem c26:answers (aM (Ek []) 1000000 148 a26) r26=true:=kr
theorem c40:answers (aM (Ek []) 1000000 182 a40) r40=true:=kr
theorem c54:answers (aM (Ek [(182,a14,r14),(182,a15,r15),(182,a16,r16),(229,a18,r18),(182,a19,r19),(182,a20,r20),(147,a22,r22),(183,a23,r23),(182,a24,r24),(182,a25,r25),(148,a26,r26),(229,a27,r27),(182,a28,r28),(182,a30,r30),(182,a31,r31),(182,a49,r49),(182,a50,r50),(182,a51,r51),(182,a52,r52),(182,a53,r53)]) 1000000 81 a54) r54=true:=kr
theorem c68:answers (aM (Ek []) 1000000 182 a68) r68=true:=kr
theorem c80:answers (aM (Ek [(401,a17,r17),(401,a79,r79)]) 1000000 183 a80) r80=true:=kr
theorem c93:answers (aM (Ek []) 1000000 143 a93) r93=true:=kr
end Go.Proofs.YtmbabhlmdhghdaaGreatDoor
