/- VChunkE -/
import Derived.Test.YtmbabhlmdhghdaaGreatDoorE2
set_option linter.all false
namespace Go.Proofs.YtmbabhlmdhghdaaGreatDoor
open Go Go.AM
theorem c4:answers (aM (Ek []) 1000000 113 a4) r4=true:=kr
theorem c17:answers (aM (Ek []) 1000000 401 a17) r17=true:=kr
theorem c29:answers (aM (Ek []) 1000000 182 a29) r29=true:=kr
theorem c43:answers (aM (Ek []) 1000000 143 a43) r43=true:=kr
theorem c58:answers (aM (Ek [(182,a14,r14),(182,a15,r15),(182,a16,r16),(229,a18,r18),(182,a19,r19),(182,a20,r20),(147,a22,r22),(183,a23,r23),(182,a24,r24),(182,a28,r28),(182,a30,r30),(147,a32,r32),(148,a33,r33),(229,a34,r34),(118,a35,r35)]) 1000000 81 a58) r58=true:=kr
theorem c71:answers (aM (Ek []) 1000000 182 a71) r71=true:=kr
theorem c83:answers (aM (Ek []) 1000000 148 a83) r83=true:=kr
theorem c97:answers (aM (Ek []) 1000000 182 a97) r97=true:=kr
end Go.Proofs.YtmbabhlmdhghdaaGreatDoor
