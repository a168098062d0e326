/- VChunkH -/
import Derived.Test.YtmbabhlmdhghdaaGreatDoorE2
set_option linter.all false
namespace Go.Proofs.YtmbabhlmdhghdaaGreatDoor
open Go Go.AM
theorem c7:answers (aM (Ek []) 1000000 182 a7) r7=true:=kr
theorem c20:answers (aM (Ek []) 1000000 182 a20) r20=true:=kr
theorem c32:answers (aM (Ek []) 1000000 147 a32) r32=true:=kr
theorem c47:answers (aM (Ek []) 1000000 53 a47) r47=true:=kr
theorem c62:answers (aM (Ek [(182,a14,r14),(182,a15,r15),(182,a16,r16),(229,a18,r18),(182,a19,r19),(182,a20,r20),(147,a22,r22),(183,a23,r23),(182,a24,r24),(148,a26,r26),(229,a27,r27),(182,a28,r28),(182,a30,r30),(147,a32,r32),(148,a33,r33),(229,a34,r34),(118,a35,r35)]) 1000000 81 a62) r62=true:=kr
theorem c74:answers (aM (Ek []) 1000000 147 a74) r74=true:=kr
theorem c86:answers (aM (Ek []) 1000000 182 a86) r86=true:=kr
end Go.Proofs.YtmbabhlmdhghdaaGreatDoor
