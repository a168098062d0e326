/- VChunkP -/
import Derived.Test.YtmbabhlmdhghdaaGreatDoorE2
set_option linter.all false
namespace Go.Proofs.YtmbabhlmdhghdaaGreatDoor
open Go Go.AM
theorem c61:answers (aM (Ek [(113,a4,r4),(113,a59,r59),(53,a60,r60)]) 1000000 120 a61) r61=true:=by kernel_rfl
theorem c90:answers (aM (Ek [(182,a15,r15),(229,a18,r18),(147,a22,r22),(183,a23,r23),(182,a25,r25),(148,a26,r26),(229,a27,r27),(182,a31,r31),(182,a49,r49),(182,a50,r50),(182,a51,r51),(182,a52,r52),(182,a53,r53),(182,a66,r66),(182,a67,r67),(182,a68,r68),(182,a69,r69),(182,a70,r70),(182,a71,r71),(182,a72,r72),(182,a73,r73),(147,a74,r74),(229,a75,r75),(182,a76,r76),(182,a77,r77),(182,a78,r78),(183,a80,r80),(182,a81,r81),(182,a82,r82),(148,a83,r83),(229,a84,r84),(182,a85,r85),(182,a86,r86),(182,a87,r87),(182,a88,r88),(182,a89,r89)]) 1000000 81 a90) r90=true:=by kernel_rfl
end Go.Proofs.YtmbabhlmdhghdaaGreatDoor
