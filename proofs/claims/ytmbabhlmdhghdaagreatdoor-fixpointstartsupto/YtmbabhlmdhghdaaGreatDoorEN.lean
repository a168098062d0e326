/- VChunkN -/
import Derived.Test.YtmbabhlmdhghdaaGreatDoorE2
set_option linter.all false
namespace Go.Proofs.YtmbabhlmdhghdaaGreatDoor
open Go Go.AM
theorem c36:answers (aM (Ek [(182,a14,r14),(182,a15,r15),(182,a16,r16),(229,a18,r18),(182,a19,r19),(182,a20,r20),(182,a21,r21),(147,a22,r22),(183,a23,r23),(182,a24,r24),(182,a25,r25),(148,a26,r26),(229,a27,r27),(182,a28,r28),(182,a29,r29),(182,a30,r30),(182,a31,r31),(147,a32,r32),(148,a33,r33),(229,a34,r34),(118,a35,r35)]) 1000000 81 a36) r36=true:=by kernel_rfl
theorem c45:answers (aM (Ek [(113,a4,r4),(120,a38,r38),(81,a41,r41),(120,a42,r42),(143,a43,r43),(81,a44,r44)]) 1000000 41 a45) r45=true:=by kernel_rfl
end Go.Proofs.YtmbabhlmdhghdaaGreatDoor
