/- TChunkK -/
import Derived.Test.YtkmoeaplhnabcaaGreatDoorE2

set_option linter.all false
namespace Go.Proofs.YtkmoeaplhnabcaaGreatDoor
open Go Go.AM
theorem c22:answers (pureRunK (Ek [(326,a5,r5),(326,a6,r6),(373,a9,r9),(326,a10,r10),(373,a12,r12),(326,a13,r13),(373,a14,r14),(326,a15,r15),(373,a17,r17),(326,a18,r18),(373,a19,r19),(326,a20,r20),(326,a21,r21)]) 1000000 151 a22) r22=true:=by kernel_rfl
end Go.Proofs.YtkmoeaplhnabcaaGreatDoor
