/- VChunkR -/
import Derived.Test.YtmbabhlmdhghdaaGreatDoorE2
set_option linter.all false
namespace Go.Proofs.YtmbabhlmdhghdaaGreatDoor
open Go Go.AM
theorem bWD:answers (aM (Ek [(143,a0,r0),(143,a1,r1),(68,a2,r2),(182,a6,r6),(182,a7,r7),(182,a39,r39),(182,a40,r40),(41,a63,r63),(143,a91,r91),(19,a92,r92),(143,a93,r93),(120,a95,r95),(182,a96,r96),(182,a97,r97),(120,a99,r99),(81,a100,r100)]) 1000000 5 []) (.val (.bool true))=true:=by kernel_rfl
end Go.Proofs.YtmbabhlmdhghdaaGreatDoor
