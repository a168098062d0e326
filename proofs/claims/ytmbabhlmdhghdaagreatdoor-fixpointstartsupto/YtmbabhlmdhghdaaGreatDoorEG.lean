/- VChunkG -/
import Derived.Test.YtmbabhlmdhghdaaGreatDoorE2
set_option linter.all false
namespace Go.Proofs.YtmbabhlmdhghdaaGreatDoor
open Go Go.AM
theorem c6:answers (aM (Ek []) 1000000 182 a6) r6=true:=kr
theorem c19:answers (aM (Ek []) 1000000 182 a19) r19=true:=kr
theorem c31:answers (aM (Ek []) 1000000 182 a31) r31=true:=kr
theorem c46:answers (aM (Ek []) 1000000 113 a46) r46=true:=kr
theorem c60:answers (aM (Ek []) 1000000 53 a60) r60=true:=kr
theorem c73:answers (aM (Ek []) 1000000 182 a73) r73=true:=kr
theorem c85:answers (aM (Ek []) 1000000 182 a85) r85=true:=kr
theorem bWE:answers (aM (Ek [(182,a6,r6),(182,a7,r7),(401,a17,r17),(147,a32,r32),(182,a96,r96),(182,a97,r97)]) 1000000 81 a100) r100=true:=kr
end Go.Proofs.YtmbabhlmdhghdaaGreatDoor
