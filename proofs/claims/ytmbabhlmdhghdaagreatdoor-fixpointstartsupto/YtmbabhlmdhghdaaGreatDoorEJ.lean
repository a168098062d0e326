/- VChunkJ -/
import Derived.Test.YtmbabhlmdhghdaaGreatDoorE2
set_option linter.all false
namespace Go.Proofs.YtmbabhlmdhghdaaGreatDoor
open Go Go.AM
theorem c9:answers (aM (Ek [(143,a8,r8)]) 1000000 113 a9) r9=true:=kr
theorem c22:answers (aM (Ek []) 1000000 147 a22) r22=true:=kr
theorem c35:answers (aM (Ek [(148,a33,r33)]) 1000000 118 a35) r35=true:=kr
theorem c50:answers (aM (Ek []) 1000000 182 a50) r50=true:=kr
theorem c64:answers (aM (Ek []) 1000000 143 a64) r64=true:=kr
theorem c76:answers (aM (Ek []) 1000000 182 a76) r76=true:=kr
theorem c88:answers (aM (Ek []) 1000000 182 a88) r88=true:=kr
end Go.Proofs.YtmbabhlmdhghdaaGreatDoor
