/- VChunkL -/
import Derived.Test.YtmbabhlmdhghdaaGreatDoorE2
set_option linter.all false
namespace Go.Proofs.YtmbabhlmdhghdaaGreatDoor
open Go Go.AM
theorem c11:answers (aM (Ek []) 1000000 156 a11) r11=true:=kr
theorem c24:answers (aM (Ek []) 1000000 182 a24) r24=true:=kr
theorem c38:answers (aM (Ek [(113,a4,r4)]) 1000000 120 a38) r38=true:=kr
theorem c52:answers (aM (Ek []) 1000000 182 a52) r52=true:=kr
theorem c66:answers (aM (Ek []) 1000000 182 a66) r66=true:=kr
theorem c78:answers (aM (Ek []) 1000000 182 a78) r78=true:=kr
theorem c91:answers (aM (Ek []) 1000000 143 a91) r91=true:=kr
end Go.Proofs.YtmbabhlmdhghdaaGreatDoor
