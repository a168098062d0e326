/- VChunkO -/
import Derived.Test.YtmbabhlmdhghdaaGreatDoorE2
set_option linter.all false
namespace Go.Proofs.YtmbabhlmdhghdaaGreatDoor
open Go Go.AM
theorem c48:answers (aM (Ek [(113,a4,r4),(113,a46,r46),(53,a47,r47)]) 1000000 120 a48) r48=true:=by kernel_rfl
theorem c57:answers (aM (Ek [(113,a4,r4),(113,a55,r55),(53,a56,r56)]) 1000000 120 a57) r57=true:=by kernel_rfl
end Go.Proofs.YtmbabhlmdhghdaaGreatDoor
