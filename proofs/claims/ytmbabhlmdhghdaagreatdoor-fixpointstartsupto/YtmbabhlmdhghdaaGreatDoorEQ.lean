/- VChunkQ -/
import Derived.Test.YtmbabhlmdhghdaaGreatDoorE2
set_option linter.all false
namespace Go.Proofs.YtmbabhlmdhghdaaGreatDoor
open Go Go.AM
theorem c95:answers (aM (Ek [(143,a94,r94)]) 1000000 120 a95) r95=true:=by kernel_rfl
theorem c99:answers (aM (Ek [(143,a98,r98)]) 1000000 120 a99) r99=true:=by kernel_rfl
end Go.Proofs.YtmbabhlmdhghdaaGreatDoor
