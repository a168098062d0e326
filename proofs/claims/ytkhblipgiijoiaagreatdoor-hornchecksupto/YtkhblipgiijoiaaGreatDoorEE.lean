/- ZChunkE -/
import Derived.Test.YtkhblipgiijoiaaGreatDoorE2

set_option linter.all false
namespace Go.Proofs.YtkhblipgiijoiaaGreatDoor
open Go Go.AM
theorem c4:answers (pureRun (Ek tab4) 1000000 34 a4) r4=true:=by kernel_rfl
theorem c10:answers (pureRun (Ek tab10) 1000000 162 a10) r10=true:=by kernel_rfl
theorem c16:answers (pureRun (Ek tab16) 1000000 222 a16) r16=true:=by kernel_rfl
theorem c22:answers (pureRun (Ek tab22) 1000000 222 a22) r22=true:=by kernel_rfl
theorem c28:answers (pureRun (Ek tab28) 1000000 197 a28) r28=true:=by kernel_rfl
theorem c34:answers (pureRun (Ek tab34) 1000000 197 a34) r34=true:=by kernel_rfl
theorem c40:answers (pureRun (Ek tab40) 1000000 76 a40) r40=true:=by kernel_rfl
theorem c46:answers (pureRun (Ek tab46) 1000000 6 []) (.val (.bool true))=true:=by kernel_rfl
end Go.Proofs.YtkhblipgiijoiaaGreatDoor
