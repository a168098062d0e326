/- ZChunkD -/
import Derived.Test.YtkhblipgiijoiaaGreatDoorE2

set_option linter.all false
namespace Go.Proofs.YtkhblipgiijoiaaGreatDoor
open Go Go.AM
theorem c3:answers (pureRun (Ek tab3) 1000000 76 a3) r3=true:=by kernel_rfl
theorem c9:answers (pureRun (Ek tab9) 1000000 76 a9) r9=true:=by kernel_rfl
theorem c15:answers (pureRun (Ek tab15) 1000000 197 a15) r15=true:=by kernel_rfl
theorem c21:answers (pureRun (Ek tab21) 1000000 197 a21) r21=true:=by kernel_rfl
theorem c27:answers (pureRun (Ek tab27) 1000000 222 a27) r27=true:=by kernel_rfl
theorem c33:answers (pureRun (Ek tab33) 1000000 162 a33) r33=true:=by kernel_rfl
theorem c39:answers (pureRun (Ek tab39) 1000000 125 a39) r39=true:=by kernel_rfl
theorem c45:answers (pureRun (Ek tab45) 1000000 56 a45) r45=true:=by kernel_rfl
end Go.Proofs.YtkhblipgiijoiaaGreatDoor
