/- ZChunkA -/
import Derived.Test.YtkhblipgiijoiaaGreatDoorE2

set_option linter.all false
namespace Go.Proofs.YtkhblipgiijoiaaGreatDoor
open Go Go.AM
theorem c0:answers (pureRun (Ek tab0) 1000000 60 a0) r0=true:=by kernel_rfl
theorem c6:answers (pureRun (Ek tab6) 1000000 76 a6) r6=true:=by kernel_rfl
theorem c12:answers (pureRun (Ek tab12) 1000000 197 a12) r12=true:=by kernel_rfl
theorem c18:answers (pureRun (Ek tab18) 1000000 222 a18) r18=true:=by kernel_rfl
theorem c24:answers (pureRun (Ek tab24) 1000000 357 a24) r24=true:=by kernel_rfl
theorem c30:answers (pureRun (Ek tab30) 1000000 125 a30) r30=true:=by kernel_rfl
theorem c36:answers (pureRun (Ek tab36) 1000000 32 a36) r36=true:=by kernel_rfl
theorem c42:answers (pureRun (Ek tab42) 1000000 222 a42) r42=true:=by kernel_rfl
end Go.Proofs.YtkhblipgiijoiaaGreatDoor
