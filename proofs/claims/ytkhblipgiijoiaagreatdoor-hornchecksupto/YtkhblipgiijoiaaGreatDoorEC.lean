/- ZChunkC -/
import Derived.Test.YtkhblipgiijoiaaGreatDoorE2

set_option linter.all false
namespace Go.Proofs.YtkhblipgiijoiaaGreatDoor
open Go Go.AM
theorem c2:answers (pureRun (Ek tab2) 1000000 60 a2) r2=true:=by kernel_rfl
theorem c8:answers (pureRun (Ek tab8) 1000000 125 a8) r8=true:=by kernel_rfl
theorem c14:answers (pureRun (Ek tab14) 1000000 222 a14) r14=true:=by kernel_rfl
theorem c20:answers (pureRun (Ek tab20) 1000000 197 a20) r20=true:=by kernel_rfl
theorem c26:answers (pureRun (Ek tab26) 1000000 197 a26) r26=true:=by kernel_rfl
theorem c32:answers (pureRun (Ek tab32) 1000000 76 a32) r32=true:=by kernel_rfl
theorem c38:answers (pureRun (Ek tab38) 1000000 162 a38) r38=true:=by kernel_rfl
theorem c44:answers (pureRun (Ek tab44) 1000000 125 a44) r44=true:=by kernel_rfl
end Go.Proofs.YtkhblipgiijoiaaGreatDoor
