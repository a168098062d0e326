/- ZChunkB -/
import Derived.Test.YtkhblipgiijoiaaGreatDoorE2

set_option linter.all false
namespace Go.Proofs.YtkhblipgiijoiaaGreatDoor
open Go Go.AM
theorem c1:answers (pureRun (Ek tab1) 1000000 34 a1) r1=true:=by kernel_rfl
theorem c7:answers (pureRun (Ek tab7) 1000000 162 a7) r7=true:=by kernel_rfl
theorem c13:answers (pureRun (Ek tab13) 1000000 357 a13) r13=true:=by kernel_rfl
theorem c19:answers (pureRun (Ek tab19) 1000000 197 a19) r19=true:=by kernel_rfl
theorem c25:answers (pureRun (Ek tab25) 1000000 222 a25) r25=true:=by kernel_rfl
theorem c31:answers (pureRun (Ek tab31) 1000000 56 a31) r31=true:=by kernel_rfl
theorem c37:answers (pureRun (Ek tab37) 1000000 76 a37) r37=true:=by kernel_rfl
theorem c43:answers (pureRun (Ek tab43) 1000000 160 a43) r43=true:=by kernel_rfl
end Go.Proofs.YtkhblipgiijoiaaGreatDoor
