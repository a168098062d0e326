/- ZChunkF -/
import Derived.Test.YtkhblipgiijoiaaGreatDoorE2

set_option linter.all false
namespace Go.Proofs.YtkhblipgiijoiaaGreatDoor
open Go Go.AM
theorem c5:answers (pureRun (Ek tab5) 1000000 34 a5) r5=true:=by kernel_rfl
theorem c11:answers (pureRun (Ek tab11) 1000000 197 a11) r11=true:=by kernel_rfl
theorem c17:answers (pureRun (Ek tab17) 1000000 197 a17) r17=true:=by kernel_rfl
theorem c23:answers (pureRun (Ek tab23) 1000000 197 a23) r23=true:=by kernel_rfl
theorem c29:answers (pureRun (Ek tab29) 1000000 197 a29) r29=true:=by kernel_rfl
theorem c35:answers (pureRun (Ek tab35) 1000000 125 a35) r35=true:=by kernel_rfl
theorem c41:answers (pureRun (Ek tab41) 1000000 162 a41) r41=true:=by kernel_rfl
end Go.Proofs.YtkhblipgiijoiaaGreatDoor
