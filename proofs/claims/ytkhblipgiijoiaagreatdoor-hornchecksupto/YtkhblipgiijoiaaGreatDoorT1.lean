/- ZShelf -/
import Derived.Test.YtkhblipgiijoiaaGreatDoorU0
import Derived.Test.YtkhblipgiijoiaaGreatDoorProg
import Derived.Shelf.Sort.Plain

set_option linter.all false
namespace Go.Proofs
open Go.Shelf
def Tz.lays190_ren:Go.Shelf.Ren:=⟨fun|190=>38|125=>70|258=>69|128=>106|129=>107|302=>97|303=>98|304=>99|305=>100|306=>101|307=>102|308=>103|309=>104|310=>105|333=>140|329=>141|330=>142|334=>143|335=>144|336=>145|344=>177|n=>n,fun|31=>33|9=>9|3=>3|46=>114|0=>0|51=>141|53=>143|4=>4|183=>134|182=>133|131=>67|5=>5|218=>175|222=>179|228=>205|229=>182|n=>n,fun|n=>n⟩
theorem Tz.lays190:Go.Proofs.Lays.n190 Tryz.prog Tz.lays190_ren:={
 mixed:=by kernel_rfl
 f125:=Tryz.func70.trans (congrArg some kr)
 f128:=Tryz.func106.trans (congrArg some kr)
 f129:=Tryz.func107.trans (congrArg some kr)
 f190:=Tryz.func38.trans (congrArg some kr)
 f258:=Tryz.func69.trans (congrArg some kr)
 f302:=Tryz.func97.trans (congrArg some kr)
 f303:=Tryz.func98.trans (congrArg some kr)
 f304:=Tryz.func99.trans (congrArg some kr)
 f305:=Tryz.func100.trans (congrArg some kr)
 f306:=Tryz.func101.trans (congrArg some kr)
 f307:=Tryz.func102.trans (congrArg some kr)
 f308:=Tryz.func103.trans (congrArg some kr)
 f309:=Tryz.func104.trans (congrArg some kr)
 f310:=Tryz.func105.trans (congrArg some kr)
 f329:=Tryz.func141.trans (congrArg some kr)
 f330:=Tryz.func142.trans (congrArg some kr)
 f333:=Tryz.func140.trans (congrArg some kr)
 f334:=Tryz.func143.trans (congrArg some kr)
 f335:=Tryz.func144.trans (congrArg some kr)
 f336:=Tryz.func145.trans (congrArg some kr)
 f344:=Tryz.func177.trans (congrArg some kr)
 t0:=Tryz.underlying0
 a0:=Tryz.isAgg0
 z0:=Tryz.sizeOf0
 v0:=Tryz.zeroValue0
 t3:=Tryz.underlying3
 a3:=Tryz.isAgg3
 z3:=Tryz.sizeOf3
 v3:=Tryz.zeroValue3
 t4:=Tryz.underlying4
 a4:=Tryz.isAgg4
 z4:=Tryz.sizeOf4
 v4:=Tryz.zeroValue4
 t5:=Tryz.underlying5
 a5:=Tryz.isAgg5
 z5:=Tryz.sizeOf5
 v5:=Tryz.zeroValue5
 t9:=Tryz.underlying9
 a9:=Tryz.isAgg9
 z9:=Tryz.sizeOf9
 v9:=Tryz.zeroValue9
 t31:=Tryz.underlying33
 a31:=Tryz.isAgg33
 z31:=Tryz.sizeOf33
 v31:=Tryz.zeroValue33
 t46:=Tryz.underlying114
 a46:=Tryz.isAgg114
 z46:=Tryz.sizeOf114
 v46:=Tryz.zeroValue114
 t51:=Tryz.underlying141
 a51:=Tryz.isAgg141
 z51:=Tryz.sizeOf141
 v51:=Tryz.zeroValue141
 t53:=Tryz.underlying143
 a53:=Tryz.isAgg143
 z53:=Tryz.sizeOf143
 v53:=Tryz.zeroValue143
 t131:=Tryz.underlying67
 a131:=Tryz.isAgg67
 z131:=Tryz.sizeOf67
 v131:=Tryz.zeroValue67
 t182:=Tryz.underlying133
 a182:=Tryz.isAgg133
 z182:=Tryz.sizeOf133
 v182:=Tryz.zeroValue133
 t183:=Tryz.underlying134
 a183:=Tryz.isAgg134
 z183:=Tryz.sizeOf134
 v183:=Tryz.zeroValue134
 t218:=Tryz.underlying175
 a218:=Tryz.isAgg175
 z218:=Tryz.sizeOf175
 v218:=Tryz.zeroValue175
 t222:=Tryz.underlying179
 a222:=Tryz.isAgg179
 z222:=Tryz.sizeOf179
 v222:=Tryz.zeroValue179
 t228:=Tryz.underlying205
 a228:=Tryz.isAgg205
 z228:=Tryz.sizeOf205
 v228:=Tryz.zeroValue205
 t229:=Tryz.underlying182
 a229:=Tryz.isAgg182
 z229:=Tryz.sizeOf182
 v229:=Tryz.zeroValue182}
end Go.Proofs
