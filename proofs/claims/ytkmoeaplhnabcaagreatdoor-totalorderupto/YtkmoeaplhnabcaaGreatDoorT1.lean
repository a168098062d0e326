/- TShelf -/
import Derived.Test.YtkmoeaplhnabcaaGreatDoorU0
import Derived.Shelf.Sort.Plain
import Derived.Test.YtkmoeaplhnabcaaGreatDoorProg

set_option linter.all false
namespace Go.Proofs
open Go.Shelf
def Tz.lays190_ren:Go.Shelf.Ren:=⟨fun|190=>114|125=>158|258=>166|128=>233|129=>234|302=>237|303=>238|304=>239|305=>240|306=>241|307=>242|308=>243|309=>244|310=>245|333=>299|329=>295|330=>296|334=>300|335=>301|336=>235|344=>354|n=>n,fun|31=>35|9=>9|3=>3|46=>272|0=>0|51=>355|53=>357|4=>4|183=>348|182=>347|131=>352|5=>5|218=>417|222=>421|228=>469|229=>470|n=>n,fun|n=>n⟩
theorem Tz.lays190:Go.Proofs.Lays.n190 Tryz.prog Tz.lays190_ren:={
 mixed:=by kernel_rfl
 f125:=Tryz.func158.trans (congrArg some kr)
 f128:=Tryz.func233.trans (congrArg some kr)
 f129:=Tryz.func234.trans (congrArg some kr)
 f190:=Tryz.func114.trans (congrArg some kr)
 f258:=Tryz.func166.trans (congrArg some kr)
 f302:=Tryz.func237.trans (congrArg some kr)
 f303:=Tryz.func238.trans (congrArg some kr)
 f304:=Tryz.func239.trans (congrArg some kr)
 f305:=Tryz.func240.trans (congrArg some kr)
 f306:=Tryz.func241.trans (congrArg some kr)
 f307:=Tryz.func242.trans (congrArg some kr)
 f308:=Tryz.func243.trans (congrArg some kr)
 f309:=Tryz.func244.trans (congrArg some kr)
 f310:=Tryz.func245.trans (congrArg some kr)
 f329:=Tryz.func295.trans (congrArg some kr)
 f330:=Tryz.func296.trans (congrArg some kr)
 f333:=Tryz.func299.trans (congrArg some kr)
 f334:=Tryz.func300.trans (congrArg some kr)
 f335:=Tryz.func301.trans (congrArg some kr)
 f336:=Tryz.func235.trans (congrArg some kr)
 f344:=Tryz.func354.trans (congrArg some kr)
 t0:=Tryz.underlying0
 a0:=Tryz.isAgg0
 z0:=Tryz.sizeOf0
 v0:=Tryz.zeroValue0
 t3:=Tryz.underlying3
 a3:=Tryz.isAgg3
 z3:=Tryz.sizeOf3
 v3:=Tryz.zeroValue3
 t4:=Tryz.underlying4
 a4:=Tryz.isAgg4
 z4:=Tryz.sizeOf4
 v4:=Tryz.zeroValue4
 t5:=Tryz.underlying5
 a5:=Tryz.isAgg5
 z5:=Tryz.sizeOf5
 v5:=Tryz.zeroValue5
 t9:=Tryz.underlying9
 a9:=Tryz.isAgg9
 z9:=Tryz.sizeOf9
 v9:=Tryz.zeroValue9
 t31:=Tryz.underlying35
 a31:=Tryz.isAgg35
 z31:=Tryz.sizeOf35
 v31:=Tryz.zeroValue35
 t46:=Tryz.underlying272
 a46:=Tryz.isAgg272
 z46:=Tryz.sizeOf272
 v46:=Tryz.zeroValue272
 t51:=Tryz.underlying355
 a51:=Tryz.isAgg355
 z51:=Tryz.sizeOf355
 v51:=Tryz.zeroValue355
 t53:=Tryz.underlying357
 a53:=Tryz.isAgg357
 z53:=Tryz.sizeOf357
 v53:=Tryz.zeroValue357
 t131:=Tryz.underlying352
 a131:=Tryz.isAgg352
 z131:=Tryz.sizeOf352
 v131:=Tryz.zeroValue352
 t182:=Tryz.underlying347
 a182:=Tryz.isAgg347
 z182:=Tryz.sizeOf347
 v182:=Tryz.zeroValue347
 t183:=Tryz.underlying348
 a183:=Tryz.isAgg348
 z183:=Tryz.sizeOf348
 v183:=Tryz.zeroValue348
 t218:=Tryz.underlying417
 a218:=Tryz.isAgg417
 z218:=Tryz.sizeOf417
 v218:=Tryz.zeroValue417
 t222:=Tryz.underlying421
 a222:=Tryz.isAgg421
 z222:=Tryz.sizeOf421
 v222:=Tryz.zeroValue421
 t228:=Tryz.underlying469
 a228:=Tryz.isAgg469
 z228:=Tryz.sizeOf469
 v228:=Tryz.zeroValue469
 t229:=Tryz.underlying470
 a229:=Tryz.isAgg470
 z229:=Tryz.sizeOf470
 v229:=Tryz.zeroValue470}
end Go.Proofs
