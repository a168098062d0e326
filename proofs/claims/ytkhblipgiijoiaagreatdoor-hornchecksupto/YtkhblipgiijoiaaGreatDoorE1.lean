/- ZEnv -/
import Derived.Test.YtkhblipgiijoiaaGreatDoorM3
import Derived.Test.YtkhblipgiijoiaaGreatDoorProg
import Derived.KernelRfl

set_option linter.all false
namespace Go.Proofs.YtkhblipgiijoiaaGreatDoor
open Go Go.AM
def mkTr{α:Type}:List (Nat×α)→Tr α
 | []=>.nil
 |(k,v)::l=>(mkTr l).put k (some v)
def sharedFns:Tr Unit:=mkTr ([38,47,61,69,97,98,99,100,101,102,104,105,113,118,140,143,144,154,156,159,168,177,184,257,301,302,314,320,324,358,364,367,368,369,370].map fun k=>(k,()))
def strV(l:List UInt8):AV:=.val (.string ⟨l.toArray⟩)
def keywordCells:List AV:=[strV [97,110,100],strV [97,115,115,117,109,101],strV [98,111,111,108],strV [98,111,117,110,100],strV [99,97,115,101],strV [99,101,108,108],strV [99,108,97,115,115],strV [100,97,116,97],strV [100,101,102],strV [100,105,118],strV [101,108,115,101],strV [101,110,100],strV [102,97,108,115,101],strV [102,111,114,97,108,108],strV [102,117,110],strV [103,101,116],strV [105,102],strV [105,110],strV [105,110,115,116],strV [105,110,116],strV [105,110,118,97,114,105,97,110,116],strV [108,101,116],strV [109,97,116,99,104],strV [109,101,97,115,117,114,101],strV [109,101,116,114,105,99],strV [109,111,100],strV [109,117],strV [110,101,119],strV [110,111,116],strV [111,102],strV [111,114],strV [113,117,97,108],strV [114,101,102,108,101,99,116],strV [115,101,116],strV [116,104,101,110],strV [116,114,117,101],strV [117,115,101],strV [118],strV [118,97,108],strV [116,97,103],strV [119,104,101,114,101],strV [119,105,116,104]]
def pow10Cells:List AV:=[.val (.int .u64 1),.val (.int .u64 10),.val (.int .u64 100),.val (.int .u64 1000),.val (.int .u64 10000),.val (.int .u64 100000),.val (.int .u64 1000000),.val (.int .u64 10000000),.val (.int .u64 100000000),.val (.int .u64 1000000000),.val (.int .u64 10000000000),.val (.int .u64 100000000000),.val (.int .u64 1000000000000),.val (.int .u64 10000000000000),.val (.int .u64 100000000000000),.val (.int .u64 1000000000000000),.val (.int .u64 10000000000000000),.val (.int .u64 100000000000000000),.val (.int .u64 1000000000000000000),.val (.int .u64 10000000000000000000)]
def globCells:Nat→Option (List AV)
 |0=>some keywordCells
 |3=>some pow10Cells
 |_=>none
noncomputable def E0:Env:={P:=Tryz.prog,mth:=[(294,"liquidcheck/simplex.exact",344),(294,"liquidcheck/simplex.minus",345),(294,"liquidcheck/simplex.over",346),(294,"liquidcheck/simplex.rational",347),(294,"liquidcheck/simplex.sign",348),(294,"liquidcheck/simplex.times",349),(294,"liquidcheck/simplex.whole",350)],globs:=globCells,shared:=sharedFns,known:=fun _ _=>none,idle:=mkTr [(124,1)],noEscF:=some 303,mkNZF:=some (304,5)}
end Go.Proofs.YtkhblipgiijoiaaGreatDoor
