/- TEnv -/
import Derived.Test.YtkmoeaplhnabcaaGreatDoorM3
import Derived.Test.YtkmoeaplhnabcaaGreatDoorProg
import Derived.KernelRfl

set_option linter.all false
namespace Go.Proofs.YtkmoeaplhnabcaaGreatDoor
open Go Go.AM
def mkTr{α:Type}:List (Nat×α)→Tr α
 | []=>.nil
 |(k,v)::l=>(mkTr l).put k (some v)
def sharedFns:Tr Unit:=mkTr ([25,44,60,73,77,93,94,103,104,109,112,114,143,144,157,166,169,183,210,212,215,225,226,227,228,229,230,231,232,237,238,239,240,241,242,244,245,280,294,297,298,299,300,301,302,339,351,352,353,354,406,407,421,433,469,498,502,506,542,548,551,552,553,554].map fun k=>(k,()))
def strV(l:List UInt8):AV:=.val (.string ⟨l.toArray⟩)
def keywordCells:List AV:=[strV [97,110,100],strV [97,115,115,117,109,101],strV [98,111,111,108],strV [98,111,117,110,100],strV [99,97,115,101],strV [99,101,108,108],strV [99,108,97,115,115],strV [100,97,116,97],strV [100,101,102],strV [100,105,118],strV [101,108,115,101],strV [101,110,100],strV [102,97,108,115,101],strV [102,111,114,97,108,108],strV [102,117,110],strV [103,101,116],strV [105,102],strV [105,110],strV [105,110,115,116],strV [105,110,116],strV [105,110,118,97,114,105,97,110,116],strV [108,101,116],strV [109,97,116,99,104],strV [109,101,97,115,117,114,101],strV [109,101,116,114,105,99],strV [109,111,100],strV [109,117],strV [110,101,119],strV [110,111,116],strV [111,102],strV [111,114],strV [113,117,97,108],strV [114,101,102,108,101,99,116],strV [115,101,116],strV [116,104,101,110],strV [116,114,117,101],strV [117,115,101],strV [118],strV [118,97,108],strV [116,97,103],strV [119,104,101,114,101],strV [119,105,116,104]]
def pow10Cells:List AV:=[.val (.int .u64 1),.val (.int .u64 10),.val (.int .u64 100),.val (.int .u64 1000),.val (.int .u64 10000),.val (.int .u64 100000),.val (.int .u64 1000000),.val (.int .u64 10000000),.val (.int .u64 100000000),.val (.int .u64 1000000000),.val (.int .u64 10000000000),.val (.int .u64 100000000000),.val (.int .u64 1000000000000),.val (.int .u64 10000000000000),.val (.int .u64 100000000000000),.val (.int .u64 1000000000000000),.val (.int .u64 10000000000000000),.val (.int .u64 100000000000000000),.val (.int .u64 1000000000000000000),.val (.int .u64 10000000000000000000)]
def globCells:Nat→Option (List AV)
 |0=>some keywordCells
 |1=>some pow10Cells
 |_=>none
noncomputable def E0:Env:={P:=Tryz.prog,mth:=[(178,"liquidcheck/vcgen.around",526),(226,"liquidcheck/vcgen.around",527),(534,"liquidcheck/simplex.exact",528),(534,"liquidcheck/simplex.minus",529),(534,"liquidcheck/simplex.over",530),(534,"liquidcheck/simplex.rational",531),(534,"liquidcheck/simplex.sign",532),(534,"liquidcheck/simplex.times",533),(534,"liquidcheck/simplex.whole",534)],globs:=globCells,shared:=sharedFns,known:=fun _ _=>none,idle:=mkTr [(81,2),(150,1)],noEscF:=some 491,mkNZF:=some (492,5)}
end Go.Proofs.YtkmoeaplhnabcaaGreatDoor
