/- VEnv -/
import Derived.Test.YtmbabhlmdhghdaaGreatDoorM3
import Derived.Test.YtmbabhlmdhghdaaGreatDoorProg
set_option linter.all false
open Option renaming some->Z, none->Y
open Bool renaming true->J, false->U
namespace Go.Proofs.YtmbabhlmdhghdaaGreatDoor
open Go Go.AM
def mkTr{α:Type}:List (Nat×α)->Tr α
 | []=>.nil
 |(k,v)::l=>(mkTr l).put k (Z v)
def sharedFns:Tr Unit:=mkTr ([76,83,89,107,114,117,150,176,181,194,223,270,271,294,320,321,322,323,324,325,327,328,333,334,346,349,350,356,360,364,368,402,408,411,412,413,414].map λk=>(k,()))
def dt(l:List UInt8):AV:=.val (.string ⟨l.toArray⟩)
def cY:List AV:=[dt [97,110,100],dt [97,115,115,117,109,101],dt [98,111,111,108],dt [98,111,117,110,100],dt [99,97,115,101],dt [99,101,108,108],dt [99,108,97,115,115],dt [100,97,116,97],dt [100,101,102],dt [100,105,118],dt [101,108,115,101],dt [101,110,100],dt [102,97,108,115,101],dt [102,111,114,97,108,108],dt [102,117,110],dt [103,101,116],dt [105,102],dt [105,110],dt [105,110,115,116],dt [105,110,116],dt [105,110,118,97,114,105,97,110,116],dt [108,101,116],dt [109,97,116,99,104],dt [109,101,97,115,117,114,101],dt [109,101,116,114,105,99],dt [109,111,100],dt [109,117],dt [110,101,119],dt [110,111,116],dt [111,102],dt [111,114],dt [113,117,97,108],dt [114,101,102,108,101,99,116],dt [115,101,116],dt [116,104,101,110],dt [116,114,117,101],dt [117,115,101],dt [118],dt [118,97,108],dt [116,97,103],dt [119,104,101,114,101],dt [119,105,116,104]]
def eA:List AV:=[.val (.int .u64 1),.val (.int .u64 10),.val (.int .u64 100),.val (.int .u64 1000),.val (.int .u64 10000),.val (.int .u64 100000),.val (.int .u64 1000000),.val (.int .u64 10000000),.val (.int .u64 100000000),.val (.int .u64 1000000000),.val (.int .u64 10000000000),.val (.int .u64 100000000000),.val (.int .u64 1000000000000),.val (.int .u64 10000000000000),.val (.int .u64 100000000000000),.val (.int .u64 1000000000000000),.val (.int .u64 10000000000000000),.val (.int .u64 100000000000000000),.val (.int .u64 1000000000000000000),.val (.int .u64 10000000000000000000)]
def jD:Nat->Option (List AV)
 |0=>Z cY
 |3=>Z eA
 |_=>Y
noncomputable def E0:Env:={P:=Tryz.prog,mth:=[(289,"liquidcheck/simplex.exact",388),(289,"liquidcheck/simplex.minus",389),(289,"liquidcheck/simplex.over",390),(289,"liquidcheck/simplex.rational",391),(289,"liquidcheck/simplex.sign",392),(289,"liquidcheck/simplex.times",393),(289,"liquidcheck/simplex.whole",394)],aY:=jD,shared:=sharedFns,known:=λ_ _=>Y,idle:=mkTr [(80,1)],noEscF:=Z 335,mkNZF:=Z (336,5)}
end Go.Proofs.YtmbabhlmdhghdaaGreatDoor
