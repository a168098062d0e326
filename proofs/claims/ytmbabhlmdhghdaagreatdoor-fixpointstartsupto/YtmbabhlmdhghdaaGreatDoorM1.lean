/- XAm XAmC XAmR XAmW XAmO XAmP XAmQ XAmT XAmU XAmV -/
import Derived.Test.YtmbabhlmdhghdaaGreatDoorU0
import GoSem.Core.Code
import GoSem.Core.Program
import GoSem.Core.Lib
import GoSem.Dispatch
import GoSem.Core.Layout
import Derived.Laws.Sem
import Derived.Below
import Derived.OrdersIn
import Derived.Laws.IdiomCopy
import Derived.ChangeKeysEq
import Derived.Laws.Entries
import Derived.Laws.BytesString
import Derived.IntWalk
set_option linter.all false
open Option.some renaming injEq->sI
open Option renaming some->Z, none->Y
open Bool renaming true->J, false->U
open Array renaming range->Ad
open Bool renaming and_eq_true->im, eq_iff_iff->B8
open List renaming all_eq_true->j3, getElem?_eq_getElem->ji, map_cons->jk, replicate->jr
open Nat renaming add_assoc->jq, add_zero->Ao, beq->ig, ble->ii, blt->ir, blt_eq->j8, eq_of_beq_eq_true->iu, le_of_ble_eq_true->j6, le_refl->ij, lt_of_lt_of_le->jw, ne_of_beq_eq_false->jz
open Option renaming bind_eq_some_iff->j7, isSome_iff_exists->Ai
namespace Go.AM
inductive Tr (α:Type) where
 |nil
 |nd (l:Tr α) (v:Option α) (r:Tr α)
deriving Inhabited
def Tr.get{α:Type}:Tr α->Nat->Option α
 |.nil,_=>Y
 |.nd l v r,k=>bif ig k 0 then v else bif ig (k%2) 1 then l.get (k/2) else r.get (k/2-1)
def Tr.lV{α:Type}:Nat->Tr α->Nat->Option α->Tr α
 |0,t,_,_=>t
 |n+1,.nil,k,x=>bif ig k 0 then .nd .nil x .nil else bif ig (k%2) 1 then .nd (lV n .nil (k/2) x) Y .nil else .nd .nil Y (lV n .nil (k/2-1) x)
 |n+1,.nd l v r,k,x=>bif ig k 0 then .nd l x r else bif ig (k%2) 1 then .nd (lV n l (k/2) x) v r else .nd l v (lV n r (k/2-1) x)
def Tr.put{α:Type}(t:Tr α)(k:Nat)(x:Option α):Tr α:=lV (k+1) t k x
inductive AV where
 |val (v:Value)
 |agg (cs:List AV)
 |tup (vs:List AV)
 |imm (cs:List AV) (n:Nat) (cap:Option Nat)
 |own (b off n es:Nat) (cap:Option Nat)
 |ptr (b off:Nat)
 |bD (cs:List AV)
 |ifc (t:TypeId) (v:AV)
 |fn (f:Fn) (first captured:List AV)
 |mp (b:Nat)
 |it (b:Nat)
 |yld (b:Nat)
deriving Inhabited
inductive Ex where
 |normal
 |exit (id:Nat)
 |ret
deriving Inhabited
inductive LSt where
 |ready
 |busy
 |done (e:Ex)
 |gone
deriving Inhabited
inductive Blk where
 |cells (cs:List AV) (rw:Bool)
 |map (es:List (Value×AV))
 |hZ (es:List (Value×AV))
 |iter (s:ByteArray) (pos:Nat)
 |ft (m:Option Nat)
 |kZ (m:Nat) (on:Bool)
 |nU (m n:Nat) (seen:List Nat)
 |loop (tm:Tr AV) (ps:List Nat) (asg body:Code) (M:Nat) (st:LSt)
 |dfr (on:Bool)
 |tag (b:Nat) (t:TypeId) (n:Option Nat)
deriving Inhabited
structure AH where
 next:Nat
 tr:Tr Blk
deriving Inhabited
def AH.empty:AH:=⟨0,.nil⟩
def AH.get(h:AH)(b:Nat):Option Blk:=h.tr.get b
def AH.put(h:AH)(b:Nat)(x:Option Blk):AH:=⟨h.next,h.tr.put b x⟩
def AH.alloc(h:AH)(x:Blk):AH:=⟨h.next+1,h.tr.put h.next (Z x)⟩
def AV.cells:AV->Option (List AV)
 |.agg cs=>Z cs
 |.tup _=>Y
 |v=>Z [v]
def ew:Value->Option AV
 |.agg cs=>bif cs.toList.all (·.oneCell') then Z (.agg (cs.toList.map .val)) else Y
 |.tuple vs=>bif vs.toList.all (·.oneCell') then Z (.tup (vs.toList.map .val)) else Y
 |v=>Z (.val v)
def fP:List AV->Option (List Value)
 | []=>Z []
 |.val v::r=>(fP r).map (v:: ·)
 |_::_=>Y
def flat:AV->Option Value
 |.val v=>Z v
 |.agg cs=>(fP cs).map λl=>.agg l.toArray
 |.tup cs=>(fP cs).map λl=>.tuple l.toArray
 |.ifc t (.val v)=>Z (.iface t v)
 |.ifc t (.agg cs)=>(fP cs).map λl=>.iface t (.agg l.toArray)
 |_=>Y
def bJ:AV:=.tup []
def allSeen(seen:List Nat):Nat->Bool
 |0=>J
 |n+1=>seen.any (ig n)&&allSeen seen n
def curOf(seen:List Nat)(es:List (Value×AV)):Option (Value×AV):=match seen.getLast? with
 |some i=>es[i]?
 |none=>Y
inductive Opd where
 |t (i:Nat)
 |c (v:AV)
deriving Inhabited
inductive AOp where
 |mv (x:Opd)
 |pick (c a b:Opd)
 |alloc (z:List AV)
 |box (x:Opd)
 |build (z:List AV) (parts:List (Nat×Nat×Opd))
 |buildSlice (es n:Nat) (z:List AV) (parts:List (Nat×Nat×Opd))
 |load (n:Option Nat) (x:Opd)
 |store (n:Nat) (a x:Opd)
 |cE (x:Opd)
 |bin (op:BinOp) (t:TypeId) (g:Bool) (x y:Opd)
 |un (op:UnOp) (x:Opd)
 |conv (k:IntKind) (x:Opd)
 |bP (x:Opd)
 |gZ (x:Opd)
 |qx (x:Opd)
 |mR (x:Opd)
 |jK (t:TypeId) (x:Opd)
 |fy (fn:Fn) (first captured:List Opd)
 |rI
 |cP (es bytes:Nat) (z:List AV) (l c:Opd)
 |dE (es:Nat) (x:Opd) (lo hi mx:Option Opd)
 |nu (es len:Nat) (x:Opd) (lo hi:Option Opd)
 |fC (x:Opd) (lo hi:Option Opd)
 |fieldAddr (off:Nat) (x:Opd)
 |field (off:Nat) (n:Option Nat) (x:Opd)
 |bT (es:Nat) (x i:Opd)
 |kX (len es:Nat) (x i:Opd)
 |idxA (len es:Nat) (n:Option Nat) (x i:Opd)
 |bj (x i:Opd)
 |lookup (d:TypeDesc) (z:AV) (x k:Opd) (ok:Bool)
 |jO (d:TypeDesc) (m k x:Opd)
 |kR (d:TypeDesc) (m k:Opd)
 |mS (x:Opd)
 |kn (x:Opd)
 |rangeMap (x:Opd)
 |gv (x:Opd)
 |lY (x:Opd)
 |kg (t:TypeId) (z:AV) (ok:Bool) (x:Opd)
 |extract (i:Nat) (x:Opd)
 |call (f:Nat) (args:List Opd)
 |dR (x:Opd) (args:List Opd)
 |invoke (x:Opd) (name:String) (args:List Opd)
 |append (es bytes:Nat) (s x:Opd)
 |copy (es:Nat) (d s:Opd)
 |fI (x:Opd)
 |b7 (x:Opd)
 |qj (x:Opd)
 |lenK (n:Nat)
 |capS (x:Opd)
 |minI (args:List Opd)
 |maxI (args:List Opd)
 |lS (es:Nat) (z:List AV) (x:Opd)
 |recover
 |defer (x:Opd) (args:List Opd)
 |fO (e:TypeId) (x n:Opd)
 |gK (x:Opd)
 |lT (z:List AV) (t:TypeId)
 |qE (t:TypeId) (x:Opd)
 |qp (f:Nat) (x:Opd)
 |appT (e:TypeId) (s x:Opd)
 |bad (why:String)
deriving Inhabited
def shown:AOp->Bool
 |.mS _|.kn _|.recover|.defer .. |.bad _|.copy .. |.mR _|.qx _|.rangeMap _|.gv _|.lY _|.kg .. |.lenK _=>U
 |_=>J
def fo:AOp->Bool
 |.defer .. =>J
 |_=>U
structure aW where
 dst:Option Nat
 guard:Option (Nat×Bool)
 op:AOp
deriving Inhabited
structure DOp where
 o:aW
 reads:List Nat
 free:List Nat
deriving Inhabited
inductive aF where
 |skip
 |region (ops:List aW)
 |draw (ops:List DOp)
 |seq (a b:aF)
 |cond (c:Opd) (thn els:aF)
 |block (id:Nat) (body:aF)
 |loop (body:aF)
 |range (g:Opd) (ps:List Nat) (asg body:Code) (M:Nat)
 |exit (id:Nat)
 |ret
 |bad (why:String)
deriving Inhabited
inductive ARes where
 |tmp (t:Nat)
 |cell (t:Nat) (n:Option Nat)
deriving Inhabited
structure ax where
 body:aF
 res:List ARes
deriving Inhabited
structure Env where
 P:Program
 mth:List (TypeId×String×Nat)
 aY:Nat->Option (List AV)
 shared:Tr Unit
 known:Nat->List AV->Option AV
 idle:Tr Nat
 noEscF:Option Nat
 mkNZF:Option (Nat×TypeId)
inductive Cle where
 |f (g:Nat)
 |y (b:Nat)
deriving Inhabited
inductive ADef where
 |call (f:Nat) (args:List AV)
 |mark (b:Nat)
deriving Inhabited
def findM(t:TypeId)(name:String):List (TypeId×String×Nat)->Option Nat
 | []=>Y
 |(t',n,f)::r=>bif ig t t'&&name==n then Z f else findM t name r
def Env.iG(E:Env)(t:TypeId)(name:String):Option Nat:=findM t name E.mth
structure St where
 tm:Tr AV
 h:AH
 defers:List ADef
 round:Option Nat
deriving Inhabited
def St.eval(s:St):Opd->Option AV
 |.t i=>s.tm.get i
 |.c v=>Z v
def aT(s:St):List Opd->Option (List AV)
 | []=>Z []
 |x::r=>match s.eval x with
  |none=>Y
  |some v=>match aT s r with
   |none=>Y
   |some l=>Z (v::l)
def putAt(cs:List AV)(off:Nat)(vs:List AV):List AV:=cs.take off++vs++cs.drop (off+vs.length)
def fill(s:St):List AV->List (Nat×Nat×Opd)->Option (List AV)
 |z,[]=>Z z
 |z,(off,size,x)::r=>match s.eval x with
  |none=>Y
  |some v=>match v.cells with
   |some l=>bif ig l.length size&&ii (off+size) z.length then fill s (putAt z off l) r else Y
   |none=>Y
def takeN(n:Option Nat)(cs:List AV):Option AV:=
 match n with
 |none=>cs.head?
 |some k=>bif ii k cs.length then Z (.agg (cs.take k)) else Y
def bI(G:Nat->Option (List AV))(h:AH):AV->Option (List AV)
 |.ptr b off=>match h.get b with
  |some (.cells cs _)=>bif ii off cs.length then Z (cs.drop off) else Y
  |_=>Y
 |.bD cs=>Z cs
 |.val (.pointer (Z ⟨g,off,Y⟩))=>match G g with
  |some cs=>bif ii off cs.length then Z (cs.drop off) else Y
  |none=>Y
 |_=>Y
def au(h:AH)(es:Nat):AV->Option (List AV×Nat)
 |.val (.slice _ 0 _)=>Z ([],0)
 |.val (.string s)=>bif ig es 1 then Z (s.data.toList.map λb=>.val (.int .u8 b.toNat),s.size) else Y
 |.imm cs n _=>bif ii (n*es) cs.length then Z (cs.take (n*es),n) else Y
 |.own b off n es' _=>bif ig es es' then(match h.get b with
  |some (.cells cs _)=>bif ii (off+n*es) cs.length then Z ((cs.drop off).take (n*es),n) else Y
  |_=>Y) else Y
 |_=>Y
def asN:AV->Option Nat
 |.val (.int _ (.ofNat n))=>Z n
 |_=>Y
def fR(op:BinOp)(k:IntKind)(a b:Int):Option Value:=
 match op with
 |.add=>Z (.int k (k.wrap (a+b)))
 |.sub=>Z (.int k (k.wrap (a-b)))
 |.mul=>Z (.int k (k.wrap (a*b)))
 |.quo=>bif b==0 then Y else Z (.int k (k.wrap (a.tdiv b)))
 |.rem=>bif b==0 then Y else Z (.int k (a.tmod b))
 |.eql=>Z (.bool (a==b))
 |.neq=>Z (.bool (a != b))
 |.lss=>Z (.bool (a<b))
 |.leq=>Z (.bool (a<=b))
 |.gtr=>Z (.bool (a>b))
 |.geq=>Z (.bool (a>=b))
 |_=>Y
def bK{α:Type}(P:Program):Sem α->Option α
 |.pure a=>Z a
 |.program k=>bK P (k P)
 |.mark _ k=>bK P k
 |_=>Y
def eQ:List UInt8->List UInt8->Bool
 |_,[]=>U
 | [],_::_=>J
 |a::x,b::y=>ir a.toNat b.toNat||(ig a.toNat b.toNat&&eQ x y)
def dZ:List UInt8->List UInt8->Bool
 | [],[]=>J
 |a::x,b::y=>ig a.toNat b.toNat&&dZ x y
 |_,_=>U
def m7(op:BinOp)(a b:ByteArray):Option Value:=
 match op with
 |.add=>bif ii (a.size+b.size) (2^60) then Z (.string ⟨(a.data.toList++b.data.toList).toArray⟩) else Y
 |.eql=>Z (.bool (dZ a.data.toList b.data.toList))
 |.neq=>Z (.bool (!dZ a.data.toList b.data.toList))
 |.lss=>Z (.bool (eQ a.data.toList b.data.toList))
 |.leq=>Z (.bool (eQ a.data.toList b.data.toList||dZ a.data.toList b.data.toList))
 |.gtr=>Z (.bool (!(eQ a.data.toList b.data.toList||dZ a.data.toList b.data.toList)))
 |.geq=>Z (.bool (!eQ a.data.toList b.data.toList))
 |_=>Y
def nilT(d:TypeDesc)(x y:AV):Bool:=
 match d,x,y with
 |.pointer _,.ptr ..,.val (.pointer Y)|.pointer _,.val (.pointer Y),.ptr .. |.pointer _,.bD _,.val (.pointer Y)
 |.slice _,.imm ..,.val (.slice Y 0 0)|.slice _,.own ..,.val (.slice Y 0 0)|.func ..,.fn ..,.val .nilFunc
 |.interface _,.ifc ..,.val .nilIface|.map ..,.mp _,.val (.map Y)=>J
 |_,_,_=>U
def dM(P:Program)(op:BinOp)(t:TypeId)(g:Bool)(x y:AV):Option AV:=
 match x,y with
 |.val (.int k a),.val (.int k' b)=>
  match fR op k a b with
  |some v=>bif k==k' then Z (.val v) else Y
  |none=>(bK P (binOp op t (.int k a) (.int k' b))).bind ew
 |.val (.string a),.val (.string b)=>(m7 op a b).map .val
 |x,y=>match flat x,flat y with
  |some a,Z b=>(bK P (do eqGuard op t (bif g then .const (.tuple #[]) else .tmp 0) (.tmp 0) a b;binOp op t a b)).bind ew
  |_,_=>match P.underlying t with
   |none=>Y
   |some d=>bif nilT d x y then(match op with
     |.eql=>Z (.val (.bool U))
     |.neq=>Z (.val (.bool J))
     |_=>Y)
    else match d,x,y with
     |.pointer e,.ptr b off,.ptr b' off'=>match (P.info? e).map (·.size) with
      |some (_+1)=>bif ig b b' then(match op with
       |.eql=>Z (.val (.bool (ig off off')))
       |.neq=>Z (.val (.bool (!Nat.beq off off')))
       |_=>Y) else Y
      |_=>Y
     |_,_,_=>Y
def sliceB(len cap:Nat)(lo hi mx:Option Nat):Option (Nat×Nat×Nat):=
 let m:=mx.getD cap
 let h:=hi.getD len
 let l:=lo.getD 0
 bif ii m cap&&ii h m&&ii l h&&(mx.isNone||hi.isSome) then Z (l,h,m) else Y
def cm(s:St):Option Opd->Option (Option Nat)
 |none=>Z Y
 |some x=>match s.eval x with
  |some v=>(asN v).map Z
  |none=>Y
def fW(es:Nat)(x:AV)(lo hi mx:Option Nat):Option AV:=
 match x with
 |.val (.slice Y 0 0)=>match sliceB 0 0 lo hi mx with
  |some _=>Z x
  |none=>Y
 |.imm cs n cap=>
  match sliceB n (match mx with|some m=>m|none=>n) lo hi mx with
  |some (l,h,m)=>bif ii m n then
    (match mx,cap with
    |some _,_=>Z (.imm ((cs.drop (l*es)).take ((h-l)*es)) (h-l) (Z (m-l)))
    |none,Z c=>Z (.imm ((cs.drop (l*es)).take ((h-l)*es)) (h-l) (Z (c-l)))
    |none,Y=>Z (.imm ((cs.drop (l*es)).take ((h-l)*es)) (h-l) Y)) else Y
  |none=>Y
 |.own b off n es' cap=>bif ig es es' then
  (match cap with
  |some c=>match sliceB n c lo hi mx with
   |some (l,h,m)=>Z (.own b (bif ig m l then off else off+l*es) (h-l) es (Z (m-l)))
   |none=>Y
  |none=>match sliceB n (match mx with|some m=>m|none=>n) lo hi mx with
   |some (l,h,m)=>bif ii m n then(match mx with
    |some _=>Z (.own b (bif ig m l then off else off+l*es) (h-l) es (Z (m-l)))
    |none=>bif ig l 0 then Z (.own b off h es Y) else bif ii l n then Z (.own b (off+l*es) (h-l) es Y) else Y) else Y
   |none=>Y) else Y
 |_=>Y
def ar(h:AH):Nat->AV->Option AV
 |0,_=>Y
 |n+1,v=>match v with
  |.val v=>Z (.val v)
  |.imm a b c=>Z (.imm a b c)
  |.bD cs=>Z (.bD cs)
  |.agg cs=>(cs.mapM (ar h n)).map .agg
  |.tup cs=>(cs.mapM (ar h n)).map .tup
  |.own b off k es cap=>match h.get b with
   |some (.cells cs U)=>bif ii (off+k*es) cs.length then(((cs.drop off).take (k*es)).mapM (ar h n)).map λl=>.imm l k cap else Y
   |_=>Y
  |.ifc t v=>(ar h n v).map (.ifc t)
  |.fn f a b=>match a.mapM (ar h n),b.mapM (ar h n) with
   |some a,Z b=>Z (.fn f a b)
   |_,_=>Y
  |_=>Y
def freeze:Nat->AV->AH->AH
 |0,_,h=>h
 |n+1,v,h=>match v with
  |.agg cs|.tup cs=>cs.foldl (λh c=>freeze n c h) h
  |.own b off k es _=>match h.get b with
   |some (.cells cs _)=>((cs.drop off).take (k*es)).foldl (λh c=>freeze n c h) (h.put b (Z (.cells cs U)))
   |_=>h
  |.ifc _ v=>freeze n v h
  |.fn _ a b=>b.foldl (λh c=>freeze n c h) (a.foldl (λh c=>freeze n c h) h)
  |_=>h
def m5:List AV->Bool
 | []=>J
 |.val _::r=>m5 r
 |_::_=>U
def dg:AV->Bool
 |.val _=>J
 |.tup vs=>vs.all λv=>match v with
  |.val _=>J
  |.agg cs=>m5 cs
  |_=>U
 |.agg cs=>m5 cs
 |_=>U
def aU:Nat:=1000000000
def bg:List AV->Nat->Tr AV->Tr AV
 | [],_,t=>t
 |v::r,i,t=>bg r (i+1) (t.put i (Z v))
def ay(G:Nat->Option (List AV))(s:St):List ARes->Option (List AV)
 | []=>Z []
 |.tmp t::r=>match s.tm.get t,ay G s r with
  |some v,Z l=>Z (v::l)
  |_,_=>Y
 |.cell t n::r=>match (s.tm.get t).bind (bI G s.h),ay G s r with
  |some cs,Z l=>(takeN n cs).map (· ::l)
  |_,_=>Y
def bQ:List AV->AV
 | [v]=>v
 |l=>.tup l
def keyEq(d:TypeDesc)(k j:Value):Option Bool:=
 match d,k,j with
 |.int _,.int p a,.int q b=>bif p==q then Z (a==b) else Y
 |.string,.string a,.string b=>Z (dZ a.data.toList b.data.toList)
 |.bool,.bool a,.bool b=>Z (a==b)
 |_,_,_=>Y
def mB(d:TypeDesc)(k:Value):List (Value×AV)->Option (Option AV)
 | []=>Z Y
 |(j,v)::r=>match keyEq d k j with
  |some J=>Z (Z v)
  |some U=>mB d k r
  |none=>Y
def updA(d:TypeDesc)(k:Value)(x:AV):List (Value×AV)->Option (List (Value×AV))
 | []=>Z [(k,x)]
 |(j,v)::r=>match keyEq d k j with
  |some J=>Z ((k,x)::r)
  |some U=>(updA d k x r).map ((j,v):: ·)
  |none=>Y
def delA(d:TypeDesc)(k:Value):List (Value×AV)->Option (List (Value×AV))
 | []=>Z []
 |(j,v)::r=>match keyEq d k j with
  |some J=>Z r
  |some U=>(delA d k r).map ((j,v):: ·)
  |none=>Y
def iQ:List AV->Option (List UInt8)
 | []=>Z []
 |.val (.int .u8 n)::r=>(iQ r).map (UInt8.ofNat n.toNat:: ·)
 |_::_=>Y
def bytesOf(cs:List AV):Option ByteArray:=(iQ cs).map λl=>⟨l.toArray⟩
def fa:List AV->Option (List UInt8)
 | []=>Z []
 |.val (.int .u8 (.ofNat n))::r=>bif ir n 256 then(fa r).map (UInt8.ofNat n:: ·) else Y
 |_::_=>Y
def fe(up:Bool)(k:IntKind):Int->List AV->Option Int
 |m,[]=>Z m
 |m,.val (.int k' b)::r=>bif k==k' then fe up k (bif up then max m b else min m b) r else Y
 |_,_::_=>Y
def cR:Nat:=2^40
def cW(m bytes:Nat):Bool:=ii (m*bytes) cR&&ii m cR
def kM(h:AH)(b:Nat):Option (TypeId×Option Nat):=match h.get (b+1) with
 |some (.tag b' t n)=>bif ig b b' then Z (t,n) else Y
 |_=>Y
def fv(h:AH)(es:Nat)(v:AV)(lo hi mx:Option Nat):Option AV:=
 match v,hi,mx with
 |.own b off _ es' Y,Z k,Y=>match h.get b with
  |some (.cells cs _)=>bif (ig es es'&&ir 0 es)&&(ir (lo.getD 0) k&&ii (off+k*es) cs.length) then Z (.own b (off+lo.getD 0*es) (k-lo.getD 0) es Y) else Y
  |_=>Y
 |_,_,_=>Y
def bN(s:St)(es bytes:Nat)(sl x:Opd):Option (AV×St):=
 let ret (v:AV):Option (AV×St):=Z (v,s)
 let retH (v:AV) (h:AH):Option (AV×St):=Z (v,{s with h})
 match s.eval sl,s.eval x with
  |some a,Z x=>match au s.h es x with
   |none=>Y
   |some (new,n)=>match a with
    |.val (.slice Y 0 0)=>bif ig n 0 then ret a else
      bif cW n bytes then retH (.own s.h.next 0 n es Y) (s.h.alloc (.cells new J)) else Y
    |.imm cs k (Z c)=>bif ig n 0 then ret a else bif ir c (k+n)&&cW (k+n) bytes&&ii (k*es) cs.length then
      retH (.own s.h.next 0 (k+n) es Y) (s.h.alloc (.cells (cs.take (k*es)++new) J)) else Y
    |.imm _ _ Y=>bif ig n 0 then ret a else Y
    |.own b off k es' cap=>bif ig n 0 then ret a else
     match s.h.get b with
     |some (.cells cs rw)=>bif ig es es'&&ii (off+k*es) cs.length&&cW (k+n) bytes then
      (match cap with
      |some c=>bif ii (k+n) c then
        (bif rw&&ii (off+(k+n)*es) cs.length then retH (.own b off (k+n) es cap) (s.h.put b (Z (.cells (putAt cs (off+k*es) new) J))) else Y)
       else retH (.own s.h.next 0 (k+n) es Y) (s.h.alloc (.cells ((cs.drop off).take (k*es)++new) J))
      |none=>bif ir (off+k*es) cs.length&&ii (off+(k+n)*es) cs.length then
        (bif rw then retH (.own b off (k+n) es Y) (s.h.put b (Z (.cells (putAt cs (off+k*es) new) J))) else Y)
       else bif rw&&ig (off+k*es) cs.length then
        retH (.own s.h.next 0 (k+n) es Y) ((s.h.put b Y).alloc (.cells (cs.drop off++new) J)) else Y) else Y
     |_=>Y
    |_=>Y
  |_,_=>Y
def mT (s : St) (e : TypeId) (sl x : Opd) : Option (AV × St) :=
  match s.eval sl, s.eval x with
  | some a, Z x => match au s.h 1 x with
    | none => Y
    | some (new, n) => match a with
      | .val (.slice Y 0 0) => bif !Nat.beq n 0 && cW n 1 then Z (.own s.h.next 0 n 1 Y, { s with h := (s.h.alloc (.cells new J)).alloc (.tag s.h.next e Y) }) else Y
      | .own b 0 k 1 Y => match s.h.get b, kM s.h b with
        | some (.cells cs rw), Z (t, _) => bif (rw && ig t e && ig k cs.length && cW (k + n) 1) && !Nat.beq n 0 then
              Z (.own s.h.next 0 (k + n) 1 Y, { s with h := ((s.h.put b Y).alloc (.cells (cs ++ new) J)).alloc (.tag s.h.next e Y) }) else Y
        | _, _ => Y
      | _ => Y
  | _, _ => Y
def mo(E:Env)(f:Nat):Bool:=match E.noEscF with
 |some g=>ig f g
 |none=>U
def aL(E:Env)(call:Cle->List AV->AH->Option (AV×AH))(s:St)(op:AOp):Option (AV×St):=
 let ret (v:AV):Option (AV×St):=Z (v,s)
 let retH (v:AV) (h:AH):Option (AV×St):=Z (v,{s with h})
 match op with
 |.mv x=>(s.eval x).bind ret
 |.pick c a b=>match s.eval c with
  |some (.val (.bool J))=>(s.eval a).bind ret
  |some (.val (.bool U))=>(s.eval b).bind ret
  |_=>Y
 |.alloc z=>retH (.ptr s.h.next 0) (s.h.alloc (.cells z J))
 |.box x=>match (s.eval x).bind AV.cells with
  |some l=>retH (.ptr s.h.next 0) (s.h.alloc (.cells l J))
  |none=>Y
 |.build z parts=>(fill s z parts).bind λcs=>ret (.agg cs)
 |.buildSlice es n z parts=>(fill s z parts).bind λcs=>retH (.own s.h.next 0 n es (Z n)) (s.h.alloc (.cells cs J))
 |.load n x=>match s.eval x with
  |some v=>((bI E.aY s.h v).bind (takeN n)).bind ret
  |none=>Y
 |.store n a x=>match s.eval a,(s.eval x).bind AV.cells with
  |some (.ptr b off),Z l=>match s.h.get b with
   |some (.cells cs J)=>bif ig l.length n&&ii (off+n) cs.length then retH bJ (s.h.put b (Z (.cells (putAt cs off l) J))) else Y
   |_=>Y
  |_,_=>Y
 |.cE x=>match s.eval x with
  |some (.val (.pointer Y))|some (.val .nilIface)|some (.val .nilFunc)|some (.val (.func ..))=>Y
  |some (.fn (.method name) (.ifc t v::a) b)=>match E.iG t name with
   |some _=>ret (.fn (.method name) (.ifc t v::a) b)
   |none=>Y
  |some (.fn (.method _) _ _)=>Y
  |some (.yld _)=>Y
  |some v=>ret v
  |none=>Y
 |.bin op t g x y=>match s.eval x,s.eval y with
  |some a,Z b=>(dM E.P op t g a b).bind ret
  |_,_=>Y
 |.un op x=>match s.eval x with
  |some (.val v)=>((bK E.P (Op.unary op v)).bind ew).bind ret
  |_=>Y
 |.conv k x=>match s.eval x with
  |some (.val (.int _ n))=>ret (.val (.int k (k.wrap n)))
  |_=>Y
 |.bP x=>match s.eval x with
  |some (.val (.slice Y 0 0))=>ret (.val (.string ⟨#[]⟩))
  |some (.val _)=>Y
  |some v=>match au s.h 1 v with
   |some (cs,_)=>(bytesOf cs).bind λb=>ret (.val (.string b))
   |none=>Y
  |none=>Y
 |.gZ x=>match s.eval x with
  |some (.val (.string b))=>retH (.own s.h.next 0 b.size 1 Y) (s.h.alloc (.cells (b.data.toList.map λb=>.val (.int .u8 b.toNat)) J))
  |_=>Y
 |.qx x=>match s.eval x with
  |some (.own b off n es cap)=>match s.h.get b with
   |some (.cells (_::_) J)=>ret (.own b off n es cap)
   |_=>Y
  |_=>Y
 |.mR x=>match s.eval x with
  |some (.val (.string b))=>ret (.val (.string b))
  |_=>Y
 |.jK t x=>(s.eval x).bind λv=>ret (.ifc t v)
 |.fy fn a b=>match aT s a,aT s b with
  |some a,Z b=>ret (.fn fn a b)
  |_,_=>Y
 |.rI=>retH (.mp s.h.next) (s.h.alloc (.map []))
 |.cP es bytes z l c=>match (s.eval l).bind asN,(s.eval c).bind asN with
  |some l,Z c=>bif ii l c&&ii (c*bytes) cR&&ii c (2^40) then
    retH (.own s.h.next 0 l es (Z c)) (s.h.alloc (.cells ((jr c z).flatten) J)) else Y
  |_,_=>Y
 |.dE es x lo hi mx=>match s.eval x,cm s lo,cm s hi,cm s mx with
  |some v,Z lo,Z hi,Z mx=>((fW es v lo hi mx).or (fv s.h es v lo hi mx)).bind ret
  |_,_,_,_=>Y
 |.nu es len x lo hi=>match s.eval x,cm s lo,cm s hi with
  |some (.ptr b off),Z lo,Z hi=>match s.h.get b with
   |some (.cells cs _)=>bif ii (off+len*es) cs.length then(match sliceB len len lo hi Y with
    |some (l,h,m)=>ret (.own b (bif ig m l then off else off+l*es) (h-l) es (Z (m-l)))
    |none=>Y) else Y
   |_=>Y
  |some (.bD cs),Z lo,Z hi=>match sliceB len len lo hi Y with
   |some (l,h,m)=>ret (.imm ((cs.drop (l*es)).take ((h-l)*es)) (h-l) (Z (m-l)))
   |none=>Y
  |_,_,_=>Y
 |.fC x lo hi=>match s.eval x,cm s lo,cm s hi with
  |some (.val (.string b)),Z lo,Z hi=>match sliceB b.size b.size lo hi Y with
   |some (l,h,_)=>ret (.val (.string (b.extract l h)))
   |none=>Y
  |_,_,_=>Y
 |.fieldAddr off x=>match s.eval x with
  |some (.ptr b o)=>ret (.ptr b (o+off))
  |some (.bD cs)=>bif ii off cs.length then ret (.bD (cs.drop off)) else Y
  |some (.val (.pointer (Z ⟨g,o,Y⟩)))=>ret (.val (.pointer (Z ⟨g,o+off,Y⟩)))
  |_=>Y
 |.field off n x=>match s.eval x with
  |some (.agg cs)=>bif ii off cs.length then(takeN n (cs.drop off)).bind ret else Y
  |_=>Y
 |.bT es x i=>match s.eval x,(s.eval i).bind asN with
  |some (.imm cs n _),Z i=>bif ir i n&&ii (i*es) cs.length then ret (.bD (cs.drop (i*es))) else Y
  |some (.own b off n es' _),Z i=>bif ir i n&&ig es es' then ret (.ptr b (off+i*es)) else Y
  |_,_=>Y
 |.kX len es x i=>match s.eval x,(s.eval i).bind asN with
  |some (.ptr b off),Z i=>bif ir i len then ret (.ptr b (off+i*es)) else Y
  |some (.bD cs),Z i=>bif ir i len&&ii (i*es) cs.length then ret (.bD (cs.drop (i*es))) else Y
  |some (.val (.pointer (Z ⟨g,o,Y⟩))),Z i=>bif ir i len then ret (.val (.pointer (Z ⟨g,o+i*es,Y⟩))) else Y
  |_,_=>Y
 |.idxA len es n x i=>match s.eval x,(s.eval i).bind asN with
  |some (.agg cs),Z i=>bif ir i len&&ii (i*es) cs.length then(takeN n (cs.drop (i*es))).bind ret else Y
  |_,_=>Y
 |.bj x i=>match s.eval x,(s.eval i).bind asN with
  |some (.val (.string b)),Z i=>match b.data.toList[i]? with
   |some c=>ret (.val (.int .u8 c.toNat))
   |none=>Y
  |_,_=>Y
 |.lookup d z x k ok=>match s.eval x,s.eval k with
  |some m,Z (.val k)=>
   let es:Option (List (Value×AV)):=match m with
    |.val (.map Y)=>Z []
    |.mp b=>match s.h.get b with
     |some (.map es)=>Z es
     |some (.hZ es)=>Z es
     |_=>Y
    |_=>Y
   match es with
   |some es=>match mB d k es with
    |some (Z v)=>ret (bif ok then .tup [v,.val (.bool J)] else v)
    |some Y=>ret (bif ok then .tup [z,.val (.bool U)] else z)
    |none=>Y
   |none=>Y
  |_,_=>Y
 |.jO d m k x=>match s.eval m,s.eval k,s.eval x with
  |some (.mp b),Z (.val k),Z v=>match s.h.get b with
   |some (.map es)=>(updA d k v es).bind λes=>retH bJ (s.h.put b (Z (.map es)))
   |_=>Y
  |_,_,_=>Y
 |.kR d m k=>match s.eval m,s.eval k with
  |some (.mp b),Z (.val k)=>match s.h.get b with
   |some (.map es)=>(delA d k es).bind λes=>retH bJ (s.h.put b (Z (.hZ es)))
   |some (.hZ es)=>(delA d k es).bind λes=>retH bJ (s.h.put b (Z (.hZ es)))
   |_=>Y
  |_,_=>Y
 |.mS x=>match s.eval x with
  |some (.val (.string b))=>retH (.it s.h.next) (s.h.alloc (.iter b 0))
  |_=>Y
 |.kn x=>match s.eval x with
  |some (.it b)=>match s.h.get b with
   |some (.iter str pos)=>bif ir pos str.size then
     let cw:=Utf8.decode str pos
     retH (.tup [.val (.bool J),.val (.int .i64 pos),.val (.int .i32 cw.1)]) (s.h.put b (Z (.iter str (pos+cw.2))))
    else ret (.tup [.val (.bool U)])
   |_=>Y
  |_=>Y
 |.rangeMap x=>match s.eval x with
  |some (.val (.map Y))=>retH (.it s.h.next) (s.h.alloc (.ft Y))
  |some (.mp b)=>match s.h.get b with
   |some (.map [_])=>retH (.it s.h.next) (s.h.alloc (.kZ b U))
   |some (.map [])=>retH (.it s.h.next) (s.h.alloc (.ft (Z b)))
   |some (.map es)=>retH (.it s.h.next) (s.h.alloc (.nU b es.length []))
   |_=>Y
  |_=>Y
 |.gv x=>match s.eval x with
  |some (.it b)=>match s.h.get b with
   |some (.ft Y)=>ret (.tup [.val (.bool U)])
   |some (.ft (Z m))=>match s.h.get m with
    |some (.map [])=>ret (.tup [.val (.bool U)])
    |_=>Y
   |some (.kZ m U)=>match s.h.get m with
    |some (.map [(k,v)])=>bif k.oneCell' then retH (.tup [.val (.bool J),.val k,v]) (s.h.put b (Z (.kZ m J))) else Y
    |_=>Y
   |some (.kZ m J)=>match s.h.get m with
    |some (.map [_])=>ret (.tup [.val (.bool U)])
    |_=>Y
   |some (.nU m n seen)=>match s.h.get m with
    |some (.map es)=>bif ig es.length n&&(ii 1 n&&allSeen seen n) then ret (.tup [.val (.bool U)]) else Y
    |_=>Y
   |_=>Y
  |_=>Y
 |.lY x=>match s.eval x with
  |some (.it b)=>match s.h.get b with
   |some (.kZ m J)=>match s.h.get m with
    |some (.map [(k,v)])=>bif k.oneCell' then ret (.tup [.val k,v]) else Y
    |_=>Y
   |some (.nU m n seen)=>match s.h.get m with
    |some (.map es)=>match curOf seen es with
     |some (k,v)=>bif ig es.length n&&k.oneCell' then ret (.tup [.val k,v]) else Y
     |none=>Y
    |_=>Y
   |_=>Y
  |_=>Y
 |.kg t z ok x=>match s.eval x with
  |some (.ifc t' v)=>bif ig t t' then ret (bif ok then .tup [v,.val (.bool J)] else v) else bif ok then ret (.tup [z,.val (.bool U)]) else Y
  |some (.val .nilIface)=>bif ok then ret (.tup [z,.val (.bool U)]) else Y
  |_=>Y
 |.extract i x=>match s.eval x with
  |some (.tup vs)=>(vs[i]?).bind ret
  |_=>Y
 |.call f args=>match aT s args with
  |some l=>(call (.f f) l s.h).bind λ(v,h)=>retH v h
  |none=>Y
 |.dR x args=>match s.eval x,aT s args with
  |some (.fn (.func f) a b),Z l=>(call (.f f) (a++l++b) s.h).bind λ(v,h)=>retH v h
  |some (.fn (.method name) (.ifc t v::a) _),Z l=>match E.iG t name with
   |some f=>(call (.f f) (v::(a++l)) s.h).bind λ(v,h)=>retH v h
   |none=>Y
  |some (.yld b),Z l=>(call (.y b) l s.h).bind λ(v,h)=>retH v h
  |_,_=>Y
 |.invoke x name args=>match s.eval x,aT s args with
  |some (.ifc t v),Z l=>match E.iG t name with
   |some f=>(call (.f f) (v::l) s.h).bind λ(v,h)=>retH v h
   |none=>Y
  |_,_=>Y
 |.append es bytes sl x=>bN s es bytes sl x
 |.copy es d x=>match s.eval d,s.eval x with
  |some d,Z x=>match d,au s.h es x with
   |.val (.slice Y 0 0),Z _=>ret (.val (.int .i64 0))
   |.own b off k es' _,Z (new,n)=>
    let m:=min n k
    match s.h.get b with
    |some (.cells cs J)=>bif ig es es'&&ii (off+m*es) cs.length then retH (.val (.int .i64 m)) (s.h.put b (Z (.cells (putAt cs off (new.take (m*es))) J))) else Y
    |_=>Y
   |_,_=>Y
  |_,_=>Y
 |.fI x=>match s.eval x with
  |some (.val (.slice _ 0 _))=>ret (.val (.int .i64 0))
  |some (.imm _ n _)|some (.own _ _ n _ _)=>ret (.val (.int .i64 n))
  |_=>Y
 |.b7 x=>match s.eval x with
  |some (.val (.string b))=>ret (.val (.int .i64 b.size))
  |_=>Y
 |.qj x=>match s.eval x with
  |some (.val (.map Y))=>ret (.val (.int .i64 0))
  |some (.mp b)=>match s.h.get b with
   |some (.map es)=>ret (.val (.int .i64 es.length))
   |some (.hZ es)=>ret (.val (.int .i64 es.length))
   |_=>Y
  |_=>Y
 |.lenK n=>ret (.val (.int .i64 n))
 |.capS x=>match s.eval x with
  |some (.val (.slice Y 0 0))=>ret (.val (.int .i64 0))
  |some (.imm _ _ (Z c))|some (.own _ _ _ _ (Z c))=>ret (.val (.int .i64 c))
  |_=>Y
 |.minI args=>match aT s args with
  |some (.val (.int k a)::r)=>(fe U k a r).bind λm=>ret (.val (.int k m))
  |_=>Y
 |.maxI args=>match aT s args with
  |some (.val (.int k a)::r)=>(fe J k a r).bind λm=>ret (.val (.int k m))
  |_=>Y
 |.lS es z x=>match s.eval x with
  |some (.val (.slice Y 0 0))=>ret bJ
  |some (.own b off n es' _)=>bif ig n 0 then ret bJ else match s.h.get b with
   |some (.cells cs J)=>bif ig es es'&&ig z.length es&&ii (off+n*es) cs.length then retH bJ (s.h.put b (Z (.cells (putAt cs off (jr n z).flatten) J))) else Y
   |_=>Y
  |_=>Y
 |.recover=>ret (.val .nilIface)
 |.defer x args=>match s.eval x,aT s args with
  |some (.fn (.func f) a b),Z l=>match s.round with
   |none=>Z (bJ,{s with defers:=.call f (a++l++b)::s.defers})
   |some _=>Y
  |_,_=>Y
 |.fO e x n=>match s.eval x,s.eval n with
  |some (.ptr b 0),Z (.val (.int .i64 (.ofNat (n+1))))=>match s.h.get b,kM s.h b with
   |some (.cells cs _),Z (t,_)=>bif ig t e&&ii (n+1) cs.length&&ii n (2^60) then(fa (cs.take (n+1))).bind λl=>retH (.val (.string ⟨l.toArray⟩)) (s.h.put b (Z (.cells cs U))) else Y
   |_,_=>Y
  |_,_=>Y
 |.gK x=>match s.eval x with
  |some (.own b off (_+1) _ _)=>ret (.ptr b off)
  |_=>Y
 |.lT z t=>retH (.ptr s.h.next 0) ((s.h.alloc (.cells z J)).alloc (.tag s.h.next t (Z z.length)))
 |.qE t x=>match s.eval x with
  |some (.ptr b 0)=>match kM s.h b with
   |some (t',Z n)=>bif ig t t'&&liesAt E.P E.P.depth t (n/E.P.cellsOf t) 0 t 1&&ii 1 n then ret (.ptr b 0) else Y
   |_=>Y
  |_=>Y
 |.qp f x=>match s.eval x with
  |some v=>bif mo E f then ret v else match E.mkNZF with
   |some (g,e)=>bif ig f g then(match v with
    |.val (.int .i64 (.ofNat n))=>bif ii n (2^40) then retH (.own s.h.next 0 n 1 Y) ((s.h.alloc (.cells [] J)).alloc (.tag s.h.next e Y)) else Y
    |_=>Y) else Y
   |none=>Y
  |none=>Y
 |.appT e sl x=>match mT s e sl x with
  |some r=>Z r
  |none=>bN s 1 1 sl x
 |.bad _=>Y
def putDst(tm:Tr AV):Option Nat->AV->Tr AV
 |none,_=>tm
 |some d,v=>tm.put d (Z v)
def aw(s:St):Option (Nat×Bool)->Option Bool
 |none=>Z J
 |some (t,b)=>match s.tm.get t with
  |some (.val (.bool c))=>Z (c==b)
  |some (.tup [])=>Z U
  |_=>Y
def dT(E:Env)(call:Cle->List AV->AH->Option (AV×AH)):List aW->St->Option St
 | [],s=>Z s
 |o::r,s=>
  match aw s o.guard with
  |some J=>match aL E call s o.op with
   |some (v,s')=>dT E call r {s' with tm:=putDst s'.tm o.dst v,round:=s.round}
   |none=>Y
  |some U=>dT E call r {s with tm:=putDst s.tm o.dst bJ}
  |none=>Y
def bA:Operand->Option Opd
 |.tmp t=>Z (.t t)
 |.const v=>(ew v).map .c
 |.global g=>Z (.c (.val (.pointer (Z ⟨g,0,Y⟩))))
 |.func f=>Z (.c (.fn (.func f) [] []))
def dK:List Operand->Option (List Opd)
 | []=>Z []
 |x::r=>match bA x,dK r with
  |some x,Z r=>Z (x::r)
  |_,_=>Y
def iI:Operand->Bool
 |.const _=>J
 |_=>U
def bH(P:Program)(t:TypeId):Option Nat:=(P.info? t).map (·.size)
def cF(P:Program)(t:TypeId):Option (List AV):=((P.info? t).bind (·.zero)).bind λz=>bif z.cells.toList.all (·.oneCell') then Z (z.cells.toList.map .val) else Y
def plainKey:TypeDesc->Bool
 |.int _|.string|.bool=>J
 |_=>U
def qB(P:Program)(t:TypeId):Option AV:=((P.info? t).bind (·.zero)).bind ew
def gV(P:Program)(t:TypeId):Option (Option Nat):=
 match P.underlying t with
 |some (.struct _)|some (.array _ _)=>(bH P t).map Z
 |some _=>Z Y
 |none=>Y
def kK(place:Nat->Option (Nat×Nat)):List (Nat×Operand)->Option (List (Nat×Nat×Opd))
 | []=>Z []
 |(i,x)::r=>match place i,bA x,kK place r with
  |some (off,size),Z x,Z r=>Z ((off,size,x)::r)
  |_,_,_=>Y
def iZ(P:Program)(fs:List Field):Option (List (Nat×Nat)):=fs.mapM λf=>(bH P f.type).map λn=>(f.offset,n)
def mj(P:Program):Option TypeId->Bool
 |none=>J
 |some t=>match P.underlying t with
  |some (.int _)=>U
  |some _=>J
  |none=>U
def iW(P:Program)(t:TypeId):Bool:=
 match P.underlying t with
 |some (.interface _)=>U
 |some _=>J
 |none=>U
def gM:Option Operand->Option (Option Opd)
 |none=>Z Y
 |some o=>(bA o).map Z
def isBld(P:Program)(t:TypeId):Bool:=match ((P.types[t]?).map (·.desc):Option TypeDesc) with
 |some (.named n _)=>n== "strings.Builder"
 |_=>U
def noBody(P:Program)(f:Nat):Bool:=match P.funcs[f]? with
 |some fn=>fn.body.isNone
 |none=>U
def cOp(P:Program)(o:Op):Option AOp:=
 match o with
 |.move x|.assign x=>(bA x).map .mv
 |.pick c a b=>match bA c,bA a,bA b with
  |some c,Z a,Z b=>Z (.pick c a b)
  |_,_,_=>Y
 |.alloc t=>(cF P t).map λz=>bif isBld P t then .lT z t else .alloc z
 |.box _ x=>(bA x).map .box
 |.build t parts=>match P.underlying t,cF P t with
  |some (.struct fs),Z z=>match iZ P fs.toList with
   |some l=>(kK (λi=>l[i]?) parts.toList).map (.build z)
   |none=>Y
  |some (.array _ e),Z z=>match bH P e with
   |some n=>(kK (λi=>Z (i*n,n)) parts.toList).map (.build z)
   |none=>Y
  |_,_=>Y
 |.buildSlice t len parts=>match P.underlying t with
  |some (.slice e)=>match bH P e,cF P e with
   |some n,Z z=>bif ig z.length n&&ii (len*n) (2^24) then(kK (λi=>Z (i*n,n)) parts.toList).map (.buildSlice n len (jr len z).flatten) else Y
   |_,_=>Y
  |_=>Y
 |.load t a=>match gV P t,bA a with
  |some n,Z a=>Z (.load n a)
  |_,_=>Y
 |.store t a x=>match bH P t,bA a,bA x with
  |some n,Z a,Z x=>Z (.store n a x)
  |_,_,_=>Y
 |.nilCheck x=>(bA x).map .cE
 |.binOp op t x y _=>match bA x,bA y with
  |some x',Z y'=>Z (.bin op t (iI x||iI y) x' y')
  |_,_=>Y
 |.unOp op _ x=>(bA x).map (.un op)
 |.convert src dst x=>match P.underlying src,P.underlying dst,bA x with
  |some (.int _),Z (.int k),Z x=>Z (.conv k x)
  |some .string,Z .string,Z x=>Z (.mR x)
  |some (.slice e),Z .string,Z x=>match P.underlying e with
   |some (.int .u8)=>Z (.bP x)
   |_=>Y
  |some .string,Z (.slice e),Z x=>match P.underlying e with
   |some (.int .u8)=>Z (.gZ x)
   |_=>Y
  |some (.slice e),Z (.slice _),Z x=>match src==dst,P.underlying e with
   |true,Z (.int .u8)=>Z (.qx x)
   |_,_=>Y
  |some (.pointer t),Z .unsafePointer,Z x|some .unsafePointer,Z (.pointer t),Z x=>match bH P t with
   |some (_+1)=>Z (.qE t x)
   |_=>Y
  |_,_,_=>Y
 |.makeInterface t x=>bif iW P t then(bA x).map (.jK t) else Y
 |.makeFunc fn a b=>match dK a.toList,dK b.toList with
  |some a,Z b=>Z (.fy fn a b)
  |_,_=>Y
 |.makeMap _ Y=>Z .rI
 |.makeSlice t l c=>match P.underlying t with
  |some (.slice e)=>match bH P e,cF P e,(P.info? e).map (·.bytes),bA l,bA c with
   |some n,Z z,Z b,Z l,Z c=>bif ig z.length n then Z (.cP n b z l c) else Y
   |_,_,_,_,_=>Y
  |_=>Y
 |.slice t x lo hi mx=>
  match P.underlying t,bA x,gM lo,gM hi,gM mx with
  |some (.slice e),Z x,Z lo,Z hi,Z mx=>(bH P e).map λn=>.dE n x lo hi mx
  |some .string,Z x,Z lo,Z hi,Z Y=>Z (.fC x lo hi)
  |some (.array n e),Z x,Z lo,Z hi,Z Y=>(bH P e).map λs=>.nu s n x lo hi
  |some (.pointer a),Z x,Z lo,Z hi,Z Y=>match P.underlying a with
   |some (.array n e)=>(bH P e).map λs=>.nu s n x lo hi
   |_=>Y
  |_,_,_,_,_=>Y
 |.fieldAddr t x i=>match P.underlying t,bA x with
  |some (.struct fs),Z x=>match fs[i]? with
   |some f=>match bH P f.type with
    |some (_+1)=>Z (.fieldAddr f.offset x)
    |_=>Y
   |none=>Y
  |_,_=>Y
 |.field t x i=>match P.underlying t,bA x with
  |some (.struct fs),Z x=>match fs[i]? with
   |some f=>(gV P f.type).map λn=>.field f.offset n x
   |none=>Y
  |_,_=>Y
 |.indexAddr t x i=>match P.underlying t,bA x,bA i with
  |some (.slice e),Z x,Z i=>(bH P e).map λn=>.bT n x i
  |some (.array len e),Z x,Z i=>(bH P e).map λn=>.kX len n x i
  |_,_,_=>Y
 |.index t x i=>match P.underlying t,bA x,bA i with
  |some .string,Z x,Z i=>Z (.bj x i)
  |some (.array len e),Z x,Z i=>match bH P e,gV P e with
   |some s,Z n=>Z (.idxA len s n x i)
   |_,_=>Y
  |_,_,_=>Y
 |.lookup t x k ok=>match P.underlying t,bA x,bA k with
  |some (.map kt e),Z x,Z k=>match P.underlying kt,qB P e with
   |some d,Z z=>bif plainKey d then Z (.lookup d z x k ok) else Y
   |_,_=>Y
  |_,_,_=>Y
 |.mapUpdate t m k x|.insert t m k x=>match P.underlying t,bA m,bA k,bA x with
  |some (.map kt _),Z m,Z k,Z x=>match P.underlying kt with
   |some d=>bif plainKey d then Z (.jO d m k x) else Y
   |none=>Y
  |_,_,_,_=>Y
 |.range t x=>match P.underlying t,bA x with
  |some (.map _ _),Z x=>Z (.rangeMap x)
  |_,_=>Y
 |.next it U=>(bA it).map .gv
 |.entry it=>(bA it).map .lY
 |.typeAssert x _ t ok=>bif iW P t then(match bA x,qB P t with
  |some x,Z z=>Z (.kg t z ok x)
  |_,_=>Y) else Y
 |.extract x i=>(bA x).map (.extract i)
 |.call c=>match dK c.args.toList with
  |none=>Y
  |some args=>match c.callee with
   |.value (.func f)=>bif noBody P f then(match args with
    | [x]=>Z (.qp f x)
    |_=>Y) else Z (.call f args)
   |.value x=>(bA x).map λx=>.dR x args
   |.invoke x name=>(bA x).map λx=>.invoke x name args
   |.builtin b=>
    let ty (i:Nat):Option TypeDesc:=(c.argTypes[i]?).bind P.underlying
    match b,args with
    |.append,[s,x]=>match ty 0 with
     |some (.slice e)=>match bH P e,(P.info? e).map (·.bytes),cF P e with
      |some n,Z b,Z z=>bif ig z.length n&&mj P (c.argTypes[1]?) then Z (bif ig n 1&&ig b 1&&ig (P.cellsOf e) 1 then .appT e s x else .append n b s x) else Y
      |_,_,_=>Y
     |_=>Y
    |.copy,[d,s]=>match ty 0 with
     |some (.slice e)=>(bH P e).map λn=>.copy n d s
     |_=>Y
    |.len,[x]=>match ty 0 with
     |some .string=>Z (.b7 x)
     |some (.slice _)=>Z (.fI x)
     |some (.map _ _)=>Z (.qj x)
     |some (.array n _)=>Z (.lenK n)
     |some (.pointer a)=>match P.underlying a with
      |some (.array n _)=>Z (.lenK n)
      |_=>Y
     |_=>Y
    |.cap,[x]=>match ty 0 with
     |some (.slice _)=>Z (.capS x)
     |_=>Y
    |.min,l=>Z (.minI l)
    |.max,l=>Z (.maxI l)
    |.clear,[x]=>match ty 0 with
     |some (.slice e)=>match bH P e,cF P e with
      |some n,Z z=>Z (.lS n z x)
      |_,_=>Y
     |_=>Y
    |.delete,[m,k]=>match ty 0 with
     |some (.map kt _)=>match P.underlying kt with
      |some d=>bif plainKey d then Z (.kR d m k) else Y
      |none=>Y
     |_=>Y
    |.recover,[]=>Z .recover
    |.unsafeString,[p,n]=>match ty 0 with
     |some (.pointer e)=>bif ig (P.cellsOf e) 1&&ig c.argTypes.size 2 then Z (.fO e p n) else Y
     |_=>Y
    |.unsafeSliceData,[x]=>Z (.gK x)
    |_,_=>Y
 |.defer c=>match c.callee,dK c.args.toList with
  |.value x,Z args=>(bA x).map λx=>.defer x args
  |_,_=>Y
 |_=>Y
def opWord:Op->String
 |.move _=> "move" |.assign _=> "assign" |.pick .. => "pick" |.alloc _=> "alloc" |.box .. => "box" |.build .. => "build" |.buildSlice .. => "buildSlice"
 |.insert .. => "insert" |.load .. => "load" |.store .. => "store" |.ready _=> "ready" |.waits _=> "waits" |.nilCheck _=> "nilCheck"
 |.binOp .. => "binOp" |.unOp .. => "unOp" |.convert .. => "convert" |.makeInterface .. => "makeInterface"
 |.makeFunc .. => "makeFunc" |.makeMap .. => "makeMap" |.makeSlice .. => "makeSlice" |.slice .. => "slice"
 |.fieldAddr .. => "fieldAddr" |.field .. => "field" |.indexAddr .. => "indexAddr" |.index .. => "index" |.lookup .. => "lookup" |.mapUpdate .. => "mapUpdate"
 |.typeAssert .. => "typeAssert" |.extract .. => "extract"
 |.call {callee:=.builtin b,..}=> "builtin"
 |.call _=> "call" |.defer _=> "defer" |.panic _=> "panic" |_=> "other"
def qk(ops:Array Oper):Option (Nat×Bool)->Option (Option (Nat×Bool))
 |none=>Z Y
 |some (j,b)=>match (ops[j]?).bind (·.dst) with
  |some d=>Z (Z (d,b))
  |none=>Y
def dstOk(N:Nat):Option Nat->Bool
 |none=>J
 |some d=>ir d N
def kE(P:Program)(N:Nat)(ops:Array Oper)(o:Oper):aW:=
 match qk ops o.guard,cOp P o.op with
 |some g,Z op=>bif dstOk N o.dst then{dst:=o.dst,guard:=g,op:=bif shown op||fo op then op else .bad (opWord o.op)} else{dst:=Y,guard:=Y,op:=.bad "dst"}
 |_,_=>{dst:=o.dst,guard:=Y,op:=.bad (opWord o.op)}
def predsOf(ops:List Oper):List (List Nat):=
 ops.foldl (λacc o=>acc++[((o.after.toList.filter (Region.binds .any)).foldl (λl e=>e.on::(acc.getD e.on []++l)) []).eraseDups]) []
def edgeTo(pr:List (List Nat))(o:Oper)(i:Nat):Bool:=o.after.toList.any λe=>Region.binds .any e&&(ig e.on i||(pr.getD e.on []).any (ig i))
def lC(pr:List (List Nat)):List Oper->Nat->Bool
 | [],_=>J
 |o::r,j=>(o.after.toList.all λe=> !Region.binds .any e||ir e.on j)&&(pr.getD j []).all (edgeTo pr o)&&lC pr r (j+1)
def b9(l:List Nat)(k:Nat):Bool:=l.any (ig k)
def dstIn(l:List Nat):Option Nat->Bool
 |none=>U
 |some d=>b9 l d
def sameDst:Option Nat->Option Nat->Bool
 |some a,Z b=>ig a b
 |_,_=>U
def eC(a b:DOp):Bool:= !dstIn b.reads a.o.dst&& !dstIn a.reads b.o.dst&& !sameDst a.o.dst b.o.dst
def od(all:List DOp):List DOp->Bool
 | []=>J
 |b::r=>b.free.all (λi=>match all[i]? with
   |some a=>eC a b
   |none=>U)&&od all r
def opdTmps(o:Oper)(g:Option (Nat×Bool)):List Nat:=
 (o.op.operands.toList.filterMap λ|.tmp t=>Z t|_=>Y)++(match g with|some (d,_)=>[d]|none=>[])
def cDraw(P:Program)(N:Nat)(ops:Array Oper):Option (List DOp):=
 let l:=ops.toList
 let pr:=predsOf l
 let ds:=l.zipIdx.map λ(o,j)=>
  let a:=kE P N ops o
  {o:=a,reads:=opdTmps o a.guard,free:=(List.range j).filter λi=> !b9 (pr.getD j []) i:DOp}
 bif lC pr l 0&&od ds ds then Z ds else Y
def dQ(P:Program)(N:Nat):Code->aF
 |.skip=>.skip
 |.region _ ops d=>if d then(match cDraw P N ops with
   |some l=>.draw l
   |none=>.bad "draw") else .region (ops.toList.map (kE P N ops))
 |.seq a b=>.seq (dQ P N a) (dQ P N b)
 |.cond c a b=>match bA c with
  |some c=>.cond c (dQ P N a) (dQ P N b)
  |none=>.bad "cond"
 |.block id b=>.block id (dQ P N b)
 |.loop b=>.loop (dQ P N b)
 |.exit id=>.exit id
 |.ret=>.ret
 |.scope c=>.seq .skip (dQ P N c)
 |.label _=>.skip
 |.goto _=>.bad "goto"
 |.rangeFunc g ps a b=>match bA g with
  |some g=>.range g ps.toList a b N
  |none=>.bad "rangeFunc"
 |.refuse w=>.bad w
def cRes(P:Program):List ResultVar->Option (List ARes)
 | []=>Z []
 |.tmp t::r=>(cRes P r).map (.tmp t:: ·)
 |.cell a t::r=>match gV P t,cRes P r with
  |some n,Z l=>Z (.cell a n::l)
  |_,_=>Y
def cFun(P:Program)(f:Func):Option ax:=
 match f.body,cRes P f.results.toList with
 |some b,Z l=>Z {body:=dQ P f.ntmps b,res:=l}
 |_,_=>Y
def aR(P:Program)(g:Nat):Option ax:=
 match P.funcs[g]? with
 |some f=>bif f.name== "runtime.NumGoroutine" then Y else cFun P f
 |none=>Y
end Go.AM
namespace Go.AM
open Go.RowKit
abbrev bE:=Nat->Nat->Option Value
abbrev Emb:=Nat->Option (Nat×Nat×Nat)
def nof:Emb:=λ_=>Y
def OwnAt(B O R off n c:Nat)(x:Value):Prop:=x=.slice (Z ⟨B,O+off,Y⟩) n c\/(n=0/\c=0/\∃q,q<=R/\x=.slice (Z ⟨B,O+q,Y⟩) 0 0)
theorem OwnAt.pos{B O R off n c:Nat}{x:Value}(h:OwnAt B O R off n c x)(hn:0<n\/0<c):x=.slice (Z ⟨B,O+off,Y⟩) n c:=by
 rcases h with h|⟨h1,h2,_⟩<;>grind
mutual
def Rel(S:bE):Emb->AV->Value->Prop
 |_,.val v,x=>x=v/\v.oneCell'=J
 |f,.agg cs,x=>∃xs:List Value,x=.agg xs.toArray/\xs.all (·.oneCell')=J/\aZ S f cs xs
 |f,.tup cs,x=>∃xs:List Value,x=.tuple xs.toArray/\aZ S f cs xs
 |_,.imm cs n cap,x=>∃b off c,x=.slice (Z ⟨b,off,Y⟩) n c/\n<=c/\(∀k,cap=Z k->c=k)/\cD S cs b off
 |f,.own b off n es cap,x=>∃B O R c,f b=Z (B,O,R)/\OwnAt B O R off n c x/\n<=c/\(∀k,cap=Z k->c=k)/\off+c*es<=R/\(cap=Y->R<=off+c*es)
 |f,.ptr b off,x=>∃B O R,f b=Z (B,O,R)/\x=.pointer (Z ⟨B,O+off,Y⟩)
 |_,.bD cs,x=>∃b off,x=.pointer (Z ⟨b,off,Y⟩)/\cD S cs b off
 |f,.ifc t v,x=>∃y,x=.iface t y/\Rel S f v y
 |f,.fn F a b,x=>∃xs ys:List Value,x=.func F xs.toArray ys.toArray/\aZ S f a xs/\aZ S f b ys
 |f,.mp b,x=>∃B O R,f b=Z (B,O,R)/\x=.map (Z B)
 |f,.it b,x=>∃B O R,f b=Z (B,O,R)/\x=.pointer (Z ⟨B,0,Y⟩)
 |f,.yld b,x=>∃B O R,f b=Z (B,O,R)/\x=.func (.yield B) #[] #[]
def aZ(S:bE):Emb->List AV->List Value->Prop
 |_,[],xs=>xs=[]
 |f,c::cs,xs=>∃y ys,xs=y::ys/\Rel S f c y/\aZ S f cs ys
def cD(S:bE):List AV->Nat->Nat->Prop
 | [],_,_=>True
 |c::cs,b,off=>(∃y,S b off=Z y/\y.oneCell'=J/\Rel S nof c y)/\cD S cs b (off+1)
end
structure Le (S:bE) (f:Emb) (S':bE) (f':Emb):Prop where
 s:∀b off v,S b off=Z v->S' b off=Z v
 f:∀b x,f b=Z x->f' b=Z x
theorem Le.refl(S:bE)(f:Emb):Le S f S f:=⟨λ_ _ _ h=>h,λ_ _ h=>h⟩
theorem Le.trans{S S' S'':bE}{f f' f'':Emb}(h:Le S f S' f')(k:Le S' f' S'' f''):Le S f S'' f'':=
 ⟨λb o v e=>k.s _ _ _ (h.s b o v e),λb x e=>k.f _ _ (h.f b x e)⟩
mutual
theorem Rel.le{S S':bE}{f f':Emb}(h:Le S f S' f'):∀(v:AV) (x:Value),Rel S f v x->Rel S' f' v x
 |.val _,_,r=>by grind [Rel]
 |.agg cs,_,r=>by rw[Rel] at r⊢;obtain⟨xs,rfl,ho,r⟩:=r;exact⟨xs,rfl,ho,aZ.le h cs xs r⟩
 |.tup cs,_,r=>by simp[Rel] at r⊢;obtain⟨xs,rfl,r⟩:=r;exact⟨xs,rfl,aZ.le h cs xs r⟩
 |.imm cs _ _,_,r=>by simp[Rel] at r⊢;obtain⟨b,off,c,rfl,h1,h2,r⟩:=r;exact⟨b,off,c,rfl,h1,h2,cD.le h cs b off r⟩
 |.own ..,_,r=>by rw[Rel] at r⊢;obtain⟨B,O,R,c,h1,r⟩:=r;exact⟨B,O,R,c,h.f _ _ h1,r⟩
 |.ptr ..,_,r=>by rw[Rel] at r⊢;obtain⟨B,O,R,h1,r⟩:=r;exact⟨B,O,R,h.f _ _ h1,r⟩
 |.bD cs,_,r=>by simp[Rel] at r⊢;obtain⟨b,off,rfl,r⟩:=r;exact⟨b,off,rfl,cD.le h cs b off r⟩
 |.ifc _ v,_,r=>by simp[Rel] at r⊢;obtain⟨y,rfl,r⟩:=r;exact⟨y,rfl,Rel.le h v y r⟩
 |.fn _ a b,_,r=>by simp[Rel] at r⊢;obtain⟨xs,ys,rfl,r,r'⟩:=r;exact⟨xs,ys,rfl,aZ.le h a xs r,aZ.le h b ys r'⟩
 |.mp _,_,r=>by rw[Rel] at r⊢;obtain⟨B,O,R,h1,r⟩:=r;exact⟨B,O,R,h.f _ _ h1,r⟩
 |.it _,_,r=>by rw[Rel] at r⊢;obtain⟨B,O,R,h1,r⟩:=r;exact⟨B,O,R,h.f _ _ h1,r⟩
 |.yld _,_,r=>by rw[Rel] at r⊢;obtain⟨B,O,R,h1,r⟩:=r;exact⟨B,O,R,h.f _ _ h1,r⟩
theorem aZ.le{S S':bE}{f f':Emb}(h:Le S f S' f'):∀(cs:List AV) (xs:List Value),aZ S f cs xs->aZ S' f' cs xs
 | [],_,r=>by grind [aZ]
 |c::cs,_,r=>by simp[aZ] at r⊢;obtain⟨y,ys,rfl,r,r'⟩:=r;exact⟨y,ys,rfl,Rel.le h c y r,aZ.le h cs ys r'⟩
theorem cD.le{S S':bE}{f f':Emb}(h:Le S f S' f'):∀(cs:List AV) (b off:Nat),cD S cs b off->cD S' cs b off
 | [],_,_,_=>by grind [cD]
 |c::cs,b,off,r=>by simp[cD] at r⊢;obtain⟨⟨y,e,ho,r⟩,r'⟩:=r;exact⟨⟨y,h.s _ _ _ e,ho,Rel.le (f:=nof) (f':=nof) ⟨h.s,λ_ _ e=>e⟩ c y r⟩,cD.le h cs b (off+1) r'⟩
end
section lists
variable {S:bE}{f:Emb}
theorem aZ.length:∀{cs:List AV} {xs:List Value},aZ S f cs xs->cs.length=xs.length
 | [],_,r=>by grind [aZ]
 |_::_,_,r=>by simp[aZ] at r;obtain⟨y,ys,rfl,_,r⟩:=r;simp[aZ.length r]
theorem aZ.get:∀{cs:List AV} {xs:List Value} {i:Nat} {c:AV},aZ S f cs xs->cs[i]? =Z c->∃x,xs[i]? =Z x/\Rel S f c x
 | [],_,_,_,_,h=>by simp at h
 |c::cs,_,0,_,r,h=>by
  simp[aZ] at r;grind
 |c::cs,_,i+1,_,r,h=>by
  simp[aZ] at r;obtain⟨y,ys,rfl,_,r⟩:=r;obtain⟨x,hx,hr⟩:=aZ.get (i:=i) r (by simpa using h)
  exact⟨x,by simpa using hx,hr⟩
theorem aZ.append:∀{cs ds:List AV} {xs ys:List Value},aZ S f cs xs->aZ S f ds ys->aZ S f (cs++ds) (xs++ys)
 | [],_,_,_,r,r'=>by grind [aZ]
 |_::_,_,_,_,r,r'=>by
  simp[aZ] at r;obtain⟨y,ys,rfl,r,r''⟩:=r;simp only[List.cons_append,aZ];exact⟨y,_,rfl,r,aZ.append r'' r'⟩
theorem aZ.drop:∀{cs:List AV} {xs:List Value} (n:Nat),aZ S f cs xs->aZ S f (cs.drop n) (xs.drop n)
 |_,_,0,r=>r
 | [],_,n+1,r=>by grind [aZ]
 |_::_,_,n+1,r=>by
  simp[aZ] at r;obtain⟨y,ys,rfl,_,r⟩:=r;exact aZ.drop n r
theorem aZ.take:∀{cs:List AV} {xs:List Value} (n:Nat),aZ S f cs xs->aZ S f (cs.take n) (xs.take n)
 |_,_,0,_=>by rfl
 | [],_,n+1,r=>by grind [aZ]
 |_::_,_,n+1,r=>by
  simp[aZ] at r;obtain⟨y,ys,rfl,r,r'⟩:=r;simp only[List.take_succ_cons,aZ];exact⟨y,_,rfl,r,aZ.take n r'⟩
theorem aZ.li:∀(l:List Value),l.all (·.oneCell')=J->aZ S f (l.map .val) l
 | [],_=>by rfl
 |v::l,h=>by
  rw[List.all_cons,im] at h;rw[jk,aZ];exact⟨v,l,rfl,by grind [Rel],aZ.li l h.2⟩
theorem cD.drop:∀{cs:List AV} {b off:Nat} (n:Nat),cD S cs b off->cD S (cs.drop n) b (off+n)
 |_,_,_,0,r=>r
 | [],_,_,n+1,_=>by simp[cD]
 |_::cs,b,off,n+1,r=>by
  simp[cD] at r;have:=cD.drop n r.2
  grind
theorem cD.take:∀{cs:List AV} {b off:Nat} (n:Nat),cD S cs b off->cD S (cs.take n) b off
 |_,_,_,0,_=>by simp[cD]
 | [],_,_,n+1,_=>Gr
 |_::cs,b,off,n+1,r=>by
  simp[cD] at r⊢
  exact⟨r.1,cD.take n r.2⟩
theorem cD.get:∀{cs:List AV} {b off i:Nat} {c:AV},cD S cs b off->cs[i]? =Z c->∃x,S b (off+i)=Z x/\x.oneCell'=J/\Rel S nof c x
 | [],_,_,_,_,_,h=>by simp at h
 |c::cs,b,off,0,_,r,h=>by
  grind [cD]
 |c::cs,b,off,i+1,_,r,h=>by
  simp[cD] at r;obtain⟨x,hx,ho,hr⟩:=cD.get (i:=i) r.2 (by simpa using h)
  exact⟨x,by rw[<-hx];congr 1;omega,ho,hr⟩
theorem cD.jS:∀{cs:List AV} {b off:Nat},(∀(i:Nat) (c:AV),cs[i]? =Z c->∃x,S b (off+i)=Z x/\x.oneCell'=J/\Rel S nof c x)->cD S cs b off
 | [],_,_,_=>by simp[cD]
 |c::cs,b,off,h=>by
  simp[cD];refine⟨h 0 c Sp,cD.jS λi d hd=>?_⟩;obtain⟨x,hx,ho,hr⟩:=h (i+1) d (by simpa using hd)
  exact⟨x,by rw[<-hx];congr 1;omega,ho,hr⟩
theorem aZ.jS:∀{cs:List AV} {xs:List Value},cs.length=xs.length->(∀(i:Nat) (c:AV),cs[i]? =Z c->∃x,xs[i]? =Z x/\Rel S f c x)->aZ S f cs xs
 | [],[],_,_=>by rfl
 |c::cs,x::xs,hl,h=>by
  rw[aZ];obtain⟨y,hy,hr⟩:=h 0 c Sp;simp at hy;subst hy;refine⟨x,xs,rfl,hr,aZ.jS Gr λi d hd=>?_⟩;obtain⟨z,hz,hr⟩:=h (i+1) d Gr
  grind
 | [],_::_,hl,_=>Gr
 |_::_,[],hl,_=>Gr
theorem Rel.any{v:AV}{x:Value}(r:Rel S nof v x):Rel S f v x:=Rel.le ⟨λ_ _ _ h=>h,λ_ _ h=>by cases h⟩ _ _ r
theorem Rel.ew{v:Value}{a:AV}(h:AM.ew v=Z a):Rel S f a v:=by
 unfold AM.ew at h;split at h<;>grind [Rel,aZ.li,Value.oneCell']
theorem Rel.one{v:AV}{x:Value}(r:Rel S f v x)(h1:∀cs,v≠ .agg cs)(h2:∀cs,v≠ .tup cs):x.oneCell'=J:=by
 cases v with
 |agg cs=>grind
 |tup cs=>grind
 |val v=>grind [Rel]
 |imm=>simp only[Rel] at r;obtain⟨_,_,_,rfl,_⟩:=r;rfl
 |own=>
  simp only[Rel] at r;obtain⟨_,_,_,_,_,hX,_⟩:=r;rcases hX with rfl|⟨_,_,_,_,rfl⟩<;>rfl
 |ptr=>simp only[Rel] at r;obtain⟨_,_,_,_,rfl⟩:=r;rfl
 |bD=>simp only[Rel] at r;obtain⟨_,_,rfl,_⟩:=r;rfl
 |ifc=>simp only[Rel] at r;obtain⟨_,rfl,_⟩:=r;rfl
 |fn=>simp only[Rel] at r;obtain⟨_,_,rfl,_⟩:=r;rfl
 |mp=>simp only[Rel] at r;obtain⟨_,_,_,_,rfl⟩:=r;rfl
 |it=>simp only[Rel] at r;obtain⟨_,_,_,_,rfl⟩:=r;rfl
 |yld=>simp only[Rel] at r;obtain⟨_,_,_,_,rfl⟩:=r;rfl
theorem aPY{x:Value}(h:x.oneCell'=J):x.cells= #[x]:=by cases x<;>simp_all [Value.oneCell',Value.cells]
theorem Rel.cells{v:AV}{x:Value}{l:List AV}(r:Rel S f v x)(h:v.cells=Z l):aZ S f l x.cells.toList/\x.cells.toList.all (·.oneCell')=J:=by
 by_cases h1:∃cs,v=.agg cs
 ·obtain⟨cs,rfl⟩:=h1;simp[AV.cells] at h;subst h;rw[Rel] at r;obtain⟨xs,rfl,ho,r⟩:=r;grind [Value.cells]
 ·by_cases h2:∃cs,v=.tup cs
  ·obtain⟨cs,rfl⟩:=h2;simp[AV.cells] at h
  ·have ho:=r.one (λcs e=>h1 ⟨cs,e⟩) (λcs e=>h2 ⟨cs,e⟩);have hl:l=[v]:=by simp_all [AV.cells]
   subst hl;rw[aPY ho];exact⟨by simp only[aZ];grind,Gr⟩
end lists
def isCells:Obj->Bool
 |.cells .. =>J
 |_=>U
def Clean(w:World)(B:Nat):Prop:=∀arr t lo hi,w.heap[B]? =Z (.cells arr t (lo,hi))->lo=hi\/arr.size<=lo
structure fX (w w':World) (B O R:Nat):Prop where
 cell:∀i,i<R->w'.cell? ⟨B,O+i,Y⟩=w.cell? ⟨B,O+i,Y⟩
 frozen:∀i,i<R->(w.cell? ⟨B,O+i,Y⟩).isSome=J->w'.frozen? ⟨B,O+i,Y⟩=w.frozen? ⟨B,O+i,Y⟩
 clean:(∃i,i<R/\(w.cell? ⟨B,O+i,Y⟩).isSome=J)->Clean w B->Clean w' B
 obj:O=0->0<R->∀o,w.heap[B]? =Z o->isCells o=U->w'.heap[B]? =Z o
 shp:∀sh,w.shape? B=Z sh->w'.shape? B=Z sh
theorem fX.trans{w w' w'':World}{B O R:Nat}(a:fX w w' B O R)(b:fX w' w'' B O R):fX w w'' B O R:=
 ⟨λi hi=>(b.cell i hi).trans (a.cell i hi),λi hi hs=>(b.frozen i hi (by rw[a.cell i hi];exact hs)).trans (a.frozen i hi hs),λ⟨i,hi,hs⟩ c=>b.clean ⟨i,hi,by rw[a.cell i hi];exact hs⟩ (a.clean ⟨i,hi,hs⟩ c),λh0 hR o ho hc=>b.obj h0 hR o (a.obj h0 hR o ho hc) hc,λsh h=>b.shp sh (a.shp sh h)⟩
def dA(S:bE)(f:Emb):List (Value×AV)->List MapEntry->Prop
 | [],l=>l=[]
 |(k,v)::r,l=>∃e l',l=e::l'/\e.key=k/\Rel S f v e.val/\dA S f r l'
theorem dA.length{S:bE}{f:Emb}:∀{es:List (Value×AV)} {l:List MapEntry},dA S f es l->es.length=l.length
 | [],l,h=>by grind [dA]
 |(k,v)::es,l,h=>by
  simp[dA] at h;obtain⟨e,l',rfl,_,_,h⟩:=h;simp[h.length]
theorem dA.le{S S':bE}{f f':Emb}(h:Le S f S' f'):∀(es:List (Value×AV)) (l:List MapEntry),dA S f es l->dA S' f' es l
 | [],_,r=>r
 |(k,v)::es,_,r=>by simp[dA] at r⊢;obtain⟨e,l',rfl,hk,hv,r⟩:=r;exact⟨e,l',rfl,hk,hv.le h _ _,dA.le h es l' r⟩
def TmG(S:bE)(f:Emb)(tm:Tr AV)(t:Array Value):Prop:=∀i v,tm.get i=Z v->∃x,t[i]? =Z x/\Rel S f v x
theorem TmG.le{S S':bE}{f f':Emb}{tm:Tr AV}{t:Array Value}(h:TmG S f tm t)(l:Le S f S' f'):TmG S' f' tm t:=
 λi v e=>let ⟨x,hx,hr⟩:=h i v e;⟨x,hx,hr.le l _ _⟩
def exC:Ex->Option Code
 |.normal=>Y
 |.exit id=>Z (.exit id)
 |.ret=>Z .ret
def LStR:LSt->Go.Loop->Prop
 |.ready,r=>r.state=.ready/\r.pending=Y
 |.busy,r=>r.state=.busy
 |.done e,r=>r.state=.done/\r.pending=exC e/\isNorm e=U
 |.gone,r=>r.state=.exhausted
where isNorm:Ex->Bool
 |.normal=>J
 |_=>U
def Born(arr:Array MapEntry)(clock:Nat):Prop:=clock=arr.size/\∀(i:Nat) (e:MapEntry),arr[i]? =Z e->e.born=i
def bR(S:bE)(f:Emb):Blk->Nat->Nat->Nat->World->Prop
 |.cells cs rw,B,O,R,w=>cs.length<=R/\(∀(i:Nat) (c:AV),cs[i]? =Z c->∃y,w.cell? ⟨B,O+i,Y⟩=Z y/\y.oneCell'=J/\Rel S f c y)/\
   (∀i,i<R->(w.cell? ⟨B,O+i,Y⟩).isSome=J)/\(rw=J->∀i,i<R->w.frozen? ⟨B,O+i,Y⟩=U/\S B (O+i)=Y)/\
   (rw=J->0<R->Clean w B)
 |.map es,B,O,R,w=>O=0/\R=1/\∃arr clock,w.heap[B]? =Z (.map arr clock)/\dA S f es arr.toList/\Born arr clock
 |.hZ es,B,O,R,w=>O=0/\R=1/\∃arr clock,w.heap[B]? =Z (.map arr clock)/\dA S f es arr.toList
 |.iter s pos,B,O,R,w=>O=0/\R=1/\w.heap[B]? =Z (.stringIter s pos)
 |.ft Y,B,O,R,w=>O=0/\R=1/\∃a b c,w.heap[B]? =Z (.mapIter Y a b c)
 |.ft (Z m),B,O,R,w=>O=0/\R=1/\∃M O' R' since stepped,f m=Z (M,O',R')/\w.heap[B]? =Z (.mapIter (Z M) since #[] stepped)
 |.kZ m on,B,O,R,w=>O=0/\R=1/\∃M O' R',f m=Z (M,O',R')/\w.heap[B]? =Z (.mapIter (Z M) 1 (if on then #[0] else #[]) 1)
 |.nU m n seen,B,O,R,w=>O=0/\R=1/\∃M O' R',f m=Z (M,O',R')/\w.heap[B]? =Z (.mapIter (Z M) n seen.toArray n)
 |.loop tm ps asg body M st,B,O,R,w=>O=0/\R=1/\∃r:Go.Loop,w.heap[B]? =Z (.loop r)/\r.params.toList=ps/\r.assign=asg/\r.body=body/\M<=r.tmps.size/\TmG S f tm r.tmps/\LStR st r
 |.dfr on,B,O,R,w=>O=0/\R=1/\w.heap[B]? =Z (.deferred (if on then Z [] else Y))
 |.tag b t n,B,O,R,w=>O=0/\R=0/\∃R1,f b=Z (B,0,R1)/\w.shape? B=Z (t,R1)/\∀k,n=Z k->R1=k
structure WR (G:Nat->Option (List AV)) (base:Nat) (S:bE) (f:Emb) (h:AH) (w:World):Prop where
 gw:∀b off v,S b off=Z v->w.cell? ⟨b,off,Y⟩=Z v
 jV:∀g cs,G g=Z cs->cD S cs g 0
 blk:∀b k,h.get b=Z k->∃B O R,f b=Z (B,O,R)/\base<=B/\B<w.heap.size/\bR S f k B O R w
 apart:∀b b' B O R B' O' R',b≠b'->(h.get b).isSome=J->(h.get b').isSome=J->f b=Z (B,O,R)->f b'=Z (B',O',R')->B≠B'\/O+R<=O'\/O'+R'<=O
 dom:∀b x,f b=Z x->b<h.next
 le:base<=w.heap.size
theorem bR.same{S:bE}{f:Emb}{k:Blk}{B O R:Nat}{w w':World}(h:bR S f k B O R w)(s:fX w w' B O R):bR S f k B O R w':=by
 cases k with
 |cells cs rw=>
  simp[bR] at h⊢
  obtain⟨h1,h2,h3,h4,h5⟩:=h;refine⟨h1,λi c hc=>?_,λi hi=>by rw[s.cell i hi];grind,λhr i hi=>by rw[s.frozen i hi (h3 i hi)];grind,λhr h0=>s.clean ⟨0,h0,h3 0 h0⟩ (h5 hr h0)⟩
  rw[s.cell i Gr]
  grind
 |map es=>
  simp[bR] at h⊢
  exact U68
 |hZ es=>
  rw[bR] at h⊢
  exact U68
 |iter st pos=>
  simp[bR] at h⊢
  exact⟨h.1,h.2.1,s.obj h.1 Gr _ h.2.2 rfl⟩
 |ft m=>
  cases m with
  |none=>
   simp[bR] at h⊢
   obtain⟨h1,h2,a,b,c,h3⟩:=h;exact⟨h1,h2,a,b,c,s.obj h1 om _ h3 rfl⟩
  |some m=>
   rw[bR] at h⊢
   obtain⟨h1,h2,M,O',R',since,st,h3,h4⟩:=h;exact⟨h1,h2,M,O',R',since,st,h3,s.obj h1 om _ h4 rfl⟩
 |kZ m on=>
  exact U69
 |nU m n seen=>
  exact U69
 |loop tm ps asg body M st=>
  simp[bR] at h⊢
  obtain⟨h1,h2,r,h3,h4⟩:=h;exact⟨h1,h2,r,s.obj h1 om _ h3 rfl,h4⟩
 |dfr on=>
  simp[bR] at h⊢
  exact⟨h.1,h.2.1,s.obj h.1 Gr _ h.2.2 rfl⟩
 |tag b t n=>
  simp[bR] at h⊢
  obtain⟨h1,h2,R1,h3,h4,h5⟩:=h;exact⟨h1,h2,R1,h3,s.shp _ h4,h5⟩
theorem bR.le{S S':bE}{f f':Emb}{k:Blk}{B O R:Nat}{w:World}(h:Le S f S' f')(r:bR S f k B O R w)
  (hs:∀i,i<R->S B (O+i)=Y->S' B (O+i)=Y):bR S' f' k B O R w:=by
 cases k with
 |cells cs rw=>
  simp only[bR] at r⊢
  obtain⟨h1,h2,h3,h4,h5⟩:=r;refine⟨h1,λi c hc=>?_,h3,λhr i hi=>⟨(h4 hr i hi).1,hs i hi (h4 hr i hi).2⟩,h5⟩;obtain⟨y,hy,ho,hr⟩:=h2 i c hc;exact⟨y,hy,ho,hr.le h _ _⟩
 |map es=>
  grind [bR,dA.le]
 |hZ es=>
  grind [bR,dA.le]
 |iter st pos=>exact r
 |ft m=>
  exact U70
 |kZ m on=>
  exact U71
 |nU m n seen=>
  exact U71
 |loop tm ps asg body M st=>
  exact U72
 |dfr on=>exact r
 |tag b t n=>
  exact U73
theorem Tr.get_putF{α:Type}:∀(n:Nat) (t:Tr α) (k j:Nat) (x:Option α),k<n->(Tr.lV n t k x).get j=if j=k then x else t.get j:=by
 intro n
 induction n with
 |zero=>grind
 |succ n ih=>
  intro t k j x h;cases t with
  |nil=>
   unfold lV;cases hk:ig k 0 with
   |true=>
    simp_all [Tr.get]
   |false=>
    have hk0:k≠0:=jz hk;simp only[cond_false];cases hm:ig (k%2) 1 with
    |true=>
     have hm1:k%2=1:=Sa;simp only[cond_true,Tr.get];rw[ih _ _ _ _ om];rw[Tr.get];exact U74
    |false=>
     have hm1:k%2≠1:=jz hm;simp only[cond_false,Tr.get];rw[ih _ _ _ _ om];rw[Tr.get];exact U75
  |nd l v r=>
   unfold lV;cases hk:ig k 0 with
   |true=>
    have hk0:k=0:=Sa;subst hk0;simp only[cond_true,Tr.get]
    grind [iu]
   |false=>
    have hk0:k≠0:=jz hk;simp only[cond_false];cases hm:ig (k%2) 1 with
    |true=>
     have hm1:k%2=1:=Sa;simp only[cond_true,Tr.get];rw[ih _ _ _ _ om];exact U74
    |false=>
     have hm1:k%2≠1:=jz hm;simp only[cond_false,Tr.get];rw[ih _ _ _ _ om];exact U75
theorem Tr.aO{α:Type}(t:Tr α)(k j:Nat)(x:Option α):(t.put k x).get j=if j=k then x else t.get j:=Tr.get_putF (k+1) t k j x om
theorem AH.aO(h:AH)(b j:Nat)(x:Option Blk):(h.put b x).get j=if j=b then x else h.get j:=Tr.aO _ _ _ _
theorem AH.aS(h:AH)(j:Nat)(x:Blk):(h.alloc x).get j=if j=h.next then Z x else h.get j:=Tr.aO _ _ _ _
@[simp] theorem AH.iK (h : AH) (b : Nat) (x : Option Blk) : (h.put b x).next = h.next := rfl
@[simp] theorem AH.next_alloc (h : AH) (x : Blk) : (h.alloc x).next = h.next + 1 := rfl
end Go.AM
namespace Go.AM
open Go.RowKit
def upd(f:Emb)(b:Nat)(x:Nat×Nat×Nat):Emb:=λj=>if j=b then Z x else f j
theorem pk(f:Emb)(b:Nat)(x:Nat×Nat×Nat):upd f b x b=Z x:=by simp[upd]
theorem s8{f:Emb}{b j:Nat}{x:Nat×Nat×Nat}(h:j≠b):upd f b x j=f j:=by simp[upd,h]
theorem Le.upd{S:bE}{f:Emb}{b:Nat}(x:Nat×Nat×Nat)(h:f b=Y):Le S f S (upd f b x):=
 ⟨λ_ _ _ e=>e,λj y e=>by grind [s8]⟩
def qo(f:Emb)(h:AH)(B O R:Nat):Prop:=
 ∀b B' O' R',(h.get b).isSome=J->f b=Z (B',O',R')->B≠B'\/O+R<=O'\/O'+R'<=O
structure dp (G:Nat->Option (List AV)) (base:Nat) (S:bE) (f:Emb) (h:AH) (w:World) (S':bE) (f':Emb) (h':AH) (w':World):Prop where
 le:Le S f S' f'
 wr:WR G base S' f' h' w'
 below:Below base w w'
 keep:∀B O R,B<w.heap.size->qo f h B O R->fX w w' B O R/\∀i,i<R->S' B (O+i)=S B (O+i)
 live:∀b B O R,(h'.get b).isSome=J->f' b=Z (B,O,R)->
  w.heap.size<=B\/∃b0 O0 R0,(h.get b0).isSome=J/\f b0=Z (B,O0,R0)/\O0<=O/\O+R<=O0+R0
 fresh:∀b x,f' b=Z x->b<h.next->f b=Z x
 nx:h.next<=h'.next
variable {G:Nat->Option (List AV)}{base:Nat}{S:bE}{f:Emb}{h:AH}{w:World}
theorem Eo(w:World)(arr:Array Value)(t:TypeId):Clean (w.alloc (.cells arr t)) w.heap.size:=λarr' t' lo hi h=>by
 have:(w.alloc (.cells arr t)).heap[w.heap.size]? =Z (.cells arr t):=by
  show(w.heap.push (.cells arr t))[w.heap.size]? =_;simp
 grind
theorem My{w:World}{B:Nat}(c:Clean w B)(a:Addr)(v:Value):Clean (w.setCell a v) B:=λarr t lo hi h=>by
 simp[World.setCell,Array.getElem?_modify] at h;split at h
 ·cases hq:w.heap[B]? with
  |none=>grind
  |some o=>
   rw[hq] at h;cases o with
   |cells arr0 t0 fz=>
    simp at h;obtain⟨h1,h2,h3⟩:=h;subst h3;have:=c arr0 t0 lo hi hq
    grind
   |_=>cases h
 ·exact c arr t lo hi h
theorem uH{B:Nat}(B':Nat):∀(vs:List Value) (o:Nat) (w:World),Clean w B->Clean (w.setCells B' o vs) B
 | [],_,_,c=>c
 |v::vs,o,w,c=>uH B' vs _ _ (My c _ v)
theorem lx{w w':World}{B O R:Nat}(e:w'.heap[B]? =w.heap[B]?):fX w w' B O R:=
 ⟨λ_ _=>by grind [World.cell?],λ_ _ _=>by grind [World.frozen?],λ_ c=>by grind [Clean],λ_ _ o ho _=>by grind,λsh h=>by grind [World.shape?]⟩
theorem sc{f:Emb}{h:AH}{n:Nat}:∀b B O R,(h.get b).isSome=J->f b=Z (B,O,R)->
  n<=B\/∃b0 O0 R0,(h.get b0).isSome=J/\f b0=Z (B,O0,R0)/\O0<=O/\O+R<=O0+R0:=
 λb _ O R hb hf=>.inr ⟨b,O,R,hb,hf,ij _,ij _⟩
theorem WR.goes(r:WR G base S f h w):dp G base S f h w S f h w:=⟨.refl _ _,r,.refl _ _,λ_ _ _ _ _=>⟨lx rfl,λ_ _=>rfl⟩,sc,λ_ _ h _=>h,ij _⟩
theorem dp.trans{S' S'':bE}{f' f'':Emb}{h' h'':AH}{w' w'':World}(a:dp G base S f h w S' f' h' w')(b:dp G base S' f' h' w' S'' f'' h'' w''):
  dp G base S f h w S'' f'' h'' w'':=by
 refine⟨a.le.trans b.le,b.wr,a.below.trans b.below,λB O R hB hap=>?_,λc B O R hc hf=>?_,λc x hx hlt=>a.fresh c x (b.fresh c x hx (jw hlt a.nx)) hlt,Nat.le_trans a.nx b.nx⟩
 ·exact U9
 ·exact U10
theorem WR.fresh(r:WR G base S f h w):f h.next=Y:=by
 cases e:f h.next with
 |none=>rfl
 |some x=>have:=r.dom _ _ e;omega
theorem bGN{a:Addr}{v:Value}(h:w.cell? a=Z v):a.block<w.heap.size:=by
 grind [World.cell?]
theorem WR.pD(r:WR G base S f h w){b off:Nat}{v:Value}(hs:S b off=Z v):b<w.heap.size:=bGN (r.gw b off v hs)
theorem WR.nw(r:WR G base S f h w){b:Nat}(off:Nat)(hb:w.heap.size<=b):S b off=Y:=by
 cases e:S b off with
 |none=>rfl
 |some v=>have:=r.pD e;omega
theorem uy(w:World)(o:Obj){k:Nat}(hk:k<w.heap.size):(w.alloc o).heap[k]? =w.heap[k]? :=Below.heap_alloc w o k hk
theorem Lt(w:World)(a:Addr)(u:Value)(B:Nat):(w.setCell a u).shape? B=w.shape? B:=by
 simp[World.shape?,World.setCell,Array.getElem?_modify]
 grind
theorem uD(B:Nat):∀(vs:List Value) (b o:Nat) (w:World),(w.setCells b o vs).shape? B=w.shape? B
 | [],_,_,_=>rfl
 |v::vs,b,o,w=>by rw[World.setCells,uD B vs,Lt]
theorem WR.alloc(r:WR G base S f h w){o:Obj}{k:Blk}{R:Nat}(hk:∀f',Le S f S f'->bR S f' k w.heap.size 0 R (w.alloc o)):
  dp G base S f h w S (upd f h.next (w.heap.size,0,R)) (h.alloc k) (w.alloc o):=by
 have hle:Le S f S (upd f h.next (w.heap.size,0,R)):=Le.upd _ r.fresh;refine⟨hle,⟨?_,?_,?_,?_,?_,?_⟩,(Below.refl _ _).alloc r.le o,λB _ _ hB _=>⟨lx (uy w o hB),λ_ _=>rfl⟩,?_,λb x hf hlt=>by grind [s8],Sp⟩
 ·intro b off v hs;have hlt:=r.pD hs;rw[<-r.gw b off v hs]
  grind [World.cell?,uy]
 ·intro g cs hg;exact(r.jV g cs hg).le hle _ _ _
 ·intro b k' hb;rw[AH.aS] at hb;split at hb
  ·rename_i e;subst e;simp at hb;subst hb;exact⟨_,_,_,pk _ _ _,r.le,Sp,hk _ hle⟩
  ·rename_i e;obtain⟨B,O,R',hf,hB,hs,hr⟩:=r.blk b k' hb;refine⟨B,O,R',by grind [s8],hB,by simp;omega,?_⟩
   exact(hr.le hle (λ_ _ e=>e)).same (lx (uy w o hs))
 ·intro b b' B O R1 B' O' R2 hne h1 h2 hf1 hf2;rw[AH.aS] at h1 h2
  by_cases e1:b=h.next
  ·subst e1;rw[pk] at hf1;simp at hf1;obtain⟨rfl,rfl,rfl⟩:=hf1;have e2:b'≠h.next:=Gr;rw[s8 e2] at hf2;rw[if_neg e2] at h2;obtain⟨k',hk'⟩:=Ai.1 h2;obtain⟨B3,O3,R3,hf3,_,hlt,hr3⟩:=r.blk b' k' hk'
   grind
  ·rw[s8 e1] at hf1;rw[if_neg e1] at h1
   by_cases e2:b'=h.next
   ·subst e2;rw[pk] at hf2;simp at hf2;obtain⟨rfl,rfl,rfl⟩:=hf2;obtain⟨k',hk'⟩:=Ai.1 h1;obtain⟨B3,O3,R3,hf3,_,hlt,hr3⟩:=r.blk b k' hk'
    grind
   ·rw[s8 e2] at hf2;rw[if_neg e2] at h2;exact r.apart b b' B O R1 B' O' R2 hne h1 h2 hf1 hf2
 ·intro b x hf
  by_cases e:b=h.next
  ·simp_all
  ·rw[s8 e] at hf;have:=r.dom b x hf;simp;omega
 ·have:=r.le;simp;omega
 ·intro b B O R' hb hf;rw[AH.aS] at hb
  by_cases e:b=h.next
  ·grind [pk]
  ·rw[s8 e] at hf
   grind
theorem WR.fL(r:WR G base S f h w){cs:List AV}{arr:Array Value}(t:TypeId)(hr:aZ S f cs (arr.toList.take cs.length))(ho:arr.toList.all (·.oneCell')=J):
  dp G base S f h w S (upd f h.next (w.heap.size,0,arr.size)) (h.alloc (.cells cs J)) (w.alloc (.cells arr t)):=by
 refine r.alloc λf' hle=>?_
 have hlen:=hr.length;simp only[bR];refine⟨?_,λi c hc=>?_,λi hi=>?_,λ_ i hi=>⟨?_,r.nw _ (ij _)⟩,λ_ _=>Eo w arr t⟩
 ·grind
 ·obtain⟨x,hx,hrel⟩:=hr.get hc;have hx':arr[i]? =Z x:=by
   grind
  refine⟨x,by simp[*],?_,hrel.le hle _ _⟩
  grind
 ·simp[*]
 simp
theorem WR.drew(r:WR G base S f h w):WR G base S f h w.drew:=
 ⟨r.gw,r.jV,λb k hb=>let ⟨B,O,R,h1,h2,h3,h4⟩:=r.blk b k hb;⟨B,O,R,h1,h2,h3,h4.same (lx rfl)⟩,r.apart,r.dom,r.le⟩
theorem WR.setCells(r:WR G base S f h w){b:Nat}{cs cs':List AV}{B O R off:Nat}(hb:h.get b=Z (.cells cs J))(hf:f b=Z (B,O,R))(vs:List Value)
  (hR:off+vs.length<=R) (hlen:cs'.length<=R)
  (hcs:∀(i:Nat) (c:AV),cs'[i]? =Z c->(i<off\/off+vs.length<=i)->cs[i]? =Z c)
  (hvs:∀(i:Nat) (c:AV),cs'[off+i]? =Z c->i<vs.length->∃y,vs[i]? =Z y/\y.oneCell'=J/\Rel S f c y):
  dp G base S f h w S f (h.put b (Z (.cells cs' J))) (w.setCells B (O+off) vs):=by
 obtain⟨B0,O0,R0,hf0,hB,hsz,hr⟩:=r.blk b _ hb;rw[hf] at hf0;simp at hf0;obtain⟨rfl,rfl,rfl⟩:=hf0;have hr0:=hr;simp only[bR] at hr;obtain⟨h1,h2,h3,h4,h5⟩:=hr;have hin:∀j,j<vs.length->(w.cell? ⟨B,O+off+j,Y⟩).isSome=J:=λj hj=>by
  rw[jq];exact h3 (off+j) om
 have hbl:Below base w (w.setCells B (O+off) vs):=by
  have:∀(vs:List Value) (o:Nat) (w:World),Below base w (w.setCells B o vs):=by
   intro vs
   induction vs with
   |nil=>intro o w;exact .refl _ _
   |cons v vs ih=>intro o w;exact((Below.refl _ _).setCell (p:=⟨B,o,Y⟩) hB v).trans (ih _ _)
  grind
 have hheap:∀j,j≠B->(w.setCells B (O+off) vs).heap[j]? =w.heap[j]? :=by
  have:∀(vs:List Value) (o:Nat) (w:World) (j:Nat),j≠B->(w.setCells B o vs).heap[j]? =w.heap[j]? :=by
   intro vs
   induction vs<;>grind [World.setCells,Below.heap_setCell]
  grind
 refine⟨.refl _ _,⟨?_,r.jV,?_,?_,?_,?_⟩,hbl,?_,?_,λ_ _ h _=>h,ij _⟩
 ·intro b' off' v hs;rw[World.cell?_setCells_out]
  ·exact r.gw _ _ _ hs
  ·intro e _;simp only at e⊢
   subst e;rcases Nat.lt_or_ge off' (O+off) with hlt|hge
   ·grind
   ·rcases Nat.lt_or_ge off' (O+off+vs.length) with hlt'|hge'
    ·have:=(h4 trivial (off'-O) om).2
     grind
    grind
 ·intro b' k hk;rw[AH.aO] at hk;split at hk
  ·rename_i e;subst e;simp at hk;subst hk;refine⟨B,O,R,hf,hB,jw hsz hbl.size,?_⟩;simp only[bR];refine⟨hlen,λi c hc=>?_,λi hi=>?_,λ_ i hi=>⟨?_,(h4 trivial i hi).2⟩,λ_ h0=>uH _ _ _ _ (h5 trivial h0)⟩
   ·by_cases hi:off<=i/\i<off+vs.length
    ·obtain⟨y,hy,ho,hrel⟩:=hvs (i-off) c Gr om
     grind [World.cell?_setCells_in]
    grind [World.cell?_setCells_out]
   ·by_cases hi':off<=i/\i<off+vs.length
    ·have:=World.cell?_setCells_in B vs (O+off) w hin (i-off) om
     grind
    grind [World.cell?_setCells_out]
   simp_all [World.frozen?_setCells]
  ·rename_i e;obtain⟨B',O',R',hf',hB',hsz',hr'⟩:=r.blk b' k hk;refine⟨B',O',R',hf',hB',jw hsz' hbl.size,hr'.same ⟨λi hi=>?_,λi hi _=>World.frozen?_setCells _ _ _ _ _,λ_ c=>uH _ _ _ _ c,λ_ _ o ho hc=>?_,λsh h=>by grind [uD]⟩⟩
   ·rw[World.cell?_setCells_out];intro eB _;simp only at eB⊢
    subst eB;have:=r.apart b' b B' O' R' B' O R e Gr Gr hf' hf;omega
   ·exact U11
 ·exact U12
 ·exact r.dom
 ·exact Nat.le_trans r.le hbl.size
 ·intro B' O' R' hB' hap;have hap:=hap b B O R Gr hf;refine⟨⟨λi hi=>?_,λi hi _=>World.frozen?_setCells _ _ _ _ _,λ_ c=>uH _ _ _ _ c,λh0 hR' o ho hc=>?_,λsh h=>by grind [uD]⟩,λ_ _=>rfl⟩
  ·grind [World.cell?_setCells_out]
  ·exact U11
 ·intro b' B' O' R' g hg;refine sc b' B' O' R' ?_ hg
  grind [AH.aO]
theorem WR.kill(r:WR G base S f h w)(b:Nat):WR G base S f (h.put b Y) w:=by
 refine⟨r.gw,r.jV,λb' k hk=>?_,λb1 b2 B1 O1 R1 B2 O2 R2 hne g1 g2 hf1 hf2=>?_,r.dom,r.le⟩
 ·rw[AH.aO] at hk;split at hk
  ·cases hk
  ·exact r.blk b' k hk
 ·refine r.apart b1 b2 B1 O1 R1 B2 O2 R2 hne ?_ ?_ hf1 hf2<;>grind [AH.aO]
end Go.AM
namespace Go.AM
open Go.RowKit
structure TmR (S:bE) (f:Emb) (tm:Tr AV) (t:Array Value) (N:Nat):Prop where
 size:t.size=N
 get:∀i v,tm.get i=Z v->∃x,t[i]? =Z x/\Rel S f v x
theorem TmR.le{S S':bE}{f f':Emb}{tm:Tr AV}{t:Array Value}{N:Nat}(h:TmR S f tm t N)(l:Le S f S' f'):TmR S' f' tm t N:=
 ⟨h.size,λi v e=>let ⟨x,hx,hr⟩:=h.get i v e;⟨x,hx,hr.le l _ _⟩⟩
variable {G:Nat->Option (List AV)}{base:Nat}{S:bE}{f:Emb}{h:AH}{w:World}{P:Program}{E:Env}{s:St}{a:Act}{N:Nat}
theorem be{x:Operand}{y:Opd}{v:AV}(ht:TmR S f s.tm a.tmps N)(hc:bA x=Z y)(he:s.eval y=Z v):Rel S f v (a.eval x):=by
 cases x with
 |tmp t=>
  simp[bA] at hc;subst hc;obtain⟨z,hz,hr⟩:=ht.get t v he
  simp_all [Act.eval]
 |const c=>
  simp[bA] at hc;obtain⟨u,hu,rfl⟩:=hc;simp[St.eval] at he;subst he;exact Rel.ew hu
 |global g=>
  grind [bA,St.eval,Rel,Act.eval,Value.oneCell']
 |func g=>
  simp[bA] at hc;subst hc;simp[St.eval] at he;subst he;rw[Rel,Act.eval];exact⟨[],[],rfl,by rfl,by rfl⟩
theorem sj{xs:List Operand}{ys:List Opd}{vs:List AV}(ht:TmR S f s.tm a.tmps N)(hc:dK xs=Z ys)(he:aT s ys=Z vs):aZ S f vs (xs.map a.eval):=by
 induction xs generalizing ys vs with
 |nil=>
  grind [dK,aT,aZ]
 |cons x xs ih=>
  unfold dK at hc;cases h1:bA x with
  |none=>grind
  |some y=>
   cases h2:dK xs with
   |none=>grind
   |some ys'=>
    simp[h1,h2] at hc;subst hc;unfold aT at he;cases h3:s.eval y with
    |none=>grind
    |some v=>
     cases h4:aT s ys' with
     |none=>grind
     |some vs'=>
      simp[h3,h4] at he;subst he;rw[jk,aZ];exact⟨_,_,rfl,be ht h1 h3,ih h2 h4⟩
theorem wK{α:Type}{sem:Sem α}{r:α}(h:bK P sem=Z r)(w:World):sem.run P w=.ok r w:=by
 induction sem<;>grind [bK,Sem.run]
theorem uS:∀{cs:List AV} {l xs:List Value},fP cs=Z l->aZ S f cs xs->xs=l
 | [],l,xs,h,r=>by grind [fP,aZ]
 |c::cs,l,xs,h,r=>by
  simp[aZ] at r;obtain⟨y,ys,rfl,r1,r2⟩:=r;cases c with
  |val v=>
   simp[fP] at h;obtain⟨l',hl,rfl⟩:=h;rw[uS hl r2]
   grind [Rel]
  |_=>simp[fP] at h
theorem aAC{v:AV}{x y:Value}(h:flat v=Z y)(r:Rel S f v x):x=y:=by
 cases v with
 |val v=>grind [flat,Rel]
 |agg cs=>
  simp[flat] at h;obtain⟨l,hl,rfl⟩:=h;simp[Rel] at r;obtain⟨xs,rfl,_,r⟩:=r;rw[uS hl r]
 |tup cs=>
  simp[flat] at h;obtain⟨l,hl,rfl⟩:=h;rw[Rel] at r;obtain⟨xs,rfl,r⟩:=r;rw[uS hl r]
 |ifc t v=>
  cases v with
  |val v=>simp[flat] at h;subst h;simp[Rel] at r;grind
  |agg cs=>
   simp[flat] at h;obtain⟨l,hl,rfl⟩:=h;simp[Rel] at r;obtain⟨_,rfl,xs,rfl,_,r⟩:=r;rw[uS hl r]
  |_=>simp[flat] at h
 |_=>simp[flat] at h
theorem rW{t:TypeId}{n:Nat}(hs:bH P t=Z n)(w:World):(sizeOf t).run P w=.ok n w:=by
 unfold bH at hs;cases hi:P.info? t<;>simp_all [sizeOf,typeInfo]
theorem uJ{t:TypeId}{z:List AV}(hz:cF P t=Z z):∃v:Value,(∀w,(zeroValue t).run P w=.ok v w)/\v.cells.toList.all (·.oneCell')=J/\z=v.cells.toList.map .val:=by
 unfold cF at hz;cases hi:P.info? t with
 |none=>grind
 |some i=>
  cases hq:i.zero with
  |none=>grind
  |some v=>
   simp only[Option.bind_some, *] at hz;cases ho:v.cells.toList.all (·.oneCell')<;>simp_all [zeroValue,typeInfo]
theorem yC{t:TypeId}{n:Option Nat}(hn:gV P t=Z n)(w:World):
  (isAgg t).run P w=.ok n.isSome w/\(∀k,n=Z k->(sizeOf t).run P w=.ok k w):=by
 unfold gV at hn;cases hu:P.underlying t with
 |none=>grind
 |some d=>
  have hur:=run_underlying hu w;cases d<;>simp only[hu] at hn<;>(try (simp only[sI] at hn;subst hn;exact⟨by simp[isAgg,hur],λk hk=>by cases hk⟩))
  all_goals
   simp at hn;obtain⟨m,hm,rfl⟩:=hn
   simp_all [isAgg,rW]
theorem add_zero(b off i:Nat):(⟨b,off,Y⟩:Addr).add i=⟨b,off+i,Y⟩:=by grind [Addr.add]
structure oi (S:bE) (f:Emb) (w:World) (x:Value) (cs:List AV) (b off:Nat):Prop where
 eq:x=.pointer (Z ⟨b,off,Y⟩)
 cell:∀(i:Nat) (c:AV),cs[i]? =Z c->∃y,w.cell? ⟨b,off+i,Y⟩=Z y/\y.oneCell'=J/\Rel S f c y
theorem aBU(r:WR G base S f h w){v:AV}{x:Value}{cs:List AV}(hr:Rel S f v x)(hc:bI G h v=Z cs):∃b off,oi S f w x cs b off:=by
 unfold bI at hc;split at hc
 ·rename_i b off;rw[Rel] at hr;obtain⟨B,O,R,hf,rfl⟩:=hr;cases hb:h.get b with
  |none=>grind
  |some k=>
   cases k with
   |cells cs' rw=>
    simp[hb] at hc;cases hl:ii off cs'.length<;>simp[hl] at hc
    subst hc;obtain⟨B',O',R',hf',_,_,hb'⟩:=r.blk b _ hb;rw[hf] at hf';simp at hf';obtain⟨rfl,rfl,rfl⟩:=hf';simp[bR] at hb';refine⟨B,O+off,rfl,λi c hi=>?_⟩
    grind
   |_=>simp[hb] at hc
 ·simp at hc;subst hc;simp[Rel] at hr;obtain⟨b,off,rfl,hr⟩:=hr;refine⟨b,off,rfl,λi c hi=>?_⟩;obtain⟨y,hy,ho,hrel⟩:=hr.get hi;exact⟨y,r.gw _ _ _ hy,ho,hrel.any⟩
 ·rename_i g off;cases hg:G g with
  |none=>grind
  |some cs'=>
   simp[hg] at hc;cases hl:ii off cs'.length<;>simp[hl] at hc
   subst hc;simp[Rel] at hr;refine⟨g,off,hr.1,λi c hi=>?_⟩;have:=(r.jV g cs' hg).drop off;obtain⟨y,hy,ho,hrel⟩:=this.get hi;rw[Nat.zero_add] at hy;exact⟨y,r.gw _ _ _ hy,ho,hrel.any⟩
 grind
theorem Nk{x:Value}{cs:List AV}{b off:Nat}(hc:oi S f w x cs b off){n:Option Nat}{v:AV}(hv:takeN n cs=Z v):
  match n with
  |none=>∃y,(load ⟨b,off,Y⟩).run P w=.ok y w/\Rel S f v y
  |some k=>∃ys:Array Value,(loadCells ⟨b,off,Y⟩ k).run P w=.ok ys w/\Rel S f v (.agg ys):=by
 cases n with
 |none=>
  simp[takeN] at hv;obtain⟨y,hy,_,hr⟩:=hc.cell 0 v (by rw[<-hv,List.head?_eq_getElem?])
  simp_all
 |some k=>
  simp[takeN] at hv;cases hl:ii k cs.length<;>simp[hl] at hv
  subst hv;have hk:k<=cs.length:=Sa
  let g:Nat->Value:=λi=>(w.cell? ⟨b,off+i,Y⟩).getD undef
  have hg:∀j,j<k->w.cell? ((⟨b,off,Y⟩:Addr).add j)=Z (g j):=λj hj=>by
   obtain⟨y,hy,_⟩:=hc.cell j cs[j] (ji om)
   grind [add_zero]
  have hrun:=run_loadCells (P:=P) (w:=w) ⟨b,off,Y⟩ k g hg;refine⟨_,hrun,?_⟩;rw[Rel];refine⟨(List.range k).map g,by rfl,?_,?_⟩
  ·simp only[j3,List.mem_map,List.mem_range];rintro y ⟨j,hj,rfl⟩;obtain⟨z,hz,ho,_⟩:=hc.cell j cs[j] (ji om)
   grind
  ·refine aZ.jS Gr λi c hi=>?_
   have hi':cs[i]? =Z c/\i<k:=by
    grind
   obtain⟨z,hz,_,hrel⟩:=hc.cell i c hi'.1
   grind
theorem Dy{t:TypeId}{n:Option Nat}{x:Value}{cs:List AV}{b off:Nat}{v:AV}(hn:gV P t=Z n)(hc:oi S f w x cs b off)(hv:takeN n cs=Z v):
  ∃y,(loadVar t ⟨b,off,Y⟩).run P w=.ok y w/\Rel S f v y:=by
 obtain⟨h1,h2⟩:=yC hn w;have ht:=Nk (P:=P) hc hv;cases n with
 |none=>
  grind [loadVar,Sem.run_bind,Result.andThen_ok]
 |some k=>
  obtain⟨ys,hy,hr⟩:=ht;exact⟨.agg ys,by rw[loadVar,Sem.run_bind,h1,Result.andThen_ok];simp_all,hr⟩
end Go.AM
namespace Go.AM
open Go.RowKit
variable {G:Nat->Option (List AV)}{base:Nat}{S:bE}{f:Emb}{h:AH}{w:World}{P:Program}{E:Env}{s:St}{a:Act}{N:Nat}
def da(P:Program)(sem:Sem Next)(w:World)(K:Value->World->Prop):Prop:=
 match sem.run P w with
 |.ok (.value x) w'=>K x w'
 |.ok .skip w'=>K undef w'
 |.ok (.enter g args) w'=>CallsIn Fence.wide 0 P g args w' λe w''=>∃x,e=.returned x/\K x w''
 |.ok (.round l g tmps asg body) w'=>RoundIn Fence.wide 0 P l g tmps asg body w' λe w''=>∃x,e=.returned x/\K x w''
 |_=>False
def Left(E:Env)(base:Nat)(S:bE)(f:Emb)(h:AH)(w:World)(v:AV)(h':AH)(x:Value)(w':World):Prop:=
 ∃S' f',dp E.aY base S f h w S' f' h' w'/\Rel S' f' v x
theorem Gj{sem:Sem Next}{K:Value->World->Prop}{x:Value}{w':World}(e:sem.run P w=.ok (.value x) w')(k:K x w'):da P sem w K:=by
 grind [da]
theorem aTE{sem:Sem Next}{K:Value->World->Prop}{w':World}(e:sem.run P w=.ok .skip w')(k:K undef w'):da P sem w K:=by
 grind [da]
theorem s6(r:WR E.aY base S f s.h w){v:AV}{x:Value}(hr:Rel S f v x):Left E base S f s.h w v s.h x w:=⟨S,f,r.goes,hr⟩
theorem sx:Rel S f bJ undef:=by simp[bJ,Rel];exact⟨[],rfl,by rfl⟩
theorem Yu{sem:Sem Value}{K:Value->World->Prop}{x:Value}{w':World}(e:sem.run P w=.ok x w')(k:K x w'):
  da P (do pure (Next.value (<-sem))) w K:=Gj (x:=x) (w':=w') (by simp[e]) k
theorem bRA{sem:Sem Unit}{K:Value->World->Prop}{w':World}(e:sem.run P w=.ok () w')(k:K undef w'):
  da P (do sem;pure Next.skip) w K:=aTE (w':=w') (by simp[e]) k
section ops
variable {call:Cle->List AV->AH->Option (AV×AH)}{o:Oper}{v:AV}{s':St}
theorem bHU{x:Operand}{y:Opd}(ht:TmR S f s.tm a.tmps N)(hc:bA x=Z y)(hrun:aL E call s (.mv y)=Z (v,s')):
  s'=s/\Rel S f v (a.eval x):=by
 simp[aL,j7] at hrun;obtain⟨u,hu,rfl,rfl⟩:=hrun;exact⟨rfl,be ht hc hu⟩
theorem bCV{c x y:Operand}{c' x' y':Opd}(ht:TmR S f s.tm a.tmps N)(h1:bA c=Z c')(h2:bA x=Z x')(h3:bA y=Z y')
  (hrun:aL E call s (.pick c' x' y')=Z (v,s')):s'=s/\∃z,(asBool (a.eval c)>>=λb=>pure (if b then a.eval x else a.eval y)).run P w=.ok z w/\Rel S f v z:=by
 simp[aL] at hrun;cases hb:s.eval c' with
 |none=>grind
 |some u=>
  have hr:=be ht h1 hb;simp[hb] at hrun;split at hrun
  ·rename_i e;simp at e;subst e;simp[j7] at hrun;obtain⟨u,hu,rfl,rfl⟩:=hrun;simp[Rel] at hr;exact⟨rfl,a.eval x,by simp_all [asBool],be ht h2 hu⟩
  ·rename_i e;simp at e;subst e;simp[j7] at hrun;obtain⟨u,hu,rfl,rfl⟩:=hrun;simp[Rel] at hr;exact⟨rfl,a.eval y,by simp_all [asBool],be ht h3 hu⟩
  grind
theorem xT{z:Value}(hz:z.cells.toList.all (·.oneCell')=J):aZ S f (z.cells.toList.map .val) z.cells.toList:=aZ.li _ hz
theorem aTO{t:TypeId}{z:List AV}(r:WR E.aY base S f s.h w)(hz:cF P t=Z z)(hrun:aL E call s (.alloc z)=Z (v,s')):
  s'.tm=s.tm/\s'.defers=s.defers/\∃x w',(Instr.alloc t J (.tuple #[])).run P w=.ok x w'/\Left E base S f s.h w v s'.h x w':=by
 simp[aL] at hrun;obtain⟨rfl,rfl⟩:=hrun;obtain⟨zv,hzr,ho,rfl⟩:=uJ hz;have g:=r.fL (cs:=zv.cells.toList.map .val) (arr:=zv.cells) t (by grind [xT]) ho
 refine⟨rfl,rfl,.pointer (Z ⟨w.heap.size,0,Y⟩),w.alloc (.cells zv.cells t),by simp[Instr.alloc,hzr,newVar,newRow],_,_,g,?_⟩
 rw[Rel];exact U155
theorem bKT{t:TypeId}{x:Operand}{y:Opd}(ht:TmR S f s.tm a.tmps N)(r:WR E.aY base S f s.h w)(hc:bA x=Z y)(hrun:aL E call s (.box y)=Z (v,s')):
  s'.tm=s.tm/\s'.defers=s.defers/\∃z w',(Instr.box t (a.eval x)).run P w=.ok z w'/\Left E base S f s.h w v s'.h z w':=by
 simp[aL] at hrun;cases hl:(s.eval y).bind AV.cells with
 |none=>grind
 |some l=>
  simp[hl] at hrun;obtain⟨rfl,rfl⟩:=hrun;simp[j7] at hl;obtain⟨u,hu,hl⟩:=hl;obtain⟨h1,h2⟩:=(be ht hc hu).cells hl;have hlen:=h1.length;have g:=r.fL (cs:=l) (arr:=(a.eval x).cells) t Gr h2;refine⟨rfl,rfl,.pointer (Z ⟨w.heap.size,0,Y⟩),w.alloc (.cells (a.eval x).cells t),by rfl,_,_,g,?_⟩
  rw[Rel];exact U155
theorem aHW{t:TypeId}{n:Option Nat}{x:Operand}{y:Opd}(ht:TmR S f s.tm a.tmps N)(r:WR E.aY base S f s.h w)(hn:gV P t=Z n)(hc:bA x=Z y)
  (hrun:aL E call s (.load n y)=Z (v,s')):s'=s/\∃z,(Instr.loadAt t (a.eval x)).run P w=.ok z w/\Rel S f v z:=by
 simp[aL] at hrun;cases hu:s.eval y with
 |none=>grind
 |some u=>
  simp[hu,j7] at hrun;obtain⟨v',⟨cs,hcs,hv⟩,rfl,rfl⟩:=hrun;obtain⟨b,off,hca⟩:=aBU r (be ht hc hu) hcs;obtain⟨z,hz,hr⟩:=Dy (P:=P) hn hca hv;exact⟨rfl,z,by simp[Instr.loadAt,hca.eq,Instr.sureAddr,hz],hr⟩
theorem Nu{cs l:List AV}{off:Nat}(h:off+l.length<=cs.length)(i:Nat):(putAt cs off l)[i]? =if i<off then cs[i]? else if i<off+l.length then l[i-off]? else cs[i]? :=by
 unfold putAt
 grind
theorem yu{cs l:List AV}{off:Nat}(h:off+l.length<=cs.length):(putAt cs off l).length=cs.length:=by
 grind [putAt]
theorem WR.putCells(r:WR G base S f h w){b:Nat}{cs l:List AV}{B O R off:Nat}{vs:List Value}(hb:h.get b=Z (.cells cs J))(hf:f b=Z (B,O,R))
  (hl:aZ S f l vs) (ho:vs.all (·.oneCell')=J) (hR:off+l.length<=cs.length):
  dp G base S f h w S f (h.put b (Z (.cells (putAt cs off l) J))) (w.setCells B (O+off) vs):=by
 have hlen:=hl.length;have hcs:cs.length<=R:=by
  exact U76
 refine r.setCells hb hf vs om (by grind [yu]) (λi c hc hi=>?_) (λi c hc hi=>?_)
 ·rw[Nu hR] at hc
  grind
 ·rw[Nu hR,if_neg om,if_pos om,show off+i-off=i by omega] at hc
  obtain⟨y,hy,hrel⟩:=hl.get hc
  grind
theorem WR.run_store(r:WR G base S f h w){b:Nat}{cs:List AV}{B O R off:Nat}{vs:List Value}(hb:h.get b=Z (.cells cs J))(hf:f b=Z (B,O,R))
  (ho:vs.all (·.oneCell')=J) (hR:off+vs.length<=R):(storeCells ⟨B,O+off,Y⟩ vs).run P w=.ok () (w.setCells B (O+off) vs):=by
 obtain⟨B0,O0,R0,hf0,_,_,hr⟩:=r.blk b _ hb;rw[hf] at hf0;simp at hf0;obtain⟨rfl,rfl,rfl⟩:=hf0;simp only[bR] at hr;have:=run_storeCells_cells (P:=P) B (O+off) vs 0 w (λj hj=>by rw[Ao,jq];exact hr.2.2.1 _ om)
  (λj hj=>by rw[Ao,jq];exact(hr.2.2.2.1 trivial _ om).1) (λv hv=>j3.1 ho v hv)
 grind
theorem aTF{t:TypeId}{n:Nat}{p x:Operand}{p' x':Opd}(ht:TmR S f s.tm a.tmps N)(r:WR E.aY base S f s.h w)(hn:bH P t=Z n)(hp:bA p=Z p')(hx:bA x=Z x')
  (hrun:aL E call s (.store n p' x')=Z (v,s')):
  s'.tm=s.tm/\s'.defers=s.defers/\∃w',(Instr.storeAt t (a.eval p) (a.eval x)).run P w=.ok () w'/\Left E base S f s.h w v s'.h undef w':=by
 simp[aL] at hrun;cases h1:s.eval p' with
 |none=>grind
 |some u=>
  cases h2:(s.eval x').bind AV.cells with
  |none=>grind
  |some l=>
   rw[h1,h2] at hrun;cases u with
   |ptr b off=>
    simp only at hrun;cases hb:s.h.get b with
    |none=>grind
    |some k=>
     cases k with
     |cells cs rw'=>
      cases rw' with
      |false=>grind
      |true=>
       simp[hb] at hrun;cases hk:(ig l.length n&&ii (off+n) cs.length) with
       |false=>grind
       |true=>
        simp[hk] at hrun;obtain⟨rfl,rfl⟩:=hrun;rw[im] at hk;have hk1:=iu hk.1;have hk2:=j6 hk.2;have hr:=be ht hp h1;rw[Rel] at hr;obtain⟨B,O,R,hf,hpe⟩:=hr;simp[j7] at h2;obtain⟨u,hu,hl⟩:=h2;obtain⟨hl1,hl2⟩:=(be ht hx hu).cells hl;have hlen:=hl1.length;have hcs:cs.length<=R:=by
         exact U76
        have hst:=r.run_store (P:=P) (off:=off) hb hf hl2 om;have g:=r.putCells (off:=off) hb hf hl1 hl2 om;refine⟨rfl,rfl,_,?_,S,f,g,sx⟩
        simp_all [Instr.storeAt,Instr.sureAddr,storeVar,rW]
     |_=>simp[hb] at hrun
   |_=>simp at hrun
end ops
end Go.AM
namespace Go.AM
open Go.RowKit
variable {G:Nat->Option (List AV)}{base:Nat}{S:bE}{f:Emb}{h:AH}{w:World}{P:Program}{E:Env}{s:St}{a:Act}{N:Nat}
section ops
variable {call:Cle->List AV->AH->Option (AV×AH)}{o:Oper}{v:AV}{s':St}
theorem Ol:∀(l:List Value) (cs:Array Value) (off i:Nat),off+i+l.length<=cs.size->
  ((l.zipIdx i).foldl (λcs (c,j)=>cs.setIfInBounds (off+j) c) cs).toList=cs.toList.take (off+i)++l++cs.toList.drop (off+i+l.length)
 | [],cs,off,i,h=>Sp
 |x::l,cs,off,i,h=>by
  simp at h;simp only[List.zipIdx_cons,List.foldl_cons];rw[Ol l _ off (i+1) Gr]
  grind [List.take_add_one,List.take_set_of_le,List.drop_set_of_lt]
theorem zP:∀{parts:List (Nat×Operand)} {parts':List (Nat×Nat×Opd)} {place:Nat->Option (Nat×Nat)} {z z':List AV} {cells:Array Value},
  TmR S f s.tm a.tmps N->kK place parts=Z parts'->fill s z parts'=Z z'->aZ S f z cells.toList->cells.toList.all (·.oneCell')=J->
  ∃cells',Instr.fill place cells (parts.map λp=>(p.1,a.eval p.2))=Z cells'/\aZ S f z' cells'.toList/\cells'.toList.all (·.oneCell')=J
 | [],parts',place,z,z',cells,_,hp,hf,hr,ho=>by
  simp[kK] at hp;subst hp;simp[fill] at hf;subst hf;exact⟨cells,rfl,hr,ho⟩
 |(i,x)::parts,parts',place,z,z',cells,ht,hp,hf,hr,ho=>by
  unfold kK at hp;cases h1:place i with
  |none=>grind
  |some os=>
   obtain⟨off,size⟩:=os;cases h2:bA x with
   |none=>grind
   |some y=>
    cases h3:kK place parts with
    |none=>grind
    |some r=>
     simp[h1,h2,h3] at hp;subst hp;unfold fill at hf;cases h4:s.eval y with
     |none=>grind
     |some u=>
      cases h5:u.cells with
      |none=>grind
      |some l=>
       simp[*] at hf;cases hk:(ig l.length size&&ii (off+size) z.length) with
       |false=>grind
       |true=>
        simp[hk] at hf;simp only[im] at hk;have hk1:=iu hk.1;have hk2:=j6 hk.2;obtain⟨hl1,hl2⟩:=(be ht h2 h4).cells h5;have hlen:=hl1.length;have hzl:=hr.length;simp at hlen hzl;have hcells:=Ol (a.eval x).cells.toList cells off 0 Gr;simp only[Ao] at hcells
        let cells2:=(a.eval x).cells.zipIdx.foldl (λcs (c,j)=>cs.setIfInBounds (off+j) c) cells
        have hc2:cells2.toList=cells.toList.take off++(a.eval x).cells.toList++cells.toList.drop (off+(a.eval x).cells.toList.length):=by
         rw[<-hcells];simp only[cells2];rw[<-Array.foldl_toList];simp
        have hr2:aZ S f (putAt z off l) cells2.toList:=by
         rw[hc2];unfold putAt;have:l.length=(a.eval x).cells.toList.length:=Gr;rw[this];exact((hr.take off).append hl1).append (hr.drop _)
        have ho2:cells2.toList.all (·.oneCell')=J:=by
         grind
        obtain⟨cells',hc',hr',ho'⟩:=zP (cells:=cells2) ht h3 hf hr2 ho2;refine⟨cells',?_,hr',ho'⟩;simp only[jk,Instr.fill,h1]
        grind
theorem El:∀{parts:List (Nat×Nat×Opd)} {z z':List AV},fill s z parts=Z z'->z'.length=z.length
 | [],z,z',h=>by grind [fill]
 |(off,size,x)::r,z,z',h=>by
  unfold fill at h;cases h1:s.eval x with
  |none=>grind
  |some v=>
   cases h2:v.cells with
   |none=>grind
   |some l=>
    simp[*] at h;cases hk:(ig l.length size&&ii (off+size) z.length) with
    |false=>grind
    |true=>
     simp[hk] at h;simp only[im] at hk;have hk1:=iu hk.1;have hk2:=j6 hk.2;rw[El h,yu om]
theorem Tj{fs:List Field}{l:List (Nat×Nat)}(hf:iZ P fs=Z l)(w:World):
  (fs.mapM (m:=Sem) λfd=>do pure (fd.offset,<-sizeOf fd.type)).run P w=.ok l w:=by
 induction fs generalizing l with
 |nil=>simp_all [iZ]
 |cons fd fs ih=>
  unfold iZ at hf;rw[List.mapM_cons] at hf;cases h1:bH P fd.type with
  |none=>grind
  |some n=>
   cases h2:(fs.mapM λfd=>(bH P fd.type).map λn=>(fd.offset,n)) with
   |none=>grind
   |some l'=>
    simp_all [iZ,rW]
theorem aTN{t:TypeId}{parts:Array (Nat×Operand)}{op:AOp}(ht:TmR S f s.tm a.tmps N)(hc:cOp P (.build t parts)=Z op)(hrun:aL E call s op=Z (v,s')):
  s'=s/\∃x,(Instr.build t (parts.map λ(i,x)=>(i,a.eval x))).run P w=.ok x w/\Rel S f v x:=by
 simp[cOp] at hc;cases hu:P.underlying t with
 |none=>grind
 |some d=>
  cases hz:cF P t with
  |none=>grind
  |some z=>
   obtain⟨zv,hzr,ho,rfl⟩:=uJ hz;rw[hu,hz] at hc;have hur:=run_underlying hu w;cases d<;>simp only[] at hc<;>try (cases hc;done)
   case struct fs=>
    cases hl:iZ P fs.toList with
    |none=>grind
    |some l=>
     simp[hl] at hc;obtain⟨parts',hp,rfl⟩:=hc;simp[aL,j7] at hrun;obtain⟨cs,hcs,rfl,rfl⟩:=hrun;obtain⟨cells',hc',hr',ho'⟩:=zP (cells:=zv.cells) ht hp hcs (xT ho) ho;refine⟨rfl,.agg cells',?_,?_⟩
     ·have hm:(fs.mapM (m:=Sem) λfd=>do pure (fd.offset,<-sizeOf fd.type)).run P w=.ok l.toArray w:=by
       rw[Array.mapM_eq_mapM_toList];rw[Sem.run_map,Tj hl w,Result.andThen_ok]
      simp_all [Instr.build]
     grind [Rel]
   case array n e=>
    cases hs:bH P e with
    |none=>grind
    |some n=>
     simp[hs] at hc;obtain⟨parts',hp,rfl⟩:=hc;simp[aL,j7] at hrun;obtain⟨cs,hcs,rfl,rfl⟩:=hrun;obtain⟨cells',hc',hr',ho'⟩:=zP (cells:=zv.cells) ht hp hcs (xT ho) ho;refine⟨rfl,.agg cells',?_,?_⟩
     ·simp_all [Instr.build,rW]
     grind [Rel]
theorem Ei{α:Type}(z:List α):∀(m i:Nat),((jr m z).flatten)[i]? =if i<m*z.length then z[i%z.length]? else Y
 |0,i=>Sp
 |m+1,i=>by
  simp[List.replicate_succ]
  by_cases h:i<z.length
  ·rw[List.getElem?_append_left h,if_pos Gr,Nat.mod_eq_of_lt h]
  ·rw[List.getElem?_append_right om,Ei z m (i-z.length)];rw[Nat.succ_mul]
   by_cases h2:i<m*z.length+z.length
   ·rw[if_pos om,if_pos h2]
    grind [Nat.mod_eq_sub_mod]
   grind
theorem Js{α:Type}(z:List α)(m:Nat):((jr m z).flatten).length=m*z.length:=by
 simp
theorem xR{zero:Array Value}(ho:zero.toList.all (·.oneCell')=J)(m n:Nat)(hn:zero.size=n):
  aZ S f ((jr m (zero.toList.map AV.val)).flatten) ((Ad (m*n)).map (zero[· %zero.size]!)).toList/\
  ((Ad (m*n)).map (zero[· %zero.size]!)).toList.all (·.oneCell')=J:=by
 subst hn;have key:∀i,i<m*zero.size->zero[i%zero.size]? =Z (zero[i%zero.size]!):=by grind [Nat.mod_lt]
 constructor
 ·refine aZ.jS Sp λi c hc=>?_
  rw[Ei] at hc;rw[List.length_map,Array.length_toList] at hc;split at hc
  ·rename_i hi;have hk:=key i hi;refine⟨zero[i%zero.size]!,Gr,?_⟩;simp[hk] at hc;subst hc;simp[Rel]
   grind
  grind
 grind
theorem Me{t:TypeId}{len:Nat}{parts:Array (Nat×Operand)}{op:AOp}(ht:TmR S f s.tm a.tmps N)(r:WR E.aY base S f s.h w)(hc:cOp P (.buildSlice t len parts)=Z op)
  (hrun:aL E call s op=Z (v,s')):
  s'.tm=s.tm/\s'.defers=s.defers/\∃x w',(Instr.buildSlice t len (parts.map λ(i,x)=>(i,a.eval x))).run P w=.ok x w'/\Left E base S f s.h w v s'.h x w':=by
 rw[cOp] at hc;cases hu:P.underlying t with
 |none=>grind
 |some d=>
  have hur:=run_underlying hu w;cases d<;>simp only[hu] at hc<;>try (cases hc;done)
  case slice e=>
   cases hs:bH P e with
   |none=>grind
   |some n=>
    cases hz:cF P e with
    |none=>grind
    |some z=>
     obtain⟨zv,hzr,ho,hze⟩:=uJ hz;simp only[hs,hz] at hc;cases hsz:(ig z.length n&&ii (len*n) (2^24)) with
     |false=>grind
     |true=>
      rw[hsz] at hc;simp at hc;simp only[im] at hsz;have hn:=iu hsz.1;have hmost:=j6 hsz.2;obtain⟨parts',hp,rfl⟩:=hc;simp[aL,j7] at hrun;obtain⟨cs,hcs,rfl,rfl⟩:=hrun;have hzn:zv.cells.size=n:=Gr;obtain⟨hz1,hz2⟩:=xR (S:=S) (f:=f) ho len n hzn;rw[hze] at hcs;obtain⟨cells',hc',hr',ho'⟩:=zP ht hp hcs hz1 hz2;have hlen:=hr'.length;have hsize:cells'.size=len*n:=by
       grind [El,Js]
      have g:=r.fL (cs:=cs) (arr:=cells') e Gr ho';refine⟨rfl,rfl,.slice (Z ⟨w.heap.size,0,Y⟩) len len,w.alloc (.cells cells' e),?_,_,_,g,?_⟩
      ·simp only[Instr.buildSlice,Sem.run_bind,hur,Result.andThen_ok,rW hs];rw[if_neg om];have e1:(parts.map λ(i,x)=>(i,a.eval x)).toList=parts.toList.map λp=>(p.1,a.eval p.2):=Sp
       by_cases h0:len*n=0
       ·have e2:((Ad (len*n)).map (λi=>(#[]:Array Value)[i%(#[]:Array Value).size]!))=(Ad (len*n)).map (λi=>zv.cells[i%zv.cells.size]!):=by grind
        simp only[Sem.run_bind,Sem.run_pure,Result.andThen_ok,if_pos h0,e1];rw[e2,hc'];rfl
       simp_all [newRow]
      ·rw[Rel];refine⟨_,_,_,len,pk _ _ _,.inl rfl,ij _,Sp,om⟩
end ops
end Go.AM
namespace Go.AM
open Go.RowKit
variable {G:Nat->Option (List AV)}{base:Nat}{S:bE}{f:Emb}{h:AH}{w:World}{P:Program}{E:Env}{s:St}{a:Act}{N:Nat}
section ops
variable {call:Cle->List AV->AH->Option (AV×AH)}{o:Oper}{v:AV}{s':St}
theorem aHE{op:BinOp}{t:TypeId}{k:IntKind}{x y:Int}{z:Value}(h:fR op k x y=Z z):(binOp op t (.int k x) (.int k y)).run P w=.ok z w/\z.oneCell'=J:=by
 cases op<;>simp only[fR] at h<;>(try (cases h;done))<;>(try (simp only[sI] at h;subst h;exact⟨by simp[binOp,Op.intArith,Op.intCmp],rfl⟩))
 ·exact U13
 ·exact U13
theorem Oi{op:BinOp}{t:TypeId}{x y:Operand}{k k':IntKind}{m n:Int}:(eqGuard op t x y (.int k m) (.int k' n)).run P w=.ok () w:=by
 simp[eqGuard]
theorem uM:∀(x y:List UInt8),dZ x y=(x==y)
 | [],[]=>rfl
 | [],_::_=>rfl
 |_::_,[]=>rfl
 |a::x,b::y=>by
  simp[dZ,uM x y]
  congr 1
  rw[B8];simp[UInt8.toNat_inj]
theorem zq:∀(x y:List UInt8),eQ x y=Op.bytesLess x y
 |_,[]=>by simp[eQ,Op.bytesLess]
 | [],_::_=>rfl
 |a::x,b::y=>by
  simp[eQ,Op.bytesLess,zq x y]
  congr 1
  ·rw[B8,j8,decide_eq_true_eq,UInt8.lt_iff_toNat_lt]
  ·congr 1
   rw[B8];simp[UInt8.toNat_inj]
theorem Wg(x y:ByteArray):(⟨(x.data.toList++y.data.toList).toArray⟩:ByteArray)=x++y:=by
 rfl
theorem aHD{op:BinOp}{t:TypeId}{x y:ByteArray}{z:Value}(h:m7 op x y=Z z):(binOp op t (.string x) (.string y)).run P w=.ok z w/\z.oneCell'=J:=by
 have e1:=uM x.data.toList y.data.toList;have e2:=zq x.data.toList y.data.toList;cases op<;>simp only[m7] at h<;>(try (cases h;done))<;>(try (simp only[sI] at h;subst h;exact⟨by simp[binOp,Op.stringOp,ByteArray.toList_eq,e1,e2],rfl⟩))
 cases hk:ii (x.size+y.size) (2^60) with
 |false=>grind
 |true=>
  simp[hk] at h;subst h;have:=j6 hk;refine⟨?_,rfl⟩;rw[Wg];rw[binOp,Op.stringOp];rw[if_neg]
  ·rfl
  grind [IntKind.max,IntKind.bits]
theorem aPC{op:BinOp}{t:TypeId}{x y:Operand}{k k':ByteArray}:(eqGuard op t x y (.string k) (.string k')).run P w=.ok () w:=by
 simp[eqGuard]
theorem aTT{op:BinOp}{t:TypeId}{d:TypeDesc}{x y:AV}{x' y':Value}{p q:Operand}(hu:P.underlying t=Z d)(hn:nilT d x y=J)(hx:Rel S f x x')(hy:Rel S f y y'):
  (eqGuard op t p q x' y').run P w=.ok () w/\(binOp .eql t x' y').run P w=.ok (.bool U) w/\(binOp .neq t x' y').run P w=.ok (.bool J) w:=by
 have hur:=run_underlying hu w;have eqn:∀x' y':Value,(Op.equal t x' y').run P w=.ok U w->(binOp .eql t x' y'=do pure (.bool (<-Op.equal t x' y')))->(binOp .neq t x' y'=do pure (.bool (!(<-Op.equal t x' y'))))->
   (binOp .eql t x' y').run P w=.ok (.bool U) w/\(binOp .neq t x' y').run P w=.ok (.bool J) w:=by
  simp_all
 unfold nilT at hn;split at hn
 ·exact U14
 ·simp[Rel] at hx hy;obtain⟨_,_,_,_,rfl⟩:=hy;obtain⟨rfl,_⟩:=hx;exact⟨by cases op<;>rfl,eqn _ _ (by change (Op.equalIn (9999+1) t _ _).run P w=_;unfold Op.equalIn;simp_all) rfl rfl⟩
 ·simp[Rel] at hx hy;obtain⟨_,_,rfl,_⟩:=hx;obtain⟨rfl,_⟩:=hy;exact⟨by cases op<;>rfl,eqn _ _ (by change (Op.equalIn (9999+1) t _ _).run P w=_;unfold Op.equalIn;simp_all) rfl rfl⟩
 ·simp[Rel] at hx hy;obtain⟨_,_,_,rfl,_⟩:=hx;obtain⟨rfl,_⟩:=hy;exact⟨by cases op<;>rfl,eqn _ _ (by change (Op.equalIn (9999+1) t _ _).run P w=_;unfold Op.equalIn;simp[*]) rfl rfl⟩
 ·simp[Rel] at hx hy;obtain⟨_,_,_,_,_,hX,_⟩:=hx;obtain⟨rfl,_⟩:=hy;rcases hX with rfl|⟨_,_,_,_,rfl⟩
  ·exact⟨by cases op<;>rfl,eqn _ _ (by change (Op.equalIn (9999+1) t _ _).run P w=_;unfold Op.equalIn;simp[*]) rfl rfl⟩
  ·exact⟨by cases op<;>rfl,eqn _ _ (by change (Op.equalIn (9999+1) t _ _).run P w=_;unfold Op.equalIn;simp[*]) rfl rfl⟩
 ·simp[Rel] at hx hy;obtain⟨_,_,rfl,_⟩:=hx;obtain⟨rfl,_⟩:=hy;exact⟨by cases op<;>rfl,eqn _ _ (by change (Op.equalIn (9999+1) t _ _).run P w=_;unfold Op.equalIn;simp[*]) rfl rfl⟩
 ·simp[Rel] at hx hy;obtain⟨_,rfl,_⟩:=hx;obtain⟨rfl,_⟩:=hy;exact⟨by cases op<;>rfl,eqn _ _ (by change (Op.equalIn (9999+1) t _ _).run P w=_;unfold Op.equalIn;simp_all) rfl rfl⟩
 ·exact U14
 grind
theorem aET(op:BinOp)(t:TypeId)(x y:Operand)(A B:Value):
  eqGuard op t (bif (iI x||iI y) then .const (.tuple #[]) else .tmp 0) (.tmp 0) A B=eqGuard op t x y A B:=by
 cases x<;>cases y<;>rfl
theorem bKU{op:BinOp}{t:TypeId}{x y:Operand}{x' y':Opd}(ht:TmR S f s.tm a.tmps N)(hx:bA x=Z x')(hy:bA y=Z y')
  (hrun:aL E call s (.bin op t (iI x||iI y) x' y')=Z (v,s')) (hP:E.P=P):
  s'=s/\∃z,(do eqGuard op t x y (a.eval x) (a.eval y);binOp op t (a.eval x) (a.eval y)).run P w=.ok z w/\Rel S f v z:=by
 subst hP;simp[aL] at hrun;cases h1:s.eval x' with
 |none=>grind
 |some u=>
  cases h2:s.eval y' with
  |none=>grind
  |some u'=>
   simp[j7, *] at hrun;obtain⟨v',hv,rfl,rfl⟩:=hrun;refine⟨rfl,?_⟩;have r1:=be ht hx h1;have r2:=be ht hy h2;generalize a.eval x=X at r1⊢
   generalize a.eval y=aB at r2⊢
   unfold dM at hv;split at hv
   ·rename_i k m k' m';simp[Rel] at r1 r2;obtain⟨rfl,_⟩:=r1;obtain⟨rfl,_⟩:=r2;split at hv
    ·rename_i z hz;cases hk:(k==k') with
     |false=>grind
     |true=>
      simp[hk] at hv;subst hv;have:k=k':=Gr;subst this;obtain⟨e,ho⟩:=aHE (P:=E.P) (w:=w) (t:=t) hz
      simp_all [Oi,Rel]
    ·simp[j7] at hv;obtain⟨z,hz,hfl⟩:=hv
     simp_all [Oi,wK,Rel.ew]
   ·simp[Rel] at r1 r2;obtain⟨rfl,_⟩:=r1;obtain⟨rfl,_⟩:=r2;simp at hv;obtain⟨z,hz,rfl⟩:=hv;obtain⟨e,ho⟩:=aHD (P:=E.P) (w:=w) (t:=t) hz
    simp_all [aPC,Rel]
   ·split at hv
    ·rename_i A B hA hB;rw[aAC hA r1,aAC hB r2];simp[j7] at hv;obtain⟨z,hz,hfl⟩:=hv
     simp_all [wK,aET,Rel.ew]
    ·split at hv
     ·cases hv
     ·rename_i d hu;cases hn:nilT d u u' with
      |true=>
       simp[hn] at hv;obtain⟨g1,g2,g3⟩:=aTT (op:=op) (p:=x) (q:=y) (w:=w) hu hn r1 r2;cases op<;>simp only[] at hv<;>(try (cases hv;done))
       ·simp at hv;subst hv
        simp_all [Rel,Value.oneCell']
       ·simp at hv;subst hv
        simp_all [Rel,Value.oneCell']
      |false=>
       simp[hn] at hv;split at hv
       ·rename_i e b off b' off' _ _ _;split at hv
        ·rename_i n hsz;cases hb:ig b b' with
         |false=>grind
         |true=>
          have hbb:=iu hb;subst hbb;simp[hb] at hv;rw[Rel] at r1 r2;obtain⟨B,O,R,hf,rfl⟩:=r1;obtain⟨B2,O2,R2,hf2,rfl⟩:=r2;rw[hf] at hf2;simp at hf2;obtain⟨rfl,rfl,rfl⟩:=hf2;have hur:=run_underlying hu w;have hsr:(sizeOf e).run E.P w=.ok (n+1) w:=by grind [rW,bH]
          have he:(Op.equal t (.pointer (Z ⟨B,O+off,Y⟩)) (.pointer (Z ⟨B,O+off',Y⟩))).run E.P w=.ok (ig off off') w:=by
           change (Op.equalIn (9999+1) t _ _).run E.P w=_;unfold Op.equalIn;rw[Sem.run_bind,hur];change Sem.run E.P (sizeOf e>>=_) w=_;rw[Sem.run_bind,hsr];simp only[Result.andThen_ok,sameAddr];simp
           grind [iu,jz]
          cases op<;>simp only[] at hv<;>(try (cases hv;done))
          ·simp at hv;subst hv;refine⟨.bool (ig off off'),?_,by simp[Rel,Value.oneCell']⟩
           change (Op.equal t _ _>>=λr=>pure (Value.bool r)).run E.P w=_
           simp_all
          ·simp at hv;subst hv;refine⟨.bool (!Nat.beq off off'),?_,by simp[Rel,Value.oneCell']⟩
           change (Op.equal t _ _>>=λr=>pure (Value.bool !r)).run E.P w=_
           simp_all
        grind
       grind
end ops
end Go.AM
namespace Go.AM
open Go.RowKit
variable {G:Nat->Option (List AV)}{base:Nat}{S:bE}{f:Emb}{h:AH}{w:World}{P:Program}{E:Env}{s:St}{a:Act}{N:Nat}
section ops
variable {call:Cle->List AV->AH->Option (AV×AH)}{o:Oper}{v:AV}{s':St}
theorem wS{u:AV}{x:Value}{n:Nat}(r:Rel S f u x)(h:asN u=Z n):∃k,x=.int k (n:Int):=by
 unfold asN at h;split at h<;>grind [Rel]
theorem bRB{op:UnOp}{x:Operand}{y:Opd}(ht:TmR S f s.tm a.tmps N)(hc:bA x=Z y)(hP:E.P=P)(hrun:aL E call s (.un op y)=Z (v,s')):
  s'=s/\∃z,(Op.unary op (a.eval x)).run P w=.ok z w/\Rel S f v z:=by
 subst hP;simp[aL] at hrun;split at hrun
 ·rename_i u hu;simp[j7] at hrun;obtain⟨v',⟨z,hz,hfl⟩,rfl,rfl⟩:=hrun;have r:=be ht hc hu;simp[Rel] at r;exact⟨rfl,z,by grind [wK],Rel.ew hfl⟩
 grind
theorem bCY{k:IntKind}{src dst:TypeId}{x:Operand}{y:Opd}{k0:IntKind}(ht:TmR S f s.tm a.tmps N)(hc:bA x=Z y)(h1:P.underlying src=Z (.int k0))(h2:P.underlying dst=Z (.int k))
  (hrun:aL E call s (.conv k y)=Z (v,s')):s'=s/\∃z,(convert src dst (a.eval x)).run P w=.ok z w/\Rel S f v z:=by
 simp[aL] at hrun;split at hrun
 ·rename_i k1 n hu;simp at hrun;obtain⟨rfl,rfl⟩:=hrun;have r:=be ht hc hu;simp[Rel] at r;refine⟨rfl,.int k (k.wrap n),?_,by simp[Rel,Value.oneCell']⟩
  simp_all [convert,run_underlying,Conv.intToInt]
 grind
theorem aDV{t:TypeId}{x:Operand}{y:Opd}(ht:TmR S f s.tm a.tmps N)(hc:bA x=Z y)(h1:∃d,P.underlying t=Z d/\∀m,d≠ .interface m)
  (hrun:aL E call s (.jK t y)=Z (v,s')):s'=s/\∃z,(Instr.makeInterface t (a.eval x)).run P w=.ok z w/\Rel S f v z:=by
 simp[aL,j7] at hrun;obtain⟨u,hu,rfl,rfl⟩:=hrun;obtain⟨d,hd,hn⟩:=h1;refine⟨rfl,.iface t (a.eval x),?_,by rw[Rel];exact⟨_,rfl,be ht hc hu⟩⟩
 simp only[Instr.makeInterface,Sem.run_bind,run_underlying hd,Result.andThen_ok];rfl
theorem aNT{fn:Fn}{xs ys:Array Operand}{xs' ys':List Opd}(ht:TmR S f s.tm a.tmps N)(h1:dK xs.toList=Z xs')(h2:dK ys.toList=Z ys')
  (hrun:aL E call s (.fy fn xs' ys')=Z (v,s')):s'=s/\∃z,(Instr.makeFunc fn (xs.map a.eval) (ys.map a.eval)).run P w=.ok z w/\Rel S f v z:=by
 simp[aL] at hrun;cases e1:aT s xs' with
 |none=>grind
 |some A=>
  cases e2:aT s ys' with
  |none=>grind
  |some B=>
   simp[*] at hrun;obtain⟨rfl,rfl⟩:=hrun;refine⟨rfl,_,rfl,?_⟩
   grind [Rel,Array.toList_map,sj]
theorem aUM(w:World)(o:Obj):(w.alloc o).heap[w.heap.size]? =Z o:=by
 show(w.heap.push o)[w.heap.size]? =Z o;simp
theorem aTH{t:TypeId}(r:WR E.aY base S f s.h w)(hrun:aL E call s .rI=Z (v,s')):
  s'.tm=s.tm/\s'.defers=s.defers/\∃x w',(Instr.makeMap t Y).run P w=.ok x w'/\Left E base S f s.h w v s'.h x w':=by
 simp[aL] at hrun;obtain⟨rfl,rfl⟩:=hrun;have g:=r.alloc (o:=.map #[] 0) (k:=.map []) (R:=1) (λf' _=>by
  simp only[bR];refine⟨trivial,trivial, #[],0,aUM w _,by rfl,rfl,λi e he=>by grind⟩)
 refine⟨rfl,rfl,.map (Z w.heap.size),w.alloc (.map #[] 0),by rfl,_,_,g,?_⟩
 rw[Rel];exact U155
theorem aDU{t e:TypeId}{n b:Nat}{z:List AV}{l c:Operand}{l' c':Opd}(ht:TmR S f s.tm a.tmps N)(r:WR E.aY base S f s.h w)(hu:P.underlying t=Z (.slice e))
  (hn:bH P e=Z n) (hz:cF P e=Z z) (hlen:z.length=n) (hb:(P.info? e).map (·.bytes)=Z b) (hl:bA l=Z l') (hc:bA c=Z c')
  (hrun:aL E call s (.cP n b z l' c')=Z (v,s')):
  s'.tm=s.tm/\s'.defers=s.defers/\∃x w',(Instr.makeSlice t (a.eval l) (a.eval c)).run P w=.ok x w'/\Left E base S f s.h w v s'.h x w':=by
 simp only[aL] at hrun;cases h1:(s.eval l').bind asN with
 |none=>grind
 |some L=>
  cases h2:(s.eval c').bind asN with
  |none=>grind
  |some C=>
   simp only[*] at hrun;cases hk:(ii L C&&ii (C*b) cR&&ii C (2^40)) with
   |false=>grind
   |true=>
    simp[hk] at hrun;obtain⟨rfl,rfl⟩:=hrun;simp only[im] at hk;have k1:=j6 hk.1.1;have k2:=j6 hk.1.2;have k3:=j6 hk.2;unfold cR at k2;simp[j7] at h1 h2;obtain⟨u1,hu1,hn1⟩:=h1;obtain⟨u2,hu2,hn2⟩:=h2;obtain⟨q1,e1⟩:=wS (be ht hl hu1) hn1;obtain⟨q2,e2⟩:=wS (be ht hc hu2) hn2;obtain⟨zv,hzr,ho,rfl⟩:=uJ hz;have hzn:zv.cells.size=n:=Gr;obtain⟨z1,z2⟩:=xR (S:=S) (f:=f) ho C n hzn;have hzl:=z1.length;have g:=r.fL (cs:=(jr C (zv.cells.toList.map AV.val)).flatten) (arr:=(Ad (C*n)).map (zv.cells[· %zv.cells.size]!)) e Gr z2;have w1:IntKind.i64.wrap (L:Int)=L:=IntWalk.i64_in _ om;have w2:IntKind.i64.wrap (C:Int)=C:=IntWalk.i64_in _ om;refine⟨rfl,rfl,.slice (Z ⟨w.heap.size,0,Y⟩) L C,_,?_,_,_,g,?_⟩
    ·cases hi:P.info? e with
     |none=>grind
     |some i=>
      simp[hi] at hb;have ht:typeInfo e=(typeInfo e):=rfl;have hti:∀w,(typeInfo e).run P w=.ok i w:=by simp_all [typeInfo]
      rw[e1,e2];have hbig:¬((b:Int)*(C:Int)>2^48):=by
       grind
      simp only[Instr.makeSlice,Sem.run_bind,run_underlying hu,Result.andThen_ok,asInt,asIntOf,Sem.run_pure,hti,hb,w1,w2];rw[if_neg Gr];simp only[Sem.run_bind,run_askRoom,Result.andThen_ok,rW hn,Int.toNat_natCast]
      by_cases h0:C*n=0
      ·have e3:((Ad (C*n)).map (λi=>(#[]:Array Value)[i%(#[]:Array Value).size]!))=(Ad (C*n)).map (λi=>zv.cells[i%zv.cells.size]!):=by grind
       simp only[Sem.run_bind,Sem.run_pure,Result.andThen_ok,if_pos h0,e3];rfl
      simp_all [newRow]
    ·rw[Rel];refine⟨_,_,_,C,pk _ _ _,.inl rfl,k1,Sp,?_⟩
     grind
end ops
end Go.AM
namespace Go.AM
open Go.RowKit
variable {G:Nat->Option (List AV)}{base:Nat}{S:bE}{f:Emb}{h:AH}{w:World}{P:Program}{E:Env}{s:St}{a:Act}{N:Nat}
section ops
variable {call:Cle->List AV->AH->Option (AV×AH)}{o:Oper}{v:AV}{s':St}
theorem aDW{i:Nat}{x:Operand}{y:Opd}(ht:TmR S f s.tm a.tmps N)(hc:bA x=Z y)(hrun:aL E call s (.extract i y)=Z (v,s')):
  s'=s/\∃z,(Instr.extract (a.eval x) i).run P w=.ok z w/\Rel S f v z:=by
 simp[aL] at hrun;split at hrun
 ·rename_i vs hu;simp[j7] at hrun;obtain⟨u,hi,rfl,rfl⟩:=hrun;have r:=be ht hc hu;simp[Rel] at r;obtain⟨xs,e,r⟩:=r;obtain⟨z,hz,hr⟩:=r.get hi;exact⟨rfl,z,by simp_all [Instr.extract],hr⟩
 grind
theorem bCW{t:TypeId}{e:TypeId}{x:Operand}{y:Opd}{ty:TypeId}(ht:TmR S f s.tm a.tmps N)(hc:bA x=Z y)(hu:P.underlying t=Z (.slice e))
  (hrun:aL E call s (.fI y)=Z (v,s')):s'=s/\∃z,(Builtin.len_ #[t] ty #[a.eval x]).run P w=.ok z w/\Rel S f v z:=by
 simp[aL] at hrun;split at hrun
 ·exact U15
 ·rename_i cs n cap hx;simp at hrun;obtain⟨rfl,rfl⟩:=hrun;have r:=be ht hc hx;simp[Rel] at r;obtain⟨_,_,_,e,_⟩:=r;exact U156
 ·rename_i b off n es cap hx;simp at hrun;obtain⟨rfl,rfl⟩:=hrun;have r:=be ht hc hx;rw[Rel] at r;obtain⟨_,_,_,_,_,e,_⟩:=r;rcases e with e|⟨rfl,_,_,_,e⟩
  ·exact U156
  ·exact⟨rfl,goInt 0,by simp_all [Builtin.len_,run_underlying],by simp[Rel,goInt,Value.oneCell']⟩
 grind
theorem bCZ{t:TypeId}{e:TypeId}{x:Operand}{y:Opd}{ty:TypeId}(ht:TmR S f s.tm a.tmps N)(hc:bA x=Z y)(hu:P.underlying t=Z (.slice e))
  (hrun:aL E call s (.capS y)=Z (v,s')):s'=s/\∃z,(Builtin.cap_ #[t] ty #[a.eval x]).run P w=.ok z w/\Rel S f v z:=by
 simp[aL] at hrun;split at hrun
 ·rename_i hx;simp at hrun;obtain⟨rfl,rfl⟩:=hrun;have r:=be ht hc hx;simp[Rel] at r;exact U157
 ·rename_i cs n k hx;simp at hrun;obtain⟨rfl,rfl⟩:=hrun;have r:=be ht hc hx;rw[Rel] at r;obtain⟨_,_,c,e,_,hk,_⟩:=r;have:=hk k rfl;subst this;exact U158
 ·rename_i b off n es k hx;simp at hrun;obtain⟨rfl,rfl⟩:=hrun;have r:=be ht hc hx;rw[Rel] at r;obtain⟨_,_,_,c,_,e,_,hk,_⟩:=r;have:=hk k rfl;subst this;rcases e with e|⟨_,rfl,_,_,e⟩
  rotate_left
  ·exact U157
  exact U158
 grind
theorem aNX{t:TypeId}{x:Operand}{y:Opd}{ty:TypeId}(ht:TmR S f s.tm a.tmps N)(hc:bA x=Z y)(hu:P.underlying t=Z .string)
  (hrun:aL E call s (.b7 y)=Z (v,s')):s'=s/\∃z,(Builtin.len_ #[t] ty #[a.eval x]).run P w=.ok z w/\Rel S f v z:=by
 simp[aL] at hrun;split at hrun
 ·rename_i b hx;simp at hrun;obtain⟨rfl,rfl⟩:=hrun;have r:=be ht hc hx;simp[Rel] at r;exact⟨rfl,goInt b.size,by simp_all [Builtin.len_,run_underlying],by simp[Rel,goInt,Value.oneCell']⟩
 grind
theorem aNY{t k e:TypeId}{x:Operand}{y:Opd}{ty:TypeId}(ht:TmR S f s.tm a.tmps N)(r:WR E.aY base S f s.h w)(hc:bA x=Z y)(hu:P.underlying t=Z (.map k e))
  (hrun:aL E call s (.qj y)=Z (v,s')):s'=s/\∃z,(Builtin.len_ #[t] ty #[a.eval x]).run P w=.ok z w/\Rel S f v z:=by
 simp[aL] at hrun;split at hrun
 ·exact U15
 ·rename_i b hx;split at hrun
  ·rename_i es hb;simp at hrun;obtain⟨rfl,rfl⟩:=hrun;have hr:=be ht hc hx;rw[Rel] at hr;obtain⟨B,O,R,hf,e1⟩:=hr;obtain⟨B',O',R',hf',_,_,hb'⟩:=r.blk _ _ hb;rw[hf] at hf';simp at hf';obtain⟨rfl,rfl,rfl⟩:=hf';simp[bR] at hb';obtain⟨_,_,arr,clock,hh,hm,_⟩:=hb';exact U77
  ·rename_i es hb;simp at hrun;obtain⟨rfl,rfl⟩:=hrun;have hr:=be ht hc hx;rw[Rel] at hr;obtain⟨B,O,R,hf,e1⟩:=hr;obtain⟨B',O',R',hf',_,_,hb'⟩:=r.blk _ _ hb;rw[hf] at hf';simp at hf';obtain⟨rfl,rfl,rfl⟩:=hf';rw[bR] at hb';obtain⟨_,_,arr,clock,hh,hm⟩:=hb';exact U77
  grind
 grind
theorem aTI{t:TypeId}{fs:Array Field}{i:Nat}{fd:Field}{n:Option Nat}{x:Operand}{y:Opd}(ht:TmR S f s.tm a.tmps N)(hc:bA x=Z y)(hu:P.underlying t=Z (.struct fs))
  (hi:fs[i]? =Z fd) (hn:gV P fd.type=Z n) (hrun:aL E call s (.field fd.offset n y)=Z (v,s')):
  s'=s/\∃z,(Instr.field t (a.eval x) i).run P w=.ok z w/\Rel S f v z:=by
 simp[aL] at hrun;split at hrun
 ·rename_i cs hx;cases hk:ii fd.offset cs.length with
  |false=>grind
  |true=>
   simp[hk,j7] at hrun;obtain⟨u,hv,rfl,rfl⟩:=hrun;have hk':=j6 hk;have r:=be ht hc hx;rw[Rel] at r;obtain⟨xs,e,ho,r⟩:=r;have hlen:=r.length;obtain⟨h1,h2⟩:=yC hn w;refine⟨rfl,?_⟩;rw[e];simp only[Instr.field,Sem.run_bind,run_underlying hu,Result.andThen_ok,asAgg,Sem.run_pure,part, *];cases n with
   |none=>
    rw[takeN] at hv;have hv':cs[fd.offset]? =Z u:=Sa;obtain⟨z,hz,hr⟩:=r.get hv'
    simp_all
   |some k=>
    rw[takeN] at hv;cases hl:ii k (cs.drop fd.offset).length with
    |false=>grind
    |true=>
     rw[hl] at hv;simp at hv;subst hv;have hl':=j6 hl;refine⟨.agg (xs.toArray.extract fd.offset (fd.offset+k)),Sa,?_⟩;rw[Rel];refine⟨(xs.drop fd.offset).take k,?_,?_,(r.drop _).take _⟩<;>grind
 grind
theorem Jw{fd:Field}{n b off:Nat}(hs:bH P fd.type=Z (n+1)):(fieldPlace ⟨b,off,Y⟩ fd).run P w=.ok ⟨b,off+fd.offset,Y⟩ w:=by
 simp_all [fieldPlace,rW,add_zero]
theorem Sq{t:TypeId}{fs:Array Field}{i:Nat}{fd:Field}{n:Nat}{x:Operand}{y:Opd}(ht:TmR S f s.tm a.tmps N)(hc:bA x=Z y)(hu:P.underlying t=Z (.struct fs))
  (hi:fs[i]? =Z fd) (hn:bH P fd.type=Z (n+1)) (hrun:aL E call s (.fieldAddr fd.offset y)=Z (v,s')):
  s'=s/\∃z,(Instr.fieldAt t (a.eval x) i).run P w=.ok z w/\Rel S f v z:=by
 have key:∀b off,a.eval x=.pointer (Z ⟨b,off,Y⟩)->(Instr.fieldAt t (a.eval x) i).run P w=.ok (.pointer (Z ⟨b,off+fd.offset,Y⟩)) w:=by
  simp_all [Instr.fieldAt,run_underlying,Instr.sureAddr,Jw]
 simp[aL] at hrun;split at hrun
 ·rename_i b off hx;simp at hrun;obtain⟨rfl,rfl⟩:=hrun;have r:=be ht hc hx;rw[Rel] at r;obtain⟨B,O,R,hf,e⟩:=r;exact⟨rfl,_,key _ _ e,by grind [Rel]⟩
 ·rename_i cs hx;cases hk:ii fd.offset cs.length with
  |false=>grind
  |true=>
   simp[hk] at hrun;obtain⟨rfl,rfl⟩:=hrun;have r:=be ht hc hx;simp[Rel] at r;obtain⟨b,off,e,r⟩:=r;exact⟨rfl,_,key _ _ e,by rw[Rel];exact⟨_,_,rfl,r.drop _⟩⟩
 ·rename_i g off hx;simp at hrun;obtain⟨rfl,rfl⟩:=hrun;have r:=be ht hc hx;simp[Rel] at r;exact⟨rfl,_,key _ _ r.1,by simp[Rel,Value.oneCell']⟩
 grind
theorem Yw{t e:TypeId}{n:Nat}{x i:Operand}{x' i':Opd}(ht:TmR S f s.tm a.tmps N)(hx:bA x=Z x')(hi:bA i=Z i')(hu:P.underlying t=Z (.slice e))
  (hn:bH P e=Z n) (hrun:aL E call s (.bT n x' i')=Z (v,s')):s'=s/\∃z,(Instr.indexAt t (a.eval x) (a.eval i)).run P w=.ok z w/\Rel S f v z:=by
 have key:∀b off l c (k:Nat) q,a.eval x=.slice (Z ⟨b,off,Y⟩) l c->a.eval i=.int q k->k<l->(Instr.indexAt t (a.eval x) (a.eval i)).run P w=.ok (.pointer (Z ⟨b,off+k*n,Y⟩)) w:=by
  intro b off l c k q e1 e2 hk;rw[e1,e2];simp only[Instr.indexAt,Sem.run_bind,asIntOf,Sem.run_pure,Result.andThen_ok,run_underlying hu]
  simp_all [rW,add_zero]
 simp[aL] at hrun;cases h2:(s.eval i').bind asN with
 |none=>grind
 |some k=>
  rw[h2] at hrun;have h2':=h2;simp[j7] at h2';obtain⟨u,hu1,hn1⟩:=h2';obtain⟨q,e2⟩:=wS (be ht hi hu1) hn1;split at hrun
  ·rename_i cs m cap k' hx' hk';simp at hk';subst hk';cases hk:(ir k m&&ii (k*n) cs.length) with
   |false=>grind
   |true=>
    simp[hk] at hrun;obtain⟨rfl,rfl⟩:=hrun;rw[im,j8] at hk;have r:=be ht hx hx';simp[Rel] at r;obtain⟨b,off,c,e,_,_,r⟩:=r;exact⟨rfl,_,key _ _ _ _ _ _ e e2 hk.1,by rw[Rel];exact⟨_,_,rfl,r.drop _⟩⟩
  ·rename_i b off m es cap k' hx' hk';simp at hk';subst hk';cases hk:(ir k m&&ig n es) with
   |false=>grind
   |true=>
    simp[hk] at hrun;obtain⟨rfl,rfl⟩:=hrun;rw[im,j8] at hk;have r:=be ht hx hx';rw[Rel] at r;obtain⟨B,O,R,c,hf,e,_⟩:=r;have e:=e.pos (.inl om);exact⟨rfl,_,key _ _ _ _ _ _ e e2 hk.1,by grind [Rel]⟩
  grind
theorem Yx{t e:TypeId}{len n:Nat}{x i:Operand}{x' i':Opd}(ht:TmR S f s.tm a.tmps N)(hx:bA x=Z x')(hi:bA i=Z i')(hu:P.underlying t=Z (.array len e))
  (hn:bH P e=Z n) (hrun:aL E call s (.kX len n x' i')=Z (v,s')):s'=s/\∃z,(Instr.indexAt t (a.eval x) (a.eval i)).run P w=.ok z w/\Rel S f v z:=by
 have key:∀b off (k:Nat) q,a.eval x=.pointer (Z ⟨b,off,Y⟩)->a.eval i=.int q k->k<len->(Instr.indexAt t (a.eval x) (a.eval i)).run P w=.ok (.pointer (Z ⟨b,off+k*n,Y⟩)) w:=by
  intro b off k q e1 e2 hk;rw[e1,e2];simp only[Instr.indexAt,Sem.run_bind,asIntOf,Sem.run_pure,Result.andThen_ok,run_underlying hu,Instr.sureAddr]
  simp_all [rW,add_zero]
 simp[aL] at hrun;cases h2:(s.eval i').bind asN with
 |none=>grind
 |some k=>
  rw[h2] at hrun;have h2':=h2;simp[j7] at h2';obtain⟨u,hu1,hn1⟩:=h2';obtain⟨q,e2⟩:=wS (be ht hi hu1) hn1;split at hrun
  ·rename_i b off k' hx' hk';simp at hk';subst hk';cases hk:ir k len with
   |false=>grind
   |true=>
    simp[hk] at hrun;obtain⟨rfl,rfl⟩:=hrun;rw[j8] at hk;have r:=be ht hx hx';rw[Rel] at r;obtain⟨B,O,R,hf,e⟩:=r;exact⟨rfl,_,key _ _ _ _ e e2 hk,by grind [Rel]⟩
  ·rename_i cs k' hx' hk';simp at hk';subst hk';cases hk:(ir k len&&ii (k*n) cs.length) with
   |false=>grind
   |true=>
    simp[hk] at hrun;obtain⟨rfl,rfl⟩:=hrun;rw[im,j8] at hk;have r:=be ht hx hx';simp[Rel] at r;obtain⟨b,off,e,r⟩:=r;exact⟨rfl,_,key _ _ _ _ e e2 hk.1,by rw[Rel];exact⟨_,_,rfl,r.drop _⟩⟩
  ·rename_i g off k' hx' hk';simp at hk';subst hk';cases hk:ir k len with
   |false=>grind
   |true=>
    simp[hk] at hrun;obtain⟨rfl,rfl⟩:=hrun;rw[j8] at hk;have r:=be ht hx hx';simp[Rel] at r;exact⟨rfl,_,key _ _ _ _ r.1 e2 hk,by simp[Rel,Value.oneCell']⟩
  grind
theorem aOA{t:TypeId}{x i:Operand}{x' i':Opd}(ht:TmR S f s.tm a.tmps N)(hx:bA x=Z x')(hi:bA i=Z i')(hu:P.underlying t=Z .string)
  (hrun:aL E call s (.bj x' i')=Z (v,s')):s'=s/\∃z,(Instr.index t (a.eval x) (a.eval i)).run P w=.ok z w/\Rel S f v z:=by
 simp only[aL] at hrun;split at hrun
 ·rename_i b k hx' hk;simp[j7] at hk;obtain⟨u,hu1,hn1⟩:=hk;obtain⟨q,e2⟩:=wS (be ht hi hu1) hn1;split at hrun
  ·rename_i c hc;simp at hrun;obtain⟨rfl,rfl⟩:=hrun;have r:=be ht hx hx';simp[Rel] at r;refine⟨rfl,.int .u8 c.toNat,?_,by simp[Rel,Value.oneCell']⟩
   rw[r.1,e2];have hb:b[k]? =Z c:=by
    have:b.data[k]? =Z c:=Gr;obtain⟨hlt,e⟩:=Array.getElem?_eq_some_iff.1 this;rw[getElem?_pos b k hlt];exact congrArg Z e
   simp[Instr.index,asIntOf,run_underlying hu,hb]
  grind
 grind
end ops
end Go.AM
