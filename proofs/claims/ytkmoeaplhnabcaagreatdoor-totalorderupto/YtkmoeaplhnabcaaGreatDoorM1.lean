/- XAm XAmC XAmR XAmW XAmO XAmP XAmQ XAmT XAmU XAmV -/
import GoSem.Core.Code
import GoSem.Core.Program
import GoSem.Core.Lib
import GoSem.Dispatch
import GoSem.Core.Layout
import Derived.Laws.Sem
import Derived.Below
import Derived.OrdersIn
import Derived.Laws.IdiomCopy
import Derived.ChangeKeysEq
import Derived.Laws.Entries
import Derived.Laws.BytesString
import Derived.IntWalk

set_option linter.all false
open Option.some renaming injEq → sI
open Prod.mk renaming injEq → pI
open Array renaming getElem?_eq_some_iff → Bf, getElem?_modify → Bn, length_toList → B4, range → B9, toList_map → Bi
open Bool renaming and_eq_true → i9, eq_iff_iff → Ba
open List renaming all_eq_true → iy, getElem?_append_left → Bo, getElem?_append_right → Bp, getElem?_drop → Az, getElem?_eq_getElem → jk, getElem?_take → Bg, length_eq_zero_iff → C2, length_map → ji, mapM_cons → Ap, map_cons → jd, mem_map → A1, mem_of_mem_drop → A4, mem_range → B8, replicate → jz, replicate_succ → Cb, take_of_length_le → jl, take_succ_cons → jm
open Nat renaming add_assoc → jn, add_zero → Aa, beq → i5, ble → i6, blt → iq, blt_eq → j8, eq_of_beq_eq_true → ij, eq_zero_or_pos → Ar, le_of_ble_eq_true → is, le_refl → i7, le_trans → Aj, lt_of_lt_of_le → A9, ne_of_beq_eq_false → jx, zero_add → jp
open Option renaming bind_eq_some_iff → j7, isSome_iff_exists → Af, map_eq_some_iff → iw, map_some → jo
namespace Go.AM
inductive Tr (α:Type) where
 |nil
 |nd (l:Tr α) (v:Option α) (r:Tr α)
deriving Inhabited
def Tr.get{α:Type}:Tr α→Nat→Option α
 |.nil,_=>none
 |.nd l v r,k=>bif i5 k 0 then v else bif i5 (k%2) 1 then l.get (k/2) else r.get (k/2-1)
def Tr.putF{α:Type}:Nat→Tr α→Nat→Option α→Tr α
 |0,t,_,_=>t
 |n+1,.nil,k,x=>bif i5 k 0 then .nd .nil x .nil else bif i5 (k%2) 1 then .nd (putF n .nil (k/2) x) none .nil else .nd .nil none (putF n .nil (k/2-1) x)
 |n+1,.nd l v r,k,x=>bif i5 k 0 then .nd l x r else bif i5 (k%2) 1 then .nd (putF n l (k/2) x) v r else .nd l v (putF n r (k/2-1) x)
def Tr.put{α:Type}(t:Tr α)(k:Nat)(x:Option α):Tr α:=putF (k+1) t k x
inductive AV where
 |val (v:Value)
 |agg (cs:List AV)
 |tup (vs:List AV)
 |imm (cs:List AV) (n:Nat) (cap:Option Nat)
 |own (b off n es:Nat) (cap:Option Nat)
 |ptr (b off:Nat)
 |iptr (cs:List AV)
 |ifc (t:TypeId) (v:AV)
 |fn (f:Fn) (first captured:List AV)
 |mp (b:Nat)
 |it (b:Nat)
 |yld (b:Nat)
deriving Inhabited
inductive Ex where
 |normal
 |exit (id:Nat)
 |ret
deriving Inhabited
inductive LSt where
 |ready
 |busy
 |done (e:Ex)
 |gone
deriving Inhabited
inductive Blk where
 |cells (cs:List AV) (rw:Bool)
 |map (es:List (Value×AV))
 |iter (s:ByteArray) (pos:Nat)
 |miter (m:Option Nat)
 |mit1 (m:Nat) (on:Bool)
 |mitr (m n:Nat) (seen:List Nat)
 |loop (tm:Tr AV) (ps:List Nat) (asg body:Code) (M:Nat) (st:LSt)
 |dfr (on:Bool)
 |tag (b:Nat) (t:TypeId) (n:Option Nat)
deriving Inhabited
structure AH where
 next:Nat
 tr:Tr Blk
deriving Inhabited
def AH.empty:AH:=⟨0,.nil⟩
def AH.get(h:AH)(b:Nat):Option Blk:=h.tr.get b
def AH.put(h:AH)(b:Nat)(x:Option Blk):AH:=⟨h.next,h.tr.put b x⟩
def AH.alloc(h:AH)(x:Blk):AH:=⟨h.next+1,h.tr.put h.next (some x)⟩
def AV.cells:AV→Option (List AV)
 |.agg cs=>some cs
 |.tup _=>none
 |v=>some [v]
def ofFlat:Value→Option AV
 |.agg cs=>bif cs.toList.all (·.oneCell') then some (.agg (cs.toList.map .val)) else none
 |.tuple vs=>bif vs.toList.all (·.oneCell') then some (.tup (vs.toList.map .val)) else none
 |v=>some (.val v)
def flatCells:List AV→Option (List Value)
 | []=>some []
 |.val v::r=>(flatCells r).map (v:: ·)
 |_::_=>none
def flat:AV→Option Value
 |.val v=>some v
 |.agg cs=>(flatCells cs).map fun l=>.agg l.toArray
 |.tup cs=>(flatCells cs).map fun l=>.tuple l.toArray
 |.ifc t (.val v)=>some (.iface t v)
 |.ifc t (.agg cs)=>(flatCells cs).map fun l=>.iface t (.agg l.toArray)
 |_=>none
def undefA:AV:=.tup []
def allSeen(seen:List Nat):Nat→Bool
 |0=>true
 |n+1=>seen.any (i5 n)&&allSeen seen n
def curOf(seen:List Nat)(es:List (Value×AV)):Option (Value×AV):=match seen.getLast? with
 |some i=>es[i]?
 |none=>none
inductive Opd where
 |t (i:Nat)
 |c (v:AV)
deriving Inhabited
inductive AOp where
 |mv (x:Opd)
 |pick (c a b:Opd)
 |alloc (z:List AV)
 |box (x:Opd)
 |build (z:List AV) (parts:List (Nat×Nat×Opd))
 |buildSlice (es n:Nat) (z:List AV) (parts:List (Nat×Nat×Opd))
 |load (n:Option Nat) (x:Opd)
 |store (n:Nat) (a x:Opd)
 |nilck (x:Opd)
 |bin (op:BinOp) (t:TypeId) (g:Bool) (x y:Opd)
 |un (op:UnOp) (x:Opd)
 |conv (k:IntKind) (x:Opd)
 |strOfBytes (x:Opd)
 |bytesOfStr (x:Opd)
 |convId (x:Opd)
 |convStr (x:Opd)
 |mkIface (t:TypeId) (x:Opd)
 |mkFunc (fn:Fn) (first captured:List Opd)
 |mkMap
 |mkSlice (es bytes:Nat) (z:List AV) (l c:Opd)
 |sliceS (es:Nat) (x:Opd) (lo hi mx:Option Opd)
 |sliceA (es len:Nat) (x:Opd) (lo hi:Option Opd)
 |sliceStr (x:Opd) (lo hi:Option Opd)
 |fieldAddr (off:Nat) (x:Opd)
 |field (off:Nat) (n:Option Nat) (x:Opd)
 |idxAddrS (es:Nat) (x i:Opd)
 |idxAddrA (len es:Nat) (x i:Opd)
 |idxA (len es:Nat) (n:Option Nat) (x i:Opd)
 |idxStr (x i:Opd)
 |lookup (d:TypeDesc) (z:AV) (x k:Opd) (ok:Bool)
 |mapUpd (d:TypeDesc) (m k x:Opd)
 |rangeStr (x:Opd)
 |nextStr (x:Opd)
 |rangeMap (x:Opd)
 |nextMap (x:Opd)
 |curMap (x:Opd)
 |tassert (t:TypeId) (z:AV) (ok:Bool) (x:Opd)
 |extract (i:Nat) (x:Opd)
 |call (f:Nat) (args:List Opd)
 |callv (x:Opd) (args:List Opd)
 |invoke (x:Opd) (name:String) (args:List Opd)
 |append (es bytes:Nat) (s x:Opd)
 |copy (es:Nat) (d s:Opd)
 |lenS (x:Opd)
 |lenStr (x:Opd)
 |lenMap (x:Opd)
 |lenK (n:Nat)
 |capS (x:Opd)
 |minI (args:List Opd)
 |maxI (args:List Opd)
 |clearS (es:Nat) (z:List AV) (x:Opd)
 |recover
 |defer (x:Opd) (args:List Opd)
 |unsafeStr (e:TypeId) (x n:Opd)
 |sliceData (x:Opd)
 |allocT (z:List AV) (t:TypeId)
 |bconv (t:TypeId) (x:Opd)
 |callx (f:Nat) (x:Opd)
 |appT (e:TypeId) (s x:Opd)
 |bad (why:String)
deriving Inhabited
def shown:AOp→Bool
 |.rangeStr _|.nextStr _|.recover|.defer .. |.bad _=>false
 |_=>true
def isDefer:AOp→Bool
 |.defer .. =>true
 |_=>false
structure AOper where
 dst:Option Nat
 guard:Option (Nat×Bool)
 op:AOp
deriving Inhabited
structure DOp where
 o:AOper
 reads:List Nat
 free:List Nat
deriving Inhabited
inductive ACode where
 |skip
 |region (ops:List AOper)
 |draw (ops:List DOp)
 |seq (a b:ACode)
 |cond (c:Opd) (thn els:ACode)
 |block (id:Nat) (body:ACode)
 |loop (body:ACode)
 |range (g:Opd) (ps:List Nat) (asg body:Code) (M:Nat)
 |exit (id:Nat)
 |ret
 |bad (why:String)
deriving Inhabited
inductive ARes where
 |tmp (t:Nat)
 |cell (t:Nat) (n:Option Nat)
deriving Inhabited
structure AFun where
 body:ACode
 res:List ARes
deriving Inhabited
structure Env where
 P:Program
 mth:List (TypeId×String×Nat)
 globs:Nat→Option (List AV)
 shared:Tr Unit
 known:Nat→List AV→Option AV
 idle:Tr Nat
 noEscF:Option Nat
 mkNZF:Option (Nat×TypeId)
inductive Cle where
 |f (g:Nat)
 |y (b:Nat)
deriving Inhabited
inductive ADef where
 |call (f:Nat) (args:List AV)
 |mark (b:Nat)
deriving Inhabited
def findM(t:TypeId)(name:String):List (TypeId×String×Nat)→Option Nat
 | []=>none
 |(t',n,f)::r=>bif i5 t t'&&name==n then some f else findM t name r
def Env.meth(E:Env)(t:TypeId)(name:String):Option Nat:=findM t name E.mth
structure St where
 tm:Tr AV
 h:AH
 defers:List ADef
 round:Option Nat
deriving Inhabited
def St.eval(s:St):Opd→Option AV
 |.t i=>s.tm.get i
 |.c v=>some v
def evalAll(s:St):List Opd→Option (List AV)
 | []=>some []
 |x::r=>match s.eval x with
  |none=>none
  |some v=>match evalAll s r with
   |none=>none
   |some l=>some (v::l)
def putAt(cs:List AV)(off:Nat)(vs:List AV):List AV:=cs.take off++vs++cs.drop (off+vs.length)
def fill(s:St):List AV→List (Nat×Nat×Opd)→Option (List AV)
 |z,[]=>some z
 |z,(off,size,x)::r=>match s.eval x with
  |none=>none
  |some v=>match v.cells with
   |some l=>bif i5 l.length size&&i6 (off+size) z.length then fill s (putAt z off l) r else none
   |none=>none
def takeN(n:Option Nat)(cs:List AV):Option AV:=
 match n with
 |none=>cs.head?
 |some k=>bif i6 k cs.length then some (.agg (cs.take k)) else none
def cellsFrom(G:Nat→Option (List AV))(h:AH):AV→Option (List AV)
 |.ptr b off=>match h.get b with
  |some (.cells cs _)=>bif i6 off cs.length then some (cs.drop off) else none
  |_=>none
 |.iptr cs=>some cs
 |.val (.pointer (some ⟨g,off,none⟩))=>match G g with
  |some cs=>bif i6 off cs.length then some (cs.drop off) else none
  |none=>none
 |_=>none
def elemsOf(h:AH)(es:Nat):AV→Option (List AV×Nat)
 |.val (.slice _ 0 _)=>some ([],0)
 |.val (.string s)=>bif i5 es 1 then some (s.data.toList.map fun b=>.val (.int .u8 b.toNat),s.size) else none
 |.imm cs n _=>bif i6 (n*es) cs.length then some (cs.take (n*es),n) else none
 |.own b off n es' _=>bif i5 es es' then(match h.get b with
  |some (.cells cs _)=>bif i6 (off+n*es) cs.length then some ((cs.drop off).take (n*es),n) else none
  |_=>none) else none
 |_=>none
def asN:AV→Option Nat
 |.val (.int _ (.ofNat n))=>some n
 |_=>none
def binInt(op:BinOp)(k:IntKind)(a b:Int):Option Value:=
 match op with
 |.add=>some (.int k (k.wrap (a+b)))
 |.sub=>some (.int k (k.wrap (a-b)))
 |.mul=>some (.int k (k.wrap (a*b)))
 |.quo=>bif b==0 then none else some (.int k (k.wrap (a.tdiv b)))
 |.rem=>bif b==0 then none else some (.int k (a.tmod b))
 |.eql=>some (.bool (a==b))
 |.neq=>some (.bool (a != b))
 |.lss=>some (.bool (a<b))
 |.leq=>some (.bool (a≤b))
 |.gtr=>some (.bool (a>b))
 |.geq=>some (.bool (a≥b))
 |_=>none
def evalPure{α:Type}(P:Program):Sem α→Option α
 |.pure a=>some a
 |.program k=>evalPure P (k P)
 |.mark _ k=>evalPure P k
 |_=>none
def bytesLessL:List UInt8→List UInt8→Bool
 |_,[]=>false
 | [],_::_=>true
 |a::x,b::y=>iq a.toNat b.toNat||(i5 a.toNat b.toNat&&bytesLessL x y)
def eqBytes:List UInt8→List UInt8→Bool
 | [],[]=>true
 |a::x,b::y=>i5 a.toNat b.toNat&&eqBytes x y
 |_,_=>false
def binStr(op:BinOp)(a b:ByteArray):Option Value:=
 match op with
 |.add=>bif i6 (a.size+b.size) (2^60) then some (.string ⟨(a.data.toList++b.data.toList).toArray⟩) else none
 |.eql=>some (.bool (eqBytes a.data.toList b.data.toList))
 |.neq=>some (.bool (!eqBytes a.data.toList b.data.toList))
 |.lss=>some (.bool (bytesLessL a.data.toList b.data.toList))
 |.leq=>some (.bool (bytesLessL a.data.toList b.data.toList||eqBytes a.data.toList b.data.toList))
 |.gtr=>some (.bool (!(bytesLessL a.data.toList b.data.toList||eqBytes a.data.toList b.data.toList)))
 |.geq=>some (.bool (!bytesLessL a.data.toList b.data.toList))
 |_=>none
def nilT(d:TypeDesc)(x y:AV):Bool:=
 match d,x,y with
 |.pointer _,.ptr ..,.val (.pointer none)|.pointer _,.val (.pointer none),.ptr .. |.pointer _,.iptr _,.val (.pointer none)
 |.slice _,.imm ..,.val (.slice none 0 0)|.slice _,.own ..,.val (.slice none 0 0)|.func ..,.fn ..,.val .nilFunc
 |.interface _,.ifc ..,.val .nilIface|.map ..,.mp _,.val (.map none)=>true
 |_,_,_=>false
def binA(P:Program)(op:BinOp)(t:TypeId)(g:Bool)(x y:AV):Option AV:=
 match x,y with
 |.val (.int k a),.val (.int k' b)=>
  match binInt op k a b with
  |some v=>bif k==k' then some (.val v) else none
  |none=>(evalPure P (binOp op t (.int k a) (.int k' b))).bind ofFlat
 |.val (.string a),.val (.string b)=>(binStr op a b).map .val
 |x,y=>match flat x,flat y with
  |some a,some b=>(evalPure P (do eqGuard op t (bif g then .const (.tuple #[]) else .tmp 0) (.tmp 0) a b;binOp op t a b)).bind ofFlat
  |_,_=>match P.underlying t with
   |none=>none
   |some d=>bif nilT d x y then(match op with
     |.eql=>some (.val (.bool false))
     |.neq=>some (.val (.bool true))
     |_=>none)
    else match d,x,y with
     |.pointer e,.ptr b off,.ptr b' off'=>match (P.info? e).map (·.size) with
      |some (_+1)=>bif i5 b b' then(match op with
       |.eql=>some (.val (.bool (i5 off off')))
       |.neq=>some (.val (.bool (!Nat.beq off off')))
       |_=>none) else none
      |_=>none
     |_,_,_=>none
def sliceB(len cap:Nat)(lo hi mx:Option Nat):Option (Nat×Nat×Nat):=
 let m:=mx.getD cap
 let h:=hi.getD len
 let l:=lo.getD 0
 bif i6 m cap&&i6 h m&&i6 l h&&(mx.isNone||hi.isSome) then some (l,h,m) else none
def optN(s:St):Option Opd→Option (Option Nat)
 |none=>some none
 |some x=>match s.eval x with
  |some v=>(asN v).map some
  |none=>none
def sliceA'(es:Nat)(x:AV)(lo hi mx:Option Nat):Option AV:=
 match x with
 |.val (.slice none 0 0)=>match sliceB 0 0 lo hi mx with
  |some _=>some x
  |none=>none
 |.imm cs n cap=>
  match sliceB n (match mx with|some m=>m|none=>n) lo hi mx with
  |some (l,h,m)=>bif i6 m n then
    (match mx,cap with
    |some _,_=>some (.imm ((cs.drop (l*es)).take ((h-l)*es)) (h-l) (some (m-l)))
    |none,some c=>some (.imm ((cs.drop (l*es)).take ((h-l)*es)) (h-l) (some (c-l)))
    |none,none=>some (.imm ((cs.drop (l*es)).take ((h-l)*es)) (h-l) none)) else none
  |none=>none
 |.own b off n es' cap=>bif i5 es es' then
  (match cap with
  |some c=>match sliceB n c lo hi mx with
   |some (l,h,m)=>some (.own b (bif i5 m l then off else off+l*es) (h-l) es (some (m-l)))
   |none=>none
  |none=>match sliceB n (match mx with|some m=>m|none=>n) lo hi mx with
   |some (l,h,m)=>bif i6 m n then(match mx with
    |some _=>some (.own b (bif i5 m l then off else off+l*es) (h-l) es (some (m-l)))
    |none=>bif i5 l 0 then some (.own b off h es none) else bif i6 l n then some (.own b (off+l*es) (h-l) es none) else none) else none
   |none=>none) else none
 |_=>none
def toTree(h:AH):Nat→AV→Option AV
 |0,_=>none
 |n+1,v=>match v with
  |.val v=>some (.val v)
  |.imm a b c=>some (.imm a b c)
  |.iptr cs=>some (.iptr cs)
  |.agg cs=>(cs.mapM (toTree h n)).map .agg
  |.tup cs=>(cs.mapM (toTree h n)).map .tup
  |.own b off k es cap=>match h.get b with
   |some (.cells cs false)=>bif i6 (off+k*es) cs.length then(((cs.drop off).take (k*es)).mapM (toTree h n)).map fun l=>.imm l k cap else none
   |_=>none
  |.ifc t v=>(toTree h n v).map (.ifc t)
  |.fn f a b=>match a.mapM (toTree h n),b.mapM (toTree h n) with
   |some a,some b=>some (.fn f a b)
   |_,_=>none
  |_=>none
def freeze:Nat→AV→AH→AH
 |0,_,h=>h
 |n+1,v,h=>match v with
  |.agg cs|.tup cs=>cs.foldl (fun h c=>freeze n c h) h
  |.own b off k es _=>match h.get b with
   |some (.cells cs _)=>((cs.drop off).take (k*es)).foldl (fun h c=>freeze n c h) (h.put b (some (.cells cs false)))
   |_=>h
  |.ifc _ v=>freeze n v h
  |.fn _ a b=>b.foldl (fun h c=>freeze n c h) (a.foldl (fun h c=>freeze n c h) h)
  |_=>h
def allVal:List AV→Bool
 | []=>true
 |.val _::r=>allVal r
 |_::_=>false
def isFlat:AV→Bool
 |.val _=>true
 |.tup vs=>vs.all fun v=>match v with
  |.val _=>true
  |.agg cs=>allVal cs
  |_=>false
 |.agg cs=>allVal cs
 |_=>false
def deepest:Nat:=1000000000
def enterTm:List AV→Nat→Tr AV→Tr AV
 | [],_,t=>t
 |v::r,i,t=>enterTm r (i+1) (t.put i (some v))
def resultsA(G:Nat→Option (List AV))(s:St):List ARes→Option (List AV)
 | []=>some []
 |.tmp t::r=>match s.tm.get t,resultsA G s r with
  |some v,some l=>some (v::l)
  |_,_=>none
 |.cell t n::r=>match (s.tm.get t).bind (cellsFrom G s.h),resultsA G s r with
  |some cs,some l=>(takeN n cs).map (· ::l)
  |_,_=>none
def oneOrTup:List AV→AV
 | [v]=>v
 |l=>.tup l
def keyEq(d:TypeDesc)(k j:Value):Option Bool:=
 match d,k,j with
 |.int _,.int p a,.int q b=>bif p==q then some (a==b) else none
 |.string,.string a,.string b=>some (eqBytes a.data.toList b.data.toList)
 |.bool,.bool a,.bool b=>some (a==b)
 |_,_,_=>none
def lookA(d:TypeDesc)(k:Value):List (Value×AV)→Option (Option AV)
 | []=>some none
 |(j,v)::r=>match keyEq d k j with
  |some true=>some (some v)
  |some false=>lookA d k r
  |none=>none
def updA(d:TypeDesc)(k:Value)(x:AV):List (Value×AV)→Option (List (Value×AV))
 | []=>some [(k,x)]
 |(j,v)::r=>match keyEq d k j with
  |some true=>some ((k,x)::r)
  |some false=>(updA d k x r).map ((j,v):: ·)
  |none=>none
def bytesList:List AV→Option (List UInt8)
 | []=>some []
 |.val (.int .u8 n)::r=>(bytesList r).map (UInt8.ofNat n.toNat:: ·)
 |_::_=>none
def bytesOf(cs:List AV):Option ByteArray:=(bytesList cs).map fun l=>⟨l.toArray⟩
def bytesListC:List AV→Option (List UInt8)
 | []=>some []
 |.val (.int .u8 (.ofNat n))::r=>bif iq n 256 then(bytesListC r).map (UInt8.ofNat n:: ·) else none
 |_::_=>none
def mostOf(up:Bool)(k:IntKind):Int→List AV→Option Int
 |m,[]=>some m
 |m,.val (.int k' b)::r=>bif k==k' then mostOf up k (bif up then max m b else min m b) r else none
 |_,_::_=>none
def mostBytes:Nat:=2^40
def okLen(m bytes:Nat):Bool:=i6 (m*bytes) mostBytes&&i6 m mostBytes
def tagOf(h:AH)(b:Nat):Option (TypeId×Option Nat):=match h.get (b+1) with
 |some (.tag b' t n)=>bif i5 b b' then some (t,n) else none
 |_=>none
def sliceW(h:AH)(es:Nat)(v:AV)(lo hi mx:Option Nat):Option AV:=
 match v,hi,mx with
 |.own b off _ es' none,some k,none=>match h.get b with
  |some (.cells cs _)=>bif (i5 es es'&&iq 0 es)&&(iq (lo.getD 0) k&&i6 (off+k*es) cs.length) then some (.own b (off+lo.getD 0*es) (k-lo.getD 0) es none) else none
  |_=>none
 |_,_,_=>none
def appendA(s:St)(es bytes:Nat)(sl x:Opd):Option (AV×St):=
 let ret (v:AV):Option (AV×St):=some (v,s)
 let retH (v:AV) (h:AH):Option (AV×St):=some (v,{s with h})
 match s.eval sl,s.eval x with
  |some a,some x=>match elemsOf s.h es x with
   |none=>none
   |some (new,n)=>match a with
    |.val (.slice none 0 0)=>bif i5 n 0 then ret a else
      bif okLen n bytes then retH (.own s.h.next 0 n es none) (s.h.alloc (.cells new true)) else none
    |.imm cs k (some c)=>bif i5 n 0 then ret a else bif iq c (k+n)&&okLen (k+n) bytes&&i6 (k*es) cs.length then
      retH (.own s.h.next 0 (k+n) es none) (s.h.alloc (.cells (cs.take (k*es)++new) true)) else none
    |.imm _ _ none=>bif i5 n 0 then ret a else none
    |.own b off k es' cap=>bif i5 n 0 then ret a else
     match s.h.get b with
     |some (.cells cs rw)=>bif i5 es es'&&i6 (off+k*es) cs.length&&okLen (k+n) bytes then
      (match cap with
      |some c=>bif i6 (k+n) c then
        (bif rw&&i6 (off+(k+n)*es) cs.length then retH (.own b off (k+n) es cap) (s.h.put b (some (.cells (putAt cs (off+k*es) new) true))) else none)
       else retH (.own s.h.next 0 (k+n) es none) (s.h.alloc (.cells ((cs.drop off).take (k*es)++new) true))
      |none=>bif iq (off+k*es) cs.length&&i6 (off+(k+n)*es) cs.length then
        (bif rw then retH (.own b off (k+n) es none) (s.h.put b (some (.cells (putAt cs (off+k*es) new) true))) else none)
       else bif rw&&i5 (off+k*es) cs.length then
        retH (.own s.h.next 0 (k+n) es none) ((s.h.put b none).alloc (.cells (cs.drop off++new) true)) else none) else none
     |_=>none
    |_=>none
  |_,_=>none
def appTyped (s : St) (e : TypeId) (sl x : Opd) : Option (AV × St) :=
  match s.eval sl, s.eval x with
  | some a, some x => match elemsOf s.h 1 x with
    | none => none
    | some (new, n) => match a with
      | .val (.slice none 0 0) => bif !Nat.beq n 0 && okLen n 1 then some (.own s.h.next 0 n 1 none, { s with h := (s.h.alloc (.cells new true)).alloc (.tag s.h.next e none) }) else none
      | .own b 0 k 1 none => match s.h.get b, tagOf s.h b with
        | some (.cells cs rw), some (t, _) => bif (rw && i5 t e && i5 k cs.length && okLen (k + n) 1) && !Nat.beq n 0 then
              some (.own s.h.next 0 (k + n) 1 none, { s with h := ((s.h.put b none).alloc (.cells (cs ++ new) true)).alloc (.tag s.h.next e none) }) else none
        | _, _ => none
      | _ => none
  | _, _ => none
def isNoEsc(E:Env)(f:Nat):Bool:=match E.noEscF with
 |some g=>i5 f g
 |none=>false
def runOp(E:Env)(call:Cle→List AV→AH→Option (AV×AH))(s:St)(op:AOp):Option (AV×St):=
 let ret (v:AV):Option (AV×St):=some (v,s)
 let retH (v:AV) (h:AH):Option (AV×St):=some (v,{s with h})
 match op with
 |.mv x=>(s.eval x).bind ret
 |.pick c a b=>match s.eval c with
  |some (.val (.bool true))=>(s.eval a).bind ret
  |some (.val (.bool false))=>(s.eval b).bind ret
  |_=>none
 |.alloc z=>retH (.ptr s.h.next 0) (s.h.alloc (.cells z true))
 |.box x=>match (s.eval x).bind AV.cells with
  |some l=>retH (.ptr s.h.next 0) (s.h.alloc (.cells l true))
  |none=>none
 |.build z parts=>(fill s z parts).bind fun cs=>ret (.agg cs)
 |.buildSlice es n z parts=>(fill s z parts).bind fun cs=>retH (.own s.h.next 0 n es (some n)) (s.h.alloc (.cells cs true))
 |.load n x=>match s.eval x with
  |some v=>((cellsFrom E.globs s.h v).bind (takeN n)).bind ret
  |none=>none
 |.store n a x=>match s.eval a,(s.eval x).bind AV.cells with
  |some (.ptr b off),some l=>match s.h.get b with
   |some (.cells cs true)=>bif i5 l.length n&&i6 (off+n) cs.length then retH undefA (s.h.put b (some (.cells (putAt cs off l) true))) else none
   |_=>none
  |_,_=>none
 |.nilck x=>match s.eval x with
  |some (.val (.pointer none))|some (.val .nilIface)|some (.val .nilFunc)|some (.val (.func ..))=>none
  |some (.fn (.method name) (.ifc t v::a) b)=>match E.meth t name with
   |some _=>ret (.fn (.method name) (.ifc t v::a) b)
   |none=>none
  |some (.fn (.method _) _ _)=>none
  |some (.yld _)=>none
  |some v=>ret v
  |none=>none
 |.bin op t g x y=>match s.eval x,s.eval y with
  |some a,some b=>(binA E.P op t g a b).bind ret
  |_,_=>none
 |.un op x=>match s.eval x with
  |some (.val v)=>((evalPure E.P (Op.unary op v)).bind ofFlat).bind ret
  |_=>none
 |.conv k x=>match s.eval x with
  |some (.val (.int _ n))=>ret (.val (.int k (k.wrap n)))
  |_=>none
 |.strOfBytes x=>match s.eval x with
  |some (.val (.slice none 0 0))=>ret (.val (.string ⟨#[]⟩))
  |some (.val _)=>none
  |some v=>match elemsOf s.h 1 v with
   |some (cs,_)=>(bytesOf cs).bind fun b=>ret (.val (.string b))
   |none=>none
  |none=>none
 |.bytesOfStr x=>match s.eval x with
  |some (.val (.string b))=>retH (.own s.h.next 0 b.size 1 none) (s.h.alloc (.cells (b.data.toList.map fun b=>.val (.int .u8 b.toNat)) true))
  |_=>none
 |.convId x=>match s.eval x with
  |some (.own b off n es cap)=>match s.h.get b with
   |some (.cells (_::_) true)=>ret (.own b off n es cap)
   |_=>none
  |_=>none
 |.convStr x=>match s.eval x with
  |some (.val (.string b))=>ret (.val (.string b))
  |_=>none
 |.mkIface t x=>(s.eval x).bind fun v=>ret (.ifc t v)
 |.mkFunc fn a b=>match evalAll s a,evalAll s b with
  |some a,some b=>ret (.fn fn a b)
  |_,_=>none
 |.mkMap=>retH (.mp s.h.next) (s.h.alloc (.map []))
 |.mkSlice es bytes z l c=>match (s.eval l).bind asN,(s.eval c).bind asN with
  |some l,some c=>bif i6 l c&&i6 (c*bytes) mostBytes&&i6 c (2^40) then
    retH (.own s.h.next 0 l es (some c)) (s.h.alloc (.cells ((jz c z).flatten) true)) else none
  |_,_=>none
 |.sliceS es x lo hi mx=>match s.eval x,optN s lo,optN s hi,optN s mx with
  |some v,some lo,some hi,some mx=>((sliceA' es v lo hi mx).or (sliceW s.h es v lo hi mx)).bind ret
  |_,_,_,_=>none
 |.sliceA es len x lo hi=>match s.eval x,optN s lo,optN s hi with
  |some (.ptr b off),some lo,some hi=>match s.h.get b with
   |some (.cells cs _)=>bif i6 (off+len*es) cs.length then(match sliceB len len lo hi none with
    |some (l,h,m)=>ret (.own b (bif i5 m l then off else off+l*es) (h-l) es (some (m-l)))
    |none=>none) else none
   |_=>none
  |some (.iptr cs),some lo,some hi=>match sliceB len len lo hi none with
   |some (l,h,m)=>ret (.imm ((cs.drop (l*es)).take ((h-l)*es)) (h-l) (some (m-l)))
   |none=>none
  |_,_,_=>none
 |.sliceStr x lo hi=>match s.eval x,optN s lo,optN s hi with
  |some (.val (.string b)),some lo,some hi=>match sliceB b.size b.size lo hi none with
   |some (l,h,_)=>ret (.val (.string (b.extract l h)))
   |none=>none
  |_,_,_=>none
 |.fieldAddr off x=>match s.eval x with
  |some (.ptr b o)=>ret (.ptr b (o+off))
  |some (.iptr cs)=>bif i6 off cs.length then ret (.iptr (cs.drop off)) else none
  |some (.val (.pointer (some ⟨g,o,none⟩)))=>ret (.val (.pointer (some ⟨g,o+off,none⟩)))
  |_=>none
 |.field off n x=>match s.eval x with
  |some (.agg cs)=>bif i6 off cs.length then(takeN n (cs.drop off)).bind ret else none
  |_=>none
 |.idxAddrS es x i=>match s.eval x,(s.eval i).bind asN with
  |some (.imm cs n _),some i=>bif iq i n&&i6 (i*es) cs.length then ret (.iptr (cs.drop (i*es))) else none
  |some (.own b off n es' _),some i=>bif iq i n&&i5 es es' then ret (.ptr b (off+i*es)) else none
  |_,_=>none
 |.idxAddrA len es x i=>match s.eval x,(s.eval i).bind asN with
  |some (.ptr b off),some i=>bif iq i len then ret (.ptr b (off+i*es)) else none
  |some (.iptr cs),some i=>bif iq i len&&i6 (i*es) cs.length then ret (.iptr (cs.drop (i*es))) else none
  |some (.val (.pointer (some ⟨g,o,none⟩))),some i=>bif iq i len then ret (.val (.pointer (some ⟨g,o+i*es,none⟩))) else none
  |_,_=>none
 |.idxA len es n x i=>match s.eval x,(s.eval i).bind asN with
  |some (.agg cs),some i=>bif iq i len&&i6 (i*es) cs.length then(takeN n (cs.drop (i*es))).bind ret else none
  |_,_=>none
 |.idxStr x i=>match s.eval x,(s.eval i).bind asN with
  |some (.val (.string b)),some i=>match b.data.toList[i]? with
   |some c=>ret (.val (.int .u8 c.toNat))
   |none=>none
  |_,_=>none
 |.lookup d z x k ok=>match s.eval x,s.eval k with
  |some m,some (.val k)=>
   let es:Option (List (Value×AV)):=match m with
    |.val (.map none)=>some []
    |.mp b=>match s.h.get b with
     |some (.map es)=>some es
     |_=>none
    |_=>none
   match es with
   |some es=>match lookA d k es with
    |some (some v)=>ret (bif ok then .tup [v,.val (.bool true)] else v)
    |some none=>ret (bif ok then .tup [z,.val (.bool false)] else z)
    |none=>none
   |none=>none
  |_,_=>none
 |.mapUpd d m k x=>match s.eval m,s.eval k,s.eval x with
  |some (.mp b),some (.val k),some v=>match s.h.get b with
   |some (.map es)=>(updA d k v es).bind fun es=>retH undefA (s.h.put b (some (.map es)))
   |_=>none
  |_,_,_=>none
 |.rangeStr x=>match s.eval x with
  |some (.val (.string b))=>retH (.it s.h.next) (s.h.alloc (.iter b 0))
  |_=>none
 |.nextStr x=>match s.eval x with
  |some (.it b)=>match s.h.get b with
   |some (.iter str pos)=>bif iq pos str.size then
     let cw:=Utf8.decode str pos
     retH (.tup [.val (.bool true),.val (.int .i64 pos),.val (.int .i32 cw.1)]) (s.h.put b (some (.iter str (pos+cw.2))))
    else ret (.tup [.val (.bool false)])
   |_=>none
  |_=>none
 |.rangeMap x=>match s.eval x with
  |some (.val (.map none))=>retH (.it s.h.next) (s.h.alloc (.miter none))
  |some (.mp b)=>match s.h.get b with
   |some (.map [_])=>retH (.it s.h.next) (s.h.alloc (.mit1 b false))
   |some (.map [])=>retH (.it s.h.next) (s.h.alloc (.miter (some b)))
   |some (.map es)=>retH (.it s.h.next) (s.h.alloc (.mitr b es.length []))
   |_=>none
  |_=>none
 |.nextMap x=>match s.eval x with
  |some (.it b)=>match s.h.get b with
   |some (.miter none)=>ret (.tup [.val (.bool false)])
   |some (.miter (some m))=>match s.h.get m with
    |some (.map [])=>ret (.tup [.val (.bool false)])
    |_=>none
   |some (.mit1 m false)=>match s.h.get m with
    |some (.map [(k,v)])=>bif k.oneCell' then retH (.tup [.val (.bool true),.val k,v]) (s.h.put b (some (.mit1 m true))) else none
    |_=>none
   |some (.mit1 m true)=>match s.h.get m with
    |some (.map [_])=>ret (.tup [.val (.bool false)])
    |_=>none
   |some (.mitr m n seen)=>match s.h.get m with
    |some (.map es)=>bif i5 es.length n&&(i6 1 n&&allSeen seen n) then ret (.tup [.val (.bool false)]) else none
    |_=>none
   |_=>none
  |_=>none
 |.curMap x=>match s.eval x with
  |some (.it b)=>match s.h.get b with
   |some (.mit1 m true)=>match s.h.get m with
    |some (.map [(k,v)])=>bif k.oneCell' then ret (.tup [.val k,v]) else none
    |_=>none
   |some (.mitr m n seen)=>match s.h.get m with
    |some (.map es)=>match curOf seen es with
     |some (k,v)=>bif i5 es.length n&&k.oneCell' then ret (.tup [.val k,v]) else none
     |none=>none
    |_=>none
   |_=>none
  |_=>none
 |.tassert t z ok x=>match s.eval x with
  |some (.ifc t' v)=>bif i5 t t' then ret (bif ok then .tup [v,.val (.bool true)] else v) else bif ok then ret (.tup [z,.val (.bool false)]) else none
  |some (.val .nilIface)=>bif ok then ret (.tup [z,.val (.bool false)]) else none
  |_=>none
 |.extract i x=>match s.eval x with
  |some (.tup vs)=>(vs[i]?).bind ret
  |_=>none
 |.call f args=>match evalAll s args with
  |some l=>(call (.f f) l s.h).bind fun(v,h)=>retH v h
  |none=>none
 |.callv x args=>match s.eval x,evalAll s args with
  |some (.fn (.func f) a b),some l=>(call (.f f) (a++l++b) s.h).bind fun(v,h)=>retH v h
  |some (.fn (.method name) (.ifc t v::a) _),some l=>match E.meth t name with
   |some f=>(call (.f f) (v::(a++l)) s.h).bind fun(v,h)=>retH v h
   |none=>none
  |some (.yld b),some l=>(call (.y b) l s.h).bind fun(v,h)=>retH v h
  |_,_=>none
 |.invoke x name args=>match s.eval x,evalAll s args with
  |some (.ifc t v),some l=>match E.meth t name with
   |some f=>(call (.f f) (v::l) s.h).bind fun(v,h)=>retH v h
   |none=>none
  |_,_=>none
 |.append es bytes sl x=>appendA s es bytes sl x
 |.copy es d x=>match s.eval d,s.eval x with
  |some d,some x=>match d,elemsOf s.h es x with
   |.val (.slice none 0 0),some _=>ret (.val (.int .i64 0))
   |.own b off k es' _,some (new,n)=>
    let m:=min n k
    match s.h.get b with
    |some (.cells cs true)=>bif i5 es es'&&i6 (off+m*es) cs.length then retH (.val (.int .i64 m)) (s.h.put b (some (.cells (putAt cs off (new.take (m*es))) true))) else none
    |_=>none
   |_,_=>none
  |_,_=>none
 |.lenS x=>match s.eval x with
  |some (.val (.slice _ 0 _))=>ret (.val (.int .i64 0))
  |some (.imm _ n _)|some (.own _ _ n _ _)=>ret (.val (.int .i64 n))
  |_=>none
 |.lenStr x=>match s.eval x with
  |some (.val (.string b))=>ret (.val (.int .i64 b.size))
  |_=>none
 |.lenMap x=>match s.eval x with
  |some (.val (.map none))=>ret (.val (.int .i64 0))
  |some (.mp b)=>match s.h.get b with
   |some (.map es)=>ret (.val (.int .i64 es.length))
   |_=>none
  |_=>none
 |.lenK n=>ret (.val (.int .i64 n))
 |.capS x=>match s.eval x with
  |some (.val (.slice none 0 0))=>ret (.val (.int .i64 0))
  |some (.imm _ _ (some c))|some (.own _ _ _ _ (some c))=>ret (.val (.int .i64 c))
  |_=>none
 |.minI args=>match evalAll s args with
  |some (.val (.int k a)::r)=>(mostOf false k a r).bind fun m=>ret (.val (.int k m))
  |_=>none
 |.maxI args=>match evalAll s args with
  |some (.val (.int k a)::r)=>(mostOf true k a r).bind fun m=>ret (.val (.int k m))
  |_=>none
 |.clearS es z x=>match s.eval x with
  |some (.val (.slice none 0 0))=>ret undefA
  |some (.own b off n es' _)=>bif i5 n 0 then ret undefA else match s.h.get b with
   |some (.cells cs true)=>bif i5 es es'&&i5 z.length es&&i6 (off+n*es) cs.length then retH undefA (s.h.put b (some (.cells (putAt cs off (jz n z).flatten) true))) else none
   |_=>none
  |_=>none
 |.recover=>ret (.val .nilIface)
 |.defer x args=>match s.eval x,evalAll s args with
  |some (.fn (.func f) a b),some l=>match s.round with
   |none=>some (undefA,{s with defers:=.call f (a++l++b)::s.defers})
   |some _=>none
  |_,_=>none
 |.unsafeStr e x n=>match s.eval x,s.eval n with
  |some (.ptr b 0),some (.val (.int .i64 (.ofNat (n+1))))=>match s.h.get b,tagOf s.h b with
   |some (.cells cs _),some (t,_)=>bif i5 t e&&i6 (n+1) cs.length&&i6 n (2^60) then(bytesListC (cs.take (n+1))).bind fun l=>retH (.val (.string ⟨l.toArray⟩)) (s.h.put b (some (.cells cs false))) else none
   |_,_=>none
  |_,_=>none
 |.sliceData x=>match s.eval x with
  |some (.own b off (_+1) _ _)=>ret (.ptr b off)
  |_=>none
 |.allocT z t=>retH (.ptr s.h.next 0) ((s.h.alloc (.cells z true)).alloc (.tag s.h.next t (some z.length)))
 |.bconv t x=>match s.eval x with
  |some (.ptr b 0)=>match tagOf s.h b with
   |some (t',some n)=>bif i5 t t'&&liesAt E.P E.P.depth t (n/E.P.cellsOf t) 0 t 1&&i6 1 n then ret (.ptr b 0) else none
   |_=>none
  |_=>none
 |.callx f x=>match s.eval x with
  |some v=>bif isNoEsc E f then ret v else match E.mkNZF with
   |some (g,e)=>bif i5 f g then(match v with
    |.val (.int .i64 (.ofNat n))=>bif i6 n (2^40) then retH (.own s.h.next 0 n 1 none) ((s.h.alloc (.cells [] true)).alloc (.tag s.h.next e none)) else none
    |_=>none) else none
   |none=>none
  |none=>none
 |.appT e sl x=>match appTyped s e sl x with
  |some r=>some r
  |none=>appendA s 1 1 sl x
 |.bad _=>none
def putDst(tm:Tr AV):Option Nat→AV→Tr AV
 |none,_=>tm
 |some d,v=>tm.put d (some v)
def wantedA(s:St):Option (Nat×Bool)→Option Bool
 |none=>some true
 |some (t,b)=>match s.tm.get t with
  |some (.val (.bool c))=>some (c==b)
  |some (.tup [])=>some false
  |_=>none
def runOps(E:Env)(call:Cle→List AV→AH→Option (AV×AH)):List AOper→St→Option St
 | [],s=>some s
 |o::r,s=>
  match wantedA s o.guard with
  |some true=>match runOp E call s o.op with
   |some (v,s')=>runOps E call r {s' with tm:=putDst s'.tm o.dst v,round:=s.round}
   |none=>none
  |some false=>runOps E call r {s with tm:=putDst s.tm o.dst undefA}
  |none=>none
def cOpd:Operand→Option Opd
 |.tmp t=>some (.t t)
 |.const v=>(ofFlat v).map .c
 |.global g=>some (.c (.val (.pointer (some ⟨g,0,none⟩))))
 |.func f=>some (.c (.fn (.func f) [] []))
def cOpds:List Operand→Option (List Opd)
 | []=>some []
 |x::r=>match cOpd x,cOpds r with
  |some x,some r=>some (x::r)
  |_,_=>none
def isConstO:Operand→Bool
 |.const _=>true
 |_=>false
def sizeOf?(P:Program)(t:TypeId):Option Nat:=(P.info? t).map (·.size)
def zeroCells?(P:Program)(t:TypeId):Option (List AV):=((P.info? t).bind (·.zero)).bind fun z=>bif z.cells.toList.all (·.oneCell') then some (z.cells.toList.map .val) else none
def plainKey:TypeDesc→Bool
 |.int _|.string|.bool=>true
 |_=>false
def zeroV?(P:Program)(t:TypeId):Option AV:=((P.info? t).bind (·.zero)).bind ofFlat
def loadN?(P:Program)(t:TypeId):Option (Option Nat):=
 match P.underlying t with
 |some (.struct _)|some (.array _ _)=>(sizeOf? P t).map some
 |some _=>some none
 |none=>none
def cParts(place:Nat→Option (Nat×Nat)):List (Nat×Operand)→Option (List (Nat×Nat×Opd))
 | []=>some []
 |(i,x)::r=>match place i,cOpd x,cParts place r with
  |some (off,size),some x,some r=>some ((off,size,x)::r)
  |_,_,_=>none
def fieldsAt(P:Program)(fs:List Field):Option (List (Nat×Nat)):=fs.mapM fun f=>(sizeOf? P f.type).map fun n=>(f.offset,n)
def secondOk(P:Program):Option TypeId→Bool
 |none=>true
 |some t=>match P.underlying t with
  |some (.int _)=>false
  |some _=>true
  |none=>false
def notIface(P:Program)(t:TypeId):Bool:=
 match P.underlying t with
 |some (.interface _)=>false
 |some _=>true
 |none=>false
def cOptO:Option Operand→Option (Option Opd)
 |none=>some none
 |some o=>(cOpd o).map some
def isBld(P:Program)(t:TypeId):Bool:=match ((P.types[t]?).map (·.desc):Option TypeDesc) with
 |some (.named n _)=>n== "strings.Builder"
 |_=>false
def noBody(P:Program)(f:Nat):Bool:=match P.funcs[f]? with
 |some fn=>fn.body.isNone
 |none=>false
def cOp(P:Program)(o:Op):Option AOp:=
 match o with
 |.move x|.assign x=>(cOpd x).map .mv
 |.pick c a b=>match cOpd c,cOpd a,cOpd b with
  |some c,some a,some b=>some (.pick c a b)
  |_,_,_=>none
 |.alloc t=>(zeroCells? P t).map fun z=>bif isBld P t then .allocT z t else .alloc z
 |.box _ x=>(cOpd x).map .box
 |.build t parts=>match P.underlying t,zeroCells? P t with
  |some (.struct fs),some z=>match fieldsAt P fs.toList with
   |some l=>(cParts (fun i=>l[i]?) parts.toList).map (.build z)
   |none=>none
  |some (.array _ e),some z=>match sizeOf? P e with
   |some n=>(cParts (fun i=>some (i*n,n)) parts.toList).map (.build z)
   |none=>none
  |_,_=>none
 |.buildSlice t len parts=>match P.underlying t with
  |some (.slice e)=>match sizeOf? P e,zeroCells? P e with
   |some n,some z=>bif i5 z.length n&&i6 (len*n) (2^24) then(cParts (fun i=>some (i*n,n)) parts.toList).map (.buildSlice n len (jz len z).flatten) else none
   |_,_=>none
  |_=>none
 |.load t a=>match loadN? P t,cOpd a with
  |some n,some a=>some (.load n a)
  |_,_=>none
 |.store t a x=>match sizeOf? P t,cOpd a,cOpd x with
  |some n,some a,some x=>some (.store n a x)
  |_,_,_=>none
 |.nilCheck x=>(cOpd x).map .nilck
 |.binOp op t x y _=>match cOpd x,cOpd y with
  |some x',some y'=>some (.bin op t (isConstO x||isConstO y) x' y')
  |_,_=>none
 |.unOp op _ x=>(cOpd x).map (.un op)
 |.convert src dst x=>match P.underlying src,P.underlying dst,cOpd x with
  |some (.int _),some (.int k),some x=>some (.conv k x)
  |some .string,some .string,some x=>some (.convStr x)
  |some (.slice e),some .string,some x=>match P.underlying e with
   |some (.int .u8)=>some (.strOfBytes x)
   |_=>none
  |some .string,some (.slice e),some x=>match P.underlying e with
   |some (.int .u8)=>some (.bytesOfStr x)
   |_=>none
  |some (.slice e),some (.slice _),some x=>match src==dst,P.underlying e with
   |true,some (.int .u8)=>some (.convId x)
   |_,_=>none
  |some (.pointer t),some .unsafePointer,some x|some .unsafePointer,some (.pointer t),some x=>match sizeOf? P t with
   |some (_+1)=>some (.bconv t x)
   |_=>none
  |_,_,_=>none
 |.makeInterface t x=>bif notIface P t then(cOpd x).map (.mkIface t) else none
 |.makeFunc fn a b=>match cOpds a.toList,cOpds b.toList with
  |some a,some b=>some (.mkFunc fn a b)
  |_,_=>none
 |.makeMap _ none=>some .mkMap
 |.makeSlice t l c=>match P.underlying t with
  |some (.slice e)=>match sizeOf? P e,zeroCells? P e,(P.info? e).map (·.bytes),cOpd l,cOpd c with
   |some n,some z,some b,some l,some c=>bif i5 z.length n then some (.mkSlice n b z l c) else none
   |_,_,_,_,_=>none
  |_=>none
 |.slice t x lo hi mx=>
  match P.underlying t,cOpd x,cOptO lo,cOptO hi,cOptO mx with
  |some (.slice e),some x,some lo,some hi,some mx=>(sizeOf? P e).map fun n=>.sliceS n x lo hi mx
  |some .string,some x,some lo,some hi,some none=>some (.sliceStr x lo hi)
  |some (.array n e),some x,some lo,some hi,some none=>(sizeOf? P e).map fun s=>.sliceA s n x lo hi
  |some (.pointer a),some x,some lo,some hi,some none=>match P.underlying a with
   |some (.array n e)=>(sizeOf? P e).map fun s=>.sliceA s n x lo hi
   |_=>none
  |_,_,_,_,_=>none
 |.fieldAddr t x i=>match P.underlying t,cOpd x with
  |some (.struct fs),some x=>match fs[i]? with
   |some f=>match sizeOf? P f.type with
    |some (_+1)=>some (.fieldAddr f.offset x)
    |_=>none
   |none=>none
  |_,_=>none
 |.field t x i=>match P.underlying t,cOpd x with
  |some (.struct fs),some x=>match fs[i]? with
   |some f=>(loadN? P f.type).map fun n=>.field f.offset n x
   |none=>none
  |_,_=>none
 |.indexAddr t x i=>match P.underlying t,cOpd x,cOpd i with
  |some (.slice e),some x,some i=>(sizeOf? P e).map fun n=>.idxAddrS n x i
  |some (.array len e),some x,some i=>(sizeOf? P e).map fun n=>.idxAddrA len n x i
  |_,_,_=>none
 |.index t x i=>match P.underlying t,cOpd x,cOpd i with
  |some .string,some x,some i=>some (.idxStr x i)
  |some (.array len e),some x,some i=>match sizeOf? P e,loadN? P e with
   |some s,some n=>some (.idxA len s n x i)
   |_,_=>none
  |_,_,_=>none
 |.lookup t x k ok=>match P.underlying t,cOpd x,cOpd k with
  |some (.map kt e),some x,some k=>match P.underlying kt,zeroV? P e with
   |some d,some z=>bif plainKey d then some (.lookup d z x k ok) else none
   |_,_=>none
  |_,_,_=>none
 |.mapUpdate t m k x|.insert t m k x=>match P.underlying t,cOpd m,cOpd k,cOpd x with
  |some (.map kt _),some m,some k,some x=>match P.underlying kt with
   |some d=>bif plainKey d then some (.mapUpd d m k x) else none
   |none=>none
  |_,_,_,_=>none
 |.range t x=>match P.underlying t,cOpd x with
  |some (.map _ _),some x=>some (.rangeMap x)
  |_,_=>none
 |.next it false=>(cOpd it).map .nextMap
 |.entry it=>(cOpd it).map .curMap
 |.typeAssert x _ t ok=>bif notIface P t then(match cOpd x,zeroV? P t with
  |some x,some z=>some (.tassert t z ok x)
  |_,_=>none) else none
 |.extract x i=>(cOpd x).map (.extract i)
 |.call c=>match cOpds c.args.toList with
  |none=>none
  |some args=>match c.callee with
   |.value (.func f)=>bif noBody P f then(match args with
    | [x]=>some (.callx f x)
    |_=>none) else some (.call f args)
   |.value x=>(cOpd x).map fun x=>.callv x args
   |.invoke x name=>(cOpd x).map fun x=>.invoke x name args
   |.builtin b=>
    let ty (i:Nat):Option TypeDesc:=(c.argTypes[i]?).bind P.underlying
    match b,args with
    |.append,[s,x]=>match ty 0 with
     |some (.slice e)=>match sizeOf? P e,(P.info? e).map (·.bytes),zeroCells? P e with
      |some n,some b,some z=>bif i5 z.length n&&secondOk P (c.argTypes[1]?) then some (bif i5 n 1&&i5 b 1&&i5 (P.cellsOf e) 1 then .appT e s x else .append n b s x) else none
      |_,_,_=>none
     |_=>none
    |.copy,[d,s]=>match ty 0 with
     |some (.slice e)=>(sizeOf? P e).map fun n=>.copy n d s
     |_=>none
    |.len,[x]=>match ty 0 with
     |some .string=>some (.lenStr x)
     |some (.slice _)=>some (.lenS x)
     |some (.map _ _)=>some (.lenMap x)
     |some (.array n _)=>some (.lenK n)
     |some (.pointer a)=>match P.underlying a with
      |some (.array n _)=>some (.lenK n)
      |_=>none
     |_=>none
    |.cap,[x]=>match ty 0 with
     |some (.slice _)=>some (.capS x)
     |_=>none
    |.min,l=>some (.minI l)
    |.max,l=>some (.maxI l)
    |.clear,[x]=>match ty 0 with
     |some (.slice e)=>match sizeOf? P e,zeroCells? P e with
      |some n,some z=>some (.clearS n z x)
      |_,_=>none
     |_=>none
    |.recover,[]=>some .recover
    |.unsafeString,[p,n]=>match ty 0 with
     |some (.pointer e)=>bif i5 (P.cellsOf e) 1&&i5 c.argTypes.size 2 then some (.unsafeStr e p n) else none
     |_=>none
    |.unsafeSliceData,[x]=>some (.sliceData x)
    |_,_=>none
 |.defer c=>match c.callee,cOpds c.args.toList with
  |.value x,some args=>(cOpd x).map fun x=>.defer x args
  |_,_=>none
 |_=>none
def opWord:Op→String
 |.move _=> "move" |.assign _=> "assign" |.pick .. => "pick" |.alloc _=> "alloc" |.box .. => "box" |.build .. => "build" |.buildSlice .. => "buildSlice"
 |.insert .. => "insert" |.load .. => "load" |.store .. => "store" |.ready _=> "ready" |.waits _=> "waits" |.nilCheck _=> "nilCheck"
 |.binOp .. => "binOp" |.unOp .. => "unOp" |.convert .. => "convert" |.makeInterface .. => "makeInterface"
 |.makeFunc .. => "makeFunc" |.makeMap .. => "makeMap" |.makeSlice .. => "makeSlice" |.slice .. => "slice"
 |.fieldAddr .. => "fieldAddr" |.field .. => "field" |.indexAddr .. => "indexAddr" |.index .. => "index" |.lookup .. => "lookup" |.mapUpdate .. => "mapUpdate"
 |.typeAssert .. => "typeAssert" |.extract .. => "extract"
 |.call {callee:=.builtin b,..}=> "builtin"
 |.call _=> "call" |.defer _=> "defer" |.panic _=> "panic" |_=> "other"
def cGuard(ops:Array Oper):Option (Nat×Bool)→Option (Option (Nat×Bool))
 |none=>some none
 |some (j,b)=>match (ops[j]?).bind (·.dst) with
  |some d=>some (some (d,b))
  |none=>none
def dstOk(N:Nat):Option Nat→Bool
 |none=>true
 |some d=>iq d N
def cOper(P:Program)(N:Nat)(ops:Array Oper)(o:Oper):AOper:=
 match cGuard ops o.guard,cOp P o.op with
 |some g,some op=>bif dstOk N o.dst then{dst:=o.dst,guard:=g,op:=bif shown op||isDefer op then op else .bad (opWord o.op)} else{dst:=none,guard:=none,op:=.bad "dst"}
 |_,_=>{dst:=o.dst,guard:=none,op:=.bad (opWord o.op)}
def predsOf(ops:List Oper):List (List Nat):=
 ops.foldl (fun acc o=>acc++[((o.after.toList.filter (Region.binds .any)).foldl (fun l e=>e.on::(acc.getD e.on []++l)) []).eraseDups]) []
def edgeTo(pr:List (List Nat))(o:Oper)(i:Nat):Bool:=o.after.toList.any fun e=>Region.binds .any e&&(i5 e.on i||(pr.getD e.on []).any (i5 i))
def predsOk(pr:List (List Nat)):List Oper→Nat→Bool
 | [],_=>true
 |o::r,j=>(o.after.toList.all fun e=> !Region.binds .any e||iq e.on j)&&(pr.getD j []).all (edgeTo pr o)&&predsOk pr r (j+1)
def memN(l:List Nat)(k:Nat):Bool:=l.any (i5 k)
def dstIn(l:List Nat):Option Nat→Bool
 |none=>false
 |some d=>memN l d
def sameDst:Option Nat→Option Nat→Bool
 |some a,some b=>i5 a b
 |_,_=>false
def slotsApart(a b:DOp):Bool:= !dstIn b.reads a.o.dst&& !dstIn a.reads b.o.dst&& !sameDst a.o.dst b.o.dst
def pairsOk(all:List DOp):List DOp→Bool
 | []=>true
 |b::r=>b.free.all (fun i=>match all[i]? with
   |some a=>slotsApart a b
   |none=>false)&&pairsOk all r
def opdTmps(o:Oper)(g:Option (Nat×Bool)):List Nat:=
 (o.op.operands.toList.filterMap fun|.tmp t=>some t|_=>none)++(match g with|some (d,_)=>[d]|none=>[])
def cDraw(P:Program)(N:Nat)(ops:Array Oper):Option (List DOp):=
 let l:=ops.toList
 let pr:=predsOf l
 let ds:=l.zipIdx.map fun(o,j)=>
  let a:=cOper P N ops o
  {o:=a,reads:=opdTmps o a.guard,free:=(List.range j).filter fun i=> !memN (pr.getD j []) i:DOp}
 bif predsOk pr l 0&&pairsOk ds ds then some ds else none
def cCode(P:Program)(N:Nat):Code→ACode
 |.skip=>.skip
 |.region _ ops d=>if d then(match cDraw P N ops with
   |some l=>.draw l
   |none=>.bad "draw") else .region (ops.toList.map (cOper P N ops))
 |.seq a b=>.seq (cCode P N a) (cCode P N b)
 |.cond c a b=>match cOpd c with
  |some c=>.cond c (cCode P N a) (cCode P N b)
  |none=>.bad "cond"
 |.block id b=>.block id (cCode P N b)
 |.loop b=>.loop (cCode P N b)
 |.exit id=>.exit id
 |.ret=>.ret
 |.scope c=>.seq .skip (cCode P N c)
 |.label _=>.skip
 |.goto _=>.bad "goto"
 |.rangeFunc g ps a b=>match cOpd g with
  |some g=>.range g ps.toList a b N
  |none=>.bad "rangeFunc"
 |.refuse w=>.bad w
def cRes(P:Program):List ResultVar→Option (List ARes)
 | []=>some []
 |.tmp t::r=>(cRes P r).map (.tmp t:: ·)
 |.cell a t::r=>match loadN? P t,cRes P r with
  |some n,some l=>some (.cell a n::l)
  |_,_=>none
def cFun(P:Program)(f:Func):Option AFun:=
 match f.body,cRes P f.results.toList with
 |some b,some l=>some {body:=cCode P f.ntmps b,res:=l}
 |_,_=>none
def funOf(P:Program)(g:Nat):Option AFun:=
 match P.funcs[g]? with
 |some f=>bif f.name== "runtime.NumGoroutine" then none else cFun P f
 |none=>none
end Go.AM
namespace Go.AM
open Go.RowKit
abbrev Snap:=Nat→Nat→Option Value
abbrev Emb:=Nat→Option (Nat×Nat×Nat)
def nof:Emb:=fun _=>none
def OwnAt(B O R off n c:Nat)(x:Value):Prop:=x=.slice (some ⟨B,O+off,none⟩) n c∨(n=0∧c=0∧∃q,q≤R∧x=.slice (some ⟨B,O+q,none⟩) 0 0)
theorem OwnAt.pos{B O R off n c:Nat}{x:Value}(h:OwnAt B O R off n c x)(hn:0<n∨0<c):x=.slice (some ⟨B,O+off,none⟩) n c:=by
 rcases h with h|⟨h1,h2,_⟩
 ·exact h
 ·omega
mutual
def Rel(S:Snap):Emb→AV→Value→Prop
 |_,.val v,x=>x=v∧v.oneCell'=true
 |f,.agg cs,x=>∃xs:List Value,x=.agg xs.toArray∧xs.all (·.oneCell')=true∧RelL S f cs xs
 |f,.tup cs,x=>∃xs:List Value,x=.tuple xs.toArray∧RelL S f cs xs
 |_,.imm cs n cap,x=>∃b off c,x=.slice (some ⟨b,off,none⟩) n c∧n≤c∧(∀k,cap=some k→c=k)∧RelC S cs b off
 |f,.own b off n es cap,x=>∃B O R c,f b=some (B,O,R)∧OwnAt B O R off n c x∧n≤c∧(∀k,cap=some k→c=k)∧off+c*es≤R∧(cap=none→R≤off+c*es)
 |f,.ptr b off,x=>∃B O R,f b=some (B,O,R)∧x=.pointer (some ⟨B,O+off,none⟩)
 |_,.iptr cs,x=>∃b off,x=.pointer (some ⟨b,off,none⟩)∧RelC S cs b off
 |f,.ifc t v,x=>∃y,x=.iface t y∧Rel S f v y
 |f,.fn F a b,x=>∃xs ys:List Value,x=.func F xs.toArray ys.toArray∧RelL S f a xs∧RelL S f b ys
 |f,.mp b,x=>∃B O R,f b=some (B,O,R)∧x=.map (some B)
 |f,.it b,x=>∃B O R,f b=some (B,O,R)∧x=.pointer (some ⟨B,0,none⟩)
 |f,.yld b,x=>∃B O R,f b=some (B,O,R)∧x=.func (.yield B) #[] #[]
def RelL(S:Snap):Emb→List AV→List Value→Prop
 |_,[],xs=>xs=[]
 |f,c::cs,xs=>∃y ys,xs=y::ys∧Rel S f c y∧RelL S f cs ys
def RelC(S:Snap):List AV→Nat→Nat→Prop
 | [],_,_=>True
 |c::cs,b,off=>(∃y,S b off=some y∧y.oneCell'=true∧Rel S nof c y)∧RelC S cs b (off+1)
end
structure Le (S:Snap) (f:Emb) (S':Snap) (f':Emb):Prop where
 s:∀b off v,S b off=some v→S' b off=some v
 f:∀b x,f b=some x→f' b=some x
theorem Le.refl(S:Snap)(f:Emb):Le S f S f:=⟨fun _ _ _ h=>h,fun _ _ h=>h⟩
theorem Le.trans{S S' S'':Snap}{f f' f'':Emb}(h:Le S f S' f')(k:Le S' f' S'' f''):Le S f S'' f'':=
 ⟨fun b o v e=>k.s _ _ _ (h.s b o v e),fun b x e=>k.f _ _ (h.f b x e)⟩
mutual
theorem Rel.le{S S':Snap}{f f':Emb}(h:Le S f S' f'):∀(v:AV) (x:Value),Rel S f v x→Rel S' f' v x
 |.val _,_,r=>by simpa only[Rel] using r
 |.agg cs,_,r=>by simp only[Rel] at r⊢;obtain⟨xs,rfl,ho,r⟩:=r;exact⟨xs,rfl,ho,RelL.le h cs xs r⟩
 |.tup cs,_,r=>by simp only[Rel] at r⊢;obtain⟨xs,rfl,r⟩:=r;exact⟨xs,rfl,RelL.le h cs xs r⟩
 |.imm cs _ _,_,r=>by simp only[Rel] at r⊢;obtain⟨b,off,c,rfl,h1,h2,r⟩:=r;exact⟨b,off,c,rfl,h1,h2,RelC.le h cs b off r⟩
 |.own ..,_,r=>by simp only[Rel] at r⊢;obtain⟨B,O,R,c,h1,r⟩:=r;exact⟨B,O,R,c,h.f _ _ h1,r⟩
 |.ptr ..,_,r=>by simp only[Rel] at r⊢;obtain⟨B,O,R,h1,r⟩:=r;exact⟨B,O,R,h.f _ _ h1,r⟩
 |.iptr cs,_,r=>by simp only[Rel] at r⊢;obtain⟨b,off,rfl,r⟩:=r;exact⟨b,off,rfl,RelC.le h cs b off r⟩
 |.ifc _ v,_,r=>by simp only[Rel] at r⊢;obtain⟨y,rfl,r⟩:=r;exact⟨y,rfl,Rel.le h v y r⟩
 |.fn _ a b,_,r=>by simp only[Rel] at r⊢;obtain⟨xs,ys,rfl,r,r'⟩:=r;exact⟨xs,ys,rfl,RelL.le h a xs r,RelL.le h b ys r'⟩
 |.mp _,_,r=>by simp only[Rel] at r⊢;obtain⟨B,O,R,h1,r⟩:=r;exact⟨B,O,R,h.f _ _ h1,r⟩
 |.it _,_,r=>by simp only[Rel] at r⊢;obtain⟨B,O,R,h1,r⟩:=r;exact⟨B,O,R,h.f _ _ h1,r⟩
 |.yld _,_,r=>by simp only[Rel] at r⊢;obtain⟨B,O,R,h1,r⟩:=r;exact⟨B,O,R,h.f _ _ h1,r⟩
theorem RelL.le{S S':Snap}{f f':Emb}(h:Le S f S' f'):∀(cs:List AV) (xs:List Value),RelL S f cs xs→RelL S' f' cs xs
 | [],_,r=>by simpa only[RelL] using r
 |c::cs,_,r=>by simp only[RelL] at r⊢;obtain⟨y,ys,rfl,r,r'⟩:=r;exact⟨y,ys,rfl,Rel.le h c y r,RelL.le h cs ys r'⟩
theorem RelC.le{S S':Snap}{f f':Emb}(h:Le S f S' f'):∀(cs:List AV) (b off:Nat),RelC S cs b off→RelC S' cs b off
 | [],_,_,_=>by simp only[RelC]
 |c::cs,b,off,r=>by simp only[RelC] at r⊢;obtain⟨⟨y,e,ho,r⟩,r'⟩:=r;exact⟨⟨y,h.s _ _ _ e,ho,Rel.le (f:=nof) (f':=nof) ⟨h.s,fun _ _ e=>e⟩ c y r⟩,RelC.le h cs b (off+1) r'⟩
end
section lists
variable {S:Snap}{f:Emb}
theorem RelL.length:∀{cs:List AV} {xs:List Value},RelL S f cs xs→cs.length=xs.length
 | [],_,r=>by simp only[RelL] at r;simp[r]
 |_::_,_,r=>by simp only[RelL] at r;obtain⟨y,ys,rfl,_,r⟩:=r;simp[RelL.length r]
theorem RelL.get:∀{cs:List AV} {xs:List Value} {i:Nat} {c:AV},RelL S f cs xs→cs[i]? =some c→∃x,xs[i]? =some x∧Rel S f c x
 | [],_,_,_,_,h=>by simp at h
 |c::cs,_,0,_,r,h=>by
  simp only[RelL] at r;obtain⟨y,ys,rfl,r,_⟩:=r;simp at h;subst h;exact⟨y,rfl,r⟩
 |c::cs,_,i+1,_,r,h=>by
  simp only[RelL] at r;obtain⟨y,ys,rfl,_,r⟩:=r;obtain⟨x,hx,hr⟩:=RelL.get (i:=i) r (by simpa using h)
  exact⟨x,by simpa using hx,hr⟩
theorem RelL.append:∀{cs ds:List AV} {xs ys:List Value},RelL S f cs xs→RelL S f ds ys→RelL S f (cs++ds) (xs++ys)
 | [],_,_,_,r,r'=>by simp only[RelL] at r;subst r;exact r'
 |_::_,_,_,_,r,r'=>by
  simp only[RelL] at r;obtain⟨y,ys,rfl,r,r''⟩:=r;simp only[List.cons_append,RelL];exact⟨y,_,rfl,r,RelL.append r'' r'⟩
theorem RelL.drop:∀{cs:List AV} {xs:List Value} (n:Nat),RelL S f cs xs→RelL S f (cs.drop n) (xs.drop n)
 |_,_,0,r=>r
 | [],_,n+1,r=>by simp only[RelL] at r;subst r;simp[RelL]
 |_::_,_,n+1,r=>by
  simp only[RelL] at r;obtain⟨y,ys,rfl,_,r⟩:=r;exact RelL.drop n r
theorem RelL.take:∀{cs:List AV} {xs:List Value} (n:Nat),RelL S f cs xs→RelL S f (cs.take n) (xs.take n)
 |_,_,0,_=>by simp[RelL]
 | [],_,n+1,r=>by simp only[RelL] at r;subst r;simp[RelL]
 |_::_,_,n+1,r=>by
  simp only[RelL] at r;obtain⟨y,ys,rfl,r,r'⟩:=r;simp only[jm,RelL];exact⟨y,_,rfl,r,RelL.take n r'⟩
theorem RelL.flatVals:∀(l:List Value),l.all (·.oneCell')=true→RelL S f (l.map .val) l
 | [],_=>by simp[RelL]
 |v::l,h=>by
  simp only[List.all_cons,i9] at h;simp only[jd,RelL];exact⟨v,l,rfl,by simp[Rel,h.1],RelL.flatVals l h.2⟩
theorem RelC.drop:∀{cs:List AV} {b off:Nat} (n:Nat),RelC S cs b off→RelC S (cs.drop n) b (off+n)
 |_,_,_,0,r=>r
 | [],_,_,n+1,_=>by simp[RelC]
 |_::cs,b,off,n+1,r=>by
  simp only[RelC] at r;have:=RelC.drop n r.2
  simpa [jn,Nat.add_comm,Nat.add_left_comm] using this
theorem RelC.take:∀{cs:List AV} {b off:Nat} (n:Nat),RelC S cs b off→RelC S (cs.take n) b off
 |_,_,_,0,_=>by simp[RelC]
 | [],_,_,n+1,_=>by simp[RelC]
 |_::cs,b,off,n+1,r=>by
  simp only[RelC,jm] at r⊢
  exact⟨r.1,RelC.take n r.2⟩
theorem RelC.get:∀{cs:List AV} {b off i:Nat} {c:AV},RelC S cs b off→cs[i]? =some c→∃x,S b (off+i)=some x∧x.oneCell'=true∧Rel S nof c x
 | [],_,_,_,_,_,h=>by simp at h
 |c::cs,b,off,0,_,r,h=>by
  simp only[RelC] at r;simp at h;subst h;exact r.1
 |c::cs,b,off,i+1,_,r,h=>by
  simp only[RelC] at r;obtain⟨x,hx,ho,hr⟩:=RelC.get (i:=i) r.2 (by simpa using h)
  exact⟨x,by rw[←hx];congr 1;omega,ho,hr⟩
theorem RelC.of_get:∀{cs:List AV} {b off:Nat},(∀(i:Nat) (c:AV),cs[i]? =some c→∃x,S b (off+i)=some x∧x.oneCell'=true∧Rel S nof c x)→RelC S cs b off
 | [],_,_,_=>by simp[RelC]
 |c::cs,b,off,h=>by
  simp only[RelC];refine⟨h 0 c (by simp),RelC.of_get fun i d hd=>?_⟩
  obtain⟨x,hx,ho,hr⟩:=h (i+1) d (by simpa using hd)
  exact⟨x,by rw[←hx];congr 1;omega,ho,hr⟩
theorem RelL.of_get:∀{cs:List AV} {xs:List Value},cs.length=xs.length→(∀(i:Nat) (c:AV),cs[i]? =some c→∃x,xs[i]? =some x∧Rel S f c x)→RelL S f cs xs
 | [],[],_,_=>by simp[RelL]
 |c::cs,x::xs,hl,h=>by
  simp only[RelL];obtain⟨y,hy,hr⟩:=h 0 c (by simp)
  simp at hy;subst hy;refine⟨x,xs,rfl,hr,RelL.of_get (by simpa using hl) fun i d hd=>?_⟩
  obtain⟨z,hz,hr⟩:=h (i+1) d (by simpa using hd)
  exact⟨z,by simpa using hz,hr⟩
 | [],_::_,hl,_=>by simp at hl
 |_::_,[],hl,_=>by simp at hl
theorem Rel.any{v:AV}{x:Value}(r:Rel S nof v x):Rel S f v x:=Rel.le ⟨fun _ _ _ h=>h,fun _ _ h=>by cases h⟩ _ _ r
theorem Rel.ofFlat{v:Value}{a:AV}(h:AM.ofFlat v=some a):Rel S f a v:=by
 unfold AM.ofFlat at h;split at h
 ·rename_i cs;cases hc:cs.toList.all (·.oneCell')<;>simp[hc] at h
  subst h;simp only[Rel];exact⟨cs.toList,by simp,hc,RelL.flatVals _ hc⟩
 ·rename_i cs;cases hc:cs.toList.all (·.oneCell')<;>simp[hc] at h
  subst h;simp only[Rel];exact⟨cs.toList,by simp,RelL.flatVals _ hc⟩
 ·rename_i h1 h2;simp at h;subst h;cases v<;>simp_all [Rel,Value.oneCell']
theorem Rel.one{v:AV}{x:Value}(r:Rel S f v x)(h1:∀cs,v≠ .agg cs)(h2:∀cs,v≠ .tup cs):x.oneCell'=true:=by
 cases v with
 |agg cs=>exact absurd rfl (h1 cs)
 |tup cs=>exact absurd rfl (h2 cs)
 |val v=>simp only[Rel] at r;rw[r.1];exact r.2
 |imm=>simp only[Rel] at r;obtain⟨_,_,_,rfl,_⟩:=r;rfl
 |own=>
  simp only[Rel] at r;obtain⟨_,_,_,_,_,hX,_⟩:=r;rcases hX with rfl|⟨_,_,_,_,rfl⟩<;>rfl
 |ptr=>simp only[Rel] at r;obtain⟨_,_,_,_,rfl⟩:=r;rfl
 |iptr=>simp only[Rel] at r;obtain⟨_,_,rfl,_⟩:=r;rfl
 |ifc=>simp only[Rel] at r;obtain⟨_,rfl,_⟩:=r;rfl
 |fn=>simp only[Rel] at r;obtain⟨_,_,rfl,_⟩:=r;rfl
 |mp=>simp only[Rel] at r;obtain⟨_,_,_,_,rfl⟩:=r;rfl
 |it=>simp only[Rel] at r;obtain⟨_,_,_,_,rfl⟩:=r;rfl
 |yld=>simp only[Rel] at r;obtain⟨_,_,_,_,rfl⟩:=r;rfl
theorem xc{x:Value}(h:x.oneCell'=true):x.cells= #[x]:=by cases x<;>simp_all [Value.oneCell',Value.cells]
theorem Rel.cells{v:AV}{x:Value}{l:List AV}(r:Rel S f v x)(h:v.cells=some l):RelL S f l x.cells.toList∧x.cells.toList.all (·.oneCell')=true:=by
 by_cases h1:∃cs,v=.agg cs
 ·obtain⟨cs,rfl⟩:=h1;simp[AV.cells] at h;subst h;simp only[Rel] at r;obtain⟨xs,rfl,ho,r⟩:=r;exact⟨by simpa [Value.cells] using r,by simpa [Value.cells] using ho⟩
 ·by_cases h2:∃cs,v=.tup cs
  ·obtain⟨cs,rfl⟩:=h2;simp[AV.cells] at h
  ·have ho:=r.one (fun cs e=>h1 ⟨cs,e⟩) (fun cs e=>h2 ⟨cs,e⟩);have hl:l=[v]:=by cases v<;>simp_all [AV.cells]
   subst hl;rw[xc ho];exact⟨by simp only[RelL];exact⟨x,[],rfl,r,rfl⟩,by simp[ho]⟩
end lists
def isCells:Obj→Bool
 |.cells .. =>true
 |_=>false
def Clean(w:World)(B:Nat):Prop:=∀arr t lo hi,w.heap[B]? =some (.cells arr t (lo,hi))→lo=hi∨arr.size≤lo
structure SameReg (w w':World) (B O R:Nat):Prop where
 cell:∀i,i<R→w'.cell? ⟨B,O+i,none⟩=w.cell? ⟨B,O+i,none⟩
 frozen:∀i,i<R→(w.cell? ⟨B,O+i,none⟩).isSome=true→w'.frozen? ⟨B,O+i,none⟩=w.frozen? ⟨B,O+i,none⟩
 clean:(∃i,i<R∧(w.cell? ⟨B,O+i,none⟩).isSome=true)→Clean w B→Clean w' B
 obj:O=0→0<R→∀o,w.heap[B]? =some o→isCells o=false→w'.heap[B]? =some o
 shp:∀sh,w.shape? B=some sh→w'.shape? B=some sh
theorem SameReg.trans{w w' w'':World}{B O R:Nat}(a:SameReg w w' B O R)(b:SameReg w' w'' B O R):SameReg w w'' B O R:=
 ⟨fun i hi=>(b.cell i hi).trans (a.cell i hi),fun i hi hs=>(b.frozen i hi (by rw[a.cell i hi];exact hs)).trans (a.frozen i hi hs),fun⟨i,hi,hs⟩ c=>b.clean ⟨i,hi,by rw[a.cell i hi];exact hs⟩ (a.clean ⟨i,hi,hs⟩ c),fun h0 hR o ho hc=>b.obj h0 hR o (a.obj h0 hR o ho hc) hc,fun sh h=>b.shp sh (a.shp sh h)⟩
def RelM(S:Snap)(f:Emb):List (Value×AV)→List MapEntry→Prop
 | [],l=>l=[]
 |(k,v)::r,l=>∃e l',l=e::l'∧e.key=k∧Rel S f v e.val∧RelM S f r l'
theorem RelM.length{S:Snap}{f:Emb}:∀{es:List (Value×AV)} {l:List MapEntry},RelM S f es l→es.length=l.length
 | [],l,h=>by simp only[RelM] at h;simp[h]
 |(k,v)::es,l,h=>by
  simp only[RelM] at h;obtain⟨e,l',rfl,_,_,h⟩:=h;simp[h.length]
theorem RelM.le{S S':Snap}{f f':Emb}(h:Le S f S' f'):∀(es:List (Value×AV)) (l:List MapEntry),RelM S f es l→RelM S' f' es l
 | [],_,r=>r
 |(k,v)::es,_,r=>by simp only[RelM] at r⊢;obtain⟨e,l',rfl,hk,hv,r⟩:=r;exact⟨e,l',rfl,hk,hv.le h _ _,RelM.le h es l' r⟩
def TmG(S:Snap)(f:Emb)(tm:Tr AV)(t:Array Value):Prop:=∀i v,tm.get i=some v→∃x,t[i]? =some x∧Rel S f v x
theorem TmG.le{S S':Snap}{f f':Emb}{tm:Tr AV}{t:Array Value}(h:TmG S f tm t)(l:Le S f S' f'):TmG S' f' tm t:=
 fun i v e=>let ⟨x,hx,hr⟩:=h i v e;⟨x,hx,hr.le l _ _⟩
def exC:Ex→Option Code
 |.normal=>none
 |.exit id=>some (.exit id)
 |.ret=>some .ret
def LStR:LSt→Go.Loop→Prop
 |.ready,r=>r.state=.ready∧r.pending=none
 |.busy,r=>r.state=.busy
 |.done e,r=>r.state=.done∧r.pending=exC e∧isNorm e=false
 |.gone,r=>r.state=.exhausted
where isNorm:Ex→Bool
 |.normal=>true
 |_=>false
def Born(arr:Array MapEntry)(clock:Nat):Prop:=clock=arr.size∧∀(i:Nat) (e:MapEntry),arr[i]? =some e→e.born=i
def BlkR(S:Snap)(f:Emb):Blk→Nat→Nat→Nat→World→Prop
 |.cells cs rw,B,O,R,w=>cs.length≤R∧(∀(i:Nat) (c:AV),cs[i]? =some c→∃y,w.cell? ⟨B,O+i,none⟩=some y∧y.oneCell'=true∧Rel S f c y)∧
   (∀i,i<R→(w.cell? ⟨B,O+i,none⟩).isSome=true)∧(rw=true→∀i,i<R→w.frozen? ⟨B,O+i,none⟩=false∧S B (O+i)=none)∧
   (rw=true→0<R→Clean w B)
 |.map es,B,O,R,w=>O=0∧R=1∧∃arr clock,w.heap[B]? =some (.map arr clock)∧RelM S f es arr.toList∧Born arr clock
 |.iter s pos,B,O,R,w=>O=0∧R=1∧w.heap[B]? =some (.stringIter s pos)
 |.miter none,B,O,R,w=>O=0∧R=1∧∃a b c,w.heap[B]? =some (.mapIter none a b c)
 |.miter (some m),B,O,R,w=>O=0∧R=1∧∃M O' R' since stepped,f m=some (M,O',R')∧w.heap[B]? =some (.mapIter (some M) since #[] stepped)
 |.mit1 m on,B,O,R,w=>O=0∧R=1∧∃M O' R',f m=some (M,O',R')∧w.heap[B]? =some (.mapIter (some M) 1 (if on then #[0] else #[]) 1)
 |.mitr m n seen,B,O,R,w=>O=0∧R=1∧∃M O' R',f m=some (M,O',R')∧w.heap[B]? =some (.mapIter (some M) n seen.toArray n)
 |.loop tm ps asg body M st,B,O,R,w=>O=0∧R=1∧∃r:Go.Loop,w.heap[B]? =some (.loop r)∧r.params.toList=ps∧r.assign=asg∧r.body=body∧M≤r.tmps.size∧TmG S f tm r.tmps∧LStR st r
 |.dfr on,B,O,R,w=>O=0∧R=1∧w.heap[B]? =some (.deferred (if on then some [] else none))
 |.tag b t n,B,O,R,w=>O=0∧R=0∧∃R1,f b=some (B,0,R1)∧w.shape? B=some (t,R1)∧∀k,n=some k→R1=k
structure WR (G:Nat→Option (List AV)) (base:Nat) (S:Snap) (f:Emb) (h:AH) (w:World):Prop where
 snap:∀b off v,S b off=some v→w.cell? ⟨b,off,none⟩=some v
 glob:∀g cs,G g=some cs→RelC S cs g 0
 blk:∀b k,h.get b=some k→∃B O R,f b=some (B,O,R)∧base≤B∧B<w.heap.size∧BlkR S f k B O R w
 apart:∀b b' B O R B' O' R',b≠b'→(h.get b).isSome=true→(h.get b').isSome=true→f b=some (B,O,R)→f b'=some (B',O',R')→B≠B'∨O+R≤O'∨O'+R'≤O
 dom:∀b x,f b=some x→b<h.next
 le:base≤w.heap.size
theorem BlkR.same{S:Snap}{f:Emb}{k:Blk}{B O R:Nat}{w w':World}(h:BlkR S f k B O R w)(s:SameReg w w' B O R):BlkR S f k B O R w':=by
 cases k with
 |cells cs rw=>
  simp only[BlkR] at h⊢
  obtain⟨h1,h2,h3,h4,h5⟩:=h;refine⟨h1,fun i c hc=>?_,fun i hi=>by rw[s.cell i hi];exact h3 i hi,fun hr i hi=>by rw[s.frozen i hi (h3 i hi)];exact h4 hr i hi,fun hr h0=>s.clean ⟨0,h0,h3 0 h0⟩ (h5 hr h0)⟩
  rw[s.cell i (by have:=(List.getElem?_eq_some_iff.1 hc).1;omega)]
  exact h2 i c hc
 |map es=>
  simp only[BlkR] at h⊢
  obtain⟨h1,h2,arr,clock,h3,h4⟩:=h;exact⟨h1,h2,arr,clock,s.obj h1 (by omega) _ h3 rfl,h4⟩
 |iter st pos=>
  simp only[BlkR] at h⊢
  exact⟨h.1,h.2.1,s.obj h.1 (by have:=h.2.1;omega) _ h.2.2 rfl⟩
 |miter m=>
  cases m with
  |none=>
   simp only[BlkR] at h⊢
   obtain⟨h1,h2,a,b,c,h3⟩:=h;exact⟨h1,h2,a,b,c,s.obj h1 (by omega) _ h3 rfl⟩
  |some m=>
   simp only[BlkR] at h⊢
   obtain⟨h1,h2,M,O',R',since,st,h3,h4⟩:=h;exact⟨h1,h2,M,O',R',since,st,h3,s.obj h1 (by omega) _ h4 rfl⟩
 |mit1 m on=>
  simp only[BlkR] at h⊢
  obtain⟨h1,h2,M,O',R',h3,h4⟩:=h;exact⟨h1,h2,M,O',R',h3,s.obj h1 (by omega) _ h4 rfl⟩
 |mitr m n seen=>
  simp only[BlkR] at h⊢
  obtain⟨h1,h2,M,O',R',h3,h4⟩:=h;exact⟨h1,h2,M,O',R',h3,s.obj h1 (by omega) _ h4 rfl⟩
 |loop tm ps asg body M st=>
  simp only[BlkR] at h⊢
  obtain⟨h1,h2,r,h3,h4⟩:=h;exact⟨h1,h2,r,s.obj h1 (by omega) _ h3 rfl,h4⟩
 |dfr on=>
  simp only[BlkR] at h⊢
  exact⟨h.1,h.2.1,s.obj h.1 (by have:=h.2.1;omega) _ h.2.2 rfl⟩
 |tag b t n=>
  simp only[BlkR] at h⊢
  obtain⟨h1,h2,R1,h3,h4,h5⟩:=h;exact⟨h1,h2,R1,h3,s.shp _ h4,h5⟩
theorem BlkR.le{S S':Snap}{f f':Emb}{k:Blk}{B O R:Nat}{w:World}(h:Le S f S' f')(r:BlkR S f k B O R w)
  (hs:∀i,i<R→S B (O+i)=none→S' B (O+i)=none):BlkR S' f' k B O R w:=by
 cases k with
 |cells cs rw=>
  simp only[BlkR] at r⊢
  obtain⟨h1,h2,h3,h4,h5⟩:=r;refine⟨h1,fun i c hc=>?_,h3,fun hr i hi=>⟨(h4 hr i hi).1,hs i hi (h4 hr i hi).2⟩,h5⟩;obtain⟨y,hy,ho,hr⟩:=h2 i c hc;exact⟨y,hy,ho,hr.le h _ _⟩
 |map es=>
  simp only[BlkR] at r⊢
  obtain⟨h1,h2,arr,clock,h3,h4⟩:=r;exact⟨h1,h2,arr,clock,h3,RelM.le h _ _ h4.1,h4.2⟩
 |iter st pos=>exact r
 |miter m=>
  cases m with
  |none=>exact r
  |some m=>
   simp only[BlkR] at r⊢
   obtain⟨h1,h2,M,O',R',since,st,h3,h4⟩:=r;exact⟨h1,h2,M,O',R',since,st,h.f _ _ h3,h4⟩
 |mit1 m on=>
  simp only[BlkR] at r⊢
  obtain⟨h1,h2,M,O',R',h3,h4⟩:=r;exact⟨h1,h2,M,O',R',h.f _ _ h3,h4⟩
 |mitr m n seen=>
  simp only[BlkR] at r⊢
  obtain⟨h1,h2,M,O',R',h3,h4⟩:=r;exact⟨h1,h2,M,O',R',h.f _ _ h3,h4⟩
 |loop tm ps asg body M st=>
  simp only[BlkR] at r⊢
  obtain⟨h1,h2,q,h3,h4,h5,h6,h7,h8,h9⟩:=r;exact⟨h1,h2,q,h3,h4,h5,h6,h7,h8.le h,h9⟩
 |dfr on=>exact r
 |tag b t n=>
  simp only[BlkR] at r⊢
  obtain⟨h1,h2,R1,h3,h4⟩:=r;exact⟨h1,h2,R1,h.f _ _ h3,h4⟩
theorem Tr.get_putF {α : Type} : ∀ (n : Nat) (t : Tr α) (k j : Nat) (x : Option α), k < n → (Tr.putF n t k x).get j = if j = k then x else t.get j := by
  intro n
  induction n with
  | zero => intro t k j x h; omega
  | succ n ih =>
    intro t k j x h;cases t with
    | nil =>
      unfold putF;cases hk : i5 k 0 with
      | true =>
        have hk0 : k = 0 := ij hk;subst hk0;simp only [cond_true, Tr.get];cases hj : i5 j 0 with
        | true => have : j = 0 := ij hj
                  simp [this]
        | false => have : j ≠ 0 := jx hj
                   simp [this]
      | false =>
        have hk0 : k ≠ 0 := jx hk;simp only [cond_false];cases hm : i5 (k % 2) 1 with
        | true =>
          have hm1 : k % 2 = 1 := ij hm;simp only [cond_true, Tr.get];rw [ih _ _ _ _ (by omega)]
          simp only [Tr.get];cases hj : i5 j 0 with
          | true => have : j = 0 := ij hj
                    simp [this]; omega
          | false =>
            have hj0 : j ≠ 0 := jx hj;simp only [cond_false];cases hjm : i5 (j % 2) 1 with
            | true =>
              have : j % 2 = 1 := ij hjm;simp only [cond_true]
              by_cases e : j = k
              · subst e; simp
              · rw [if_neg (by omega), if_neg e]
            | false =>
              have : j % 2 ≠ 1 := jx hjm;simp only [cond_false];rw [if_neg (by omega)]
        | false =>
          have hm1 : k % 2 ≠ 1 := jx hm;simp only [cond_false, Tr.get];rw [ih _ _ _ _ (by omega)]
          simp only [Tr.get];cases hj : i5 j 0 with
          | true => have : j = 0 := ij hj
                    simp [this]; omega
          | false =>
            have hj0 : j ≠ 0 := jx hj;simp only [cond_false];cases hjm : i5 (j % 2) 1 with
            | true =>
              have : j % 2 = 1 := ij hjm;simp only [cond_true];rw [if_neg (by omega)]
            | false =>
              have : j % 2 ≠ 1 := jx hjm;simp only [cond_false]
              by_cases e : j = k
              · subst e; simp
              · rw [if_neg (by omega), if_neg e]
    | nd l v r =>
      unfold putF;cases hk : i5 k 0 with
      | true =>
        have hk0 : k = 0 := ij hk;subst hk0;simp only [cond_true, Tr.get];cases hj : i5 j 0 with
        | true => have : j = 0 := ij hj
                  simp [this]
        | false => have : j ≠ 0 := jx hj
                   simp [this]
      | false =>
        have hk0 : k ≠ 0 := jx hk;simp only [cond_false];cases hm : i5 (k % 2) 1 with
        | true =>
          have hm1 : k % 2 = 1 := ij hm;simp only [cond_true, Tr.get];rw [ih _ _ _ _ (by omega)]
          cases hj : i5 j 0 with
          | true => have : j = 0 := ij hj
                    subst this;simp only [cond_true];rw [if_neg (by omega)]
          | false =>
            have hj0 : j ≠ 0 := jx hj;simp only [cond_false];cases hjm : i5 (j % 2) 1 with
            | true =>
              have : j % 2 = 1 := ij hjm;simp only [cond_true]
              by_cases e : j = k
              · subst e; simp
              · rw [if_neg (by omega), if_neg e]
            | false =>
              have : j % 2 ≠ 1 := jx hjm;simp only [cond_false];rw [if_neg (by omega)]
        | false =>
          have hm1 : k % 2 ≠ 1 := jx hm;simp only [cond_false, Tr.get];rw [ih _ _ _ _ (by omega)]
          cases hj : i5 j 0 with
          | true => have : j = 0 := ij hj
                    subst this;simp only [cond_true];rw [if_neg (by omega)]
          | false =>
            have hj0 : j ≠ 0 := jx hj;simp only [cond_false];cases hjm : i5 (j % 2) 1 with
            | true =>
              have : j % 2 = 1 := ij hjm;simp only [cond_true];rw [if_neg (by omega)]
            | false =>
              have : j % 2 ≠ 1 := jx hjm;simp only [cond_false]
              by_cases e : j = k
              · subst e; simp
              · rw [if_neg (by omega), if_neg e]
theorem Tr.get_put{α:Type}(t:Tr α)(k j:Nat)(x:Option α):(t.put k x).get j=if j=k then x else t.get j:=Tr.get_putF (k+1) t k j x (by omega)
theorem AH.get_put(h:AH)(b j:Nat)(x:Option Blk):(h.put b x).get j=if j=b then x else h.get j:=Tr.get_put _ _ _ _
theorem AH.get_alloc(h:AH)(j:Nat)(x:Blk):(h.alloc x).get j=if j=h.next then some x else h.get j:=Tr.get_put _ _ _ _
@[simp] theorem AH.next_put (h : AH) (b : Nat) (x : Option Blk) : (h.put b x).next = h.next := rfl
@[simp] theorem AH.next_alloc (h : AH) (x : Blk) : (h.alloc x).next = h.next + 1 := rfl
end Go.AM
namespace Go.AM
open Go.RowKit
def upd(f:Emb)(b:Nat)(x:Nat×Nat×Nat):Emb:=fun j=>if j=b then some x else f j
theorem aR(f:Emb)(b:Nat)(x:Nat×Nat×Nat):upd f b x b=some x:=by simp[upd]
theorem bP{f:Emb}{b j:Nat}{x:Nat×Nat×Nat}(h:j≠b):upd f b x j=f j:=by simp[upd,h]
theorem Le.upd{S:Snap}{f:Emb}{b:Nat}(x:Nat×Nat×Nat)(h:f b=none):Le S f S (upd f b x):=
 ⟨fun _ _ _ e=>e,fun j y e=>by rw[bP];exact e;intro hj;subst hj;rw[h] at e;cases e⟩
def Apart(f:Emb)(h:AH)(B O R:Nat):Prop:=
 ∀b B' O' R',(h.get b).isSome=true→f b=some (B',O',R')→B≠B'∨O+R≤O'∨O'+R'≤O
structure Goes (G:Nat→Option (List AV)) (base:Nat) (S:Snap) (f:Emb) (h:AH) (w:World) (S':Snap) (f':Emb) (h':AH) (w':World):Prop where
 le:Le S f S' f'
 wr:WR G base S' f' h' w'
 below:Below base w w'
 keep:∀B O R,B<w.heap.size→Apart f h B O R→SameReg w w' B O R∧∀i,i<R→S' B (O+i)=S B (O+i)
 live:∀b B O R,(h'.get b).isSome=true→f' b=some (B,O,R)→
  w.heap.size≤B∨∃b0 O0 R0,(h.get b0).isSome=true∧f b0=some (B,O0,R0)∧O0≤O∧O+R≤O0+R0
 fresh:∀b x,f' b=some x→b<h.next→f b=some x
 nx:h.next≤h'.next
variable {G:Nat→Option (List AV)}{base:Nat}{S:Snap}{f:Emb}{h:AH}{w:World}
theorem kP(w:World)(arr:Array Value)(t:TypeId):Clean (w.alloc (.cells arr t)) w.heap.size:=fun arr' t' lo hi h=>by
 have:(w.alloc (.cells arr t)).heap[w.heap.size]? =some (.cells arr t):=by
  show(w.heap.push (.cells arr t))[w.heap.size]? =_;simp
 rw[this] at h;cases h;exact .inl rfl
theorem m9{w:World}{B:Nat}(c:Clean w B)(a:Addr)(v:Value):Clean (w.setCell a v) B:=fun arr t lo hi h=>by
 simp only[World.setCell,Bn] at h;split at h
 ·cases hq:w.heap[B]? with
  |none=>rw[hq] at h;cases h
  |some o=>
   rw[hq] at h;cases o with
   |cells arr0 t0 fz=>
    simp only[jo,sI,Obj.cells.injEq] at h;obtain⟨h1,h2,h3⟩:=h;subst h3;have:=c arr0 t0 lo hi hq;have hs:arr.size=arr0.size:=by rw[←h1];split<;>simp
    rw[hs];exact this
   |_=>cases h
 ·exact c arr t lo hi h
theorem cC{B:Nat}(B':Nat):∀(vs:List Value) (o:Nat) (w:World),Clean w B→Clean (w.setCells B' o vs) B
 | [],_,_,c=>c
 |v::vs,o,w,c=>cC B' vs _ _ (m9 c _ v)
theorem aQ{w w':World}{B O R:Nat}(e:w'.heap[B]? =w.heap[B]?):SameReg w w' B O R:=
 ⟨fun _ _=>by simp only[World.cell?,e],fun _ _ _=>by simp only[World.frozen?,e],fun _ c=>by unfold Clean at c⊢;rw[e];exact c,fun _ _ o ho _=>by rw[e];exact ho,fun sh h=>by simp only[World.shape?,e] at h⊢;exact h⟩
theorem bB{f:Emb}{h:AH}{n:Nat}:∀b B O R,(h.get b).isSome=true→f b=some (B,O,R)→
  n≤B∨∃b0 O0 R0,(h.get b0).isSome=true∧f b0=some (B,O0,R0)∧O0≤O∧O+R≤O0+R0:=
 fun b _ O R hb hf=>.inr ⟨b,O,R,hb,hf,i7 _,i7 _⟩
theorem WR.goes(r:WR G base S f h w):Goes G base S f h w S f h w:=⟨.refl _ _,r,.refl _ _,fun _ _ _ _ _=>⟨aQ rfl,fun _ _=>rfl⟩,bB,fun _ _ h _=>h,i7 _⟩
theorem Goes.trans{S' S'':Snap}{f' f'':Emb}{h' h'':AH}{w' w'':World}(a:Goes G base S f h w S' f' h' w')(b:Goes G base S' f' h' w' S'' f'' h'' w''):
  Goes G base S f h w S'' f'' h'' w'':=by
 refine⟨a.le.trans b.le,b.wr,a.below.trans b.below,fun B O R hB hap=>?_,fun c B O R hc hf=>?_,fun c x hx hlt=>a.fresh c x (b.fresh c x hx (A9 hlt a.nx)) hlt,Aj a.nx b.nx⟩
 ·obtain⟨h1,h2⟩:=a.keep B O R hB hap;have hap':Apart f' h' B O R:=fun c B' O' R' hc hf=>by
   rcases a.live c B' O' R' hc hf with h|⟨b0,O0,R0,g1,g2,g3,g4⟩
   ·left;omega
   ·have:=hap b0 B' O0 R0 g1 g2;omega
  obtain⟨h3,h4⟩:=b.keep B O R (A9 hB a.below.size) hap';exact⟨h1.trans h3,fun i hi=>(h4 i hi).trans (h2 i hi)⟩
 ·rcases b.live c B O R hc hf with h|⟨b0,O0,R0,g1,g2,g3,g4⟩
  ·exact .inl (Aj a.below.size h)
  ·rcases a.live b0 B O0 R0 g1 g2 with h|⟨b1,O1,R1,k1,k2,k3,k4⟩
   ·exact .inl h
   ·exact .inr ⟨b1,O1,R1,k1,k2,by omega,by omega⟩
theorem WR.fresh(r:WR G base S f h w):f h.next=none:=by
 cases e:f h.next with
 |none=>rfl
 |some x=>have:=r.dom _ _ e;omega
theorem Hy{a:Addr}{v:Value}(h:w.cell? a=some v):a.block<w.heap.size:=by
 unfold World.cell? at h;split at h
 ·rename_i e;exact(Bf.1 e).1
 ·cases h
theorem WR.snap_lt(r:WR G base S f h w){b off:Nat}{v:Value}(hs:S b off=some v):b<w.heap.size:=Hy (r.snap b off v hs)
theorem WR.snap_none(r:WR G base S f h w){b:Nat}(off:Nat)(hb:w.heap.size≤b):S b off=none:=by
 cases e:S b off with
 |none=>rfl
 |some v=>have:=r.snap_lt e;omega
theorem dP(w:World)(o:Obj){k:Nat}(hk:k<w.heap.size):(w.alloc o).heap[k]? =w.heap[k]? :=Below.heap_alloc w o k hk
theorem mw(w:World)(a:Addr)(u:Value)(B:Nat):(w.setCell a u).shape? B=w.shape? B:=by
 simp only[World.shape?,World.setCell,Bn]
 by_cases e:a.block=B
 ·rw[if_pos e];cases hb:w.heap[B]? with
  |none=>rfl
  |some o=>cases o<;>simp<;>(split<;>simp)
 ·rw[if_neg e]
theorem b7(B:Nat):∀(vs:List Value) (b o:Nat) (w:World),(w.setCells b o vs).shape? B=w.shape? B
 | [],_,_,_=>rfl
 |v::vs,b,o,w=>by rw[World.setCells,b7 B vs,mw]
theorem WR.alloc(r:WR G base S f h w){o:Obj}{k:Blk}{R:Nat}(hk:∀f',Le S f S f'→BlkR S f' k w.heap.size 0 R (w.alloc o)):
  Goes G base S f h w S (upd f h.next (w.heap.size,0,R)) (h.alloc k) (w.alloc o):=by
 have hle:Le S f S (upd f h.next (w.heap.size,0,R)):=Le.upd _ r.fresh;refine⟨hle,⟨?_,?_,?_,?_,?_,?_⟩,(Below.refl _ _).alloc r.le o,fun B _ _ hB _=>⟨aQ (dP w o hB),fun _ _=>rfl⟩,?_,fun b x hf hlt=>by rw[bP (by omega)] at hf;exact hf,by simp⟩
 ·intro b off v hs;have hlt:=r.snap_lt hs;rw[←r.snap b off v hs];simp only[World.cell?,dP w o hlt]
 ·intro g cs hg;exact(r.glob g cs hg).le hle _ _ _
 ·intro b k' hb;rw[AH.get_alloc] at hb;split at hb
  ·rename_i e;subst e;simp at hb;subst hb;exact⟨_,_,_,aR _ _ _,r.le,by simp,hk _ hle⟩
  ·rename_i e;obtain⟨B,O,R',hf,hB,hs,hr⟩:=r.blk b k' hb;refine⟨B,O,R',by rw[bP e];exact hf,hB,by simp;omega,?_⟩
   exact(hr.le hle (fun _ _ e=>e)).same (aQ (dP w o hs))
 ·intro b b' B O R1 B' O' R2 hne h1 h2 hf1 hf2;rw[AH.get_alloc] at h1 h2
  by_cases e1:b=h.next
  ·subst e1;rw[aR] at hf1;simp only[sI,pI] at hf1;obtain⟨rfl,rfl,rfl⟩:=hf1;have e2:b'≠h.next:=fun e=>hne e.symm;rw[bP e2] at hf2;rw[if_neg e2] at h2;obtain⟨k',hk'⟩:=Af.1 h2;obtain⟨B3,O3,R3,hf3,_,hlt,hr3⟩:=r.blk b' k' hk';rw[hf2] at hf3;simp only[sI,pI] at hf3;obtain⟨rfl,rfl,rfl⟩:=hf3;left;omega
  ·rw[bP e1] at hf1;rw[if_neg e1] at h1
   by_cases e2:b'=h.next
   ·subst e2;rw[aR] at hf2;simp only[sI,pI] at hf2;obtain⟨rfl,rfl,rfl⟩:=hf2;obtain⟨k',hk'⟩:=Af.1 h1;obtain⟨B3,O3,R3,hf3,_,hlt,hr3⟩:=r.blk b k' hk';rw[hf1] at hf3;simp only[sI,pI] at hf3;obtain⟨rfl,rfl,rfl⟩:=hf3;left;omega
   ·rw[bP e2] at hf2;rw[if_neg e2] at h2;exact r.apart b b' B O R1 B' O' R2 hne h1 h2 hf1 hf2
 ·intro b x hf
  by_cases e:b=h.next
  ·subst e;simp
  ·rw[bP e] at hf;have:=r.dom b x hf;simp;omega
 ·have:=r.le;simp;omega
 ·intro b B O R' hb hf;rw[AH.get_alloc] at hb
  by_cases e:b=h.next
  ·subst e;rw[aR] at hf;simp only[sI,pI] at hf;left;omega
  ·rw[bP e] at hf;rw[if_neg e] at hb;exact bB b B O R' hb hf
theorem WR.allocCells(r:WR G base S f h w){cs:List AV}{arr:Array Value}(t:TypeId)(hr:RelL S f cs (arr.toList.take cs.length))(ho:arr.toList.all (·.oneCell')=true):
  Goes G base S f h w S (upd f h.next (w.heap.size,0,arr.size)) (h.alloc (.cells cs true)) (w.alloc (.cells arr t)):=by
 refine r.alloc fun f' hle=>?_
 have hlen:=hr.length;simp only[BlkR];refine⟨?_,fun i c hc=>?_,fun i hi=>?_,fun _ i hi=>⟨?_,r.snap_none _ (i7 _)⟩,fun _ _=>kP w arr t⟩
 ·rw[hlen];simp;omega
 ·obtain⟨x,hx,hrel⟩:=hr.get hc;have hx':arr[i]? =some x:=by
   have:=Bg (l:=arr.toList) (i:=cs.length) (j:=i);rw[this] at hx;split at hx
   ·simpa using hx
   ·cases hx
  refine⟨x,by rw[jp,World.cell?_alloc_new];exact hx',?_,hrel.le hle _ _⟩
  have:=iy.1 ho x;exact this (by have:=Array.mem_of_getElem? hx';simpa using this)
 ·rw[jp,World.cell?_alloc_new];simp[hi]
 ·rw[jp];exact World.frozen?_alloc_new w arr t i
theorem WR.drew(r:WR G base S f h w):WR G base S f h w.drew:=
 ⟨r.snap,r.glob,fun b k hb=>let ⟨B,O,R,h1,h2,h3,h4⟩:=r.blk b k hb;⟨B,O,R,h1,h2,h3,h4.same (aQ rfl)⟩,r.apart,r.dom,r.le⟩
theorem WR.setCells(r:WR G base S f h w){b:Nat}{cs cs':List AV}{B O R off:Nat}(hb:h.get b=some (.cells cs true))(hf:f b=some (B,O,R))(vs:List Value)
  (hR:off+vs.length≤R) (hlen:cs'.length≤R)
  (hcs:∀(i:Nat) (c:AV),cs'[i]? =some c→(i<off∨off+vs.length≤i)→cs[i]? =some c)
  (hvs:∀(i:Nat) (c:AV),cs'[off+i]? =some c→i<vs.length→∃y,vs[i]? =some y∧y.oneCell'=true∧Rel S f c y):
  Goes G base S f h w S f (h.put b (some (.cells cs' true))) (w.setCells B (O+off) vs):=by
 obtain⟨B0,O0,R0,hf0,hB,hsz,hr⟩:=r.blk b _ hb;rw[hf] at hf0;simp only[sI,pI] at hf0;obtain⟨rfl,rfl,rfl⟩:=hf0;have hr0:=hr;simp only[BlkR] at hr;obtain⟨h1,h2,h3,h4,h5⟩:=hr;have hin:∀j,j<vs.length→(w.cell? ⟨B,O+off+j,none⟩).isSome=true:=fun j hj=>by
  rw[jn];exact h3 (off+j) (by omega)
 have hbl:Below base w (w.setCells B (O+off) vs):=by
  have:∀(vs:List Value) (o:Nat) (w:World),Below base w (w.setCells B o vs):=by
   intro vs
   induction vs with
   |nil=>intro o w;exact .refl _ _
   |cons v vs ih=>intro o w;exact((Below.refl _ _).setCell (p:=⟨B,o,none⟩) hB v).trans (ih _ _)
  exact this _ _ _
 have hheap:∀j,j≠B→(w.setCells B (O+off) vs).heap[j]? =w.heap[j]? :=by
  have:∀(vs:List Value) (o:Nat) (w:World) (j:Nat),j≠B→(w.setCells B o vs).heap[j]? =w.heap[j]? :=by
   intro vs
   induction vs with
   |nil=>intro o w j _;rfl
   |cons v vs ih=>intro o w j hj;rw[World.setCells,ih _ _ _ hj];exact Below.heap_setCell w ⟨B,o,none⟩ v j hj
  exact this _ _ _
 refine⟨.refl _ _,⟨?_,r.glob,?_,?_,?_,?_⟩,hbl,?_,?_,fun _ _ h _=>h,i7 _⟩
 ·intro b' off' v hs;rw[World.cell?_setCells_out]
  ·exact r.snap _ _ _ hs
  ·intro e _;simp only at e⊢
   subst e;rcases Nat.lt_or_ge off' (O+off) with hlt|hge
   ·exact .inl hlt
   ·rcases Nat.lt_or_ge off' (O+off+vs.length) with hlt'|hge'
    ·have:=(h4 trivial (off'-O) (by omega)).2
     rw[show O+(off'-O)=off' by omega,hs] at this;cases this
    ·exact .inr hge'
 ·intro b' k hk;rw[AH.get_put] at hk;split at hk
  ·rename_i e;subst e;simp at hk;subst hk;refine⟨B,O,R,hf,hB,A9 hsz hbl.size,?_⟩;simp only[BlkR];refine⟨hlen,fun i c hc=>?_,fun i hi=>?_,fun _ i hi=>⟨?_,(h4 trivial i hi).2⟩,fun _ h0=>cC _ _ _ _ (h5 trivial h0)⟩
   ·by_cases hi:off≤i∧i<off+vs.length
    ·obtain⟨y,hy,ho,hrel⟩:=hvs (i-off) c (by rw[show off+(i-off)=i by omega];exact hc) (by omega)
     refine⟨y,?_,ho,hrel⟩;have:=World.cell?_setCells_in B vs (O+off) w hin (i-off) (by omega)
     rw[show O+off+(i-off)=O+i by omega] at this
     rw[this];rw[jk (by omega)] at hy
     exact hy
    ·obtain⟨y,hy,ho,hrel⟩:=h2 i c (hcs i c hc (by omega))
     refine⟨y,?_,ho,hrel⟩;rw[World.cell?_setCells_out]
     ·exact hy
     ·intro _ _;simp only;omega
   ·by_cases hi':off≤i∧i<off+vs.length
    ·have:=World.cell?_setCells_in B vs (O+off) w hin (i-off) (by omega)
     rw[show O+off+(i-off)=O+i by omega] at this
     rw[this];rfl
    ·rw[World.cell?_setCells_out]
     ·exact h3 i hi
     ·intro _ _;simp only;omega
   ·rw[World.frozen?_setCells];exact(h4 trivial i hi).1
  ·rename_i e;obtain⟨B',O',R',hf',hB',hsz',hr'⟩:=r.blk b' k hk;refine⟨B',O',R',hf',hB',A9 hsz' hbl.size,hr'.same ⟨fun i hi=>?_,fun i hi _=>World.frozen?_setCells _ _ _ _ _,fun _ c=>cC _ _ _ _ c,fun _ _ o ho hc=>?_,fun sh h=>by rw[b7];exact h⟩⟩
   ·rw[World.cell?_setCells_out];intro eB _;simp only at eB⊢
    subst eB;have:=r.apart b' b B' O' R' B' O R e (by simp[hk]) (by simp[hb]) hf' hf
    omega
   ·by_cases hBB:B'=B
    ·subst hBB;rcases Ar vs.length with hz|hp
     ·have:vs=[]:=C2.1 hz;subst this;exact ho
     ·exfalso;obtain⟨u,hu⟩:=Af.1 (hin 0 hp);simp only[World.cell?,ho] at hu;cases o<;>simp[isCells] at hc hu
    ·rw[hheap B' hBB];exact ho
 ·intro b1 b2 B1 O1 R1 B2 O2 R2 hne g1 g2 hf1 hf2;refine r.apart b1 b2 B1 O1 R1 B2 O2 R2 hne ?_ ?_ hf1 hf2
  ·rw[AH.get_put] at g1;split at g1
   ·rename_i e;subst e;simp[hb]
   ·exact g1
  ·rw[AH.get_put] at g2;split at g2
   ·rename_i e;subst e;simp[hb]
   ·exact g2
 ·exact r.dom
 ·exact Aj r.le hbl.size
 ·intro B' O' R' hB' hap;have hap:=hap b B O R (by simp[hb]) hf
  refine⟨⟨fun i hi=>?_,fun i hi _=>World.frozen?_setCells _ _ _ _ _,fun _ c=>cC _ _ _ _ c,fun h0 hR' o ho hc=>?_,fun sh h=>by rw[b7];exact h⟩,fun _ _=>rfl⟩
  ·rw[World.cell?_setCells_out];intro eB _;simp only at eB⊢
   subst eB;omega
  ·by_cases hBB:B'=B
   ·subst hBB;rcases Ar vs.length with hz|hp
    ·have:vs=[]:=C2.1 hz;subst this;exact ho
    ·exfalso;obtain⟨u,hu⟩:=Af.1 (hin 0 hp);simp only[World.cell?,ho] at hu;cases o<;>simp[isCells] at hc hu
   ·rw[hheap B' hBB];exact ho
 ·intro b' B' O' R' g hg;refine bB b' B' O' R' ?_ hg;rw[AH.get_put] at g;split at g
  ·rename_i e;subst e;simp[hb]
  ·exact g
theorem WR.kill(r:WR G base S f h w)(b:Nat):WR G base S f (h.put b none) w:=by
 refine⟨r.snap,r.glob,fun b' k hk=>?_,fun b1 b2 B1 O1 R1 B2 O2 R2 hne g1 g2 hf1 hf2=>?_,r.dom,r.le⟩
 ·rw[AH.get_put] at hk;split at hk
  ·cases hk
  ·exact r.blk b' k hk
 ·refine r.apart b1 b2 B1 O1 R1 B2 O2 R2 hne ?_ ?_ hf1 hf2
  ·rw[AH.get_put] at g1;split at g1
   ·cases g1
   ·exact g1
  ·rw[AH.get_put] at g2;split at g2
   ·cases g2
   ·exact g2
end Go.AM
namespace Go.AM
open Go.RowKit
structure TmR (S:Snap) (f:Emb) (tm:Tr AV) (t:Array Value) (N:Nat):Prop where
 size:t.size=N
 get:∀i v,tm.get i=some v→∃x,t[i]? =some x∧Rel S f v x
theorem TmR.le{S S':Snap}{f f':Emb}{tm:Tr AV}{t:Array Value}{N:Nat}(h:TmR S f tm t N)(l:Le S f S' f'):TmR S' f' tm t N:=
 ⟨h.size,fun i v e=>let ⟨x,hx,hr⟩:=h.get i v e;⟨x,hx,hr.le l _ _⟩⟩
variable {G:Nat→Option (List AV)}{base:Nat}{S:Snap}{f:Emb}{h:AH}{w:World}{P:Program}{E:Env}{s:St}{a:Act}{N:Nat}
theorem aA{x:Operand}{y:Opd}{v:AV}(ht:TmR S f s.tm a.tmps N)(hc:cOpd x=some y)(he:s.eval y=some v):Rel S f v (a.eval x):=by
 cases x with
 |tmp t=>
  simp[cOpd] at hc;subst hc;obtain⟨z,hz,hr⟩:=ht.get t v he
  simpa [Act.eval,Array.getD_eq_getD_getElem?,hz] using hr
 |const c=>
  simp only[cOpd,iw] at hc;obtain⟨u,hu,rfl⟩:=hc;simp only[St.eval,sI] at he;subst he;exact Rel.ofFlat hu
 |global g=>
  simp[cOpd] at hc;subst hc;simp only[St.eval,sI] at he;subst he;simp[Rel,Act.eval,Value.oneCell']
 |func g=>
  simp[cOpd] at hc;subst hc;simp only[St.eval,sI] at he;subst he;simp only[Rel,Act.eval];exact⟨[],[],rfl,by simp[RelL],by simp[RelL]⟩
theorem bE{xs:List Operand}{ys:List Opd}{vs:List AV}(ht:TmR S f s.tm a.tmps N)(hc:cOpds xs=some ys)(he:evalAll s ys=some vs):RelL S f vs (xs.map a.eval):=by
 induction xs generalizing ys vs with
 |nil=>
  simp[cOpds] at hc;subst hc;simp[evalAll] at he;subst he;simp[RelL]
 |cons x xs ih=>
  unfold cOpds at hc;cases h1:cOpd x with
  |none=>simp[h1] at hc
  |some y=>
   cases h2:cOpds xs with
   |none=>simp[h1,h2] at hc
   |some ys'=>
    simp[h1,h2] at hc;subst hc;unfold evalAll at he;cases h3:s.eval y with
    |none=>simp[h3] at he
    |some v=>
     cases h4:evalAll s ys' with
     |none=>simp[h3,h4] at he
     |some vs'=>
      simp[h3,h4] at he;subst he;simp only[jd,RelL];exact⟨_,_,rfl,aA ht h1 h3,ih h2 h4⟩
theorem eH{α:Type}{sem:Sem α}{r:α}(h:evalPure P sem=some r)(w:World):sem.run P w=.ok r w:=by
 induction sem with
 |pure x=>simp[evalPure] at h;subst h;rfl
 |program k ih=>simp only[evalPure] at h;simp only[Sem.run];exact ih P h
 |mark m k ih=>simp only[evalPure] at h;simp only[Sem.run];exact ih h
 |_=>simp[evalPure] at h
theorem cQ:∀{cs:List AV} {l xs:List Value},flatCells cs=some l→RelL S f cs xs→xs=l
 | [],l,xs,h,r=>by simp[flatCells] at h;subst h;simpa [RelL] using r
 |c::cs,l,xs,h,r=>by
  simp only[RelL] at r;obtain⟨y,ys,rfl,r1,r2⟩:=r;cases c with
  |val v=>
   simp only[flatCells,iw] at h;obtain⟨l',hl,rfl⟩:=h;rw[cQ hl r2];simp only[Rel] at r1;rw[r1.1]
  |_=>simp[flatCells] at h
theorem ri{v:AV}{x y:Value}(h:flat v=some y)(r:Rel S f v x):x=y:=by
 cases v with
 |val v=>simp[flat] at h;subst h;simp only[Rel] at r;exact r.1
 |agg cs=>
  simp only[flat,iw] at h;obtain⟨l,hl,rfl⟩:=h;simp only[Rel] at r;obtain⟨xs,rfl,_,r⟩:=r;rw[cQ hl r]
 |tup cs=>
  simp only[flat,iw] at h;obtain⟨l,hl,rfl⟩:=h;simp only[Rel] at r;obtain⟨xs,rfl,r⟩:=r;rw[cQ hl r]
 |ifc t v=>
  cases v with
  |val v=>simp[flat] at h;subst h;simp only[Rel] at r;obtain⟨_,rfl,rfl,_⟩:=r;rfl
  |agg cs=>
   simp only[flat,iw] at h;obtain⟨l,hl,rfl⟩:=h;simp only[Rel] at r;obtain⟨_,rfl,xs,rfl,_,r⟩:=r;rw[cQ hl r]
  |_=>simp[flat] at h
 |_=>simp[flat] at h
theorem aU{t:TypeId}{n:Nat}(hs:sizeOf? P t=some n)(w:World):(sizeOf t).run P w=.ok n w:=by
 unfold sizeOf? at hs;cases hi:P.info? t with
 |none=>simp[hi] at hs
 |some i=>simp[hi] at hs;simp[sizeOf,typeInfo,hi,hs]
theorem cF{t:TypeId}{z:List AV}(hz:zeroCells? P t=some z):∃v:Value,(∀w,(zeroValue t).run P w=.ok v w)∧v.cells.toList.all (·.oneCell')=true∧z=v.cells.toList.map .val:=by
 unfold zeroCells? at hz;cases hi:P.info? t with
 |none=>simp[hi] at hz
 |some i=>
  cases hq:i.zero with
  |none=>simp[hi,hq] at hz
  |some v=>
   simp only[hi,hq,Option.bind_some] at hz;cases ho:v.cells.toList.all (·.oneCell') with
   |false=>simp[ho] at hz
   |true=>
    simp[ho] at hz;exact⟨v,fun w=>by simp[zeroValue,typeInfo,hi,hq],by simpa using ho,hz.symm⟩
theorem fT{t:TypeId}{n:Option Nat}(hn:loadN? P t=some n)(w:World):
  (isAgg t).run P w=.ok n.isSome w∧(∀k,n=some k→(sizeOf t).run P w=.ok k w):=by
 unfold loadN? at hn;cases hu:P.underlying t with
 |none=>simp[hu] at hn
 |some d=>
  have hur:=run_underlying hu w;cases d<;>simp only[hu] at hn<;>(try (simp only[sI] at hn;subst hn;exact⟨by simp[isAgg,hur],fun k hk=>by cases hk⟩))
  all_goals
   simp only[iw] at hn;obtain⟨m,hm,rfl⟩:=hn;exact⟨by simp[isAgg,hur],fun k hk=>by simp at hk;subst hk;exact aU hm w⟩
theorem add_zero(b off i:Nat):(⟨b,off,none⟩:Addr).add i=⟨b,off+i,none⟩:=by unfold Addr.add;split<;>simp_all
structure CellsAt (S:Snap) (f:Emb) (w:World) (x:Value) (cs:List AV) (b off:Nat):Prop where
 eq:x=.pointer (some ⟨b,off,none⟩)
 cell:∀(i:Nat) (c:AV),cs[i]? =some c→∃y,w.cell? ⟨b,off+i,none⟩=some y∧y.oneCell'=true∧Rel S f c y
theorem su(r:WR G base S f h w){v:AV}{x:Value}{cs:List AV}(hr:Rel S f v x)(hc:cellsFrom G h v=some cs):∃b off,CellsAt S f w x cs b off:=by
 unfold cellsFrom at hc;split at hc
 ·rename_i b off;simp only[Rel] at hr;obtain⟨B,O,R,hf,rfl⟩:=hr;cases hb:h.get b with
  |none=>simp[hb] at hc
  |some k=>
   cases k with
   |cells cs' rw=>
    simp only[hb] at hc;cases hl:i6 off cs'.length<;>simp[hl] at hc
    subst hc;obtain⟨B',O',R',hf',_,_,hb'⟩:=r.blk b _ hb;rw[hf] at hf';simp only[sI,pI] at hf';obtain⟨rfl,rfl,rfl⟩:=hf';simp only[BlkR] at hb';refine⟨B,O+off,rfl,fun i c hi=>?_⟩;rw[Az] at hi;rw[jn];exact hb'.2.1 (off+i) c hi
   |_=>simp[hb] at hc
 ·simp at hc;subst hc;simp only[Rel] at hr;obtain⟨b,off,rfl,hr⟩:=hr;refine⟨b,off,rfl,fun i c hi=>?_⟩;obtain⟨y,hy,ho,hrel⟩:=hr.get hi;exact⟨y,r.snap _ _ _ hy,ho,hrel.any⟩
 ·rename_i g off;cases hg:G g with
  |none=>simp[hg] at hc
  |some cs'=>
   simp only[hg] at hc;cases hl:i6 off cs'.length<;>simp[hl] at hc
   subst hc;simp only[Rel] at hr;refine⟨g,off,hr.1,fun i c hi=>?_⟩;have:=(r.glob g cs' hg).drop off;obtain⟨y,hy,ho,hrel⟩:=this.get hi;rw[jp] at hy;exact⟨y,r.snap _ _ _ hy,ho,hrel.any⟩
 ·cases hc
theorem nI{x:Value}{cs:List AV}{b off:Nat}(hc:CellsAt S f w x cs b off){n:Option Nat}{v:AV}(hv:takeN n cs=some v):
  match n with
  |none=>∃y,(load ⟨b,off,none⟩).run P w=.ok y w∧Rel S f v y
  |some k=>∃ys:Array Value,(loadCells ⟨b,off,none⟩ k).run P w=.ok ys w∧Rel S f v (.agg ys):=by
 cases n with
 |none=>
  simp only[takeN] at hv;obtain⟨y,hy,_,hr⟩:=hc.cell 0 v (by rw[←hv,List.head?_eq_getElem?])
  exact⟨y,by simp[run_load,show w.cell? ⟨b,off,none⟩=some y from hy],hr⟩
 |some k=>
  simp only[takeN] at hv;cases hl:i6 k cs.length<;>simp[hl] at hv
  subst hv;have hk:k≤cs.length:=is hl
  let g:Nat→Value:=fun i=>(w.cell? ⟨b,off+i,none⟩).getD undef
  have hg:∀j,j<k→w.cell? ((⟨b,off,none⟩:Addr).add j)=some (g j):=fun j hj=>by
   obtain⟨y,hy,_⟩:=hc.cell j cs[j] (jk (by omega))
   rw[add_zero];simp only[g,hy];rfl
  have hrun:=run_loadCells (P:=P) (w:=w) ⟨b,off,none⟩ k g hg;refine⟨_,hrun,?_⟩;simp only[Rel];refine⟨(List.range k).map g,by simp[],?_,?_⟩
  ·simp only[iy,A1,B8];rintro y ⟨j,hj,rfl⟩;obtain⟨z,hz,ho,_⟩:=hc.cell j cs[j] (jk (by omega))
   simp only[g,hz,Option.getD_some];exact ho
  ·refine RelL.of_get (by simp;omega) fun i c hi=>?_
   have hi':cs[i]? =some c∧i<k:=by
    rw[Bg] at hi;split at hi
    ·exact⟨hi,by assumption⟩
    ·cases hi
   obtain⟨z,hz,_,hrel⟩:=hc.cell i c hi'.1;exact⟨g i,by simp[hi'.2],by simp only[g,hz];exact hrel⟩
theorem kB{t:TypeId}{n:Option Nat}{x:Value}{cs:List AV}{b off:Nat}{v:AV}(hn:loadN? P t=some n)(hc:CellsAt S f w x cs b off)(hv:takeN n cs=some v):
  ∃y,(loadVar t ⟨b,off,none⟩).run P w=.ok y w∧Rel S f v y:=by
 obtain⟨h1,h2⟩:=fT hn w;have ht:=nI (P:=P) hc hv;cases n with
 |none=>
  obtain⟨y,hy,hr⟩:=ht;exact⟨y,by simp only[loadVar,Sem.run_bind,h1,Result.andThen_ok];simpa using hy,hr⟩
 |some k=>
  obtain⟨ys,hy,hr⟩:=ht;exact⟨.agg ys,by simp only[loadVar,Sem.run_bind,h1,Result.andThen_ok];simp[h2 k rfl,hy],hr⟩
end Go.AM
namespace Go.AM
open Go.RowKit
variable {G:Nat→Option (List AV)}{base:Nat}{S:Snap}{f:Emb}{h:AH}{w:World}{P:Program}{E:Env}{s:St}{a:Act}{N:Nat}
def OpOut(P:Program)(sem:Sem Next)(w:World)(K:Value→World→Prop):Prop:=
 match sem.run P w with
 |.ok (.value x) w'=>K x w'
 |.ok .skip w'=>K undef w'
 |.ok (.enter g args) w'=>CallsIn Fence.wide 0 P g args w' fun e w''=>∃x,e=.returned x∧K x w''
 |.ok (.round l g tmps asg body) w'=>RoundIn Fence.wide 0 P l g tmps asg body w' fun e w''=>∃x,e=.returned x∧K x w''
 |_=>False
def Left(E:Env)(base:Nat)(S:Snap)(f:Emb)(h:AH)(w:World)(v:AV)(h':AH)(x:Value)(w':World):Prop:=
 ∃S' f',Goes E.globs base S f h w S' f' h' w'∧Rel S' f' v x
theorem kY{sem:Sem Next}{K:Value→World→Prop}{x:Value}{w':World}(e:sem.run P w=.ok (.value x) w')(k:K x w'):OpOut P sem w K:=by
 unfold OpOut;rw[e];exact k
theorem yW{sem:Sem Next}{K:Value→World→Prop}{w':World}(e:sem.run P w=.ok .skip w')(k:K undef w'):OpOut P sem w K:=by
 unfold OpOut;rw[e];exact k
theorem ai(r:WR E.globs base S f s.h w){v:AV}{x:Value}(hr:Rel S f v x):Left E base S f s.h w v s.h x w:=⟨S,f,r.goes,hr⟩
theorem bi:Rel S f undefA undef:=by simp only[undefA,Rel];exact⟨[],rfl,by simp[RelL]⟩
theorem nU{sem:Sem Value}{K:Value→World→Prop}{x:Value}{w':World}(e:sem.run P w=.ok x w')(k:K x w'):
  OpOut P (do pure (Next.value (←sem))) w K:=kY (x:=x) (w':=w') (by simp[e]) k
theorem Ql{sem:Sem Unit}{K:Value→World→Prop}{w':World}(e:sem.run P w=.ok () w')(k:K undef w'):
  OpOut P (do sem;pure Next.skip) w K:=yW (w':=w') (by simp[e]) k
section ops
variable {call:Cle→List AV→AH→Option (AV×AH)}{o:Oper}{v:AV}{s':St}
theorem Ij{x:Operand}{y:Opd}(ht:TmR S f s.tm a.tmps N)(hc:cOpd x=some y)(hrun:runOp E call s (.mv y)=some (v,s')):
  s'=s∧Rel S f v (a.eval x):=by
 simp only[runOp,j7,sI,pI] at hrun;obtain⟨u,hu,rfl,rfl⟩:=hrun;exact⟨rfl,aA ht hc hu⟩
theorem Gf{c x y:Operand}{c' x' y':Opd}(ht:TmR S f s.tm a.tmps N)(h1:cOpd c=some c')(h2:cOpd x=some x')(h3:cOpd y=some y')
  (hrun:runOp E call s (.pick c' x' y')=some (v,s')):s'=s∧∃z,(asBool (a.eval c)>>=fun b=>pure (if b then a.eval x else a.eval y)).run P w=.ok z w∧Rel S f v z:=by
 simp only[runOp] at hrun;cases hb:s.eval c' with
 |none=>simp[hb] at hrun
 |some u=>
  have hr:=aA ht h1 hb;simp only[hb] at hrun;split at hrun
  ·rename_i e;simp only[sI] at e;subst e;simp only[j7,sI,pI] at hrun;obtain⟨u,hu,rfl,rfl⟩:=hrun;simp only[Rel] at hr;exact⟨rfl,a.eval x,by rw[hr.1];simp[asBool],aA ht h2 hu⟩
  ·rename_i e;simp only[sI] at e;subst e;simp only[j7,sI,pI] at hrun;obtain⟨u,hu,rfl,rfl⟩:=hrun;simp only[Rel] at hr;exact⟨rfl,a.eval y,by rw[hr.1];simp[asBool],aA ht h3 hu⟩
  ·cases hrun
theorem fE{z:Value}(hz:z.cells.toList.all (·.oneCell')=true):RelL S f (z.cells.toList.map .val) z.cells.toList:=RelL.flatVals _ hz
theorem yh{t:TypeId}{z:List AV}(r:WR E.globs base S f s.h w)(hz:zeroCells? P t=some z)(hrun:runOp E call s (.alloc z)=some (v,s')):
  s'.tm=s.tm∧s'.defers=s.defers∧∃x w',(Instr.alloc t true (.tuple #[])).run P w=.ok x w'∧Left E base S f s.h w v s'.h x w':=by
 simp only[runOp,sI,pI] at hrun;obtain⟨rfl,rfl⟩:=hrun;obtain⟨zv,hzr,ho,rfl⟩:=cF hz;have g:=r.allocCells (cs:=zv.cells.toList.map .val) (arr:=zv.cells) t (by rw[jl (by simp)];exact fE ho) ho
 refine⟨rfl,rfl,.pointer (some ⟨w.heap.size,0,none⟩),w.alloc (.cells zv.cells t),by simp[Instr.alloc,hzr,newVar,newRow],_,_,g,?_⟩
 simp only[Rel];exact⟨_,_,_,aR _ _ _,rfl⟩
theorem Kq{t:TypeId}{x:Operand}{y:Opd}(ht:TmR S f s.tm a.tmps N)(r:WR E.globs base S f s.h w)(hc:cOpd x=some y)(hrun:runOp E call s (.box y)=some (v,s')):
  s'.tm=s.tm∧s'.defers=s.defers∧∃z w',(Instr.box t (a.eval x)).run P w=.ok z w'∧Left E base S f s.h w v s'.h z w':=by
 simp only[runOp] at hrun;cases hl:(s.eval y).bind AV.cells with
 |none=>simp[hl] at hrun
 |some l=>
  simp only[hl,sI,pI] at hrun;obtain⟨rfl,rfl⟩:=hrun;simp only[j7] at hl;obtain⟨u,hu,hl⟩:=hl;obtain⟨h1,h2⟩:=(aA ht hc hu).cells hl;have hlen:=h1.length;have g:=r.allocCells (cs:=l) (arr:=(a.eval x).cells) t (by rw[jl (by omega)];exact h1) h2
  refine⟨rfl,rfl,.pointer (some ⟨w.heap.size,0,none⟩),w.alloc (.cells (a.eval x).cells t),by simp[Instr.box,newVar,newRow],_,_,g,?_⟩
  simp only[Rel];exact⟨_,_,_,aR _ _ _,rfl⟩
theorem va{t:TypeId}{n:Option Nat}{x:Operand}{y:Opd}(ht:TmR S f s.tm a.tmps N)(r:WR E.globs base S f s.h w)(hn:loadN? P t=some n)(hc:cOpd x=some y)
  (hrun:runOp E call s (.load n y)=some (v,s')):s'=s∧∃z,(Instr.loadAt t (a.eval x)).run P w=.ok z w∧Rel S f v z:=by
 simp only[runOp] at hrun;cases hu:s.eval y with
 |none=>simp[hu] at hrun
 |some u=>
  simp only[hu,j7,sI,pI] at hrun;obtain⟨v',⟨cs,hcs,hv⟩,rfl,rfl⟩:=hrun;obtain⟨b,off,hca⟩:=su r (aA ht hc hu) hcs;obtain⟨z,hz,hr⟩:=kB (P:=P) hn hca hv;exact⟨rfl,z,by simp[Instr.loadAt,hca.eq,Instr.sureAddr,hz],hr⟩
theorem nQ{cs l:List AV}{off:Nat}(h:off+l.length≤cs.length)(i:Nat):(putAt cs off l)[i]? =if i<off then cs[i]? else if i<off+l.length then l[i-off]? else cs[i]? :=by
 unfold putAt;have h1:(cs.take off).length=off:=by simp;omega
 by_cases h2:i<off
 ·rw[if_pos h2,List.append_assoc,Bo (by omega),Bg,if_pos h2]
 ·rw[if_neg h2]
  by_cases h3:i<off+l.length
  ·rw[if_pos h3,Bo (by simp;omega),Bp (by omega),h1]
  ·rw[if_neg h3,Bp (by simp;omega),Az]
   congr 1
   simp;omega
theorem gI{cs l:List AV}{off:Nat}(h:off+l.length≤cs.length):(putAt cs off l).length=cs.length:=by
 unfold putAt;simp;omega
theorem WR.putCells(r:WR G base S f h w){b:Nat}{cs l:List AV}{B O R off:Nat}{vs:List Value}(hb:h.get b=some (.cells cs true))(hf:f b=some (B,O,R))
  (hl:RelL S f l vs) (ho:vs.all (·.oneCell')=true) (hR:off+l.length≤cs.length):
  Goes G base S f h w S f (h.put b (some (.cells (putAt cs off l) true))) (w.setCells B (O+off) vs):=by
 have hlen:=hl.length;have hcs:cs.length≤R:=by
  obtain⟨B0,O0,R0,hf0,_,_,hr⟩:=r.blk b _ hb;rw[hf] at hf0;simp only[sI,pI] at hf0;obtain⟨rfl,rfl,rfl⟩:=hf0;simp only[BlkR] at hr;exact hr.1
 refine r.setCells hb hf vs (by omega) (by rw[gI hR];exact hcs) (fun i c hc hi=>?_) (fun i c hc hi=>?_)
 ·rw[nQ hR] at hc;split at hc
  ·exact hc
  ·rw[if_neg (by omega)] at hc;exact hc
 ·rw[nQ hR,if_neg (by omega),if_pos (by omega),show off+i-off=i by omega] at hc
  obtain⟨y,hy,hrel⟩:=hl.get hc;exact⟨y,hy,by have:=iy.1 ho y (List.mem_of_getElem? hy);exact this,hrel⟩
theorem WR.run_store(r:WR G base S f h w){b:Nat}{cs:List AV}{B O R off:Nat}{vs:List Value}(hb:h.get b=some (.cells cs true))(hf:f b=some (B,O,R))
  (ho:vs.all (·.oneCell')=true) (hR:off+vs.length≤R):(storeCells ⟨B,O+off,none⟩ vs).run P w=.ok () (w.setCells B (O+off) vs):=by
 obtain⟨B0,O0,R0,hf0,_,_,hr⟩:=r.blk b _ hb;rw[hf] at hf0;simp only[sI,pI] at hf0;obtain⟨rfl,rfl,rfl⟩:=hf0;simp only[BlkR] at hr;have:=run_storeCells_cells (P:=P) B (O+off) vs 0 w (fun j hj=>by rw[Aa,jn];exact hr.2.2.1 _ (by omega))
  (fun j hj=>by rw[Aa,jn];exact(hr.2.2.2.1 trivial _ (by omega)).1) (fun v hv=>iy.1 ho v hv)
 simpa using this
theorem yZ{t:TypeId}{n:Nat}{p x:Operand}{p' x':Opd}(ht:TmR S f s.tm a.tmps N)(r:WR E.globs base S f s.h w)(hn:sizeOf? P t=some n)(hp:cOpd p=some p')(hx:cOpd x=some x')
  (hrun:runOp E call s (.store n p' x')=some (v,s')):
  s'.tm=s.tm∧s'.defers=s.defers∧∃w',(Instr.storeAt t (a.eval p) (a.eval x)).run P w=.ok () w'∧Left E base S f s.h w v s'.h undef w':=by
 simp only[runOp] at hrun;cases h1:s.eval p' with
 |none=>simp[h1] at hrun
 |some u=>
  cases h2:(s.eval x').bind AV.cells with
  |none=>rw[h1,h2] at hrun;cases u<;>simp at hrun
  |some l=>
   rw[h1,h2] at hrun;cases u with
   |ptr b off=>
    simp only at hrun;cases hb:s.h.get b with
    |none=>simp[hb] at hrun
    |some k=>
     cases k with
     |cells cs rw'=>
      cases rw' with
      |false=>simp[hb] at hrun
      |true=>
       simp only[hb] at hrun;cases hk:(i5 l.length n&&i6 (off+n) cs.length) with
       |false=>simp[hk] at hrun
       |true=>
        simp only[hk,cond_true,sI,pI] at hrun;obtain⟨rfl,rfl⟩:=hrun;simp only[i9] at hk;have hk1:=ij hk.1;have hk2:=is hk.2;have hr:=aA ht hp h1;simp only[Rel] at hr;obtain⟨B,O,R,hf,hpe⟩:=hr;simp only[j7] at h2;obtain⟨u,hu,hl⟩:=h2;obtain⟨hl1,hl2⟩:=(aA ht hx hu).cells hl;have hlen:=hl1.length;have hcs:cs.length≤R:=by
         obtain⟨B0,O0,R0,hf0,_,_,hr⟩:=r.blk b _ hb;rw[hf] at hf0;simp only[sI,pI] at hf0;obtain⟨rfl,rfl,rfl⟩:=hf0;simp only[BlkR] at hr;exact hr.1
        have hst:=r.run_store (P:=P) (off:=off) hb hf hl2 (by omega)
        have g:=r.putCells (off:=off) hb hf hl1 hl2 (by omega)
        refine⟨rfl,rfl,_,?_,S,f,g,bi⟩;have hsz:(a.eval x).cells.size=n:=by simpa using hlen.symm.trans hk1
        simp only[Instr.storeAt,hpe,Instr.sureAddr,storeVar,Sem.run_bind,Sem.run_pure,Result.andThen_ok,aU hn];simp[hsz,hst]
     |_=>simp[hb] at hrun
   |_=>simp at hrun
end ops
end Go.AM
namespace Go.AM
open Go.RowKit
variable {G:Nat→Option (List AV)}{base:Nat}{S:Snap}{f:Emb}{h:AH}{w:World}{P:Program}{E:Env}{s:St}{a:Act}{N:Nat}
section ops
variable {call:Cle→List AV→AH→Option (AV×AH)}{o:Oper}{v:AV}{s':St}
theorem n7:∀(l:List Value) (cs:Array Value) (off i:Nat),off+i+l.length≤cs.size→
  ((l.zipIdx i).foldl (fun cs (c,j)=>cs.setIfInBounds (off+j) c) cs).toList=cs.toList.take (off+i)++l++cs.toList.drop (off+i+l.length)
 | [],cs,off,i,h=>by simp
 |x::l,cs,off,i,h=>by
  simp only[List.length_cons] at h;simp only[List.zipIdx_cons,List.foldl_cons];rw[n7 l _ off (i+1) (by simp;omega)]
  simp only[Array.toList_setIfInBounds];have e1:(cs.toList.set (off+i) x).take (off+(i+1))=cs.toList.take (off+i)++[x]:=by
   rw[show off+(i+1)=off+i+1 by omega,List.take_add_one,List.take_set_of_le (by omega)]
   simp[show off+i<cs.size by omega]
  have e2:(cs.toList.set (off+i) x).drop (off+(i+1)+l.length)=cs.toList.drop (off+i+(l.length+1)):=by
   rw[List.drop_set_of_lt (by omega)]
   congr 1;omega
  rw[e1,e2];simp
theorem gZ:∀{parts:List (Nat×Operand)} {parts':List (Nat×Nat×Opd)} {place:Nat→Option (Nat×Nat)} {z z':List AV} {cells:Array Value},
  TmR S f s.tm a.tmps N→cParts place parts=some parts'→fill s z parts'=some z'→RelL S f z cells.toList→cells.toList.all (·.oneCell')=true→
  ∃cells',Instr.fill place cells (parts.map fun p=>(p.1,a.eval p.2))=some cells'∧RelL S f z' cells'.toList∧cells'.toList.all (·.oneCell')=true
 | [],parts',place,z,z',cells,_,hp,hf,hr,ho=>by
  simp[cParts] at hp;subst hp;simp[fill] at hf;subst hf;exact⟨cells,rfl,hr,ho⟩
 |(i,x)::parts,parts',place,z,z',cells,ht,hp,hf,hr,ho=>by
  unfold cParts at hp;cases h1:place i with
  |none=>simp[h1] at hp
  |some os=>
   obtain⟨off,size⟩:=os;cases h2:cOpd x with
   |none=>simp[h1,h2] at hp
   |some y=>
    cases h3:cParts place parts with
    |none=>simp[h1,h2,h3] at hp
    |some r=>
     simp[h1,h2,h3] at hp;subst hp;unfold fill at hf;cases h4:s.eval y with
     |none=>simp[h4] at hf
     |some u=>
      cases h5:u.cells with
      |none=>simp[h4,h5] at hf
      |some l=>
       simp only[h4,h5] at hf;cases hk:(i5 l.length size&&i6 (off+size) z.length) with
       |false=>simp[hk] at hf
       |true=>
        simp only[hk,cond_true] at hf;simp only[i9] at hk;have hk1:=ij hk.1;have hk2:=is hk.2;obtain⟨hl1,hl2⟩:=(aA ht h2 h4).cells h5;have hlen:=hl1.length;have hzl:=hr.length;simp only[B4] at hlen hzl;have hcells:=n7 (a.eval x).cells.toList cells off 0 (by simp;omega)
        simp only[Aa] at hcells
        let cells2:=(a.eval x).cells.zipIdx.foldl (fun cs (c,j)=>cs.setIfInBounds (off+j) c) cells
        have hc2:cells2.toList=cells.toList.take off++(a.eval x).cells.toList++cells.toList.drop (off+(a.eval x).cells.toList.length):=by
         rw[←hcells];simp only[cells2];rw[←Array.foldl_toList];simp
        have hr2:RelL S f (putAt z off l) cells2.toList:=by
         rw[hc2];unfold putAt;have:l.length=(a.eval x).cells.toList.length:=by simpa using hlen
         rw[this];exact((hr.take off).append hl1).append (hr.drop _)
        have ho2:cells2.toList.all (·.oneCell')=true:=by
         rw[hc2];simp only[List.all_append,i9];refine⟨⟨?_,hl2⟩,?_⟩
         ·exact iy.2 fun y hy=>iy.1 ho y (List.mem_of_mem_take hy)
         ·exact iy.2 fun y hy=>iy.1 ho y (A4 hy)
        obtain⟨cells',hc',hr',ho'⟩:=gZ (cells:=cells2) ht h3 hf hr2 ho2;refine⟨cells',?_,hr',ho'⟩;simp only[jd,Instr.fill,h1];rw[if_neg]
        ·exact hc'
        ·simp;omega
theorem kJ:∀{parts:List (Nat×Nat×Opd)} {z z':List AV},fill s z parts=some z'→z'.length=z.length
 | [],z,z',h=>by simp[fill] at h;rw[h]
 |(off,size,x)::r,z,z',h=>by
  unfold fill at h;cases h1:s.eval x with
  |none=>simp[h1] at h
  |some v=>
   cases h2:v.cells with
   |none=>simp[h1,h2] at h
   |some l=>
    simp only[h1,h2] at h;cases hk:(i5 l.length size&&i6 (off+size) z.length) with
    |false=>simp[hk] at h
    |true=>
     simp only[hk,cond_true] at h;simp only[i9] at hk;have hk1:=ij hk.1;have hk2:=is hk.2;rw[kJ h,gI (by omega)]
theorem pV{fs:List Field}{l:List (Nat×Nat)}(hf:fieldsAt P fs=some l)(w:World):
  (fs.mapM (m:=Sem) fun fd=>do pure (fd.offset,←sizeOf fd.type)).run P w=.ok l w:=by
 induction fs generalizing l with
 |nil=>simp[fieldsAt] at hf;subst hf;simp
 |cons fd fs ih=>
  unfold fieldsAt at hf;simp only[Ap] at hf;cases h1:sizeOf? P fd.type with
  |none=>simp[h1] at hf
  |some n=>
   cases h2:(fs.mapM fun fd=>(sizeOf? P fd.type).map fun n=>(fd.offset,n)) with
   |none=>simp[h1,h2] at hf
   |some l'=>
    simp[h1,h2] at hf;subst hf;have:=ih (l:=l') (by unfold fieldsAt;exact h2)
    simp only[Ap,Sem.run_bind,aU h1,Result.andThen_ok,Sem.run_pure,this]
theorem yg{t:TypeId}{parts:Array (Nat×Operand)}{op:AOp}(ht:TmR S f s.tm a.tmps N)(hc:cOp P (.build t parts)=some op)(hrun:runOp E call s op=some (v,s')):
  s'=s∧∃x,(Instr.build t (parts.map fun(i,x)=>(i,a.eval x))).run P w=.ok x w∧Rel S f v x:=by
 simp only[cOp] at hc;cases hu:P.underlying t with
 |none=>simp[hu] at hc
 |some d=>
  cases hz:zeroCells? P t with
  |none=>rw[hu,hz] at hc;cases d<;>simp at hc
  |some z=>
   obtain⟨zv,hzr,ho,rfl⟩:=cF hz;rw[hu,hz] at hc;have hur:=run_underlying hu w;cases d<;>simp only[] at hc<;>try (cases hc;done)
   case struct fs=>
    cases hl:fieldsAt P fs.toList with
    |none=>simp[hl] at hc
    |some l=>
     simp only[hl,iw] at hc;obtain⟨parts',hp,rfl⟩:=hc;simp only[runOp,j7,sI,pI] at hrun;obtain⟨cs,hcs,rfl,rfl⟩:=hrun;obtain⟨cells',hc',hr',ho'⟩:=gZ (cells:=zv.cells) ht hp hcs (fE ho) ho;refine⟨rfl,.agg cells',?_,?_⟩
     ·have hm:(fs.mapM (m:=Sem) fun fd=>do pure (fd.offset,←sizeOf fd.type)).run P w=.ok l.toArray w:=by
       rw[Array.mapM_eq_mapM_toList];simp only[Sem.run_map,pV hl w,Result.andThen_ok]
      simp only[Instr.build,Sem.run_bind,hzr,hur,Result.andThen_ok,hm];have e1:(parts.map fun(i,x)=>(i,a.eval x)).toList=parts.toList.map fun p=>(p.1,a.eval p.2):=by simp
      have e2:(fun(i:Nat)=>l.toArray[i]?)=fun(i:Nat)=>l[i]? :=by funext i;simp
      rw[e1,e2,hc'];rfl
     ·simp only[Rel];exact⟨cells'.toList,by simp,ho',hr'⟩
   case array n e=>
    cases hs:sizeOf? P e with
    |none=>simp[hs] at hc
    |some n=>
     simp only[hs,iw] at hc;obtain⟨parts',hp,rfl⟩:=hc;simp only[runOp,j7,sI,pI] at hrun;obtain⟨cs,hcs,rfl,rfl⟩:=hrun;obtain⟨cells',hc',hr',ho'⟩:=gZ (cells:=zv.cells) ht hp hcs (fE ho) ho;refine⟨rfl,.agg cells',?_,?_⟩
     ·simp only[Instr.build,Sem.run_bind,hzr,hur,Result.andThen_ok,aU hs];have:(parts.map fun(i,x)=>(i,a.eval x)).toList=parts.toList.map fun p=>(p.1,a.eval p.2):=by simp
      rw[this,hc'];rfl
     ·simp only[Rel];exact⟨cells'.toList,by simp,ho',hr'⟩
theorem kH{α:Type}(z:List α):∀(m i:Nat),((jz m z).flatten)[i]? =if i<m*z.length then z[i%z.length]? else none
 |0,i=>by simp
 |m+1,i=>by
  simp only[Cb,List.flatten_cons]
  by_cases h:i<z.length
  ·rw[Bo h,if_pos (by rw[Nat.succ_mul];omega),Nat.mod_eq_of_lt h]
  ·rw[Bp (by omega),kH z m (i-z.length)]
   rw[Nat.succ_mul]
   by_cases h2:i<m*z.length+z.length
   ·rw[if_pos (by omega),if_pos h2]
    congr 1
    exact(Nat.mod_eq_sub_mod (by omega)).symm
   ·rw[if_neg (by omega),if_neg h2]
theorem dS{α:Type}(z:List α)(m:Nat):((jz m z).flatten).length=m*z.length:=by
 induction m with
 |zero=>simp
 |succ m ih=>simp[Cb,ih,Nat.succ_mul];omega
theorem ez{zero:Array Value}(ho:zero.toList.all (·.oneCell')=true)(m n:Nat)(hn:zero.size=n):
  RelL S f ((jz m (zero.toList.map AV.val)).flatten) ((B9 (m*n)).map (zero[· %zero.size]!)).toList∧
  ((B9 (m*n)).map (zero[· %zero.size]!)).toList.all (·.oneCell')=true:=by
 subst hn;have key:∀i,i<m*zero.size→zero[i%zero.size]? =some (zero[i%zero.size]!):=fun i hi=>by
  have:0<zero.size:=by rcases Ar zero.size with h|h;(rw[h] at hi;omega);exact h
  have hlt:=Nat.mod_lt i this;simp[hlt]
 constructor
 ·refine RelL.of_get (by rw[dS];simp) fun i c hc=>?_
  rw[kH] at hc;simp only[ji,B4] at hc;split at hc
  ·rename_i hi;have hk:=key i hi;refine⟨zero[i%zero.size]!,by simp[hi],?_⟩
   simp only[List.getElem?_map,Array.getElem?_toList,hk,jo,sI] at hc;subst hc;simp only[Rel,true_and];exact iy.1 ho _ (by have:=Array.mem_of_getElem? hk;simpa using this)
  ·cases hc
 ·simp only[iy];intro y hy;simp only[Bi,A1,Array.toList_range,B8] at hy;obtain⟨i,hi,rfl⟩:=hy;exact iy.1 ho _ (by have:=Array.mem_of_getElem? (key i hi);simpa using this)
theorem m7{t:TypeId}{len:Nat}{parts:Array (Nat×Operand)}{op:AOp}(ht:TmR S f s.tm a.tmps N)(r:WR E.globs base S f s.h w)(hc:cOp P (.buildSlice t len parts)=some op)
  (hrun:runOp E call s op=some (v,s')):
  s'.tm=s.tm∧s'.defers=s.defers∧∃x w',(Instr.buildSlice t len (parts.map fun(i,x)=>(i,a.eval x))).run P w=.ok x w'∧Left E base S f s.h w v s'.h x w':=by
 simp only[cOp] at hc;cases hu:P.underlying t with
 |none=>simp[hu] at hc
 |some d=>
  have hur:=run_underlying hu w;cases d<;>simp only[hu] at hc<;>try (cases hc;done)
  case slice e=>
   cases hs:sizeOf? P e with
   |none=>simp[hs] at hc
   |some n=>
    cases hz:zeroCells? P e with
    |none=>simp[hs,hz] at hc
    |some z=>
     obtain⟨zv,hzr,ho,hze⟩:=cF hz;simp only[hs,hz] at hc;cases hsz:(i5 z.length n&&i6 (len*n) (2^24)) with
     |false=>rw[hsz] at hc;simp at hc
     |true=>
      rw[hsz] at hc;simp only[cond_true,iw] at hc;simp only[i9] at hsz;have hn:=ij hsz.1;have hmost:=is hsz.2;obtain⟨parts',hp,rfl⟩:=hc;simp only[runOp,j7,sI,pI] at hrun;obtain⟨cs,hcs,rfl,rfl⟩:=hrun;have hzn:zv.cells.size=n:=by rw[hze] at hn;simpa using hn
      obtain⟨hz1,hz2⟩:=ez (S:=S) (f:=f) ho len n hzn;rw[hze] at hcs;obtain⟨cells',hc',hr',ho'⟩:=gZ ht hp hcs hz1 hz2;have hlen:=hr'.length;have hsize:cells'.size=len*n:=by
       have h1:=kJ hcs;rw[dS] at h1;simp only[ji,B4,hzn] at h1
       simpa using hlen.symm.trans h1
      have g:=r.allocCells (cs:=cs) (arr:=cells') e (by rw[jl (by omega)];exact hr') ho'
      refine⟨rfl,rfl,.slice (some ⟨w.heap.size,0,none⟩) len len,w.alloc (.cells cells' e),?_,_,_,g,?_⟩
      ·simp only[Instr.buildSlice,Sem.run_bind,hur,Result.andThen_ok,aU hs];rw[if_neg (by omega)]
       have e1:(parts.map fun(i,x)=>(i,a.eval x)).toList=parts.toList.map fun p=>(p.1,a.eval p.2):=by simp
       by_cases h0:len*n=0
       ·have e2:((B9 (len*n)).map (fun i=>(#[]:Array Value)[i%(#[]:Array Value).size]!))=(B9 (len*n)).map (fun i=>zv.cells[i%zv.cells.size]!):=by rw[h0];simp
        simp only[Sem.run_bind,Sem.run_pure,Result.andThen_ok,if_pos h0,e1];rw[e2,hc'];simp[newRow]
       ·simp only[Sem.run_bind,Sem.run_pure,Result.andThen_ok,if_neg h0,hzr,e1];rw[hc'];simp[newRow]
      ·simp only[Rel];refine⟨_,_,_,len,aR _ _ _,.inl rfl,i7 _,by simp,by omega⟩
end ops
end Go.AM
namespace Go.AM
open Go.RowKit
variable {G:Nat→Option (List AV)}{base:Nat}{S:Snap}{f:Emb}{h:AH}{w:World}{P:Program}{E:Env}{s:St}{a:Act}{N:Nat}
section ops
variable {call:Cle→List AV→AH→Option (AV×AH)}{o:Oper}{v:AV}{s':St}
theorem vH{op:BinOp}{t:TypeId}{k:IntKind}{x y:Int}{z:Value}(h:binInt op k x y=some z):(binOp op t (.int k x) (.int k y)).run P w=.ok z w∧z.oneCell'=true:=by
 cases op<;>simp only[binInt] at h<;>(try (cases h;done))<;>(try (simp only[sI] at h;subst h;exact⟨by simp[binOp,Op.intArith,Op.intCmp],rfl⟩))
 ·by_cases hy:y=0
  ·simp[hy] at h
  ·have:(y==0)=false:=by simp[hy]
   simp only[this,cond_false,sI] at h;subst h;exact⟨by simp[binOp,Op.intDiv,hy],rfl⟩
 ·by_cases hy:y=0
  ·simp[hy] at h
  ·have:(y==0)=false:=by simp[hy]
   simp only[this,cond_false,sI] at h;subst h;exact⟨by simp[binOp,Op.intDiv,hy],rfl⟩
theorem nn{op:BinOp}{t:TypeId}{x y:Operand}{k k':IntKind}{m n:Int}:(eqGuard op t x y (.int k m) (.int k' n)).run P w=.ok () w:=by
 unfold eqGuard;split<;>rfl
theorem bp:∀(x y:List UInt8),eqBytes x y=(x==y)
 | [],[]=>rfl
 | [],_::_=>rfl
 |_::_,[]=>rfl
 |a::x,b::y=>by
  simp only[eqBytes,List.cons_beq_cons,bp x y]
  congr 1
  rw[Ba];simp only[Nat.beq_eq,beq_iff_eq];exact UInt8.toNat_inj
theorem bytesLess_eq:∀(x y:List UInt8),bytesLessL x y=Op.bytesLess x y
 |_,[]=>by simp[bytesLessL,Op.bytesLess]
 | [],_::_=>rfl
 |a::x,b::y=>by
  simp only[bytesLessL,Op.bytesLess,bytesLess_eq x y]
  congr 1
  ·rw[Ba,j8,decide_eq_true_eq,UInt8.lt_iff_toNat_lt]
  ·congr 1
   rw[Ba];simp only[Nat.beq_eq,beq_iff_eq];exact UInt8.toNat_inj
theorem qK(x y:ByteArray):(⟨(x.data.toList++y.data.toList).toArray⟩:ByteArray)=x++y:=by
 have h:(x++y).data=x.data++y.data:=ByteArray.data_append;cases hxy:x++y with
 |mk d=>rw[hxy] at h;simp only at h;rw[h];simp
theorem vG{op:BinOp}{t:TypeId}{x y:ByteArray}{z:Value}(h:binStr op x y=some z):(binOp op t (.string x) (.string y)).run P w=.ok z w∧z.oneCell'=true:=by
 have e1:=bp x.data.toList y.data.toList;have e2:=bytesLess_eq x.data.toList y.data.toList;cases op<;>simp only[binStr] at h<;>(try (cases h;done))<;>(try (simp only[sI] at h;subst h;exact⟨by simp[binOp,Op.stringOp,ByteArray.toList_eq,e1,e2],rfl⟩))
 cases hk:i6 (x.size+y.size) (2^60) with
 |false=>simp[hk] at h
 |true=>
  simp only[hk,cond_true,sI] at h;subst h;have:=is hk;refine⟨?_,rfl⟩;rw[qK];simp only[binOp,Op.stringOp];rw[if_neg]
  ·rfl
  ·simp only[IntKind.max,IntKind.bits,IntKind.signed];simp;omega
theorem xN{op:BinOp}{t:TypeId}{x y:Operand}{k k':ByteArray}:(eqGuard op t x y (.string k) (.string k')).run P w=.ok () w:=by
 unfold eqGuard;split<;>rfl
theorem yp{op:BinOp}{t:TypeId}{d:TypeDesc}{x y:AV}{x' y':Value}{p q:Operand}(hu:P.underlying t=some d)(hn:nilT d x y=true)(hx:Rel S f x x')(hy:Rel S f y y'):
  (eqGuard op t p q x' y').run P w=.ok () w∧(binOp .eql t x' y').run P w=.ok (.bool false) w∧(binOp .neq t x' y').run P w=.ok (.bool true) w:=by
 have hur:=run_underlying hu w;have eqn:∀x' y':Value,(Op.equal t x' y').run P w=.ok false w→(binOp .eql t x' y'=do pure (.bool (←Op.equal t x' y')))→(binOp .neq t x' y'=do pure (.bool (!(←Op.equal t x' y'))))→
   (binOp .eql t x' y').run P w=.ok (.bool false) w∧(binOp .neq t x' y').run P w=.ok (.bool true) w:=by
  intro x' y' he h1 h2;rw[h1,h2];exact⟨by simp[he],by simp[he]⟩
 unfold nilT at hn;split at hn
 ·simp only[Rel] at hx hy;obtain⟨_,_,_,_,rfl⟩:=hx;obtain⟨rfl,_⟩:=hy;exact⟨by cases op<;>rfl,eqn _ _ (by change (Op.equalIn (9999+1) t _ _).run P w=_;unfold Op.equalIn;rw[Sem.run_bind,hur];rfl) rfl rfl⟩
 ·simp only[Rel] at hx hy;obtain⟨_,_,_,_,rfl⟩:=hy;obtain⟨rfl,_⟩:=hx;exact⟨by cases op<;>rfl,eqn _ _ (by change (Op.equalIn (9999+1) t _ _).run P w=_;unfold Op.equalIn;rw[Sem.run_bind,hur];rfl) rfl rfl⟩
 ·simp only[Rel] at hx hy;obtain⟨_,_,rfl,_⟩:=hx;obtain⟨rfl,_⟩:=hy;exact⟨by cases op<;>rfl,eqn _ _ (by change (Op.equalIn (9999+1) t _ _).run P w=_;unfold Op.equalIn;rw[Sem.run_bind,hur];rfl) rfl rfl⟩
 ·simp only[Rel] at hx hy;obtain⟨_,_,_,rfl,_⟩:=hx;obtain⟨rfl,_⟩:=hy;exact⟨by cases op<;>rfl,eqn _ _ (by change (Op.equalIn (9999+1) t _ _).run P w=_;unfold Op.equalIn;rw[Sem.run_bind,hur];rfl) rfl rfl⟩
 ·simp only[Rel] at hx hy;obtain⟨_,_,_,_,_,hX,_⟩:=hx;obtain⟨rfl,_⟩:=hy;rcases hX with rfl|⟨_,_,_,_,rfl⟩
  ·exact⟨by cases op<;>rfl,eqn _ _ (by change (Op.equalIn (9999+1) t _ _).run P w=_;unfold Op.equalIn;rw[Sem.run_bind,hur];rfl) rfl rfl⟩
  ·exact⟨by cases op<;>rfl,eqn _ _ (by change (Op.equalIn (9999+1) t _ _).run P w=_;unfold Op.equalIn;rw[Sem.run_bind,hur];rfl) rfl rfl⟩
 ·simp only[Rel] at hx hy;obtain⟨_,_,rfl,_⟩:=hx;obtain⟨rfl,_⟩:=hy;exact⟨by cases op<;>rfl,eqn _ _ (by change (Op.equalIn (9999+1) t _ _).run P w=_;unfold Op.equalIn;rw[Sem.run_bind,hur];rfl) rfl rfl⟩
 ·simp only[Rel] at hx hy;obtain⟨_,rfl,_⟩:=hx;obtain⟨rfl,_⟩:=hy;exact⟨by cases op<;>rfl,eqn _ _ (by change (Op.equalIn (9999+1) t _ _).run P w=_;unfold Op.equalIn;rw[Sem.run_bind,hur];rfl) rfl rfl⟩
 ·simp only[Rel] at hx hy;obtain⟨_,_,_,_,rfl⟩:=hx;obtain⟨rfl,_⟩:=hy;exact⟨by cases op<;>rfl,eqn _ _ (by change (Op.equalIn (9999+1) t _ _).run P w=_;unfold Op.equalIn;rw[Sem.run_bind,hur];rfl) rfl rfl⟩
 ·cases hn
theorem uE(op:BinOp)(t:TypeId)(x y:Operand)(A B:Value):
  eqGuard op t (bif (isConstO x||isConstO y) then .const (.tuple #[]) else .tmp 0) (.tmp 0) A B=eqGuard op t x y A B:=by
 cases x<;>cases y<;>rfl
theorem Kr{op:BinOp}{t:TypeId}{x y:Operand}{x' y':Opd}(ht:TmR S f s.tm a.tmps N)(hx:cOpd x=some x')(hy:cOpd y=some y')
  (hrun:runOp E call s (.bin op t (isConstO x||isConstO y) x' y')=some (v,s')) (hP:E.P=P):
  s'=s∧∃z,(do eqGuard op t x y (a.eval x) (a.eval y);binOp op t (a.eval x) (a.eval y)).run P w=.ok z w∧Rel S f v z:=by
 subst hP;simp only[runOp] at hrun;cases h1:s.eval x' with
 |none=>simp[h1] at hrun
 |some u=>
  cases h2:s.eval y' with
  |none=>simp[h1,h2] at hrun
  |some u'=>
   simp only[h1,h2,j7,sI,pI] at hrun;obtain⟨v',hv,rfl,rfl⟩:=hrun;refine⟨rfl,?_⟩;have r1:=aA ht hx h1;have r2:=aA ht hy h2;generalize a.eval x=X at r1⊢
   generalize a.eval y=Y at r2⊢
   unfold binA at hv;split at hv
   ·rename_i k m k' m';simp only[Rel] at r1 r2;obtain⟨rfl,_⟩:=r1;obtain⟨rfl,_⟩:=r2;split at hv
    ·rename_i z hz;cases hk:(k==k') with
     |false=>simp[hk] at hv
     |true=>
      simp only[hk,cond_true,sI] at hv;subst hv;have:k=k':=by simpa using hk
      subst this;obtain⟨e,ho⟩:=vH (P:=E.P) (w:=w) (t:=t) hz;exact⟨z,by rw[Sem.run_bind,nn];exact e,by simp only[Rel];exact⟨trivial,ho⟩⟩
    ·simp only[j7] at hv;obtain⟨z,hz,hfl⟩:=hv;exact⟨z,by rw[Sem.run_bind,nn];exact eH hz w,Rel.ofFlat hfl⟩
   ·simp only[Rel] at r1 r2;obtain⟨rfl,_⟩:=r1;obtain⟨rfl,_⟩:=r2;simp only[iw] at hv;obtain⟨z,hz,rfl⟩:=hv;obtain⟨e,ho⟩:=vG (P:=E.P) (w:=w) (t:=t) hz;exact⟨z,by rw[Sem.run_bind,xN];exact e,by simp only[Rel];exact⟨trivial,ho⟩⟩
   ·split at hv
    ·rename_i A B hA hB;rw[ri hA r1,ri hB r2];simp only[j7] at hv;obtain⟨z,hz,hfl⟩:=hv;have hz':=eH hz w;rw[uE] at hz';exact⟨z,hz',Rel.ofFlat hfl⟩
    ·split at hv
     ·cases hv
     ·rename_i d hu;cases hn:nilT d u u' with
      |true=>
       simp only[hn,cond_true] at hv;obtain⟨g1,g2,g3⟩:=yp (op:=op) (p:=x) (q:=y) (w:=w) hu hn r1 r2;cases op<;>simp only[] at hv<;>(try (cases hv;done))
       ·simp only[sI] at hv;subst hv;exact⟨_,by rw[Sem.run_bind,g1];exact g2,by simp[Rel,Value.oneCell']⟩
       ·simp only[sI] at hv;subst hv;exact⟨_,by rw[Sem.run_bind,g1];exact g3,by simp[Rel,Value.oneCell']⟩
      |false=>
       simp only[hn,cond_false] at hv;split at hv
       ·rename_i e b off b' off' _ _ _;split at hv
        ·rename_i n hsz;cases hb:i5 b b' with
         |false=>simp[hb] at hv
         |true=>
          have hbb:=ij hb;subst hbb;simp only[hb,cond_true] at hv;simp only[Rel] at r1 r2;obtain⟨B,O,R,hf,rfl⟩:=r1;obtain⟨B2,O2,R2,hf2,rfl⟩:=r2;rw[hf] at hf2;simp only[sI,pI] at hf2;obtain⟨rfl,rfl,rfl⟩:=hf2;have hur:=run_underlying hu w;have hsr:(sizeOf e).run E.P w=.ok (n+1) w:=aU (by unfold sizeOf?;exact hsz) w
          have he:(Op.equal t (.pointer (some ⟨B,O+off,none⟩)) (.pointer (some ⟨B,O+off',none⟩))).run E.P w=.ok (i5 off off') w:=by
           change (Op.equalIn (9999+1) t _ _).run E.P w=_;unfold Op.equalIn;rw[Sem.run_bind,hur];change Sem.run E.P (sizeOf e>>=_) w=_;rw[Sem.run_bind,hsr];simp only[Result.andThen_ok,sameAddr];simp;cases hq:i5 off off' with
           |true=>have:=ij hq;simp[this]
           |false=>have:=jx hq;simp[this]
          cases op<;>simp only[] at hv<;>(try (cases hv;done))
          ·simp only[sI] at hv;subst hv;refine⟨.bool (i5 off off'),?_,by simp[Rel,Value.oneCell']⟩
           change (Op.equal t _ _>>=fun r=>pure (Value.bool r)).run E.P w=_;rw[Sem.run_bind,he];rfl
          ·simp only[sI] at hv;subst hv;refine⟨.bool (!Nat.beq off off'),?_,by simp[Rel,Value.oneCell']⟩
           change (Op.equal t _ _>>=fun r=>pure (Value.bool !r)).run E.P w=_;rw[Sem.run_bind,he];rfl
        ·cases hv
       ·cases hv
end ops
end Go.AM
namespace Go.AM
open Go.RowKit
variable {G:Nat→Option (List AV)}{base:Nat}{S:Snap}{f:Emb}{h:AH}{w:World}{P:Program}{E:Env}{s:St}{a:Act}{N:Nat}
section ops
variable {call:Cle→List AV→AH→Option (AV×AH)}{o:Oper}{v:AV}{s':St}
theorem eL{u:AV}{x:Value}{n:Nat}(r:Rel S f u x)(h:asN u=some n):∃k,x=.int k (n:Int):=by
 unfold asN at h;split at h
 ·simp only[sI] at h;subst h;simp only[Rel] at r;exact⟨_,r.1⟩
 ·cases h
theorem Qm{op:UnOp}{x:Operand}{y:Opd}(ht:TmR S f s.tm a.tmps N)(hc:cOpd x=some y)(hP:E.P=P)(hrun:runOp E call s (.un op y)=some (v,s')):
  s'=s∧∃z,(Op.unary op (a.eval x)).run P w=.ok z w∧Rel S f v z:=by
 subst hP;simp only[runOp] at hrun;split at hrun
 ·rename_i u hu;simp only[j7,sI,pI] at hrun;obtain⟨v',⟨z,hz,hfl⟩,rfl,rfl⟩:=hrun;have r:=aA ht hc hu;simp only[Rel] at r;exact⟨rfl,z,by rw[r.1];exact eH hz w,Rel.ofFlat hfl⟩
 ·cases hrun
theorem Gj{k:IntKind}{src dst:TypeId}{x:Operand}{y:Opd}{k0:IntKind}(ht:TmR S f s.tm a.tmps N)(hc:cOpd x=some y)(h1:P.underlying src=some (.int k0))(h2:P.underlying dst=some (.int k))
  (hrun:runOp E call s (.conv k y)=some (v,s')):s'=s∧∃z,(convert src dst (a.eval x)).run P w=.ok z w∧Rel S f v z:=by
 simp only[runOp] at hrun;split at hrun
 ·rename_i k1 n hu;simp only[sI,pI] at hrun;obtain⟨rfl,rfl⟩:=hrun;have r:=aA ht hc hu;simp only[Rel] at r;refine⟨rfl,.int k (k.wrap n),?_,by simp[Rel,Value.oneCell']⟩
  rw[r.1];simp[convert,run_underlying h1,run_underlying h2,Conv.intToInt]
 ·cases hrun
theorem th{src dst:TypeId}{x:Operand}{y:Opd}(ht:TmR S f s.tm a.tmps N)(hc:cOpd x=some y)(h1:P.underlying src=some .string)(h2:P.underlying dst=some .string)
  (hrun:runOp E call s (.convStr y)=some (v,s')):s'=s∧∃z,(convert src dst (a.eval x)).run P w=.ok z w∧Rel S f v z:=by
 simp only[runOp] at hrun;split at hrun
 ·rename_i b hu;simp only[sI,pI] at hrun;obtain⟨rfl,rfl⟩:=hrun;have r:=aA ht hc hu;have r':=r;simp only[Rel] at r';refine⟨rfl,a.eval x,?_,r⟩;rw[r'.1];simp[convert,run_underlying h1,run_underlying h2]
 ·cases hrun
theorem te{t:TypeId}{x:Operand}{y:Opd}(ht:TmR S f s.tm a.tmps N)(hc:cOpd x=some y)(h1:∃d,P.underlying t=some d∧∀m,d≠ .interface m)
  (hrun:runOp E call s (.mkIface t y)=some (v,s')):s'=s∧∃z,(Instr.makeInterface t (a.eval x)).run P w=.ok z w∧Rel S f v z:=by
 simp only[runOp,j7,sI,pI] at hrun;obtain⟨u,hu,rfl,rfl⟩:=hrun;obtain⟨d,hd,hn⟩:=h1;refine⟨rfl,.iface t (a.eval x),?_,by simp only[Rel];exact⟨_,rfl,aA ht hc hu⟩⟩
 simp only[Instr.makeInterface,Sem.run_bind,run_underlying hd,Result.andThen_ok];cases d<;>first|rfl|exact absurd rfl (hn _)
theorem ww{fn:Fn}{xs ys:Array Operand}{xs' ys':List Opd}(ht:TmR S f s.tm a.tmps N)(h1:cOpds xs.toList=some xs')(h2:cOpds ys.toList=some ys')
  (hrun:runOp E call s (.mkFunc fn xs' ys')=some (v,s')):s'=s∧∃z,(Instr.makeFunc fn (xs.map a.eval) (ys.map a.eval)).run P w=.ok z w∧Rel S f v z:=by
 simp only[runOp] at hrun;cases e1:evalAll s xs' with
 |none=>simp[e1] at hrun
 |some A=>
  cases e2:evalAll s ys' with
  |none=>simp[e1,e2] at hrun
  |some B=>
   simp only[e1,e2,sI,pI] at hrun;obtain⟨rfl,rfl⟩:=hrun;refine⟨rfl,_,rfl,?_⟩;simp only[Rel];exact⟨_,_,by rw[←Bi,←Bi,Array.toArray_toList,Array.toArray_toList],bE ht h1 e1,bE ht h2 e2⟩
theorem eY(w:World)(o:Obj):(w.alloc o).heap[w.heap.size]? =some o:=by
 show(w.heap.push o)[w.heap.size]? =some o;simp
theorem yb{t:TypeId}(r:WR E.globs base S f s.h w)(hrun:runOp E call s .mkMap=some (v,s')):
  s'.tm=s.tm∧s'.defers=s.defers∧∃x w',(Instr.makeMap t none).run P w=.ok x w'∧Left E base S f s.h w v s'.h x w':=by
 simp only[runOp,sI,pI] at hrun;obtain⟨rfl,rfl⟩:=hrun;have g:=r.alloc (o:=.map #[] 0) (k:=.map []) (R:=1) (fun f' _=>by
  simp only[BlkR];refine⟨trivial,trivial, #[],0,eY w _,by simp[RelM],rfl,fun i e he=>by simp at he⟩)
 refine⟨rfl,rfl,.map (some w.heap.size),w.alloc (.map #[] 0),by simp[Instr.makeMap],_,_,g,?_⟩
 simp only[Rel];exact⟨_,_,_,aR _ _ _,rfl⟩
theorem td{t e:TypeId}{n b:Nat}{z:List AV}{l c:Operand}{l' c':Opd}(ht:TmR S f s.tm a.tmps N)(r:WR E.globs base S f s.h w)(hu:P.underlying t=some (.slice e))
  (hn:sizeOf? P e=some n) (hz:zeroCells? P e=some z) (hlen:z.length=n) (hb:(P.info? e).map (·.bytes)=some b) (hl:cOpd l=some l') (hc:cOpd c=some c')
  (hrun:runOp E call s (.mkSlice n b z l' c')=some (v,s')):
  s'.tm=s.tm∧s'.defers=s.defers∧∃x w',(Instr.makeSlice t (a.eval l) (a.eval c)).run P w=.ok x w'∧Left E base S f s.h w v s'.h x w':=by
 simp only[runOp] at hrun;cases h1:(s.eval l').bind asN with
 |none=>simp[h1] at hrun
 |some L=>
  cases h2:(s.eval c').bind asN with
  |none=>simp[h1,h2] at hrun
  |some C=>
   simp only[h1,h2] at hrun;cases hk:(i6 L C&&i6 (C*b) mostBytes&&i6 C (2^40)) with
   |false=>simp[hk] at hrun
   |true=>
    simp only[hk,cond_true,sI,pI] at hrun;obtain⟨rfl,rfl⟩:=hrun;simp only[i9] at hk;have k1:=is hk.1.1;have k2:=is hk.1.2;have k3:=is hk.2;unfold mostBytes at k2;simp only[j7] at h1 h2;obtain⟨u1,hu1,hn1⟩:=h1;obtain⟨u2,hu2,hn2⟩:=h2;obtain⟨q1,e1⟩:=eL (aA ht hl hu1) hn1;obtain⟨q2,e2⟩:=eL (aA ht hc hu2) hn2;obtain⟨zv,hzr,ho,rfl⟩:=cF hz;have hzn:zv.cells.size=n:=by simpa using hlen
    obtain⟨z1,z2⟩:=ez (S:=S) (f:=f) ho C n hzn;have hzl:=z1.length;have g:=r.allocCells (cs:=(jz C (zv.cells.toList.map AV.val)).flatten) (arr:=(B9 (C*n)).map (zv.cells[· %zv.cells.size]!)) e (by rw[jl (by omega)];exact z1) z2
    have w1:IntKind.i64.wrap (L:Int)=L:=IntWalk.i64_in _ (by omega)
    have w2:IntKind.i64.wrap (C:Int)=C:=IntWalk.i64_in _ (by omega)
    refine⟨rfl,rfl,.slice (some ⟨w.heap.size,0,none⟩) L C,_,?_,_,_,g,?_⟩
    ·cases hi:P.info? e with
     |none=>simp[hi] at hb
     |some i=>
      simp only[hi,jo,sI] at hb;have ht:typeInfo e=(typeInfo e):=rfl;have hti:∀w,(typeInfo e).run P w=.ok i w:=fun w=>by simp[typeInfo,hi]
      rw[e1,e2];have hbig:¬((b:Int)*(C:Int)>2^48):=by
       have:b*C≤2^40:=by rw[Nat.mul_comm];exact k2
       have:((b*C:Nat):Int)≤2^40:=by exact_mod_cast this
       push_cast at this
       omega
      simp only[Instr.makeSlice,Sem.run_bind,run_underlying hu,Result.andThen_ok,asInt,asIntOf,Sem.run_pure,hti,hb,w1,w2];rw[if_neg (by simp only[Bool.or_eq_true,decide_eq_true_eq];omega)]
      simp only[Sem.run_bind,run_askRoom,Result.andThen_ok,aU hn,Int.toNat_natCast]
      by_cases h0:C*n=0
      ·have e3:((B9 (C*n)).map (fun i=>(#[]:Array Value)[i%(#[]:Array Value).size]!))=(B9 (C*n)).map (fun i=>zv.cells[i%zv.cells.size]!):=by rw[h0];simp
       simp only[Sem.run_bind,Sem.run_pure,Result.andThen_ok,if_pos h0,e3];simp[newRow]
      ·simp only[Sem.run_bind,Sem.run_pure,Result.andThen_ok,if_neg h0,hzr];simp[newRow]
    ·simp only[Rel];refine⟨_,_,_,C,aR _ _ _,.inl rfl,k1,by simp,?_⟩
     simp[hzn]
end ops
end Go.AM
namespace Go.AM
open Go.RowKit
variable {G:Nat→Option (List AV)}{base:Nat}{S:Snap}{f:Emb}{h:AH}{w:World}{P:Program}{E:Env}{s:St}{a:Act}{N:Nat}
section ops
variable {call:Cle→List AV→AH→Option (AV×AH)}{o:Oper}{v:AV}{s':St}
theorem tf{i:Nat}{x:Operand}{y:Opd}(ht:TmR S f s.tm a.tmps N)(hc:cOpd x=some y)(hrun:runOp E call s (.extract i y)=some (v,s')):
  s'=s∧∃z,(Instr.extract (a.eval x) i).run P w=.ok z w∧Rel S f v z:=by
 simp only[runOp] at hrun;split at hrun
 ·rename_i vs hu;simp only[j7,sI,pI] at hrun;obtain⟨u,hi,rfl,rfl⟩:=hrun;have r:=aA ht hc hu;simp only[Rel] at r;obtain⟨xs,e,r⟩:=r;obtain⟨z,hz,hr⟩:=r.get hi;exact⟨rfl,z,by rw[e];simp[Instr.extract,hz],hr⟩
 ·cases hrun
theorem Gg{t:TypeId}{e:TypeId}{x:Operand}{y:Opd}{ty:TypeId}(ht:TmR S f s.tm a.tmps N)(hc:cOpd x=some y)(hu:P.underlying t=some (.slice e))
  (hrun:runOp E call s (.lenS y)=some (v,s')):s'=s∧∃z,(Builtin.len_ #[t] ty #[a.eval x]).run P w=.ok z w∧Rel S f v z:=by
 simp only[runOp] at hrun;split at hrun
 ·rename_i hx;simp only[sI,pI] at hrun;obtain⟨rfl,rfl⟩:=hrun;have r:=aA ht hc hx;simp only[Rel] at r;exact⟨rfl,goInt 0,by rw[r.1];simp[Builtin.len_,run_underlying hu],by simp[Rel,goInt,Value.oneCell']⟩
 ·rename_i cs n cap hx;simp only[sI,pI] at hrun;obtain⟨rfl,rfl⟩:=hrun;have r:=aA ht hc hx;simp only[Rel] at r;obtain⟨_,_,_,e,_⟩:=r;exact⟨rfl,goInt n,by rw[e];simp[Builtin.len_,run_underlying hu],by simp[Rel,goInt,Value.oneCell']⟩
 ·rename_i b off n es cap hx;simp only[sI,pI] at hrun;obtain⟨rfl,rfl⟩:=hrun;have r:=aA ht hc hx;simp only[Rel] at r;obtain⟨_,_,_,_,_,e,_⟩:=r;rcases e with e|⟨rfl,_,_,_,e⟩
  ·exact⟨rfl,goInt n,by rw[e];simp[Builtin.len_,run_underlying hu],by simp[Rel,goInt,Value.oneCell']⟩
  ·exact⟨rfl,goInt 0,by rw[e];simp[Builtin.len_,run_underlying hu],by simp[Rel,goInt,Value.oneCell']⟩
 ·cases hrun
theorem Gk{t:TypeId}{e:TypeId}{x:Operand}{y:Opd}{ty:TypeId}(ht:TmR S f s.tm a.tmps N)(hc:cOpd x=some y)(hu:P.underlying t=some (.slice e))
  (hrun:runOp E call s (.capS y)=some (v,s')):s'=s∧∃z,(Builtin.cap_ #[t] ty #[a.eval x]).run P w=.ok z w∧Rel S f v z:=by
 simp only[runOp] at hrun;split at hrun
 ·rename_i hx;simp only[sI,pI] at hrun;obtain⟨rfl,rfl⟩:=hrun;have r:=aA ht hc hx;simp only[Rel] at r;exact⟨rfl,goInt 0,by rw[r.1];simp[Builtin.cap_,run_underlying hu],by simp[Rel,goInt,Value.oneCell']⟩
 ·rename_i cs n k hx;simp only[sI,pI] at hrun;obtain⟨rfl,rfl⟩:=hrun;have r:=aA ht hc hx;simp only[Rel] at r;obtain⟨_,_,c,e,_,hk,_⟩:=r;have:=hk k rfl;subst this;exact⟨rfl,goInt c,by rw[e];simp[Builtin.cap_,run_underlying hu],by simp[Rel,goInt,Value.oneCell']⟩
 ·rename_i b off n es k hx;simp only[sI,pI] at hrun;obtain⟨rfl,rfl⟩:=hrun;have r:=aA ht hc hx;simp only[Rel] at r;obtain⟨_,_,_,c,_,e,_,hk,_⟩:=r;have:=hk k rfl;subst this;rcases e with e|⟨_,rfl,_,_,e⟩
  rotate_left
  ·exact⟨rfl,goInt 0,by rw[e];simp[Builtin.cap_,run_underlying hu],by simp[Rel,goInt,Value.oneCell']⟩
  exact⟨rfl,goInt c,by rw[e];simp[Builtin.cap_,run_underlying hu],by simp[Rel,goInt,Value.oneCell']⟩
 ·cases hrun
theorem wz{t:TypeId}{x:Operand}{y:Opd}{ty:TypeId}(ht:TmR S f s.tm a.tmps N)(hc:cOpd x=some y)(hu:P.underlying t=some .string)
  (hrun:runOp E call s (.lenStr y)=some (v,s')):s'=s∧∃z,(Builtin.len_ #[t] ty #[a.eval x]).run P w=.ok z w∧Rel S f v z:=by
 simp only[runOp] at hrun;split at hrun
 ·rename_i b hx;simp only[sI,pI] at hrun;obtain⟨rfl,rfl⟩:=hrun;have r:=aA ht hc hx;simp only[Rel] at r;exact⟨rfl,goInt b.size,by rw[r.1];simp[Builtin.len_,run_underlying hu],by simp[Rel,goInt,Value.oneCell']⟩
 ·cases hrun
theorem w7{t k e:TypeId}{x:Operand}{y:Opd}{ty:TypeId}(ht:TmR S f s.tm a.tmps N)(r:WR E.globs base S f s.h w)(hc:cOpd x=some y)(hu:P.underlying t=some (.map k e))
  (hrun:runOp E call s (.lenMap y)=some (v,s')):s'=s∧∃z,(Builtin.len_ #[t] ty #[a.eval x]).run P w=.ok z w∧Rel S f v z:=by
 simp only[runOp] at hrun;split at hrun
 ·rename_i hx;simp only[sI,pI] at hrun;obtain⟨rfl,rfl⟩:=hrun;have r:=aA ht hc hx;simp only[Rel] at r;exact⟨rfl,goInt 0,by rw[r.1];simp[Builtin.len_,run_underlying hu],by simp[Rel,goInt,Value.oneCell']⟩
 ·rename_i b hx;split at hrun
  ·rename_i es hb;simp only[sI,pI] at hrun;obtain⟨rfl,rfl⟩:=hrun;have hr:=aA ht hc hx;simp only[Rel] at hr;obtain⟨B,O,R,hf,e1⟩:=hr;obtain⟨B',O',R',hf',_,_,hb'⟩:=r.blk _ _ hb;rw[hf] at hf';simp only[sI,pI] at hf';obtain⟨rfl,rfl,rfl⟩:=hf';simp only[BlkR] at hb';obtain⟨_,_,arr,clock,hh,hm,_⟩:=hb';have hlen:es.length=arr.size:=by
    have:∀(es:List (Value×AV)) (l:List MapEntry),RelM S f es l→es.length=l.length:=by
     intro es
     induction es with
     |nil=>intro l h;simp only[RelM] at h;simp[h]
     |cons p es ih=>intro l h;obtain⟨k,v⟩:=p;simp only[RelM] at h;obtain⟨e,l',rfl,_,_,h⟩:=h;simp[ih _ h]
    simpa using this es arr.toList hm
   refine⟨rfl,goInt arr.size,?_,by simp[Rel,goInt,Value.oneCell',hlen]⟩
   rw[e1];have hg:(getObj B).run P w=.ok (.map arr clock) w:=by simp[getObj,Sem.run,hh]
   simp[Builtin.len_,run_underlying hu,hg]
  ·cases hrun
 ·cases hrun
theorem vc{t e:TypeId}{n:Nat}{x:Value}{ty:TypeId}(hu:P.underlying t=some (.array n e)∨∃q,P.underlying t=some (.pointer q)∧P.underlying q=some (.array n e))
  (hrun:runOp E call s (.lenK n)=some (v,s')):s'=s∧∃z,(Builtin.len_ #[t] ty #[x]).run P w=.ok z w∧Rel S f v z:=by
 simp only[runOp,sI,pI] at hrun;obtain⟨rfl,rfl⟩:=hrun;refine⟨rfl,goInt n,?_,by simp[Rel,goInt,Value.oneCell']⟩
 rcases hu with hu|⟨q,hu,hq⟩
 ·simp[Builtin.len_,run_underlying hu]
 ·simp[Builtin.len_,run_underlying hu,run_underlying hq]
theorem yc{t:TypeId}{fs:Array Field}{i:Nat}{fd:Field}{n:Option Nat}{x:Operand}{y:Opd}(ht:TmR S f s.tm a.tmps N)(hc:cOpd x=some y)(hu:P.underlying t=some (.struct fs))
  (hi:fs[i]? =some fd) (hn:loadN? P fd.type=some n) (hrun:runOp E call s (.field fd.offset n y)=some (v,s')):
  s'=s∧∃z,(Instr.field t (a.eval x) i).run P w=.ok z w∧Rel S f v z:=by
 simp only[runOp] at hrun;split at hrun
 ·rename_i cs hx;cases hk:i6 fd.offset cs.length with
  |false=>simp[hk] at hrun
  |true=>
   simp only[hk,cond_true,j7,sI,pI] at hrun;obtain⟨u,hv,rfl,rfl⟩:=hrun;have hk':=is hk;have r:=aA ht hc hx;simp only[Rel] at r;obtain⟨xs,e,ho,r⟩:=r;have hlen:=r.length;obtain⟨h1,h2⟩:=fT hn w;refine⟨rfl,?_⟩;rw[e];simp only[Instr.field,Sem.run_bind,run_underlying hu,Result.andThen_ok,hi,asAgg,Sem.run_pure,part,h1];cases n with
   |none=>
    simp only[takeN] at hv;have hv':cs[fd.offset]? =some u:=by rw[←hv,List.head?_eq_getElem?,Az];rfl
    obtain⟨z,hz,hr⟩:=r.get hv';exact⟨z,by simp[hz],hr⟩
   |some k=>
    simp only[takeN] at hv;cases hl:i6 k (cs.drop fd.offset).length with
    |false=>rw[hl] at hv;simp at hv
    |true=>
     rw[hl] at hv;simp only[cond_true,sI] at hv;subst hv;have hl':=is hl;refine⟨.agg (xs.toArray.extract fd.offset (fd.offset+k)),by simp[h2 k rfl],?_⟩
     simp only[Rel];refine⟨(xs.drop fd.offset).take k,?_,?_,(r.drop _).take _⟩
     ·congr 1
      apply Array.ext';simp[]
     ·exact iy.2 fun y hy=>iy.1 ho y (A4 (List.mem_of_mem_take hy))
 ·cases hrun
theorem l9{fd:Field}{n b off:Nat}(hs:sizeOf? P fd.type=some (n+1)):(fieldPlace ⟨b,off,none⟩ fd).run P w=.ok ⟨b,off+fd.offset,none⟩ w:=by
 simp only[fieldPlace,Sem.run_bind,aU hs,Result.andThen_ok];rw[if_neg (by omega)]
 simp[add_zero]
theorem pJ{t:TypeId}{fs:Array Field}{i:Nat}{fd:Field}{n:Nat}{x:Operand}{y:Opd}(ht:TmR S f s.tm a.tmps N)(hc:cOpd x=some y)(hu:P.underlying t=some (.struct fs))
  (hi:fs[i]? =some fd) (hn:sizeOf? P fd.type=some (n+1)) (hrun:runOp E call s (.fieldAddr fd.offset y)=some (v,s')):
  s'=s∧∃z,(Instr.fieldAt t (a.eval x) i).run P w=.ok z w∧Rel S f v z:=by
 have key:∀b off,a.eval x=.pointer (some ⟨b,off,none⟩)→(Instr.fieldAt t (a.eval x) i).run P w=.ok (.pointer (some ⟨b,off+fd.offset,none⟩)) w:=by
  intro b off e;rw[e];simp only[Instr.fieldAt,Sem.run_bind,run_underlying hu,Result.andThen_ok,hi,Instr.sureAddr,Sem.run_pure,l9 hn]
 simp only[runOp] at hrun;split at hrun
 ·rename_i b off hx;simp only[sI,pI] at hrun;obtain⟨rfl,rfl⟩:=hrun;have r:=aA ht hc hx;simp only[Rel] at r;obtain⟨B,O,R,hf,e⟩:=r;exact⟨rfl,_,key _ _ e,by simp only[Rel];exact⟨B,O,R,hf,by rw[jn]⟩⟩
 ·rename_i cs hx;cases hk:i6 fd.offset cs.length with
  |false=>simp[hk] at hrun
  |true=>
   simp only[hk,cond_true,sI,pI] at hrun;obtain⟨rfl,rfl⟩:=hrun;have r:=aA ht hc hx;simp only[Rel] at r;obtain⟨b,off,e,r⟩:=r;exact⟨rfl,_,key _ _ e,by simp only[Rel];exact⟨_,_,rfl,r.drop _⟩⟩
 ·rename_i g off hx;simp only[sI,pI] at hrun;obtain⟨rfl,rfl⟩:=hrun;have r:=aA ht hc hx;simp only[Rel] at r;exact⟨rfl,_,key _ _ r.1,by simp[Rel,Value.oneCell']⟩
 ·cases hrun
theorem qy{t e:TypeId}{n:Nat}{x i:Operand}{x' i':Opd}(ht:TmR S f s.tm a.tmps N)(hx:cOpd x=some x')(hi:cOpd i=some i')(hu:P.underlying t=some (.slice e))
  (hn:sizeOf? P e=some n) (hrun:runOp E call s (.idxAddrS n x' i')=some (v,s')):s'=s∧∃z,(Instr.indexAt t (a.eval x) (a.eval i)).run P w=.ok z w∧Rel S f v z:=by
 have key:∀b off l c (k:Nat) q,a.eval x=.slice (some ⟨b,off,none⟩) l c→a.eval i=.int q k→k<l→(Instr.indexAt t (a.eval x) (a.eval i)).run P w=.ok (.pointer (some ⟨b,off+k*n,none⟩)) w:=by
  intro b off l c k q e1 e2 hk;rw[e1,e2];simp only[Instr.indexAt,Sem.run_bind,asIntOf,Sem.run_pure,Result.andThen_ok,run_underlying hu];rw[if_pos (by omega)]
  simp[aU hn,add_zero]
 simp only[runOp] at hrun;cases h2:(s.eval i').bind asN with
 |none=>rw[h2] at hrun;split at hrun<;>simp_all
 |some k=>
  rw[h2] at hrun;have h2':=h2;simp only[j7] at h2';obtain⟨u,hu1,hn1⟩:=h2';obtain⟨q,e2⟩:=eL (aA ht hi hu1) hn1;split at hrun
  ·rename_i cs m cap k' hx' hk';simp only[sI] at hk';subst hk';cases hk:(iq k m&&i6 (k*n) cs.length) with
   |false=>simp[hk] at hrun
   |true=>
    simp only[hk,cond_true,sI,pI] at hrun;obtain⟨rfl,rfl⟩:=hrun;simp only[i9,j8] at hk;have r:=aA ht hx hx';simp only[Rel] at r;obtain⟨b,off,c,e,_,_,r⟩:=r;exact⟨rfl,_,key _ _ _ _ _ _ e e2 hk.1,by simp only[Rel];exact⟨_,_,rfl,r.drop _⟩⟩
  ·rename_i b off m es cap k' hx' hk';simp only[sI] at hk';subst hk';cases hk:(iq k m&&i5 n es) with
   |false=>simp[hk] at hrun
   |true=>
    simp only[hk,cond_true,sI,pI] at hrun;obtain⟨rfl,rfl⟩:=hrun;simp only[i9,j8] at hk;have r:=aA ht hx hx';simp only[Rel] at r;obtain⟨B,O,R,c,hf,e,_⟩:=r;have e:=e.pos (.inl (by omega))
    exact⟨rfl,_,key _ _ _ _ _ _ e e2 hk.1,by simp only[Rel];exact⟨B,O,R,hf,by rw[jn]⟩⟩
  ·cases hrun
theorem qz{t e:TypeId}{len n:Nat}{x i:Operand}{x' i':Opd}(ht:TmR S f s.tm a.tmps N)(hx:cOpd x=some x')(hi:cOpd i=some i')(hu:P.underlying t=some (.array len e))
  (hn:sizeOf? P e=some n) (hrun:runOp E call s (.idxAddrA len n x' i')=some (v,s')):s'=s∧∃z,(Instr.indexAt t (a.eval x) (a.eval i)).run P w=.ok z w∧Rel S f v z:=by
 have key:∀b off (k:Nat) q,a.eval x=.pointer (some ⟨b,off,none⟩)→a.eval i=.int q k→k<len→(Instr.indexAt t (a.eval x) (a.eval i)).run P w=.ok (.pointer (some ⟨b,off+k*n,none⟩)) w:=by
  intro b off k q e1 e2 hk;rw[e1,e2];simp only[Instr.indexAt,Sem.run_bind,asIntOf,Sem.run_pure,Result.andThen_ok,run_underlying hu,Instr.sureAddr];rw[if_pos (by omega)]
  simp[aU hn,add_zero]
 simp only[runOp] at hrun;cases h2:(s.eval i').bind asN with
 |none=>rw[h2] at hrun;split at hrun<;>simp_all
 |some k=>
  rw[h2] at hrun;have h2':=h2;simp only[j7] at h2';obtain⟨u,hu1,hn1⟩:=h2';obtain⟨q,e2⟩:=eL (aA ht hi hu1) hn1;split at hrun
  ·rename_i b off k' hx' hk';simp only[sI] at hk';subst hk';cases hk:iq k len with
   |false=>simp[hk] at hrun
   |true=>
    simp only[hk,cond_true,sI,pI] at hrun;obtain⟨rfl,rfl⟩:=hrun;rw[j8] at hk;have r:=aA ht hx hx';simp only[Rel] at r;obtain⟨B,O,R,hf,e⟩:=r;exact⟨rfl,_,key _ _ _ _ e e2 hk,by simp only[Rel];exact⟨B,O,R,hf,by rw[jn]⟩⟩
  ·rename_i cs k' hx' hk';simp only[sI] at hk';subst hk';cases hk:(iq k len&&i6 (k*n) cs.length) with
   |false=>simp[hk] at hrun
   |true=>
    simp only[hk,cond_true,sI,pI] at hrun;obtain⟨rfl,rfl⟩:=hrun;simp only[i9,j8] at hk;have r:=aA ht hx hx';simp only[Rel] at r;obtain⟨b,off,e,r⟩:=r;exact⟨rfl,_,key _ _ _ _ e e2 hk.1,by simp only[Rel];exact⟨_,_,rfl,r.drop _⟩⟩
  ·rename_i g off k' hx' hk';simp only[sI] at hk';subst hk';cases hk:iq k len with
   |false=>simp[hk] at hrun
   |true=>
    simp only[hk,cond_true,sI,pI] at hrun;obtain⟨rfl,rfl⟩:=hrun;rw[j8] at hk;have r:=aA ht hx hx';simp only[Rel] at r;exact⟨rfl,_,key _ _ _ _ r.1 e2 hk,by simp[Rel,Value.oneCell']⟩
  ·cases hrun
theorem w9{t:TypeId}{x i:Operand}{x' i':Opd}(ht:TmR S f s.tm a.tmps N)(hx:cOpd x=some x')(hi:cOpd i=some i')(hu:P.underlying t=some .string)
  (hrun:runOp E call s (.idxStr x' i')=some (v,s')):s'=s∧∃z,(Instr.index t (a.eval x) (a.eval i)).run P w=.ok z w∧Rel S f v z:=by
 simp only[runOp] at hrun;split at hrun
 ·rename_i b k hx' hk;simp only[j7] at hk;obtain⟨u,hu1,hn1⟩:=hk;obtain⟨q,e2⟩:=eL (aA ht hi hu1) hn1;split at hrun
  ·rename_i c hc;simp only[sI,pI] at hrun;obtain⟨rfl,rfl⟩:=hrun;have r:=aA ht hx hx';simp only[Rel] at r;refine⟨rfl,.int .u8 c.toNat,?_,by simp[Rel,Value.oneCell']⟩
   rw[r.1,e2];have hb:b[k]? =some c:=by
    have:b.data[k]? =some c:=by simpa using hc
    obtain⟨hlt,e⟩:=Bf.1 this;rw[getElem?_pos b k hlt];exact congrArg some e
   simp[Instr.index,asIntOf,run_underlying hu,hb]
  ·cases hrun
 ·cases hrun
end ops
end Go.AM
