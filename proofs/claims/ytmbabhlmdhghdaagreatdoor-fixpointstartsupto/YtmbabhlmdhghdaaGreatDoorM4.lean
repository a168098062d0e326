/- XAmF XAmG -/
import Derived.Test.YtmbabhlmdhghdaaGreatDoorM3
set_option linter.all false
open Option renaming some->Z, none->Y
open Bool renaming true->J, false->U
open List renaming replicate->jr
open Nat renaming beq->ig, ble->ii, blt->ir
namespace Go.AM
def r_mv(s:St)(x:Opd):Option (AV×St):=
 let ret (v:AV):Option (AV×St):=Z (v,s)
 (s.eval x).bind ret
def r_pick(s:St)(c:Opd)(a:Opd)(b:Opd):Option (AV×St):=
 let ret (v:AV):Option (AV×St):=Z (v,s)
 match s.eval c with
  |some (.val (.bool J))=>(s.eval a).bind ret
  |some (.val (.bool U))=>(s.eval b).bind ret
  |_=>Y
def r_alloc(s:St)(z:List AV):Option (AV×St):=
 let retH (v:AV) (h:AH):Option (AV×St):=Z (v,{s with h})
 retH (.ptr s.h.next 0) (s.h.alloc (.cells z J))
def r_box(s:St)(x:Opd):Option (AV×St):=
 let retH (v:AV) (h:AH):Option (AV×St):=Z (v,{s with h})
 match (s.eval x).bind AV.cells with
  |some l=>retH (.ptr s.h.next 0) (s.h.alloc (.cells l J))
  |none=>Y
def r_build(s:St)(z:List AV)(parts:List (Nat×Nat×Opd)):Option (AV×St):=
 let ret (v:AV):Option (AV×St):=Z (v,s)
 (fill s z parts).bind λcs=>ret (.agg cs)
def mP(s:St)(es:Nat)(n:Nat)(z:List AV)(parts:List (Nat×Nat×Opd)):Option (AV×St):=
 let retH (v:AV) (h:AH):Option (AV×St):=Z (v,{s with h})
 (fill s z parts).bind λcs=>retH (.own s.h.next 0 n es (Z n)) (s.h.alloc (.cells cs J))
def r_load(E:Env)(s:St)(n:Option Nat)(x:Opd):Option (AV×St):=
 let ret (v:AV):Option (AV×St):=Z (v,s)
 match s.eval x with
  |some v=>((bI E.aY s.h v).bind (takeN n)).bind ret
  |none=>Y
def r_store(s:St)(n:Nat)(a:Opd)(x:Opd):Option (AV×St):=
 let retH (v:AV) (h:AH):Option (AV×St):=Z (v,{s with h})
 match s.eval a,(s.eval x).bind AV.cells with
  |some (.ptr b off),Z l=>match s.h.get b with
   |some (.cells cs J)=>bif ig l.length n&&ii (off+n) cs.length then retH bJ (s.h.put b (Z (.cells (putAt cs off l) J))) else Y
   |_=>Y
  |_,_=>Y
def r_nilck(E:Env)(s:St)(x:Opd):Option (AV×St):=
 let ret (v:AV):Option (AV×St):=Z (v,s)
 match s.eval x with
  |some (.val (.pointer Y))|some (.val .nilIface)|some (.val .nilFunc)|some (.val (.func ..))=>Y
  |some (.fn (.method name) (.ifc t v::a) b)=>match E.iG t name with
   |some _=>ret (.fn (.method name) (.ifc t v::a) b)
   |none=>Y
  |some (.fn (.method _) _ _)=>Y
  |some (.yld _)=>Y
  |some v=>ret v
  |none=>Y
def r_bin(E:Env)(s:St)(op:BinOp)(t:TypeId)(g:Bool)(x:Opd)(y:Opd):Option (AV×St):=
 let ret (v:AV):Option (AV×St):=Z (v,s)
 match s.eval x,s.eval y with
  |some a,Z b=>(dM E.P op t g a b).bind ret
  |_,_=>Y
def r_un(E:Env)(s:St)(op:UnOp)(x:Opd):Option (AV×St):=
 let ret (v:AV):Option (AV×St):=Z (v,s)
 match s.eval x with
  |some (.val v)=>((bK E.P (Op.unary op v)).bind ew).bind ret
  |_=>Y
def r_conv(s:St)(k:IntKind)(x:Opd):Option (AV×St):=
 let ret (v:AV):Option (AV×St):=Z (v,s)
 match s.eval x with
  |some (.val (.int _ n))=>ret (.val (.int k (k.wrap n)))
  |_=>Y
def mX(s:St)(x:Opd):Option (AV×St):=
 let ret (v:AV):Option (AV×St):=Z (v,s)
 match s.eval x with
  |some (.val (.slice Y 0 0))=>ret (.val (.string ⟨#[]⟩))
  |some (.val _)=>Y
  |some v=>match au s.h 1 v with
   |some (cs,_)=>(bytesOf cs).bind λb=>ret (.val (.string b))
   |none=>Y
  |none=>Y
def mn(s:St)(x:Opd):Option (AV×St):=
 let retH (v:AV) (h:AH):Option (AV×St):=Z (v,{s with h})
 match s.eval x with
  |some (.val (.string b))=>retH (.own s.h.next 0 b.size 1 Y) (s.h.alloc (.cells (b.data.toList.map λb=>.val (.int .u8 b.toNat)) J))
  |_=>Y
def r_convId(s:St)(x:Opd):Option (AV×St):=
 let ret (v:AV):Option (AV×St):=Z (v,s)
 match s.eval x with
  |some (.own b off n es cap)=>match s.h.get b with
   |some (.cells (_::_) J)=>ret (.own b off n es cap)
   |_=>Y
  |_=>Y
def r_convStr(s:St)(x:Opd):Option (AV×St):=
 let ret (v:AV):Option (AV×St):=Z (v,s)
 match s.eval x with
  |some (.val (.string b))=>ret (.val (.string b))
  |_=>Y
def r_mkIface(s:St)(t:TypeId)(x:Opd):Option (AV×St):=
 let ret (v:AV):Option (AV×St):=Z (v,s)
 (s.eval x).bind λv=>ret (.ifc t v)
def r_mkFunc(s:St)(fn:Fn)(a:List Opd)(b:List Opd):Option (AV×St):=
 let ret (v:AV):Option (AV×St):=Z (v,s)
 match aT s a,aT s b with
  |some a,Z b=>ret (.fn fn a b)
  |_,_=>Y
def r_mkMap(s:St):Option (AV×St):=
 let retH (v:AV) (h:AH):Option (AV×St):=Z (v,{s with h})
 retH (.mp s.h.next) (s.h.alloc (.map []))
def r_mkSlice(s:St)(es:Nat)(bytes:Nat)(z:List AV)(l:Opd)(c:Opd):Option (AV×St):=
 let retH (v:AV) (h:AH):Option (AV×St):=Z (v,{s with h})
 match (s.eval l).bind asN,(s.eval c).bind asN with
  |some l,Z c=>bif ii l c&&ii (c*bytes) cR&&ii c (2^40) then
    retH (.own s.h.next 0 l es (Z c)) (s.h.alloc (.cells ((jr c z).flatten) J)) else Y
  |_,_=>Y
def r_sliceS(s:St)(es:Nat)(x:Opd)(lo:Option Opd)(hi:Option Opd)(mx:Option Opd):Option (AV×St):=
 let ret (v:AV):Option (AV×St):=Z (v,s)
 match s.eval x,cm s lo,cm s hi,cm s mx with
  |some v,Z lo,Z hi,Z mx=>((fW es v lo hi mx).or (fv s.h es v lo hi mx)).bind ret
  |_,_,_,_=>Y
def r_sliceA(s:St)(es:Nat)(len:Nat)(x:Opd)(lo:Option Opd)(hi:Option Opd):Option (AV×St):=
 let ret (v:AV):Option (AV×St):=Z (v,s)
 match s.eval x,cm s lo,cm s hi with
  |some (.ptr b off),Z lo,Z hi=>match s.h.get b with
   |some (.cells cs _)=>bif ii (off+len*es) cs.length then(match sliceB len len lo hi Y with
    |some (l,h,m)=>ret (.own b (bif ig m l then off else off+l*es) (h-l) es (Z (m-l)))
    |none=>Y) else Y
   |_=>Y
  |some (.bD cs),Z lo,Z hi=>match sliceB len len lo hi Y with
   |some (l,h,m)=>ret (.imm ((cs.drop (l*es)).take ((h-l)*es)) (h-l) (Z (m-l)))
   |none=>Y
  |_,_,_=>Y
def qV(s:St)(x:Opd)(lo:Option Opd)(hi:Option Opd):Option (AV×St):=
 let ret (v:AV):Option (AV×St):=Z (v,s)
 match s.eval x,cm s lo,cm s hi with
  |some (.val (.string b)),Z lo,Z hi=>match sliceB b.size b.size lo hi Y with
   |some (l,h,_)=>ret (.val (.string (b.extract l h)))
   |none=>Y
  |_,_,_=>Y
def kW(s:St)(off:Nat)(x:Opd):Option (AV×St):=
 let ret (v:AV):Option (AV×St):=Z (v,s)
 match s.eval x with
  |some (.ptr b o)=>ret (.ptr b (o+off))
  |some (.bD cs)=>bif ii off cs.length then ret (.bD (cs.drop off)) else Y
  |some (.val (.pointer (Z ⟨g,o,Y⟩)))=>ret (.val (.pointer (Z ⟨g,o+off,Y⟩)))
  |_=>Y
def r_field(s:St)(off:Nat)(n:Option Nat)(x:Opd):Option (AV×St):=
 let ret (v:AV):Option (AV×St):=Z (v,s)
 match s.eval x with
  |some (.agg cs)=>bif ii off cs.length then(takeN n (cs.drop off)).bind ret else Y
  |_=>Y
def lZ(s:St)(es:Nat)(x:Opd)(i:Opd):Option (AV×St):=
 let ret (v:AV):Option (AV×St):=Z (v,s)
 match s.eval x,(s.eval i).bind asN with
  |some (.imm cs n _),Z i=>bif ir i n&&ii (i*es) cs.length then ret (.bD (cs.drop (i*es))) else Y
  |some (.own b off n es' _),Z i=>bif ir i n&&ig es es' then ret (.ptr b (off+i*es)) else Y
  |_,_=>Y
def qN(s:St)(len:Nat)(es:Nat)(x:Opd)(i:Opd):Option (AV×St):=
 let ret (v:AV):Option (AV×St):=Z (v,s)
 match s.eval x,(s.eval i).bind asN with
  |some (.ptr b off),Z i=>bif ir i len then ret (.ptr b (off+i*es)) else Y
  |some (.bD cs),Z i=>bif ir i len&&ii (i*es) cs.length then ret (.bD (cs.drop (i*es))) else Y
  |some (.val (.pointer (Z ⟨g,o,Y⟩))),Z i=>bif ir i len then ret (.val (.pointer (Z ⟨g,o+i*es,Y⟩))) else Y
  |_,_=>Y
def r_idxA(s:St)(len:Nat)(es:Nat)(n:Option Nat)(x:Opd)(i:Opd):Option (AV×St):=
 let ret (v:AV):Option (AV×St):=Z (v,s)
 match s.eval x,(s.eval i).bind asN with
  |some (.agg cs),Z i=>bif ir i len&&ii (i*es) cs.length then(takeN n (cs.drop (i*es))).bind ret else Y
  |_,_=>Y
def r_idxStr(s:St)(x:Opd)(i:Opd):Option (AV×St):=
 let ret (v:AV):Option (AV×St):=Z (v,s)
 match s.eval x,(s.eval i).bind asN with
  |some (.val (.string b)),Z i=>match b.data.toList[i]? with
   |some c=>ret (.val (.int .u8 c.toNat))
   |none=>Y
  |_,_=>Y
def r_lookup(s:St)(d:TypeDesc)(z:AV)(x:Opd)(k:Opd)(ok:Bool):Option (AV×St):=
 let ret (v:AV):Option (AV×St):=Z (v,s)
 match s.eval x,s.eval k with
  |some m,Z (.val k)=>
   let es:Option (List (Value×AV)):=match m with
    |.val (.map Y)=>Z []
    |.mp b=>match s.h.get b with
     |some (.map es)=>Z es
     |some (.hZ es)=>Z es
     |_=>Y
    |_=>Y
   match es with
   |some es=>match mB d k es with
    |some (Z v)=>ret (bif ok then .tup [v,.val (.bool J)] else v)
    |some Y=>ret (bif ok then .tup [z,.val (.bool U)] else z)
    |none=>Y
   |none=>Y
  |_,_=>Y
def r_mapUpd(s:St)(d:TypeDesc)(m:Opd)(k:Opd)(x:Opd):Option (AV×St):=
 let retH (v:AV) (h:AH):Option (AV×St):=Z (v,{s with h})
 match s.eval m,s.eval k,s.eval x with
  |some (.mp b),Z (.val k),Z v=>match s.h.get b with
   |some (.map es)=>(updA d k v es).bind λes=>retH bJ (s.h.put b (Z (.map es)))
   |_=>Y
  |_,_,_=>Y
def r_mapDel(s:St)(d:TypeDesc)(m:Opd)(k:Opd):Option (AV×St):=
 let retH (v:AV) (h:AH):Option (AV×St):=Z (v,{s with h})
 match s.eval m,s.eval k with
  |some (.mp b),Z (.val k)=>match s.h.get b with
   |some (.map es)=>(delA d k es).bind λes=>retH bJ (s.h.put b (Z (.hZ es)))
   |some (.hZ es)=>(delA d k es).bind λes=>retH bJ (s.h.put b (Z (.hZ es)))
   |_=>Y
  |_,_=>Y
def qT(s:St)(x:Opd):Option (AV×St):=
 let retH (v:AV) (h:AH):Option (AV×St):=Z (v,{s with h})
 match s.eval x with
  |some (.val (.string b))=>retH (.it s.h.next) (s.h.alloc (.iter b 0))
  |_=>Y
def r_nextStr(s:St)(x:Opd):Option (AV×St):=
 let ret (v:AV):Option (AV×St):=Z (v,s)
 let retH (v:AV) (h:AH):Option (AV×St):=Z (v,{s with h})
 match s.eval x with
  |some (.it b)=>match s.h.get b with
   |some (.iter str pos)=>bif ir pos str.size then
     let cw:=Utf8.decode str pos
     retH (.tup [.val (.bool J),.val (.int .i64 pos),.val (.int .i32 cw.1)]) (s.h.put b (Z (.iter str (pos+cw.2))))
    else ret (.tup [.val (.bool U)])
   |_=>Y
  |_=>Y
def qI(s:St)(x:Opd):Option (AV×St):=
 let retH (v:AV) (h:AH):Option (AV×St):=Z (v,{s with h})
 match s.eval x with
  |some (.val (.map Y))=>retH (.it s.h.next) (s.h.alloc (.ft Y))
  |some (.mp b)=>match s.h.get b with
   |some (.map [_])=>retH (.it s.h.next) (s.h.alloc (.kZ b U))
   |some (.map [])=>retH (.it s.h.next) (s.h.alloc (.ft (Z b)))
   |some (.map es)=>retH (.it s.h.next) (s.h.alloc (.nU b es.length []))
   |_=>Y
  |_=>Y
def r_nextMap(s:St)(x:Opd):Option (AV×St):=
 let ret (v:AV):Option (AV×St):=Z (v,s)
 let retH (v:AV) (h:AH):Option (AV×St):=Z (v,{s with h})
 match s.eval x with
  |some (.it b)=>match s.h.get b with
   |some (.ft Y)=>ret (.tup [.val (.bool U)])
   |some (.ft (Z m))=>match s.h.get m with
    |some (.map [])=>ret (.tup [.val (.bool U)])
    |_=>Y
   |some (.kZ m U)=>match s.h.get m with
    |some (.map [(k,v)])=>bif k.oneCell' then retH (.tup [.val (.bool J),.val k,v]) (s.h.put b (Z (.kZ m J))) else Y
    |_=>Y
   |some (.kZ m J)=>match s.h.get m with
    |some (.map [_])=>ret (.tup [.val (.bool U)])
    |_=>Y
   |some (.nU m n seen)=>match s.h.get m with
    |some (.map es)=>bif ig es.length n&&(ii 1 n&&allSeen seen n) then ret (.tup [.val (.bool U)]) else Y
    |_=>Y
   |_=>Y
  |_=>Y
def r_curMap(s:St)(x:Opd):Option (AV×St):=
 let ret (v:AV):Option (AV×St):=Z (v,s)
 match s.eval x with
  |some (.it b)=>match s.h.get b with
   |some (.kZ m J)=>match s.h.get m with
    |some (.map [(k,v)])=>bif k.oneCell' then ret (.tup [.val k,v]) else Y
    |_=>Y
   |some (.nU m n seen)=>match s.h.get m with
    |some (.map es)=>match curOf seen es with
     |some (k,v)=>bif ig es.length n&&k.oneCell' then ret (.tup [.val k,v]) else Y
     |none=>Y
    |_=>Y
   |_=>Y
  |_=>Y
def r_tassert(s:St)(t:TypeId)(z:AV)(ok:Bool)(x:Opd):Option (AV×St):=
 let ret (v:AV):Option (AV×St):=Z (v,s)
 match s.eval x with
  |some (.ifc t' v)=>bif ig t t' then ret (bif ok then .tup [v,.val (.bool J)] else v) else bif ok then ret (.tup [z,.val (.bool U)]) else Y
  |some (.val .nilIface)=>bif ok then ret (.tup [z,.val (.bool U)]) else Y
  |_=>Y
def nK(s:St)(i:Nat)(x:Opd):Option (AV×St):=
 let ret (v:AV):Option (AV×St):=Z (v,s)
 match s.eval x with
  |some (.tup vs)=>(vs[i]?).bind ret
  |_=>Y
def r_call(call:Cle->List AV->AH->Option (AV×AH))(s:St)(f:Nat)(args:List Opd):Option (AV×St):=
 let retH (v:AV) (h:AH):Option (AV×St):=Z (v,{s with h})
 match aT s args with
  |some l=>(call (.f f) l s.h).bind λ(v,h)=>retH v h
  |none=>Y
def r_callv(E:Env)(call:Cle->List AV->AH->Option (AV×AH))(s:St)(x:Opd)(args:List Opd):Option (AV×St):=
 let retH (v:AV) (h:AH):Option (AV×St):=Z (v,{s with h})
 match s.eval x,aT s args with
  |some (.fn (.func f) a b),Z l=>(call (.f f) (a++l++b) s.h).bind λ(v,h)=>retH v h
  |some (.fn (.method name) (.ifc t v::a) _),Z l=>match E.iG t name with
   |some f=>(call (.f f) (v::(a++l)) s.h).bind λ(v,h)=>retH v h
   |none=>Y
  |some (.yld b),Z l=>(call (.y b) l s.h).bind λ(v,h)=>retH v h
  |_,_=>Y
def r_invoke(E:Env)(call:Cle->List AV->AH->Option (AV×AH))(s:St)(x:Opd)(name:String)(args:List Opd):Option (AV×St):=
 let retH (v:AV) (h:AH):Option (AV×St):=Z (v,{s with h})
 match s.eval x,aT s args with
  |some (.ifc t v),Z l=>match E.iG t name with
   |some f=>(call (.f f) (v::l) s.h).bind λ(v,h)=>retH v h
   |none=>Y
  |_,_=>Y
def r_append(s:St)(es:Nat)(bytes:Nat)(sl:Opd)(x:Opd):Option (AV×St):=
 bN s es bytes sl x
def r_copy(s:St)(es:Nat)(d:Opd)(x:Opd):Option (AV×St):=
 let ret (v:AV):Option (AV×St):=Z (v,s)
 let retH (v:AV) (h:AH):Option (AV×St):=Z (v,{s with h})
 match s.eval d,s.eval x with
  |some d,Z x=>match d,au s.h es x with
   |.val (.slice Y 0 0),Z _=>ret (.val (.int .i64 0))
   |.own b off k es' _,Z (new,n)=>
    let m:=min n k
    match s.h.get b with
    |some (.cells cs J)=>bif ig es es'&&ii (off+m*es) cs.length then retH (.val (.int .i64 m)) (s.h.put b (Z (.cells (putAt cs off (new.take (m*es))) J))) else Y
    |_=>Y
   |_,_=>Y
  |_,_=>Y
def r_lenS(s:St)(x:Opd):Option (AV×St):=
 let ret (v:AV):Option (AV×St):=Z (v,s)
 match s.eval x with
  |some (.val (.slice _ 0 _))=>ret (.val (.int .i64 0))
  |some (.imm _ n _)|some (.own _ _ n _ _)=>ret (.val (.int .i64 n))
  |_=>Y
def pT(s:St)(x:Opd):Option (AV×St):=
 let ret (v:AV):Option (AV×St):=Z (v,s)
 match s.eval x with
  |some (.val (.string b))=>ret (.val (.int .i64 b.size))
  |_=>Y
def r_lenMap(s:St)(x:Opd):Option (AV×St):=
 let ret (v:AV):Option (AV×St):=Z (v,s)
 match s.eval x with
  |some (.val (.map Y))=>ret (.val (.int .i64 0))
  |some (.mp b)=>match s.h.get b with
   |some (.map es)=>ret (.val (.int .i64 es.length))
   |some (.hZ es)=>ret (.val (.int .i64 es.length))
   |_=>Y
  |_=>Y
def r_lenK(s:St)(n:Nat):Option (AV×St):=
 let ret (v:AV):Option (AV×St):=Z (v,s)
 ret (.val (.int .i64 n))
def r_capS(s:St)(x:Opd):Option (AV×St):=
 let ret (v:AV):Option (AV×St):=Z (v,s)
 match s.eval x with
  |some (.val (.slice Y 0 0))=>ret (.val (.int .i64 0))
  |some (.imm _ _ (Z c))|some (.own _ _ _ _ (Z c))=>ret (.val (.int .i64 c))
  |_=>Y
def r_minI(s:St)(args:List Opd):Option (AV×St):=
 let ret (v:AV):Option (AV×St):=Z (v,s)
 match aT s args with
  |some (.val (.int k a)::r)=>(fe U k a r).bind λm=>ret (.val (.int k m))
  |_=>Y
def r_maxI(s:St)(args:List Opd):Option (AV×St):=
 let ret (v:AV):Option (AV×St):=Z (v,s)
 match aT s args with
  |some (.val (.int k a)::r)=>(fe J k a r).bind λm=>ret (.val (.int k m))
  |_=>Y
def r_clearS(s:St)(es:Nat)(z:List AV)(x:Opd):Option (AV×St):=
 let ret (v:AV):Option (AV×St):=Z (v,s)
 let retH (v:AV) (h:AH):Option (AV×St):=Z (v,{s with h})
 match s.eval x with
  |some (.val (.slice Y 0 0))=>ret bJ
  |some (.own b off n es' _)=>bif ig n 0 then ret bJ else match s.h.get b with
   |some (.cells cs J)=>bif ig es es'&&ig z.length es&&ii (off+n*es) cs.length then retH bJ (s.h.put b (Z (.cells (putAt cs off (jr n z).flatten) J))) else Y
   |_=>Y
  |_=>Y
def r_recover(s:St):Option (AV×St):=
 let ret (v:AV):Option (AV×St):=Z (v,s)
 ret (.val .nilIface)
def r_defer(call:Cle->List AV->AH->Option (AV×AH))(s:St)(x:Opd)(args:List Opd):Option (AV×St):=
 match s.eval x,aT s args with
  |some (.fn (.func f) a b),Z l=>match s.round with
   |none=>Z (bJ,{s with defers:=.call f (a++l++b)::s.defers})
   |some _=>Y
  |_,_=>Y
def oF(s:St)(e:TypeId)(x:Opd)(n:Opd):Option (AV×St):=
 let retH (v:AV) (h:AH):Option (AV×St):=Z (v,{s with h})
 match s.eval x,s.eval n with
  |some (.ptr b 0),Z (.val (.int .i64 (.ofNat (n+1))))=>match s.h.get b,kM s.h b with
   |some (.cells cs _),Z (t,_)=>bif ig t e&&ii (n+1) cs.length&&ii n (2^60) then(fa (cs.take (n+1))).bind λl=>retH (.val (.string ⟨l.toArray⟩)) (s.h.put b (Z (.cells cs U))) else Y
   |_,_=>Y
  |_,_=>Y
def oK(s:St)(x:Opd):Option (AV×St):=
 let ret (v:AV):Option (AV×St):=Z (v,s)
 match s.eval x with
  |some (.own b off (_+1) _ _)=>ret (.ptr b off)
  |_=>Y
def r_allocT(s:St)(z:List AV)(t:TypeId):Option (AV×St):=
 let retH (v:AV) (h:AH):Option (AV×St):=Z (v,{s with h})
 retH (.ptr s.h.next 0) ((s.h.alloc (.cells z J)).alloc (.tag s.h.next t (Z z.length)))
def r_bconv(E:Env)(s:St)(t:TypeId)(x:Opd):Option (AV×St):=
 let ret (v:AV):Option (AV×St):=Z (v,s)
 match s.eval x with
  |some (.ptr b 0)=>match kM s.h b with
   |some (t',Z n)=>bif ig t t'&&liesAt E.P E.P.depth t (n/E.P.cellsOf t) 0 t 1&&ii 1 n then ret (.ptr b 0) else Y
   |_=>Y
  |_=>Y
def r_callx(E:Env)(s:St)(f:Nat)(x:Opd):Option (AV×St):=
 let ret (v:AV):Option (AV×St):=Z (v,s)
 let retH (v:AV) (h:AH):Option (AV×St):=Z (v,{s with h})
 match s.eval x with
  |some v=>bif mo E f then ret v else match E.mkNZF with
   |some (g,e)=>bif ig f g then(match v with
    |.val (.int .i64 (.ofNat n))=>bif ii n (2^40) then retH (.own s.h.next 0 n 1 Y) ((s.h.alloc (.cells [] J)).alloc (.tag s.h.next e Y)) else Y
    |_=>Y) else Y
   |none=>Y
  |none=>Y
def r_appT(s:St)(e:TypeId)(sl:Opd)(x:Opd):Option (AV×St):=
 match mT s e sl x with
  |some r=>Z r
  |none=>bN s 1 1 sl x
def r_bad(s:St)(u0:String):Option (AV×St):=
 Y
def runOpF(E:Env)(call:Cle->List AV->AH->Option (AV×AH))(s:St)(op:AOp):Option (AV×St):=
 match op with
 |.mv x=>r_mv s x
 |.pick c a b=>r_pick s c a b
 |.alloc z=>r_alloc s z
 |.box x=>r_box s x
 |.build z parts=>r_build s z parts
 |.buildSlice es n z parts=>mP s es n z parts
 |.load n x=>r_load E s n x
 |.store n a x=>r_store s n a x
 |.cE x=>r_nilck E s x
 |.bin op t g x y=>r_bin E s op t g x y
 |.un op x=>r_un E s op x
 |.conv k x=>r_conv s k x
 |.bP x=>mX s x
 |.gZ x=>mn s x
 |.qx x=>r_convId s x
 |.mR x=>r_convStr s x
 |.jK t x=>r_mkIface s t x
 |.fy fn a b=>r_mkFunc s fn a b
 |.rI=>r_mkMap s
 |.cP es bytes z l c=>r_mkSlice s es bytes z l c
 |.dE es x lo hi mx=>r_sliceS s es x lo hi mx
 |.nu es len x lo hi=>r_sliceA s es len x lo hi
 |.fC x lo hi=>qV s x lo hi
 |.fieldAddr off x=>kW s off x
 |.field off n x=>r_field s off n x
 |.bT es x i=>lZ s es x i
 |.kX len es x i=>qN s len es x i
 |.idxA len es n x i=>r_idxA s len es n x i
 |.bj x i=>r_idxStr s x i
 |.lookup d z x k ok=>r_lookup s d z x k ok
 |.jO d m k x=>r_mapUpd s d m k x
 |.kR d m k=>r_mapDel s d m k
 |.mS x=>qT s x
 |.kn x=>r_nextStr s x
 |.rangeMap x=>qI s x
 |.gv x=>r_nextMap s x
 |.lY x=>r_curMap s x
 |.kg t z ok x=>r_tassert s t z ok x
 |.extract i x=>nK s i x
 |.call f args=>r_call call s f args
 |.dR x args=>r_callv E call s x args
 |.invoke x name args=>r_invoke E call s x name args
 |.append es bytes sl x=>r_append s es bytes sl x
 |.copy es d x=>r_copy s es d x
 |.fI x=>r_lenS s x
 |.b7 x=>pT s x
 |.qj x=>r_lenMap s x
 |.lenK n=>r_lenK s n
 |.capS x=>r_capS s x
 |.minI args=>r_minI s args
 |.maxI args=>r_maxI s args
 |.lS es z x=>r_clearS s es z x
 |.recover=>r_recover s
 |.defer x args=>r_defer call s x args
 |.fO e x n=>oF s e x n
 |.gK x=>oK s x
 |.lT z t=>r_allocT s z t
 |.qE t x=>r_bconv E s t x
 |.qp f x=>r_callx E s f x
 |.appT e sl x=>r_appT s e sl x
 |.bad u0=>r_bad s u0
theorem aNE(E:Env)(call:Cle->List AV->AH->Option (AV×AH))(s:St)(op:AOp):runOpF E call s op=aL E call s op:=by
 rfl
def goOps(E:Env)(call:Cle->List AV->AH->Option (AV×AH))(dst:Option Nat)(rd:Option Nat)(k:St->Option St):Option (AV×St)->Option St
 |none=>Y
 |some (v,s')=>k {tm:=putDst s'.tm dst v,h:=s'.h,defers:=s'.defers,round:=rd}
def fT(E:Env)(call:Cle->List AV->AH->Option (AV×AH)):List aW->St->Option St
 | [],s=>Z s
 |o::r,s=>match aw s o.guard with
  |some J=>goOps E call o.dst s.round (λs=>fT E call r s) (runOpF E call s o.op)
  |some U=>fT E call r {s with tm:=putDst s.tm o.dst bJ}
  |none=>Y
theorem yE(E:Env)(call:Cle->List AV->AH->Option (AV×AH)):∀(l:List aW) (s:St),fT E call l s=dT E call l s
 | [],_=>rfl
 |o::r,s=>by
  have ih:=yE E call r;simp[fT,dT,aNE];cases aw s o.guard with
  |none=>rfl
  |some b=>
   cases b with
   |false=>grind
   |true=>
    simp only;cases aL E call s o.op with
    |none=>rfl
    |some p=>exact ih _
def fb(E:Env)(call:Cle->List AV->AH->Option (AV×AH))(d:DOp)(near:List Nat)(s:St):Option (AV×ck×AH):=
 let rt:=aK s.tm d.reads
 let st:St:={tm:=rt,h:=s.h,defers:=[],round:=s.round}
 match aw st d.o.guard with
 |some J=>
  let vs:=aQ rt.ag
  let l:=jL st vs d.o.op
  bif below s.h.next vs&&fG s.h l then
   match runOpF E call {st with h:=aJ s.h l} d.o.op with
   |some (v,s1)=>
    let D:=bif dm d.o.op then l.filter λb=> !(b9 (vs++near) b&&eqB (s.h.get b) (s1.h.get b)) else cZ {st with h:=aJ s.h l} d.o.op
    bif (s1.defers.isEmpty&&ii s.h.next s1.h.next)&&below s.h.next D then
     Z (v,⟨l,D,s.h.next,s1.h.next⟩,dw s.h D s1.h) else Y
   |none=>Y
  else Y
 |some U=>Z (bJ,⟨[],[],s.h.next,s.h.next⟩,s.h)
 |none=>Y
theorem Rh(E:Env)(call:Cle->List AV->AH->Option (AV×AH))(d:DOp)(near:List Nat)(s:St):fb E call d near s=bC E call d near s:=by
 rfl
def gQ(E:Env)(call:Cle->List AV->AH->Option (AV×AH)):List DOp->List cC->St->Option St
 | [],_,s=>Z s
 |d::r,done,s=>match fb E call d (dv (done.map (·.r)) d.free) s with
  |some (v,rec,h)=>bif dL done ⟨rec,loadAt {tm:=aK s.tm d.reads,h:=s.h,defers:=[],round:=s.round} d.o.op,s.h,h⟩ d.free then
    gQ E call r (done++[⟨rec,loadAt {tm:=aK s.tm d.reads,h:=s.h,defers:=[],round:=s.round} d.o.op,s.h,h⟩]) {s with tm:=putDst s.tm d.o.dst v,h} else Y
  |none=>Y
theorem Dq(E:Env)(call:Cle->List AV->AH->Option (AV×AH)):∀(l:List DOp) (done:List cC) (s:St),gQ E call l done s=cg E call l done s
 | [],_,_=>rfl
 |d::r,done,s=>by
  have ih:=Dq E call r
  grind [gQ,cg,Rh]
def jB(E:Env)(call:Cle->List AV->AH->Option (AV×AH))(ops:List DOp)(s:St):Option St:=
 match cJ ops with
 |some (pre,suf)=>match gQ E call pre [] s with
  |some s1=>fT E call (suf.map (·.o)) s1
  |none=>Y
 |none=>gQ E call ops [] s
theorem Rt(E:Env)(call:Cle->List AV->AH->Option (AV×AH))(ops:List DOp)(s:St):jB E call ops s=gS E call ops s:=by
 grind [jB,gS,Dq,yE]
def fY(E:Env):Nat->aF->St->Option (Ex×St)
 |0,_,_=>Y
 |n+1,c,s=>
  match c with
  |.skip=>Z (.normal,s)
  |.ret=>Z (.ret,s)
  |.exit id=>Z (.exit id,s)
  |.region ops=>(fT E (bY E (fY E n)) ops s).map λs=>(.normal,s)
  |.draw ops=>(jB E (bY E (fY E n)) ops s).map λs=>(.normal,s)
  |.seq a b=>match fY E n a s with
   |some (.normal,s)=>fY E n b s
   |r=>r
  |.cond c a b=>match s.eval c with
   |some (.val (.bool J))=>fY E n a s
   |some (.val (.bool U))=>fY E n b s
   |_=>Y
  |.block id b=>match fY E n b s with
   |some (.exit i,s)=>Z (bif ig i id then .normal else .exit i,s)
   |r=>r
  |.loop b=>match fY E n b s with
   |some (.normal,s)=>fY E n (.loop b) s
   |r=>r
  |.range g ps asg body M=>
   match s.eval g with
   |some (.fn (.func f) a b)=>
    let sd:Option (AH×List ADef):=match s.round with
     |none=>Z (s.h.alloc (.dfr J),.mark s.h.next::s.defers)
     |some q=>match s.h.get q with
      |some (.loop ..)=>Z (s.h,s.defers)
      |_=>Y
    match sd with
    |none=>Y
    |some (h1,df)=>
     match bY E (fY E n) (.f f) (a++(.yld h1.next::b)) (h1.alloc (.loop s.tm ps asg body M .ready)) with
     |some (_,h3)=>match h3.get h1.next with
      |some (.loop tm3 ps3 asg3 body3 M3 st)=>
       let s':St:={s with h:=h3.put h1.next (Z (.loop tm3 ps3 asg3 body3 M3 .gone)),defers:=df}
       match st with
       |.ready=>Z (.normal,s')
       |.done e=>Z (e,s')
       |_=>Y
      |_=>Y
     |none=>Y
   |_=>Y
  |.bad _=>Y
theorem aBH(E:Env):∀(n:Nat) (c:aF) (s:St),fY E n c s=exec E n c s
 |0,_,_=>rfl
 |n+1,c,s=>by
  have ih:fY E n=exec E n:=funext λc=>funext λs=>aBH E n c s;cases c<;>simp only[fY,exec,ih,yE,Rt]<;>rfl
end Go.AM
namespace Go.AM
open Go.RowKit
variable {P:Program}{E:Env}{w:World}
theorem Qm(ok:lM P E)(n:Nat):lI P E (bh E (exec E n)):=
 Em ok.prog ok.iG ok.idle (λm _=>xq ok m) (λ_ _=>Kq ok.prog ok.iG ok.mixed λj _=>xq ok j)
def oG(P:Program)(G:Nat->Option (List AV))(g:Nat)(l:List AV)(r:AV):Prop:=
 (∃fn,P.funcs[g]? =Z fn/\(fn.name== "runtime.NumGoroutine")=U/\fn.body.isNone=U)/\
  ∀(S2:bE) (w:World) (ag:List Value),(∀b o v,S2 b o=Z v->w.cell? ⟨b,o,Y⟩=Z v)->(∀q cs,G q=Z cs->cD S2 cs q 0)->aZ S2 nof l ag->
   CallsIn Fence.wide 0 P g ag.toArray w λe w'=>∃x,e=.returned x/\lj S2 w r x w'
noncomputable def lG (E:Env) (n f:Nat) (l:List AV):Option AV:=
 match bh E (fY E n) f l .empty with
 |some (r,hc)=>ar (freeze aU r hc) aU r
 |none=>Y
theorem aNK(ok:lM P E){n g:Nat}{l:List AV}{r:AV}(h:lG E n g l=Z r):oG P E.aY g l r:=by
 unfold lG at h;have he:fY E n=exec E n:=by simp[funext,aBH]
 rw[he] at h;split at h
 ·rename_i r0 hc hrun;have hen:=Qm ok n;exact⟨(hen g l .empty r0 hc hrun).1,λS2 w ag q1 q2 q3=>yH hen hrun h q1 q2 q3⟩
 ·cases h
def lookT:List (Nat×List AV×AV)->Nat->List AV->Option AV
 | [],_,_=>Y
 |(f,a,r)::t,g,l=>bif ig f g&&eqL a l then Z r else lookT t g l
theorem Ci:∀{t:List (Nat×List AV×AV)} {g:Nat} {l:List AV} {r:AV},lookT t g l=Z r->(g,l,r)∈t
 |(f,a,r)::t,g,l,r',h=>by
  simp[lookT] at h;cases hb:(ig f g&&eqL a l) with
  |true=>
   simp[hb] at h;subst h;rw[Bool.and_eq_true] at hb
   grind [Nat.eq_of_beq_eq_true,wL]
  |false=>
   simp[hb] at h;exact List.mem_cons_of_mem _ (Ci h)
def eqT:AV->AV->Bool
 |.tup a,.tup b=>eqL a b
 |a,b=>eqA a b
theorem bNX{a b:AV}(h:eqT a b=J):a=b:=by
 unfold eqT at h
 grind [wL,aGT]
def answers(r:Option AV)(t:AV):Bool:=match r with
 |some x=>eqT x t
 |none=>U
theorem aHG{r:Option AV}{t:AV}(h:answers r t=J):r=Z t:=by
 unfold answers at h
 grind [bNX]
def Env.tab(E:Env)(t:List (Nat×List AV×AV)):Env:={E with known:=lookT t}
theorem lM.tab(ok:lM P E){t:List (Nat×List AV×AV)}(h:∀x∈t,oG P E.aY x.1 x.2.1 x.2.2):lM P (E.tab t):=
 ⟨ok.prog,⟨ok.iG.m,ok.iG.x1,ok.iG.x2⟩,ok.idle,λg l r hk=>h (g,l,r) (Ci hk),ok.mixed⟩
theorem aRW(ok:lM P E){t:List (Nat×List AV×AV)}(h:∀x∈t,oG P E.aY x.1 x.2.1 x.2.2){n g:Nat}{l:List AV}{r:AV}(hr:answers (lG (E.tab t) n g l) r=J):
  ∀x∈(g,l,r)::t,oG P E.aY x.1 x.2.1 x.2.2:=by
 intro x hx;rcases List.mem_cons.1 hx with rfl|hx
 ·exact aNK (ok.tab h) (aHG hr)
 grind
end Go.AM
