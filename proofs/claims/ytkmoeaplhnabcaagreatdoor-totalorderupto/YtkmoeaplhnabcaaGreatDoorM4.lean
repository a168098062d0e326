/- XAmF XAmG -/
import Derived.Test.YtkmoeaplhnabcaaGreatDoorM3

set_option linter.all false
open Option.some renaming injEq → sI
open List renaming replicate → jz
open Nat renaming beq → i5, ble → i6, blt → iq
namespace Go.AM
def r_mv(s:St)(x:Opd):Option (AV×St):=
 let ret (v:AV):Option (AV×St):=some (v,s)
 (s.eval x).bind ret
def r_pick(s:St)(c:Opd)(a:Opd)(b:Opd):Option (AV×St):=
 let ret (v:AV):Option (AV×St):=some (v,s)
 match s.eval c with
  |some (.val (.bool true))=>(s.eval a).bind ret
  |some (.val (.bool false))=>(s.eval b).bind ret
  |_=>none
def r_alloc(s:St)(z:List AV):Option (AV×St):=
 let retH (v:AV) (h:AH):Option (AV×St):=some (v,{s with h})
 retH (.ptr s.h.next 0) (s.h.alloc (.cells z true))
def r_box(s:St)(x:Opd):Option (AV×St):=
 let retH (v:AV) (h:AH):Option (AV×St):=some (v,{s with h})
 match (s.eval x).bind AV.cells with
  |some l=>retH (.ptr s.h.next 0) (s.h.alloc (.cells l true))
  |none=>none
def r_build(s:St)(z:List AV)(parts:List (Nat×Nat×Opd)):Option (AV×St):=
 let ret (v:AV):Option (AV×St):=some (v,s)
 (fill s z parts).bind fun cs=>ret (.agg cs)
def r_buildSlice(s:St)(es:Nat)(n:Nat)(z:List AV)(parts:List (Nat×Nat×Opd)):Option (AV×St):=
 let retH (v:AV) (h:AH):Option (AV×St):=some (v,{s with h})
 (fill s z parts).bind fun cs=>retH (.own s.h.next 0 n es (some n)) (s.h.alloc (.cells cs true))
def r_load(E:Env)(s:St)(n:Option Nat)(x:Opd):Option (AV×St):=
 let ret (v:AV):Option (AV×St):=some (v,s)
 match s.eval x with
  |some v=>((cellsFrom E.globs s.h v).bind (takeN n)).bind ret
  |none=>none
def r_store(s:St)(n:Nat)(a:Opd)(x:Opd):Option (AV×St):=
 let retH (v:AV) (h:AH):Option (AV×St):=some (v,{s with h})
 match s.eval a,(s.eval x).bind AV.cells with
  |some (.ptr b off),some l=>match s.h.get b with
   |some (.cells cs true)=>bif i5 l.length n&&i6 (off+n) cs.length then retH undefA (s.h.put b (some (.cells (putAt cs off l) true))) else none
   |_=>none
  |_,_=>none
def r_nilck(E:Env)(s:St)(x:Opd):Option (AV×St):=
 let ret (v:AV):Option (AV×St):=some (v,s)
 match s.eval x with
  |some (.val (.pointer none))|some (.val .nilIface)|some (.val .nilFunc)|some (.val (.func ..))=>none
  |some (.fn (.method name) (.ifc t v::a) b)=>match E.meth t name with
   |some _=>ret (.fn (.method name) (.ifc t v::a) b)
   |none=>none
  |some (.fn (.method _) _ _)=>none
  |some (.yld _)=>none
  |some v=>ret v
  |none=>none
def r_bin(E:Env)(s:St)(op:BinOp)(t:TypeId)(g:Bool)(x:Opd)(y:Opd):Option (AV×St):=
 let ret (v:AV):Option (AV×St):=some (v,s)
 match s.eval x,s.eval y with
  |some a,some b=>(binA E.P op t g a b).bind ret
  |_,_=>none
def r_un(E:Env)(s:St)(op:UnOp)(x:Opd):Option (AV×St):=
 let ret (v:AV):Option (AV×St):=some (v,s)
 match s.eval x with
  |some (.val v)=>((evalPure E.P (Op.unary op v)).bind ofFlat).bind ret
  |_=>none
def r_conv(s:St)(k:IntKind)(x:Opd):Option (AV×St):=
 let ret (v:AV):Option (AV×St):=some (v,s)
 match s.eval x with
  |some (.val (.int _ n))=>ret (.val (.int k (k.wrap n)))
  |_=>none
def r_strOfBytes(s:St)(x:Opd):Option (AV×St):=
 let ret (v:AV):Option (AV×St):=some (v,s)
 match s.eval x with
  |some (.val (.slice none 0 0))=>ret (.val (.string ⟨#[]⟩))
  |some (.val _)=>none
  |some v=>match elemsOf s.h 1 v with
   |some (cs,_)=>(bytesOf cs).bind fun b=>ret (.val (.string b))
   |none=>none
  |none=>none
def r_bytesOfStr(s:St)(x:Opd):Option (AV×St):=
 let retH (v:AV) (h:AH):Option (AV×St):=some (v,{s with h})
 match s.eval x with
  |some (.val (.string b))=>retH (.own s.h.next 0 b.size 1 none) (s.h.alloc (.cells (b.data.toList.map fun b=>.val (.int .u8 b.toNat)) true))
  |_=>none
def r_convId(s:St)(x:Opd):Option (AV×St):=
 let ret (v:AV):Option (AV×St):=some (v,s)
 match s.eval x with
  |some (.own b off n es cap)=>match s.h.get b with
   |some (.cells (_::_) true)=>ret (.own b off n es cap)
   |_=>none
  |_=>none
def r_convStr(s:St)(x:Opd):Option (AV×St):=
 let ret (v:AV):Option (AV×St):=some (v,s)
 match s.eval x with
  |some (.val (.string b))=>ret (.val (.string b))
  |_=>none
def r_mkIface(s:St)(t:TypeId)(x:Opd):Option (AV×St):=
 let ret (v:AV):Option (AV×St):=some (v,s)
 (s.eval x).bind fun v=>ret (.ifc t v)
def r_mkFunc(s:St)(fn:Fn)(a:List Opd)(b:List Opd):Option (AV×St):=
 let ret (v:AV):Option (AV×St):=some (v,s)
 match evalAll s a,evalAll s b with
  |some a,some b=>ret (.fn fn a b)
  |_,_=>none
def r_mkMap(s:St):Option (AV×St):=
 let retH (v:AV) (h:AH):Option (AV×St):=some (v,{s with h})
 retH (.mp s.h.next) (s.h.alloc (.map []))
def r_mkSlice(s:St)(es:Nat)(bytes:Nat)(z:List AV)(l:Opd)(c:Opd):Option (AV×St):=
 let retH (v:AV) (h:AH):Option (AV×St):=some (v,{s with h})
 match (s.eval l).bind asN,(s.eval c).bind asN with
  |some l,some c=>bif i6 l c&&i6 (c*bytes) mostBytes&&i6 c (2^40) then
    retH (.own s.h.next 0 l es (some c)) (s.h.alloc (.cells ((jz c z).flatten) true)) else none
  |_,_=>none
def r_sliceS(s:St)(es:Nat)(x:Opd)(lo:Option Opd)(hi:Option Opd)(mx:Option Opd):Option (AV×St):=
 let ret (v:AV):Option (AV×St):=some (v,s)
 match s.eval x,optN s lo,optN s hi,optN s mx with
  |some v,some lo,some hi,some mx=>((sliceA' es v lo hi mx).or (sliceW s.h es v lo hi mx)).bind ret
  |_,_,_,_=>none
def r_sliceA(s:St)(es:Nat)(len:Nat)(x:Opd)(lo:Option Opd)(hi:Option Opd):Option (AV×St):=
 let ret (v:AV):Option (AV×St):=some (v,s)
 match s.eval x,optN s lo,optN s hi with
  |some (.ptr b off),some lo,some hi=>match s.h.get b with
   |some (.cells cs _)=>bif i6 (off+len*es) cs.length then(match sliceB len len lo hi none with
    |some (l,h,m)=>ret (.own b (bif i5 m l then off else off+l*es) (h-l) es (some (m-l)))
    |none=>none) else none
   |_=>none
  |some (.iptr cs),some lo,some hi=>match sliceB len len lo hi none with
   |some (l,h,m)=>ret (.imm ((cs.drop (l*es)).take ((h-l)*es)) (h-l) (some (m-l)))
   |none=>none
  |_,_,_=>none
def r_sliceStr(s:St)(x:Opd)(lo:Option Opd)(hi:Option Opd):Option (AV×St):=
 let ret (v:AV):Option (AV×St):=some (v,s)
 match s.eval x,optN s lo,optN s hi with
  |some (.val (.string b)),some lo,some hi=>match sliceB b.size b.size lo hi none with
   |some (l,h,_)=>ret (.val (.string (b.extract l h)))
   |none=>none
  |_,_,_=>none
def r_fieldAddr(s:St)(off:Nat)(x:Opd):Option (AV×St):=
 let ret (v:AV):Option (AV×St):=some (v,s)
 match s.eval x with
  |some (.ptr b o)=>ret (.ptr b (o+off))
  |some (.iptr cs)=>bif i6 off cs.length then ret (.iptr (cs.drop off)) else none
  |some (.val (.pointer (some ⟨g,o,none⟩)))=>ret (.val (.pointer (some ⟨g,o+off,none⟩)))
  |_=>none
def r_field(s:St)(off:Nat)(n:Option Nat)(x:Opd):Option (AV×St):=
 let ret (v:AV):Option (AV×St):=some (v,s)
 match s.eval x with
  |some (.agg cs)=>bif i6 off cs.length then(takeN n (cs.drop off)).bind ret else none
  |_=>none
def r_idxAddrS(s:St)(es:Nat)(x:Opd)(i:Opd):Option (AV×St):=
 let ret (v:AV):Option (AV×St):=some (v,s)
 match s.eval x,(s.eval i).bind asN with
  |some (.imm cs n _),some i=>bif iq i n&&i6 (i*es) cs.length then ret (.iptr (cs.drop (i*es))) else none
  |some (.own b off n es' _),some i=>bif iq i n&&i5 es es' then ret (.ptr b (off+i*es)) else none
  |_,_=>none
def r_idxAddrA(s:St)(len:Nat)(es:Nat)(x:Opd)(i:Opd):Option (AV×St):=
 let ret (v:AV):Option (AV×St):=some (v,s)
 match s.eval x,(s.eval i).bind asN with
  |some (.ptr b off),some i=>bif iq i len then ret (.ptr b (off+i*es)) else none
  |some (.iptr cs),some i=>bif iq i len&&i6 (i*es) cs.length then ret (.iptr (cs.drop (i*es))) else none
  |some (.val (.pointer (some ⟨g,o,none⟩))),some i=>bif iq i len then ret (.val (.pointer (some ⟨g,o+i*es,none⟩))) else none
  |_,_=>none
def r_idxA(s:St)(len:Nat)(es:Nat)(n:Option Nat)(x:Opd)(i:Opd):Option (AV×St):=
 let ret (v:AV):Option (AV×St):=some (v,s)
 match s.eval x,(s.eval i).bind asN with
  |some (.agg cs),some i=>bif iq i len&&i6 (i*es) cs.length then(takeN n (cs.drop (i*es))).bind ret else none
  |_,_=>none
def r_idxStr(s:St)(x:Opd)(i:Opd):Option (AV×St):=
 let ret (v:AV):Option (AV×St):=some (v,s)
 match s.eval x,(s.eval i).bind asN with
  |some (.val (.string b)),some i=>match b.data.toList[i]? with
   |some c=>ret (.val (.int .u8 c.toNat))
   |none=>none
  |_,_=>none
def r_lookup(s:St)(d:TypeDesc)(z:AV)(x:Opd)(k:Opd)(ok:Bool):Option (AV×St):=
 let ret (v:AV):Option (AV×St):=some (v,s)
 match s.eval x,s.eval k with
  |some m,some (.val k)=>
   let es:Option (List (Value×AV)):=match m with
    |.val (.map none)=>some []
    |.mp b=>match s.h.get b with
     |some (.map es)=>some es
     |_=>none
    |_=>none
   match es with
   |some es=>match lookA d k es with
    |some (some v)=>ret (bif ok then .tup [v,.val (.bool true)] else v)
    |some none=>ret (bif ok then .tup [z,.val (.bool false)] else z)
    |none=>none
   |none=>none
  |_,_=>none
def r_mapUpd(s:St)(d:TypeDesc)(m:Opd)(k:Opd)(x:Opd):Option (AV×St):=
 let retH (v:AV) (h:AH):Option (AV×St):=some (v,{s with h})
 match s.eval m,s.eval k,s.eval x with
  |some (.mp b),some (.val k),some v=>match s.h.get b with
   |some (.map es)=>(updA d k v es).bind fun es=>retH undefA (s.h.put b (some (.map es)))
   |_=>none
  |_,_,_=>none
def r_rangeStr(s:St)(x:Opd):Option (AV×St):=
 let retH (v:AV) (h:AH):Option (AV×St):=some (v,{s with h})
 match s.eval x with
  |some (.val (.string b))=>retH (.it s.h.next) (s.h.alloc (.iter b 0))
  |_=>none
def r_nextStr(s:St)(x:Opd):Option (AV×St):=
 let ret (v:AV):Option (AV×St):=some (v,s)
 let retH (v:AV) (h:AH):Option (AV×St):=some (v,{s with h})
 match s.eval x with
  |some (.it b)=>match s.h.get b with
   |some (.iter str pos)=>bif iq pos str.size then
     let cw:=Utf8.decode str pos
     retH (.tup [.val (.bool true),.val (.int .i64 pos),.val (.int .i32 cw.1)]) (s.h.put b (some (.iter str (pos+cw.2))))
    else ret (.tup [.val (.bool false)])
   |_=>none
  |_=>none
def r_rangeMap(s:St)(x:Opd):Option (AV×St):=
 let retH (v:AV) (h:AH):Option (AV×St):=some (v,{s with h})
 match s.eval x with
  |some (.val (.map none))=>retH (.it s.h.next) (s.h.alloc (.miter none))
  |some (.mp b)=>match s.h.get b with
   |some (.map [_])=>retH (.it s.h.next) (s.h.alloc (.mit1 b false))
   |some (.map [])=>retH (.it s.h.next) (s.h.alloc (.miter (some b)))
   |some (.map es)=>retH (.it s.h.next) (s.h.alloc (.mitr b es.length []))
   |_=>none
  |_=>none
def r_nextMap(s:St)(x:Opd):Option (AV×St):=
 let ret (v:AV):Option (AV×St):=some (v,s)
 let retH (v:AV) (h:AH):Option (AV×St):=some (v,{s with h})
 match s.eval x with
  |some (.it b)=>match s.h.get b with
   |some (.miter none)=>ret (.tup [.val (.bool false)])
   |some (.miter (some m))=>match s.h.get m with
    |some (.map [])=>ret (.tup [.val (.bool false)])
    |_=>none
   |some (.mit1 m false)=>match s.h.get m with
    |some (.map [(k,v)])=>bif k.oneCell' then retH (.tup [.val (.bool true),.val k,v]) (s.h.put b (some (.mit1 m true))) else none
    |_=>none
   |some (.mit1 m true)=>match s.h.get m with
    |some (.map [_])=>ret (.tup [.val (.bool false)])
    |_=>none
   |some (.mitr m n seen)=>match s.h.get m with
    |some (.map es)=>bif i5 es.length n&&(i6 1 n&&allSeen seen n) then ret (.tup [.val (.bool false)]) else none
    |_=>none
   |_=>none
  |_=>none
def r_curMap(s:St)(x:Opd):Option (AV×St):=
 let ret (v:AV):Option (AV×St):=some (v,s)
 match s.eval x with
  |some (.it b)=>match s.h.get b with
   |some (.mit1 m true)=>match s.h.get m with
    |some (.map [(k,v)])=>bif k.oneCell' then ret (.tup [.val k,v]) else none
    |_=>none
   |some (.mitr m n seen)=>match s.h.get m with
    |some (.map es)=>match curOf seen es with
     |some (k,v)=>bif i5 es.length n&&k.oneCell' then ret (.tup [.val k,v]) else none
     |none=>none
    |_=>none
   |_=>none
  |_=>none
def r_tassert(s:St)(t:TypeId)(z:AV)(ok:Bool)(x:Opd):Option (AV×St):=
 let ret (v:AV):Option (AV×St):=some (v,s)
 match s.eval x with
  |some (.ifc t' v)=>bif i5 t t' then ret (bif ok then .tup [v,.val (.bool true)] else v) else bif ok then ret (.tup [z,.val (.bool false)]) else none
  |some (.val .nilIface)=>bif ok then ret (.tup [z,.val (.bool false)]) else none
  |_=>none
def r_extract(s:St)(i:Nat)(x:Opd):Option (AV×St):=
 let ret (v:AV):Option (AV×St):=some (v,s)
 match s.eval x with
  |some (.tup vs)=>(vs[i]?).bind ret
  |_=>none
def r_call(call:Cle→List AV→AH→Option (AV×AH))(s:St)(f:Nat)(args:List Opd):Option (AV×St):=
 let retH (v:AV) (h:AH):Option (AV×St):=some (v,{s with h})
 match evalAll s args with
  |some l=>(call (.f f) l s.h).bind fun(v,h)=>retH v h
  |none=>none
def r_callv(E:Env)(call:Cle→List AV→AH→Option (AV×AH))(s:St)(x:Opd)(args:List Opd):Option (AV×St):=
 let retH (v:AV) (h:AH):Option (AV×St):=some (v,{s with h})
 match s.eval x,evalAll s args with
  |some (.fn (.func f) a b),some l=>(call (.f f) (a++l++b) s.h).bind fun(v,h)=>retH v h
  |some (.fn (.method name) (.ifc t v::a) _),some l=>match E.meth t name with
   |some f=>(call (.f f) (v::(a++l)) s.h).bind fun(v,h)=>retH v h
   |none=>none
  |some (.yld b),some l=>(call (.y b) l s.h).bind fun(v,h)=>retH v h
  |_,_=>none
def r_invoke(E:Env)(call:Cle→List AV→AH→Option (AV×AH))(s:St)(x:Opd)(name:String)(args:List Opd):Option (AV×St):=
 let retH (v:AV) (h:AH):Option (AV×St):=some (v,{s with h})
 match s.eval x,evalAll s args with
  |some (.ifc t v),some l=>match E.meth t name with
   |some f=>(call (.f f) (v::l) s.h).bind fun(v,h)=>retH v h
   |none=>none
  |_,_=>none
def r_append(s:St)(es:Nat)(bytes:Nat)(sl:Opd)(x:Opd):Option (AV×St):=
 appendA s es bytes sl x
def r_copy(s:St)(es:Nat)(d:Opd)(x:Opd):Option (AV×St):=
 let ret (v:AV):Option (AV×St):=some (v,s)
 let retH (v:AV) (h:AH):Option (AV×St):=some (v,{s with h})
 match s.eval d,s.eval x with
  |some d,some x=>match d,elemsOf s.h es x with
   |.val (.slice none 0 0),some _=>ret (.val (.int .i64 0))
   |.own b off k es' _,some (new,n)=>
    let m:=min n k
    match s.h.get b with
    |some (.cells cs true)=>bif i5 es es'&&i6 (off+m*es) cs.length then retH (.val (.int .i64 m)) (s.h.put b (some (.cells (putAt cs off (new.take (m*es))) true))) else none
    |_=>none
   |_,_=>none
  |_,_=>none
def r_lenS(s:St)(x:Opd):Option (AV×St):=
 let ret (v:AV):Option (AV×St):=some (v,s)
 match s.eval x with
  |some (.val (.slice _ 0 _))=>ret (.val (.int .i64 0))
  |some (.imm _ n _)|some (.own _ _ n _ _)=>ret (.val (.int .i64 n))
  |_=>none
def r_lenStr(s:St)(x:Opd):Option (AV×St):=
 let ret (v:AV):Option (AV×St):=some (v,s)
 match s.eval x with
  |some (.val (.string b))=>ret (.val (.int .i64 b.size))
  |_=>none
def r_lenMap(s:St)(x:Opd):Option (AV×St):=
 let ret (v:AV):Option (AV×St):=some (v,s)
 match s.eval x with
  |some (.val (.map none))=>ret (.val (.int .i64 0))
  |some (.mp b)=>match s.h.get b with
   |some (.map es)=>ret (.val (.int .i64 es.length))
   |_=>none
  |_=>none
def r_lenK(s:St)(n:Nat):Option (AV×St):=
 let ret (v:AV):Option (AV×St):=some (v,s)
 ret (.val (.int .i64 n))
def r_capS(s:St)(x:Opd):Option (AV×St):=
 let ret (v:AV):Option (AV×St):=some (v,s)
 match s.eval x with
  |some (.val (.slice none 0 0))=>ret (.val (.int .i64 0))
  |some (.imm _ _ (some c))|some (.own _ _ _ _ (some c))=>ret (.val (.int .i64 c))
  |_=>none
def r_minI(s:St)(args:List Opd):Option (AV×St):=
 let ret (v:AV):Option (AV×St):=some (v,s)
 match evalAll s args with
  |some (.val (.int k a)::r)=>(mostOf false k a r).bind fun m=>ret (.val (.int k m))
  |_=>none
def r_maxI(s:St)(args:List Opd):Option (AV×St):=
 let ret (v:AV):Option (AV×St):=some (v,s)
 match evalAll s args with
  |some (.val (.int k a)::r)=>(mostOf true k a r).bind fun m=>ret (.val (.int k m))
  |_=>none
def r_clearS(s:St)(es:Nat)(z:List AV)(x:Opd):Option (AV×St):=
 let ret (v:AV):Option (AV×St):=some (v,s)
 let retH (v:AV) (h:AH):Option (AV×St):=some (v,{s with h})
 match s.eval x with
  |some (.val (.slice none 0 0))=>ret undefA
  |some (.own b off n es' _)=>bif i5 n 0 then ret undefA else match s.h.get b with
   |some (.cells cs true)=>bif i5 es es'&&i5 z.length es&&i6 (off+n*es) cs.length then retH undefA (s.h.put b (some (.cells (putAt cs off (jz n z).flatten) true))) else none
   |_=>none
  |_=>none
def r_recover(s:St):Option (AV×St):=
 let ret (v:AV):Option (AV×St):=some (v,s)
 ret (.val .nilIface)
def r_defer(call:Cle→List AV→AH→Option (AV×AH))(s:St)(x:Opd)(args:List Opd):Option (AV×St):=
 match s.eval x,evalAll s args with
  |some (.fn (.func f) a b),some l=>match s.round with
   |none=>some (undefA,{s with defers:=.call f (a++l++b)::s.defers})
   |some _=>none
  |_,_=>none
def r_unsafeStr(s:St)(e:TypeId)(x:Opd)(n:Opd):Option (AV×St):=
 let retH (v:AV) (h:AH):Option (AV×St):=some (v,{s with h})
 match s.eval x,s.eval n with
  |some (.ptr b 0),some (.val (.int .i64 (.ofNat (n+1))))=>match s.h.get b,tagOf s.h b with
   |some (.cells cs _),some (t,_)=>bif i5 t e&&i6 (n+1) cs.length&&i6 n (2^60) then(bytesListC (cs.take (n+1))).bind fun l=>retH (.val (.string ⟨l.toArray⟩)) (s.h.put b (some (.cells cs false))) else none
   |_,_=>none
  |_,_=>none
def r_sliceData(s:St)(x:Opd):Option (AV×St):=
 let ret (v:AV):Option (AV×St):=some (v,s)
 match s.eval x with
  |some (.own b off (_+1) _ _)=>ret (.ptr b off)
  |_=>none
def r_allocT(s:St)(z:List AV)(t:TypeId):Option (AV×St):=
 let retH (v:AV) (h:AH):Option (AV×St):=some (v,{s with h})
 retH (.ptr s.h.next 0) ((s.h.alloc (.cells z true)).alloc (.tag s.h.next t (some z.length)))
def r_bconv(E:Env)(s:St)(t:TypeId)(x:Opd):Option (AV×St):=
 let ret (v:AV):Option (AV×St):=some (v,s)
 match s.eval x with
  |some (.ptr b 0)=>match tagOf s.h b with
   |some (t',some n)=>bif i5 t t'&&liesAt E.P E.P.depth t (n/E.P.cellsOf t) 0 t 1&&i6 1 n then ret (.ptr b 0) else none
   |_=>none
  |_=>none
def r_callx(E:Env)(s:St)(f:Nat)(x:Opd):Option (AV×St):=
 let ret (v:AV):Option (AV×St):=some (v,s)
 let retH (v:AV) (h:AH):Option (AV×St):=some (v,{s with h})
 match s.eval x with
  |some v=>bif isNoEsc E f then ret v else match E.mkNZF with
   |some (g,e)=>bif i5 f g then(match v with
    |.val (.int .i64 (.ofNat n))=>bif i6 n (2^40) then retH (.own s.h.next 0 n 1 none) ((s.h.alloc (.cells [] true)).alloc (.tag s.h.next e none)) else none
    |_=>none) else none
   |none=>none
  |none=>none
def r_appT(s:St)(e:TypeId)(sl:Opd)(x:Opd):Option (AV×St):=
 match appTyped s e sl x with
  |some r=>some r
  |none=>appendA s 1 1 sl x
def r_bad(s:St)(u0:String):Option (AV×St):=
 none
def runOpF(E:Env)(call:Cle→List AV→AH→Option (AV×AH))(s:St)(op:AOp):Option (AV×St):=
 match op with
 |.mv x=>r_mv s x
 |.pick c a b=>r_pick s c a b
 |.alloc z=>r_alloc s z
 |.box x=>r_box s x
 |.build z parts=>r_build s z parts
 |.buildSlice es n z parts=>r_buildSlice s es n z parts
 |.load n x=>r_load E s n x
 |.store n a x=>r_store s n a x
 |.nilck x=>r_nilck E s x
 |.bin op t g x y=>r_bin E s op t g x y
 |.un op x=>r_un E s op x
 |.conv k x=>r_conv s k x
 |.strOfBytes x=>r_strOfBytes s x
 |.bytesOfStr x=>r_bytesOfStr s x
 |.convId x=>r_convId s x
 |.convStr x=>r_convStr s x
 |.mkIface t x=>r_mkIface s t x
 |.mkFunc fn a b=>r_mkFunc s fn a b
 |.mkMap=>r_mkMap s
 |.mkSlice es bytes z l c=>r_mkSlice s es bytes z l c
 |.sliceS es x lo hi mx=>r_sliceS s es x lo hi mx
 |.sliceA es len x lo hi=>r_sliceA s es len x lo hi
 |.sliceStr x lo hi=>r_sliceStr s x lo hi
 |.fieldAddr off x=>r_fieldAddr s off x
 |.field off n x=>r_field s off n x
 |.idxAddrS es x i=>r_idxAddrS s es x i
 |.idxAddrA len es x i=>r_idxAddrA s len es x i
 |.idxA len es n x i=>r_idxA s len es n x i
 |.idxStr x i=>r_idxStr s x i
 |.lookup d z x k ok=>r_lookup s d z x k ok
 |.mapUpd d m k x=>r_mapUpd s d m k x
 |.rangeStr x=>r_rangeStr s x
 |.nextStr x=>r_nextStr s x
 |.rangeMap x=>r_rangeMap s x
 |.nextMap x=>r_nextMap s x
 |.curMap x=>r_curMap s x
 |.tassert t z ok x=>r_tassert s t z ok x
 |.extract i x=>r_extract s i x
 |.call f args=>r_call call s f args
 |.callv x args=>r_callv E call s x args
 |.invoke x name args=>r_invoke E call s x name args
 |.append es bytes sl x=>r_append s es bytes sl x
 |.copy es d x=>r_copy s es d x
 |.lenS x=>r_lenS s x
 |.lenStr x=>r_lenStr s x
 |.lenMap x=>r_lenMap s x
 |.lenK n=>r_lenK s n
 |.capS x=>r_capS s x
 |.minI args=>r_minI s args
 |.maxI args=>r_maxI s args
 |.clearS es z x=>r_clearS s es z x
 |.recover=>r_recover s
 |.defer x args=>r_defer call s x args
 |.unsafeStr e x n=>r_unsafeStr s e x n
 |.sliceData x=>r_sliceData s x
 |.allocT z t=>r_allocT s z t
 |.bconv t x=>r_bconv E s t x
 |.callx f x=>r_callx E s f x
 |.appT e sl x=>r_appT s e sl x
 |.bad u0=>r_bad s u0
theorem nK(E:Env)(call:Cle→List AV→AH→Option (AV×AH))(s:St)(op:AOp):runOpF E call s op=runOp E call s op:=by
 cases op<;>rfl
def goOps(E:Env)(call:Cle→List AV→AH→Option (AV×AH))(dst:Option Nat)(rd:Option Nat)(k:St→Option St):Option (AV×St)→Option St
 |none=>none
 |some (v,s')=>k {tm:=putDst s'.tm dst v,h:=s'.h,defers:=s'.defers,round:=rd}
def runOpsF(E:Env)(call:Cle→List AV→AH→Option (AV×AH)):List AOper→St→Option St
 | [],s=>some s
 |o::r,s=>match wantedA s o.guard with
  |some true=>goOps E call o.dst s.round (fun s=>runOpsF E call r s) (runOpF E call s o.op)
  |some false=>runOpsF E call r {s with tm:=putDst s.tm o.dst undefA}
  |none=>none
theorem fU(E:Env)(call:Cle→List AV→AH→Option (AV×AH)):∀(l:List AOper) (s:St),runOpsF E call l s=runOps E call l s
 | [],_=>rfl
 |o::r,s=>by
  have ih:=fU E call r;simp only[runOpsF,runOps,nK];cases wantedA s o.guard with
  |none=>rfl
  |some b=>
   cases b with
   |false=>exact ih _
   |true=>
    simp only;cases runOp E call s o.op with
    |none=>rfl
    |some p=>exact ih _
def stepDrawF(E:Env)(call:Cle→List AV→AH→Option (AV×AH))(d:DOp)(near:List Nat)(s:St):Option (AV×DRec×AH):=
 let rt:=pickTm s.tm d.reads
 let st:St:={tm:=rt,h:=s.h,defers:=[],round:=s.round}
 match wantedA st d.o.guard with
 |some true=>
  let vs:=idsL rt.vals
  let l:=foot st vs d.o.op
  bif below s.h.next vs&&knownH s.h l then
   match runOpF E call {st with h:=restrictH s.h l} d.o.op with
   |some (v,s1)=>
    let D:=bif isCall d.o.op then l.filter fun b=> !(memN (vs++near) b&&eqB (s.h.get b) (s1.h.get b)) else turned {st with h:=restrictH s.h l} d.o.op
    bif (s1.defers.isEmpty&&i6 s.h.next s1.h.next)&&below s.h.next D then
     some (v,⟨l,D,s.h.next,s1.h.next⟩,mergeH s.h D s1.h) else none
   |none=>none
  else none
 |some false=>some (undefA,⟨[],[],s.h.next,s.h.next⟩,s.h)
 |none=>none
theorem og(E:Env)(call:Cle→List AV→AH→Option (AV×AH))(d:DOp)(near:List Nat)(s:St):stepDrawF E call d near s=stepDraw E call d near s:=by
 simp only[stepDrawF,stepDraw,nK];rfl
def runDrawF(E:Env)(call:Cle→List AV→AH→Option (AV×AH)):List DOp→List CRec→St→Option St
 | [],_,s=>some s
 |d::r,done,s=>match stepDrawF E call d (nearOf (done.map (·.r)) d.free) s with
  |some (v,rec,h)=>bif freeOkC done ⟨rec,loadAt {tm:=pickTm s.tm d.reads,h:=s.h,defers:=[],round:=s.round} d.o.op,s.h,h⟩ d.free then
    runDrawF E call r (done++[⟨rec,loadAt {tm:=pickTm s.tm d.reads,h:=s.h,defers:=[],round:=s.round} d.o.op,s.h,h⟩]) {s with tm:=putDst s.tm d.o.dst v,h} else none
  |none=>none
theorem jV(E:Env)(call:Cle→List AV→AH→Option (AV×AH)):∀(l:List DOp) (done:List CRec) (s:St),runDrawF E call l done s=runDrawC E call l done s
 | [],_,_=>rfl
 |d::r,done,s=>by
  have ih:=jV E call r;simp only[runDrawF,runDrawC,og,ih];cases stepDraw E call d (nearOf (done.map (·.r)) d.free) s with
  |none=>rfl
  |some p=>rfl
def runDrawXF(E:Env)(call:Cle→List AV→AH→Option (AV×AH))(ops:List DOp)(s:St):Option St:=
 match lastSeq ops with
 |some (pre,d)=>match runDrawF E call pre [] s with
  |some s1=>runOpsF E call [d.o] s1
  |none=>none
 |none=>runDrawF E call ops [] s
theorem oz(E:Env)(call:Cle→List AV→AH→Option (AV×AH))(ops:List DOp)(s:St):runDrawXF E call ops s=runDrawX E call ops s:=by
 simp only[runDrawXF,runDrawX,jV,fU];rfl
def execF(E:Env):Nat→ACode→St→Option (Ex×St)
 |0,_,_=>none
 |n+1,c,s=>
  match c with
  |.skip=>some (.normal,s)
  |.ret=>some (.ret,s)
  |.exit id=>some (.exit id,s)
  |.region ops=>(runOpsF E (aZ E (execF E n)) ops s).map fun s=>(.normal,s)
  |.draw ops=>(runDrawXF E (aZ E (execF E n)) ops s).map fun s=>(.normal,s)
  |.seq a b=>match execF E n a s with
   |some (.normal,s)=>execF E n b s
   |r=>r
  |.cond c a b=>match s.eval c with
   |some (.val (.bool true))=>execF E n a s
   |some (.val (.bool false))=>execF E n b s
   |_=>none
  |.block id b=>match execF E n b s with
   |some (.exit i,s)=>some (bif i5 i id then .normal else .exit i,s)
   |r=>r
  |.loop b=>match execF E n b s with
   |some (.normal,s)=>execF E n (.loop b) s
   |r=>r
  |.range g ps asg body M=>
   match s.eval g with
   |some (.fn (.func f) a b)=>
    let sd:Option (AH×List ADef):=match s.round with
     |none=>some (s.h.alloc (.dfr true),.mark s.h.next::s.defers)
     |some q=>match s.h.get q with
      |some (.loop ..)=>some (s.h,s.defers)
      |_=>none
    match sd with
    |none=>none
    |some (h1,df)=>
     match aZ E (execF E n) (.f f) (a++(.yld h1.next::b)) (h1.alloc (.loop s.tm ps asg body M .ready)) with
     |some (_,h3)=>match h3.get h1.next with
      |some (.loop tm3 ps3 asg3 body3 M3 st)=>
       let s':St:={s with h:=h3.put h1.next (some (.loop tm3 ps3 asg3 body3 M3 .gone)),defers:=df}
       match st with
       |.ready=>some (.normal,s')
       |.done e=>some (e,s')
       |_=>none
      |_=>none
     |none=>none
   |_=>none
  |.bad _=>none
theorem sj(E:Env):∀(n:Nat) (c:ACode) (s:St),execF E n c s=exec E n c s
 |0,_,_=>rfl
 |n+1,c,s=>by
  have ih:execF E n=exec E n:=funext fun c=>funext fun s=>sj E n c s;cases c<;>simp only[execF,exec,ih,fU,oz]<;>rfl
end Go.AM
namespace Go.AM
open Go.RowKit
variable {P:Program}{E:Env}{w:World}
theorem oO(ok:EnvOk P E)(n:Nat):CallOkF P E (enterA E (exec E n)):=
 kN ok.prog ok.meth ok.idle (fun m _=>bm ok m) (fun _ _=>fo ok.prog ok.meth ok.mixed fun j _=>bm ok j)
def KFact(P:Program)(G:Nat→Option (List AV))(g:Nat)(l:List AV)(r:AV):Prop:=
 (∃fn,P.funcs[g]? =some fn∧(fn.name== "runtime.NumGoroutine")=false∧fn.body.isNone=false)∧
  ∀(S2:Snap) (w:World) (vals:List Value),(∀b o v,S2 b o=some v→w.cell? ⟨b,o,none⟩=some v)→(∀q cs,G q=some cs→RelC S2 cs q 0)→RelL S2 nof l vals→
   CallsIn Fence.wide 0 P g vals.toArray w fun e w'=>∃x,e=.returned x∧PureLeft S2 w r x w'
noncomputable def pureRun (E:Env) (n f:Nat) (l:List AV):Option AV:=
 match enterA E (execF E n) f l .empty with
 |some (r,hc)=>toTree (freeze deepest r hc) deepest r
 |none=>none
theorem nT(ok:EnvOk P E){n g:Nat}{l:List AV}{r:AV}(h:pureRun E n g l=some r):KFact P E.globs g l r:=by
 unfold pureRun at h;have he:execF E n=exec E n:=funext fun c=>funext fun s=>sj E n c s;rw[he] at h;split at h
 ·rename_i r0 hc hrun;have hen:=oO ok n;exact⟨(hen g l .empty r0 hc hrun).1,fun S2 w vals q1 q2 q3=>fV hen hrun h q1 q2 q3⟩
 ·cases h
def lookT:List (Nat×List AV×AV)→Nat→List AV→Option AV
 | [],_,_=>none
 |(f,a,r)::t,g,l=>bif i5 f g&&eqL a l then some r else lookT t g l
theorem nf:∀{t:List (Nat×List AV×AV)} {g:Nat} {l:List AV} {r:AV},lookT t g l=some r→(g,l,r)∈t
 |(f,a,r)::t,g,l,r',h=>by
  simp only[lookT] at h;cases hb:(i5 f g&&eqL a l) with
  |true=>
   simp only[hb,cond_true,sI] at h;subst h;rw[Bool.and_eq_true] at hb;have h1:=Nat.eq_of_beq_eq_true hb.1;have h2:=eI _ _ hb.2;subst h1;subst h2;exact List.mem_cons_self
  |false=>
   simp only[hb,cond_false] at h;exact List.mem_cons_of_mem _ (nf h)
def eqT:AV→AV→Bool
 |.tup a,.tup b=>eqL a b
 |a,b=>eqA a b
theorem Nh{a b:AV}(h:eqT a b=true):a=b:=by
 unfold eqT at h;split at h
 ·rw[eI _ _ h]
 ·exact uq _ _ h
def answers(r:Option AV)(t:AV):Bool:=match r with
 |some x=>eqT x t
 |none=>false
theorem vL{r:Option AV}{t:AV}(h:answers r t=true):r=some t:=by
 unfold answers at h;split at h
 ·rw[Nh h]
 ·cases h
def Env.tab(E:Env)(t:List (Nat×List AV×AV)):Env:={E with known:=lookT t}
theorem EnvOk.tab(ok:EnvOk P E){t:List (Nat×List AV×AV)}(h:∀x∈t,KFact P E.globs x.1 x.2.1 x.2.2):EnvOk P (E.tab t):=
 ⟨ok.prog,⟨ok.meth.m,ok.meth.x1,ok.meth.x2⟩,ok.idle,fun g l r hk=>h (g,l,r) (nf hk),ok.mixed⟩
theorem yA(ok:EnvOk P E){t:List (Nat×List AV×AV)}(h:∀x∈t,KFact P E.globs x.1 x.2.1 x.2.2){n g:Nat}{l:List AV}{r:AV}(hr:answers (pureRun (E.tab t) n g l) r=true):
  ∀x∈(g,l,r)::t,KFact P E.globs x.1 x.2.1 x.2.2:=by
 intro x hx;rcases List.mem_cons.1 hx with rfl|hx
 ·exact nT (ok.tab h) (vL hr)
 ·exact h x hx
end Go.AM
