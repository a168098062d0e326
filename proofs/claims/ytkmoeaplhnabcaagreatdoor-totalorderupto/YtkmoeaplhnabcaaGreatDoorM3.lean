/- XAmE XAmAj XAmAk XAmAl XAmAm XAmAn XAmAo XAmAp XAmAq XAmAr -/
import Derived.Test.YtkmoeaplhnabcaaGreatDoorU0
import Derived.Test.YtkmoeaplhnabcaaGreatDoorM1
import Derived.Test.YtkmoeaplhnabcaaGreatDoorM2
import Derived.RangeFuncCalls
import Derived.RangeFuncIn
import Derived.RangeFuncRecord
import Derived.RangeFuncLeaves

set_option linter.all false
open Option.some renaming injEq → sI
open Prod.mk renaming injEq → pI
open Array renaming getD_eq_getD_getElem? → Ak, getElem?_eq_getElem → Ab, getElem?_eq_some_iff → Bf, getElem?_replicate → Ch, getElem?_setIfInBounds → C3, replicate → C6
open Bool renaming and_eq_true → i9, cond_eq_ite → C4, false_and → B6, false_eq_true → ju, not_eq_true' → Au, or_eq_true → Am, true_or → A2
open List renaming all_eq_true → iy, any_eq_true → Bj, cons_append → ja, filterMap_cons → C5, getElem?_append_right → Bp, getElem?_cons_zero → Cm, getElem?_eq_getElem → jk, getElem?_eq_some_iff → A3, getElem?_map → Ag, length_append → io, length_cons → im, mapM_cons → Ap, map_cons → jd, mem_append → jc, mem_cons → i8, mem_filter → jy, mem_of_getElem? → Bq, mem_singleton → ig, nil_append → iz, range → jg
open Nat renaming beq → i5, beq_refl → je, ble → i6, ble_eq_true_of_le → Aq, blt → iq, eq_of_beq_eq_true → ij, le_of_ble_eq_true → is, le_refl → i7, le_trans → Aj, lt_of_lt_of_le → A9, strongRecOn → Bk
open Option renaming bind_eq_some_iff → j7, isSome_iff_exists → Af, map_eq_some_iff → iw, map_some → jo
namespace Go.AM
mutual
def ids:AV→List Nat
 |.val _|.imm .. |.iptr _=>[]
 |.agg cs|.tup cs=>idsL cs
 |.own b .. |.ptr b _|.mp b|.it b|.yld b=>[b]
 |.ifc _ v=>ids v
 |.fn _ a b=>idsL a++idsL b
def idsL:List AV→List Nat
 | []=>[]
 |c::r=>ids c++idsL r
end
def Tr.vals{α:Type}:Tr α→List α
 |.nil=>[]
 |.nd l v r=>(match v with|some x=>[x]|none=>[])++(l.vals++r.vals)
def idsB:Blk→List Nat
 |.cells cs _=>idsL cs
 |.map es=>idsL (es.map (·.2))
 |.iter .. |.miter none|.dfr _=>[]
 |.miter (some m)|.mit1 m _|.mitr m _ _=>[m]
 |.loop tm .. =>idsL tm.vals
 |.tag b _ _=>[b]
def reach(h:AH):Nat→List Nat→List Nat→List Nat
 |0,_,seen=>seen
 |_+1,[],seen=>seen
 |n+1,b::r,seen=>bif memN seen b then reach h n r seen else reach h n ((match h.get b with|some k=>idsB k|none=>[])++r) (b::seen)
def pickTm(tm:Tr AV):List Nat→Tr AV
 | []=>.nil
 |t::r=>(pickTm tm r).put t (tm.get t)
def restrictT(h:AH):List Nat→Tr Blk
 | []=>.nil
 |b::r=>(restrictT h r).put b (h.get b)
def restrictH(h:AH)(l:List Nat):AH:=⟨h.next,restrictT h l⟩
def copyNew(h':AH)(lo:Nat):Nat→Tr Blk→Tr Blk
 |0,t=>t
 |n+1,t=>(copyNew h' lo n t).put (lo+n) (h'.get (lo+n))
def copyOld(h':AH):List Nat→Tr Blk→Tr Blk
 | [],t=>t
 |b::r,t=>(copyOld h' r t).put b (h'.get b)
def mergeH(h:AH)(l:List Nat)(h':AH):AH:=⟨h'.next,copyNew h' h.next (h'.next-h.next) (copyOld h' l h.tr)⟩
def isCall:AOp→Bool
 |.call .. |.callv .. |.invoke .. =>true
 |_=>false
def idsO(s:St)(x:Opd):List Nat:=match s.eval x with
 |some v=>ids v
 |none=>[]
def turned(s:St):AOp→List Nat
 |.store _ a _=>idsO s a
 |.append _ _ x _|.appT _ x _|.unsafeStr _ x _|.copy _ x _|.clearS _ _ x|.mapUpd _ x _ _|.nextStr x|.nextMap x=>idsO s x
 |_=>[]
def withTags(h:AH)(l:List Nat):List Nat:=l++l.filterMap fun b=>match h.get (b+1) with
 |some (.tag b' _ _)=>bif i5 b b'&& !memN l (b+1) then some (b+1) else none
 |_=>none
def foot(s:St)(vs:List Nat):AOp→List Nat
 |.store _ a _=>idsO s a
 |.mapUpd _ m _ _=>idsO s m
 |.mv _|.pick .. |.alloc _|.box _|.build .. |.buildSlice .. |.mkIface .. |.mkFunc .. |.mkMap|.mkSlice .. |.extract .. |.field .. |.nilck _|.fieldAddr .. |.bin .. |.un .. |.idxAddrS .. =>[]
 |.call .. |.callv .. |.invoke .. |.nextMap _|.curMap _=>bif vs.isEmpty then [] else withTags s.h (reach s.h 100000 vs [])
 |.appT .. |.unsafeStr .. |.bconv .. =>vs++vs.map (· +1)
 |.allocT .. |.callx .. |.sliceData _=>[]
 |_=>vs
def eqV:Value→Value→Bool
 |.int k a,.int j b=>k==j&&a==b
 |.bool a,.bool b=>a==b
 |.string a,.string b=>eqBytes a.data.toList b.data.toList
 |.pointer none,.pointer none=>true
 |.slice none a b,.slice none c d=>i5 a c&&i5 b d
 |.map none,.map none=>true
 |.nilFunc,.nilFunc=>true
 |.nilIface,.nilIface=>true
 |_,_=>false
def eqN:Option Nat→Option Nat→Bool
 |none,none=>true
 |some a,some b=>i5 a b
 |_,_=>false
mutual
def eqA:AV→AV→Bool
 |.val a,.val b=>eqV a b
 |.agg a,.agg b=>eqL a b
 |.imm a n c,.imm b m d=>i5 n m&&eqN c d&&eqL a b
 |.own b o n e c,.own b' o' n' e' c'=>i5 b b'&&i5 o o'&&i5 n n'&&i5 e e'&&eqN c c'
 |.ptr b o,.ptr b' o'=>i5 b b'&&i5 o o'
 |.mp b,.mp b'=>i5 b b'
 |.ifc t v,.ifc t2 v2=>i5 t t2&&eqA v v2
 |.fn (.func g) a b,.fn (.func g2) a2 b2=>i5 g g2&&eqL a a2&&eqL b b2
 |_,_=>false
def eqL:List AV→List AV→Bool
 | [],[]=>true
 |a::x,b::y=>eqA a b&&eqL x y
 |_,_=>false
end
def eqB:Option Blk→Option Blk→Bool
 |some (.cells a r),some (.cells b q)=>r==q&&eqL a b
 |_,_=>false
structure DRec where
 F:List Nat
 D:List Nat
 lo:Nat
 hi:Nat
deriving Inhabited
def touches(r:DRec)(l:List Nat):Bool:=l.any fun b=>memN r.D b||(i6 r.lo b&&iq b r.hi)
def recApart(a b:DRec):Bool:= !touches a b.F&& !(b.D.any fun x=>memN a.F x)&& !touches a b.D
def freeOk(done:List DRec)(b:DRec):List Nat→Bool
 | []=>true
 |i::r=>(match done[i]? with|some a=>recApart a b|none=>false)&&freeOk done b r
def widthOf:Option Nat→Nat
 |some k=>k
 |none=>1
def loadAt(s:St):AOp→Option (Nat×Nat×Nat)
 |.load n x=>match s.eval x with
  |some (.ptr b o)=>some (b,o,widthOf n)
  |_=>none
 |_=>none
def cellsAt(o n:Nat):Option Blk→Option (List AV)
 |some (.cells a _)=>bif i6 (o+n) a.length then some ((a.drop o).take n) else none
 |_=>none
def sameAt(h h':AH)(p:Nat×Nat×Nat):Bool:=match cellsAt p.2.1 p.2.2 (h.get p.1),cellsAt p.2.1 p.2.2 (h'.get p.1) with
 |some a,some b=>eqL a b
 |_,_=>false
structure CRec where
 r:DRec
 ld:Option (Nat×Nat×Nat)
 pre:AH
 post:AH
def apartC(a b:CRec):Bool:=recApart a.r b.r||((match b.ld with|some p=>sameAt a.pre a.post p|none=>false)||(match a.ld with|some p=>sameAt b.pre b.post p|none=>false))
def freeOkC(done:List CRec)(b:CRec):List Nat→Bool
 | []=>true
 |i::r=>(match done[i]? with|some a=>apartC a b|none=>false)&&freeOkC done b r
def below(n:Nat)(l:List Nat):Bool:=l.all fun b=>iq b n
def knownH(h:AH)(l:List Nat):Bool:=l.all fun b=>iq b h.next&&(match h.get b with|some k=>below h.next (idsB k)|none=>true)
def stepDraw(E:Env)(call:Cle→List AV→AH→Option (AV×AH))(d:DOp)(near:List Nat)(s:St):Option (AV×DRec×AH):=
 let rt:=pickTm s.tm d.reads
 let st:St:={tm:=rt,h:=s.h,defers:=[],round:=s.round}
 match wantedA st d.o.guard with
 |some true=>
  let vs:=idsL rt.vals
  let l:=foot st vs d.o.op
  bif below s.h.next vs&&knownH s.h l then
   match runOp E call {st with h:=restrictH s.h l} d.o.op with
   |some (v,s1)=>
    let D:=bif isCall d.o.op then l.filter fun b=> !(memN (vs++near) b&&eqB (s.h.get b) (s1.h.get b)) else turned {st with h:=restrictH s.h l} d.o.op
    bif (s1.defers.isEmpty&&i6 s.h.next s1.h.next)&&below s.h.next D then
     some (v,⟨l,D,s.h.next,s1.h.next⟩,mergeH s.h D s1.h) else none
   |none=>none
  else none
 |some false=>some (undefA,⟨[],[],s.h.next,s.h.next⟩,s.h)
 |none=>none
def nearOf(done:List DRec)(l:List Nat):List Nat:=l.flatMap fun i=>match done[i]? with|some r=>r.F|none=>[]
def runDraw(E:Env)(call:Cle→List AV→AH→Option (AV×AH)):List DOp→List DRec→St→Option St
 | [],_,s=>some s
 |d::r,done,s=>match stepDraw E call d (nearOf done d.free) s with
  |some (v,rec,h)=>bif freeOk done rec d.free then runDraw E call r (done++[rec]) {s with tm:=putDst s.tm d.o.dst v,h} else none
  |none=>none
def runDrawC(E:Env)(call:Cle→List AV→AH→Option (AV×AH)):List DOp→List CRec→St→Option St
 | [],_,s=>some s
 |d::r,done,s=>match stepDraw E call d (nearOf (done.map (·.r)) d.free) s with
  |some (v,rec,h)=>bif freeOkC done ⟨rec,loadAt {tm:=pickTm s.tm d.reads,h:=s.h,defers:=[],round:=s.round} d.o.op,s.h,h⟩ d.free then
    runDrawC E call r (done++[⟨rec,loadAt {tm:=pickTm s.tm d.reads,h:=s.h,defers:=[],round:=s.round} d.o.op,s.h,h⟩]) {s with tm:=putDst s.tm d.o.dst v,h} else none
  |none=>none
def lastSeq:List DOp→Option (List DOp×DOp)
 | []=>none
 |d::r=>match r with
  | []=>bif d.free.isEmpty then some ([],d) else none
  |_::_=>(lastSeq r).map fun p=>(d::p.1,p.2)
theorem eF:∀{l pre:List DOp} {d:DOp},lastSeq l=some (pre,d)→l=pre++[d]∧d.free=[]
 | [],_,_,h=>by simp[lastSeq] at h
 |a::r,pre,d,h=>by
  cases r with
  |nil=>
   simp only[lastSeq] at h;cases hf:a.free with
   |nil=>
    rw[hf] at h;simp only[List.isEmpty_nil,cond_true,sI,pI] at h;obtain⟨rfl,rfl⟩:=h;exact⟨rfl,hf⟩
   |cons x y=>rw[hf] at h;simp at h
  |cons b r=>
   simp only[lastSeq,iw,pI] at h;obtain⟨p,hp,rfl,rfl⟩:=h;obtain⟨e1,e2⟩:=eF (l:=b::r) (pre:=p.1) (d:=p.2) hp;exact⟨by rw[e1];rfl,e2⟩
def runDrawX(E:Env)(call:Cle→List AV→AH→Option (AV×AH))(ops:List DOp)(s:St):Option St:=
 match lastSeq ops with
 |some (pre,d)=>match runDrawC E call pre [] s with
  |some s1=>runOps E call [d.o] s1
  |none=>none
 |none=>runDrawC E call ops [] s
theorem rf{done:List CRec}{b:CRec}:∀{l:List Nat},freeOk (done.map (·.r)) b.r l=true→freeOkC done b l=true
 | [],_=>rfl
 |i::l,h=>by
  simp only[freeOk,freeOkC,i9,Ag] at h⊢
  refine⟨?_,rf h.2⟩;have h1:=h.1;cases he:done[i]? with
  |none=>rw[he] at h1;simp at h1
  |some a=>rw[he] at h1;simp only[jo] at h1;simp only[apartC,h1,A2]
theorem iF{E:Env}{call:Cle→List AV→AH→Option (AV×AH)}:∀{ops:List DOp} {done:List CRec} {s s':St},runDraw E call ops (done.map (·.r)) s=some s'→runDrawC E call ops done s=some s'
 | [],_,_,_,h=>by simpa only[runDraw,runDrawC] using h
 |d::r,done,s,s',h=>by
  simp only[runDraw,runDrawC] at h⊢
  split at h
  ·rename_i v rec h1 hs;cases hf:freeOk (done.map (·.r)) rec d.free with
   |false=>rw[hf] at h;cases h
   |true=>
    rw[hf] at h;simp only[cond_true] at h;have hf2:=rf (b:=⟨rec,loadAt {tm:=pickTm s.tm d.reads,h:=s.h,defers:=[],round:=s.round} d.o.op,s.h,h1⟩) hf;simp only[hf2,cond_true];exact iF (by simpa only[List.map_append,jd,List.map_nil] using h)
  ·cases h
def runDefers(E:Env):List ADef→AH→Option AH
 | [],h=>some h
 |.call f l::r,h=>match E.idle.get f with
  |some n=>bif i5 l.length n then runDefers E r h else none
  |none=>none
 |.mark b::r,h=>match h.get b with
  |some (.dfr true)=>runDefers E r (h.put b (some (.dfr false)))
  |_=>none
def leaveA(E:Env)(a:AFun)(s:St):Option (AV×AH):=
 match runDefers E s.defers s.h with
 |some h=>match resultsA E.globs {s with h} a.res with
  |some l=>some (oneOrTup l,h)
  |none=>none
 |none=>none
def enterA(E:Env)(ex:ACode→St→Option (Ex×St))(f:Nat)(args:List AV)(h:AH):Option (AV×AH):=
 match funOf E.P f with
 |none=>none
 |some a=>match ex a.body {tm:=enterTm args 0 .nil,h,defers:=[],round:=none} with
  |some (.normal,s)|some (.ret,s)=>leaveA E a s
  |_=>none
def putAll:List Nat→List AV→Tr AV→Option (Tr AV)
 | [],[],t=>some t
 |p::ps,v::vs,t=>putAll ps vs (t.put p (some v))
 |_,_,_=>none
def isNormal:Ex→Bool
 |.normal=>true
 |_=>false
def roundA(E:Env)(ex:ACode→St→Option (Ex×St))(b:Nat)(args:List AV)(h:AH):Option (AV×AH):=
 match h.get b with
 |some (.loop tm ps asg body M .ready)=>match putAll ps args tm with
  |some tm1=>bif ps.all (fun p=>iq p M) then match ex (cCode E.P M asg) {tm:=tm1,h,defers:=[],round:=some b} with
   |some (.normal,s1)=>match s1.h.get b with
    |some (.loop tm2 ps2 asg2 body2 M2 .ready)=>
     match ex (cCode E.P M body) {s1 with h:=s1.h.put b (some (.loop tm2 ps2 asg2 body2 M2 .busy))} with
     |some (e,s2)=>match s2.defers,s2.h.get b with
      | [],some (.loop tm3 ps3 asg3 body3 M3 _)=>some (.val (.bool (isNormal e)),s2.h.put b (some (.loop tm3 ps3 asg3 body3 M3 (bif isNormal e then .ready else .done e))))
      |_,_=>none
     |none=>none
    |_=>none
   |_=>none else none
  |none=>none
 |_=>none
def mapTree(h:AH):List AV→Option (List AV)
 | []=>some []
 |v::r=>match toTree h deepest v,mapTree h r with
  |some t,some l=>some (t::l)
  |_,_=>none
def cD(E:Env)(enter:Nat→List AV→AH→Option (AV×AH))(f:Nat)(args:List AV)(h:AH):Option (AV×AH):=
 match E.shared.get f with
 |some _=>enter f args h
 |none=>
  let h1:=args.foldl (fun h v=>freeze deepest v h) h
  match mapTree h1 args with
  |none=>enter f args h
  |some l=>match E.known f l with
   |some r=>some (r,bif isFlat r then h else h1)
   |none=>match enter f l .empty with
    |some (r,hc)=>
     let hc1:=freeze deepest r hc
     match toTree hc1 deepest r with
     |some t=>some (t,bif isFlat t then h else h1)
     |none=>none
    |none=>none
def aZ(E:Env)(ex:ACode→St→Option (Ex×St)):Cle→List AV→AH→Option (AV×AH)
 |.f g=>cD E (enterA E ex) g
 |.y b=>roundA E ex b
def exec(E:Env):Nat→ACode→St→Option (Ex×St)
 |0,_,_=>none
 |n+1,c,s=>
  match c with
  |.skip=>some (.normal,s)
  |.ret=>some (.ret,s)
  |.exit id=>some (.exit id,s)
  |.region ops=>(runOps E (aZ E (exec E n)) ops s).map fun s=>(.normal,s)
  |.draw ops=>(runDrawX E (aZ E (exec E n)) ops s).map fun s=>(.normal,s)
  |.seq a b=>match exec E n a s with
   |some (.normal,s)=>exec E n b s
   |r=>r
  |.cond c a b=>match s.eval c with
   |some (.val (.bool true))=>exec E n a s
   |some (.val (.bool false))=>exec E n b s
   |_=>none
  |.block id b=>match exec E n b s with
   |some (.exit i,s)=>some (bif i5 i id then .normal else .exit i,s)
   |r=>r
  |.loop b=>match exec E n b s with
   |some (.normal,s)=>exec E n (.loop b) s
   |r=>r
  |.range g ps asg body M=>
   match s.eval g with
   |some (.fn (.func f) a b)=>
    let sd:Option (AH×List ADef):=match s.round with
     |none=>some (s.h.alloc (.dfr true),.mark s.h.next::s.defers)
     |some q=>match s.h.get q with
      |some (.loop ..)=>some (s.h,s.defers)
      |_=>none
    match sd with
    |none=>none
    |some (h1,df)=>
     match aZ E (exec E n) (.f f) (a++(.yld h1.next::b)) (h1.alloc (.loop s.tm ps asg body M .ready)) with
     |some (_,h3)=>match h3.get h1.next with
      |some (.loop tm3 ps3 asg3 body3 M3 st)=>
       let s':St:={s with h:=h3.put h1.next (some (.loop tm3 ps3 asg3 body3 M3 .gone)),defers:=df}
       match st with
       |.ready=>some (.normal,s')
       |.done e=>some (e,s')
       |_=>none
      |_=>none
     |none=>none
   |_=>none
  |.bad _=>none
end Go.AM
namespace Go.AM
open Go.RowKit
variable {G:Nat→Option (List AV)}{base:Nat}{S:Snap}{f:Emb}{h:AH}{w:World}{P:Program}{E:Env}{s:St}{a:Act}{N:Nat}
section ops
variable {call:Cle→List AV→AH→Option (AV×AH)}{o:Oper}{v:AV}{s':St}
theorem TmR.put{tm:Tr AV}(ht:TmR S f tm a.tmps N){dst:Option Nat}{M:Nat}(hd:dstOk M dst=true)(hM:M≤N){x:Value}(hr:Rel S f v x):TmR S f (putDst tm dst v) (a.put dst x).tmps N:=by
 cases dst with
 |none=>exact ht
 |some d=>
  have hd':d<N:=A9 (by simpa [dstOk] using hd) hM
  refine⟨by simp[Act.put,ht.size],fun i u hu=>?_⟩
  simp only[putDst,Tr.get_put] at hu;simp only[Act.put,C3];split at hu
  ·rename_i e;subst e;simp only[sI] at hu;subst hu;exact⟨x,by simp[ht.size,hd'],hr⟩
  ·rename_i e;obtain⟨y,hy,hrel⟩:=ht.get i u hu;exact⟨y,by rw[if_neg (fun h=>e h.symm)];exact hy,hrel⟩
theorem b6{ops:Array Oper}{g:Option (Nat×Bool)}{b:Bool}(ht:TmR S f s.tm a.tmps N)(hg:cGuard ops o.guard=some g)(hw:wantedA s g=some b):
  Region.wanted o (yielded ops a.tmps)=b:=by
 unfold cGuard at hg;unfold Region.wanted;cases hq:o.guard with
 |none=>
  simp only[hq,sI] at hg;subst hg
  simpa [wantedA] using hw
 |some p=>
  obtain⟨j,c⟩:=p;simp only[hq] at hg⊢
  split at hg
  ·rename_i d hd;simp only[sI] at hg;subst hg;simp only[wantedA] at hw;unfold yielded;rw[hd];split at hw
   ·rename_i c' hc';obtain⟨x,hx,hr⟩:=ht.get d _ hc';simp only[Rel] at hr;obtain⟨rfl,_⟩:=hr;simp only[sI] at hw;subst hw;simp[hx]
   ·rename_i hc';obtain⟨x,hx,hr⟩:=ht.get d _ hc';simp only[Rel,RelL] at hr;obtain⟨xs,rfl,rfl⟩:=hr;simp only[sI] at hw;subst hw;simp[hx]
   ·cases hw
  ·cases hg
def fen:Option Nat→Fence
 |none=>Fence.wide
 |some l=>Fence.wide.inRound l
theorem xR(ro:Option Nat):(fen ro).round=ro:=by cases ro<;>rfl
theorem iS(ro:Option Nat):(fen ro).depth.isSome=true→False:=by cases ro<;>simp[fen,Fence.wide]
theorem mA(ro:Option Nat)(g:FuncId):(fen ro).fn g:=by cases ro<;>trivial
theorem CallsIn.fen(ro:Option Nat){g:FuncId}{args:Array Value}{w:World}{R:Ending→World→Prop}(h:CallsIn Fence.wide 0 P g args w R):CallsIn (fen ro) 0 P g args w R:=by
 cases ro with
 |none=>exact h
 |some l=>exact CallsIn.inRound l h
theorem RoundIn.fen(ro:Option Nat){l:Nat}{g:FuncId}{t:Array Value}{x y:Code}{w:World}{R:Ending→World→Prop}(h:RoundIn Fence.wide 0 P l g t x y w R):RoundIn (fen ro) 0 P l g t x y w R:=by
 cases ro with
 |none=>exact h
 |some l=>exact h
def RoundR(f:Emb):Option Nat→Option Nat→Prop
 |none,ro=>ro=none
 |some b,ro=>∃B O R,f b=some (B,O,R)∧ro=some B
theorem RoundR.le{S S':Snap}{f f':Emb}(l:Le S f S' f'):∀{r ro},RoundR f r ro→RoundR f' r ro
 |none,_,h=>h
 |some _,_,⟨B,O,R,h,e⟩=>⟨B,O,R,l.f _ _ h,e⟩
def DefR(f:Emb):List ADef→List Deferred→Prop
 | [],l=>l=[]
 |.call g xs::r,l=>∃cap args l',l={target:=.fn (.func g) cap,args}::l'∧(args++cap).size=xs.length∧DefR f r l'
 |.mark b::r,l=>∃B O R l',f b=some (B,O,R)∧l={target:=.collected B,args:= #[]}::l'∧DefR f r l'
theorem DefR.le{S S':Snap}{f f':Emb}(h:Le S f S' f'):∀{x:List ADef} {y:List Deferred},DefR f x y→DefR f' x y
 | [],_,k=>k
 |.call _ _::_,_,⟨cap,args,l',e,n,k⟩=>⟨cap,args,l',e,n,DefR.le h k⟩
 |.mark _::_,_,⟨B,O,R,l',e1,e,k⟩=>⟨B,O,R,l',h.f _ _ e1,e,DefR.le h k⟩
theorem eT{Q:Exit→Act→World→Prop}{K:Act→World→Prop}{K0:Value→World→Prop}(ro:Option Nat)(hnd:∀c,o.op≠ .defer c)(h:OpOut P (execOp a.eval o) w K0)(k:∀x w',K0 x w'→K (a.put o.dst x) w'):
  o.wpIn (fen ro) 0 P a w K Q:=by
 refine⟨fun _ _=>mA ro _,?_⟩;rw[Oper.semAt_eq _ _ _ hnd];unfold OpOut at h;generalize (execOp a.eval o).run P w=r at h;cases r with
 |ok x w'=>
  cases x<;>simp only[Oper.uponIn] at h⊢
  case value v=>exact k _ _ h
  case skip=>exact k _ _ h
  case enter g args=>
   refine⟨fun hd=>(iS ro hd).elim,CallsIn.mono (CallsIn.fen ro h) fun e w'' he=>?_⟩;obtain⟨x,rfl,hk⟩:=he;exact k _ _ hk
  case round l g t x y=>
   refine⟨fun hd=>(iS ro hd).elim,RoundIn.mono (RoundIn.fen ro h) fun e w'' he=>?_⟩;obtain⟨x,rfl,hk⟩:=he;exact k _ _ hk
 |halt=>exact h.elim
theorem bw(P:Program)(M:Nat)(ops:Array Oper)(o:Oper):
  (∃d w,cOper P M ops o={dst:=d,guard:=none,op:=.bad w})∨
  ∃g ao,cGuard ops o.guard=some g∧cOp P o.op=some ao∧dstOk M o.dst=true∧cOper P M ops o={dst:=o.dst,guard:=g,op:=bif shown ao||isDefer ao then ao else .bad (opWord o.op)}:=by
 unfold cOper;split
 ·rename_i g ao hg hao;cases hd:dstOk M o.dst with
  |false=>exact .inl ⟨_,_,rfl⟩
  |true=>exact .inr ⟨g,ao,hg,hao,rfl,rfl⟩
 ·exact .inl ⟨_,_,rfl⟩
theorem db{op:Op}{ao:AOp}(h:cOp P op=some ao)(hs:shown ao=true):∀c,op≠ .defer c:=by
 intro c e;subst e;simp only[cOp] at h;split at h
 ·simp only[iw] at h;obtain⟨y,hy,rfl⟩:=h;simp[shown] at hs
 ·cases h
theorem uB{op:Op}{ao:AOp}(h:cOp P op=some ao)(hs:isDefer ao=true):∃c x y args args',op=.defer c∧c.callee=.value x∧cOpds c.args.toList=some args'∧cOpd x=some y∧ao=.defer y args'∧args=c.args:=by
 cases op with
 |defer c=>
  simp only[cOp] at h;split at h
  ·rename_i x args hx ha;simp only[iw] at h;obtain⟨y,hy,rfl⟩:=h;exact⟨c,x,y,c.args,args,rfl,hx,ha,hy,rfl,rfl⟩
  ·cases h
 |alloc t=>
  simp only[cOp,iw] at h;obtain⟨y,hy,rfl⟩:=h;cases hb:isBld P t<;>simp[hb,isDefer] at hs
 |_=>
  simp only[cOp,C4] at h
  repeat' split at h
  all_goals first
   |contradiction
   |(simp only[iw] at h;obtain⟨y,hy,rfl⟩:=h;simp[isDefer] at hs;done)
   |(simp only[sI] at h;subst h;simp[isDefer] at hs;done)
   |cases h
structure Mid (E:Env) (base:Nat) (ro:Option Nat) (S:Snap) (f:Emb) (s:St) (a:Act) (w:World) (N:Nat):Prop where
 tm:TmR S f s.tm a.tmps N
 wr:WR E.globs base S f s.h w
 d:DefR f s.defers a.defers
 r:RoundR f s.round ro
theorem dz{M:Nat}{ro:Option Nat}{ops:Array Oper}{Q:Exit→Act→World→Prop}{K:Act→World→Prop}{i:Nat}{r:List AOper}(hP:E.P=P)(hcall:CallOk P E call)(hm:MethOk P E)(hM:M≤N)
  (mid:Mid E base ro S f s a w N) (hi:ops[i]? =some o) (hrun:runOps E call (cOper P M ops o::r) s=some s')
  (k:∀s1 a1 w1 S1 f1,Goes E.globs base S f s.h w S1 f1 s1.h w1→Mid E base ro S1 f1 s1 a1 w1 N→s1.round=s.round→runOps E call r s1=some s'→K a1 w1):
  wpOpIn (fen ro) 0 P ops Q i K a w:=by
 obtain⟨ht,wr,hdf,hro⟩:=mid;unfold wpOpIn;simp only[hi];rcases bw P M ops o with⟨d,w0,e⟩|⟨g,ao,hg,hao,hd,e⟩
 ·rw[e] at hrun;simp[runOps,wantedA,runOp] at hrun
 ·rw[e] at hrun;simp only[runOps] at hrun;cases hw:wantedA s g with
  |none=>simp[hw] at hrun
  |some b=>
   have hwant:=b6 ht hg hw;rw[hwant];cases b with
   |false=>
    simp only[hw] at hrun;simp only[ju,if_false];refine⟨fun _ _=>mA ro _,k {s with tm:=putDst s.tm o.dst undefA} _ w S f wr.goes ⟨ht.put hd hM bi,wr,?_,hro⟩ rfl hrun⟩;have:(a.put o.dst undef).defers=a.defers:=by cases o.dst<;>rfl
    rw[this];exact hdf
   |true=>
    simp only[hw] at hrun;simp only[if_true];cases hs:shown ao with
    |true=>
     simp only[hs,A2,cond_true] at hrun;cases hr:runOp E call s ao with
     |none=>simp[hr] at hrun
     |some p=>
      obtain⟨v,s1⟩:=p;simp only[hr] at hrun;obtain⟨h1,h2,h3⟩:=jS hP hcall hm ht wr hao hs hr;refine eT ro (db hao hs) h3 fun x w' ⟨S',f',hgo,hrel⟩=>?_
      refine k {s1 with tm:=putDst s1.tm o.dst v,round:=s.round} _ w' S' f' hgo ⟨?_,hgo.wr,?_,hro.le hgo.le⟩ rfl hrun
      ·rw[h1];exact(ht.le hgo.le).put hd hM hrel
      ·have:(a.put o.dst x).defers=a.defers:=by cases o.dst<;>rfl
       rw[this];simp only[h2];exact hdf.le hgo.le
    |false=>
     cases hde:isDefer ao with
     |false=>simp[hs,hde,runOp] at hrun
     |true=>
      simp only[hs,hde,Bool.or_true,cond_true] at hrun;obtain⟨c,x,y,args,args',hop,hcal,hargs,hx,rfl,rfl⟩:=uB hao hde;cases hr:runOp E call s (.defer y args') with
      |none=>simp[hr] at hrun
      |some p=>
       obtain⟨v,s1⟩:=p;simp only[hr] at hrun;simp only[runOp] at hr;split at hr
       ·rename_i g0 A B l ex hl;split at hr
        ·rename_i hrd;simp only[sI,pI] at hr;obtain⟨rfl,rfl⟩:=hr;have rx:=aA ht hx ex;simp only[Rel] at rx;obtain⟨xs,ys,e2,r1,r2⟩:=rx;have hl':=bE ht hargs hl;have hrn:ro=none:=by rw[hrd] at hro;exact hro
         subst hrn;refine⟨fun _ _=>mA none _,?_⟩;rw[show(fen none).round=none from rfl,Oper.semAt_none];have hres:(resolve a.eval c o.type).run P w=.ok {target:=.fn (.func g0) ys.toArray,args:=xs.toArray++c.args.map a.eval} w:=by
          obtain⟨callee,cargs,cty⟩:=c;simp only at hcal;subst hcal;simp[resolve,e2,Deferred.ofValue]
         have hex:(execOp a.eval o).run P w=.ok (.defer {target:=.fn (.func g0) ys.toArray,args:=xs.toArray++c.args.map a.eval}) w:=by
          unfold execOp;simp only[hop,Sem.run_bind,hres,Result.andThen_ok];rfl
         rw[hex];simp only[Oper.uponIn];refine k {s with tm:=putDst s.tm o.dst undefA,defers:=.call g0 (A++l++B)::s.defers} _ w S f wr.goes ⟨?_,wr,?_,?_⟩ rfl hrun
         ·have:=ht.put (a:={a with defers:={target:=.fn (.func g0) ys.toArray,args:=xs.toArray++c.args.map a.eval}::a.defers}) hd hM bi;exact this
         ·have:∀(b:Act) (dst:Option Tmp) (u:Value),(b.put dst u).defers=b.defers:=by intro b dst u;cases dst<;>rfl
          rw[this];simp only[DefR];refine⟨_,_,_,rfl,?_,hdf⟩;have q1:=r1.length;have q2:=r2.length;have q3:=hl'.length;simp at q3;simp;omega
         ·exact hro
        ·cases hr
       ·cases hr
theorem ms{M:Nat}{ro:Option Nat}{ops:Array Oper}{Q:Exit→Act→World→Prop}(hP:E.P=P)(hcall:CallOk P E call)(hm:MethOk P E)(hM:M≤N){s':St}{S0:Snap}{f0:Emb}{h0:AH}{w0:World}{r0:Option Nat}
  (k:∀a1 w1 S1 f1,Goes E.globs base S0 f0 h0 w0 S1 f1 s'.h w1→Mid E base ro S1 f1 s' a1 w1 N→s'.round=r0→Q .normal a1 w1):
  ∀(l:List Nat) (s:St) (a:Act) (w:World) (S:Snap) (f:Emb),Goes E.globs base S0 f0 h0 w0 S f s.h w→Mid E base ro S f s a w N→s.round=r0→
   runOps E call (l.filterMap fun i=>(ops[i]?).map (cOper P M ops)) s=some s'→wpOpsIn (fen ro) 0 P ops Q l a w:=by
 intro l
 induction l with
 |nil=>
  intro s a w S f hgo mid hd' hrun;simp only[List.filterMap_nil,runOps,sI] at hrun;subst hrun;exact k a w S f hgo mid hd'
 |cons i l ih=>
  intro s a w S f hgo mid hd' hrun;rw[wpOpsIn_cons];cases hi:ops[i]? with
  |none=>
   unfold wpOpIn;simp only[hi];rw[C5] at hrun;simp only[hi,Option.map_none] at hrun;exact ih s a w S f hgo mid hd' hrun
  |some o=>
   rw[C5] at hrun;simp only[hi,jo] at hrun;exact dz hP hcall hm hM mid hi hrun fun s1 a1 w1 S1 f1 g1 t1 e1 r1=>
    ih s1 a1 w1 S1 f1 (hgo.trans g1) t1 (e1.trans hd') r1
theorem eX{α β:Type}(g:β→α):∀(l m:List β),((jg l.length).filterMap fun i=>((l++m)[i]?).map g)=l.map g:=by
 intro l
 induction l with
 |nil=>intro m;rfl
 |cons x l ih=>
  intro m;rw[im,List.range_succ_eq_map,C5];simp only[ja,Cm,jo,jd,List.filterMap_map]
  congr 1
  rw[←ih m];apply congrFun;apply congrArg
  funext i
  simp
theorem eN{α:Type}(ops:Array Oper)(g:Oper→α):((jg ops.size).filterMap fun i=>(ops[i]?).map g)=ops.toList.map g:=by
 have:=eX g ops.toList []
 simpa using this
theorem o9{M id:Nat}{ro:Option Nat}{ops:Array Oper}{Q:Exit→Act→World→Prop}(hP:E.P=P)(hcall:CallOk P E call)(hm:MethOk P E)(hM:M≤N){s':St}
  (mid:Mid E base ro S f s a w N) (hrun:runOps E call (ops.toList.map (cOper P M ops)) s=some s')
  (k:∀a1 w1 S1 f1,Goes E.globs base S f s.h w S1 f1 s'.h w1→Mid E base ro S1 f1 s' a1 w1 N→s'.round=s.round→Q .normal a1 w1):
  (Code.region id ops false).wpIn (fen ro) 0 P Q a w:=
 wpIn_region (ms hP hcall hm hM k _ s a w S f mid.wr.goes mid rfl (by rw[eN];exact hrun))
end ops
end Go.AM
namespace Go.AM
open Go.RowKit
variable {base:Nat}{S:Snap}{f:Emb}{h:AH}{w:World}{P:Program}{E:Env}{s s':St}{a:Act}{N:Nat}
theorem gy{p:Nat→Prop}:∀n,p n→∃m,p m∧∀j,p j→m≤j:=by
 intro n
 induction n using Bk with
 |_ n ih=>
  intro h
  by_cases hl:∃j,j<n∧p j
  ·obtain⟨j,hj,hp⟩:=hl;exact ih j hj hp
  ·exact⟨n,h,fun j hj=>by
    rcases Nat.lt_or_ge j n with hlt|hge
    ·exact absurd ⟨j,hlt,hj⟩ hl
    ·exact hge⟩
def exOf:Ex→Exit
 |.normal=>.normal
 |.exit id=>.exit id
 |.ret=>.ret
def DrawOk(P:Program)(E:Env)(n:Nat):Prop:=
 ∀(M id:Nat) (ops:Array Oper) (s s':St) (e:Ex) (base:Nat) (ro:Option Nat) (S:Snap) (f:Emb) (a:Act) (w:World) (N:Nat) (Q:Exit→Act→World→Prop),M≤N→
  exec E n (cCode P M (.region id ops true)) s=some (e,s')→Mid E base ro S f s a w N→
  (∀a1 w1 S1 f1,Goes E.globs base S f s.h w S1 f1 s'.h w1→Mid E base ro S1 f1 s' a1 w1 N→s'.round=s.round→Q (exOf e) a1 w1)→
  (Code.region id ops true).wpIn (fen ro) 0 P Q a w
theorem qJ{call:Cle→List AV→AH→Option (AV×AH)}(hc:CallOk P E call){g:Nat}{l:List AV}{vals:Array Value}{r:AV}{h h':AH}(hrun:call (.f g) l h=some (r,h'))(w:World):
  (callFunc g vals).run P w=.ok (.enter g vals) w:=by
 obtain⟨⟨fn,h1,h2,h3⟩,_⟩:=hc.f g l h r h' hrun;unfold callFunc;simp only[Sem.run_bind,run_program,Result.andThen_ok];have h1':P.funcs[g]? =some fn:=h1;simp only[h1',h2,h3];rfl
theorem fL{l:Nat}{r:Go.Loop}(hl:w.heap[l]? =some (.loop r))(fn:FuncId)(tmps:Array Value)(ps:Array Tmp)(assign body:Code):
  (Instr.enterLoop fn tmps ps assign body (some l)).run P w=
   .ok (w.heap.size,[]) (w.alloc (.loop {state:=.ready,pending:=none,fn,tmps,params:=ps,assign,body,defers:=r.defers})):=by
 unfold Instr.enterLoop;simp only[Sem.run_bind,run_getLoop hl,run_newObj_alloc,Result.andThen,Sem.run_pure]
theorem ny(r:WR E.globs base S f h w){tm:Tr AV}{ps:Array Tmp}{asg body:Code}{M D:Nat}{fn:FuncId}{t:Array Value}(ht:TmR S f tm t N)(hM:M≤N):
  Goes E.globs base S f h w S (upd f h.next (w.heap.size,0,1)) (h.alloc (.loop tm ps.toList asg body M .ready)) (w.alloc (.loop {state:=.ready,pending:=none,fn,tmps:=t,params:=ps,assign:=asg,body,defers:=D})):=by
 refine r.alloc fun f' hle=>?_
 simp only[BlkR];refine⟨trivial,trivial,_,World.alloc_heap_new _ _,rfl,rfl,rfl,by rw[ht.size];exact hM,(show TmG S f tm t from ht.get).le hle,rfl,rfl⟩
theorem zJ(r:WR E.globs base S f h w):Goes E.globs base S f h w S (upd f h.next (w.heap.size,0,1)) (h.alloc (.dfr true)) (w.alloc (.deferred (some []))):=by
 refine r.alloc fun f' hle=>?_
 simp only[BlkR,if_true];exact⟨trivial,trivial,World.alloc_heap_new _ _⟩
theorem cG(r:WR E.globs base S f h w){b B O R:Nat}{tm:Tr AV}{ps:List Nat}{asg body:Code}{M:Nat}{st:LSt}(hb:h.get b=some (.loop tm ps asg body M st))(hf:f b=some (B,O,R)):
  O=0∧R=1∧∃q:Go.Loop,w.heap[B]? =some (.loop q)∧q.params.toList=ps∧q.assign=asg∧q.body=body∧M≤q.tmps.size∧TmG S f tm q.tmps∧LStR st q:=by
 obtain⟨B0,O0,R0,hf0,_,_,hr⟩:=r.blk b _ hb;rw[hf] at hf0;simp only[sI,pI] at hf0;obtain⟨rfl,rfl,rfl⟩:=hf0;exact hr
theorem eb(r:WR E.globs base S f h w){b B O R:Nat}{tm:Tr AV}{ps:List Nat}{asg body:Code}{M:Nat}{st st':LSt}{q q':Go.Loop}(hb:h.get b=some (.loop tm ps asg body M st))(hf:f b=some (B,O,R))
  (hq:w.heap[B]? =some (.loop q)) (h1:q'.params=q.params) (h2:q'.assign=q.assign) (h3:q'.body=q.body) (h4:q'.tmps=q.tmps) (h5:LStR st' q'):
  Goes E.globs base S f h w S f (h.put b (some (.loop tm ps asg body M st'))) (w.putObj B (.loop q')):=by
 obtain⟨rfl,rfl,q0,g1,g2,g3,g4,g5,g6,g7⟩:=cG r hb hf;rw[hq] at g1;simp only[sI,Obj.loop.injEq] at g1;subst g1;refine r.setObj hb hf hq rfl rfl fun w' hw'=>?_
 simp only[BlkR];exact⟨trivial,trivial,q',hw',by rw[h1];exact g2,by rw[h2];exact g3,by rw[h3];exact g4,by rw[h4];exact g5,by rw[h4];exact g6,h5⟩
theorem bj{b:Frame}{k:List Item}{cs:List Frame}{c:Code}:step P (lone (b.atR a (.code (.scope c)::k)) cs w)=.next (lone (b.atR a (.code c:: .inScope c::k)) cs w):=
 step_lone_go (by simp[stepG,stepG.exec,Frame.atR])
theorem k8{b:Frame}{k:List Item}{cs:List Frame}{c:Code}:step P (lone (b.atR a (.inScope c::k)) cs w)=.next (lone (b.atR a k) cs w):=
 step_lone_go (by simp[stepG,stepG.exec,Frame.atR])
theorem jN{F:Fence}{n:Nat}{c:Code}{Q:Exit→Act→World→Prop}(h:c.wpIn F n P (fun e a w=>match e with|.goto _=>False|e=>Q e a w) a w):(Code.scope c).wpIn F n P Q a w:=by
 intro b k cs hro hb hr;have h0:(lone (b.atR a (.code (.scope c)::k)) cs w).fenced P F:=fenced_calm hb hr rfl;obtain⟨e,a₁,w₁,hq,harr⟩:=h b (.inScope c::k) cs hro hb hr;cases e with
 |normal=>exact⟨.normal,a₁,w₁,hq,.head h0 bj (StepsIn.trans harr (.one (fenced_calm hb hr rfl) k8))⟩
 |exit id'=>
  have hx:exitTo id' (.inScope c::k)=exitTo id' k:=by simp[exitTo]
  exact⟨.exit id',a₁,w₁,hq,fun k' hk=>.head h0 bj (harr.1 k' (by rw[hx];exact hk)),
   fun hr' hk=>let ⟨k₁,h1,h2⟩:=harr.2 hr' (by rw[hx];exact hk);⟨k₁,h1,.head h0 bj h2⟩⟩
 |goto l=>exact hq.elim
 |ret=>exact⟨_,a₁,w₁,hq,.of_steps (.one h0 bj) harr⟩
 |panic ch=>exact⟨_,a₁,w₁,hq,.of_steps (.one h0 bj) harr⟩
 |outgrown=>exact⟨_,a₁,w₁,hq,.of_steps (.one h0 bj) harr⟩
theorem eG{M:Nat}(hP:E.P=P)(hm:MethOk P E)(hM:M≤N):∀(n:Nat) (_:∀m,m<n→CallOk P E (aZ E (exec E m))) (_:∀m,m≤n→DrawOk P E m)
  (c:Code) (s:St) (e:Ex) (s':St) (ro:Option Nat) (S:Snap) (f:Emb) (a:Act) (w:World) (Q:Exit→Act→World→Prop),
  exec E n (cCode P M c) s=some (e,s')→Mid E base ro S f s a w N→
  (∀a1 w1 S1 f1,Goes E.globs base S f s.h w S1 f1 s'.h w1→Mid E base ro S1 f1 s' a1 w1 N→s'.round=s.round→Q (exOf e) a1 w1)→
  c.wpIn (fen ro) 0 P Q a w:=by
 intro n
 induction n using Bk with
 |_ n ih0=>
 cases n with
 |zero=>intro _ _ c s e s' ro S f a w Q hrun;simp[exec] at hrun
 |succ n=>
  intro hc hd c s e s' ro S f a w Q hrun mid k;have ih':=fun m (hm:m≤n)=>ih0 m om (fun j hj=>hc j om) (fun j hj=>hd j om);have ih:=ih' n (i7 _);cases c with
  |skip=>
   simp only[cCode,exec,sI,pI] at hrun;obtain⟨rfl,rfl⟩:=hrun;exact wpIn_skip (k a w S f mid.wr.goes mid rfl)
  |label l=>
   simp only[cCode,exec,sI,pI] at hrun;obtain⟨rfl,rfl⟩:=hrun;exact wpIn_label (k a w S f mid.wr.goes mid rfl)
  |ret=>
   simp only[cCode,exec,sI,pI] at hrun;obtain⟨rfl,rfl⟩:=hrun;exact wpIn_ret (k a w S f mid.wr.goes mid rfl)
  |exit id=>
   simp only[cCode,exec,sI,pI] at hrun;obtain⟨rfl,rfl⟩:=hrun;exact wpIn_exit (k a w S f mid.wr.goes mid rfl)
  |region id ops d=>
   cases d with
   |true=>exact hd (n+1) (i7 _) M id ops s s' e base ro S f a w N Q hM hrun mid k
   |false=>
    simp only[cCode,exec,ju,if_false,iw,pI] at hrun;obtain⟨s1,hr,rfl,rfl⟩:=hrun;exact o9 hP (hc n om) hm hM mid hr k
  |seq x y=>
   simp only[cCode,exec] at hrun;split at hrun
   ·rename_i s1 hx;refine wpIn_seq (ih x s .normal s1 ro S f a w _ hx mid fun a1 w1 S1 f1 g1 t1 d1=>?_);exact ih y s1 e s' ro S1 f1 a1 w1 Q hrun t1 fun a2 w2 S2 f2 g2 t2 d2=>k a2 w2 S2 f2 (g1.trans g2) t2 (d2.trans d1)
   ·rename_i hne;refine wpIn_seq (ih x s e s' ro S f a w _ hrun mid fun a1 w1 S1 f1 g1 t1 d1=>?_);have:=k a1 w1 S1 f1 g1 t1 d1;cases e with
    |normal=>exact absurd hrun (by intro h;exact hne _ h)
    |exit id=>exact this
    |ret=>exact this
  |cond c x y=>
   simp only[cCode] at hrun;split at hrun
   ·rename_i c' hc';simp only[exec] at hrun;split at hrun
    ·rename_i hv;have hr:=aA mid.tm hc' hv;simp only[Rel] at hr;exact wpIn_cond_true hr.1 (ih x s e s' ro S f a w Q hrun mid k)
    ·rename_i hv;have hr:=aA mid.tm hc' hv;simp only[Rel] at hr;exact wpIn_cond_false hr.1 (ih y s e s' ro S f a w Q hrun mid k)
    ·cases hrun
   ·simp[exec] at hrun
  |block id x=>
   simp only[cCode,exec] at hrun;split at hrun
   ·rename_i i s1 hx;simp only[sI,pI] at hrun;obtain⟨rfl,rfl⟩:=hrun;refine wpIn_block (ih x s _ s1 ro S f a w _ hx mid fun a1 w1 S1 f1 g1 t1 d1=>?_);have:=k a1 w1 S1 f1 g1 t1 d1;simp only[exOf,Exit.inBlock]
    by_cases he:i=id
    ·subst he;simpa [exOf] using this
    ·rw[if_neg he];have hb:i5 i id=false:=by cases hq:i5 i id with
      |false=>rfl
      |true=>exact absurd (ij hq) he
     simpa [hb,exOf] using this
   ·rename_i hne;refine wpIn_block (ih x s e s' ro S f a w _ hrun mid fun a1 w1 S1 f1 g1 t1 d1=>?_);have:=k a1 w1 S1 f1 g1 t1 d1;cases e with
    |normal=>exact this
    |exit id=>exact absurd hrun (by intro h;exact hne _ _ h)
    |ret=>exact this
  |scope x=>
   simp only[cCode] at hrun;cases n with
   |zero=>simp[exec] at hrun
   |succ n=>
   simp only[exec] at hrun;refine jN (ih x s e s' ro S f a w _ (by simpa only[exec] using hrun) mid fun a1 w1 S1 f1 g1 t1 d1=>?_)
   have:=k a1 w1 S1 f1 g1 t1 d1;cases e with
   |normal=>exact this
   |exit id=>exact this
   |ret=>exact this
  |loop x=>
   let J:Nat→Act→World→Prop:=fun m a1 w1=>∃s1 S1 f1,m≤n+1∧exec E m (cCode P M (.loop x)) s1=some (e,s')∧Goes E.globs base S f s.h w S1 f1 s1.h w1∧Mid E base ro S1 f1 s1 a1 w1 N∧s1.round=s.round
   classical
   let μ:Act→World→Nat:=fun a1 w1=>if h:∃m,J m a1 w1∧∀j,J j a1 w1→m≤j then Classical.choose h else 0
   refine wpIn_loop (fun a1 w1=>∃m,J m a1 w1) μ ⟨n+1,s,S,f,i7 _,hrun,mid.wr.goes,mid,rfl⟩ fun a1 w1 hI=>?_
   have hI':∃m,J m a1 w1∧∀j,J j a1 w1→m≤j:=let ⟨m,hm⟩:=hI;gy m hm
   have hμ:μ a1 w1=Classical.choose hI':=dif_pos hI';obtain⟨⟨s1,S1,f1,hle,hr1,g1,t1,d1⟩,_⟩:=Classical.choose_spec hI';rw[hμ];generalize Classical.choose hI'=m at hle hr1;cases m with
   |zero=>simp[exec] at hr1
   |succ m=>
    simp only[cCode,exec] at hr1;split at hr1
    ·rename_i s2 hx;refine ih' m om x s1 .normal s2 ro S1 f1 a1 w1 _ hx t1 fun a2 w2 S2 f2 g2 t2 d2=>?_
     have hJ:J m a2 w2:=⟨s2,S2,f2,om,hr1,g1.trans g2,t2,d2.trans d1⟩;refine⟨⟨m,hJ⟩,?_⟩;have h2:∃m,J m a2 w2∧∀j,J j a2 w2→m≤j:=gy m hJ;rw[show μ a2 w2=Classical.choose h2 from dif_pos h2];have:=(Classical.choose_spec h2).2 m hJ;omega
    ·rename_i hne;refine ih' m om x s1 e s' ro S1 f1 a1 w1 _ hr1 t1 fun a2 w2 S2 f2 g2 t2 d2=>?_
     have:=k a2 w2 S2 f2 (g1.trans g2) t2 (d2.trans d1);cases e with
     |normal=>exact absurd hr1 (by intro h;exact hne _ h)
     |exit id=>exact this
     |ret=>exact this
  |rangeFunc g ps asg body=>
   simp only[cCode] at hrun;split at hrun
   ·rename_i g' hg;simp only[exec] at hrun;split at hrun
    ·rename_i gf A B hv;have hr:=aA mid.tm hg hv;simp only[Rel] at hr;obtain⟨xs,ys,eg,r1,r2⟩:=hr;split at hrun
     ·cases hrun
     ·rename_i h1 df hsd;split at hrun
      ·rename_i rv h3 hcall;split at hrun
       ·rename_i tm3 ps3 asg3 body3 M3 st hblk;refine wpIn_rangeFunc fun fn _=>?_
        have hlay:∃(l:Nat) (mark:List Deferred) (w1:World) (f1:Emb),(Instr.enterLoop fn a.tmps ps asg body (fen ro).round).run P w=.ok (l,mark) w1∧
          Goes E.globs base S f s.h w S f1 (h1.alloc (.loop s.tm ps.toList asg body M .ready)) w1∧f1 h1.next=some (l,0,1)∧DefR f1 df (mark++a.defers):=by
         rw[xR];cases hrd:s.round with
         |none=>
          simp only[hrd,sI,pI] at hsd;obtain⟨rfl,rfl⟩:=hsd;have hro:=mid.r;rw[hrd] at hro;simp only[RoundR] at hro;subst hro;have ga:=zJ mid.wr;have gb:=ny (fn:=fn) (D:=w.heap.size) (ps:=ps) (asg:=asg) (body:=body) ga.wr (mid.tm.le ga.le) hM;refine⟨_,_,_,_,run_enterLoop_outer fn a.tmps ps asg body,ga.trans gb,?_,?_⟩
          ·rw[aR];simp
          ·simp only[DefR,ja,iz];refine⟨w.heap.size,0,1,_,?_,rfl,mid.d.le (ga.trans gb).le⟩;exact gb.le.f _ _ (aR _ _ _)
         |some q=>
          simp only[hrd] at hsd;split at hsd
          ·rename_i tmq psq asgq bodyq Mq stq hq;simp only[sI,pI] at hsd;obtain⟨rfl,rfl⟩:=hsd;have hro:=mid.r;rw[hrd] at hro;simp only[RoundR] at hro;obtain⟨B1,O1,R1,hfq,rfl⟩:=hro;obtain⟨_,_,rq,hrq,_⟩:=cG mid.wr hq hfq;have gb:=ny (fn:=fn) (D:=rq.defers) (ps:=ps) (asg:=asg) (body:=body) mid.wr mid.tm hM;refine⟨_,_,_,_,fL hrq fn a.tmps ps asg body,gb,aR _ _ _,?_⟩;simp only[iz];exact mid.d.le gb.le
          ·cases hsd
        obtain⟨l,mark,w1,f1,hent,g1,hfl,hdf⟩:=hlay;have hres:(resolve a.eval (rangeCall g l) 0).run P w1=.ok {target:=.fn (.func gf) ys.toArray,args:=xs.toArray++ #[.func (.yield l) #[] #[]]} w1:=by
         have hy:a.eval (.const (.func (.yield l) #[] #[]))=.func (.yield l) #[] #[]:=rfl;simp[resolve,eg,hy,Deferred.ofValue]
        have hcl:=hc n om;have hinv:(invoke (.fn (.func gf) ys.toArray) (xs.toArray++ #[.func (.yield l) #[] #[]])).run P w1=.ok (.enter gf (xs.toArray++ #[.func (.yield l) #[] #[]]++ys.toArray)) w1:=by
         simp only[invoke];exact qJ hcl hcall w1
        refine⟨l,mark,w1,_,w1,gf,_,w1,hent,hres,fun _ _=>mA ro _,hinv,fun hd=>(iS ro hd).elim,?_⟩;obtain⟨_,hcl4⟩:=hcl.f gf _ _ _ _ hcall;have hyl:RelL S f1 (A++(.yld h1.next::B)) (xs++(.func (.yield l) #[] #[]::ys)):=by
         refine(RelL.le g1.le _ _ r1).append ?_
         simp only[RelL,Rel];exact⟨_,_,rfl,⟨l,0,1,hfl,rfl⟩,RelL.le g1.le _ _ r2⟩
        have hci:=hcl4 base S f1 w1 _ g1.wr hyl;have e2:(xs++(Value.func (.yield l) #[] #[]::ys)).toArray=xs.toArray++ #[.func (.yield l) #[] #[]]++ys.toArray:=by
         apply Array.ext';simp
        rw[e2] at hci;refine CallsIn.mono (CallsIn.fen ro hci) fun en w3 hen=>?_
        obtain⟨x,rfl,S3,f3,g3,_⟩:=hen;have hfl3:=g3.le.f _ _ hfl;obtain⟨_,_,q,hq,hp1,hp2,hp3,hp4,hp5,hst⟩:=cG g3.wr hblk hfl3;have gall:=g1.trans g3;have fin:∀(hs:q.state≠ .busy),∃w4,(Instr.endLoop l).run P w3=.ok q.pending w4∧
          Goes E.globs base S f s.h w S3 f3 (h3.put h1.next (some (.loop tm3 ps3 asg3 body3 M3 .gone))) w4∧
          Mid E base ro S3 f3 {s with h:=h3.put h1.next (some (.loop tm3 ps3 asg3 body3 M3 .gone)),defers:=df} {a with defers:=mark++a.defers} w4 N:=by
         intro hs;have gs:=eb (q':={q with state:=.exhausted}) (st':=.gone) g3.wr hblk hfl3 hq rfl rfl rfl rfl rfl;refine⟨_,run_endLoop hq hs,gall.trans gs,⟨?_,gs.wr,hdf.le (g3.trans gs).le,mid.r.le (gall.trans gs).le⟩⟩;exact mid.tm.le (gall.trans gs).le
        cases st with
        |ready=>
         simp only[sI,pI] at hrun;obtain⟨rfl,rfl⟩:=hrun;simp only[LStR] at hst;obtain⟨w4,k1,k2,k3⟩:=fin (by rw[hst.1];simp)
         rw[hst.2] at k1;exact⟨none,w4,k1,k _ _ S3 f3 k2 k3 rfl⟩
        |done e0=>
         simp only[sI,pI] at hrun;obtain⟨rfl,rfl⟩:=hrun;simp only[LStR] at hst;obtain⟨w4,k1,k2,k3⟩:=fin (by rw[hst.1];simp)
         rw[hst.2.1] at k1;have kk:=k _ _ S3 f3 k2 k3 rfl;cases e0 with
         |normal=>simp[LStR.isNorm] at hst
         |exit id=>exact⟨some (.exit id),w4,k1,wpIn_exit kk⟩
         |ret=>exact⟨some .ret,w4,k1,wpIn_ret kk⟩
        |busy=>cases hrun
        |gone=>cases hrun
       ·cases hrun
      ·cases hrun
    ·cases hrun
   ·simp[exec] at hrun
  |goto l=>simp[cCode,exec] at hrun
  |refuse=>simp[cCode,exec] at hrun
end Go.AM
namespace Go.AM
open Go.RowKit
variable {G:Nat→Option (List AV)}{base:Nat}{S:Snap}{f:Emb}{h:AH}{w:World}{P:Program}{E:Env}{s s':St}{a:Act}{N:Nat}
theorem WR.later{w':World}(r:WR G base S f h w)(hb:Below w.heap.size w w'):Goes G base S f h w S f h w':=by
 have hs:∀{B O R},B<w.heap.size→SameReg w w' B O R:=fun hB=>aQ (hb.block _ hB);refine⟨.refl _ _,⟨fun b off v e=>?_,r.glob,fun b k hk=>?_,r.apart,r.dom,Aj r.le hb.size⟩,hb.mono r.le,fun B O R hB _=>⟨hs hB,fun _ _=>rfl⟩,bB,fun _ _ h _=>h,i7 _⟩
 ·have:=r.snap_lt e;rw[←r.snap _ _ _ e];simp only[World.cell?,hb.block _ this]
 ·obtain⟨B,O,R,h1,h2,h3,h4⟩:=r.blk b k hk;exact⟨B,O,R,h1,h2,A9 h3 hb.size,h4.same (hs h3)⟩
def IdleOk(P:Program)(E:Env):Prop:=
 ∀g n,E.idle.get g=some n→(∃fn,P.funcs[g]? =some fn∧(fn.name== "runtime.NumGoroutine")=false∧fn.body.isNone=false)∧
  ∀(vals:Array Value) (w:World),vals.size=n→CallsDIn Fence.wide 0 P g vals .returning w fun e u w'=>(∃v,e=.returned v)∧u=.returning∧Below w.heap.size w w'
theorem g9(hi:IdleOk P E){fn:Func}{tmps:Array Value}{R:Ending→World→Prop}{f:Emb}{h':AH}:
  ∀(ds:List ADef) (D:List Deferred) (h:AH) (w:World),runDefers E ds h=some h'→DefR f ds D→WR G base S f h w→
   (∀w',Goes G base S f h w S f h' w'→∃v,(results fn tmps).run P w'=.ok v w'∧R (.returned v) w')→LeavesInM Fence.wide 0 P fn tmps R D .returning w:=by
 intro ds
 induction ds with
 |nil=>
  intro D h w hrun hd wr k;simp only[runDefers,sI] at hrun;subst hrun;simp only[DefR] at hd;subst hd;exact k w wr.goes
 |cons d ds ih=>
  intro D h w hrun hd wr k;cases d with
  |call g l=>
   simp only[runDefers] at hrun;split at hrun
   ·rename_i n hn;have hq:=hrun;cases hl:i5 l.length n with
    |false=>simp[hl] at hq
    |true=>
     simp only[hl,cond_true] at hq;have hl:=ij hl;simp only[DefR] at hd;obtain⟨cap,args,D',rfl,hs,hd⟩:=hd;obtain⟨⟨fg,h1,h2,h3⟩,h4⟩:=hi g n hn;have hinv:(invoke (.fn (.func g) cap) args).run P w=.ok (.enter g (args++cap)) w:=by
      simp only[invoke];unfold callFunc;simp only[Sem.run_bind,run_program,Result.andThen_ok];have h1':P.funcs[g]? =some fg:=h1;simp only[h1',h2,h3];rfl
     refine⟨by simp,.inr ⟨fun hd=>by simp[Fence.wide] at hd,.func g,cap,g,args++cap,rfl,hinv,fun _ _=>trivial,?_⟩⟩
     refine CallsDIn.mono (h4 _ w (by rw[hs,hl])) fun e u w' he=>?_
     obtain⟨⟨v,rfl⟩,rfl,hb⟩:=he;have g1:=wr.later hb;exact ih D' h w' hq hd g1.wr fun w'' g2=>k w'' (g1.trans g2)
   ·cases hrun
  |mark b=>
   simp only[runDefers] at hrun;split at hrun
   ·rename_i hb;simp only[DefR] at hd;obtain⟨B,O,R',D',hf,rfl,hd⟩:=hd;obtain⟨B0,O0,R0,hf0,hB,hsz,hr⟩:=wr.blk b _ hb;rw[hf] at hf0;simp only[sI,pI] at hf0;obtain⟨rfl,rfl,rfl⟩:=hf0;simp only[BlkR,if_true] at hr;obtain⟨rfl,rfl,hw⟩:=hr;refine⟨by simp,.inl ⟨B,_,rfl,run_takeDeferred hw,?_⟩⟩
    have g1:=wr.setObj (k':=.dfr false) (o':=.deferred none) hb hf hw rfl rfl (fun w' hw'=>by simp only[BlkR];exact⟨trivial,trivial,by simpa using hw'⟩)
    exact ih D' _ _ hrun hd g1.wr fun w'' g2=>k w'' (g1.trans g2)
   ·cases hrun
theorem ow{α β:Type}(g:α→Sem β)(w:World):∀(l:List α) (r:List β),l.length=r.length→(∀(i:Nat) (x:α) (y:β),l[i]? =some x→r[i]? =some y→(g x).run P w=.ok y w)→(l.mapM g).run P w=.ok r w:=by
 intro l
 induction l with
 |nil=>intro r hl _;cases r with
  |nil=>rfl
  |cons=>simp at hl
 |cons x l ih=>
  intro r hl hk;cases r with
  |nil=>simp at hl
  |cons y r=>
   rw[Ap];simp only[Sem.run_bind,hk 0 x y rfl rfl,Result.andThen_ok,ih r (by simpa using hl) (fun i a b h1 h2=>hk (i+1) a b (by simpa using h1) (by simpa using h2))]
   rfl
theorem o7(ht:TmR S f s.tm a.tmps N)(r:WR E.globs base S f s.h w):∀(rs:List ResultVar) (ars:List ARes) (l:List AV),cRes P rs=some ars→resultsA E.globs s ars=some l→
  ∃xs:List Value,xs.length=rs.length∧RelL S f l xs∧
   ∀(i:Nat) (rv:ResultVar) (x:Value),rs[i]? =some rv→xs[i]? =some x→((match rv with
    |.tmp t=>pure (a.tmps.getD t undef)
    |.cell b t=>do loadVar t (←asAddr (a.tmps.getD b undef)):Sem Value)).run P w=.ok x w:=by
 intro rs
 induction rs with
 |nil=>
  intro ars l hc hl;simp only[cRes,sI] at hc;subst hc;simp only[resultsA,sI] at hl;subst hl;exact⟨[],rfl,by simp[RelL],fun i rv x h=>by simp at h⟩
 |cons rv rs ih=>
  intro ars l hc hl;cases rv with
  |tmp t=>
   simp only[cRes,iw] at hc;obtain⟨ars',hc',rfl⟩:=hc;simp only[resultsA] at hl;split at hl
   ·rename_i v l' hv hl';simp only[sI] at hl;subst hl;obtain⟨xs,h1,h2,h3⟩:=ih ars' l' hc' hl';obtain⟨x,hx,hr⟩:=ht.get t v hv;refine⟨x::xs,by simp[h1],by simp only[RelL];exact⟨x,xs,rfl,hr,h2⟩,fun i rv y hi hy=>?_⟩
    cases i with
    |zero=>
     simp only[Cm,sI] at hi hy;subst hi;subst hy;simp[Ak,hx]
    |succ i=>exact h3 i rv y (by simpa using hi) (by simpa using hy)
   ·cases hl
  |cell b t=>
   simp only[cRes] at hc;split at hc
   ·rename_i n ars' hn hc';simp only[sI] at hc;subst hc;simp only[resultsA] at hl;split at hl
    ·rename_i cs l' hv hl';simp only[iw] at hl;obtain⟨u,hu,rfl⟩:=hl;obtain⟨v,hv1,hv2⟩:=j7.1 hv;obtain⟨xs,h1,h2,h3⟩:=ih ars' l' hc' hl';obtain⟨x,hx,hr⟩:=ht.get b v hv1;obtain⟨B,off,hca⟩:=su r hr hv2;obtain⟨z,hz,hrz⟩:=kB (P:=P) hn hca hu;refine⟨z::xs,by simp[h1],by simp only[RelL];exact⟨z,xs,rfl,hrz,h2⟩,fun i rv y hi hy=>?_⟩
     cases i with
     |zero=>
      simp only[Cm,sI] at hi hy;subst hi;subst hy;simp only[Ak,hx,Option.getD_some,hca.eq,asAddr]
      simpa using hz
     |succ i=>exact h3 i rv y (by simpa using hi) (by simpa using hy)
    ·cases hl
   ·cases hc
theorem fO {fn : Func} {ars : List ARes} {l : List AV} (ht : TmR S f s.tm a.tmps N) (r : WR E.globs base S f s.h w) (hc : cRes P fn.results.toList = some ars) (hl : resultsA E.globs s ars = some l) :
    ∃ v, (results fn a.tmps).run P w = .ok v w ∧ Rel S f (oneOrTup l) v := by
  obtain ⟨xs, h1, h2, h3⟩ := o7 ht r _ _ _ hc hl;have hm := ow (P := P) (fun rv => (match rv with
        | .tmp t => pure (a.tmps.getD t undef)
        | .cell b t => do loadVar t (← asAddr (a.tmps.getD b undef)) : Sem Value)) w fn.results.toList xs h1.symm h3
  have hm2 : (fn.results.mapM fun rv => (match rv with
        | .tmp t => pure (a.tmps.getD t undef)
        | .cell b t => do loadVar t (← asAddr (a.tmps.getD b undef)) : Sem Value)).run P w = .ok xs.toArray w := by
    rw [Array.mapM_eq_mapM_toList, map_eq_pure_bind];simp only [Sem.run_bind, hm, Result.andThen_ok];rfl
  refine ⟨if h : xs.toArray.size = 1 then xs.toArray[0] else .tuple xs.toArray, ?_, ?_⟩
  · unfold results
    simp only [Sem.run_bind];exact Eq.trans (congrArg (fun q => Result.andThen q (fun (vs : Array Value) w' => Sem.run P (pure (if h : vs.size = 1 then vs[0] else Value.tuple vs)) w')) hm2) rfl
  · have hlen := h2.length
    match l, xs, h2 with
    | [v], [x], h2 => simp only [RelL] at h2; obtain ⟨y, ys, e, hr, _⟩ := h2; simp at e; obtain ⟨rfl, _⟩ := e; simpa [oneOrTup] using hr
    | [], [], _ => simp [oneOrTup, Rel, RelL]
    | a :: b :: l, x :: y :: xs, h2 =>
      simp only [oneOrTup];rw [dif_neg (by simp)]
      simp only [Rel];exact ⟨_, rfl, h2⟩
theorem sn:∀(l:List AV) (i:Nat) (t:Tr AV) (j:Nat),(enterTm l i t).get j=if i≤j∧j<i+l.length then l[j-i]? else t.get j:=by
 intro l
 induction l with
 |nil=>intro i t j;rw[if_neg (by simp)];rfl
 |cons v l ih=>
  intro i t j;simp only[enterTm,ih,Tr.get_put,im]
  by_cases h1:i+1≤j∧j<i+1+l.length
  ·rw[if_pos h1,if_pos om];rw[show j-i=(j-(i+1))+1 by omega];simp
  ·rw[if_neg h1]
   by_cases h2:j=i
   ·subst h2;rw[if_pos rfl,if_pos om];simp
   ·rw[if_neg h2,if_neg om]
theorem l6{g:Nat}{af:AFun}(h:funOf P g=some af):∃fn c,P.funcs[g]? =some fn∧(fn.name== "runtime.NumGoroutine")=false∧fn.body=some c∧af.body=cCode P fn.ntmps c∧cRes P fn.results.toList=some af.res:=by
 unfold funOf at h;split at h
 ·rename_i fn hfn;cases hn:(fn.name== "runtime.NumGoroutine") with
  |true=>simp[hn] at h
  |false=>
   simp only[hn,cond_false] at h;unfold cFun at h;split at h
   ·rename_i c ars hb hr;simp only[sI] at h;subst h;exact⟨fn,c,hfn,hn,hb,rfl,hr⟩
   ·cases h
 ·cases h
theorem kN(hP:E.P=P)(hm:MethOk P E)(hi:IdleOk P E){n:Nat}(hc:∀m,m<n→CallOk P E (aZ E (exec E m)))(hd:∀m,m≤n→DrawOk P E m):
  CallOkF P E (enterA E (exec E n)):=by
 intro g l h r h' hrun;unfold enterA at hrun;rw[hP] at hrun;split at hrun
 ·cases hrun
 ·rename_i af haf;obtain⟨fn,c,h1,h2,h3,h4,h5⟩:=l6 haf;refine⟨⟨fn,h1,h2,by rw[h3];rfl⟩,fun base S f w vals wr hl=>?_⟩
  have key:∀(e:Ex) (s1:St),(e=.normal∨e=.ret)→exec E n af.body {tm:=enterTm l 0 .nil,h,defers:=[],round:=none}=some (e,s1)→leaveA E af s1=some (r,h')→
    CallsIn Fence.wide 0 P g vals.toArray w fun e w'=>∃x,e=.returned x∧Left E base S f h w r h' x w':=by
   intro e s1 he hex hlv;rw[h4] at hex;refine callsIn_of_wp_marks (F:=Fence.wide) h1 h3 trivial ?_
   have hlen:=hl.length;have hsz:(vals.toArray++C6 (fn.ntmps-vals.toArray.size) undef).size=max vals.length fn.ntmps:=by simp;omega
   refine eG (base:=base) (N:=max vals.length fn.ntmps) hP hm (Nat.le_max_right _ _) n hc hd c _ e s1 none S f _ w _ hex ⟨⟨hsz,fun i v hv=>?_⟩,wr,rfl,rfl⟩ fun a1 w1 S1 f1 g1 t1 _=>?_
   ·exact U17
   ·unfold leaveA at hlv;split at hlv
    ·rename_i h2' hrd;split at hlv
     ·rename_i lr hlr;simp only[sI,pI] at hlv;obtain⟨rfl,rfl⟩:=hlv;have hbody:LeavesInM Fence.wide 0 P fn a1.tmps (fun e w'=>∃x,e=.returned x∧Left E base S f h w (oneOrTup lr) h2' x w') a1.defers .returning w1:=by
       refine g9 hi s1.defers a1.defers s1.h w1 hrd t1.d t1.wr fun w2 g2=>?_
       obtain⟨v,hv,hrv⟩:=fO (fn:=fn) (s:={s1 with h:=h2'}) (a:=a1) t1.tm g2.wr h5 hlr;exact⟨v,hv,v,rfl,S1,f1,g1.trans g2,hrv⟩
      rcases he with rfl|rfl<;>exact hbody
     ·cases hlv
    ·cases hlv
  split at hrun
  ·rename_i s1 hex;exact key .normal s1 (.inl rfl) hex hrun
  ·rename_i s1 hex;exact key .ret s1 (.inr rfl) hex hrun
  ·cases hrun
def Fz(h h':AH):Prop:=h'.next=h.next∧∀b,h'.get b=h.get b∨∃cs rw,h.get b=some (.cells cs rw)∧h'.get b=some (.cells cs false)
theorem Fz.refl(h:AH):Fz h h:=⟨rfl,fun _=>.inl rfl⟩
theorem Fz.trans{h h' h'':AH}(a:Fz h h')(b:Fz h' h''):Fz h h'':=by
 refine⟨b.1.trans a.1,fun i=>?_⟩;rcases b.2 i with e|⟨cs,rw',e1,e2⟩
 ·rcases a.2 i with e'|⟨cs,rw',e1,e2⟩
  ·exact .inl (e.trans e')
  ·exact .inr ⟨cs,rw',e1,e.trans e2⟩
 ·rcases a.2 i with e'|⟨cs',rw'',e1',e2'⟩
  ·exact .inr ⟨cs,rw',e'▸e1,e2⟩
  ·rw[e2'] at e1;simp only[sI,Blk.cells.injEq] at e1;obtain⟨rfl,_⟩:=e1;exact .inr ⟨cs',rw'',e1',e2⟩
theorem Fz.foldl{α:Type}{g:AH→α→AH}(hg:∀h c,Fz h (g h c)):∀(l:List α) (h:AH),Fz h (l.foldl g h)
 | [],h=>.refl h
 |c::l,h=>(hg h c).trans (Fz.foldl hg l (g h c))
theorem cH:∀(n:Nat) (v:AV) (h:AH),Fz h (freeze n v h):=by
 intro n
 induction n with
 |zero=>intro v h;exact .refl h
 |succ n ih=>
  intro v h;cases v with
  |agg cs=>exact Fz.foldl (fun h c=>ih c h) cs h
  |tup cs=>exact Fz.foldl (fun h c=>ih c h) cs h
  |own b off k es cap=>
   simp only[freeze];split
   ·rename_i cs rw' hb;have z1:Fz h (h.put b (some (.cells cs false))):=by
     refine⟨rfl,fun i=>?_⟩;rw[AH.get_put];split
     ·rename_i e;subst e;exact .inr ⟨cs,rw',hb,rfl⟩
     ·exact .inl rfl
    exact z1.trans (Fz.foldl (fun h c=>ih c h) _ _)
   ·exact .refl h
  |ifc t v=>exact ih v h
  |fn F a b=>exact(Fz.foldl (fun h c=>ih c h) a h).trans (Fz.foldl (fun h c=>ih c h) b _)
  |_=>exact .refl h
theorem Fz.live{h h':AH}(z:Fz h h')(b:Nat):(h'.get b).isSome=(h.get b).isSome:=by
 rcases z.2 b with e|⟨cs,rw',e1,e2⟩
 ·rw[e]
 ·rw[e1,e2];rfl
theorem WR.fz{h':AH}(r:WR G base S f h w)(z:Fz h h'):WR G base S f h' w:=by
 refine⟨r.snap,r.glob,fun b k hb=>?_,fun b b' B O R B' O' R' hne g1 g2=>r.apart b b' B O R B' O' R' hne (by rw[←z.live];exact g1) (by rw[←z.live];exact g2),fun b x hx=>by rw[z.1];exact r.dom b x hx,r.le⟩
 rcases z.2 b with e|⟨cs,rw',e1,e2⟩
 ·exact r.blk b k (e▸hb)
 ·rw[e2] at hb;simp only[sI] at hb;subst hb;obtain⟨B,O,R,g1,g2,g3,g4⟩:=r.blk b _ e1;refine⟨B,O,R,g1,g2,g3,?_⟩;simp only[BlkR] at g4⊢
  exact⟨g4.1,g4.2.1,g4.2.2.1,(fun h=>by cases h),(fun h=>by cases h)⟩
theorem fG{α β:Type}{g:α→Option β}:∀{l:List α} {r:List β},l.mapM g=some r→r.length=l.length∧∀(i:Nat) (c:α),l[i]? =some c→∃t,r[i]? =some t∧g c=some t
 | [],r,h=>by simp at h;subst h;simp
 |c::l,r,h=>by
  rw[Ap] at h;simp only[Option.bind_eq_bind,j7,Option.pure_def,sI] at h;obtain⟨t,ht,r',hr',rfl⟩:=h;obtain⟨h1,h2⟩:=fG hr';refine⟨by simp[h1],fun i d hd=>?_⟩
  cases i with
  |zero=>simp at hd;subst hd;exact⟨t,rfl,ht⟩
  |succ i=>obtain⟨u,hu,hg⟩:=h2 i d (by simpa using hd);exact⟨u,by simpa using hu,hg⟩
theorem fR(r:WR G base S f h w){S2:Snap}(hS:∀b o v,S b o=some v→S2 b o=some v)
  (h2:∀b cs B O R,h.get b=some (.cells cs false)→f b=some (B,O,R)→∀i,i<R→∀v,w.cell? ⟨B,O+i,none⟩=some v→S2 B (O+i)=some v):
  ∀(n:Nat) (v t:AV) (x:Value),toTree h n v=some t→Rel S f v x→Rel S2 nof t x:=by
 intro n
 induction n with
 |zero=>intro v t x h;simp[toTree] at h
 |succ n ih=>
  intro v t x ht hr;have lists:∀(l l':List AV) (xs:List Value),l.mapM (toTree h n)=some l'→RelL S f l xs→RelL S2 nof l' xs:=by
   intro l l' xs hm hl;obtain⟨h1,h3⟩:=fG hm;refine RelL.of_get (by rw[h1];exact hl.length) fun i c hc=>?_
   have hlt:i<l.length:=by rw[←h1];exact(A3.1 hc).1
   obtain⟨u,hu,hg⟩:=h3 i l[i] (jk hlt);rw[hu] at hc;simp only[sI] at hc;subst hc;obtain⟨y,hy,hry⟩:=hl.get (jk hlt);exact⟨y,hy,ih _ _ _ hg hry⟩
  have le2:Le S nof S2 nof:=⟨hS,fun _ _ e=>by cases e⟩
  cases v with
  |val v=>simp only[toTree,sI] at ht;subst ht;simpa only[Rel] using hr
  |imm a b c=>
   simp only[toTree,sI] at ht;subst ht;simp only[Rel] at hr⊢
   obtain⟨b',off,c',rfl,q1,q2,q3⟩:=hr;exact⟨b',off,c',rfl,q1,q2,RelC.le le2 _ _ _ q3⟩
  |iptr cs=>
   simp only[toTree,sI] at ht;subst ht;simp only[Rel] at hr⊢
   obtain⟨b',off,rfl,q3⟩:=hr;exact⟨b',off,rfl,RelC.le le2 _ _ _ q3⟩
  |agg cs=>
   simp only[toTree,iw] at ht;obtain⟨l',hl',rfl⟩:=ht;simp only[Rel] at hr⊢
   obtain⟨xs,rfl,ho,q⟩:=hr;exact⟨xs,rfl,ho,lists _ _ _ hl' q⟩
  |tup cs=>
   simp only[toTree,iw] at ht;obtain⟨l',hl',rfl⟩:=ht;simp only[Rel] at hr⊢
   obtain⟨xs,rfl,q⟩:=hr;exact⟨xs,rfl,lists _ _ _ hl' q⟩
  |ifc t0 v=>
   simp only[toTree,iw] at ht;obtain⟨l',hl',rfl⟩:=ht;simp only[Rel] at hr⊢
   obtain⟨y,rfl,q⟩:=hr;exact⟨y,rfl,ih _ _ _ hl' q⟩
  |fn F a b=>
   simp only[toTree] at ht;split at ht
   ·rename_i a' b' ha hb;simp only[sI] at ht;subst ht;simp only[Rel] at hr⊢
    obtain⟨xs,ys,rfl,q1,q2⟩:=hr;exact⟨xs,ys,rfl,lists _ _ _ ha q1,lists _ _ _ hb q2⟩
   ·cases ht
  |own b off k es cap=>
   simp only[toTree] at ht;split at ht
   ·rename_i cs hb;have hq:=aN (x:=((List.mapM (toTree h n) ((cs.drop off).take (k*es))).map fun l=>AV.imm l k cap)) ht;obtain⟨hle,hq⟩:=hq;have hle:=is hle;simp only[iw] at hq;obtain⟨l',hl',rfl⟩:=hq;simp only[Rel] at hr⊢
    obtain⟨B,O,R,c,hf,hX,q1,q2,q3⟩:=hr;rcases hX with rfl|⟨rfl,rfl,q0,_,rfl⟩
    rotate_left
    ·have:l'=[]:=by
      obtain⟨m1,_⟩:=fG hl';exact List.eq_nil_of_length_eq_zero (by rw[m1];simp)
     subst this;exact⟨B,O+q0,0,rfl,q1,q2,by simp[RelC]⟩
    refine⟨B,O+off,c,rfl,q1,q2,?_⟩;obtain⟨B0,O0,R0,hf0,hB,hsz,hbl⟩:=r.blk b _ hb;rw[hf] at hf0;simp only[sI,pI] at hf0;obtain⟨rfl,rfl,rfl⟩:=hf0;simp only[BlkR] at hbl;obtain⟨b1,b2,_,_⟩:=hbl;obtain⟨m1,m2⟩:=fG hl';refine RelC.of_get fun i t hti=>?_
    have hlt:i<((cs.drop off).take (k*es)).length:=by rw[←m1];exact(A3.1 hti).1
    obtain⟨u,hu,hg⟩:=m2 i _ (jk hlt);rw[hu] at hti;simp only[sI] at hti;subst hti;have hlt2:i<k*es:=by simp at hlt;omega
    have hc:cs[off+i]? =some (((cs.drop off).take (k*es))[i]):=by
     have:=jk hlt;rw[List.getElem?_take,if_pos hlt2,List.getElem?_drop] at this;exact this
    obtain⟨y,hy,hoy,hry⟩:=b2 _ _ hc;refine⟨y,?_,hoy,ih _ _ _ hg hry⟩;rw[Nat.add_assoc];exact h2 b cs B O R hb hf (off+i) (by have:=(A3.1 hc).1;omega) y hy
   ·cases ht
  |_=>simp[toTree] at ht
theorem jZ(r:WR G base S f h w){S2:Snap}(hS:∀b o v,S b o=some v→S2 b o=some v)
  (h2:∀b cs B O R,h.get b=some (.cells cs false)→f b=some (B,O,R)→∀i,i<R→∀v,w.cell? ⟨B,O+i,none⟩=some v→S2 B (O+i)=some v):
  ∀(l l':List AV) (xs:List Value),mapTree h l=some l'→RelL S f l xs→RelL S2 nof l' xs
 | [],_,_,hm,hr=>by simp only[mapTree,sI] at hm;subst hm;simpa only[RelL] using hr
 |v::l,_,_,hm,hr=>by
  simp only[mapTree] at hm;split at hm
  ·rename_i t l' ht hl';simp only[sI] at hm;subst hm;simp only[RelL] at hr⊢
   obtain⟨y,ys,rfl,q1,q2⟩:=hr;exact⟨y,ys,rfl,fR r hS h2 _ _ _ _ ht q1,jZ r hS h2 _ _ _ hl' q2⟩
  ·cases hm
theorem fv{S S':Snap}{f f':Emb}:∀{cs:List AV} {xs:List Value},allVal cs=true→RelL S f cs xs→RelL S' f' cs xs
 | [],_,_,r=>by simpa only[RelL] using r
 |.val v::cs,_,h,r=>by
  simp only[RelL,Rel] at r⊢
  obtain⟨y,ys,rfl,q1,q2⟩:=r;exact⟨y,ys,rfl,q1,fv (by simpa [allVal] using h) q2⟩
 |.agg _::_,_,h,_|.tup _::_,_,h,_|.imm .. ::_,_,h,_|.own .. ::_,_,h,_|.ptr .. ::_,_,h,_|.iptr _::_,_,h,_|.ifc .. ::_,_,h,_|.fn .. ::_,_,h,_
 |.mp _::_,_,h,_|.it _::_,_,h,_|.yld _::_,_,h,_=>by simp[allVal] at h
theorem lx{S S':Snap}{f f':Emb}{v:AV}{x:Value}(h:isFlat v=true)(r:Rel S f v x):Rel S' f' v x:=by
 cases v with
 |val v=>simpa only[Rel] using r
 |agg cs=>
  simp only[isFlat] at h;simp only[Rel] at r⊢
  obtain⟨xs,rfl,ho,q⟩:=r;exact⟨xs,rfl,ho,fv h q⟩
 |tup cs=>
  simp only[isFlat] at h;simp only[Rel] at r⊢
  obtain⟨xs,rfl,q⟩:=r;refine⟨xs,rfl,?_⟩;rw[iy] at h;refine RelL.of_get q.length fun i c hc=>?_
  obtain⟨y,hy,hry⟩:=q.get hc;refine⟨y,hy,?_⟩;have hcm:=h c (Bq hc);cases c with
  |val v=>simpa only[Rel] using hry
  |agg cs=>
   simp only[Rel] at hry⊢
   obtain⟨xs,rfl,ho,q⟩:=hry;exact⟨xs,rfl,ho,fv hcm q⟩
  |_=>simp at hcm
 |_=>simp[isFlat] at h
end Go.AM
namespace Go.AM
open Go.RowKit
variable {G:Nat→Option (List AV)}{base:Nat}{S:Snap}{f:Emb}{h:AH}{w:World}{P:Program}{E:Env}{s s':St}{a:Act}{N n:Nat}
theorem BlkR.le2{S S':Snap}{f f':Emb}{k:Blk}{B O R:Nat}{w:World}(h:Le S f S' f')(r:BlkR S f k B O R w)
  (hs:∀cs,k=.cells cs true→∀i,i<R→S B (O+i)=none→S' B (O+i)=none):BlkR S' f' k B O R w:=by
 cases k with
 |cells cs rw=>
  cases rw with
  |true=>exact r.le h (hs cs rfl)
  |false=>
   simp only[BlkR] at r⊢
   obtain⟨h1,h2,h3,_⟩:=r;refine⟨h1,fun i c hc=>?_,h3,(fun hr=>by cases hr),(fun hr=>by cases hr)⟩
   obtain⟨y,hy,ho,hr⟩:=h2 i c hc;exact⟨y,hy,ho,hr.le h _ _⟩
 |map es=>
  simp only[BlkR] at r⊢
  obtain⟨h1,h2,arr,clock,h3,h4⟩:=r;exact⟨h1,h2,arr,clock,h3,RelM.le h _ _ h4.1,h4.2⟩
 |iter st pos=>exact r
 |miter m=>
  cases m with
  |none=>exact r
  |some m=>
   simp only[BlkR] at r⊢
   obtain⟨h1,h2,M,O',R',since,st,h3,h4⟩:=r;exact⟨h1,h2,M,O',R',since,st,h.f _ _ h3,h4⟩
 |mit1 m on=>
  simp only[BlkR] at r⊢
  obtain⟨h1,h2,M,O',R',h3,h4⟩:=r;exact⟨h1,h2,M,O',R',h.f _ _ h3,h4⟩
 |mitr m n seen=>
  simp only[BlkR] at r⊢
  obtain⟨h1,h2,M,O',R',h3,h4⟩:=r;exact⟨h1,h2,M,O',R',h.f _ _ h3,h4⟩
 |loop tm ps asg body M st=>
  simp only[BlkR] at r⊢
  obtain⟨h1,h2,q,h3,h4,h5,h6,h7,h8,h9⟩:=r;exact⟨h1,h2,q,h3,h4,h5,h6,h7,h8.le h,h9⟩
 |dfr on=>exact r
 |tag b t n=>
  simp only[BlkR] at r⊢
  obtain⟨h1,h2,R1,h3,h4⟩:=r;exact⟨h1,h2,R1,h.f _ _ h3,h4⟩
def PureLeft(S2:Snap)(w:World)(t:AV)(x:Value)(w':World):Prop:=
 ∃S3:Snap,Rel S3 nof t x∧Below w.heap.size w w'∧(∀b o v,S3 b o=some v→w'.cell? ⟨b,o,none⟩=some v)∧(∀b o,b<w.heap.size→S3 b o=S2 b o)
def KnownOk(P:Program)(E:Env):Prop:=
 ∀g l r,E.known g l=some r→(∃fn,P.funcs[g]? =some fn∧(fn.name== "runtime.NumGoroutine")=false∧fn.body.isNone=false)∧
  ∀(S2:Snap) (w:World) (vals:List Value),(∀b o v,S2 b o=some v→w.cell? ⟨b,o,none⟩=some v)→(∀q cs,E.globs q=some cs→RelC S2 cs q 0)→RelL S2 nof l vals→
   CallsIn Fence.wide 0 P g vals.toArray w fun e w'=>∃x,e=.returned x∧PureLeft S2 w r x w'
theorem km{S2:Snap}(h1:∀b o v,S2 b o=some v→w.cell? ⟨b,o,none⟩=some v)(h2:∀g cs,G g=some cs→RelC S2 cs g 0):WR G w.heap.size S2 nof .empty w:=
 ⟨h1,h2,fun b k hb=>(by cases hb),fun b b' B O R B' O' R' _ g1=>(by cases g1),fun b x hx=>(by cases hx),i7 _⟩
theorem fV(hen:CallOkF P E (enterA E (exec E n))){g:Nat}{l:List AV}{r t:AV}{hc:AH}(hrun:enterA E (exec E n) g l .empty=some (r,hc))(ht:toTree (freeze deepest r hc) deepest r=some t)
  {S2:Snap} {vals:List Value} (h1:∀b o v,S2 b o=some v→w.cell? ⟨b,o,none⟩=some v) (h2:∀q cs,E.globs q=some cs→RelC S2 cs q 0) (hl:RelL S2 nof l vals):
  CallsIn Fence.wide 0 P g vals.toArray w fun e w'=>∃x,e=.returned x∧PureLeft S2 w t x w':=by
 obtain⟨_,hcalls⟩:=hen g l .empty r hc hrun;refine CallsIn.mono (hcalls w.heap.size S2 nof w vals (km h1 h2) hl) fun e w' he=>?_
 obtain⟨x,rfl,S',f',hg,hr⟩:=he;refine⟨x,rfl,?_⟩;have hkeep:∀b o,b<w.heap.size→S' b o=S2 b o:=fun b o hb=>by
  have:=(hg.keep b o 1 hb (fun c _ _ _ hc=>(by cases hc))).2 0 om
  simpa using this
 have wr1:=hg.wr.fz (cH deepest r hc)
 classical
 let S3:Snap:=fun b o=>if b<w.heap.size then S2 b o else w'.cell? ⟨b,o,none⟩
 refine⟨S3,?_,hg.below,fun b o v hv=>?_,fun b o hb=>by simp only[S3,if_pos hb]⟩
 ·refine fR wr1 (fun b o v hv=>?_) (fun b cs B O R hb hf i hi v hv=>?_) _ _ _ _ ht hr
  ·exact U18
  ·exact U19
 ·exact U20
theorem s7(hk:KnownOk P E)(hen:CallOkF P E (enterA E (exec E n))):CallOkF P E (cD E (enterA E (exec E n))):=by
 intro g l h r h' hrun;unfold cD at hrun;split at hrun
 ·exact hen g l h r h' hrun
 ·simp only at hrun;split at hrun
  ·exact hen g l h r h' hrun
  ·rename_i l' hl';have hz:Fz h (l.foldl (fun h v=>freeze deepest v h) h):=Fz.foldl (fun h c=>cH deepest c h) l h;generalize l.foldl (fun h v=>freeze deepest v h) h=h1 at hz hl' hrun;have main:∀(t:AV),r=t→(h'=bif isFlat t then h else h1)→
     (∀(S2:Snap) (w:World) (vals:List Value),(∀b o v,S2 b o=some v→w.cell? ⟨b,o,none⟩=some v)→(∀q cs,E.globs q=some cs→RelC S2 cs q 0)→RelL S2 nof l' vals→
      CallsIn Fence.wide 0 P g vals.toArray w fun e w'=>∃x,e=.returned x∧PureLeft S2 w t x w')→
     ∀base S f w vals,WR E.globs base S f h w→RelL S f l vals→CallsIn Fence.wide 0 P g vals.toArray w fun e w'=>∃x,e=.returned x∧Left E base S f h w r h' x w':=by
    intro t hrt hh hp base S f w vals wr hl;subst hrt;have wr1:=wr.fz hz
    classical
    let Ro:Nat→Nat→Prop:=fun b o=>∃id cs B O R,h1.get id=some (.cells cs false)∧f id=some (B,O,R)∧b=B∧O≤o∧o<O+R
    let S2:Snap:=fun b o=>if(S b o).isSome=true then S b o else if Ro b o then w.cell? ⟨b,o,none⟩ else none
    have hS:∀b o v,S b o=some v→S2 b o=some v:=fun b o v hv=>by simp only[S2,hv,Option.isSome_some,if_true]
    have hw2:∀b o v,S2 b o=some v→w.cell? ⟨b,o,none⟩=some v:=fun b o v hv=>by
     simp only[S2] at hv;split at hv
     ·exact wr.snap _ _ _ hv
     ·split at hv
      ·exact hv
      ·cases hv
    have hro:∀b cs B O R,h1.get b=some (.cells cs false)→f b=some (B,O,R)→∀i,i<R→∀v,w.cell? ⟨B,O+i,none⟩=some v→S2 B (O+i)=some v:=by
     intro b cs B O R hb hf i hi v hv;simp only[S2];split
     ·rename_i hs;obtain⟨u,hu⟩:=Af.1 hs;have:=wr.snap _ _ _ hu;rw[hv] at this;rw[hu,this]
     ·rw[if_pos ⟨b,cs,B,O,R,hb,hf,rfl,om,om⟩];exact hv
    have hgl:∀q cs,E.globs q=some cs→RelC S2 cs q 0:=fun q cs hq=>RelC.le (S:=S) (f:=nof) (f':=nof) ⟨hS,fun _ _ e=>by cases e⟩ _ _ _ (wr.glob q cs hq)
    refine CallsIn.mono (hp S2 w vals hw2 hgl (jZ wr1 hS hro _ _ _ hl' hl)) fun e w' he=>?_
    obtain⟨x,rfl,S3,hr3,hb,hs3,hold⟩:=he;refine⟨x,rfl,?_⟩;cases hfl:isFlat r with
    |true=>
     simp only[hfl,cond_true] at hh;subst hh;exact⟨S,f,wr.later hb,lx hfl hr3⟩
    |false=>
     simp only[hfl,cond_false] at hh;subst hh;have hle:Le S f S3 f:=⟨fun b o v hv=>by rw[hold b o (wr.snap_lt hv)];exact hS _ _ _ hv,fun _ _ e=>e⟩
     have same:∀{B O R},B<w.heap.size→SameReg w w' B O R:=fun hB=>aQ (hb.block _ hB);refine⟨S3,f,⟨hle,⟨hs3,fun q cs hq=>(wr.glob q cs hq).le hle _ _ _,fun b k hbk=>?_,fun b b' B O R B' O' R' hne g1 g2=>wr1.apart b b' B O R B' O' R' hne g1 g2,wr1.dom,Aj wr.le hb.size⟩,hb.mono wr.le,fun B O R hB hap=>⟨same hB,fun i hi=>?_⟩,?_,fun _ _ h _=>h,by rw[hz.1];exact i7 _⟩,hr3.any⟩
     ·obtain⟨B,O,R,q1,q2,q3,q4⟩:=wr1.blk b k hbk;refine⟨B,O,R,q1,q2,A9 q3 hb.size,?_⟩;refine BlkR.same ?_ (same q3);refine q4.le2 hle fun cs hcs i hi hn=>?_
      subst hcs;rw[hold _ _ q3];simp only[S2,hn,Option.isSome_none,ju,if_false];rw[if_neg];rintro⟨id,cs',B',O',R',g1,g2,rfl,g3,g4⟩;have hne:id≠b:=fun e=>by subst e;rw[g1] at hbk;simp at hbk
      have:=wr1.apart id b B O' R' B O R hne (by simp[g1]) (by simp[hbk]) g2 q1
      omega
     ·rw[hold _ _ hB];simp only[S2];split
      ·rfl
      ·rename_i hn;have hn':S B (O+i)=none:=by simpa using hn
       rw[if_neg,hn'];rintro⟨id,cs',B',O',R',g1,g2,rfl,g3,g4⟩;have:=hap id B O' R' (by rw[←hz.live];simp[g1]) g2
       omega
     ·intro b B O R hl1 hf1;exact bB b B O R (by rw[←hz.live];exact hl1) hf1
   split at hrun
   ·rename_i r0 hkn;simp only[sI,pI] at hrun;obtain⟨rfl,rfl⟩:=hrun;obtain⟨k1,k2⟩:=hk g l' r0 hkn;exact⟨k1,main r0 rfl rfl k2⟩
   ·split at hrun
    ·rename_i r0 hc hent;split at hrun
     ·rename_i t ht;simp only[sI,pI] at hrun;obtain⟨rfl,rfl⟩:=hrun;exact⟨(hen g l' .empty r0 hc hent).1,main t rfl rfl fun S2 w vals q1 q2 q3=>fV hen hent ht q1 q2 q3⟩
     ·cases hrun
    ·cases hrun
theorem lX:∀{ps:List Nat} {l:List AV} {tm tm':Tr AV} {vals:List Value} {t:Array Value},putAll ps l tm=some tm'→RelL S f l vals→TmG S f tm t→(∀p∈ps,p<t.size)→
  ps.length=vals.length∧TmG S f tm' ((ps.zip vals).foldl (fun t (q:Nat×Value)=>t.setIfInBounds q.1 q.2) t)∧((ps.zip vals).foldl (fun t (q:Nat×Value)=>t.setIfInBounds q.1 q.2) t).size=t.size
 | [],[],_,_,_,_,hp,hl,ht,_=>by
  simp only[putAll,sI] at hp;subst hp;simp only[RelL] at hl;subst hl;exact⟨rfl,ht,rfl⟩
 |p::ps,v::l,tm,tm',_,t,hp,hl,ht,hin=>by
  simp only[putAll] at hp;simp only[RelL] at hl;obtain⟨y,ys,rfl,hy,hl⟩:=hl;have ht2:TmG S f (tm.put p (some v)) (t.setIfInBounds p y):=by
   intro i u hu;rw[Tr.get_put] at hu;rw[C3];split at hu
   ·rename_i e;subst e;simp only[sI] at hu;subst hu;exact⟨y,by simp[hin i (by simp)],hy⟩
   ·rename_i e;rw[if_neg (fun h=>e h.symm)];exact ht i u hu
  obtain⟨q1,q2,q3⟩:=lX hp hl ht2 (fun q hq=>by simpa using hin q (by simp[hq]))
  exact⟨by simp[q1],q2,by simpa using q3⟩
 | [],_::_,_,_,_,_,hp,_,_,_=>by simp[putAll] at hp
 |_::_,[],_,_,_,_,hp,_,_,_=>by simp[putAll] at hp
end Go.AM
namespace Go.AM
open Go.RowKit
variable {G:Nat→Option (List AV)}{base:Nat}{S:Snap}{f:Emb}{h:AH}{w:World}{P:Program}{E:Env}{s s':St}{a:Act}{N n:Nat}
theorem wS(ps:Array Tmp)(vals:List Value)(t:Array Value):(ps.zip vals.toArray).foldl (fun t (q:Nat×Value)=>t.setIfInBounds q.1 q.2) t=(ps.toList.zip vals).foldl (fun t (q:Nat×Value)=>t.setIfInBounds q.1 q.2) t:=by
 rw[←Array.foldl_toList,Array.toList_zip]
theorem qe(hP:E.P=P)(hm:MethOk P E)(hc:∀m,m<n→CallOk P E (aZ E (exec E m)))(hd:∀m,m≤n→DrawOk P E m):CallOkY P E (roundA E (exec E n)):=by
 intro b l h r h' hrun base S f w vals B O R wr hl hf;unfold roundA at hrun;split at hrun
 case h_2=>cases hrun
 rename_i tm ps asg body M hb;split at hrun
 case h_2=>cases hrun
 rename_i tm1 htm1;have hq:=aN hrun;clear hrun;obtain⟨hps,hrun⟩:=hq;rw[hP] at hrun;split at hrun
 case h_2=>cases hrun
 rename_i s1 hx1;split at hrun
 case h_2=>cases hrun
 rename_i tm2 ps2 asg2 body2 M2 hb2;split at hrun
 case h_2=>cases hrun
 rename_i e s2 hx2;split at hrun
 case h_2=>cases hrun
 rename_i tm3 ps3 asg3 body3 M3 st3 hdn hb3;simp only[sI,pI] at hrun;obtain⟨rfl,rfl⟩:=hrun;obtain⟨hO,hR,q,hq,p1,p2,p3,p4,p5,p6⟩:=cG wr hb hf;subst hO;subst hR;subst p1;subst p2;subst p3;have hin:∀p∈q.params.toList,p<q.tmps.size:=fun p hp=>by
  have:=iy.1 hps p hp;have hpm:p+1≤M:=by simpa [iq] using this
  exact A9 hpm p4
 obtain⟨z1,z2,z3⟩:=lX htm1 hl p5 hin;have hy:=run_yield (P:=P) (args:=vals.toArray) hq (by simpa using z1.symm)
 unfold OpOut;rw[hy];refine roundIn_of_wpIn (F:=Fence.wide) trivial ?_
 rw[wS];refine eG (base:=base) (N:=q.tmps.size) hP hm p4 n hc hd q.assign _ .normal s1 (some B) S f _ w _ hx1 ⟨⟨z3,z2⟩,wr,rfl,⟨B,0,1,hf,rfl⟩⟩ fun a1 w1 S1 f1 g1 t1 hr1=>?_
 have hf1:=g1.le.f _ _ hf;obtain⟨_,_,q1,hq1,u1,u2,u3,u4,u5,u6⟩:=cG g1.wr hb2 hf1;simp only[LStR] at u6;have gb:=eb (q':={q1 with state:=.busy}) (st':=.busy) g1.wr hb2 hf1 hq1 rfl rfl rfl rfl rfl;refine⟨_,run_beginRound hq1 u6.1,?_⟩;refine eG (base:=base) (N:=q.tmps.size) hP hm p4 n hc hd q.body _ e s2 (some B) S1 f1 a1 _ _ hx2 ⟨t1.tm,gb.wr,t1.d,t1.r⟩ fun a2 w2 S2 f2 g2 t2 hr2=>?_
 have hf2:=g2.le.f _ _ hf1;obtain⟨_,_,q2,hq2,v1,v2,v3,v4,v5,v6⟩:=cG g2.wr hb3 hf2;have gall:=(g1.trans gb).trans g2;cases e with
 |normal=>
  have gs:=eb (q':={q2 with state:=.ready,pending:=none}) (st':=.ready) g2.wr hb3 hf2 hq2 rfl rfl rfl rfl ⟨rfl,rfl⟩;exact⟨_,_,run_endRound none hq2,_,rfl,S2,f2,gall.trans gs,by simp only[Rel];exact⟨rfl,rfl⟩⟩
 |ret=>
  have gs:=eb (q':={q2 with state:=.done,pending:=some .ret}) (st':=.done .ret) g2.wr hb3 hf2 hq2 rfl rfl rfl rfl ⟨rfl,rfl,rfl⟩;exact⟨_,_,run_endRound (some .ret) hq2,_,rfl,S2,f2,gall.trans gs,by simp only[Rel];exact⟨rfl,rfl⟩⟩
 |exit id=>
  have gs:=eb (q':={q2 with state:=.done,pending:=some (.exit id)}) (st':=.done (.exit id)) g2.wr hb3 hf2 hq2 rfl rfl rfl rfl ⟨rfl,rfl,rfl⟩;exact⟨_,_,run_endRound (some (.exit id)) hq2,_,rfl,S2,f2,gall.trans gs,by simp only[Rel];exact⟨rfl,rfl⟩⟩
structure EnvOk (P:Program) (E:Env):Prop where
 prog:E.P=P
 meth:MethOk P E
 idle:IdleOk P E
 known:KnownOk P E
 mixed:P.follows .mixedOrders=true
theorem sx(ok:EnvOk P E)(hdraw:∀n,(∀m,m<n→CallOk P E (aZ E (exec E m)))→DrawOk P E n):∀n,CallOk P E (aZ E (exec E n)):=by
 intro n
 induction n using Bk with
 |_ n ih=>
 have hd:∀m,m≤n→DrawOk P E m:=fun m hm=>hdraw m fun j hj=>ih j om;exact⟨s7 ok.known (kN ok.prog ok.meth ok.idle ih hd),qe ok.prog ok.meth ih hd⟩
end Go.AM
namespace Go.AM
open Go.RowKit
variable {G:Nat→Option (List AV)}{base:Nat}{S:Snap}{f:Emb}{h:AH}{w:World}{P:Program}{E:Env}{s s':St}{a:Act}{N n:Nat}
theorem mX:∀{a b:List UInt8},eqBytes a b=true→a=b
 | [],[],_=>rfl
 |a::x,b::y,h=>by
  simp only[eqBytes,i9] at h;have h1:=ij h.1;rw[mX h.2,UInt8.toNat_inj.1 h1]
 | [],_::_,h=>by simp[eqBytes] at h
 |_::_,[],h=>by simp[eqBytes] at h
theorem Ng:∀{a b:Value},eqV a b=true→a=b:=by
 intro a b h;unfold eqV at h;split at h
 ·simp only[i9,beq_iff_eq] at h;rw[h.1,h.2]
 ·simp only[beq_iff_eq] at h;rw[h]
 ·have:=mX h;rename_i x y;obtain⟨⟨x⟩⟩:=x;obtain⟨⟨y⟩⟩:=y;simp at this;rw[this]
 ·rfl
 ·simp only[i9] at h;rw[ij h.1,ij h.2]
 ·rfl
 ·rfl
 ·rfl
 ·cases h
theorem Dq:∀{a b:Option Nat},eqN a b=true→a=b
 |none,none,_=>rfl
 |some a,some b,h=>by simp only[eqN] at h;rw[ij h]
 |none,some _,h=>by simp[eqN] at h
 |some _,none,h=>by simp[eqN] at h
mutual
theorem uq:∀(a b:AV),eqA a b=true→a=b
 |.val a,.val b,h=>by simp only[eqA] at h;rw[Ng h]
 |.agg a,.agg b,h=>by simp only[eqA] at h;rw[eI a b h]
 |.imm a n c,.imm b m d,h=>by simp only[eqA,i9] at h;rw[ij h.1.1,Dq h.1.2,eI a b h.2]
 |.own b o n e c,.own b' o' n' e' c',h=>by
  simp only[eqA,i9] at h;rw[ij h.1.1.1.1,ij h.1.1.1.2,ij h.1.1.2,ij h.1.2,Dq h.2]
 |.ptr b o,.ptr b' o',h=>by simp only[eqA,i9] at h;rw[ij h.1,ij h.2]
 |.mp b,.mp b',h=>by simp only[eqA] at h;rw[ij h]
 |.ifc t v,.ifc t2 v2,h=>by simp only[eqA,i9] at h;rw[ij h.1,uq v v2 h.2]
 |.fn (.func g) a b,.fn (.func g2) a2 b2,h=>by simp only[eqA,i9] at h;rw[ij h.1.1,eI a a2 h.1.2,eI b b2 h.2]
 |.val _,.agg _,h|.val _,.imm ..,h|.val _,.own ..,h|.val _,.ptr ..,h|.val _,.mp _,h|.val _,.ifc ..,h|.val _,.fn ..,h|.val _,.tup _,h|.val _,.iptr _,h|.val _,.it _,h|.val _,.yld _,h=>by simp[eqA] at h
 |.agg _,.val _,h|.agg _,.imm ..,h|.agg _,.own ..,h|.agg _,.ptr ..,h|.agg _,.mp _,h|.agg _,.ifc ..,h|.agg _,.fn ..,h|.agg _,.tup _,h|.agg _,.iptr _,h|.agg _,.it _,h|.agg _,.yld _,h=>by simp[eqA] at h
 |.imm ..,.val _,h|.imm ..,.agg _,h|.imm ..,.own ..,h|.imm ..,.ptr ..,h|.imm ..,.mp _,h|.imm ..,.ifc ..,h|.imm ..,.fn ..,h|.imm ..,.tup _,h|.imm ..,.iptr _,h|.imm ..,.it _,h|.imm ..,.yld _,h=>by simp[eqA] at h
 |.own ..,.val _,h|.own ..,.agg _,h|.own ..,.imm ..,h|.own ..,.ptr ..,h|.own ..,.mp _,h|.own ..,.ifc ..,h|.own ..,.fn ..,h|.own ..,.tup _,h|.own ..,.iptr _,h|.own ..,.it _,h|.own ..,.yld _,h=>by simp[eqA] at h
 |.ptr ..,.val _,h|.ptr ..,.agg _,h|.ptr ..,.imm ..,h|.ptr ..,.own ..,h|.ptr ..,.mp _,h|.ptr ..,.ifc ..,h|.ptr ..,.fn ..,h|.ptr ..,.tup _,h|.ptr ..,.iptr _,h|.ptr ..,.it _,h|.ptr ..,.yld _,h=>by simp[eqA] at h
 |.mp _,.val _,h|.mp _,.agg _,h|.mp _,.imm ..,h|.mp _,.own ..,h|.mp _,.ptr ..,h|.mp _,.ifc ..,h|.mp _,.fn ..,h|.mp _,.tup _,h|.mp _,.iptr _,h|.mp _,.it _,h|.mp _,.yld _,h=>by simp[eqA] at h
 |.ifc ..,.val _,h|.ifc ..,.agg _,h|.ifc ..,.imm ..,h|.ifc ..,.own ..,h|.ifc ..,.ptr ..,h|.ifc ..,.mp _,h|.ifc ..,.fn ..,h|.ifc ..,.tup _,h|.ifc ..,.iptr _,h|.ifc ..,.it _,h|.ifc ..,.yld _,h=>by simp[eqA] at h
 |.fn (.func _) ..,.val _,h|.fn (.func _) ..,.agg _,h|.fn (.func _) ..,.imm ..,h|.fn (.func _) ..,.own ..,h|.fn (.func _) ..,.ptr ..,h|.fn (.func _) ..,.mp _,h|.fn (.func _) ..,.ifc ..,h|.fn (.func _) ..,.tup _,h|.fn (.func _) ..,.iptr _,h|.fn (.func _) ..,.it _,h|.fn (.func _) ..,.yld _,h=>by simp[eqA] at h
 |.fn (.func _) _ _,.fn (.method _) _ _,h|.fn (.func _) _ _,.fn (.methodOf ..) _ _,h|.fn (.func _) _ _,.fn (.via ..) _ _,h|.fn (.func _) _ _,.fn (.yield _) _ _,h=>by simp[eqA] at h
 |.fn (.method _) _ _,_,h|.fn (.methodOf ..) _ _,_,h|.fn (.via ..) _ _,_,h|.fn (.yield _) _ _,_,h=>by simp[eqA] at h
 |.tup _,_,h|.iptr _,_,h|.it _,_,h|.yld _,_,h=>by simp[eqA] at h
theorem eI:∀(a b:List AV),eqL a b=true→a=b
 | [],[],_=>rfl
 |a::x,b::y,h=>by simp only[eqL,i9] at h;rw[uq a b h.1,eI x y h.2]
 | [],_::_,h=>by simp[eqL] at h
 |_::_,[],h=>by simp[eqL] at h
end
theorem Ni{a b:Option Blk}(h:eqB a b=true):a=b:=by
 unfold eqB at h;split at h
 ·simp only[i9,beq_iff_eq] at h;rw[h.1,eI _ _ h.2]
 ·cases h
theorem dN{l:List Nat}{k:Nat}:memN l k=true↔k∈l:=by
 unfold memN;rw[Bj];exact⟨fun⟨x,hx,e⟩=>by have:=ij e;subst this;exact hx,fun h=>⟨k,h,je k⟩⟩
theorem aw(tm:Tr AV):∀(l:List Nat) (t:Nat),(pickTm tm l).get t=if t∈l then tm.get t else none
 | [],t=>by simp[pickTm,Tr.get]
 |x::l,t=>by
  simp only[pickTm,Tr.get_put,aw tm l t,i8]
  by_cases h:t=x
  ·subst h;simp
  ·simp[h]
theorem bl(h:AH):∀(l:List Nat) (b:Nat),(restrictH h l).get b=if b∈l then h.get b else none
 | [],b=>by simp[restrictH,restrictT,AH.get,Tr.get]
 |x::l,b=>by
  have ih:=bl h l b;simp only[restrictH,AH.get,restrictT,Tr.get_put,i8] at ih⊢
  rw[ih]
  by_cases hb:b=x
  ·subst hb;simp
  ·simp[hb]
theorem ej(h':AH):∀(l:List Nat) (t:Tr Blk) (b:Nat),(copyOld h' l t).get b=if b∈l then h'.get b else t.get b
 | [],t,b=>by simp[copyOld]
 |x::l,t,b=>by
  simp only[copyOld,Tr.get_put,ej h' l t b,i8]
  by_cases hb:b=x
  ·subst hb;simp
  ·simp[hb]
theorem dY(h':AH)(lo:Nat):∀(n:Nat) (t:Tr Blk) (b:Nat),(copyNew h' lo n t).get b=if lo≤b∧b<lo+n then h'.get b else t.get b
 |0,t,b=>by rw[if_neg om];rfl
 |n+1,t,b=>by
  simp only[copyNew,Tr.get_put,dY h' lo n t b]
  by_cases hb:b=lo+n
  ·subst hb;rw[if_pos rfl,if_pos om]
  ·rw[if_neg hb]
   by_cases h2:lo≤b∧b<lo+n
   ·rw[if_pos h2,if_pos om]
   ·rw[if_neg h2,if_neg om]
theorem ll(h:AH)(l:List Nat)(h':AH)(b:Nat):(mergeH h l h').get b=if b∈l∨(h.next≤b∧b<h'.next) then h'.get b else h.get b:=by
 simp only[mergeH,AH.get];rw[dY,ej];simp only[AH.get]
 by_cases h1:h.next≤b∧b<h'.next
 ·rw[if_pos om,if_pos (.inr h1)]
 ·rw[if_neg om]
  by_cases h2:b∈l
  ·rw[if_pos h2,if_pos (.inl h2)]
  ·rw[if_neg h2,if_neg (fun h=>h.elim h2 h1)]
theorem fx{α:Type}:∀{t:Tr α} {k:Nat} {v:α},t.get k=some v→v∈t.vals
 |.nil,_,_,h=>by simp[Tr.get] at h
 |.nd l o r,k,v,h=>by
  simp only[Tr.get] at h;simp only[Tr.vals,jc];cases h0:i5 k 0 with
  |true=>simp only[h0,cond_true] at h;subst h;left;simp
  |false=>
   simp only[h0,cond_false] at h;cases h1:i5 (k%2) 1 with
   |true=>simp only[h1,cond_true] at h;exact .inr (.inl (fx h))
   |false=>simp only[h1,cond_false] at h;exact .inr (.inr (fx h))
theorem gW:∀{l:List AV} {v:AV} {b:Nat},v∈l→b∈ids v→b∈idsL l
 |c::l,v,b,hm,hb=>by
  simp only[idsL,jc];rcases i8.1 hm with rfl|hm
  ·exact .inl hb
  ·exact .inr (gW hm hb)
mutual
theorem Rel.restr{S:Snap}{f g:Emb}:∀(v:AV) (x:Value),(∀b∈ids v,g b=f b)→Rel S f v x→Rel S g v x
 |.val _,_,_,r=>by simpa only[Rel] using r
 |.agg cs,_,h,r=>by simp only[Rel] at r⊢;obtain⟨xs,rfl,ho,r⟩:=r;exact⟨xs,rfl,ho,RelL.restr cs xs (by simpa only[ids] using h) r⟩
 |.tup cs,_,h,r=>by simp only[Rel] at r⊢;obtain⟨xs,rfl,r⟩:=r;exact⟨xs,rfl,RelL.restr cs xs (by simpa only[ids] using h) r⟩
 |.imm ..,_,_,r=>by simpa only[Rel] using r
 |.own b ..,_,h,r=>by simp only[Rel] at r⊢;obtain⟨B,O,R,c,h1,r⟩:=r;exact⟨B,O,R,c,by rw[h b (by simp[ids])];exact h1,r⟩
 |.ptr b _,_,h,r=>by simp only[Rel] at r⊢;obtain⟨B,O,R,h1,r⟩:=r;exact⟨B,O,R,by rw[h b (by simp[ids])];exact h1,r⟩
 |.iptr _,_,_,r=>by simpa only[Rel] using r
 |.ifc _ v,_,h,r=>by simp only[Rel] at r⊢;obtain⟨y,rfl,r⟩:=r;exact⟨y,rfl,Rel.restr v y (by simpa only[ids] using h) r⟩
 |.fn _ a b,_,h,r=>by
  simp only[Rel] at r⊢;obtain⟨xs,ys,rfl,r,r'⟩:=r
  exact⟨xs,ys,rfl,RelL.restr a xs (fun c hc=>h c (by simp only[ids,jc];exact .inl hc)) r,RelL.restr b ys (fun c hc=>h c (by simp only[ids,jc];exact .inr hc)) r'⟩
 |.mp b,_,h,r=>by simp only[Rel] at r⊢;obtain⟨B,O,R,h1,r⟩:=r;exact⟨B,O,R,by rw[h b (by simp[ids])];exact h1,r⟩
 |.it b,_,h,r=>by simp only[Rel] at r⊢;obtain⟨B,O,R,h1,r⟩:=r;exact⟨B,O,R,by rw[h b (by simp[ids])];exact h1,r⟩
 |.yld b,_,h,r=>by simp only[Rel] at r⊢;obtain⟨B,O,R,h1,r⟩:=r;exact⟨B,O,R,by rw[h b (by simp[ids])];exact h1,r⟩
theorem RelL.restr{S:Snap}{f g:Emb}:∀(cs:List AV) (xs:List Value),(∀b∈idsL cs,g b=f b)→RelL S f cs xs→RelL S g cs xs
 | [],_,_,r=>by simpa only[RelL] using r
 |c::cs,_,h,r=>by
  simp only[RelL] at r⊢;obtain⟨y,ys,rfl,r,r'⟩:=r
  exact⟨y,ys,rfl,Rel.restr c y (fun b hb=>h b (by simp only[idsL,jc];exact .inl hb)) r,RelL.restr cs ys (fun b hb=>h b (by simp only[idsL,jc];exact .inr hb)) r'⟩
end
theorem RelM.restr{g:Emb}:∀(es:List (Value×AV)) (l:List MapEntry),(∀b∈idsL (es.map (·.2)),g b=f b)→RelM S f es l→RelM S g es l
 | [],_,_,r=>r
 |(k,v)::es,_,h,r=>by
  simp only[RelM] at r⊢;obtain⟨e,l',rfl,hk,hv,r⟩:=r
  exact⟨e,l',rfl,hk,hv.restr _ _ (fun b hb=>h b (by simp only[jd,idsL,jc];exact .inl hb)),RelM.restr es l' (fun b hb=>h b (by simp only[jd,idsL,jc];exact .inr hb)) r⟩
theorem BlkR.restr{g:Emb}{k:Blk}{B O R:Nat}(h:∀b∈idsB k,g b=f b)(r:BlkR S f k B O R w):BlkR S g k B O R w:=by
 cases k with
 |cells cs rw=>
  simp only[BlkR] at r⊢
  obtain⟨h1,h2,h3,h4⟩:=r;refine⟨h1,fun i c hc=>?_,h3,h4⟩;obtain⟨y,hy,ho,hr⟩:=h2 i c hc;exact⟨y,hy,ho,hr.restr _ _ fun b hb=>h b (gW (Bq hc) hb)⟩
 |map es=>
  simp only[BlkR] at r⊢
  obtain⟨h1,h2,arr,clock,h3,h4⟩:=r;exact⟨h1,h2,arr,clock,h3,RelM.restr _ _ h h4.1,h4.2⟩
 |iter st pos=>exact r
 |miter m=>
  cases m with
  |none=>exact r
  |some m=>
   simp only[BlkR] at r⊢
   obtain⟨h1,h2,M,O',R',since,st,h3,h4⟩:=r;exact⟨h1,h2,M,O',R',since,st,by rw[h m (by simp[idsB])];exact h3,h4⟩
 |mit1 m on=>
  simp only[BlkR] at r⊢
  obtain⟨h1,h2,M,O',R',h3,h4⟩:=r;exact⟨h1,h2,M,O',R',by rw[h m (by simp[idsB])];exact h3,h4⟩
 |mitr m n seen=>
  simp only[BlkR] at r⊢
  obtain⟨h1,h2,M,O',R',h3,h4⟩:=r;exact⟨h1,h2,M,O',R',by rw[h m (by simp[idsB])];exact h3,h4⟩
 |loop tm ps asg body M st=>
  simp only[BlkR] at r⊢
  obtain⟨h1,h2,q,h3,h4,h5,h6,h7,h8,h9⟩:=r;refine⟨h1,h2,q,h3,h4,h5,h6,h7,fun i v hv=>?_,h9⟩;obtain⟨x,hx,hr⟩:=h8 i v hv;exact⟨x,hx,hr.restr _ _ fun b hb=>h b (gW (fx hv) hb)⟩
 |dfr on=>exact r
 |tag b t n=>
  simp only[BlkR] at r⊢
  obtain⟨h1,h2,R1,h3,h4⟩:=r;exact⟨h1,h2,R1,by rw[h b (by simp[idsB])];exact h3,h4⟩
end Go.AM
namespace Go.AM
open Go.RowKit
variable {G:Nat→Option (List AV)}{base:Nat}{S:Snap}{f:Emb}{h:AH}{w:World}{P:Program}{E:Env}{s s':St}{a:Act}{N n:Nat}
structure Goes0 (G:Nat→Option (List AV)) (base:Nat) (S:Snap) (f:Emb) (h:AH) (w:World) (S':Snap) (f':Emb) (h':AH) (w':World):Prop where
 le:Le S f S' f'
 wr:WR G base S' f' h' w'
 below:Below base w w'
 keep:∀B O R,B<w.heap.size→Apart f h B O R→SameReg w w' B O R∧∀i,i<R→S' B (O+i)=S B (O+i)
 live:∀b B O R,(h'.get b).isSome=true→f' b=some (B,O,R)→
  w.heap.size≤B∨∃b0 O0 R0,(h.get b0).isSome=true∧f b0=some (B,O0,R0)∧O0≤O∧O+R≤O0+R0
theorem Goes0.trans{S' S'':Snap}{f' f'':Emb}{h' h'':AH}{w' w'':World}(a:Goes0 G base S f h w S' f' h' w')(b:Goes0 G base S' f' h' w' S'' f'' h'' w''):
  Goes0 G base S f h w S'' f'' h'' w'':=by
 refine⟨a.le.trans b.le,b.wr,a.below.trans b.below,fun B O R hB hap=>?_,fun c B O R hc hf=>?_⟩
 ·obtain⟨h1,h2⟩:=a.keep B O R hB hap;have hap':Apart f' h' B O R:=fun c B' O' R' hc hf=>by
   rcases a.live c B' O' R' hc hf with h|⟨b0,O0,R0,g1,g2,g3,g4⟩
   ·left;omega
   ·have:=hap b0 B' O0 R0 g1 g2;omega
  obtain⟨h3,h4⟩:=b.keep B O R (A9 hB a.below.size) hap';exact⟨h1.trans h3,fun i hi=>(h4 i hi).trans (h2 i hi)⟩
 ·rcases b.live c B O R hc hf with h|⟨b0,O0,R0,g1,g2,g3,g4⟩
  ·exact .inl (Aj a.below.size h)
  ·rcases a.live b0 B O0 R0 g1 g2 with h|⟨b1,O1,R1,k1,k2,k3,k4⟩
   ·exact .inl h
   ·exact .inr ⟨b1,O1,R1,k1,k2,om,om⟩
def cutE(f:Emb)(n:Nat):Emb:=fun b=>if b<n then f b else none
theorem WR.part{hin:AH}(wr:WR G base S f h w){F:List Nat}(hin1:∀b,hin.get b=if b∈F then h.get b else none)(hF:∀b∈F,b<hin.next)(hk:∀b∈F,∀k,h.get b=some k→∀c∈idsB k,c<hin.next):
  WR G base S (cutE f hin.next) hin w:=by
 have cut:∀b,b<hin.next→cutE f hin.next b=f b:=fun b hb=>by simp[cutE,hb]
 have old:∀b,(hin.get b).isSome=true→b∈F∧(h.get b).isSome=true:=fun b hb=>by
  rw[hin1] at hb;split at hb
  ·rename_i hm;exact⟨hm,hb⟩
  ·cases hb
 have fold:∀b x,cutE f hin.next b=some x→f b=some x:=fun b x hx=>by
  simp only[cutE] at hx;split at hx
  ·exact hx
  ·cases hx
 refine⟨wr.snap,wr.glob,fun b k hb=>?_,fun b b' B O R B' O' R' hne g1 g2 h1 h2=>wr.apart b b' B O R B' O' R' hne (old b g1).2 (old b' g2).2 (fold _ _ h1) (fold _ _ h2),fun b x hx=>?_,wr.le⟩
 ·obtain⟨hm,_⟩:=old b (by rw[hb];rfl)
  rw[hin1,if_pos hm] at hb;obtain⟨B,O,R,h1,h2,h3,h4⟩:=wr.blk b k hb;exact⟨B,O,R,by rw[cut b (hF b hm)];exact h1,h2,h3,h4.restr fun c hc=>cut c (hk b hm k hb c hc)⟩
 ·simp only[cutE] at hx;split at hx
  ·assumption
  ·cases hx
theorem frame{hin hout h':AH}{S':Snap}{f':Emb}{w':World}(wr:WR G base S f h w){F:List Nat}{D:Nat→Prop}(hin1:∀b,hin.get b=if b∈F then h.get b else none)(hF:∀b∈F,b<hin.next)
  (hle:hout.next≤h.next) (hn:h'.next=h.next) (hnew:∀b,hin.next≤b→b<hout.next→f b=none)
  (g:Goes G base S (cutE f hin.next) hin w S' f' hout w')
  (hD:∀b∈F,¬D b→hout.get b=hin.get b) (hDlt:∀b,D b→b<hin.next)
  (h1:∀b,(D b∨(hin.next≤b∧b<hout.next))→h'.get b=hout.get b) (h2:∀b,¬(D b∨(hin.next≤b∧b<hout.next))→h'.get b=h.get b):
  ∃f'':Emb,Le S' f' S' f''∧Goes0 G base S f h w S' f'' h' w'∧(∀b,¬(hin.next≤b∧b<hout.next)→f'' b=f b):=by
 classical
 let f'':Emb:=fun b=>if hin.next≤b∧b<hout.next then f' b else f b
 have e1:∀b,(hin.next≤b∧b<hout.next)→f'' b=f' b:=fun b hb=>if_pos hb;have e2:∀b,¬(hin.next≤b∧b<hout.next)→f'' b=f b:=fun b hb=>if_neg hb;have old:∀b,(hin.get b).isSome=true→b∈F∧(h.get b).isSome=true:=fun b hb=>by
  rw[hin1] at hb;split at hb
  ·rename_i hm;exact⟨hm,hb⟩
  ·cases hb
 have fold:∀b x,cutE f hin.next b=some x→f b=some x:=fun b x hx=>by
  simp only[cutE] at hx;split at hx
  ·exact hx
  ·cases hx
 have le':∀b x,f' b=some x→f'' b=some x:=fun b x hx=>by
  have hlt:=g.wr.dom b x hx
  by_cases hb:b<hin.next
  ·rw[e2 b om];exact fold b x (g.fresh b x hx hb)
  ·rw[e1 b om];exact hx
 have lef:Le S' f' S' f'':=⟨fun _ _ _ h=>h,le'⟩;have inside:∀b x,b<hout.next→(b<hin.next→b∈F∨D b)→f'' b=some x→f' b=some x:=fun b x hlt hm hx=>by
  by_cases hb:b<hin.next
  ·rw[e2 b om] at hx;have:cutE f hin.next b=some x:=by simp only[cutE,if_pos hb];exact hx
   exact g.le.f b x this
  ·rw[e1 b om] at hx;exact hx
 have apin:∀B O R,Apart f h B O R→Apart (cutE f hin.next) hin B O R:=fun B O R hap c B' O' R' hc hf=>hap c B' O' R' (old c hc).2 (fold _ _ hf);have cls:∀b,(h'.get b).isSome=true→(b∈F∨D b∨(hin.next≤b∧b<hout.next))→h'.get b=hout.get b∧b<hout.next:=fun b hb hc=>by
  have key:h'.get b=hout.get b:=by
   by_cases hd:D b∨(hin.next≤b∧b<hout.next)
   ·exact h1 b hd
   ·rw[h2 b hd];have hm:b∈F:=by rcases hc with h|h;exact h;exact absurd h hd
    rw[hD b hm (fun h=>hd (.inl h)),hin1,if_pos hm]
  refine⟨key,?_⟩;have:=g.nx;rcases hc with hm|hm|hm
  ·exact A9 (hF b hm) this
  ·exact A9 (hDlt b hm) this
  ·exact hm.2
 have out:∀b,¬(b∈F∨D b∨(hin.next≤b∧b<hout.next))→h'.get b=h.get b∧f'' b=f b:=fun b hc=>
  ⟨h2 b (fun h=>hc (.inr h)),e2 b (fun h=>hc (.inr (.inr h)))⟩
 have mixed:∀b b' B O R B' O' R',(b∈F∨D b∨(hin.next≤b∧b<hout.next))→¬(b'∈F∨D b'∨(hin.next≤b'∧b'<hout.next))→(h'.get b).isSome=true→(h'.get b').isSome=true→
   f'' b=some (B,O,R)→f'' b'=some (B',O',R')→B≠B'∨O+R≤O'∨O'+R'≤O:=by
  intro b b' B O R B' O' R' hc hc' hb hb' hf hf';obtain⟨k1,k2⟩:=cls b hb hc;obtain⟨k3,k4⟩:=out b' hc';rw[k1] at hb;rw[k3] at hb';rw[k4] at hf';have hf0:=inside b _ k2 (fun hlt=>by rcases hc with h|h|h;exact .inl h;exact .inr h;omega) hf
  obtain⟨k,hk⟩:=Af.1 hb';obtain⟨B1,O1,R1,q1,_,q3,_⟩:=wr.blk b' k hk;rw[hf'] at q1;simp only[sI,pI] at q1;obtain⟨rfl,rfl,rfl⟩:=q1;rcases g.live b B O R hb hf0 with hge|⟨b0,O0,R0,g1,g2,g3,g4⟩
  ·left;omega
  ·have hne:b0≠b':=fun e=>by subst e;exact hc' (.inl (old b0 g1).1)
   have:=wr.apart b0 b' B O0 R0 B' O' R' hne (old b0 g1).2 hb' (fold _ _ g2) hf';omega
 refine⟨f'',lef,⟨⟨g.le.s,fun b x hx=>?_⟩,⟨g.wr.snap,g.wr.glob,fun b k hb=>?_,fun b b' B O R B' O' R' hne g1 g2 hf hf'=>?_,fun b x hx=>?_,g.wr.le⟩,g.below,fun B O R hB hap=>g.keep B O R hB (apin B O R hap),fun b B O R hb hf=>?_⟩,e2⟩
 ·by_cases hb:hin.next≤b∧b<hout.next
  ·rw[hnew b hb.1 hb.2] at hx;cases hx
  ·rw[e2 b hb];exact hx
 ·by_cases hc:b∈F∨D b∨(hin.next≤b∧b<hout.next)
  ·obtain⟨k1,k2⟩:=cls b (by rw[hb];rfl) hc
   rw[k1] at hb;obtain⟨B,O,R,q1,q2,q3,q4⟩:=g.wr.blk b k hb;exact⟨B,O,R,le' _ _ q1,q2,q3,q4.le lef (fun _ _ e=>e)⟩
  ·obtain⟨k3,k4⟩:=out b hc;rw[k3] at hb;obtain⟨B,O,R,q1,q2,q3,q4⟩:=wr.blk b k hb;have hap:Apart f h B O R∨True:=.inr trivial;have hap:Apart (cutE f hin.next) hin B O R:=fun c B' O' R' hcl hcf=>by
    obtain⟨o1,o2⟩:=old c hcl;have hne:b≠c:=fun e=>by subst e;exact hc (.inl o1)
    exact wr.apart b c B O R B' O' R' hne (by rw[hb];rfl) o2 q1 (fold _ _ hcf)
   obtain⟨s1,s2⟩:=g.keep B O R q3 hap;refine⟨B,O,R,by rw[k4];exact q1,q2,A9 q3 g.below.size,?_⟩
   have hl:Le S f S' f'':=⟨g.le.s,fun c x hx=>by
    by_cases hcb:hin.next≤c∧c<hout.next
    ·rw[hnew c hcb.1 hcb.2] at hx;cases hx
    ·rw[e2 c hcb];exact hx⟩
   exact(q4.le hl fun i hi hs=>by rw[s2 i hi];exact hs).same s1
 ·by_cases hc:b∈F∨D b∨(hin.next≤b∧b<hout.next)
  ·by_cases hc':b'∈F∨D b'∨(hin.next≤b'∧b'<hout.next)
   ·obtain⟨k1,k2⟩:=cls b g1 hc;obtain⟨k3,k4⟩:=cls b' g2 hc';rw[k1] at g1;rw[k3] at g2;exact g.wr.apart b b' B O R B' O' R' hne g1 g2 (inside b _ k2 (fun hlt=>by rcases hc with h|h|h;exact .inl h;exact .inr h;omega) hf)
     (inside b' _ k4 (fun hlt=>by rcases hc' with h|h|h;exact .inl h;exact .inr h;omega) hf')
   ·exact mixed b b' B O R B' O' R' hc hc' g1 g2 hf hf'
  ·by_cases hc':b'∈F∨D b'∨(hin.next≤b'∧b'<hout.next)
   ·have:=mixed b' b B' O' R' B O R hc' hc g2 g1 hf' hf;omega
   ·obtain⟨k1,k2⟩:=out b hc;obtain⟨k3,k4⟩:=out b' hc';rw[k1] at g1;rw[k3] at g2;rw[k2] at hf;rw[k4] at hf';exact wr.apart b b' B O R B' O' R' hne g1 g2 hf hf'
 ·rw[hn]
  by_cases hb:hin.next≤b∧b<hout.next
  ·omega
  ·rw[e2 b hb] at hx;exact wr.dom b x hx
 ·by_cases hc:b∈F∨D b∨(hin.next≤b∧b<hout.next)
  ·obtain⟨k1,k2⟩:=cls b hb hc;rw[k1] at hb;rcases g.live b B O R hb (inside b _ k2 (fun hlt=>by rcases hc with h|h|h;exact .inl h;exact .inr h;omega) hf) with hge|⟨b0,O0,R0,g1,g2,g3,g4⟩
   ·exact .inl hge
   ·exact .inr ⟨b0,O0,R0,(old b0 g1).2,fold _ _ g2,g3,g4⟩
  ·obtain⟨k1,k2⟩:=out b hc;rw[k1] at hb;rw[k2] at hf;exact bB b B O R hb hf
end Go.AM
namespace Go.AM
open Go.RowKit
variable {G:Nat→Option (List AV)}{base:Nat}{S:Snap}{f:Emb}{h:AH}{w:World}{P:Program}{E:Env}{s s':St}{a:Act}{N n:Nat}
theorem ad{h:AH}{x:Blk}{b:Nat}(hb:b<h.next):(h.alloc x).get b=h.get b:=by
 rw[AH.get_alloc,if_neg om]
theorem tw{l:List Nat}{k:Nat}(h:memN l k=false):k∉l:=fun hm=>by rw[dN.2 hm] at h;cases h
theorem cp{x:Opd}{v:AV}(h:s.eval x=some v):idsO s x=ids v:=by simp[idsO,h]
theorem kS{es bytes:Nat}{sl x:Opd}{v:AV}(hrun:appendA s es bytes sl x=some (v,s')):∀b,b<s.h.next→b∉idsO s sl→s'.h.get b=s.h.get b:=by
 intro b hb hm;unfold appendA at hrun;simp only at hrun;split at hrun
 ·rename_i u u2 hx hy;split at hrun
  ·cases hrun
  ·rename_i new k he;split at hrun
   ·cases hk:i5 k 0 with
    |true=>simp only[hk,cond_true,sI,pI] at hrun;obtain⟨_,rfl⟩:=hrun;rfl
    |false=>
     simp only[hk,cond_false] at hrun;have hq:=aF hrun;obtain⟨_,hq⟩:=hq;simp only[pI] at hq;obtain⟨_,rfl⟩:=hq;exact ad hb
   ·cases hk:i5 k 0 with
    |true=>simp only[hk,cond_true,sI,pI] at hrun;obtain⟨_,rfl⟩:=hrun;rfl
    |false=>
     simp only[hk,cond_false] at hrun;have hq:=aF hrun;obtain⟨_,hq⟩:=hq;simp only[pI] at hq;obtain⟨_,rfl⟩:=hq;exact ad hb
   ·exact U21
   ·rename_i b' off k' es' cap;simp only[cp hx,ids,ig] at hm;cases hk:i5 k 0 with
    |true=>simp only[hk,cond_true,sI,pI] at hrun;obtain⟨_,rfl⟩:=hrun;rfl
    |false=>
     simp only[hk,cond_false] at hrun;split at hrun
     ·have hq:=aN hrun;clear hrun;obtain⟨_,hrun⟩:=hq;split at hrun
      ·rename_i c;cases hc2:i6 (k'+k) c with
       |true=>
        simp only[hc2,cond_true] at hrun;have hq:=aF hrun;obtain⟨_,hq⟩:=hq;simp only[pI] at hq;obtain⟨_,rfl⟩:=hq;simp only[AH.get_put,if_neg hm]
       |false=>
        simp only[hc2,cond_false,sI,pI] at hrun;obtain⟨_,rfl⟩:=hrun;exact ad hb
      ·rename_i csx _ _ _ _;cases hin:(iq (off+k'*es) csx.length&&i6 (off+(k'+k)*es) csx.length) with
       |true=>
        simp only[hin,cond_true] at hrun;have hq:=aF hrun;obtain⟨_,hq⟩:=hq;simp only[pI] at hq;obtain⟨_,rfl⟩:=hq;simp only[AH.get_put,if_neg hm]
       |false=>
        simp only[hin,cond_false] at hrun;have hq:=aF hrun;obtain⟨_,hq⟩:=hq;simp only[pI] at hq;obtain⟨_,rfl⟩:=hq;rw[ad (by simpa using hb),AH.get_put,if_neg hm]
     ·cases hrun
   ·cases hrun
 ·cases hrun
theorem wj{call:Cle→List AV→AH→Option (AV×AH)}{op:AOp}{v:AV}(hc:isCall op=false)(hrun:runOp E call s op=some (v,s')):
  ∀b,b<s.h.next→memN (turned s op) b=false→s'.h.get b=s.h.get b:=by
 intro b hb hm;have hm:=tw hm;cases op with
 |call=>simp[isCall] at hc
 |callv=>simp[isCall] at hc
 |invoke=>simp[isCall] at hc
 |store n x y=>
  simp only[runOp] at hrun;split at hrun
  ·rename_i b' off l hx hy;simp only[turned,cp hx,ids,ig] at hm;split at hrun
   ·have hq:=aF hrun;obtain⟨_,hq⟩:=hq;simp only[pI] at hq;obtain⟨_,rfl⟩:=hq;simp only[AH.get_put,if_neg hm]
   ·cases hrun
  ·cases hrun
 |appT e sl x=>
  simp only[runOp] at hrun;split at hrun
  ·rename_i q hq;simp only[sI] at hrun;subst hrun;unfold appTyped at hq;split at hq
   case h_2=>cases hq
   rename_i u u2 hx hy;split at hq
   case h_1=>cases hq
   split at hq
   ·exact U22
   ·simp only[turned,cp hx,ids,ig] at hm;split at hq
    ·have hq2:=aF hq;obtain⟨_,hq2⟩:=hq2;simp only[pI] at hq2;obtain⟨_,rfl⟩:=hq2;rw[ad (by simp;omega),ad (by simpa using hb),AH.get_put,if_neg hm]
    ·cases hq
   ·cases hq
  ·exact kS hrun b hb (by simpa only[turned] using hm)
 |append es bytes sl x=>
  simp only[runOp] at hrun;exact kS hrun b hb (by simpa only[turned] using hm)
 |copy es d x=>
  simp only[runOp] at hrun;split at hrun
  ·rename_i u u2 hx hy;split at hrun
   ·exact U23
   ·simp only[turned,cp hx,ids,ig] at hm;split at hrun
    ·exact U24
    ·cases hrun
   ·cases hrun
  ·cases hrun
 |clearS es z x=>
  simp only[runOp] at hrun;split at hrun
  ·exact U23
  ·rename_i b' off k es' cap hx;simp only[turned,cp hx,ids,ig] at hm;cases hk:i5 k 0 with
   |true=>simp only[hk,cond_true,sI,pI] at hrun;obtain⟨_,rfl⟩:=hrun;rfl
   |false=>
    simp only[hk,cond_false] at hrun;split at hrun
    ·exact U24
    ·cases hrun
  ·cases hrun
 |mapUpd d m k x=>
  simp only[runOp] at hrun;split at hrun
  ·rename_i b' k' v' hx hk hv;simp only[turned,cp hx,ids,ig] at hm;split at hrun
   ·simp only[j7,sI,pI] at hrun;obtain⟨es,_,_,rfl⟩:=hrun;simp only[AH.get_put,if_neg hm]
   ·cases hrun
  ·cases hrun
 |nextStr x=>
  simp only[runOp] at hrun;split at hrun
  ·rename_i b' hx;simp only[turned,cp hx,ids,ig] at hm;split at hrun
   ·rename_i str pos _;cases hk:iq pos str.size with
    |true=>
     simp only[hk,cond_true,sI,pI] at hrun;obtain⟨_,rfl⟩:=hrun;simp only[AH.get_put,if_neg hm]
    |false=>
     simp only[hk,cond_false,sI,pI] at hrun;obtain⟨_,rfl⟩:=hrun;rfl
   ·cases hrun
  ·cases hrun
 |nextMap x=>
  simp only[runOp] at hrun;split at hrun
  ·rename_i b0 hx;simp only[turned,cp hx,ids,ig] at hm;split at hrun
   ·exact U23
   ·split at hrun
    ·exact U23
    ·cases hrun
   ·split at hrun
    ·have hq:=aF hrun;clear hrun;obtain⟨_,hrun⟩:=hq;simp only[pI] at hrun;obtain⟨_,rfl⟩:=hrun;simp only[AH.get_put,if_neg hm]
    ·cases hrun
   ·split at hrun
    ·exact U23
    ·cases hrun
   ·split at hrun
    ·have hq:=aF hrun;clear hrun;obtain⟨_,hrun⟩:=hq;simp only[pI] at hrun;obtain⟨_,rfl⟩:=hrun;rfl
    ·cases hrun
   ·cases hrun
  ·cases hrun
 |curMap x=>
  simp only[runOp] at hrun
  repeat' split at hrun
  all_goals first
   |(have hq:=aF hrun;clear hrun;obtain⟨_,hrun⟩:=hq;simp only[pI] at hrun;obtain⟨_,rfl⟩:=hrun;rfl)
   |cases hrun
 |tassert t z ok x=>
  simp only[runOp] at hrun;split at hrun
  ·rename_i t' u hx;cases ht:i5 t t' with
   |true=>simp only[ht,cond_true,sI,pI] at hrun;obtain⟨_,rfl⟩:=hrun;rfl
   |false=>
    simp only[ht,cond_false] at hrun;have hq:=aF hrun;obtain⟨_,hq⟩:=hq;simp only[pI] at hq;obtain⟨_,rfl⟩:=hq;rfl
  ·exact U21
  ·cases hrun
 |unsafeStr e x n=>
  simp only[runOp] at hrun;split at hrun
  ·rename_i b' k hx hn;simp only[turned,cp hx,ids,ig] at hm;split at hrun
   ·have hq:=aN hrun;obtain⟨_,hq⟩:=hq;simp only[j7,sI,pI] at hq;obtain⟨_,_,_,rfl⟩:=hq;simp only[AH.get_put,if_neg hm]
   ·cases hrun
  ·cases hrun
 |allocT z t=>
  simp only[runOp,sI,pI] at hrun;obtain⟨_,rfl⟩:=hrun;rw[ad (by simp;omega),ad hb]
 |bconv t x=>
  simp only[runOp] at hrun;split at hrun
  ·split at hrun
   ·exact U21
   ·cases hrun
  ·cases hrun
 |callx g x=>
  simp only[runOp] at hrun;split at hrun
  ·cases hne:isNoEsc E g with
   |true=>simp only[hne,cond_true,sI,pI] at hrun;obtain⟨_,rfl⟩:=hrun;rfl
   |false=>
    simp only[hne,cond_false] at hrun;split at hrun
    ·have hq:=aN hrun;obtain⟨_,hq⟩:=hq;split at hq
     ·exact U22
     ·cases hq
    ·cases hrun
  ·cases hrun
 |mkSlice es bytes z l c=>
  simp only[runOp] at hrun;split at hrun
  ·have hq:=aF hrun;obtain⟨_,hq⟩:=hq;simp only[pI] at hq;obtain⟨_,rfl⟩:=hq;exact ad hb
  ·cases hrun
 |_=>
  simp only[runOp] at hrun
  repeat' split at hrun
  all_goals first
   |(simp only[sI,pI] at hrun;obtain⟨_,rfl⟩:=hrun;rfl)
   |(simp only[sI,pI] at hrun;obtain⟨_,rfl⟩:=hrun;exact ad hb)
   |(simp only[j7,sI,pI] at hrun;obtain⟨_,_,_,rfl⟩:=hrun;rfl)
   |(simp only[j7,sI,pI] at hrun;obtain⟨_,_,_,rfl⟩:=hrun;exact ad hb)
   |(have hq:=aF hrun;obtain⟨_,hq⟩:=hq;simp only[pI] at hq;obtain⟨_,rfl⟩:=hq;rfl)
   |(have hq:=aN hrun;obtain⟨_,hq⟩:=hq;simp only[j7,sI,pI] at hq;obtain⟨_,_,_,rfl⟩:=hq;rfl)
   |(have hq:=aN hrun;obtain⟨_,hq⟩:=hq;split at hq;(simp only[sI,pI] at hq;obtain⟨_,rfl⟩:=hq;rfl);cases hq)
   |(have hq:=aN hrun;obtain⟨_,hq⟩:=hq;cases hq;done)
   |cases hrun
end Go.AM
namespace Go.AM
open Go.RowKit
variable {G:Nat→Option (List AV)}{base:Nat}{S:Snap}{f:Emb}{h:AH}{w:World}{P:Program}{E:Env}{s s':St}{a:Act}{N n:Nat}
def ov{α:Type}(D:Nat→Nat→Bool)(val:Nat→Nat→Option α):Nat→(Nat→Bool)→(Nat→Option α)→Nat→Option α
 |0,_,g,b=>g b
 |n+1,L,g,b=>bif L n&&D n b then val n b else ov D val n L g b
section overlay
variable {α:Type}{D:Nat→Nat→Bool}{val:Nat→Nat→Option α}{L L':Nat→Bool}{g:Nat→Option α}{b:Nat}
theorem cU:∀(n:Nat),(∀k,k<n→L k=L' k∨D k b=false)→ov D val n L g b=ov D val n L' g b
 |0,_=>rfl
 |n+1,h=>by
  simp only[ov];rw[cU n fun k hk=>h k om];rcases h n om with e|e
  ·rw[e]
  ·simp[e]
theorem pE:∀(n:Nat),(∀k,k<n→L k=false)→ov D val n L g b=g b
 |0,_=>rfl
 |n+1,h=>by simp only[ov,h n om,B6,cond_false];exact pE n fun k hk=>h k om
theorem lc {m : Nat} : ∀ (n : Nat), m ≤ n → ov D val n (fun k => decide (k < m)) g b = ov D val m (fun _ => true) g b
  | 0, h => by have : m = 0 := by omega
               subst this; rfl
  | n + 1, h => by
    by_cases e : m = n + 1
    · subst e
      exact cU _ fun k hk => .inl (by simp [hk])
    · simp only [ov]
      rw [show decide (n < m) = false from decide_eq_false om, B6, cond_false];exact lc n om
theorem tY{i:Nat}:∀(n:Nat),i<n→L i=true→D i b=true→(∀k,i<k→k<n→L k=true→D k b=false)→ov D val n L g b=val i b
 |0,h,_,_,_=>by omega
 |n+1,h,hl,hd,hk=>by
  simp only[ov]
  by_cases e:i=n
  ·subst e;simp[hl,hd]
  ·have:(L n&&D n b)=false:=by
    cases hn:L n with
    |false=>rfl
    |true=>rw[hk n om om hn];rfl
   rw[this,cond_false];exact tY n om hl hd fun k h1 h2=>hk k h1 om
theorem Gd {β : Type} {φ : Option α → β} {ver : Nat → Nat → Option α} {i N : Nat} (hiN : i < N) (hi : D i b = false) (h1 : ∀ k, k < N → D k b = false → ver (k + 1) b = ver k b)
    (h2 : ∀ k, k < i → L k = false → D k b = true → φ (ver (k + 1) b) = φ (ver k b)) (h3 : ∀ k, i < k → k < N → L k = true → D k b = true → φ (ver (k + 1) b) = φ (ver k b))
    (h5 : ∀ k t, i < k → k < t → t < N → L k = false → L t = true → D k b = true → D t b = true → False) : φ (ov D (fun k => ver (k + 1)) N L (ver 0) b) = φ (ver i b) := by
  have A : ∀ m, m ≤ i → φ (ov D (fun k => ver (k + 1)) m L (ver 0) b) = φ (ver m b) := by
    intro m
    induction m with
    | zero => intro _; rfl
    | succ m ih =>
      intro hm;simp only [ov];cases hD : D m b with
      | false => rw [Bool.and_false, cond_false, ih om, h1 m om hD]
      | true =>
        cases hL : L m with
        | true => rfl
        | false => rw [Bool.and_true, cond_false, ih om, h2 m om hL hD]
  have B : ∀ m, i ≤ m → m ≤ N → φ (ov D (fun k => ver (k + 1)) m L (ver 0) b) = φ (ver i b) := by
    intro m
    induction m with
    | zero => intro h _; have : i = 0 := by omega
              subst this; rfl
    | succ m ih =>
      intro him hm
      by_cases e : i = m + 1
      · rw [e]; rw [e] at A; exact A (m + 1) (i7 _)
      · simp only [ov]
        cases hLD : (L m && D m b) with
        | false => rw [cond_false]; exact ih om om
        | true =>
          rw [cond_true];rw [i9] at hLD;have chain : ∀ j, i ≤ j → j ≤ m + 1 → φ (ver j b) = φ (ver i b) := by
            intro j
            induction j with
            | zero => intro h _; have : i = 0 := by omega
                      subst this; rfl
            | succ j ihj =>
              intro hij hjm
              by_cases e2 : i = j + 1
              · rw [e2]
              · rw [← ihj om om]
                cases hD : D j b with
                | false => rw [h1 j om hD]
                | true =>
                  have hne : j ≠ i := fun e3 => by rw [e3, hi] at hD; cases hD
                  cases hL : L j with
                  | true => exact h3 j om om hL hD
                  | false =>
                    have hjm2 : j ≠ m := fun e3 => by rw [e3, hLD.1] at hL; cases hL
                    exact (h5 j m om om om hL hLD.1 hD hLD.2).elim
          exact chain (m + 1) om (i7 _)
  exact B N om (i7 _)
theorem lf{st:Nat→Nat→Option α}(hst:∀k b,D k b=false→st (k+1) b=st k b):∀n,ov D (fun k=>st (k+1)) n (fun _=>true) (st 0) b=st n b
 |0=>rfl
 |n+1=>by
  simp only[ov,Bool.true_and];cases hd:D n b with
  |true=>rfl
  |false=>rw[cond_false,lf hst n,hst n b hd]
end overlay
def opSt(d:DOp)(s:St):St:={tm:=pickTm s.tm d.reads,h:=s.h,defers:=[],round:=s.round}
def crec(ss:Nat→St)(rs:Nat→DRec)(ld:Nat→Option (Nat×Nat×Nat))(k:Nat):CRec:=⟨rs k,ld k,(ss k).h,(ss (k+1)).h⟩
structure Trace (E:Env) (call:Cle→List AV→AH→Option (AV×AH)) (ds:List DOp) (done:List CRec) (s s':St) (ss:Nat→St) (vs:Nat→AV) (rs:Nat→DRec) (ld:Nat→Option (Nat×Nat×Nat)):Prop where
 first:ss 0=s
 last:ss ds.length=s'
 step:∀k d,ds[k]? =some d→∃near,stepDraw E call d near (ss k)=some (vs k,rs k,(ss (k+1)).h)
 tm:∀k d,ds[k]? =some d→(ss (k+1)).tm=putDst (ss k).tm d.o.dst (vs k)
 defers:∀k,k<ds.length→(ss (k+1)).defers=(ss k).defers
 round:∀k,k<ds.length→(ss (k+1)).round=(ss k).round
 free:∀k d,ds[k]? =some d→∀i∈d.free,∃r,(done++(jg k).map (crec ss rs ld))[i]? =some r∧apartC r (crec ss rs ld k)=true
 lds:∀k d,ds[k]? =some d→ld k=loadAt (opSt d (ss k)) d.o.op
theorem kF{done:List CRec}{b:CRec}:∀{l:List Nat},freeOkC done b l=true→∀i∈l,∃r,done[i]? =some r∧apartC r b=true
 |i::l,h,j,hj=>by
  simp only[freeOkC,i9] at h;rcases i8.1 hj with rfl|hj
  ·have h1:=h.1;split at h1
   ·rename_i r hr;exact⟨r,hr,h1⟩
   ·cases h1
  ·exact kF h.2 j hj
theorem lR{α:Type}(r:α)(rs:Nat→α)(done:List α)(k:Nat):(done++[r])++(jg k).map rs=done++(jg (k+1)).map (fun j=>match j with|0=>r|j+1=>rs j):=by
 rw[List.range_succ_eq_map];simp[List.map_map,Function.comp_def]
theorem mz{call:Cle→List AV→AH→Option (AV×AH)}:∀(ds:List DOp) (done:List CRec) (s s':St),runDrawC E call ds done s=some s'→∃ss vs rs ld,Trace E call ds done s s' ss vs rs ld:=by
 intro ds
 induction ds with
 |nil=>
  intro done s s' h;simp only[runDrawC,sI] at h;subst h;exact⟨fun _=>s,fun _=>undefA,fun _=>default,fun _=>none,rfl,rfl,fun k d h=>by simp at h,fun k d h=>by simp at h,fun k h=>by simp at h,fun k h=>by simp at h,fun k d h=>by simp at h,fun k d h=>by simp at h⟩
 |cons d ds ih=>
  intro done s s' h;simp only[runDrawC] at h;split at h
  ·rename_i v rec h1 hs;have hq:=aN h;clear h;obtain⟨hfr,h⟩:=hq;obtain⟨ss,vs,rs,ld,t⟩:=ih _ _ _ h;have hcr:∀k,crec (fun k=>match k with|0=>s|k+1=>ss k) (fun k=>match k with|0=>rec|k+1=>rs k) (fun k=>match k with|0=>loadAt (opSt d s) d.o.op|k+1=>ld k) k=
     (match k with|0=>⟨rec,loadAt (opSt d s) d.o.op,s.h,h1⟩|k+1=>crec ss rs ld k):=fun k=>by
    cases k with
    |zero=>simp only[crec,t.first]
    |succ k=>rfl
   refine⟨fun k=>match k with|0=>s|k+1=>ss k,fun k=>match k with|0=>v|k+1=>vs k,fun k=>match k with|0=>rec|k+1=>rs k,fun k=>match k with|0=>loadAt (opSt d s) d.o.op|k+1=>ld k,rfl,t.last,fun k e hk=>?_,fun k e hk=>?_,fun k hk=>?_,fun k hk=>?_,fun k e hk=>?_,fun k e hk=>?_⟩
   ·cases k with
    |zero=>simp at hk;subst hk;exact⟨_,by simp only[t.first];exact hs⟩
    |succ k=>exact t.step k e (by simpa using hk)
   ·cases k with
    |zero=>simp at hk;subst hk;simp only[t.first]
    |succ k=>exact t.tm k e (by simpa using hk)
   ·cases k with
    |zero=>simp only[t.first]
    |succ k=>exact t.defers k (by simpa using hk)
   ·cases k with
    |zero=>simp only[t.first]
    |succ k=>exact t.round k (by simpa using hk)
   ·rw[show crec _ _ _=_ from funext hcr];cases k with
    |zero=>
     simp at hk;subst hk;intro i hi;obtain⟨r,h1,h2⟩:=kF hfr i hi;exact⟨r,by simpa using h1,h2⟩
    |succ k=>
     intro i hi;obtain⟨r,h1,h2⟩:=t.free k e (by simpa using hk) i hi
     rw[lR] at h1;exact⟨r,h1,h2⟩
   ·cases k with
    |zero=>simp at hk;subst hk;rfl
    |succ k=>exact t.lds k e (by simpa using hk)
  ·cases h
theorem eS{pr:List (List Nat)}:∀{l:List Oper} {j:Nat},predsOk pr l j=true→∀(k:Nat) (o:Oper),l[k]? =some o→
  (∀e∈o.after,Region.binds .any e=true→e.on<j+k)∧∀i∈pr.getD (j+k) [],edgeTo pr o i=true
 | [],_,_,k,o,h=>by simp at h
 |x::l,j,hp,k,o,h=>by
  simp only[predsOk,i9,iy] at hp;cases k with
  |zero=>
   simp at h;subst h;refine⟨fun e he hb=>?_,fun i hi=>hp.1.2 i (by simpa using hi)⟩
   have:=hp.1.1 e (by simpa using he)
   simp only[hb,Bool.not_true,Bool.false_or] at this;have:e.on+1≤j:=is this;omega
  |succ k=>
   obtain⟨h1,h2⟩:=eS hp.2 k o (by simpa using h)
   exact⟨fun e he hb=>by have:=h1 e he hb;omega,fun i hi=>h2 i (by rw[show j+1+k=j+(k+1) by omega];exact hi)⟩
theorem qH{pr:List (List Nat)}{ops:Array Oper}{L:Nat→Bool}(hp:predsOk pr ops.toList 0=true)
  (hdown:∀j o,ops[j]? =some o→L j=true→∀e∈o.after,Region.binds .any e=true→L e.on=true):
  ∀(j:Nat) (o:Oper),ops[j]? =some o→(∀e∈o.after,Region.binds .any e=true→L e.on=true)→∀i∈pr.getD j [],L i=true:=by
 intro j
 induction j using Bk with
 |_ j ih=>
 intro o ho hall i hi;obtain⟨h1,h2⟩:=eS hp j o (by simpa using ho)
 have he:=h2 i (by simpa using hi)
 simp only[edgeTo,Bj,i9,Am] at he;obtain⟨e,hem,hb,hor⟩:=he;have hem:e∈o.after:=by simpa using hem
 rcases hor with h|⟨x,hx,hxe⟩
 ·rw[←ij h];exact hall e hem hb
 ·have:=ij hxe;subst this;have hlt:e.on<j:=by have:=h1 e hem hb;omega
  have hjs:j<ops.size:=(Bf.1 ho).1;have hon:ops[e.on]? =some ops[e.on]:=Ab om;exact ih e.on hlt _ hon (hdown e.on _ hon (hall e hem hb)) i hx
def left(L:Nat→Bool):Nat→Nat
 |0=>0
 |n+1=>left L n+if L n then 0 else 1
theorem rU{L L':Nat→Bool}{i:Nat}(h0:L i=false)(h1:L' i=true)(h:∀k,k≠i→L' k=L k):∀n,left L n=left L' n+if i<n then 1 else 0
 |0=>by simp[left]
 |n+1=>by
  simp only[left,rU h0 h1 h n]
  by_cases e:i=n
  ·subst e;simp[h0,h1]
  ·rw[h n (fun h=>e h.symm)]
   by_cases hlt:i<n
   ·simp only[if_pos hlt,if_pos (show i<n+1 by omega)];omega
   ·simp only[if_neg hlt,if_neg (show¬i<n+1 by omega)];omega
theorem ni{L:Nat→Bool}:∀n,left L n=0→∀k,k<n→L k=true
 |0,_,k,hk=>by omega
 |n+1,h,k,hk=>by
  simp only[left] at h
  by_cases e:k=n
  ·subst e;cases hl:L k with
   |true=>rfl
   |false=>simp[hl] at h
  ·exact ni n om k om
theorem bd{a b:DRec}(h:recApart a b=true):(∀x∈b.F,x∉a.D∧¬(a.lo≤x∧x<a.hi))∧(∀x∈b.D,x∉a.F)∧(∀x∈b.D,x∉a.D∧¬(a.lo≤x∧x<a.hi)):=by
 simp only[recApart,touches,i9,Au,List.any_eq_false,Am,not_or,dN] at h;obtain⟨⟨h1,h2⟩,h3⟩:=h;have conv:∀x,¬(i6 a.lo x&&iq x a.hi)=true→¬(a.lo≤x∧x<a.hi):=fun x hx ⟨q1,q2⟩=>hx (by rw[i9];exact⟨Aq q1,Aq q2⟩)
 exact⟨fun x hx=>⟨(h1 x hx).1,conv x (by simpa using (h1 x hx).2)⟩,fun x hx=>h2 x hx,fun x hx=>⟨(h3 x hx).1,conv x (by simpa using (h3 x hx).2)⟩⟩
theorem fu{M:Nat}{ops:Array Oper}{ds:List DOp}(h:cDraw P M ops=some ds):∃pr:List (List Nat),predsOk pr ops.toList 0=true∧ds.length=ops.size∧
  (∀(j:Nat) (o:Oper),ops[j]? =some o→∃d,ds[j]? =some d∧d.o=cOper P M ops o∧∀i,i<j→i∉pr.getD j []→i∈d.free)∧
  (∀(j:Nat) (d:DOp),ds[j]? =some d→∀i∈d.free,∃e,ds[i]? =some e∧slotsApart e d=true):=by
 unfold cDraw at h;have hq:=aF h;clear h;obtain⟨hc,hq⟩:=hq;simp only[i9] at hc;refine⟨predsOf ops.toList,hc.1,by rw[←hq];simp,fun j o ho=>?_,?_⟩
 ·have hz:(ops.toList.zipIdx)[j]? =some (o,j):=by
   rw[List.getElem?_zipIdx];simp[ho]
  refine⟨_,by rw[←hq,Ag,hz];rfl,rfl,fun i hi hn=>?_⟩
  simp only[jy,List.mem_range];refine⟨hi,?_⟩;cases hm:memN ((predsOf ops.toList).getD j []) i with
  |true=>exact absurd (dN.1 hm) hn
  |false=>rfl
 ·have key:∀(l:List DOp),pairsOk ds l=true→∀d∈l,∀i∈d.free,∃e,ds[i]? =some e∧slotsApart e d=true:=by
   intro l
   induction l with
   |nil=>intro _ d hd;cases hd
   |cons b l ih=>
    intro hp d hd i hi;simp only[pairsOk,i9,iy] at hp;rcases i8.1 hd with rfl|hd
    ·have:=hp.1 i hi;split at this
     ·rename_i e he;exact⟨e,he,this⟩
     ·cases this
    ·exact ih hp.2 d hd i hi
  intro j d hd i hi;have hc2:=hc.2;rw[hq] at hc2;exact key ds hc2 d (Bq hd) i hi
theorem cZ{a b:DOp}(h:slotsApart a b=true):(∀t,a.o.dst=some t→t∉b.reads∧b.o.dst≠some t)∧(∀t,b.o.dst=some t→t∉a.reads):=by
 simp only[slotsApart,i9,Au] at h;obtain⟨⟨h1,h2⟩,h3⟩:=h;refine⟨fun t ht=>⟨fun hm=>?_,fun hb=>?_⟩,fun t ht hm=>?_⟩
 ·rw[ht] at h1;simp only[dstIn] at h1;rw[dN.2 hm] at h1;cases h1
 ·rw[ht,hb] at h3;simp only[sameDst] at h3;rw[je] at h3;cases h3
 ·rw[ht] at h2;simp only[dstIn] at h2;rw[dN.2 hm] at h2;cases h2
theorem bc{call:Cle→List AV→AH→Option (AV×AH)}{d:DOp}{near:List Nat}{v:AV}{r:DRec}{h1:AH}(hs:stepDraw E call d near s=some (v,r,h1)):
  r.lo=s.h.next∧r.hi=h1.next∧s.h.next≤h1.next∧(∀b,b∉r.D→¬(r.lo≤b∧b<r.hi)→h1.get b=s.h.get b):=by
 unfold stepDraw at hs;simp only at hs;split at hs
 ·have hq:=aN hs;clear hs;obtain⟨_,hs⟩:=hq;split at hs
  ·rename_i v1 s1 hrun;have hq:=aF hs;clear hs;obtain⟨hc,hq⟩:=hq;simp only[pI] at hq;obtain⟨rfl,rfl,rfl⟩:=hq;rw[i9,i9] at hc;refine⟨rfl,rfl,is hc.1.2,fun b hb hn=>?_⟩;rw[ll,if_neg (fun h=>h.elim hb hn)]
  ·cases hs
 ·simp only[sI,pI] at hs;obtain⟨rfl,rfl,rfl⟩:=hs;exact⟨rfl,rfl,i7 _,fun b _ _=>rfl⟩
 ·cases hs
theorem kC{op:AOp}{p:Nat×Nat×Nat}(h:loadAt s op=some p):∃n x,op=.load n x∧s.eval x=some (.ptr p.1 p.2.1)∧p.2.2=widthOf n:=by
 cases op with
 |load n x=>
  simp only[loadAt] at h;split at h
  ·rename_i b o he;simp only[sI] at h;subst h;exact⟨n,x,rfl,he,rfl⟩
  ·cases h
 |_=>simp[loadAt] at h
theorem mu{call:Cle→List AV→AH→Option (AV×AH)}{d:DOp}{near:List Nat}{v:AV}{r:DRec}{h1:AH}{p:Nat×Nat×Nat}(hl:loadAt (opSt d s) d.o.op=some p)(hs:stepDraw E call d near s=some (v,r,h1)):
  r.D=[]∧r.lo=r.hi:=by
 obtain⟨n,x,hop,_,_⟩:=kC hl;unfold stepDraw at hs;simp only at hs;split at hs
 ·have hq:=aN hs;clear hs;obtain⟨_,hs⟩:=hq;split at hs
  ·rename_i v1 s1 hrun;have hq:=aF hs;clear hs;obtain⟨hc,hq⟩:=hq;simp only[pI] at hq;obtain⟨rfl,rfl,rfl⟩:=hq;rw[hop] at hrun⊢
   simp only[runOp] at hrun;split at hrun
   ·simp only[j7,sI,pI] at hrun;obtain⟨_,_,_,rfl⟩:=hrun;exact⟨rfl,rfl⟩
   ·cases hrun
  ·cases hs
 ·simp only[sI,pI] at hs;obtain⟨rfl,rfl,rfl⟩:=hs;exact⟨rfl,rfl⟩
 ·cases hs
theorem jQ{h1 h2:AH}{p:Nat×Nat×Nat}(hs:sameAt h1 h2 p=true):cellsAt p.2.1 p.2.2 (h1.get p.1)=cellsAt p.2.1 p.2.2 (h2.get p.1):=by
 unfold sameAt at hs;split at hs
 ·rename_i a b e1 e2;rw[e1,e2,eI a b hs]
 ·cases hs
theorem yv{op:Op}{n:Option Nat}{y:Opd}(h:cOp P op=some (.load n y)):∃t x,op=.load t x∧loadN? P t=some n∧cOpd x=some y:=by
 cases op with
 |load t x=>
  simp only[cOp] at h;split at h
  ·rename_i n' y' hn hy;simp only[sI,AOp.load.injEq] at h;obtain⟨rfl,rfl⟩:=h;exact⟨t,x,rfl,hn,hy⟩
  ·cases h
 |alloc t=>
  simp only[cOp,iw] at h;obtain⟨y,hy,e⟩:=h;cases hb:isBld P t<;>simp[hb] at e
 |_=>
  exfalso;simp only[cOp,C4] at h
  repeat' split at h
  all_goals first
   |contradiction
   |(simp only[iw] at h;obtain⟨y,hy,e⟩:=h;cases e;done)
   |(simp only[sI] at h;cases h;done)
   |cases h
theorem xG{call:Cle→List AV→AH→Option (AV×AH)}{s1 s2:St}{n:Option Nat}{x:Opd}{b o:Nat}{v:AV}{u:St}(he:s1.eval x=some (.ptr b o))(he2:s2.eval x=some (.ptr b o))(hr:runOp E call s1 (.load n x)=some (v,u))
  (hc:cellsAt o (widthOf n) (s1.h.get b)=cellsAt o (widthOf n) (s2.h.get b)):runOp E call s2 (.load n x)=some (v,s2):=by
 simp only[runOp,he,he2,j7,sI,pI] at hr⊢
 obtain⟨v',⟨cs,hcs,hv⟩,rfl,rfl⟩:=hr;simp only[cellsFrom] at hcs;split at hcs
 ·rename_i a ra ha;have hq:=aF hcs;clear hcs;obtain⟨hle,hcs⟩:=hq;have hle:=is hle;subst hcs;rw[ha] at hc;have hlen:o+(widthOf n)≤a.length:=by
   cases n with
   |none=>
    simp only[takeN] at hv;rw[List.head?_drop] at hv;have:=(A3.1 hv).1;simp only[widthOf];omega
   |some k=>
    simp only[takeN] at hv;have hq:=aF hv;clear hv;obtain⟨h1,_⟩:=hq;have h1:=is h1;simp only[List.length_drop,widthOf] at h1⊢;omega
  simp only[cellsAt,Aq hlen,cond_true] at hc;cases hg:s2.h.get b with
  |none=>rw[hg] at hc;simp[] at hc
  |some k2=>
   rw[hg] at hc;cases k2 with
   |cells c rc=>
    simp only[] at hc;have hq:=aF hc.symm;clear hc;obtain⟨h2,hc⟩:=hq;have h2:=is h2;refine⟨v',⟨c.drop o,?_,?_⟩,rfl,trivial⟩
    ·simp only[cellsFrom,hg,Aq (show o≤c.length by omega),cond_true]
    ·cases n with
     |none=>
      simp only[takeN] at hv⊢
      simp only[widthOf] at hc;have e:=congrArg List.head? hc;rw[List.head?_take,List.head?_take] at e
      simpa using e.trans hv
     |some k=>
      simp only[takeN] at hv⊢
      have hq:=aF hv;clear hv;obtain⟨h1,hv⟩:=hq;simp only[widthOf] at hc h2;rw[Aq (show k≤(c.drop o).length by simp;omega),cond_true,hc,hv]
   |_=>simp[] at hc
 ·cases hcs
theorem eJ{n:Nat}{l:List Nat}(h:below n l=true):∀b∈l,b<n:=fun b hb=>by
 have:=iy.1 h b hb;exact is this
theorem kD{h:AH}{l:List Nat}(hk:knownH h l=true):∀b∈l,b<h.next∧∀k,h.get b=some k→∀c∈idsB k,c<h.next:=fun b hb=>by
 have:=iy.1 hk b hb;rw[i9] at this;refine⟨is this.1,fun k hk c hc=>?_⟩;have h2:=this.2;rw[hk] at h2;exact eJ h2 c hc
theorem k9{call:Cle→List AV→AH→Option (AV×AH)}{d:DOp}{near:List Nat}{v:AV}{r:DRec}{h1:AH}(hs:stepDraw E call d near s=some (v,r,h1)):
  ∀b,(b∈r.F→b<s.h.next)∧(b∈r.D→b<s.h.next):=by
 unfold stepDraw at hs;simp only at hs;split at hs
 ·have hq:=aN hs;clear hs;obtain⟨hk,hs⟩:=hq;rw[i9] at hk;split at hs
  ·rename_i v1 s1 hrun;have hq:=aF hs;clear hs;obtain⟨hc,hq⟩:=hq;simp only[pI] at hq;obtain⟨rfl,rfl,rfl⟩:=hq;rw[i9,i9] at hc;exact fun b=>⟨fun hb=>(kD hk.2 b hb).1,fun hb=>eJ hc.2 b hb⟩
  ·cases hs
 ·simp only[sI,pI] at hs;obtain⟨rfl,rfl,rfl⟩:=hs;exact fun b=>⟨fun hb=>(by cases hb),fun hb=>(by cases hb)⟩
 ·cases hs
structure Inv (E:Env) (base:Nat) (S0:Snap) (f0:Emb) (h0:AH) (w0:World) (a0:Act) (ss:Nat→St) (rs:Nat→DRec) (ds:List DOp) (N:Nat) (DH DT:Nat→Nat→Bool) (L:Nat→Bool) (a:Act) (w:World):Prop where
 ex:∃(S:Snap) (f:Emb) (h:AH),Goes0 E.globs base S0 f0 h0 w0 S f h w∧(∀b x,f b=some x→b<h0.next→f0 b=some x)∧h.next=(ss ds.length).h.next∧
  (∀b,h.get b=ov DH (fun k b=>(ss (k+1)).h.get b) ds.length L (ss 0).h.get b)∧
  a.tmps.size=N∧(∀t v,ov DT (fun k t=>(ss (k+1)).tm.get t) ds.length L (ss 0).tm.get t=some v→∃x,a.tmps[t]? =some x∧Rel S f v x)∧
  (∀k,k<ds.length→L k=false→∀b,(rs k).lo≤b→b<(rs k).hi→f b=none)
 d:a.defers=a0.defers
theorem bx{ss:Nat→St}{rs:Nat→DRec}{ld:Nat→Option (Nat×Nat×Nat)}{k t:Nat}(h:apartC (crec ss rs ld k) (crec ss rs ld t)=true):recApart (rs k) (rs t)=true∨
  (∃p,ld t=some p∧cellsAt p.2.1 p.2.2 ((ss k).h.get p.1)=cellsAt p.2.1 p.2.2 ((ss (k+1)).h.get p.1))∨
  ∃p,ld k=some p∧cellsAt p.2.1 p.2.2 ((ss t).h.get p.1)=cellsAt p.2.1 p.2.2 ((ss (t+1)).h.get p.1):=by
 simp only[apartC,crec,Am] at h;rcases h with h|h|h
 ·exact .inl h
 ·split at h
  ·rename_i p hp;exact .inr (.inl ⟨p,hp,jQ h⟩)
  ·cases h
 ·split at h
  ·rename_i p hp;exact .inr (.inr ⟨p,hp,jQ h⟩)
  ·cases h
theorem xX{call:Cle→List AV→AH→Option (AV×AH)}(hP:E.P=P)(hcall:CallOk P E call)(hm:MethOk P E){M:Nat}(hM:M≤N){ro:Option Nat}{ops:Array Oper}{ds:List DOp}{Q:Exit→Act→World→Prop}
  {K:Act→World→Prop} {S0:Snap} {f0:Emb} {h0:AH} {w0:World} {a0:Act} {ss:Nat→St} {vs:Nat→AV} {rs:Nat→DRec} {ld:Nat→Option (Nat×Nat×Nat)} {DH DT:Nat→Nat→Bool}
  (hDH:∀k b,DH k b=true↔b∈(rs k).D∨((rs k).lo≤b∧b<(rs k).hi)) (hDT:∀k t d,ds[k]? =some d→(DT k t=true↔d.o.dst=some t))
  (tr:Trace E call ds [] s s' ss vs rs ld) (hround:∀k,k≤ds.length→(ss k).round=s.round)
  (hnext:∀i j,i≤j→j≤ds.length→(ss i).h.next≤(ss j).h.next)
  {i:Nat} {o:Oper} {d:DOp} (ho:ops[i]? =some o) (hd:ds[i]? =some d) (hdo:d.o=cOper P M ops o) {L L':Nat→Bool} (hL:L i=false) (hL1:L' i=true) (hL2:∀k,k≠i→L' k=L k)
  (hh0:h0.next≤(ss 0).h.next)
  (hlt:∀k,k<i→L k=false→apartC (crec ss rs ld k) (crec ss rs ld i)=true∧∀e,ds[k]? =some e→slotsApart e d=true)
  (hgt:∀k,i<k→k<ds.length→L k=true→apartC (crec ss rs ld i) (crec ss rs ld k)=true∧∀e,ds[k]? =some e→slotsApart d e=true)
  (hpair:∀k t,k<t→t<ds.length→L k=false→L t=true→apartC (crec ss rs ld k) (crec ss rs ld t)=true)
  {a:Act} {w:World} (inv:Inv E base S0 f0 h0 w0 a0 ss rs ds N DH DT L a w)
  (k:∀a1 w1,Inv E base S0 f0 h0 w0 a0 ss rs ds N DH DT L' a1 w1→K a1 w1):wpOpIn (fen ro) 0 P ops Q i K a w:=by
 have hin:i<ds.length:=(A3.1 hd).1;obtain⟨near,hst⟩:=tr.step i d hd;have hheap:=bc hst;obtain⟨hlo,hhi,hnx,_⟩:=hheap;have htm:=tr.tm i d hd;obtain⟨⟨S,f,h,hg,hfr,hnext0,hget,hsz,htmps,hnew⟩,hdef⟩:=inv;have lo_of:∀k,k<ds.length→(rs k).lo=(ss k).h.next∧(rs k).hi=(ss (k+1)).h.next:=fun k hk=>by
  obtain⟨nr,hs⟩:=tr.step k _ (jk hk);obtain⟨q1,q2,_⟩:=bc hs;exact⟨q1,q2⟩
 have ldq:∀k p,k<ds.length→ld k=some p→∀b,DH k b=false:=fun k p hk hp b=>by
  have he:=jk hk;obtain⟨nr,hs⟩:=tr.step k _ he;obtain⟨q1,q2⟩:=mu (p:=p) (by rw[←tr.lds k _ he];exact hp) hs
  cases hb:DH k b with
  |false=>rfl
  |true=>
   rcases(hDH k b).1 hb with hx|hx
   ·rw[q1] at hx;cases hx
   ·omega
 have keepH:∀k b,DH k b=false→k<ds.length→(ss (k+1)).h.get b=(ss k).h.get b:=fun k b hb hk=>by
  obtain⟨nr,hs⟩:=tr.step k _ (jk hk);obtain⟨_,_,_,q⟩:=bc hs;have hn:¬(b∈(rs k).D∨((rs k).lo≤b∧b<(rs k).hi)):=fun hx=>by rw[(hDH k b).2 hx] at hb;cases hb
  exact q b (fun hx=>hn (.inl hx)) (fun hx=>hn (.inr hx))
 have keepT:∀k t,DT k t=false→k<ds.length→(ss (k+1)).tm.get t=(ss k).tm.get t:=fun k t ht hk=>by
  have he:=jk hk;rw[tr.tm k _ he];have hn:ds[k].o.dst≠some t:=fun hx=>by rw[(hDT k t _ he).2 hx] at ht;cases ht
  cases hdst:ds[k].o.dst with
  |none=>rfl
  |some u=>
   simp only[putDst,Tr.get_put];rw[if_neg (fun e=>hn (by rw[hdst,e]))]
 have allH:∀b,ov DH (fun k b=>(ss (k+1)).h.get b) i (fun _=>true) (ss 0).h.get b=(ss i).h.get b:=fun b=>by
  have:=lf (D:=fun k b=>if k<ds.length then DH k b else true) (st:=fun k b=>(ss k).h.get b) (b:=b) (fun k b hb=>by
   split at hb
   ·rename_i hk;exact keepH k b hb hk
   ·cases hb) i
  rw[←this];have gen:∀m,m≤ds.length→ov DH (fun k b=>(ss (k+1)).h.get b) m (fun _=>true) (ss 0).h.get b=ov (fun k b=>if k<ds.length then DH k b else true) (fun k b=>(ss (k+1)).h.get b) m (fun _=>true) (ss 0).h.get b:=by
   intro m
   induction m with
   |zero=>intro _;rfl
   |succ m ih=>intro hm;simp only[ov];rw[ih om,if_pos om]
  exact gen i om
 have allT:∀b,ov DT (fun k b=>(ss (k+1)).tm.get b) i (fun _=>true) (ss 0).tm.get b=(ss i).tm.get b:=fun b=>by
  have:=lf (D:=fun k b=>if k<ds.length then DT k b else true) (st:=fun k b=>(ss k).tm.get b) (b:=b) (fun k b hb=>by
   split at hb
   ·rename_i hk;exact keepT k b hb hk
   ·cases hb) i
  rw[←this];have gen:∀m,m≤ds.length→ov DT (fun k b=>(ss (k+1)).tm.get b) m (fun _=>true) (ss 0).tm.get b=ov (fun k b=>if k<ds.length then DT k b else true) (fun k b=>(ss (k+1)).tm.get b) m (fun _=>true) (ss 0).tm.get b:=by
   intro m
   induction m with
   |zero=>intro _;rfl
   |succ m ih=>intro hm;simp only[ov];rw[ih om,if_pos om]
  exact gen i om
 have seeT:∀t,t∈d.reads→ov DT (fun k t=>(ss (k+1)).tm.get t) ds.length L (ss 0).tm.get t=(ss i).tm.get t:=fun t ht=>by
  rw[←allT t,←lc ds.length (Nat.le_of_lt hin)];refine cU _ fun k hk=>?_
  have he:=jk hk;rcases Nat.lt_trichotomy k i with hki|hki|hki
  ·cases hLk:L k with
   |true=>exact .inl (by simp[hki])
   |false=>
    right;cases hdt:DT k t with
    |false=>rfl
    |true=>exact absurd ht ((cZ ((hlt k hki hLk).2 _ he)).1 t ((hDT k t _ he).1 hdt)).1
  ·subst hki;exact .inl (by simp[hL])
  ·cases hLk:L k with
   |false=>exact .inl (by rw[eq_comm];exact decide_eq_false om)
   |true=>
    right;cases hdt:DT k t with
    |false=>rfl
    |true=>exact absurd ht ((cZ ((hgt k hki hk hLk).2 _ he)).2 t ((hDT k t _ he).1 hdt))
 have seeH:ld i=none→(∀b∈(rs i).F,b<(ss i).h.next)→∀b,b∈(rs i).F→h.get b=(ss i).h.get b:=fun hld hF b hb=>by
  rw[hget,←allH b,←lc ds.length (Nat.le_of_lt hin)];refine cU _ fun k hk=>?_
  rcases Nat.lt_trichotomy k i with hki|hki|hki
  ·cases hLk:L k with
   |true=>exact .inl (by simp[hki])
   |false=>
    right;cases hdt:DH k b with
    |false=>rfl
    |true=>
     rcases bx (hlt k hki hLk).1 with hap|⟨p,hp,_⟩|⟨p,hp,_⟩
     ·have q:=(bd hap).1 b hb;rcases(hDH k b).1 hdt with hx|hx
      ·exact absurd hx q.1
      ·exact absurd hx q.2
     ·rw[hld] at hp;cases hp
     ·rw[ldq k p hk hp b] at hdt;cases hdt
  ·subst hki;exact .inl (by simp[hL])
  ·cases hLk:L k with
   |false=>exact .inl (by rw[eq_comm];exact decide_eq_false om)
   |true=>
    right;cases hdt:DH k b with
    |false=>rfl
    |true=>
     rcases bx (hgt k hki hk hLk).1 with hap|⟨p,hp,_⟩|⟨p,hp,_⟩
     ·have q:=(bd hap).2.1 b;rcases(hDH k b).1 hdt with hx|hx
      ·exact absurd hb (q hx)
      ·have:=hF b hb;have h1:=(lo_of k hk).1;have h2:=hnext (i+1) k om om;omega
     ·rw[ldq k p hk hp b] at hdt;cases hdt
     ·rw[hld] at hp;cases hp
 have htmR:TmR S f (pickTm (ss i).tm d.reads) a.tmps N:=⟨hsz,fun t v hv=>by
  rw[aw] at hv;split at hv
  ·rename_i hm;exact htmps t v (by rw[seeT t hm];exact hv)
  ·cases hv⟩
 have finish:∀(S1:Snap) (f1:Emb) (h1:AH) (w1:World) (x:Value),Goes0 E.globs base S f h w S1 f1 h1 w1→h1.next=h.next→(∀b,¬((rs i).lo≤b∧b<(rs i).hi)→f1 b=f b)→
   (∀b,DH i b=true→h1.get b=(ss (i+1)).h.get b)→(∀b,DH i b=false→h1.get b=h.get b)→Rel S1 f1 (vs i) x→(∀t,d.o.dst=some t→t<N)→
   Inv E base S0 f0 h0 w0 a0 ss rs ds N DH DT L' (a.put d.o.dst x) w1:=by
  intro S1 f1 h1 w1 x hg1 hn1 hf1 hi1 hi2 hrel hdst;have hle1:=hg1.le;refine⟨⟨S1,f1,h1,hg.trans hg1,fun b y hy hb=>?_,by rw[hn1,hnext0],fun b=>?_,?_,fun t v hv=>?_,fun k hk hLk b hb1 hb2=>?_⟩,?_⟩
  ·refine hfr b y ?_ hb;rw[←hf1 b]
   ·exact hy
   ·have h1:=hnext 0 i om om;have h2:=(lo_of i hin).1;omega
  ·cases hdb:DH i b with
   |true=>
    rw[hi1 b hdb];refine(tY (val:=fun k b=>(ss (k+1)).h.get b) ds.length hin hL1 hdb fun k hik hk hLk=>?_).symm;rw[hL2 k om] at hLk;rcases bx (hgt k hik hk hLk).1 with hap|⟨p,hp,_⟩|⟨p,hp,_⟩
    rotate_left
    ·exact ldq k p hk hp b
    ·rw[ldq i p hin hp b] at hdb;cases hdb
    have q:=bd hap;cases hdk:DH k b with
    |false=>rfl
    |true=>
     have h1:=(lo_of k hk).1;have h2:=hnext (i+1) k om om;have h3:=(lo_of i hin).2;rcases(hDH k b).1 hdk with hx|hx
     ·rcases(hDH i b).1 hdb with hy|hy
      ·exact absurd hy (q.2.2 b hx).1
      ·exact absurd hy (q.2.2 b hx).2
     ·rcases(hDH i b).1 hdb with hy|hy
      ·have:=(k9 hst b).2 hy;omega
      ·omega
   |false=>
    rw[hi2 b hdb,hget];refine cU _ fun k hk=>?_
    by_cases e:k=i
    ·subst e;exact .inr hdb
    ·exact .inl (hL2 k e).symm
  ·cases d.o.dst<;>simp[Act.put,hsz]
  ·cases hdt:DT i t with
   |true=>
    have hdt':=(hDT i t d hd).1 hdt;rw[tY (val:=fun k t=>(ss (k+1)).tm.get t) ds.length hin hL1 hdt fun k hik hk hLk=>?_] at hv
    ·rw[htm,hdt'] at hv;simp only[putDst,Tr.get_put,if_pos,sI] at hv;subst hv;rw[hdt'];exact⟨x,by simp[Act.put,hsz,hdst t hdt'],hrel⟩
    ·rw[hL2 k om] at hLk;have he:=jk hk;cases hdk:DT k t with
     |false=>rfl
     |true=>exact absurd ((hDT k t _ he).1 hdk) ((cZ ((hgt k hik hk hLk).2 _ he)).1 t hdt').2
   |false=>
    have hne:d.o.dst≠some t:=fun e=>by rw[(hDT i t d hd).2 e] at hdt;cases hdt
    rw[show ov DT (fun k t=>(ss (k+1)).tm.get t) ds.length L' (ss 0).tm.get t=ov DT (fun k t=>(ss (k+1)).tm.get t) ds.length L (ss 0).tm.get t from cU _ fun k hk=>by
     by_cases e:k=i
     ·subst e;exact .inr hdt
     ·exact .inl (hL2 k e)] at hv
    obtain⟨y,hy,hr⟩:=htmps t v hv;refine⟨y,?_,hr.le hle1 _ _⟩;cases hdst':d.o.dst with
    |none=>exact hy
    |some u=>
     simp only[Act.put,C3];rw[if_neg (fun e=>hne (by rw[hdst',e]))]
     exact hy
  ·have hki:k≠i:=fun e=>by subst e;rw[hL1] at hLk;cases hLk
   rw[hL2 k hki] at hLk;rw[hf1 b]
   ·exact hnew k hk hLk b hb1 hb2
   ·have q1:=lo_of k hk;have q2:=lo_of i hin;rcases Nat.lt_or_gt_of_ne hki with hlt'|hgt'
    ·have:=hnext (k+1) i om om;omega
    ·have:=hnext (i+1) k om om;omega
  ·rw[←hdef];cases d.o.dst<;>rfl
 unfold wpOpIn;simp only[ho];have hF:=k9 hst;unfold stepDraw at hst;simp only at hst;have hgd:∃g,d.o.guard=g∧(cGuard ops o.guard=some g∨∃w0,d.o.op=.bad w0):=by
  rcases bw P M ops o with⟨q,w0,e⟩|⟨g,ao,hg0,hao,hd0,e⟩
  ·exact⟨_,rfl,.inr ⟨w0,by rw[hdo,e]⟩⟩
  ·exact⟨g,by rw[hdo,e],.inl hg0⟩
 split at hst
 ·
  rename_i hwt;have hq:=aN hst;clear hst;obtain⟨hkn,hst⟩:=hq;rw[i9] at hkn;split at hst
  ·rename_i v1 s1 hrun;have hq:=aF hst;clear hst;obtain⟨hc,hq⟩:=hq;rw[i9,i9] at hc;simp only[pI] at hq;obtain⟨hv,hrs,hss⟩:=hq;rcases bw P M ops o with⟨q,w0,e⟩|⟨g,ao,hg0,hao,hd0,e⟩
   ·rw[hdo,e] at hrun;simp[runOp] at hrun
   ·have hdop:d.o.op=bif shown ao||isDefer ao then ao else .bad (opWord o.op):=by rw[hdo,e]
    have hdg:d.o.guard=g:=by rw[hdo,e]
    have hdd:d.o.dst=o.dst:=by rw[hdo,e]
    rw[hdg] at hwt;have hwant:=b6 (s:={tm:=pickTm (ss i).tm d.reads,h:=(ss i).h,defers:=[],round:=(ss i).round}) htmR hg0 hwt;rw[hwant,if_pos rfl];cases hs:shown ao with
    |false=>
     cases hde:isDefer ao with
     |false=>rw[hdop,hs,hde] at hrun;simp[runOp] at hrun
     |true=>
      rw[hdop,hs,hde] at hrun;cases ao with
      |defer x args=>
       simp only[Bool.or_true,cond_true,runOp] at hrun;split at hrun
       ·split at hrun
        ·simp only[sI,pI] at hrun;obtain⟨_,rfl⟩:=hrun;simp at hc
        ·cases hrun
       ·cases hrun
      |_=>simp[isDefer] at hde
    |true=>
     have hdop':d.o.op=ao:=by rw[hdop,hs];rfl
     have hl:(rs i).F=foot {tm:=pickTm (ss i).tm d.reads,h:=(ss i).h,defers:=[],round:=(ss i).round} (idsL (pickTm (ss i).tm d.reads).vals) d.o.op:=by rw[←hrs]
     generalize hvs:idsL (pickTm (ss i).tm d.reads).vals=vs' at hkn hrun hrs hl hc hss;rw[←hl] at hkn hrun hrs hc hss;have hkH:=kD hkn.2;cases hld:ld i with
     |some p=>
      have hl0:=tr.lds i d hd;rw[hld] at hl0;obtain⟨n0,x0,hop,hev,hw⟩:=kC hl0.symm;rw[hop] at hrun;have hmem:p.1∈(rs i).F:=by
       by_cases hm:p.1∈(rs i).F
       ·exact hm
       ·exfalso;have hev':St.eval {tm:=pickTm (ss i).tm d.reads,h:=restrictH (ss i).h (rs i).F,defers:=[],round:=(ss i).round} x0=some (.ptr p.1 p.2.1):=hev;simp only[runOp,hev',cellsFrom,bl,if_neg hm,Option.bind_none] at hrun;cases hrun
      have hrg:(restrictH (ss i).h (rs i).F).get p.1=(ss i).h.get p.1:=by rw[bl,if_pos hmem]
      have hlt0:=(hkH p.1 hmem).1;have notnew:∀k,i<k→k<ds.length→DH k p.1=true→p.1∈(rs k).D:=fun k hik hk hb=>by
       rcases(hDH k p.1).1 hb with hx|hx
       ·exact hx
       ·have h1:=(lo_of k hk).1;have h2:=hnext (i+1) k om om;omega
      have hsee:cellsAt p.2.1 p.2.2 (h.get p.1)=cellsAt p.2.1 p.2.2 ((ss i).h.get p.1):=by
       rw[hget];refine Gd (φ:=cellsAt p.2.1 p.2.2) (ver:=fun k b=>(ss k).h.get b) hin (ldq i p hin hld _) (fun k hk hb=>keepH k _ hb hk) (fun k hk hLk hb=>?_) (fun k hik hk hLk hb=>?_) (fun k t hik hkt htl hLk hLt hb1 hb2=>?_)
       ·rcases bx (hlt k hk hLk).1 with hap|⟨p',hp,he⟩|⟨p',hp,_⟩
        ·have q:=(bd hap).1 p.1 hmem;rcases(hDH k p.1).1 hb with hx|hx
         ·exact absurd hx q.1
         ·exact absurd hx q.2
        ·rw[hld] at hp;simp only[sI] at hp;subst hp;exact he.symm
        ·rw[ldq k p' om hp p.1] at hb;cases hb
       ·rcases bx (hgt k hik hk hLk).1 with hap|⟨p',hp,_⟩|⟨p',hp,he⟩
        ·exact absurd hmem ((bd hap).2.1 p.1 (notnew k hik hk hb))
        ·rw[ldq k p' hk hp p.1] at hb;cases hb
        ·rw[hld] at hp;simp only[sI] at hp;subst hp;exact he.symm
       ·rcases bx (hpair k t hkt htl hLk hLt) with hap|⟨p',hp,_⟩|⟨p',hp,_⟩
        ·exact((bd hap).2.2 p.1 (notnew t om htl hb2)).1 (notnew k hik om hb1)
        ·rw[ldq t p' htl hp p.1] at hb2;cases hb2
        ·rw[ldq k p' om hp p.1] at hb1;cases hb1
      have hrun2:=xG (s1:={tm:=pickTm (ss i).tm d.reads,h:=restrictH (ss i).h (rs i).F,defers:=[],round:=(ss i).round}) (s2:={tm:=pickTm (ss i).tm d.reads,h:=h,defers:=[],round:=(ss i).round}) hev hev hrun (by rw[←hw];show cellsAt _ _ ((restrictH (ss i).h (rs i).F).get p.1)=cellsAt _ _ (h.get p.1);rw[hrg,hsee])
      rw[hdop'] at hop;subst hop;obtain⟨t0,xx,hopq,hn0,hc0⟩:=yv hao;obtain⟨_,z,hz,hrz⟩:=va (s:={tm:=pickTm (ss i).tm d.reads,h:=h,defers:=[],round:=(ss i).round}) htmR hg.wr hn0 hc0 hrun2;have hout:OpOut P (execOp a.eval o) w (fun x w'=>w'=w∧Rel S f v1 x):=by
       have e:execOp a.eval o=(do pure (Next.value (←Instr.loadAt t0 (a.eval xx)))):=by
        unfold execOp;simp only[hopq]
       rw[e];exact nU hz ⟨rfl,hrz⟩
      refine eT ro (db hao hs) hout fun x w1 hleft=>?_
      obtain⟨rfl,hrel⟩:=hleft;rw[←hdd];refine k _ _ (finish S f h w1 x ⟨.refl _ _,hg.wr,.refl _ _,fun _ _ _ _ _=>⟨aQ rfl,fun _ _=>rfl⟩,bB⟩ rfl (fun _ _=>rfl) (fun b hb=>?_) (fun _ _=>rfl) (by rw[←hv];exact hrel) fun t ht=>?_)
      ·rw[ldq i p hin hld b] at hb;cases hb
      ·exact U25
     |none=>
     have see:=seeH hld (fun b hb=>(hkH b hb).1);have hin1:∀b,(restrictH (ss i).h (rs i).F).get b=if b∈(rs i).F then h.get b else none:=fun b=>by
      rw[bl];split
      ·rename_i hm;exact(see b hm).symm
      ·rfl
     have wrp:=hg.wr.part (hin:=restrictH (ss i).h (rs i).F) hin1 (fun b hb=>(hkH b hb).1) (fun b hb kk hkk c hcc=>(hkH b hb).2 kk (by rw[←see b hb];exact hkk) c hcc)
     have htmR':TmR S (cutE f (restrictH (ss i).h (rs i).F).next) (pickTm (ss i).tm d.reads) a.tmps N:=⟨hsz,fun t v hv'=>by
      obtain⟨x,hx,hr⟩:=htmR.get t v hv';refine⟨x,hx,hr.restr _ _ fun b hb=>?_⟩;have:b<(ss i).h.next:=eJ hkn.1 b (by rw[←hvs];exact gW (fx hv') hb)
      exact if_pos this⟩
     rw[hdop'] at hrun;obtain⟨_,_,hout⟩:=jS (s:={tm:=pickTm (ss i).tm d.reads,h:=restrictH (ss i).h (rs i).F,defers:=[],round:=(ss i).round}) hP hcall hm htmR' wrp hao hs hrun;refine eT ro (db hao hs) hout fun x w1 hleft=>?_
     obtain⟨S1,f1,hgo,hrel⟩:=hleft;have hDs:(rs i).D=bif isCall d.o.op then(rs i).F.filter fun b=> !(memN (vs'++near) b&&eqB ((ss i).h.get b) (s1.h.get b)) else turned {tm:=pickTm (ss i).tm d.reads,h:=restrictH (ss i).h (rs i).F,defers:=[],round:=(ss i).round} d.o.op:=by
      have:=congrArg DRec.D hrs;exact this.symm
     rw[←hDs] at hc hss;have hlo':(rs i).lo=(ss i).h.next:=hlo;have hhi':(rs i).hi=s1.h.next:=by rw[←hrs]
     let h':AH:=⟨h.next,copyNew s1.h (ss i).h.next (s1.h.next-(ss i).h.next) (copyOld s1.h (rs i).D h.tr)⟩
     have hnx1:(ss i).h.next≤s1.h.next:=is hc.1.2;have h'get:∀b,h'.get b=if b∈(rs i).D∨((ss i).h.next≤b∧b<s1.h.next) then s1.h.get b else h.get b:=fun b=>by
      show(copyNew s1.h (ss i).h.next (s1.h.next-(ss i).h.next) (copyOld s1.h (rs i).D h.tr)).get b=_;rw[dY,ej]
      by_cases q1:(ss i).h.next≤b∧b<s1.h.next
      ·rw[if_pos om,if_pos (.inr q1)]
      ·rw[if_neg om]
       by_cases q2:b∈(rs i).D
       ·rw[if_pos q2,if_pos (.inl q2)]
       ·rw[if_neg q2,if_neg (fun hx=>hx.elim q2 q1)];rfl
     have ss1:∀b,DH i b=true→(ss (i+1)).h.get b=s1.h.get b:=fun b hb=>by
      rw[←hss,ll,if_pos];rcases(hDH i b).1 hb with hx|hx
      ·exact .inl hx
      ·exact .inr (by rw[hlo',hhi'] at hx;exact hx)
     obtain⟨f2,hle2,hg2,hf2⟩:=frame (h':=h') (D:=fun b=>b∈(rs i).D) hg.wr hin1 (fun b hb=>(hkH b hb).1)
      (by
       rw[hnext0];have:=hnext (i+1) ds.length om (i7 _);rw[←hss] at this;exact this) rfl
      (fun b hb1 hb2=>hnew i hin hL b (by rw[hlo'];exact hb1) (by rw[hhi'];exact hb2)) hgo
      (fun b hb hnD=>by
       rw[hDs] at hnD;have hbl:=(hkH b hb).1;cases hcl:isCall d.o.op with
       |true=>
        simp only[hcl,cond_true,jy,not_and,Au] at hnD;have hx:=hnD hb;have hx:eqB ((ss i).h.get b) (s1.h.get b)=true:=by
         cases hy:(memN (vs'++near) b&&eqB ((ss i).h.get b) (s1.h.get b)) with
         |true=>rw[i9] at hy;exact hy.2
         |false=>simp[hy] at hx
        rw[←Ni hx,bl,if_pos hb]
       |false=>
        simp only[hcl,cond_false] at hnD;rw[hdop'] at hcl hnD;refine wj hcl hrun b hbl ?_
        cases hmm:memN (turned {tm:=pickTm (ss i).tm d.reads,h:=restrictH (ss i).h (rs i).F,defers:=[],round:=(ss i).round} ao) b with
        |false=>rfl
        |true=>exact absurd (dN.1 hmm) hnD)
      (fun b hb=>eJ hc.2 b hb)
      (fun b hb=>(h'get b).trans (if_pos hb)) (fun b hb=>(h'get b).trans (if_neg hb))
     have hrel2:Rel S1 f2 (vs i) x:=by rw[←hv];exact hrel.le hle2 _ _
     rw[←hdd];refine k _ _ (finish S1 f2 h' w1 x hg2 rfl (fun b hb=>hf2 b (by rw[hlo',hhi'] at hb;exact hb)) (fun b hb=>?_) (fun b hb=>?_) hrel2 fun t ht=>?_)
     ·rw[ss1 b hb,h'get,if_pos];rcases(hDH i b).1 hb with hx|hx
      ·exact .inl hx
      ·exact .inr (by rw[hlo',hhi'] at hx;exact hx)
     ·rw[h'get,if_neg];intro hx;rw[(hDH i b).2 (hx.imp id fun hy=>by rw[hlo',hhi'];exact hy)] at hb
      cases hb
     ·exact U25
  ·cases hst
 ·
  rename_i hwt;simp only[sI,pI] at hst;obtain⟨hv,hrs,hss⟩:=hst;rcases bw P M ops o with⟨q,w0,e⟩|⟨g,ao,hg0,hao,hd0,e⟩
  ·have:d.o.guard=none:=by rw[hdo,e]
   rw[this] at hwt;simp[wantedA] at hwt
  ·have hdg:d.o.guard=g:=by rw[hdo,e]
   have hdd:d.o.dst=o.dst:=by rw[hdo,e]
   rw[hdg] at hwt;have hwant:=b6 (s:={tm:=pickTm (ss i).tm d.reads,h:=(ss i).h,defers:=[],round:=(ss i).round}) htmR hg0 hwt;rw[hwant,if_neg (by simp),←hdd]
   refine⟨fun _ _=>mA ro _,k _ _ (finish S f h w undef ⟨.refl _ _,hg.wr,.refl _ _,fun _ _ _ _ _=>⟨aQ rfl,fun _ _=>rfl⟩,bB⟩ rfl (fun _ _=>rfl) (fun b hb=>?_) (fun _ _=>rfl) (by rw[←hv];exact bi) fun t ht=>?_)⟩
   ·exfalso;rcases(hDH i b).1 hb with hx|hx
    ·rw[←hrs] at hx;cases hx
    ·rw[←hrs] at hx;simp only at hx;omega
   ·exact U25
 ·cases hst
theorem eQ{call:Cle→List AV→AH→Option (AV×AH)}{ds:List DOp}{ss:Nat→St}{vs:Nat→AV}{rs:Nat→DRec}{ld:Nat→Option (Nat×Nat×Nat)}(tr:Trace E call ds [] s s' ss vs rs ld):∀k,k≤ds.length→(ss k).round=s.round
 |0,_=>by rw[tr.first]
 |k+1,hk=>by rw[tr.round k om];exact eQ tr k om
theorem Ds{call:Cle→List AV→AH→Option (AV×AH)}(hP:E.P=P)(hcall:CallOk P E call)(hm:MethOk P E){M:Nat}(hM:M≤N){ro:Option Nat}{ops:Array Oper}{full ds:List DOp}{Q:Exit→Act→World→Prop}
  {S0:Snap} {f0:Emb} {w0:World} {a0:Act} {ss:Nat→St} {vs:Nat→AV} {rs:Nat→DRec} {ld:Nat→Option (Nat×Nat×Nat)} {DH DT:Nat→Nat→Bool}
  (hDH:∀k b,DH k b=true↔b∈(rs k).D∨((rs k).lo≤b∧b<(rs k).hi)) (hDT:∀k t d,ds[k]? =some d→(DT k t=true↔d.o.dst=some t))
  (hcd:cDraw P M ops=some full) (hpre:full=ds∨∃d,full=ds++[d]∧d.free=[]) (tr:Trace E call ds [] s s' ss vs rs ld) (hnext:∀i j,i≤j→j≤ds.length→(ss i).h.next≤(ss j).h.next)
  (fin:∀a w,Inv E base S0 f0 s.h w0 a0 ss rs ds N DH DT (fun _=>true) a w→(ds.length=ops.size→Q .normal a w)∧(ds.length+1=ops.size→wpOpIn (fen ro) 0 P ops Q ds.length (fun a1 w1=>Q .normal a1 w1) a w)):
  ∀(fuel:Nat) (listed:Array Bool) (a:Act) (w:World),listed.size=ops.size→left (fun k=>listed.getD k false) ops.size≤fuel→(ds.length<ops.size→listed.getD ds.length false=false)→
   (∀j o,ops[j]? =some o→listed.getD j false=true→∀e∈o.after,Region.binds .any e=true→listed.getD e.on false=true)→
   Inv E base S0 f0 s.h w0 a0 ss rs ds N DH DT (fun k=>listed.getD k false) a w→wpAnyIn (fen ro) 0 P .any ops Q fuel listed a w:=by
 obtain⟨pr,hp1,hlen,hds0,hfree0⟩:=fu hcd;have hcase:ds.length=ops.size∨(ds.length+1=ops.size∧∃d,full=ds++[d]∧d.free=[]):=by
  rcases hpre with e|⟨d,e,hf⟩
  ·exact .inl (by rw[←e];exact hlen)
  ·exact .inr ⟨by rw[←hlen,e,io];rfl,d,e,hf⟩
 have hold:∀j,j<ds.length→full[j]? =ds[j]? :=fun j hj=>by
  rcases hpre with e|⟨d,e,_⟩
  ·rw[e]
  ·rw[e,List.getElem?_append_left hj]
 have hds:∀(j:Nat) (o:Oper),j<ds.length→ops[j]? =some o→∃d,ds[j]? =some d∧d.o=cOper P M ops o∧∀i,i<j→i∉pr.getD j []→i∈d.free:=fun j o hj ho=>by
  obtain⟨d,h1,h2,h3⟩:=hds0 j o ho;exact⟨d,by rw[←hold j hj];exact h1,h2,h3⟩
 have hfree:∀(j:Nat) (d:DOp),ds[j]? =some d→∀i∈d.free,i<ds.length→∃e,ds[i]? =some e∧slotsApart e d=true:=fun j d hd i hi hil=>by
  have hj:=(A3.1 hd).1;obtain⟨e,h1,h2⟩:=hfree0 j d (by rw[hold j hj];exact hd) i hi
  exact⟨e,by rw[←hold i hil];exact h1,h2⟩
 have whole:∀(listed:Array Bool) (a:Act) (w:World),(∀k,k<ds.length→listed.getD k false=true)→Inv E base S0 f0 s.h w0 a0 ss rs ds N DH DT (fun k=>listed.getD k false) a w→Inv E base S0 f0 s.h w0 a0 ss rs ds N DH DT (fun _=>true) a w:=by
  intro listed a w all inv;refine⟨?_,inv.d⟩;obtain⟨S,f,h,h1,h2,h3,h4,h5,h6,h7⟩:=inv.ex;refine⟨S,f,h,h1,h2,h3,fun b=>?_,h5,fun t v hv=>h6 t v ?_,fun k hk hl=>by cases hl⟩
  ·rw[h4];exact cU _ fun k hk=>.inl (all k om)
  ·rw[←hv];exact cU _ fun k hk=>.inl (all k om)
 have done:∀(listed:Array Bool) (a:Act) (w:World),listed.size=ops.size→Region.ready .any ops listed=[]→(ds.length<ops.size→listed.getD ds.length false=false)→Inv E base S0 f0 s.h w0 a0 ss rs ds N DH DT (fun k=>listed.getD k false) a w→Q .normal a w:=by
  intro listed a w hsz hr hla inv;have all:∀k,k<ops.size→listed.getD k false=true:=by
   intro k
   induction k using Bk with
   |_ k ih=>
   intro hk;cases hl:listed.getD k false with
   |true=>rfl
   |false=>
    exfalso;have ho:=Ab hk;have hmem:k∈Region.ready .any ops listed:=by
     refine mem_ready.2 ⟨?_,_,ho,fun e he hb=>?_⟩
     ·rw[Ak,Ab om] at hl⊢
      simpa using hl
     ·have:=(eS hp1 k _ (by simpa using ho)).1 e he hb
      exact ih e.on om om
    rw[hr] at hmem;cases hmem
  rcases hcase with e|⟨e,_⟩
  ·exact(fin a w (whole listed a w (fun k hk=>all k om) inv)).1 e
  ·have h1:=hla om;rw[all ds.length om] at h1;cases h1
 intro fuel
 induction fuel with
 |zero=>
  intro listed a w hsz hleft hla hdown inv;have hall:=ni ops.size (Nat.le_zero.1 hleft);have hr:Region.ready .any ops listed=[]:=by
   cases hr:Region.ready .any ops listed with
   |nil=>rfl
   |cons k r=>
    exfalso;have hk:k∈Region.ready .any ops listed:=by rw[hr];simp
    obtain⟨h1,o,ho,_⟩:=mem_ready.1 hk;have hks:=(Bf.1 ho).1;have:=hall k hks;rw[Ak,Ab om] at h1 this;simp at h1 this;rw[h1] at this;cases this
  exact⟨hr,done listed a w hsz hr hla inv⟩
 |succ fuel ih=>
  intro listed a w hsz hleft hla hdown inv;refine⟨fun hr=>done listed a w hsz hr hla inv,fun i hi=>?_⟩;obtain⟨h1,o,ho,hall⟩:=mem_ready.1 hi;have his:=(Bf.1 ho).1;have hLi:listed.getD i false=false:=by
   rw[Ak,Ab om] at h1⊢
   simpa using h1
  have hset1:(listed.setIfInBounds i true).getD i false=true:=by
   simp[Ak,hsz,his]
  have hset2:∀k,k≠i→(listed.setIfInBounds i true).getD k false=listed.getD k false:=fun k hk=>by
   simp[Ak,Array.getElem?_setIfInBounds_ne (Ne.symm hk)]
  have clos:=qH (L:=fun k=>listed.getD k false) hp1 hdown
  by_cases hil:ds.length≤i
  ·
   rcases hcase with e|⟨e,dl,hdl,hdf⟩
   ·omega
   ·have hi':i=ds.length:=by omega
    have hbef:∀k,k<ds.length→listed.getD k false=true:=fun k hk=>by
     obtain⟨dd,q1,_,q3⟩:=hds0 i o ho;have e2:dd=dl:=by
      rw[hdl,hi',Bp (i7 _),Nat.sub_self] at q1
      simpa using q1.symm
     subst e2;have hm:k∈pr.getD i []:=by
      rcases Classical.em (k∈pr.getD i []) with q|q
      ·exact q
      ·have:=q3 k om q;rw[hdf] at this;cases this
     exact clos i o ho hall k hm
    have hfin:=(fin a w (whole listed a w hbef inv)).2 e;rw[←hi'] at hfin;refine wpOpIn_mono (fun a1 w1 hQ=>?_) hfin;have hr:Region.ready .any ops (listed.setIfInBounds i true)=[]:=by
     cases hr:Region.ready .any ops (listed.setIfInBounds i true) with
     |nil=>rfl
     |cons k r=>
      exfalso;have hk:k∈Region.ready .any ops (listed.setIfInBounds i true):=by rw[hr];simp
      obtain⟨g1,o',ho',_⟩:=mem_ready.1 hk;have hks:=(Bf.1 ho').1;have h2:(listed.setIfInBounds i true).getD k false=true:=by
       by_cases ek:k=i
       ·rw[ek];exact hset1
       ·rw[hset2 k ek];exact hbef k om
      rw[Ak,Ab (by simpa [hsz] using hks)] at g1 h2
      simp at g1 h2;rw[g1] at h2;cases h2
    cases fuel with
    |zero=>exact⟨hr,hQ⟩
    |succ fuel=>exact⟨fun _=>hQ,fun j hj=>by rw[hr] at hj;cases hj⟩
  have hil:i<ds.length:=by omega
  obtain⟨d,hd,hdo,hfr⟩:=hds i o hil ho;have recs:∀k (e:DOp),ds[k]? =some e→∀j∈e.free,apartC (crec ss rs ld j) (crec ss rs ld k)=true∧∀q,ds[j]? =some q→slotsApart q e=true:=by
   intro k e he j hj;obtain⟨r,q1,q2⟩:=tr.free k e he j hj;simp only[iz,Ag,iw] at q1;obtain⟨j',hj',rfl⟩:=q1;have:j'=j:=by
    have:=A3.1 hj';obtain⟨_,e2⟩:=this
    simpa using e2.symm
   subst this;refine⟨q2,fun q hq=>?_⟩;obtain⟨q',hq',hsl⟩:=hfree k e he j' hj (by have:=(A3.1 hq).1;exact this)
   rw[hq] at hq';simp only[sI] at hq';subst hq';exact hsl
  refine xX (L:=fun k=>listed.getD k false) (L':=fun k=>(listed.setIfInBounds i true).getD k false) hP hcall hm hM hDH hDT tr (fun k hk=>eQ tr k hk) hnext ho hd hdo hLi hset1 hset2 (by rw[tr.first];exact i7 _) (fun k hk hLk=>?_) (fun k hk hkl hLk=>?_) (fun k t hkt htl hLk hLt=>?_) inv fun a1 w1 inv1=>?_
  ·have hnot:k∉pr.getD i []:=fun hm=>by
    have:=clos i o ho hall k hm;rw[hLk] at this;cases this
   exact recs i d hd k (hfr k hk hnot)
  ·have hks:k<ops.size:=by omega
   have hok:=Ab hks;obtain⟨e,he,heo,hfe⟩:=hds k _ hkl hok;have hnot:i∉pr.getD k []:=fun hm=>by
    have:=clos k _ hok (hdown k _ hok hLk) i hm;rw[hLi] at this;cases this
   obtain⟨q1,q2⟩:=recs k e he i (hfe i hk hnot);exact⟨q1,fun e' he'=>by rw[he] at he';simp only[sI] at he';subst he';exact q2 d hd⟩
  ·have hts:t<ops.size:=by omega
   have hot:=Ab hts;obtain⟨e,he,heo,hfe⟩:=hds t _ htl hot;have hnot:k∉pr.getD t []:=fun hm=>by
    have:=clos t _ hot (hdown t _ hot hLt) k hm;rw[hLk] at this;cases this
   exact(recs t e he k (hfe k hkt hnot)).1
  ·refine ih _ a1 w1 (by simpa using hsz) ?_ (fun hlt=>by rw[hset2 _ om];exact hla hlt) (fun j oj hoj hLj e he hb=>?_) inv1
   ·have:=rU (L:=fun k=>listed.getD k false) (L':=fun k=>(listed.setIfInBounds i true).getD k false) hLi hset1 hset2 ops.size;rw[if_pos his] at this;omega
   ·by_cases hji:j=i
    ·subst hji;rw[ho] at hoj;simp only[sI] at hoj;subst hoj;have:=hall e he hb
     by_cases hei:e.on=j
     ·rw[hei];exact hset1
     ·rw[hset2 _ hei];exact this
    ·rw[hset2 j hji] at hLj;have:=hdown j oj hoj hLj e he hb
     by_cases hei:e.on=i
     ·rw[hei];exact hset1
     ·rw[hset2 _ hei];exact this
theorem fo (hP : E.P = P) (hm : MethOk P E) (hmix : P.follows .mixedOrders = true) {n : Nat} (hc : ∀ m, m < n → CallOk P E (aZ E (exec E m))) : DrawOk P E n := by
  intro M id ops s s' e base ro S f a w N Q hM hrun mid k;cases n with
  | zero => simp [exec] at hrun
  | succ n =>
    have hcall := hc n om;simp only [cCode, if_true] at hrun;split at hrun
    · rename_i full hds
      simp only [exec, iw, pI] at hrun;obtain ⟨s2, hr0, rfl, rfl⟩ := hrun;have hcs : ∃ ds s1, (full = ds ∧ s1 = s2 ∨ ∃ d, full = ds ++ [d] ∧ d.free = [] ∧ runOps E (aZ E (exec E n)) [d.o] s1 = some s2) ∧ runDrawC E (aZ E (exec E n)) ds [] s = some s1 := by
        unfold runDrawX at hr0;split at hr0
        · rename_i pre d hls
          obtain ⟨e1, e2⟩ := eF hls;split at hr0
          · rename_i s1 hr1
            exact ⟨pre, s1, .inr ⟨d, e1, e2, hr0⟩, hr1⟩
          · cases hr0
        · exact ⟨full, s2, .inl ⟨rfl, rfl⟩, hr0⟩
      obtain ⟨ds, s1, hcs, hr⟩ := hcs;have hpre : full = ds ∨ ∃ d, full = ds ++ [d] ∧ d.free = [] := hcs.imp (fun h => h.1) fun ⟨d, h1, h2, _⟩ => ⟨d, h1, h2⟩;have hlen0 : full.length = ops.size := (fu hds).choose_spec.2.1;obtain ⟨ss, vs, rs, ld, tr⟩ := mz ds [] s s1 hr;have hnext1 : ∀ j, j < ds.length → (ss j).h.next ≤ (ss (j + 1)).h.next := fun j hj => by
        obtain ⟨nr, hs⟩ := tr.step j _ (jk hj);exact (bc hs).2.2.1
      have hnext : ∀ i j, i ≤ j → j ≤ ds.length → (ss i).h.next ≤ (ss j).h.next := by
        intro i j hij
        induction j with
        | zero => intro _; have : i = 0 := by omega
                  subst this; exact i7 _
        | succ j ih =>
          intro hj
          by_cases e : i = j + 1
          · subst e; exact i7 _
          · exact Aj (ih om om) (hnext1 j om)
      let DH : Nat → Nat → Bool := fun k b => memN (rs k).D b || (i6 (rs k).lo b && iq b (rs k).hi)
      let DT : Nat → Nat → Bool := fun k t => match ds[k]? with | some d => (match d.o.dst with | some u => i5 u t | none => false) | none => false
      have hDH : ∀ k b, DH k b = true ↔ b ∈ (rs k).D ∨ ((rs k).lo ≤ b ∧ b < (rs k).hi) := fun k b => by
        simp only [DH, Am, i9, dN];exact or_congr Iff.rfl (and_congr ⟨is, Aq⟩ ⟨is, Aq⟩)
      have hDT : ∀ k t d, ds[k]? = some d → (DT k t = true ↔ d.o.dst = some t) := fun k t d hd => by
        simp only [DT, hd];cases d.o.dst with
        | none => simp
        | some u => simp only [sI]; exact ⟨ij, fun e => by subst e; exact je _⟩
      refine wpIn_region_any hmix ?_
      have wr0 : WR E.globs base S f ⟨(ss ds.length).h.next, s.h.tr⟩ w.drew := by
        have r := mid.wr.drew;refine ⟨r.snap, r.glob, r.blk, r.apart, fun b x hx => ?_, r.le⟩;have h1 := r.dom b x hx;have h2 := hnext 0 ds.length om (i7 _);rw [tr.first] at h2
        show b < (ss ds.length).h.next;omega
      refine Ds (base := base) (S0 := S) (f0 := f) (w0 := w) (a0 := a) hP hcall hm hM hDH hDT hds hpre tr hnext (fun a1 w1 inv => ?_) ops.size _ a w.drew (by simp) ?_ (fun hlt => ?_) (fun j o _ hl => ?_) ⟨⟨S, f, ⟨(ss ds.length).h.next, s.h.tr⟩, ?_, fun _ _ h _ => h, rfl, fun b => ?_, mid.tm.size, fun t v hv => ?_, fun q hq _ b hb1 _ => ?_⟩, rfl⟩
      ·
        obtain ⟨S1, f1, h1, g1, g2, g3, g4, g5, g6, g7⟩ := inv.ex;have stepH : ∀ k b, (if k < ds.length then DH k b else true) = false → (ss (k + 1)).h.get b = (ss k).h.get b := fun k b hb => by
          split at hb
          · rename_i hk
            obtain ⟨nr, hs⟩ := tr.step k _ (jk hk);obtain ⟨_, _, _, q⟩ := bc hs;have hn : ¬ (b ∈ (rs k).D ∨ ((rs k).lo ≤ b ∧ b < (rs k).hi)) := fun hx => by rw [(hDH k b).2 hx] at hb; cases hb
            exact q b (fun hx => hn (.inl hx)) (fun hx => hn (.inr hx))
          · cases hb
        have stepT : ∀ k t, (if k < ds.length then DT k t else true) = false → (ss (k + 1)).tm.get t = (ss k).tm.get t := fun k t ht => by
          split at ht
          · rename_i hk
            have he := jk hk;rw [tr.tm k _ he];have hn : ds[k].o.dst ≠ some t := fun hx => by rw [(hDT k t _ he).2 hx] at ht; cases ht
            cases hdst : ds[k].o.dst with
            | none => rfl
            | some u =>
              simp only [putDst, Tr.get_put];rw [if_neg (fun e => hn (by rw [hdst, e]))]
          · cases ht
        have gen : ∀ {α : Type} (D : Nat → Nat → Bool) (val : Nat → Nat → Option α) (g : Nat → Option α) (b m : Nat), m ≤ ds.length → ov D val m (fun _ => true) g b = ov (fun k b => if k < ds.length then D k b else true) val m (fun _ => true) g b := by
          intro α D val g b m
          induction m with
          | zero => intro _; rfl
          | succ m ih => intro hm; simp only [ov]; rw [ih om, if_pos om]
        have hh : ∀ b, s1.h.get b = h1.get b := fun b => by
          rw [g4, gen DH _ _ b _ (i7 _), ← tr.last];exact (lf (st := fun k b => (ss k).h.get b) stepH ds.length).symm
        have ht : ∀ t, s1.tm.get t = ov DT (fun k t => (ss (k + 1)).tm.get t) ds.length (fun _ => true) (ss 0).tm.get t := fun t => by
          rw [gen DT _ _ t _ (i7 _), ← tr.last];exact (lf (st := fun k b => (ss k).tm.get b) stepT ds.length).symm
        have hn1 : s1.h.next = h1.next := by rw [g3, ← tr.last]
        have wrf := g1.wr.congr (h' := s1.h) hn1 hh;have hnx : s.h.next ≤ s1.h.next := by
          have := hnext 0 ds.length om (i7 _);rw [tr.first, tr.last] at this; exact this
        have hrd : s1.round = s.round := by rw [← tr.last]; exact eQ tr ds.length (i7 _)
        have hdf : s1.defers = s.defers := by
          rw [← tr.last];have : ∀ m, m ≤ ds.length → (ss m).defers = s.defers := by
            intro m
            induction m with
            | zero => intro _; rw [tr.first]
            | succ m ih => intro hm; rw [tr.defers m om]; exact ih om
          exact this _ (i7 _)
        have goes1 : Goes E.globs base S f s.h w S1 f1 s1.h w1 := ⟨g1.le, wrf, g1.below, g1.keep, fun b B O R hb hf => g1.live b B O R (by rw [← hh]; exact hb) hf, g2, hnx⟩
        have mid1 : Mid E base ro S1 f1 s1 a1 w1 N := ⟨⟨g5, fun t v hv => g6 t v (by rw [← ht]; exact hv)⟩, wrf, by rw [hdf, inv.d]; exact mid.d.le g1.le, by rw [hrd]; exact mid.r.le g1.le⟩
        refine ⟨fun hsz => ?_, fun hsz => ?_⟩
        · rcases hcs with ⟨_, rfl⟩ | ⟨d, e1, _, _⟩
          · exact k a1 w1 S1 f1 goes1 mid1 hrd
          · rw [e1, io] at hlen0
            simp only [im, List.length_nil] at hlen0;omega
        · rcases hcs with ⟨e1, _⟩ | ⟨d, e1, _, hlast⟩
          · rw [e1] at hlen0; omega
          · have hio : ops[ds.length]? = some ops[ds.length] := Ab om
            obtain ⟨pr', _, _, hd2, _⟩ := fu hds;obtain ⟨d', q1, q2, _⟩ := hd2 ds.length _ hio;have e2 : d' = d := by
              rw [e1, Bp (i7 _), Nat.sub_self] at q1
              simpa using q1.symm
            subst e2;rw [q2] at hlast;refine dz hP hcall hm hM mid1 hio hlast fun s3 a3 w3 S3 f3 g3' t3 r3 hr3 => ?_
            simp only [runOps, sI] at hr3;subst hr3;exact k a3 w3 S3 f3 (goes1.trans g3') t3 (r3.trans hrd)
      · have : ∀ m, m ≤ ops.size → left (fun k => (C6 ops.size false).getD k false) m ≤ m := by
          intro m
          induction m with
          | zero => intro _; simp [left]
          | succ m ih => intro hm; simp only [left]; have := ih om; split <;> omega
        exact this _ (i7 _)
      · simp only [Ak, Ch]
        split <;> simp
      · exfalso
        simp only [Ak, Ch] at hl;split at hl <;> simp at hl
      · refine ⟨.refl _ _, wr0, (Below.refl _ _).drew, fun _ _ _ _ _ => ⟨aQ rfl, fun _ _ => rfl⟩, bB⟩
      · rw [pE, tr.first]; rfl
        intro q hq;simp only [Ak, Ch];split <;> simp
      · rw [pE, tr.first] at hv
        · exact mid.tm.get t v hv
        · intro q hq
          simp only [Ak, Ch];split <;> simp
      · cases hfb : f b with
        | none => rfl
        | some x =>
          have h1 := mid.wr.dom b x hfb;obtain ⟨nr, hs⟩ := tr.step q _ (jk hq);have h2 := (bc hs).1;have h3 := hnext 0 q om om;rw [tr.first] at h3
          omega
    · simp [exec] at hrun
theorem bm(ok:EnvOk P E)(n:Nat):CallOk P E (aZ E (exec E n)):=
 sx ok (fun _ hc=>fo ok.prog ok.meth ok.mixed hc) n
end Go.AM
