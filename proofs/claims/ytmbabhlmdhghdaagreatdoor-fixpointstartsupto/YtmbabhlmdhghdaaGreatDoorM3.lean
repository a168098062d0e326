/- XAmE XAmAj XAmAk XAmAl XAmAm XAmAn XAmAo XAmAp XAmAq XAmAr -/
import Derived.Test.YtmbabhlmdhghdaaGreatDoorM2
import Derived.RangeFuncCalls
import Derived.RangeFuncIn
import Derived.RangeFuncRecord
import Derived.RangeFuncLeaves
set_option linter.all false
open Option.some renaming injEq->sI
open Prod.mk renaming injEq->pI
open Option renaming some->Z, none->Y
open Bool renaming true->J, false->U
open Array renaming getD_eq_getD_getElem?->Al, getElem?_eq_getElem->Af, getElem?_eq_some_iff->As, getElem?_replicate->Bd, getElem?_setIfInBounds->Bj
open Bool renaming and_eq_true->im, false_eq_true->A6, or_eq_true->Aq
open List renaming all_eq_true->j3, cons_append->jj, getElem?_cons_zero->Bk, getElem?_eq_getElem->ji, getElem?_eq_some_iff->Au, mapM_cons->Ap, map_cons->jk, mem_cons->jl, mem_singleton->jb, range->Ac
open Nat renaming beq->ig, ble->ii, ble_eq_true_of_le->Aj, blt->ir, eq_of_beq_eq_true->iu, le_of_ble_eq_true->j6, le_refl->ij, lt_of_lt_of_le->jw, lt_or_ge->A1, strongRecOn->Aw
open Option renaming bind_eq_some_iff->j7, isSome_iff_exists->Ai, map_eq_some_iff->A8
namespace Go.AM
mutual
def ids:AV->List Nat
 |.val _|.imm .. |.bD _=>[]
 |.agg cs|.tup cs=>aQ cs
 |.own b .. |.ptr b _|.mp b|.it b|.yld b=>[b]
 |.ifc _ v=>ids v
 |.fn _ a b=>aQ a++aQ b
def aQ:List AV->List Nat
 | []=>[]
 |c::r=>ids c++aQ r
end
def Tr.ag{α:Type}:Tr α->List α
 |.nil=>[]
 |.nd l v r=>(match v with|some x=>[x]|none=>[])++(l.ag++r.ag)
def hE:Blk->List Nat
 |.cells cs _=>aQ cs
 |.map es=>aQ (es.map (·.2))
 |.hZ es=>aQ (es.map (·.2))
 |.iter .. |.ft Y|.dfr _=>[]
 |.ft (Z m)|.kZ m _|.nU m _ _=>[m]
 |.loop tm .. =>aQ tm.ag
 |.tag b _ _=>[b]
def reach(h:AH):Nat->List Nat->List Nat->List Nat
 |0,_,seen=>seen
 |_+1,[],seen=>seen
 |n+1,b::r,seen=>bif b9 seen b then reach h n r seen else reach h n ((match h.get b with|some k=>hE k|none=>[])++r) (b::seen)
def aK(tm:Tr AV):List Nat->Tr AV
 | []=>.nil
 |t::r=>(aK tm r).put t (tm.get t)
def gL(h:AH):List Nat->Tr Blk
 | []=>.nil
 |b::r=>(gL h r).put b (h.get b)
def aJ(h:AH)(l:List Nat):AH:=⟨h.next,gL h l⟩
def cx(h':AH)(lo:Nat):Nat->Tr Blk->Tr Blk
 |0,t=>t
 |n+1,t=>(cx h' lo n t).put (lo+n) (h'.get (lo+n))
def eD(h':AH):List Nat->Tr Blk->Tr Blk
 | [],t=>t
 |b::r,t=>(eD h' r t).put b (h'.get b)
def dw(h:AH)(l:List Nat)(h':AH):AH:=⟨h'.next,cx h' h.next (h'.next-h.next) (eD h' l h.tr)⟩
def dm:AOp->Bool
 |.call .. |.dR .. |.invoke .. =>J
 |_=>U
def kL(s:St)(x:Opd):List Nat:=match s.eval x with
 |some v=>ids v
 |none=>[]
def cZ(s:St):AOp->List Nat
 |.store _ a _=>kL s a
 |.append _ _ x _|.appT _ x _|.fO _ x _|.copy _ x _|.lS _ _ x|.jO _ x _ _|.kR _ x _|.kn x|.gv x=>kL s x
 |_=>[]
def kU(h:AH)(l:List Nat):List Nat:=l++l.filterMap λb=>match h.get (b+1) with
 |some (.tag b' _ _)=>bif ig b b'&& !b9 l (b+1) then Z (b+1) else Y
 |_=>Y
def jL(s:St)(vs:List Nat):AOp->List Nat
 |.store _ a _=>kL s a
 |.jO _ m _ _=>kL s m
 |.kR _ m _=>kL s m
 |.mv _|.pick .. |.alloc _|.box _|.build .. |.buildSlice .. |.jK .. |.fy .. |.rI|.cP .. |.extract .. |.field .. |.cE _|.fieldAddr .. |.bin .. |.un .. |.bT .. =>[]
 |.call .. |.dR .. |.invoke .. |.gv _|.lY _=>bif vs.isEmpty then [] else kU s.h (reach s.h 1000000000 vs [])
 |.appT .. |.fO .. |.qE .. =>vs++vs.map (· +1)
 |.lT .. |.qp .. |.gK _=>[]
 |_=>vs
def eqN:Option Nat->Option Nat->Bool
 |none,Y=>J
 |some a,Z b=>ig a b
 |_,_=>U
def eqV:Value->Value->Bool
 |.int k a,.int j b=>k==j&&a==b
 |.bool a,.bool b=>a==b
 |.string a,.string b=>dZ a.data.toList b.data.toList
 |.pointer Y,.pointer Y=>J
 |.slice Y a b,.slice Y c d=>ig a c&&ig b d
 |.slice (Z p) a b,.slice (Z q) c d=>((ig p.block q.block&&ig p.off q.off)&&eqN p.spot q.spot)&&(ig a c&&ig b d)
 |.map Y,.map Y=>J
 |.nilFunc,.nilFunc=>J
 |.nilIface,.nilIface=>J
 |_,_=>U
mutual
def eqA:AV->AV->Bool
 |.val a,.val b=>eqV a b
 |.agg a,.agg b=>eqL a b
 |.imm a n c,.imm b m d=>ig n m&&eqN c d&&eqL a b
 |.own b o n e c,.own b' o' n' e' c'=>ig b b'&&ig o o'&&ig n n'&&ig e e'&&eqN c c'
 |.ptr b o,.ptr b' o'=>ig b b'&&ig o o'
 |.mp b,.mp b'=>ig b b'
 |.ifc t v,.ifc t2 v2=>ig t t2&&eqA v v2
 |.fn (.func g) a b,.fn (.func g2) a2 b2=>ig g g2&&eqL a a2&&eqL b b2
 |_,_=>U
def eqL:List AV->List AV->Bool
 | [],[]=>J
 |a::x,b::y=>eqA a b&&eqL x y
 |_,_=>U
end
def eqB:Option Blk->Option Blk->Bool
 |some (.cells a r),Z (.cells b q)=>r==q&&eqL a b
 |_,_=>U
structure ck where
 F:List Nat
 D:List Nat
 lo:Nat
 hi:Nat
deriving Inhabited
def eT(r:ck)(l:List Nat):Bool:=l.any λb=>b9 r.D b||(ii r.lo b&&ir b r.hi)
def eS(a b:ck):Bool:= !eT a b.F&& !(b.D.any λx=>b9 a.F x)&& !eT a b.D
def fk(done:List ck)(b:ck):List Nat->Bool
 | []=>J
 |i::r=>(match done[i]? with|some a=>eS a b|none=>U)&&fk done b r
def eW:Option Nat->Nat
 |some k=>k
 |none=>1
def loadAt(s:St):AOp->Option (Nat×Nat×Nat)
 |.load n x=>match s.eval x with
  |some (.ptr b o)=>Z (b,o,eW n)
  |_=>Y
 |_=>Y
def dX(o n:Nat):Option Blk->Option (List AV)
 |some (.cells a _)=>bif ii (o+n) a.length then Z ((a.drop o).take n) else Y
 |_=>Y
def sameAt(h h':AH)(p:Nat×Nat×Nat):Bool:=match dX p.2.1 p.2.2 (h.get p.1),dX p.2.1 p.2.2 (h'.get p.1) with
 |some a,Z b=>eqL a b
 |_,_=>U
structure cC where
 r:ck
 ld:Option (Nat×Nat×Nat)
 pre:AH
 post:AH
def du(a b:cC):Bool:=eS a.r b.r||((match b.ld with|some p=>sameAt a.pre a.post p|none=>U)||(match a.ld with|some p=>sameAt b.pre b.post p|none=>U))
def dL(done:List cC)(b:cC):List Nat->Bool
 | []=>J
 |i::r=>(match done[i]? with|some a=>du a b|none=>U)&&dL done b r
def below(n:Nat)(l:List Nat):Bool:=l.all λb=>ir b n
def fG(h:AH)(l:List Nat):Bool:=l.all λb=>ir b h.next&&(match h.get b with|some k=>below h.next (hE k)|none=>J)
def bC(E:Env)(call:Cle->List AV->AH->Option (AV×AH))(d:DOp)(near:List Nat)(s:St):Option (AV×ck×AH):=
 let rt:=aK s.tm d.reads
 let st:St:={tm:=rt,h:=s.h,defers:=[],round:=s.round}
 match aw st d.o.guard with
 |some J=>
  let vs:=aQ rt.ag
  let l:=jL st vs d.o.op
  bif below s.h.next vs&&fG s.h l then
   match aL E call {st with h:=aJ s.h l} d.o.op with
   |some (v,s1)=>
    let D:=bif dm d.o.op then l.filter λb=> !(b9 (vs++near) b&&eqB (s.h.get b) (s1.h.get b)) else cZ {st with h:=aJ s.h l} d.o.op
    bif (s1.defers.isEmpty&&ii s.h.next s1.h.next)&&below s.h.next D then
     Z (v,⟨l,D,s.h.next,s1.h.next⟩,dw s.h D s1.h) else Y
   |none=>Y
  else Y
 |some U=>Z (bJ,⟨[],[],s.h.next,s.h.next⟩,s.h)
 |none=>Y
def dv(done:List ck)(l:List Nat):List Nat:=l.flatMap λi=>match done[i]? with|some r=>r.F|none=>[]
def ke(E:Env)(call:Cle->List AV->AH->Option (AV×AH)):List DOp->List ck->St->Option St
 | [],_,s=>Z s
 |d::r,done,s=>match bC E call d (dv done d.free) s with
  |some (v,rec,h)=>bif fk done rec d.free then ke E call r (done++[rec]) {s with tm:=putDst s.tm d.o.dst v,h} else Y
  |none=>Y
def cg(E:Env)(call:Cle->List AV->AH->Option (AV×AH)):List DOp->List cC->St->Option St
 | [],_,s=>Z s
 |d::r,done,s=>match bC E call d (dv (done.map (·.r)) d.free) s with
  |some (v,rec,h)=>bif dL done ⟨rec,loadAt {tm:=aK s.tm d.reads,h:=s.h,defers:=[],round:=s.round} d.o.op,s.h,h⟩ d.free then
    cg E call r (done++[⟨rec,loadAt {tm:=aK s.tm d.reads,h:=s.h,defers:=[],round:=s.round} d.o.op,s.h,h⟩]) {s with tm:=putDst s.tm d.o.dst v,h} else Y
  |none=>Y
def gI:List DOp->Option (List DOp×DOp)
 | []=>Y
 |d::r=>match r with
  | []=>bif d.free.isEmpty then Z ([],d) else Y
  |_::_=>(gI r).map λp=>(d::p.1,p.2)
theorem zB:∀{l pre:List DOp} {d:DOp},gI l=Z (pre,d)->l=pre++[d]/\d.free=[]
 | [],_,_,h=>by simp[gI] at h
 |a::r,pre,d,h=>by
  cases r with
  |nil=>
   simp[gI] at h
   grind
  |cons b r=>
   simp only[gI,A8,pI] at h;obtain⟨p,hp,rfl,rfl⟩:=h;obtain⟨e1,e2⟩:=zB (l:=b::r) (pre:=p.1) (d:=p.2) hp
   grind
def pO:AOp->Bool
 |.dR .. =>J
 |_=>U
def fm:List DOp->Option (List DOp×DOp×DOp)
 | []=>Y
 |d::r=>match r with
  | []=>Y
  | [e]=>bif pO d.o.op&&(d.free.isEmpty&&e.free.isEmpty) then Z ([],d,e) else Y
  |_::_::_=>(fm r).map λp=>(d::p.1,p.2)
theorem yz:∀{l pre:List DOp} {d e:DOp},fm l=Z (pre,d,e)->l=pre++[d,e]/\d.free=[]/\e.free=[]
 | [],_,_,_,h=>by simp[fm] at h
 | [_],_,_,_,h=>by simp[fm] at h
 | [a,b],pre,d,e,h=>by
  simp[fm] at h
  grind
 |a::b::c::r,pre,d,e,h=>by
  simp only[fm,A8,pI] at h;obtain⟨⟨p1,p2,p3⟩,hp,rfl,h2⟩:=h;simp at h2;obtain⟨rfl,rfl⟩:=h2;obtain⟨e1,e2,e3⟩:=yz (l:=b::c::r) (pre:=p1) (d:=p2) (e:=p3) hp
  grind
def cJ(l:List DOp):Option (List DOp×List DOp):=match fm l with
 |some (pre,d,e)=>Z (pre,[d,e])
 |none=>match gI l with
  |some (pre,d)=>Z (pre,[d])
  |none=>Y
theorem vK{l pre suf:List DOp}(h:cJ l=Z (pre,suf)):l=pre++suf/\∀d∈suf,d.free=[]:=by
 unfold cJ at h;split at h
 ·rename_i p d e he;simp at h;obtain⟨rfl,rfl⟩:=h;obtain⟨e1,e2,e3⟩:=yz he
  grind
 ·split at h
  ·rename_i p d hd;simp at h;obtain⟨rfl,rfl⟩:=h
   grind [zB]
  ·cases h
def gS(E:Env)(call:Cle->List AV->AH->Option (AV×AH))(ops:List DOp)(s:St):Option St:=
 match cJ ops with
 |some (pre,suf)=>match cg E call pre [] s with
  |some s1=>dT E call (suf.map (·.o)) s1
  |none=>Y
 |none=>cg E call ops [] s
theorem aAB{done:List cC}{b:cC}:∀{l:List Nat},fk (done.map (·.r)) b.r l=J->dL done b l=J
 | [],_=>rfl
 |i::l,h=>by
  simp[fk,dL] at h⊢
  refine⟨?_,aAB h.2⟩;have h1:=h.1;cases he:done[i]? <;>simp_all [du]
theorem Bv{E:Env}{call:Cle->List AV->AH->Option (AV×AH)}:∀{ops:List DOp} {done:List cC} {s s':St},ke E call ops (done.map (·.r)) s=Z s'->cg E call ops done s=Z s'
 | [],_,_,_,h=>by grind [ke,cg]
 |d::r,done,s,s',h=>by
  simp[ke,cg] at h⊢
  split at h
  ·rename_i v rec h1 hs;cases hf:fk (done.map (·.r)) rec d.free with
   |false=>grind
   |true=>
    rw[hf] at h;simp at h;have hf2:=aAB (b:=⟨rec,loadAt {tm:=aK s.tm d.reads,h:=s.h,defers:=[],round:=s.round} d.o.op,s.h,h1⟩) hf;simp[hf2];exact Bv Gr
  ·cases h
def cL(E:Env):List ADef->AH->Option AH
 | [],h=>Z h
 |.call f l::r,h=>match E.idle.get f with
  |some n=>bif ig l.length n then cL E r h else Y
  |none=>Y
 |.mark b::r,h=>match h.get b with
  |some (.dfr J)=>cL E r (h.put b (Z (.dfr U)))
  |_=>Y
def fj(E:Env)(a:ax)(s:St):Option (AV×AH):=
 match cL E s.defers s.h with
 |some h=>match ay E.aY {s with h} a.res with
  |some l=>Z (bQ l,h)
  |none=>Y
 |none=>Y
def bh(E:Env)(ex:aF->St->Option (Ex×St))(f:Nat)(args:List AV)(h:AH):Option (AV×AH):=
 match aR E.P f with
 |none=>Y
 |some a=>match ex a.body {tm:=bg args 0 .nil,h,defers:=[],round:=Y} with
  |some (.normal,s)|some (.ret,s)=>fj E a s
  |_=>Y
def kQ:List Nat->List AV->Tr AV->Option (Tr AV)
 | [],[],t=>Z t
 |p::ps,v::vs,t=>kQ ps vs (t.put p (Z v))
 |_,_,_=>Y
def qP:Ex->Bool
 |.normal=>J
 |_=>U
def roundA(E:Env)(ex:aF->St->Option (Ex×St))(b:Nat)(args:List AV)(h:AH):Option (AV×AH):=
 match h.get b with
 |some (.loop tm ps asg body M .ready)=>match kQ ps args tm with
  |some tm1=>bif ps.all (λp=>ir p M) then match ex (dQ E.P M asg) {tm:=tm1,h,defers:=[],round:=Z b} with
   |some (.normal,s1)=>match s1.h.get b with
    |some (.loop tm2 ps2 asg2 body2 M2 .ready)=>
     match ex (dQ E.P M body) {s1 with h:=s1.h.put b (Z (.loop tm2 ps2 asg2 body2 M2 .busy))} with
     |some (e,s2)=>match s2.defers,s2.h.get b with
      | [],Z (.loop tm3 ps3 asg3 body3 M3 _)=>Z (.val (.bool (qP e)),s2.h.put b (Z (.loop tm3 ps3 asg3 body3 M3 (bif qP e then .ready else .done e))))
      |_,_=>Y
     |none=>Y
    |_=>Y
   |_=>Y else Y
  |none=>Y
 |_=>Y
def cG(h:AH):List AV->Option (List AV)
 | []=>Z []
 |v::r=>match ar h aU v,cG h r with
  |some t,Z l=>Z (t::l)
  |_,_=>Y
def gA(r:AV)(h:AH):AV×AH:=
 bif dg r then(r,h) else
  let h1:=freeze aU r h
  match ar h1 aU r with
  |some t=>(t,h1)
  |none=>(r,h)
def fD(E:Env)(enter:Nat->List AV->AH->Option (AV×AH))(f:Nat)(args:List AV)(h:AH):Option (AV×AH):=
 match E.shared.get f with
 |some _=>enter f args h
 |none=>
  let h1:=args.foldl (λh v=>freeze aU v h) h
  match cG h1 args with
  |none=>match enter f args h with
   |some (r,h')=>Z (gA r h')
   |none=>Y
  |some l=>match E.known f l with
   |some r=>Z (r,bif dg r then h else h1)
   |none=>match enter f l .empty with
    |some (r,hc)=>
     let hc1:=freeze aU r hc
     match ar hc1 aU r with
     |some t=>Z (t,bif dg t then h else h1)
     |none=>Y
    |none=>Y
def bY(E:Env)(ex:aF->St->Option (Ex×St)):Cle->List AV->AH->Option (AV×AH)
 |.f g=>fD E (bh E ex) g
 |.y b=>roundA E ex b
def exec(E:Env):Nat->aF->St->Option (Ex×St)
 |0,_,_=>Y
 |n+1,c,s=>
  match c with
  |.skip=>Z (.normal,s)
  |.ret=>Z (.ret,s)
  |.exit id=>Z (.exit id,s)
  |.region ops=>(dT E (bY E (exec E n)) ops s).map λs=>(.normal,s)
  |.draw ops=>(gS E (bY E (exec E n)) ops s).map λs=>(.normal,s)
  |.seq a b=>match exec E n a s with
   |some (.normal,s)=>exec E n b s
   |r=>r
  |.cond c a b=>match s.eval c with
   |some (.val (.bool J))=>exec E n a s
   |some (.val (.bool U))=>exec E n b s
   |_=>Y
  |.block id b=>match exec E n b s with
   |some (.exit i,s)=>Z (bif ig i id then .normal else .exit i,s)
   |r=>r
  |.loop b=>match exec E n b s with
   |some (.normal,s)=>exec E n (.loop b) s
   |r=>r
  |.range g ps asg body M=>
   match s.eval g with
   |some (.fn (.func f) a b)=>
    let sd:Option (AH×List ADef):=match s.round with
     |none=>Z (s.h.alloc (.dfr J),.mark s.h.next::s.defers)
     |some q=>match s.h.get q with
      |some (.loop ..)=>Z (s.h,s.defers)
      |_=>Y
    match sd with
    |none=>Y
    |some (h1,df)=>
     match bY E (exec E n) (.f f) (a++(.yld h1.next::b)) (h1.alloc (.loop s.tm ps asg body M .ready)) with
     |some (_,h3)=>match h3.get h1.next with
      |some (.loop tm3 ps3 asg3 body3 M3 st)=>
       let s':St:={s with h:=h3.put h1.next (Z (.loop tm3 ps3 asg3 body3 M3 .gone)),defers:=df}
       match st with
       |.ready=>Z (.normal,s')
       |.done e=>Z (e,s')
       |_=>Y
      |_=>Y
     |none=>Y
   |_=>Y
  |.bad _=>Y
end Go.AM
namespace Go.AM
open Go.RowKit
variable {G:Nat->Option (List AV)}{base:Nat}{S:bE}{f:Emb}{h:AH}{w:World}{P:Program}{E:Env}{s:St}{a:Act}{N:Nat}
section ops
variable {call:Cle->List AV->AH->Option (AV×AH)}{o:Oper}{v:AV}{s':St}
theorem TmR.put{tm:Tr AV}(ht:TmR S f tm a.tmps N){dst:Option Nat}{M:Nat}(hd:dstOk M dst=J)(hM:M<=N){x:Value}(hr:Rel S f v x):TmR S f (putDst tm dst v) (a.put dst x).tmps N:=by
 cases dst with
 |none=>exact ht
 |some d=>
  have hd':d<N:=jw (by simp_all [dstOk]) hM
  refine⟨by simp[Act.put,ht.size],λi u hu=>?_⟩
  simp[putDst,Tr.aO] at hu;simp[Act.put,Bj];split at hu
  ·rename_i e;subst e;simp at hu;subst hu;exact⟨x,by simp[ht.size,hd'],hr⟩
  ·rename_i e;obtain⟨y,hy,hrel⟩:=ht.get i u hu
   grind
theorem vw{ops:Array Oper}{g:Option (Nat×Bool)}{b:Bool}(ht:TmR S f s.tm a.tmps N)(hg:qk ops o.guard=Z g)(hw:aw s g=Z b):
  Region.wanted o (yielded ops a.tmps)=b:=by
 unfold qk at hg;unfold Region.wanted;cases hq:o.guard with
 |none=>
  grind [aw]
 |some p=>
  obtain⟨j,c⟩:=p;simp[hq] at hg⊢
  split at hg
  ·rename_i d hd;simp at hg;subst hg;simp[aw] at hw;unfold yielded;rw[hd];split at hw
   ·rename_i c' hc';obtain⟨x,hx,hr⟩:=ht.get d _ hc';simp[Rel] at hr
    simp_all
   ·rename_i hc';obtain⟨x,hx,hr⟩:=ht.get d _ hc';simp only[Rel,aZ] at hr
    grind
   grind
  grind
def fen:Option Nat->Fence
 |none=>Fence.wide
 |some l=>Fence.wide.inRound l
theorem aPI(ro:Option Nat):(fen ro).round=ro:=by cases ro<;>rfl
theorem Cp(ro:Option Nat):(fen ro).depth.isSome=J->False:=by cases ro<;>simp[fen,Fence.wide]
theorem Jx(ro:Option Nat)(g:FuncId):(fen ro).fn g:=by cases ro<;>trivial
theorem CallsIn.fen(ro:Option Nat){g:FuncId}{args:Array Value}{w:World}{R:Ending->World->Prop}(h:CallsIn Fence.wide 0 P g args w R):CallsIn (fen ro) 0 P g args w R:=by
 cases ro with
 |none=>exact h
 |some l=>exact CallsIn.inRound l h
theorem RoundIn.fen(ro:Option Nat){l:Nat}{g:FuncId}{t:Array Value}{x y:Code}{w:World}{R:Ending->World->Prop}(h:RoundIn Fence.wide 0 P l g t x y w R):RoundIn (fen ro) 0 P l g t x y w R:=by
 cases ro with
 |none=>exact h
 |some l=>exact h
def m6(f:Emb):Option Nat->Option Nat->Prop
 |none,ro=>ro=Y
 |some b,ro=>∃B O R,f b=Z (B,O,R)/\ro=Z B
theorem m6.le{S S':bE}{f f':Emb}(l:Le S f S' f'):∀{r ro},m6 f r ro->m6 f' r ro
 |none,_,h=>h
 |some _,_,⟨B,O,R,h,e⟩=>⟨B,O,R,l.f _ _ h,e⟩
def lW(f:Emb):List ADef->List Deferred->Prop
 | [],l=>l=[]
 |.call g xs::r,l=>∃cap args l',l={target:=.fn (.func g) cap,args}::l'/\(args++cap).size=xs.length/\lW f r l'
 |.mark b::r,l=>∃B O R l',f b=Z (B,O,R)/\l={target:=.collected B,args:= #[]}::l'/\lW f r l'
theorem lW.le{S S':bE}{f f':Emb}(h:Le S f S' f'):∀{x:List ADef} {y:List Deferred},lW f x y->lW f' x y
 | [],_,k=>k
 |.call _ _::_,_,⟨cap,args,l',e,n,k⟩=>⟨cap,args,l',e,n,lW.le h k⟩
 |.mark _::_,_,⟨B,O,R,l',e1,e,k⟩=>⟨B,O,R,l',h.f _ _ e1,e,lW.le h k⟩
theorem Ig{Q:Exit->Act->World->Prop}{K:Act->World->Prop}{K0:Value->World->Prop}(ro:Option Nat)(hnd:∀c,o.op≠ .defer c)(h:da P (execOp a.eval o) w K0)(k:∀x w',K0 x w'->K (a.put o.dst x) w'):
  o.wpIn (fen ro) 0 P a w K Q:=by
 refine⟨λ_ _=>Jx ro _,?_⟩;rw[Oper.semAt_eq _ _ _ hnd];unfold da at h;generalize (execOp a.eval o).run P w=r at h;cases r with
 |ok x w'=>
  cases x<;>simp only[Oper.uponIn] at h⊢
  case value v=>grind
  case skip=>grind
  case enter g args=>
   refine⟨λhd=>(Cp ro hd).elim,CallsIn.mono (CallsIn.fen ro h) λe w'' he=>?_⟩
   grind
  case round l g t x y=>
   refine⟨λhd=>(Cp ro hd).elim,RoundIn.mono (RoundIn.fen ro h) λe w'' he=>?_⟩
   grind
 |halt=>grind
theorem aCA(P:Program)(M:Nat)(ops:Array Oper)(o:Oper):
  (∃d w,kE P M ops o={dst:=d,guard:=Y,op:=.bad w})\/
  ∃g ao,qk ops o.guard=Z g/\cOp P o.op=Z ao/\dstOk M o.dst=J/\kE P M ops o={dst:=o.dst,guard:=g,op:=bif shown ao||fo ao then ao else .bad (opWord o.op)}:=by
 unfold kE;split<;>grind
theorem vL{op:Op}{ao:AOp}(h:cOp P op=Z ao)(hs:shown ao=J):∀c,op≠ .defer c:=by
 intro c e;subst e;simp[cOp] at h;split at h
 ·simp at h;obtain⟨y,hy,rfl⟩:=h;grind [shown]
 ·cases h
theorem aEL{op:Op}{ao:AOp}(h:cOp P op=Z ao)(hs:fo ao=J):∃c x y args args',op=.defer c/\c.callee=.value x/\dK c.args.toList=Z args'/\bA x=Z y/\ao=.defer y args'/\args=c.args:=by
 cases op with
 |defer c=>
  simp[cOp] at h;split at h
  ·rename_i x args hx ha;simp at h;grind
  ·cases h
 |alloc t=>
  simp[cOp] at h;obtain⟨y,hy,rfl⟩:=h
  grind [fo]
 |_=>
  simp only[cOp,Bool.cond_eq_ite] at h
  repeat' split at h
  all_goals first
   |contradiction
   |(simp at h;obtain⟨y,hy,rfl⟩:=h;simp[fo] at hs;done)
   |(simp only[sI] at h;subst h;simp[fo] at hs;done)
   |cases h
structure Mid (E:Env) (base:Nat) (ro:Option Nat) (S:bE) (f:Emb) (s:St) (a:Act) (w:World) (N:Nat):Prop where
 tm:TmR S f s.tm a.tmps N
 wr:WR E.aY base S f s.h w
 d:lW f s.defers a.defers
 r:m6 f s.round ro
theorem He{M:Nat}{ro:Option Nat}{ops:Array Oper}{Q:Exit->Act->World->Prop}{K:Act->World->Prop}{i:Nat}{r:List aW}(hP:E.P=P)(hcall:eM P E call)(hm:ez P E)(hM:M<=N)
  (mid:Mid E base ro S f s a w N) (hi:ops[i]? =Z o) (hrun:dT E call (kE P M ops o::r) s=Z s')
  (k:∀s1 a1 w1 S1 f1,dp E.aY base S f s.h w S1 f1 s1.h w1->Mid E base ro S1 f1 s1 a1 w1 N->s1.round=s.round->dT E call r s1=Z s'->K a1 w1):
  wpOpIn (fen ro) 0 P ops Q i K a w:=by
 obtain⟨ht,wr,hdf,hro⟩:=mid;unfold wpOpIn;simp[hi];rcases U168 with⟨d,w0,e⟩|⟨g,ao,hg,hao,hd,e⟩
 ·grind [dT,aw,aL]
 ·rw[e] at hrun;simp[dT] at hrun;cases hw:aw s g with
  |none=>grind
  |some b=>
   have hwant:=vw ht hg hw;rw[hwant];cases b with
   |false=>
    simp[hw] at hrun;simp only[A6,if_false];refine⟨λ_ _=>Jx ro _,k {s with tm:=putDst s.tm o.dst bJ} _ w S f wr.goes ⟨ht.put hd hM sx,wr,?_,hro⟩ rfl hrun⟩;have:(a.put o.dst undef).defers=a.defers:=by cases o.dst<;>rfl
    grind
   |true=>
    simp[hw] at hrun;simp only[if_true];cases hs:shown ao with
    |true=>
     simp[hs] at hrun;cases hr:aL E call s ao with
     |none=>grind
     |some p=>
      obtain⟨v,s1⟩:=p;simp[hr] at hrun;obtain⟨h1,h2,h3⟩:=Dn hP hcall hm ht wr hao hs hr;refine Ig ro (vL hao hs) h3 λx w' ⟨S',f',hgo,hrel⟩=>?_
      refine k {s1 with tm:=putDst s1.tm o.dst v,round:=s.round} _ w' S' f' hgo ⟨?_,hgo.wr,?_,hro.le hgo.le⟩ rfl hrun
      ·rw[h1];exact(ht.le hgo.le).put hd hM hrel
      ·have:(a.put o.dst x).defers=a.defers:=by cases o.dst<;>rfl
       rw[this];simp[h2];exact hdf.le hgo.le
    |false=>
     cases hde:fo ao with
     |false=>grind [aL]
     |true=>
      simp[*] at hrun;obtain⟨c,x,y,args,args',hop,hcal,hargs,hx,rfl,rfl⟩:=aEL hao hde;cases hr:aL E call s (.defer y args') with
      |none=>grind
      |some p=>
       obtain⟨v,s1⟩:=p;simp[hr] at hrun;rw[aL] at hr;split at hr
       ·rename_i g0 A B l ex hl;split at hr
        ·rename_i hrd;rw[sI,pI] at hr;obtain⟨rfl,rfl⟩:=hr;have rx:=be ht hx ex;simp[Rel] at rx;obtain⟨xs,ys,e2,r1,r2⟩:=rx;have hl':=sj ht hargs hl;have hrn:ro=Y:=by rw[hrd] at hro;exact hro
         subst hrn;refine⟨λ_ _=>Jx Y _,?_⟩;rw[show(fen Y).round=Y from rfl,Oper.semAt_none];have hres:(resolve a.eval c o.type).run P w=.ok {target:=.fn (.func g0) ys.toArray,args:=xs.toArray++c.args.map a.eval} w:=by
          simp_all [resolve,Deferred.ofValue]
         have hex:(execOp a.eval o).run P w=.ok (.defer {target:=.fn (.func g0) ys.toArray,args:=xs.toArray++c.args.map a.eval}) w:=by
          simp_all [execOp]
         rw[hex];simp[Oper.uponIn];refine k {s with tm:=putDst s.tm o.dst bJ,defers:=.call g0 (A++l++B)::s.defers} _ w S f wr.goes ⟨?_,wr,?_,?_⟩ rfl hrun
         ·have:=ht.put (a:={a with defers:={target:=.fn (.func g0) ys.toArray,args:=xs.toArray++c.args.map a.eval}::a.defers}) hd hM sx
          grind
         ·have:∀(b:Act) (dst:Option Tmp) (u:Value),(b.put dst u).defers=b.defers:=by intro b dst u;cases dst<;>rfl
          rw[this];simp only[lW];refine⟨_,_,_,rfl,?_,hdf⟩;have q1:=r1.length;have q2:=r2.length;have q3:=hl'.length
          grind
         grind
        grind
       grind
theorem Lp{M:Nat}{ro:Option Nat}{ops:Array Oper}{Q:Exit->Act->World->Prop}(hP:E.P=P)(hcall:eM P E call)(hm:ez P E)(hM:M<=N){s':St}{S0:bE}{f0:Emb}{h0:AH}{w0:World}{r0:Option Nat}
  (k:∀a1 w1 S1 f1,dp E.aY base S0 f0 h0 w0 S1 f1 s'.h w1->Mid E base ro S1 f1 s' a1 w1 N->s'.round=r0->Q .normal a1 w1):
  ∀(l:List Nat) (s:St) (a:Act) (w:World) (S:bE) (f:Emb),dp E.aY base S0 f0 h0 w0 S f s.h w->Mid E base ro S f s a w N->s.round=r0->
   dT E call (l.filterMap λi=>(ops[i]?).map (kE P M ops)) s=Z s'->wpOpsIn (fen ro) 0 P ops Q l a w:=by
 intro l
 induction l with
 |nil=>
  intro s a w S f hgo mid hd' hrun;simp[dT] at hrun;subst hrun;exact k a w S f hgo mid hd'
 |cons i l ih=>
  intro s a w S f hgo mid hd' hrun;rw[wpOpsIn_cons];cases hi:ops[i]? with
  |none=>
   grind [wpOpIn]
  |some o=>
   rw[List.filterMap_cons] at hrun;simp[hi] at hrun;exact He hP hcall hm hM mid hi hrun λs1 a1 w1 S1 f1 g1 t1 e1 r1=>
    ih s1 a1 w1 S1 f1 (hgo.trans g1) t1 (e1.trans hd') r1
theorem w9{α β:Type}(g:β->α):∀(l m:List β),((Ac l.length).filterMap λi=>((l++m)[i]?).map g)=l.map g:=by
 intro l
 induction l with
 |nil=>grind
 |cons x l ih=>
  intro m;rw[List.length_cons,List.range_succ_eq_map,List.filterMap_cons];simp only[jj,Bk,Option.map_some,jk,List.filterMap_map]
  congr 1
  rw[<-ih m];rfl
theorem Ey{α:Type}(ops:Array Oper)(g:Oper->α):((Ac ops.size).filterMap λi=>(ops[i]?).map g)=ops.toList.map g:=by
 have:=w9 g ops.toList []
 grind
theorem Sd{M id:Nat}{ro:Option Nat}{ops:Array Oper}{Q:Exit->Act->World->Prop}(hP:E.P=P)(hcall:eM P E call)(hm:ez P E)(hM:M<=N){s':St}
  (mid:Mid E base ro S f s a w N) (hrun:dT E call (ops.toList.map (kE P M ops)) s=Z s')
  (k:∀a1 w1 S1 f1,dp E.aY base S f s.h w S1 f1 s'.h w1->Mid E base ro S1 f1 s' a1 w1 N->s'.round=s.round->Q .normal a1 w1):
  (Code.region id ops U).wpIn (fen ro) 0 P Q a w:=
 wpIn_region (Lp hP hcall hm hM k _ s a w S f mid.wr.goes mid rfl (by grind [Ey]))
end ops
end Go.AM
namespace Go.AM
open Go.RowKit
variable {base:Nat}{S:bE}{f:Emb}{h:AH}{w:World}{P:Program}{E:Env}{s s':St}{a:Act}{N:Nat}
theorem zV{p:Nat->Prop}:∀n,p n->∃m,p m/\∀j,p j->m<=j:=by
 intro n
 induction n using Aw<;>grind
def exOf:Ex->Exit
 |.normal=>.normal
 |.exit id=>.exit id
 |.ret=>.ret
def nS(P:Program)(E:Env)(n:Nat):Prop:=
 ∀(M id:Nat) (ops:Array Oper) (s s':St) (e:Ex) (base:Nat) (ro:Option Nat) (S:bE) (f:Emb) (a:Act) (w:World) (N:Nat) (Q:Exit->Act->World->Prop),M<=N->
  exec E n (dQ P M (.region id ops J)) s=Z (e,s')->Mid E base ro S f s a w N->
  (∀a1 w1 S1 f1,dp E.aY base S f s.h w S1 f1 s'.h w1->Mid E base ro S1 f1 s' a1 w1 N->s'.round=s.round->Q (exOf e) a1 w1)->
  (Code.region id ops J).wpIn (fen ro) 0 P Q a w
theorem Wf{call:Cle->List AV->AH->Option (AV×AH)}(hc:eM P E call){g:Nat}{l:List AV}{ag:Array Value}{r:AV}{h h':AH}(hrun:call (.f g) l h=Z (r,h'))(w:World):
  (callFunc g ag).run P w=.ok (.enter g ag) w:=by
 obtain⟨⟨fn,h1,h2,h3⟩,_⟩:=hc.f g l h r h' hrun;exact U85
theorem xe{l:Nat}{r:Go.Loop}(hl:w.heap[l]? =Z (.loop r))(fn:FuncId)(tmps:Array Value)(ps:Array Tmp)(assign body:Code):
  (Instr.enterLoop fn tmps ps assign body (Z l)).run P w=
   .ok (w.heap.size,[]) (w.alloc (.loop {state:=.ready,pending:=Y,fn,tmps,params:=ps,assign,body,defers:=r.defers})):=by
 simp_all [Instr.enterLoop,run_getLoop]
theorem Ok(r:WR E.aY base S f h w){tm:Tr AV}{ps:Array Tmp}{asg body:Code}{M D:Nat}{fn:FuncId}{t:Array Value}(ht:TmR S f tm t N)(hM:M<=N):
  dp E.aY base S f h w S (upd f h.next (w.heap.size,0,1)) (h.alloc (.loop tm ps.toList asg body M .ready)) (w.alloc (.loop {state:=.ready,pending:=Y,fn,tmps:=t,params:=ps,assign:=asg,body,defers:=D})):=by
 refine r.alloc λf' hle=>?_
 simp only[bR];refine⟨trivial,trivial,_,World.alloc_heap_new _ _,rfl,rfl,rfl,by rw[ht.size];exact hM,(show TmG S f tm t from ht.get).le hle,rfl,rfl⟩
theorem aUQ(r:WR E.aY base S f h w):dp E.aY base S f h w S (upd f h.next (w.heap.size,0,1)) (h.alloc (.dfr J)) (w.alloc (.deferred (Z []))):=by
 refine r.alloc λf' hle=>?_
 simp only[bR,if_true];exact⟨trivial,trivial,World.alloc_heap_new _ _⟩
theorem uK(r:WR E.aY base S f h w){b B O R:Nat}{tm:Tr AV}{ps:List Nat}{asg body:Code}{M:Nat}{st:LSt}(hb:h.get b=Z (.loop tm ps asg body M st))(hf:f b=Z (B,O,R)):
  O=0/\R=1/\∃q:Go.Loop,w.heap[B]? =Z (.loop q)/\q.params.toList=ps/\q.assign=asg/\q.body=body/\M<=q.tmps.size/\TmG S f tm q.tmps/\LStR st q:=by
 obtain⟨B0,O0,R0,hf0,_,_,hr⟩:=r.blk b _ hb;rw[hf] at hf0;simp at hf0;obtain⟨rfl,rfl,rfl⟩:=hf0;exact hr
theorem xC(r:WR E.aY base S f h w){b B O R:Nat}{tm:Tr AV}{ps:List Nat}{asg body:Code}{M:Nat}{st st':LSt}{q q':Go.Loop}(hb:h.get b=Z (.loop tm ps asg body M st))(hf:f b=Z (B,O,R))
  (hq:w.heap[B]? =Z (.loop q)) (h1:q'.params=q.params) (h2:q'.assign=q.assign) (h3:q'.body=q.body) (h4:q'.tmps=q.tmps) (h5:LStR st' q'):
  dp E.aY base S f h w S f (h.put b (Z (.loop tm ps asg body M st'))) (w.putObj B (.loop q')):=by
 obtain⟨rfl,rfl,q0,g1,g2,g3,g4,g5,g6,g7⟩:=uK r hb hf;rw[hq] at g1;simp at g1;subst g1;refine r.setObj hb hf hq rfl rfl λw' hw'=>?_
 simp_all [bR]
theorem tS{b:Frame}{k:List Item}{cs:List Frame}{c:Code}:step P (lone (b.atR a (.code (.scope c)::k)) cs w)=.next (lone (b.atR a (.code c:: .inScope c::k)) cs w):=
 step_lone_go rf
theorem Hh{b:Frame}{k:List Item}{cs:List Frame}{c:Code}:step P (lone (b.atR a (.inScope c::k)) cs w)=.next (lone (b.atR a k) cs w):=
 step_lone_go rf
theorem Wr{F:Fence}{n:Nat}{c:Code}{Q:Exit->Act->World->Prop}(h:c.wpIn F n P (λe a w=>match e with|.goto _=>False|e=>Q e a w) a w):(Code.scope c).wpIn F n P Q a w:=by
 intro b k cs hro hb hr;have h0:(lone (b.atR a (.code (.scope c)::k)) cs w).fenced P F:=fenced_calm hb hr rfl;obtain⟨e,a₁,w₁,hq,harr⟩:=h b (.inScope c::k) cs hro hb hr;cases e with
 |normal=>exact⟨.normal,a₁,w₁,hq,.head h0 tS (StepsIn.trans harr (.one (fenced_calm hb hr rfl) Hh))⟩
 |exit id'=>
  have hx:exitTo id' (.inScope c::k)=exitTo id' k:=by rfl
  exact⟨.exit id',a₁,w₁,hq,λk' hk=>.head h0 tS (harr.1 k' Gr),
   λhr' hk=>let ⟨k₁,h1,h2⟩:=harr.2 hr' Gr;⟨k₁,h1,.head h0 tS h2⟩⟩
 |goto l=>grind
 |ret=>exact⟨_,a₁,w₁,hq,.of_steps (.one h0 tS) harr⟩
 |panic ch=>exact⟨_,a₁,w₁,hq,.of_steps (.one h0 tS) harr⟩
 |outgrown=>exact⟨_,a₁,w₁,hq,.of_steps (.one h0 tS) harr⟩
theorem yR{M:Nat}(hP:E.P=P)(hm:ez P E)(hM:M<=N):∀(n:Nat) (_:∀m,m<n->eM P E (bY E (exec E m))) (_:∀m,m<=n->nS P E m)
  (c:Code) (s:St) (e:Ex) (s':St) (ro:Option Nat) (S:bE) (f:Emb) (a:Act) (w:World) (Q:Exit->Act->World->Prop),
  exec E n (dQ P M c) s=Z (e,s')->Mid E base ro S f s a w N->
  (∀a1 w1 S1 f1,dp E.aY base S f s.h w S1 f1 s'.h w1->Mid E base ro S1 f1 s' a1 w1 N->s'.round=s.round->Q (exOf e) a1 w1)->
  c.wpIn (fen ro) 0 P Q a w:=by
 intro n
 induction n using Aw with
 |_ n ih0=>
 cases n with
 |zero=>grind [exec]
 |succ n=>
  intro hc hd c s e s' ro S f a w Q hrun mid k;have ih':=λm (hm:m<=n)=>ih0 m om (λj hj=>hc j om) (λj hj=>hd j om);have ih:=ih' n (ij _);cases c with
  |skip=>
   simp[dQ,exec] at hrun;obtain⟨rfl,rfl⟩:=hrun;exact wpIn_skip (k a w S f mid.wr.goes mid rfl)
  |label l=>
   simp[dQ,exec] at hrun;obtain⟨rfl,rfl⟩:=hrun;exact wpIn_label (k a w S f mid.wr.goes mid rfl)
  |ret=>
   simp[dQ,exec] at hrun;obtain⟨rfl,rfl⟩:=hrun;exact wpIn_ret (k a w S f mid.wr.goes mid rfl)
  |exit id=>
   simp[dQ,exec] at hrun;obtain⟨rfl,rfl⟩:=hrun;exact wpIn_exit (k a w S f mid.wr.goes mid rfl)
  |region id ops d=>
   cases d with
   |true=>exact hd (n+1) (ij _) M id ops s s' e base ro S f a w N Q hM hrun mid k
   |false=>
    simp only[dQ,exec,A6,if_false,A8,pI] at hrun;obtain⟨s1,hr,rfl,rfl⟩:=hrun;exact Sd hP (hc n om) hm hM mid hr k
  |seq x y=>
   simp[dQ,exec] at hrun;split at hrun
   ·rename_i s1 hx;refine wpIn_seq (ih x s .normal s1 ro S f a w _ hx mid λa1 w1 S1 f1 g1 t1 d1=>?_);exact ih y s1 e s' ro S1 f1 a1 w1 Q hrun t1 λa2 w2 S2 f2 g2 t2 d2=>k a2 w2 S2 f2 (g1.trans g2) t2 (d2.trans d1)
   ·rename_i hne;refine wpIn_seq (ih x s e s' ro S f a w _ hrun mid λa1 w1 S1 f1 g1 t1 d1=>?_);have:=k a1 w1 S1 f1 g1 t1 d1;cases e with
    |normal=>grind
    |exit id=>exact this
    |ret=>exact this
  |cond c x y=>
   simp[dQ] at hrun;split at hrun
   ·rename_i c' hc';simp[exec] at hrun;split at hrun
    ·rename_i hv;have hr:=be mid.tm hc' hv
     grind [Rel,wpIn_cond_true]
    ·rename_i hv;have hr:=be mid.tm hc' hv
     grind [Rel,wpIn_cond_false]
    grind
   grind [exec]
  |block id x=>
   simp[dQ,exec] at hrun;split at hrun
   ·rename_i i s1 hx;simp at hrun;obtain⟨rfl,rfl⟩:=hrun;refine wpIn_block (ih x s _ s1 ro S f a w _ hx mid λa1 w1 S1 f1 g1 t1 d1=>?_);have:=k a1 w1 S1 f1 g1 t1 d1;simp[exOf,Exit.inBlock]
    by_cases he:i=id
    ·simp_all [exOf]
    ·rw[if_neg he]
     grind [iu,exOf]
   ·rename_i hne;refine wpIn_block (ih x s e s' ro S f a w _ hrun mid λa1 w1 S1 f1 g1 t1 d1=>?_);have:=k a1 w1 S1 f1 g1 t1 d1;cases e with
    |normal=>exact this
    |exit id=>grind
    |ret=>exact this
  |scope x=>
   simp[dQ] at hrun;cases n with
   |zero=>grind [exec]
   |succ n=>
   simp[exec] at hrun;refine Wr (ih x s e s' ro S f a w _ (by grind [exec]) mid λa1 w1 S1 f1 g1 t1 d1=>?_)
   have:=k a1 w1 S1 f1 g1 t1 d1;cases e with
   |normal=>exact this
   |exit id=>exact this
   |ret=>exact this
  |loop x=>
   let aC:Nat->Act->World->Prop:=λm a1 w1=>∃s1 S1 f1,m<=n+1/\exec E m (dQ P M (.loop x)) s1=Z (e,s')/\dp E.aY base S f s.h w S1 f1 s1.h w1/\Mid E base ro S1 f1 s1 a1 w1 N/\s1.round=s.round
   classical
   let μ:Act->World->Nat:=λa1 w1=>if h:∃m,aC m a1 w1/\∀j,aC j a1 w1->m<=j then Classical.choose h else 0
   refine wpIn_loop (λa1 w1=>∃m,aC m a1 w1) μ ⟨n+1,s,S,f,ij _,hrun,mid.wr.goes,mid,rfl⟩ λa1 w1 hI=>?_
   have hI':∃m,aC m a1 w1/\∀j,aC j a1 w1->m<=j:=let ⟨m,hm⟩:=hI;zV m hm
   have hμ:μ a1 w1=Classical.choose hI':=dif_pos hI';obtain⟨⟨s1,S1,f1,hle,hr1,g1,t1,d1⟩,_⟩:=Classical.choose_spec hI';rw[hμ];generalize Classical.choose hI'=m at hle hr1;cases m with
   |zero=>simp[exec] at hr1
   |succ m=>
    simp[dQ,exec] at hr1;split at hr1
    ·rename_i s2 hx;refine ih' m om x s1 .normal s2 ro S1 f1 a1 w1 _ hx t1 λa2 w2 S2 f2 g2 t2 d2=>?_
     have hJ:aC m a2 w2:=⟨s2,S2,f2,om,hr1,g1.trans g2,t2,d2.trans d1⟩;refine⟨⟨m,hJ⟩,?_⟩;have h2:∃m,aC m a2 w2/\∀j,aC j a2 w2->m<=j:=zV m hJ;rw[show μ a2 w2=Classical.choose h2 from dif_pos h2];have:=(Classical.choose_spec h2).2 m hJ;omega
    ·rename_i hne;refine ih' m om x s1 e s' ro S1 f1 a1 w1 _ hr1 t1 λa2 w2 S2 f2 g2 t2 d2=>?_
     have:=k a2 w2 S2 f2 (g1.trans g2) t2 (d2.trans d1);cases e with
     |normal=>exact absurd hr1 (by intro h;exact hne _ h)
     |exit id=>exact this
     |ret=>exact this
  |rangeFunc g ps asg body=>
   simp[dQ] at hrun;split at hrun
   ·rename_i g' hg;simp[exec] at hrun;split at hrun
    ·rename_i gf A B hv;have hr:=be mid.tm hg hv;simp[Rel] at hr;obtain⟨xs,ys,eg,r1,r2⟩:=hr;split at hrun
     ·cases hrun
     ·rename_i h1 df hsd;split at hrun
      ·rename_i rv h3 hcall;split at hrun
       ·rename_i tm3 ps3 asg3 body3 M3 st hblk;refine wpIn_rangeFunc λfn _=>?_
        have hlay:∃(l:Nat) (mark:List Deferred) (w1:World) (f1:Emb),(Instr.enterLoop fn a.tmps ps asg body (fen ro).round).run P w=.ok (l,mark) w1/\
          dp E.aY base S f s.h w S f1 (h1.alloc (.loop s.tm ps.toList asg body M .ready)) w1/\f1 h1.next=Z (l,0,1)/\lW f1 df (mark++a.defers):=by
         rw[aPI];cases hrd:s.round with
         |none=>
          simp[hrd] at hsd;obtain⟨rfl,rfl⟩:=hsd;have hro:=mid.r;rw[hrd] at hro;simp[m6] at hro;subst hro;have ga:=aUQ mid.wr;have gb:=Ok (fn:=fn) (D:=w.heap.size) (ps:=ps) (asg:=asg) (body:=body) ga.wr (mid.tm.le ga.le) hM;refine⟨_,_,_,_,run_enterLoop_outer fn a.tmps ps asg body,ga.trans gb,?_,?_⟩
          ·rw[pk];simp
          ·rw[lW,jj,List.nil_append];refine⟨w.heap.size,0,1,_,?_,rfl,mid.d.le (ga.trans gb).le⟩;exact gb.le.f _ _ (pk _ _ _)
         |some q=>
          simp[hrd] at hsd;split at hsd
          ·rename_i tmq psq asgq bodyq Mq stq hq;simp at hsd;obtain⟨rfl,rfl⟩:=hsd;have hro:=mid.r;rw[hrd] at hro;rw[m6] at hro;obtain⟨B1,O1,R1,hfq,rfl⟩:=hro;obtain⟨_,_,rq,hrq,_⟩:=uK mid.wr hq hfq;have gb:=Ok (fn:=fn) (D:=rq.defers) (ps:=ps) (asg:=asg) (body:=body) mid.wr mid.tm hM;refine⟨_,_,_,_,xe hrq fn a.tmps ps asg body,gb,pk _ _ _,?_⟩;simp;exact mid.d.le gb.le
          ·cases hsd
        obtain⟨l,mark,w1,f1,hent,g1,hfl,hdf⟩:=hlay;have hres:(resolve a.eval (rangeCall g l) 0).run P w1=.ok {target:=.fn (.func gf) ys.toArray,args:=xs.toArray++ #[.func (.yield l) #[] #[]]} w1:=by
         have hy:a.eval (.const (.func (.yield l) #[] #[]))=.func (.yield l) #[] #[]:=rfl;simp[resolve,eg,hy,Deferred.ofValue]
        have hcl:=hc n om;have hinv:(invoke (.fn (.func gf) ys.toArray) (xs.toArray++ #[.func (.yield l) #[] #[]])).run P w1=.ok (.enter gf (xs.toArray++ #[.func (.yield l) #[] #[]]++ys.toArray)) w1:=by
         rw[invoke];exact Wf hcl hcall w1
        refine⟨l,mark,w1,_,w1,gf,_,w1,hent,hres,λ_ _=>Jx ro _,hinv,λhd=>(Cp ro hd).elim,?_⟩;obtain⟨_,hcl4⟩:=hcl.f gf _ _ _ _ hcall;have hyl:aZ S f1 (A++(.yld h1.next::B)) (xs++(.func (.yield l) #[] #[]::ys)):=by
         refine(aZ.le g1.le _ _ r1).append ?_
         simp only[aZ,Rel];exact⟨_,_,rfl,⟨l,0,1,hfl,rfl⟩,aZ.le g1.le _ _ r2⟩
        have hci:=hcl4 base S f1 w1 _ g1.wr hyl;have e2:(xs++(Value.func (.yield l) #[] #[]::ys)).toArray=xs.toArray++ #[.func (.yield l) #[] #[]]++ys.toArray:=by
         apply Array.ext';simp
        rw[e2] at hci;refine CallsIn.mono (CallsIn.fen ro hci) λen w3 hen=>?_
        obtain⟨x,rfl,S3,f3,g3,_⟩:=hen;have hfl3:=g3.le.f _ _ hfl;obtain⟨_,_,q,hq,hp1,hp2,hp3,hp4,hp5,hst⟩:=uK g3.wr hblk hfl3;have gall:=g1.trans g3;have fin:∀(hs:q.state≠ .busy),∃w4,(Instr.endLoop l).run P w3=.ok q.pending w4/\
          dp E.aY base S f s.h w S3 f3 (h3.put h1.next (Z (.loop tm3 ps3 asg3 body3 M3 .gone))) w4/\
          Mid E base ro S3 f3 {s with h:=h3.put h1.next (Z (.loop tm3 ps3 asg3 body3 M3 .gone)),defers:=df} {a with defers:=mark++a.defers} w4 N:=by
         intro hs;have gs:=xC (q':={q with state:=.exhausted}) (st':=.gone) g3.wr hblk hfl3 hq rfl rfl rfl rfl rfl;refine⟨_,run_endLoop hq hs,gall.trans gs,⟨?_,gs.wr,hdf.le (g3.trans gs).le,mid.r.le (gall.trans gs).le⟩⟩;exact mid.tm.le (gall.trans gs).le
        cases st with
        |ready=>
         simp at hrun;obtain⟨rfl,rfl⟩:=hrun;simp[LStR] at hst;obtain⟨w4,k1,k2,k3⟩:=fin (by rw[hst.1];simp)
         rw[hst.2] at k1;exact⟨Y,w4,k1,k _ _ S3 f3 k2 k3 rfl⟩
        |done e0=>
         simp at hrun;obtain⟨rfl,rfl⟩:=hrun;simp[LStR] at hst;obtain⟨w4,k1,k2,k3⟩:=fin (by rw[hst.1];simp)
         rw[hst.2.1] at k1;have kk:=k _ _ S3 f3 k2 k3 rfl;cases e0 with
         |normal=>simp[LStR.isNorm] at hst
         |exit id=>exact⟨Z (.exit id),w4,k1,wpIn_exit kk⟩
         |ret=>exact⟨Z .ret,w4,k1,wpIn_ret kk⟩
        |busy=>cases hrun
        |gone=>cases hrun
       ·cases hrun
      ·cases hrun
    ·cases hrun
   ·simp[exec] at hrun
  |goto l=>simp[dQ,exec] at hrun
  |refuse=>simp[dQ,exec] at hrun
end Go.AM
namespace Go.AM
open Go.RowKit
variable {G:Nat->Option (List AV)}{base:Nat}{S:bE}{f:Emb}{h:AH}{w:World}{P:Program}{E:Env}{s s':St}{a:Act}{N:Nat}
theorem WR.later{w':World}(r:WR G base S f h w)(hb:Below w.heap.size w w'):dp G base S f h w S f h w':=by
 have hs:=U169;refine⟨.refl _ _,⟨λb off v e=>?_,r.jV,λb k hk=>?_,r.apart,r.dom,Nat.le_trans r.le hb.size⟩,hb.mono r.le,λB O R hB _=>⟨hs hB,λ_ _=>rfl⟩,sc,λ_ _ h _=>h,ij _⟩
 ·have:=r.pD e;rw[<-r.gw _ _ _ e];simp[World.cell?,hb.block _ this]
 ·obtain⟨B,O,R,h1,h2,h3,h4⟩:=r.blk b k hk;exact⟨B,O,R,h1,h2,jw h3 hb.size,h4.same (hs h3)⟩
def IdleOk(P:Program)(E:Env):Prop:=
 ∀g n,E.idle.get g=Z n->(∃fn,P.funcs[g]? =Z fn/\(fn.name== "runtime.NumGoroutine")=U/\fn.body.isNone=U)/\
  ∀(ag:Array Value) (w:World),ag.size=n->CallsDIn Fence.wide 0 P g ag .returning w λe u w'=>(∃v,e=.returned v)/\u=.returning/\Below w.heap.size w w'
theorem Wc(hi:IdleOk P E){fn:Func}{tmps:Array Value}{R:Ending->World->Prop}{f:Emb}{h':AH}:
  ∀(ds:List ADef) (D:List Deferred) (h:AH) (w:World),cL E ds h=Z h'->lW f ds D->WR G base S f h w->
   (∀w',dp G base S f h w S f h' w'->∃v,(results fn tmps).run P w'=.ok v w'/\R (.returned v) w')->LeavesInM Fence.wide 0 P fn tmps R D .returning w:=by
 intro ds
 induction ds with
 |nil=>
  intro D h w hrun hd wr k;simp[cL] at hrun;subst hrun;simp[lW] at hd;subst hd;exact k w wr.goes
 |cons d ds ih=>
  intro D h w hrun hd wr k;cases d with
  |call g l=>
   simp[cL] at hrun;split at hrun
   ·rename_i n hn;have hq:=hrun;cases hl:ig l.length n with
    |false=>grind
    |true=>
     simp[hl] at hq;have hl:=iu hl;rw[lW] at hd;obtain⟨cap,args,D',rfl,hs,hd⟩:=hd;obtain⟨⟨fg,h1,h2,h3⟩,h4⟩:=hi g n hn;have hinv:(invoke (.fn (.func g) cap) args).run P w=.ok (.enter g (args++cap)) w:=by
      simp[invoke];exact U85
     refine⟨Sp,.inr ⟨λhd=>by grind [Fence.wide],.func g,cap,g,args++cap,rfl,hinv,λ_ _=>trivial,?_⟩⟩
     refine CallsDIn.mono (h4 _ w Gr) λe u w' he=>?_
     obtain⟨⟨v,rfl⟩,rfl,hb⟩:=he;have g1:=wr.later hb;exact ih D' h w' hq hd g1.wr λw'' g2=>k w'' (g1.trans g2)
   grind
  |mark b=>
   simp[cL] at hrun;split at hrun
   ·rename_i hb;rw[lW] at hd;obtain⟨B,O,R',D',hf,rfl,hd⟩:=hd;obtain⟨B0,O0,R0,hf0,hB,hsz,hr⟩:=wr.blk b _ hb;rw[hf] at hf0;simp at hf0;obtain⟨rfl,rfl,rfl⟩:=hf0;simp[bR] at hr;obtain⟨rfl,rfl,hw⟩:=hr;refine⟨Sp,.inl ⟨B,_,rfl,run_takeDeferred hw,?_⟩⟩;have g1:=wr.setObj (k':=.dfr U) (o':=.deferred Y) hb hf hw rfl rfl (λw' hw'=>by simp_all [bR])
    exact ih D' _ _ hrun hd g1.wr λw'' g2=>k w'' (g1.trans g2)
   grind
theorem Rq{α β:Type}(g:α->Sem β)(w:World):∀(l:List α) (r:List β),l.length=r.length->(∀(i:Nat) (x:α) (y:β),l[i]? =Z x->r[i]? =Z y->(g x).run P w=.ok y w)->(l.mapM g).run P w=.ok r w:=by
 intro l
 induction l with
 |nil=>intro r hl _;cases r<;>simp_all
 |cons x l ih=>
  intro r hl hk;cases r with
  |nil=>grind
  |cons y r=>
   rw[Ap];simp only[Sem.run_bind,hk 0 x y rfl rfl,Result.andThen_ok,ih r Gr (λi a b h1 h2=>hk (i+1) a b Gr Gr)];rfl
theorem Rx(ht:TmR S f s.tm a.tmps N)(r:WR E.aY base S f s.h w):∀(rs:List ResultVar) (ars:List ARes) (l:List AV),cRes P rs=Z ars->ay E.aY s ars=Z l->
  ∃xs:List Value,xs.length=rs.length/\aZ S f l xs/\
   ∀(i:Nat) (rv:ResultVar) (x:Value),rs[i]? =Z rv->xs[i]? =Z x->((match rv with
    |.tmp t=>pure (a.tmps.getD t undef)
    |.cell b t=>do loadVar t (<-asAddr (a.tmps.getD b undef)):Sem Value)).run P w=.ok x w:=by
 intro rs
 induction rs with
 |nil=>
  intro ars l hc hl;simp only[cRes,sI] at hc;subst hc;rw[ay,sI] at hl;subst hl;exact⟨[],rfl,by rfl,λi rv x h=>by simp⟩
 |cons rv rs ih=>
  intro ars l hc hl;cases rv with
  |tmp t=>
   simp[cRes] at hc;obtain⟨ars',hc',rfl⟩:=hc;simp[ay] at hl;split at hl
   ·rename_i v l' hv hl';simp at hl;subst hl;obtain⟨xs,h1,h2,h3⟩:=ih ars' l' hc' hl';obtain⟨x,hx,hr⟩:=ht.get t v hv;refine⟨x::xs,Gr,by rw[aZ];grind,λi rv y hi hy=>?_⟩
    cases i with
    |zero=>
     simp[Bk] at hi hy;subst hi;simp_all
    |succ i=>grind
   grind
  |cell b t=>
   simp[cRes] at hc;split at hc
   ·rename_i n ars' hn hc';simp at hc;subst hc;simp[ay] at hl;split at hl
    ·rename_i cs l' hv hl';simp at hl;obtain⟨u,hu,rfl⟩:=hl;obtain⟨v,hv1,hv2⟩:=j7.1 hv;obtain⟨xs,h1,h2,h3⟩:=ih ars' l' hc' hl';obtain⟨x,hx,hr⟩:=ht.get b v hv1;obtain⟨B,off,hca⟩:=aBU r hr hv2;obtain⟨z,hz,hrz⟩:=Dy (P:=P) hn hca hu;refine⟨z::xs,Gr,by rw[aZ];grind,λi rv y hi hy=>?_⟩
     cases i with
     |zero=>
      simp[Bk] at hi hy;subst hi;subst hy;simp only[Al,hx,Option.getD_some,hca.eq,asAddr]
      grind
     |succ i=>grind
    grind
   grind
theorem Ml {fn : Func} {ars : List ARes} {l : List AV} (ht : TmR S f s.tm a.tmps N) (r : WR E.aY base S f s.h w) (hc : cRes P fn.results.toList = Z ars) (hl : ay E.aY s ars = Z l) :
    ∃ v, (results fn a.tmps).run P w = .ok v w /\ Rel S f (bQ l) v := by
  obtain ⟨xs, h1, h2, h3⟩ := Rx ht r _ _ _ hc hl;have hm := Rq (P := P) (λrv => (match rv with
        | .tmp t => pure (a.tmps.getD t undef)
        | .cell b t => do loadVar t (<- asAddr (a.tmps.getD b undef)) : Sem Value)) w fn.results.toList xs h1.symm h3
  have hm2 : (fn.results.mapM λrv => (match rv with
        | .tmp t => pure (a.tmps.getD t undef)
        | .cell b t => do loadVar t (<- asAddr (a.tmps.getD b undef)) : Sem Value)).run P w = .ok xs.toArray w := by
    rw [Array.mapM_eq_mapM_toList, map_eq_pure_bind]
    simp_all
  refine ⟨if h : xs.toArray.size = 1 then xs.toArray[0] else .tuple xs.toArray, ?_, ?_⟩
  · unfold results
    rw [Sem.run_bind];exact Eq.trans (congrArg (λq => Result.andThen q (λ(vs : Array Value) w' => Sem.run P (pure (if h : vs.size = 1 then vs[0] else Value.tuple vs)) w')) hm2) rfl
  · have hlen := h2.length
    match l, xs, h2 with
    | [v], [x], h2 => simp only [aZ] at h2; obtain ⟨y, ys, e, hr, _⟩ := h2; simp at e; obtain ⟨rfl, _⟩ := e; grind [bQ]
    | [], [], _ => grind [bQ, Rel]
    | a :: b :: l, x :: y :: xs, h2 =>
      simp only [bQ];rw [dif_neg Sp];simp only [Rel]
      grind
theorem aBL:∀(l:List AV) (i:Nat) (t:Tr AV) (j:Nat),(bg l i t).get j=if i<=j/\j<i+l.length then l[j-i]? else t.get j:=by
 intro l
 induction l with
 |nil=>intro i t j;rw[if_neg Sp];rfl
 |cons v l ih=>
  intro i t j;simp[bg,ih,Tr.aO]
  grind
theorem aEX{g:Nat}{af:ax}(h:aR P g=Z af):∃fn c,P.funcs[g]? =Z fn/\(fn.name== "runtime.NumGoroutine")=U/\fn.body=Z c/\af.body=dQ P fn.ntmps c/\cRes P fn.results.toList=Z af.res:=by
 unfold aR at h;split at h
 ·rename_i fn hfn;cases hn:(fn.name== "runtime.NumGoroutine") with
  |true=>grind
  |false=>
   simp[hn] at h;unfold cFun at h
   grind
 ·cases h
theorem Em(hP:E.P=P)(hm:ez P E)(hi:IdleOk P E){n:Nat}(hc:∀m,m<n->eM P E (bY E (exec E m)))(hd:∀m,m<=n->nS P E m):
  lI P E (bh E (exec E n)):=by
 intro g l h r h' hrun;unfold bh at hrun;rw[hP] at hrun;split at hrun
 ·grind
 ·rename_i af haf;obtain⟨fn,c,h1,h2,h3,h4,h5⟩:=aEX haf;refine⟨⟨fn,h1,h2,Gr⟩,λbase S f w ag wr hl=>?_⟩;have key:∀(e:Ex) (s1:St),(e=.normal\/e=.ret)->exec E n af.body {tm:=bg l 0 .nil,h,defers:=[],round:=Y}=Z (e,s1)->fj E af s1=Z (r,h')->
    CallsIn Fence.wide 0 P g ag.toArray w λe w'=>∃x,e=.returned x/\Left E base S f h w r h' x w':=by
   intro e s1 he hex hlv;rw[h4] at hex;refine callsIn_of_wp_marks (F:=Fence.wide) h1 h3 trivial ?_
   have hlen:=hl.length;have hsz:(ag.toArray++Array.replicate (fn.ntmps-ag.toArray.size) undef).size=max ag.length fn.ntmps:=Gr;refine yR (base:=base) (N:=max ag.length fn.ntmps) hP hm (Nat.le_max_right _ _) n hc hd c _ e s1 Y S f _ w _ hex ⟨⟨hsz,λi v hv=>?_⟩,wr,rfl,rfl⟩ λa1 w1 S1 f1 g1 t1 _=>?_
   ·simp[aBL] at hv;split at hv
    ·rename_i hlt;obtain⟨x,hx,hr⟩:=hl.get hv
     grind
    grind [Tr.get]
   ·unfold fj at hlv;split at hlv
    ·rename_i h2' hrd;split at hlv
     ·rename_i lr hlr;simp at hlv;obtain⟨rfl,rfl⟩:=hlv;have hbody:LeavesInM Fence.wide 0 P fn a1.tmps (λe w'=>∃x,e=.returned x/\Left E base S f h w (bQ lr) h2' x w') a1.defers .returning w1:=by
       refine Wc hi s1.defers a1.defers s1.h w1 hrd t1.d t1.wr λw2 g2=>?_
       obtain⟨v,hv,hrv⟩:=Ml (fn:=fn) (s:={s1 with h:=h2'}) (a:=a1) t1.tm g2.wr h5 hlr;exact⟨v,hv,v,rfl,S1,f1,g1.trans g2,hrv⟩
      rcases he with rfl|rfl<;>exact hbody
     grind
    grind
  grind
def Fz(h h':AH):Prop:=h'.next=h.next/\∀b,h'.get b=h.get b\/∃cs rw,h.get b=Z (.cells cs rw)/\h'.get b=Z (.cells cs U)
theorem Fz.refl(h:AH):Fz h h:=⟨rfl,λ_=>.inl rfl⟩
theorem Fz.trans{h h' h'':AH}(a:Fz h h')(b:Fz h' h''):Fz h h'':=by
 refine⟨b.1.trans a.1,λi=>?_⟩;rcases b.2 i with e|⟨cs,rw',e1,e2⟩
 ·rcases a.2 i with e'|⟨cs,rw',e1,e2⟩<;>grind
 ·rcases a.2 i with e'|⟨cs',rw'',e1',e2'⟩<;>grind
theorem Fz.foldl{α:Type}{g:AH->α->AH}(hg:∀h c,Fz h (g h c)):∀(l:List α) (h:AH),Fz h (l.foldl g h)
 | [],h=>.refl h
 |c::l,h=>(hg h c).trans (Fz.foldl hg l (g h c))
theorem sV:∀(n:Nat) (v:AV) (h:AH),Fz h (freeze n v h):=by
 intro n
 induction n with
 |zero=>intro v h;exact .refl h
 |succ n ih=>
  intro v h;cases v with
  |agg cs=>exact Fz.foldl (λh c=>ih c h) cs h
  |tup cs=>exact Fz.foldl (λh c=>ih c h) cs h
  |own b off k es cap=>
   simp[freeze];split
   ·rename_i cs rw' hb;have z1:Fz h (h.put b (Z (.cells cs U))):=by
     refine⟨rfl,λi=>?_⟩;rw[AH.aO]
     grind
    exact z1.trans (Fz.foldl (λh c=>ih c h) _ _)
   ·exact .refl h
  |ifc t v=>exact ih v h
  |fn F a b=>exact(Fz.foldl (λh c=>ih c h) a h).trans (Fz.foldl (λh c=>ih c h) b _)
  |_=>exact .refl h
theorem Fz.live{h h':AH}(z:Fz h h')(b:Nat):(h'.get b).isSome=(h.get b).isSome:=by
 rcases z.2 b with e|⟨cs,rw',e1,e2⟩<;>grind
theorem WR.fz{h':AH}(r:WR G base S f h w)(z:Fz h h'):WR G base S f h' w:=by
 refine⟨r.gw,r.jV,λb k hb=>?_,λb b' B O R B' O' R' hne g1 g2=>r.apart b b' B O R B' O' R' hne (by rw[<-z.live];exact g1) (by rw[<-z.live];exact g2),λb x hx=>by rw[z.1];exact r.dom b x hx,r.le⟩
 rcases z.2 b with e|⟨cs,rw',e1,e2⟩
 ·exact r.blk b k (e▸hb)
 ·rw[e2] at hb;simp at hb;subst hb;obtain⟨B,O,R,g1,g2,g3,g4⟩:=r.blk b _ e1
  grind [bR]
theorem Ch{α β:Type}{g:α->Option β}:∀{l:List α} {r:List β},l.mapM g=Z r->r.length=l.length/\∀(i:Nat) (c:α),l[i]? =Z c->∃t,r[i]? =Z t/\g c=Z t
 | [],r,h=>Gr
 |c::l,r,h=>by
  rw[Ap] at h;simp[j7] at h;obtain⟨t,ht,r',hr',rfl⟩:=h;obtain⟨h1,h2⟩:=Ch hr'
  grind
theorem xz(r:WR G base S f h w){S2:bE}(hS:∀b o v,S b o=Z v->S2 b o=Z v)
  (h2:∀b cs B O R,h.get b=Z (.cells cs U)->f b=Z (B,O,R)->∀i,i<R->∀v,w.cell? ⟨B,O+i,Y⟩=Z v->S2 B (O+i)=Z v):
  ∀(n:Nat) (v t:AV) (x:Value),ar h n v=Z t->Rel S f v x->Rel S2 nof t x:=by
 intro n
 induction n with
 |zero=>grind [ar]
 |succ n ih=>
  intro v t x ht hr;have lists:∀(l l':List AV) (xs:List Value),l.mapM (ar h n)=Z l'->aZ S f l xs->aZ S2 nof l' xs:=by
   intro l l' xs hm hl;obtain⟨h1,h3⟩:=Ch hm;refine aZ.jS (by rw[h1];exact hl.length) λi c hc=>?_
   have hlt:i<l.length:=Gr;obtain⟨u,hu,hg⟩:=h3 i l[i] (ji hlt);rw[hu] at hc;simp only[sI] at hc;subst hc;obtain⟨y,hy,hry⟩:=hl.get (ji hlt)
   grind
  have le2:Le S nof S2 nof:=⟨hS,λ_ _ e=>by cases e⟩
  cases v with
  |val v=>grind [ar,Rel]
  |imm a b c=>
   simp only[ar,sI] at ht;subst ht;simp only[Rel] at hr⊢
   obtain⟨b',off,c',rfl,q1,q2,q3⟩:=hr;exact⟨b',off,c',rfl,q1,q2,cD.le le2 _ _ _ q3⟩
  |bD cs=>
   simp only[ar,sI] at ht;subst ht;simp only[Rel] at hr⊢
   obtain⟨b',off,rfl,q3⟩:=hr;exact⟨b',off,rfl,cD.le le2 _ _ _ q3⟩
  |agg cs=>
   exact U90
  |tup cs=>
   exact U90
  |ifc t0 v=>
   exact U90
  |fn F a b=>
   simp only[ar] at ht;split at ht
   ·rename_i a' b' ha hb;simp only[sI] at ht;subst ht;simp only[Rel] at hr⊢
    grind
   grind
  |own b off k es cap=>
   simp only[ar] at ht;split at ht
   ·rename_i cs hb;have hq:=lO (x:=((List.mapM (ar h n) ((cs.drop off).take (k*es))).map λl=>AV.imm l k cap)) ht;obtain⟨hle,hq⟩:=hq;have hle:=j6 hle;simp only[A8] at hq;obtain⟨l',hl',rfl⟩:=hq;simp only[Rel] at hr⊢
    obtain⟨B,O,R,c,hf,hX,q1,q2,q3⟩:=hr;rcases hX with rfl|⟨rfl,rfl,q0,_,rfl⟩
    rotate_left
    ·have:l'=[]:=by
      grind
     subst this;exact⟨B,O+q0,0,rfl,q1,q2,by simp[cD]⟩
    refine⟨B,O+off,c,rfl,q1,q2,?_⟩;obtain⟨B0,O0,R0,hf0,hB,hsz,hbl⟩:=r.blk b _ hb;rw[hf] at hf0;simp only[sI,pI] at hf0;obtain⟨rfl,rfl,rfl⟩:=hf0;simp only[bR] at hbl;obtain⟨b1,b2,_,_⟩:=hbl;obtain⟨m1,m2⟩:=Ch hl';refine cD.jS λi t hti=>?_
    have hlt:i<((cs.drop off).take (k*es)).length:=Gr;obtain⟨u,hu,hg⟩:=m2 i _ (ji hlt);rw[hu] at hti;simp only[sI] at hti;subst hti;have hlt2:i<k*es:=Gr;have hc:cs[off+i]? =Z (((cs.drop off).take (k*es))[i]):=by
     grind
    obtain⟨y,hy,hoy,hry⟩:=b2 _ _ hc;refine⟨y,?_,hoy,ih _ _ _ hg hry⟩;rw[Nat.add_assoc];exact h2 b cs B O R hb hf (off+i) Gr y hy
   grind
  |_=>grind [ar]
theorem Dx(r:WR G base S f h w){S2:bE}(hS:∀b o v,S b o=Z v->S2 b o=Z v)
  (h2:∀b cs B O R,h.get b=Z (.cells cs U)->f b=Z (B,O,R)->∀i,i<R->∀v,w.cell? ⟨B,O+i,Y⟩=Z v->S2 B (O+i)=Z v):
  ∀(l l':List AV) (xs:List Value),cG h l=Z l'->aZ S f l xs->aZ S2 nof l' xs
 | [],_,_,hm,hr=>by grind [cG,aZ]
 |v::l,_,_,hm,hr=>by
  simp[cG] at hm;split at hm
  ·rename_i t l' ht hl';simp at hm;subst hm;simp[aZ] at hr⊢
   obtain⟨y,ys,rfl,q1,q2⟩:=hr;exact⟨y,ys,rfl,xz r hS h2 _ _ _ _ ht q1,Dx r hS h2 _ _ _ hl' q2⟩
  grind
theorem yY{S S':bE}{f f':Emb}:∀{cs:List AV} {xs:List Value},m5 cs=J->aZ S f cs xs->aZ S' f' cs xs
 | [],_,_,r=>by grind [aZ]
 |.val v::cs,_,h,r=>by
  simp[aZ,Rel] at r⊢
  obtain⟨y,ys,rfl,q1,q2⟩:=r;exact⟨y,ys,rfl,q1,yY (by grind [m5]) q2⟩
 |.agg _::_,_,h,_|.tup _::_,_,h,_|.imm .. ::_,_,h,_|.own .. ::_,_,h,_|.ptr .. ::_,_,h,_|.bD _::_,_,h,_|.ifc .. ::_,_,h,_|.fn .. ::_,_,h,_
 |.mp _::_,_,h,_|.it _::_,_,h,_|.yld _::_,_,h,_=>by simp[m5] at h
theorem aEK{S S':bE}{f f':Emb}{v:AV}{x:Value}(h:dg v=J)(r:Rel S f v x):Rel S' f' v x:=by
 cases v with
 |val v=>grind [Rel]
 |agg cs=>
  simp[dg] at h;rw[Rel] at r⊢
  obtain⟨xs,rfl,ho,q⟩:=r;exact⟨xs,rfl,ho,yY h q⟩
 |tup cs=>
  rw[dg] at h;simp[Rel] at r⊢
  obtain⟨xs,rfl,q⟩:=r;refine⟨xs,rfl,?_⟩;rw[j3] at h;refine aZ.jS q.length λi c hc=>?_
  obtain⟨y,hy,hry⟩:=q.get hc;refine⟨y,hy,?_⟩;have hcm:=h c (List.mem_of_getElem? hc);cases c with
  |val v=>grind [Rel]
  |agg cs=>
   simp only[Rel] at hry⊢
   obtain⟨xs,rfl,ho,q⟩:=hry;exact⟨xs,rfl,ho,yY hcm q⟩
  |_=>simp at hcm
 |_=>simp[dg] at h
end Go.AM
namespace Go.AM
open Go.RowKit
variable {G:Nat->Option (List AV)}{base:Nat}{S:bE}{f:Emb}{h:AH}{w:World}{P:Program}{E:Env}{s s':St}{a:Act}{N n:Nat}
theorem bR.le2{S S':bE}{f f':Emb}{k:Blk}{B O R:Nat}{w:World}(h:Le S f S' f')(r:bR S f k B O R w)
  (hs:∀cs,k=.cells cs J->∀i,i<R->S B (O+i)=Y->S' B (O+i)=Y):bR S' f' k B O R w:=by
 cases k with
 |cells cs rw=>
  cases rw with
  |true=>exact r.le h (hs cs rfl)
  |false=>
   simp only[bR] at r⊢
   obtain⟨h1,h2,h3,_⟩:=r;refine⟨h1,λi c hc=>?_,h3,(λhr=>by cases hr),(λhr=>by cases hr)⟩
   obtain⟨y,hy,ho,hr⟩:=h2 i c hc;exact⟨y,hy,ho,hr.le h _ _⟩
 |map es=>
  grind [bR,dA.le]
 |hZ es=>
  grind [bR,dA.le]
 |iter st pos=>exact r
 |ft m=>
  exact U70
 |kZ m on=>
  exact U71
 |nU m n seen=>
  exact U71
 |loop tm ps asg body M st=>
  exact U72
 |dfr on=>exact r
 |tag b t n=>
  exact U73
def lj(S2:bE)(w:World)(t:AV)(x:Value)(w':World):Prop:=
 ∃S3:bE,Rel S3 nof t x/\Below w.heap.size w w'/\(∀b o v,S3 b o=Z v->w'.cell? ⟨b,o,Y⟩=Z v)/\(∀b o,b<w.heap.size->S3 b o=S2 b o)
def KnownOk(P:Program)(E:Env):Prop:=
 ∀g l r,E.known g l=Z r->(∃fn,P.funcs[g]? =Z fn/\(fn.name== "runtime.NumGoroutine")=U/\fn.body.isNone=U)/\
  ∀(S2:bE) (w:World) (ag:List Value),(∀b o v,S2 b o=Z v->w.cell? ⟨b,o,Y⟩=Z v)->(∀q cs,E.aY q=Z cs->cD S2 cs q 0)->aZ S2 nof l ag->
   CallsIn Fence.wide 0 P g ag.toArray w λe w'=>∃x,e=.returned x/\lj S2 w r x w'
theorem aQW{S2:bE}(h1:∀b o v,S2 b o=Z v->w.cell? ⟨b,o,Y⟩=Z v)(h2:∀g cs,G g=Z cs->cD S2 cs g 0):WR G w.heap.size S2 nof .empty w:=
 ⟨h1,h2,λb k hb=>(by cases hb),λb b' B O R B' O' R' _ g1=>(by cases g1),λb x hx=>(by cases hx),ij _⟩
theorem yH(hen:lI P E (bh E (exec E n))){g:Nat}{l:List AV}{r t:AV}{hc:AH}(hrun:bh E (exec E n) g l .empty=Z (r,hc))(ht:ar (freeze aU r hc) aU r=Z t)
  {S2:bE} {ag:List Value} (h1:∀b o v,S2 b o=Z v->w.cell? ⟨b,o,Y⟩=Z v) (h2:∀q cs,E.aY q=Z cs->cD S2 cs q 0) (hl:aZ S2 nof l ag):
  CallsIn Fence.wide 0 P g ag.toArray w λe w'=>∃x,e=.returned x/\lj S2 w t x w':=by
 obtain⟨_,hcalls⟩:=hen g l .empty r hc hrun;refine CallsIn.mono (hcalls w.heap.size S2 nof w ag (aQW h1 h2) hl) λe w' he=>?_
 obtain⟨x,rfl,S',f',hg,hr⟩:=he;refine⟨x,rfl,?_⟩;have hkeep:∀b o,b<w.heap.size->S' b o=S2 b o:=λb o hb=>by
  have:=(hg.keep b o 1 hb (λc _ _ _ hc=>(by cases hc))).2 0 om
  grind
 have wr1:=hg.wr.fz (sV aU r hc)
 classical
 let S3:bE:=λb o=>if b<w.heap.size then S2 b o else w'.cell? ⟨b,o,Y⟩
 refine⟨S3,?_,hg.below,λb o v hv=>?_,λb o hb=>by simp[S3,if_pos hb]⟩
 ·refine xz wr1 (λb o v hv=>?_) (λb cs B O R hb hf i hi v hv=>?_) _ _ _ _ ht hr
  ·simp[S3];split
   ·rename_i hlt;rw[<-hkeep b o hlt];exact hv
   ·exact hg.wr.gw _ _ _ hv
  ·obtain⟨B0,O0,R0,hf0,hB,_⟩:=wr1.blk b _ hb;rw[hf] at hf0;simp at hf0;obtain⟨rfl,rfl,rfl⟩:=hf0;simp[S3,if_neg (Nat.not_lt.2 hB)];exact hv
 ·simp[S3] at hv;split at hv
  ·rename_i hlt;have:=h1 _ _ _ hv;rw[<-this];exact hg.below.cell (p:=⟨b,o,Y⟩) hlt
  grind
theorem aMK{h1:AH}(wr:WR G base S f h w)(hz:Fz h h1):∃S2:bE,dp G base S f h w S2 f h1 w/\(∀b o v,S b o=Z v->S2 b o=Z v)/\
  (∀b cs B O R,h1.get b=Z (.cells cs U)->f b=Z (B,O,R)->∀i,i<R->∀v,w.cell? ⟨B,O+i,Y⟩=Z v->S2 B (O+i)=Z v):=by
 have wr1:=wr.fz hz
 classical
 let Ro:Nat->Nat->Prop:=λb o=>∃id cs B O R,h1.get id=Z (.cells cs U)/\f id=Z (B,O,R)/\b=B/\O<=o/\o<O+R
 let S2:bE:=λb o=>if(S b o).isSome=J then S b o else if Ro b o then w.cell? ⟨b,o,Y⟩ else Y
 have hS:=U170;have hw2:∀b o v,S2 b o=Z v->w.cell? ⟨b,o,Y⟩=Z v:=λb o v hv=>by
  exact U91
 have hro:∀b cs B O R,h1.get b=Z (.cells cs U)->f b=Z (B,O,R)->∀i,i<R->∀v,w.cell? ⟨B,O+i,Y⟩=Z v->S2 B (O+i)=Z v:=by
  intro b cs B O R hb hf i hi v hv;simp only[S2];split
  ·rename_i hs;obtain⟨u,hu⟩:=Ai.1 hs;have:=wr.gw _ _ _ hu;rw[hv] at this;rw[hu,this]
  ·rw[if_pos ⟨b,cs,B,O,R,hb,hf,rfl,om,om⟩];exact hv
 have hle:Le S f S2 f:=⟨hS,λ_ _ e=>e⟩;have same:∀{B O R},fX w w B O R:=lx rfl;refine⟨S2,⟨hle,⟨hw2,λq cs hq=>(wr.jV q cs hq).le hle _ _ _,λb k hbk=>?_,λb b' B O R B' O' R' hne g1 g2=>wr1.apart b b' B O R B' O' R' hne g1 g2,wr1.dom,wr.le⟩,Below.refl _ _,λB O R hB hap=>⟨same,λi hi=>?_⟩,?_,λ_ _ h _=>h,by rw[hz.1];exact ij _⟩,hS,hro⟩
 ·obtain⟨B,O,R,q1,q2,q3,q4⟩:=wr1.blk b k hbk;refine⟨B,O,R,q1,q2,q3,?_⟩;refine q4.le2 hle λcs hcs i hi hn=>?_
  subst hcs;exact U92
 ·simp only[S2];split
  ·rfl
  ·exact U19
 ·intro b B O R hl1 hf1;exact sc b B O R (by rw[<-hz.live];grind) hf1
theorem Xc{r:AV}{h':AH}{x:Value}{w':World}(k:Left E base S f h w r h' x w'):Left E base S f h w (gA r h').1 (gA r h').2 x w':=by
 unfold gA;cases dg r with
 |true=>exact k
 |false=>
  simp;cases ht:ar (freeze aU r h') aU r with
  |none=>exact k
  |some t=>
   obtain⟨S',f',hg,hr⟩:=k;obtain⟨S2,hg2,hS,hro⟩:=aMK hg.wr (sV aU r h');exact⟨S2,f',hg.trans hg2,(xz (hg.wr.fz (sV aU r h')) hS hro _ _ _ _ ht hr).any⟩
theorem aBZ(hk:KnownOk P E)(hen:lI P E (bh E (exec E n))):lI P E (fD E (bh E (exec E n))):=by
 intro g l h r h' hrun;unfold fD at hrun;split at hrun
 ·exact hen g l h r h' hrun
 ·simp only at hrun;split at hrun
  ·split at hrun
   ·rename_i r0 h0 he0;simp only[sI] at hrun;obtain⟨k1,k2⟩:=hen g l h r0 h0 he0
    grind [CallsIn.mono,Xc]
   grind
  ·rename_i l' hl';have hz:Fz h (l.foldl (λh v=>freeze aU v h) h):=by grind [Fz.foldl,sV]
   generalize l.foldl (λh v=>freeze aU v h) h=h1 at hz hl' hrun;have main:∀(t:AV),r=t->(h'=bif dg t then h else h1)->
     (∀(S2:bE) (w:World) (ag:List Value),(∀b o v,S2 b o=Z v->w.cell? ⟨b,o,Y⟩=Z v)->(∀q cs,E.aY q=Z cs->cD S2 cs q 0)->aZ S2 nof l' ag->
      CallsIn Fence.wide 0 P g ag.toArray w λe w'=>∃x,e=.returned x/\lj S2 w t x w')->
     ∀base S f w ag,WR E.aY base S f h w->aZ S f l ag->CallsIn Fence.wide 0 P g ag.toArray w λe w'=>∃x,e=.returned x/\Left E base S f h w r h' x w':=by
    intro t hrt hh hp base S f w ag wr hl;subst hrt;have wr1:=wr.fz hz
    classical
    let Ro:Nat->Nat->Prop:=λb o=>∃id cs B O R,h1.get id=Z (.cells cs U)/\f id=Z (B,O,R)/\b=B/\O<=o/\o<O+R
    let S2:bE:=λb o=>if(S b o).isSome=J then S b o else if Ro b o then w.cell? ⟨b,o,Y⟩ else Y
    have hS:=U170;have hw2:∀b o v,S2 b o=Z v->w.cell? ⟨b,o,Y⟩=Z v:=λb o v hv=>by
     exact U91
    have hro:∀b cs B O R,h1.get b=Z (.cells cs U)->f b=Z (B,O,R)->∀i,i<R->∀v,w.cell? ⟨B,O+i,Y⟩=Z v->S2 B (O+i)=Z v:=by
     intro b cs B O R hb hf i hi v hv;simp only[S2];split
     ·grind [Ai]
     ·rw[if_pos ⟨b,cs,B,O,R,hb,hf,rfl,om,om⟩];exact hv
    have hgl:∀q cs,E.aY q=Z cs->cD S2 cs q 0:=λq cs hq=>cD.le (S:=S) (f:=nof) (f':=nof) ⟨hS,λ_ _ e=>by cases e⟩ _ _ _ (wr.jV q cs hq)
    refine CallsIn.mono (hp S2 w ag hw2 hgl (Dx wr1 hS hro _ _ _ hl' hl)) λe w' he=>?_
    obtain⟨x,rfl,S3,hr3,hb,hs3,hold⟩:=he;refine⟨x,rfl,?_⟩;cases hfl:dg r with
    |true=>
     simp only[hfl,cond_true] at hh;subst hh;exact⟨S,f,wr.later hb,aEK hfl hr3⟩
    |false=>
     simp only[hfl,cond_false] at hh;subst hh;have hle:Le S f S3 f:=⟨λb o v hv=>by rw[hold b o (wr.pD hv)];exact hS _ _ _ hv,λ_ _ e=>e⟩
     have same:=U169;refine⟨S3,f,⟨hle,⟨hs3,λq cs hq=>(wr.jV q cs hq).le hle _ _ _,λb k hbk=>?_,λb b' B O R B' O' R' hne g1 g2=>wr1.apart b b' B O R B' O' R' hne g1 g2,wr1.dom,Nat.le_trans wr.le hb.size⟩,hb.mono wr.le,λB O R hB hap=>⟨same hB,λi hi=>?_⟩,?_,λ_ _ h _=>h,by rw[hz.1];exact ij _⟩,hr3.any⟩
     ·obtain⟨B,O,R,q1,q2,q3,q4⟩:=wr1.blk b k hbk;refine⟨B,O,R,q1,q2,jw q3 hb.size,?_⟩;refine bR.same ?_ (same q3);refine q4.le2 hle λcs hcs i hi hn=>?_
      subst hcs;rw[hold _ _ q3];exact U92
     ·rw[hold _ _ hB];simp only[S2];split
      ·rfl
      ·exact U19
     ·intro b B O R hl1 hf1;exact sc b B O R (by rw[<-hz.live];grind) hf1
   split at hrun
   ·rename_i r0 hkn;simp only[sI,pI] at hrun;obtain⟨rfl,rfl⟩:=hrun;obtain⟨k1,k2⟩:=hk g l' r0 hkn
    grind
   ·split at hrun
    ·rename_i r0 hc hent;split at hrun
     ·rename_i t ht;simp only[sI,pI] at hrun;obtain⟨rfl,rfl⟩:=hrun;exact⟨(hen g l' .empty r0 hc hent).1,main t rfl rfl λS2 w ag q1 q2 q3=>yH hen hent ht q1 q2 q3⟩
     grind
    grind
theorem Hx:∀{ps:List Nat} {l:List AV} {tm tm':Tr AV} {ag:List Value} {t:Array Value},kQ ps l tm=Z tm'->aZ S f l ag->TmG S f tm t->(∀p∈ps,p<t.size)->
  ps.length=ag.length/\TmG S f tm' ((ps.zip ag).foldl (λt (q:Nat×Value)=>t.setIfInBounds q.1 q.2) t)/\((ps.zip ag).foldl (λt (q:Nat×Value)=>t.setIfInBounds q.1 q.2) t).size=t.size
 | [],[],_,_,_,_,hp,hl,ht,_=>by
  simp[kQ] at hp;subst hp;simp[aZ] at hl;simp_all
 |p::ps,v::l,tm,tm',_,t,hp,hl,ht,hin=>by
  simp[kQ] at hp;simp[aZ] at hl;obtain⟨y,ys,rfl,hy,hl⟩:=hl;have ht2:TmG S f (tm.put p (Z v)) (t.setIfInBounds p y):=by
   intro i u hu;rw[Tr.aO] at hu;rw[Bj];split at hu
   ·grind
   ·rename_i e;rw[if_neg (λh=>e h.symm)];exact ht i u hu
  obtain⟨q1,q2,q3⟩:=Hx hp hl ht2 (λq hq=>by grind)
  simp_all
 | [],_::_,_,_,_,_,hp,_,_,_=>by grind [kQ]
 |_::_,[],_,_,_,_,hp,_,_,_=>by grind [kQ]
end Go.AM
namespace Go.AM
open Go.RowKit
variable {G:Nat->Option (List AV)}{base:Nat}{S:bE}{f:Emb}{h:AH}{w:World}{P:Program}{E:Env}{s s':St}{a:Act}{N n:Nat}
theorem aMC(ps:Array Tmp)(ag:List Value)(t:Array Value):(ps.zip ag.toArray).foldl (λt (q:Nat×Value)=>t.setIfInBounds q.1 q.2) t=(ps.toList.zip ag).foldl (λt (q:Nat×Value)=>t.setIfInBounds q.1 q.2) t:=by
 grind [Array.toList_zip]
theorem Xy(hP:E.P=P)(hm:ez P E)(hc:∀m,m<n->eM P E (bY E (exec E m)))(hd:∀m,m<=n->nS P E m):CallOkY P E (roundA E (exec E n)):=by
 intro b l h r h' hrun base S f w ag B O R wr hl hf;unfold roundA at hrun;split at hrun
 case h_2=>grind
 rename_i tm ps asg body M hb;split at hrun
 case h_2=>grind
 rename_i tm1 htm1;have hq:=lO hrun;clear hrun;obtain⟨hps,hrun⟩:=hq;rw[hP] at hrun;split at hrun
 case h_2=>grind
 rename_i s1 hx1;split at hrun
 case h_2=>grind
 rename_i tm2 ps2 asg2 body2 M2 hb2;split at hrun
 case h_2=>grind
 rename_i e s2 hx2;split at hrun
 case h_2=>grind
 rename_i tm3 ps3 asg3 body3 M3 st3 hdn hb3;simp at hrun;obtain⟨rfl,rfl⟩:=hrun;obtain⟨hO,hR,q,hq,p1,p2,p3,p4,p5,p6⟩:=uK wr hb hf;subst hO;subst hR;subst p1;subst p2;subst p3;have hin:∀p∈q.params.toList,p<q.tmps.size:=λp hp=>by
  have:=j3.1 hps p hp;have hpm:p+1<=M:=by simp_all [ir]
  grind
 obtain⟨z1,z2,z3⟩:=Hx htm1 hl p5 hin;have hy:=run_yield (P:=P) (args:=ag.toArray) hq Gr;unfold da;rw[hy];refine roundIn_of_wpIn (F:=Fence.wide) trivial ?_
 rw[aMC];refine yR (base:=base) (N:=q.tmps.size) hP hm p4 n hc hd q.assign _ .normal s1 (Z B) S f _ w _ hx1 ⟨⟨z3,z2⟩,wr,rfl,⟨B,0,1,hf,rfl⟩⟩ λa1 w1 S1 f1 g1 t1 hr1=>?_
 have hf1:=g1.le.f _ _ hf;obtain⟨_,_,q1,hq1,u1,u2,u3,u4,u5,u6⟩:=uK g1.wr hb2 hf1;simp[LStR] at u6;have gb:=xC (q':={q1 with state:=.busy}) (st':=.busy) g1.wr hb2 hf1 hq1 rfl rfl rfl rfl rfl;refine⟨_,run_beginRound hq1 u6.1,?_⟩;refine yR (base:=base) (N:=q.tmps.size) hP hm p4 n hc hd q.body _ e s2 (Z B) S1 f1 a1 _ _ hx2 ⟨t1.tm,gb.wr,t1.d,t1.r⟩ λa2 w2 S2 f2 g2 t2 hr2=>?_
 have hf2:=g2.le.f _ _ hf1;obtain⟨_,_,q2,hq2,v1,v2,v3,v4,v5,v6⟩:=uK g2.wr hb3 hf2;have gall:=(g1.trans gb).trans g2;cases e with
 |normal=>
  have gs:=xC (q':={q2 with state:=.ready,pending:=Y}) (st':=.ready) g2.wr hb3 hf2 hq2 rfl rfl rfl rfl ⟨rfl,rfl⟩;exact⟨_,_,run_endRound Y hq2,_,rfl,S2,f2,gall.trans gs,by rw[Rel];exact⟨rfl,rfl⟩⟩
 |ret=>
  have gs:=xC (q':={q2 with state:=.done,pending:=Z .ret}) (st':=.done .ret) g2.wr hb3 hf2 hq2 rfl rfl rfl rfl ⟨rfl,rfl,rfl⟩;exact⟨_,_,run_endRound (Z .ret) hq2,_,rfl,S2,f2,gall.trans gs,by rw[Rel];exact⟨rfl,rfl⟩⟩
 |exit id=>
  have gs:=xC (q':={q2 with state:=.done,pending:=Z (.exit id)}) (st':=.done (.exit id)) g2.wr hb3 hf2 hq2 rfl rfl rfl rfl ⟨rfl,rfl,rfl⟩;exact⟨_,_,run_endRound (Z (.exit id)) hq2,_,rfl,S2,f2,gall.trans gs,by rw[Rel];exact⟨rfl,rfl⟩⟩
structure lM (P:Program) (E:Env):Prop where
 prog:E.P=P
 iG:ez P E
 idle:IdleOk P E
 known:KnownOk P E
 mixed:P.follows .mixedOrders=J
theorem aBW(ok:lM P E)(hdraw:∀n,(∀m,m<n->eM P E (bY E (exec E m)))->nS P E n):∀n,eM P E (bY E (exec E n)):=by
 intro n
 induction n using Aw with
 |_ n ih=>
 have hd:∀m,m<=n->nS P E m:=Gr;exact⟨aBZ ok.known (Em ok.prog ok.iG ok.idle ih hd),Xy ok.prog ok.iG ih hd⟩
end Go.AM
namespace Go.AM
open Go.RowKit
variable {G:Nat->Option (List AV)}{base:Nat}{S:bE}{f:Emb}{h:AH}{w:World}{P:Program}{E:Env}{s s':St}{a:Act}{N n:Nat}
theorem Ko:∀{a b:List UInt8},dZ a b=J->a=b
 | [],[],_=>rfl
 |a::x,b::y,h=>by
  rw[dZ,im] at h;have h1:=iu h.1;rw[Ko h.2,UInt8.toNat_inj.1 h1]
 | [],_::_,h=>by simp[dZ] at h
 |_::_,[],h=>by simp[dZ] at h
theorem aGS:∀{a b:Option Nat},eqN a b=J->a=b
 |none,Y,_=>rfl
 |some a,Z b,h=>by grind [eqN,iu]
 |none,Z _,h=>by simp[eqN] at h
 |some _,Y,h=>by simp[eqN] at h
theorem bNW:∀{a b:Value},eqV a b=J->a=b:=by
 intro a b h;unfold eqV at h;split at h
 ·grind
 ·grind
 ·have:=Ko h;rename_i x y;obtain⟨⟨x⟩⟩:=x
  simp_all
 ·rfl
 ·simp_all
 ·rw[im] at h;rename_i p a b q c d;obtain⟨p1,p2,p3⟩:=p;obtain⟨q1,q2,q3⟩:=q
  grind [iu,aGS]
 ·rfl
 ·rfl
 ·rfl
 ·cases h
mutual
theorem aGT:∀(a b:AV),eqA a b=J->a=b
 |.val a,.val b,h=>by grind [eqA,bNW]
 |.agg a,.agg b,h=>by simp only[eqA] at h;rw[wL a b h]
 |.imm a n c,.imm b m d,h=>by simp only[eqA,im] at h;rw[iu h.1.1,aGS h.1.2,wL a b h.2]
 |.own b o n e c,.own b' o' n' e' c',h=>by
  simp only[eqA,im] at h
  grind [iu,aGS]
 |.ptr b o,.ptr b' o',h=>by simp_all [eqA]
 |.mp b,.mp b',h=>by grind [eqA,iu]
 |.ifc t v,.ifc t2 v2,h=>by simp only[eqA,im] at h;rw[iu h.1,aGT v v2 h.2]
 |.fn (.func g) a b,.fn (.func g2) a2 b2,h=>by simp only[eqA,im] at h;rw[iu h.1.1,wL a a2 h.1.2,wL b b2 h.2]
 |.val _,.agg _,h|.val _,.imm ..,h|.val _,.own ..,h|.val _,.ptr ..,h|.val _,.mp _,h|.val _,.ifc ..,h|.val _,.fn ..,h|.val _,.tup _,h|.val _,.bD _,h|.val _,.it _,h|.val _,.yld _,h=>by simp[eqA] at h
 |.agg _,.val _,h|.agg _,.imm ..,h|.agg _,.own ..,h|.agg _,.ptr ..,h|.agg _,.mp _,h|.agg _,.ifc ..,h|.agg _,.fn ..,h|.agg _,.tup _,h|.agg _,.bD _,h|.agg _,.it _,h|.agg _,.yld _,h=>by simp[eqA] at h
 |.imm ..,.val _,h|.imm ..,.agg _,h|.imm ..,.own ..,h|.imm ..,.ptr ..,h|.imm ..,.mp _,h|.imm ..,.ifc ..,h|.imm ..,.fn ..,h|.imm ..,.tup _,h|.imm ..,.bD _,h|.imm ..,.it _,h|.imm ..,.yld _,h=>by simp[eqA] at h
 |.own ..,.val _,h|.own ..,.agg _,h|.own ..,.imm ..,h|.own ..,.ptr ..,h|.own ..,.mp _,h|.own ..,.ifc ..,h|.own ..,.fn ..,h|.own ..,.tup _,h|.own ..,.bD _,h|.own ..,.it _,h|.own ..,.yld _,h=>by simp[eqA] at h
 |.ptr ..,.val _,h|.ptr ..,.agg _,h|.ptr ..,.imm ..,h|.ptr ..,.own ..,h|.ptr ..,.mp _,h|.ptr ..,.ifc ..,h|.ptr ..,.fn ..,h|.ptr ..,.tup _,h|.ptr ..,.bD _,h|.ptr ..,.it _,h|.ptr ..,.yld _,h=>by simp[eqA] at h
 |.mp _,.val _,h|.mp _,.agg _,h|.mp _,.imm ..,h|.mp _,.own ..,h|.mp _,.ptr ..,h|.mp _,.ifc ..,h|.mp _,.fn ..,h|.mp _,.tup _,h|.mp _,.bD _,h|.mp _,.it _,h|.mp _,.yld _,h=>by simp[eqA] at h
 |.ifc ..,.val _,h|.ifc ..,.agg _,h|.ifc ..,.imm ..,h|.ifc ..,.own ..,h|.ifc ..,.ptr ..,h|.ifc ..,.mp _,h|.ifc ..,.fn ..,h|.ifc ..,.tup _,h|.ifc ..,.bD _,h|.ifc ..,.it _,h|.ifc ..,.yld _,h=>by simp[eqA] at h
 |.fn (.func _) ..,.val _,h|.fn (.func _) ..,.agg _,h|.fn (.func _) ..,.imm ..,h|.fn (.func _) ..,.own ..,h|.fn (.func _) ..,.ptr ..,h|.fn (.func _) ..,.mp _,h|.fn (.func _) ..,.ifc ..,h|.fn (.func _) ..,.tup _,h|.fn (.func _) ..,.bD _,h|.fn (.func _) ..,.it _,h|.fn (.func _) ..,.yld _,h=>by simp[eqA] at h
 |.fn (.func _) _ _,.fn (.method _) _ _,h|.fn (.func _) _ _,.fn (.methodOf ..) _ _,h|.fn (.func _) _ _,.fn (.via ..) _ _,h|.fn (.func _) _ _,.fn (.yield _) _ _,h=>by simp[eqA] at h
 |.fn (.method _) _ _,_,h|.fn (.methodOf ..) _ _,_,h|.fn (.via ..) _ _,_,h|.fn (.yield _) _ _,_,h=>by simp[eqA] at h
 |.tup _,_,h|.bD _,_,h|.it _,_,h|.yld _,_,h=>by simp[eqA] at h
theorem wL:∀(a b:List AV),eqL a b=J->a=b
 | [],[],_=>rfl
 |a::x,b::y,h=>by simp[eqL] at h;rw[aGT a b h.1,wL x y h.2]
 | [],_::_,h=>by simp[eqL] at h
 |_::_,[],h=>by simp[eqL] at h
end
theorem aZE{a b:Option Blk}(h:eqB a b=J):a=b:=by
 unfold eqB at h;split at h
 ·simp at h
  grind [wL]
 ·cases h
theorem vg{l:List Nat}{k:Nat}:b9 l k=J↔k∈l:=by
 grind [b9,iu,Nat.beq_refl]
theorem sD(tm:Tr AV):∀(l:List Nat) (t:Nat),(aK tm l).get t=if t∈l then tm.get t else Y
 | [],t=>by rfl
 |x::l,t=>by
  simp[aK,Tr.aO,sD tm l t]
  grind
theorem tc(h:AH):∀(l:List Nat) (b:Nat),(aJ h l).get b=if b∈l then h.get b else Y
 | [],b=>by rfl
 |x::l,b=>by
  have ih:=tc h l b
  grind [aJ,AH.get,gL,Tr.aO]
theorem xI(h':AH):∀(l:List Nat) (t:Tr Blk) (b:Nat),(eD h' l t).get b=if b∈l then h'.get b else t.get b
 | [],t,b=>by rfl
 |x::l,t,b=>by
  simp[eD,Tr.aO,xI h' l t b]
  grind
theorem vJ(h':AH)(lo:Nat):∀(n:Nat) (t:Tr Blk) (b:Nat),(cx h' lo n t).get b=if lo<=b/\b<lo+n then h'.get b else t.get b
 |0,t,b=>by rw[if_neg om];rfl
 |n+1,t,b=>by
  simp[cx,Tr.aO,vJ h' lo n t b]
  grind
theorem Jb(h:AH)(l:List Nat)(h':AH)(b:Nat):(dw h l h').get b=if b∈l\/(h.next<=b/\b<h'.next) then h'.get b else h.get b:=by
 simp[dw,AH.get];rw[vJ,xI];simp[AH.get]
 grind
theorem yZ{α:Type}:∀{t:Tr α} {k:Nat} {v:α},t.get k=Z v->v∈t.ag
 |.nil,_,_,h=>by simp[Tr.get] at h
 |.nd l o r,k,v,h=>by
  simp[Tr.get] at h;simp[Tr.ag];cases h0:ig k 0 with
  |true=>grind
  |false=>
   simp[h0] at h;cases h1:ig (k%2) 1 with
   |true=>simp[h1] at h;exact .inr (.inl (yZ h))
   |false=>simp[h1] at h;exact .inr (.inr (yZ h))
theorem zG:∀{l:List AV} {v:AV} {b:Nat},v∈l->b∈ids v->b∈aQ l
 |c::l,v,b,hm,hb=>by
  simp[aQ];rcases jl.1 hm with rfl|hm
  ·grind
  ·exact .inr (zG hm hb)
mutual
theorem Rel.fZ{S:bE}{f g:Emb}:∀(v:AV) (x:Value),(∀b∈ids v,g b=f b)->Rel S f v x->Rel S g v x
 |.val _,_,_,r=>by grind [Rel]
 |.agg cs,_,h,r=>by simp only[Rel] at r⊢;obtain⟨xs,rfl,ho,r⟩:=r;exact⟨xs,rfl,ho,aZ.fZ cs xs (by grind [ids]) r⟩
 |.tup cs,_,h,r=>by simp only[Rel] at r⊢;obtain⟨xs,rfl,r⟩:=r;exact⟨xs,rfl,aZ.fZ cs xs (by grind [ids]) r⟩
 |.imm ..,_,_,r=>by grind [Rel]
 |.own b ..,_,h,r=>by grind [Rel,ids]
 |.ptr b _,_,h,r=>by grind [Rel,ids]
 |.bD _,_,_,r=>by grind [Rel]
 |.ifc _ v,_,h,r=>by simp only[Rel] at r⊢;obtain⟨y,rfl,r⟩:=r;exact⟨y,rfl,Rel.fZ v y (by grind [ids]) r⟩
 |.fn _ a b,_,h,r=>by
  simp only[Rel] at r⊢;obtain⟨xs,ys,rfl,r,r'⟩:=r
  exact⟨xs,ys,rfl,aZ.fZ a xs (λc hc=>h c (by grind [ids])) r,aZ.fZ b ys (λc hc=>h c (by grind [ids])) r'⟩
 |.mp b,_,h,r=>by grind [Rel,ids]
 |.it b,_,h,r=>by grind [Rel,ids]
 |.yld b,_,h,r=>by grind [Rel,ids]
theorem aZ.fZ{S:bE}{f g:Emb}:∀(cs:List AV) (xs:List Value),(∀b∈aQ cs,g b=f b)->aZ S f cs xs->aZ S g cs xs
 | [],_,_,r=>by grind [aZ]
 |c::cs,_,h,r=>by
  simp[aZ] at r⊢;obtain⟨y,ys,rfl,r,r'⟩:=r
  exact⟨y,ys,rfl,Rel.fZ c y (λb hb=>h b (by grind [aQ])) r,aZ.fZ cs ys (λb hb=>h b (by grind [aQ])) r'⟩
end
theorem dA.fZ{g:Emb}:∀(es:List (Value×AV)) (l:List MapEntry),(∀b∈aQ (es.map (·.2)),g b=f b)->dA S f es l->dA S g es l
 | [],_,_,r=>r
 |(k,v)::es,_,h,r=>by
  simp[dA] at r⊢;obtain⟨e,l',rfl,hk,hv,r⟩:=r
  exact⟨e,l',rfl,hk,hv.fZ _ _ (λb hb=>h b (by grind [aQ])),dA.fZ es l' (λb hb=>h b (by grind [aQ])) r⟩
theorem bR.fZ{g:Emb}{k:Blk}{B O R:Nat}(h:∀b∈hE k,g b=f b)(r:bR S f k B O R w):bR S g k B O R w:=by
 cases k with
 |cells cs rw=>
  simp only[bR] at r⊢
  obtain⟨h1,h2,h3,h4⟩:=r;refine⟨h1,λi c hc=>?_,h3,h4⟩;obtain⟨y,hy,ho,hr⟩:=h2 i c hc;exact⟨y,hy,ho,hr.fZ _ _ λb hb=>h b (zG (List.mem_of_getElem? hc) hb)⟩
 |map es=>
  simp only[bR] at r⊢
  obtain⟨h1,h2,arr,clock,h3,h4⟩:=r;exact⟨h1,h2,arr,clock,h3,dA.fZ _ _ h h4.1,h4.2⟩
 |hZ es=>
  simp only[bR] at r⊢
  obtain⟨h1,h2,arr,clock,h3,h4⟩:=r;exact⟨h1,h2,arr,clock,h3,dA.fZ _ _ h h4⟩
 |iter st pos=>exact r
 |ft m=>
  cases m<;>grind [bR,hE]
 |kZ m on=>
  grind [bR,hE]
 |nU m n seen=>
  grind [bR,hE]
 |loop tm ps asg body M st=>
  simp only[bR] at r⊢
  obtain⟨h1,h2,q,h3,h4,h5,h6,h7,h8,h9⟩:=r;refine⟨h1,h2,q,h3,h4,h5,h6,h7,λi v hv=>?_,h9⟩;obtain⟨x,hx,hr⟩:=h8 i v hv;exact⟨x,hx,hr.fZ _ _ λb hb=>h b (zG (yZ hv) hb)⟩
 |dfr on=>exact r
 |tag b t n=>
  grind [bR,hE]
end Go.AM
namespace Go.AM
open Go.RowKit
variable {G:Nat->Option (List AV)}{base:Nat}{S:bE}{f:Emb}{h:AH}{w:World}{P:Program}{E:Env}{s s':St}{a:Act}{N n:Nat}
structure qH (G:Nat->Option (List AV)) (base:Nat) (S:bE) (f:Emb) (h:AH) (w:World) (S':bE) (f':Emb) (h':AH) (w':World):Prop where
 le:Le S f S' f'
 wr:WR G base S' f' h' w'
 below:Below base w w'
 keep:∀B O R,B<w.heap.size->qo f h B O R->fX w w' B O R/\∀i,i<R->S' B (O+i)=S B (O+i)
 live:∀b B O R,(h'.get b).isSome=J->f' b=Z (B,O,R)->
  w.heap.size<=B\/∃b0 O0 R0,(h.get b0).isSome=J/\f b0=Z (B,O0,R0)/\O0<=O/\O+R<=O0+R0
theorem qH.trans{S' S'':bE}{f' f'':Emb}{h' h'':AH}{w' w'':World}(a:qH G base S f h w S' f' h' w')(b:qH G base S' f' h' w' S'' f'' h'' w''):
  qH G base S f h w S'' f'' h'' w'':=by
 refine⟨a.le.trans b.le,b.wr,a.below.trans b.below,λB O R hB hap=>?_,λc B O R hc hf=>?_⟩
 ·exact U9
 ·exact U10
def oM(f:Emb)(n:Nat):Emb:=λb=>if b<n then f b else Y
theorem WR.part{hin:AH}(wr:WR G base S f h w){F:List Nat}(hin1:∀b,hin.get b=if b∈F then h.get b else Y)(hF:∀b∈F,b<hin.next)(hk:∀b∈F,∀k,h.get b=Z k->∀c∈hE k,c<hin.next):
  WR G base S (oM f hin.next) hin w:=by
 have cut:∀b,b<hin.next->oM f hin.next b=f b:=by grind [oM]
 have old:=U171;have fold:=U172;refine⟨wr.gw,wr.jV,λb k hb=>?_,λb b' B O R B' O' R' hne g1 g2 h1 h2=>wr.apart b b' B O R B' O' R' hne (old b g1).2 (old b' g2).2 (fold _ _ h1) (fold _ _ h2),λb x hx=>?_,wr.le⟩
 ·obtain⟨hm,_⟩:=old b Gr;rw[hin1,if_pos hm] at hb;obtain⟨B,O,R,h1,h2,h3,h4⟩:=wr.blk b k hb;exact⟨B,O,R,Gr,h2,h3,h4.fZ λc hc=>cut c (hk b hm k hb c hc)⟩
 grind [oM]
theorem frame{hin hout h':AH}{S':bE}{f':Emb}{w':World}(wr:WR G base S f h w){F:List Nat}{D:Nat->Prop}(hin1:∀b,hin.get b=if b∈F then h.get b else Y)(hF:∀b∈F,b<hin.next)
  (hle:hout.next<=h.next) (hn:h'.next=h.next) (hnew:∀b,hin.next<=b->b<hout.next->f b=Y)
  (g:dp G base S (oM f hin.next) hin w S' f' hout w')
  (hD:∀b∈F,¬D b->hout.get b=hin.get b) (hDlt:∀b,D b->b<hin.next)
  (h1:∀b,(D b\/(hin.next<=b/\b<hout.next))->h'.get b=hout.get b) (h2:∀b,¬(D b\/(hin.next<=b/\b<hout.next))->h'.get b=h.get b):
  ∃f'':Emb,Le S' f' S' f''/\qH G base S f h w S' f'' h' w'/\(∀b,¬(hin.next<=b/\b<hout.next)->f'' b=f b):=by
 classical
 let f'':Emb:=λb=>if hin.next<=b/\b<hout.next then f' b else f b
 have e1:∀b,(hin.next<=b/\b<hout.next)->f'' b=f' b:=λb hb=>if_pos hb;have e2:∀b,¬(hin.next<=b/\b<hout.next)->f'' b=f b:=λb hb=>if_neg hb;have old:=U171;have fold:=U172;have le':∀b x,f' b=Z x->f'' b=Z x:=λb x hx=>by
  have hlt:=g.wr.dom b x hx
  by_cases hb:b<hin.next
  ·rw[e2 b om];exact fold b x (g.fresh b x hx hb)
  grind
 have lef:Le S' f' S' f'':=⟨λ_ _ _ h=>h,le'⟩;have inside:∀b x,b<hout.next->(b<hin.next->b∈F\/D b)->f'' b=Z x->f' b=Z x:=λb x hlt hm hx=>by
  by_cases hb:b<hin.next
  ·rw[e2 b om] at hx;have:oM f hin.next b=Z x:=by simp_all [oM]
   exact g.le.f b x this
  grind
 have apin:∀B O R,qo f h B O R->qo (oM f hin.next) hin B O R:=λB O R hap c B' O' R' hc hf=>hap c B' O' R' (old c hc).2 (fold _ _ hf);have cls:∀b,(h'.get b).isSome=J->(b∈F\/D b\/(hin.next<=b/\b<hout.next))->h'.get b=hout.get b/\b<hout.next:=λb hb hc=>by
  have key:h'.get b=hout.get b:=by
   grind
  refine⟨key,?_⟩;have:=g.nx
  grind
 have out:∀b,¬(b∈F\/D b\/(hin.next<=b/\b<hout.next))->h'.get b=h.get b/\f'' b=f b:=Gr;have mixed:∀b b' B O R B' O' R',(b∈F\/D b\/(hin.next<=b/\b<hout.next))->¬(b'∈F\/D b'\/(hin.next<=b'/\b'<hout.next))->(h'.get b).isSome=J->(h'.get b').isSome=J->
   f'' b=Z (B,O,R)->f'' b'=Z (B',O',R')->B≠B'\/O+R<=O'\/O'+R'<=O:=by
  intro b b' B O R B' O' R' hc hc' hb hb' hf hf';obtain⟨k1,k2⟩:=cls b hb hc;obtain⟨k3,k4⟩:=out b' hc';rw[k1] at hb;rw[k3] at hb';rw[k4] at hf';have hf0:=inside b _ k2 (λhlt=>by grind) hf
  obtain⟨k,hk⟩:=Ai.1 hb';obtain⟨B1,O1,R1,q1,_,q3,_⟩:=wr.blk b' k hk;rw[hf'] at q1;simp at q1;obtain⟨rfl,rfl,rfl⟩:=q1;rcases g.live b B O R hb hf0 with hge|⟨b0,O0,R0,g1,g2,g3,g4⟩
  ·grind
  ·have hne:b0≠b':=by grind
   have:=wr.apart b0 b' B O0 R0 B' O' R' hne (old b0 g1).2 hb' (fold _ _ g2) hf';omega
 refine⟨f'',lef,⟨⟨g.le.s,λb x hx=>?_⟩,⟨g.wr.gw,g.wr.jV,λb k hb=>?_,λb b' B O R B' O' R' hne g1 g2 hf hf'=>?_,λb x hx=>?_,g.wr.le⟩,g.below,λB O R hB hap=>g.keep B O R hB (apin B O R hap),λb B O R hb hf=>?_⟩,e2⟩
 ·grind
 ·by_cases hc:b∈F\/D b\/(hin.next<=b/\b<hout.next)
  ·obtain⟨k1,k2⟩:=cls b Gr hc;rw[k1] at hb;obtain⟨B,O,R,q1,q2,q3,q4⟩:=g.wr.blk b k hb;exact⟨B,O,R,le' _ _ q1,q2,q3,q4.le lef (λ_ _ e=>e)⟩
  ·obtain⟨k3,k4⟩:=out b hc;rw[k3] at hb;obtain⟨B,O,R,q1,q2,q3,q4⟩:=wr.blk b k hb;have hap:qo f h B O R\/True:=.inr trivial;have hap:qo (oM f hin.next) hin B O R:=λc B' O' R' hcl hcf=>by
    obtain⟨o1,o2⟩:=old c hcl;have hne:b≠c:=Gr;exact wr.apart b c B O R B' O' R' hne Gr o2 q1 (fold _ _ hcf)
   obtain⟨s1,s2⟩:=g.keep B O R q3 hap;refine⟨B,O,R,Gr,q2,jw q3 g.below.size,?_⟩;have hl:Le S f S' f'':=⟨g.le.s,λc x hx=>by
    grind⟩
   exact(q4.le hl λi hi hs=>by grind).same s1
 ·by_cases hc:b∈F\/D b\/(hin.next<=b/\b<hout.next)
  ·by_cases hc':b'∈F\/D b'\/(hin.next<=b'/\b'<hout.next)
   ·obtain⟨k1,k2⟩:=cls b g1 hc;obtain⟨k3,k4⟩:=cls b' g2 hc';rw[k1] at g1;rw[k3] at g2;exact g.wr.apart b b' B O R B' O' R' hne g1 g2 (inside b _ k2 (λhlt=>by rcases hc with h|h|h;exact .inl h;exact .inr h;omega) hf)
     (inside b' _ k4 (λhlt=>by rcases hc' with h|h|h;exact .inl h;exact .inr h;omega) hf')
   ·exact mixed b b' B O R B' O' R' hc hc' g1 g2 hf hf'
  ·by_cases hc':b'∈F\/D b'\/(hin.next<=b'/\b'<hout.next)
   ·have:=mixed b' b B' O' R' B O R hc' hc g2 g1 hf' hf;omega
   ·obtain⟨k1,k2⟩:=out b hc;obtain⟨k3,k4⟩:=out b' hc';rw[k1] at g1;rw[k3] at g2;rw[k2] at hf;rw[k4] at hf';exact wr.apart b b' B O R B' O' R' hne g1 g2 hf hf'
 ·rw[hn]
  by_cases hb:hin.next<=b/\b<hout.next
  ·omega
  ·rw[e2 b hb] at hx;exact wr.dom b x hx
 ·by_cases hc:b∈F\/D b\/(hin.next<=b/\b<hout.next)
  ·obtain⟨k1,k2⟩:=cls b hb hc;rw[k1] at hb;rcases g.live b B O R hb (inside b _ k2 (λhlt=>by rcases hc with h|h|h;exact .inl h;exact .inr h;omega) hf) with hge|⟨b0,O0,R0,g1,g2,g3,g4⟩
   ·exact .inl hge
   ·exact .inr ⟨b0,O0,R0,(old b0 g1).2,fold _ _ g2,g3,g4⟩
  ·obtain⟨k1,k2⟩:=out b hc;rw[k1] at hb;rw[k2] at hf;exact sc b B O R hb hf
end Go.AM
namespace Go.AM
open Go.RowKit
variable {G:Nat->Option (List AV)}{base:Nat}{S:bE}{f:Emb}{h:AH}{w:World}{P:Program}{E:Env}{s s':St}{a:Act}{N n:Nat}
theorem rZ{h:AH}{x:Blk}{b:Nat}(hb:b<h.next):(h.alloc x).get b=h.get b:=by
 rw[AH.aS,if_neg om]
theorem aEF{l:List Nat}{k:Nat}(h:b9 l k=U):k∉l:=λhm=>by grind [vg]
theorem uR{x:Opd}{v:AV}(h:s.eval x=Z v):kL s x=ids v:=by simp[kL,h]
theorem Eu{es bytes:Nat}{sl x:Opd}{v:AV}(hrun:bN s es bytes sl x=Z (v,s')):∀b,b<s.h.next->b∉kL s sl->s'.h.get b=s.h.get b:=by
 intro b hb hm;unfold bN at hrun;simp only at hrun;split at hrun
 ·rename_i u u2 hx hy;split at hrun
  ·grind
  ·rename_i new k he;split at hrun
   ·cases hk:ig k 0 with
    |true=>grind
    |false=>
     exact U93
   ·cases hk:ig k 0 with
    |true=>grind
    |false=>
     exact U93
   ·grind
   ·rename_i b' off k' es' cap;simp[uR hx,ids] at hm;cases hk:ig k 0 with
    |true=>grind
    |false=>
     simp[hk] at hrun;split at hrun
     ·have hq:=lO hrun;clear hrun;obtain⟨_,hrun⟩:=hq;split at hrun
      ·rename_i c;cases hc2:ii (k'+k) c with
       |true=>
        simp[hc2] at hrun;exact U94
       |false=>
        simp[hc2] at hrun;obtain⟨_,rfl⟩:=hrun;exact rZ hb
      ·rename_i csx _ _ _ _;cases hin:(ir (off+k'*es) csx.length&&ii (off+(k'+k)*es) csx.length) with
       |true=>
        simp[hin] at hrun;exact U94
       |false=>
        simp[hin] at hrun;have hq:=gr hrun;obtain⟨_,hq⟩:=hq;simp at hq;obtain⟨_,rfl⟩:=hq;rw[rZ Sa,AH.aO,if_neg hm]
     grind
   grind
 grind
theorem aND{call:Cle->List AV->AH->Option (AV×AH)}{op:AOp}{v:AV}(hc:dm op=U)(hrun:aL E call s op=Z (v,s')):
  ∀b,b<s.h.next->b9 (cZ s op) b=U->s'.h.get b=s.h.get b:=by
 intro b hb hm;have hm:=aEF hm;cases op with
 |call=>grind [dm]
 |dR=>grind [dm]
 |invoke=>grind [dm]
 |store n x y=>
  simp only[aL] at hrun;split at hrun
  ·rename_i b' off l hx hy;simp only[cZ,uR hx,ids,jb] at hm;split at hrun
   ·have hq:=gr hrun;obtain⟨_,hq⟩:=hq;simp only[pI] at hq;obtain⟨_,rfl⟩:=hq
    simp_all [AH.aO]
   grind
  grind
 |appT e sl x=>
  simp only[aL] at hrun;split at hrun
  ·rename_i q hq;simp only[sI] at hrun;subst hrun;unfold mT at hq;split at hq
   case h_2=>cases hq
   rename_i u u2 hx hy;split at hq
   case h_1=>cases hq
   split at hq
   ·exact U20
   ·simp only[cZ,uR hx,ids,jb] at hm;split at hq
    ·have hq2:=gr hq;obtain⟨_,hq2⟩:=hq2;simp only[pI] at hq2;obtain⟨_,rfl⟩:=hq2;rw[rZ (by simp;omega),rZ Sa,AH.aO,if_neg hm]
    grind
   grind
  grind [Eu,cZ]
 |append es bytes sl x=>
  grind [aL,Eu,cZ]
 |copy es d x=>
  simp only[aL] at hrun;split at hrun
  ·rename_i u u2 hx hy;split at hrun
   ·grind
   ·simp only[cZ,uR hx,ids,jb] at hm;split at hrun
    ·exact U21
    grind
   grind
  grind
 |lS es z x=>
  simp only[aL] at hrun;split at hrun
  ·grind
  ·rename_i b' off k es' cap hx;simp only[cZ,uR hx,ids,jb] at hm;cases hk:ig k 0 with
   |true=>grind
   |false=>
    simp only[hk,cond_false] at hrun;split at hrun
    ·exact U21
    grind
  grind
 |jO d m k x=>
  simp only[aL] at hrun;split at hrun
  ·rename_i b' k' v' hx hk hv;simp only[cZ,uR hx,ids,jb] at hm;split at hrun
   ·exact U22
   grind
  grind
 |kR d m k=>
  simp only[aL] at hrun;split at hrun
  ·rename_i b' k' hx hk;simp only[cZ,uR hx,ids,jb] at hm;split at hrun
   ·exact U22
   ·exact U22
   grind
  grind
 |kn x=>
  simp only[aL] at hrun;split at hrun
  ·rename_i b' hx;simp only[cZ,uR hx,ids,jb] at hm;split at hrun
   ·rename_i str pos _;cases hk:ir pos str.size with
    |true=>
     simp only[hk,cond_true,sI,pI] at hrun;obtain⟨_,rfl⟩:=hrun
     simp_all [AH.aO]
    |false=>
     grind
   grind
  grind
 |gv x=>
  simp only[aL] at hrun;split at hrun
  ·rename_i b0 hx;simp only[cZ,uR hx,ids,jb] at hm;split at hrun
   ·grind
   ·grind
   ·split at hrun
    ·have hq:=gr hrun;clear hrun;obtain⟨_,hrun⟩:=hq;simp only[pI] at hrun;obtain⟨_,rfl⟩:=hrun
     simp_all [AH.aO]
    grind
   ·grind
   ·grind
   grind
  grind
 |lY x=>
  simp only[aL] at hrun
  grind
 |kg t z ok x=>
  simp only[aL] at hrun
  grind
 |fO e x n=>
  simp only[aL] at hrun;split at hrun
  ·rename_i b' k hx hn;simp only[cZ,uR hx,ids,jb] at hm;split at hrun
   ·have hq:=lO hrun;obtain⟨_,hq⟩:=hq;simp only[j7,sI,pI] at hq;obtain⟨_,_,_,rfl⟩:=hq
    simp_all [AH.aO]
   grind
  grind
 |lT z t=>
  simp only[aL,sI,pI] at hrun;obtain⟨_,rfl⟩:=hrun;rw[rZ (by simp;omega),rZ hb]
 |qE t x=>
  simp only[aL] at hrun
  grind
 |qp g x=>
  simp only[aL] at hrun;split at hrun
  ·cases hne:mo E g with
   |true=>grind
   |false=>
    simp only[hne,cond_false] at hrun;split at hrun
    ·have hq:=lO hrun;obtain⟨_,hq⟩:=hq;split at hq
     ·exact U20
     grind
    grind
  grind
 |cP es bytes z l c=>
  simp only[aL] at hrun;split at hrun
  ·have hq:=gr hrun;obtain⟨_,hq⟩:=hq;simp only[pI] at hq;obtain⟨_,rfl⟩:=hq;exact rZ hb
  grind
 |_=>
  simp only[aL] at hrun
  repeat' split at hrun
  all_goals first
   |(simp only[sI,pI] at hrun;obtain⟨_,rfl⟩:=hrun;rfl)
   |(simp only[sI,pI] at hrun;obtain⟨_,rfl⟩:=hrun;exact rZ hb)
   |(simp only[j7,sI,pI] at hrun;obtain⟨_,_,_,rfl⟩:=hrun;rfl)
   |(simp only[j7,sI,pI] at hrun;obtain⟨_,_,_,rfl⟩:=hrun;exact rZ hb)
   |(have hq:=gr hrun;obtain⟨_,hq⟩:=hq;simp only[pI] at hq;obtain⟨_,rfl⟩:=hq;rfl)
   |(have hq:=lO hrun;obtain⟨_,hq⟩:=hq;simp only[j7,sI,pI] at hq;grind)
   |(have hq:=lO hrun;grind)
   |(have hq:=lO hrun;grind)
   |cases hrun
end Go.AM
namespace Go.AM
open Go.RowKit
variable {G:Nat->Option (List AV)}{base:Nat}{S:bE}{f:Emb}{h:AH}{w:World}{P:Program}{E:Env}{s s':St}{a:Act}{N n:Nat}
def ov{α:Type}(D:Nat->Nat->Bool)(val:Nat->Nat->Option α):Nat->(Nat->Bool)->(Nat->Option α)->Nat->Option α
 |0,_,g,b=>g b
 |n+1,L,g,b=>bif L n&&D n b then val n b else ov D val n L g b
section overlay
variable {α:Type}{D:Nat->Nat->Bool}{val:Nat->Nat->Option α}{L L':Nat->Bool}{g:Nat->Option α}{b:Nat}
theorem ux:∀(n:Nat),(∀k,k<n->L k=L' k\/D k b=U)->ov D val n L g b=ov D val n L' g b
 |0,_=>rfl
 |n+1,h=>by
  simp[ov];rw[ux n λk hk=>h k om]
  grind
theorem Sk:∀(n:Nat),(∀k,k<n->L k=U)->ov D val n L g b=g b
 |0,_=>rfl
 |n+1,h=>by simp[ov,h n om];exact Sk n λk hk=>h k om
theorem Ic {m : Nat} : ∀ (n : Nat), m <= n -> ov D val n (λk => decide (k < m)) g b = ov D val m (λ_ => J) g b
  | 0, h => by have : m = 0 := by omega
               subst this; rfl
  | n + 1, h => by
    by_cases e : m = n + 1
    · grind [ux]
    · simp [ov]
      rw [show decide (n < m) = U from decide_eq_false om, Bool.false_and, cond_false];exact Ic n om
theorem aDT{i:Nat}:∀(n:Nat),i<n->L i=J->D i b=J->(∀k,i<k->k<n->L k=J->D k b=U)->ov D val n L g b=val i b
 |0,h,_,_,_=>om
 |n+1,h,hl,hd,hk=>by
  simp[ov]
  by_cases e:i=n
  ·grind
  ·have:(L n&&D n b)=U:=by
    grind
   rw[this,cond_false];exact aDT n om hl hd λk h1 h2=>hk k h1 om
theorem bCT{β:Type}{φ:Option α->β}{ver:Nat->Nat->Option α}{i N:Nat}(hiN:i<N)(hi:D i b=U)(h1:∀k,k<N->D k b=U->ver (k+1) b=ver k b)
  (h2:∀k,k<i->L k=U->D k b=J->φ (ver (k+1) b)=φ (ver k b)) (h3:∀k,i<k->k<N->L k=J->D k b=J->φ (ver (k+1) b)=φ (ver k b))
  (h5:∀k t,i<k->k<t->t<N->L k=U->L t=J->D k b=J->D t b=J->False):φ (ov D (λk=>ver (k+1)) N L (ver 0) b)=φ (ver i b):=by
 have A:∀m,m<=i->φ (ov D (λk=>ver (k+1)) m L (ver 0) b)=φ (ver m b):=by
  intro m
  induction m with
  |zero=>intro _;rfl
  |succ m ih=>
   intro hm;simp[ov]
   grind
 have B:∀m,i<=m->m<=N->φ (ov D (λk=>ver (k+1)) m L (ver 0) b)=φ (ver i b):=by
  intro m
  induction m with
  |zero=>grind
  |succ m ih=>
   intro him hm
   by_cases e:i=m+1
   ·grind
   ·simp[ov];cases hLD:(L m&&D m b) with
    |false=>grind
    |true=>
     rw[cond_true];rw[im] at hLD;have chain:∀j,i<=j->j<=m+1->φ (ver j b)=φ (ver i b):=by
      intro j
      induction j with
      |zero=>grind
      |succ j ihj=>
       intro hij hjm
       by_cases e2:i=j+1
       ·rw[e2]
       ·rw[<-ihj om om];cases hD:D j b with
        |false=>grind
        |true=>
         have hne:j≠i:=Gr;cases hL:L j<;>grind
     grind
 grind
theorem Ie{st:Nat->Nat->Option α}(hst:∀k b,D k b=U->st (k+1) b=st k b):∀n,ov D (λk=>st (k+1)) n (λ_=>J) (st 0) b=st n b
 |0=>rfl
 |n+1=>by
  simp[ov];cases hd:D n b with
  |true=>rfl
  |false=>rw[cond_false,Ie hst n,hst n b hd]
end overlay
def opSt(d:DOp)(s:St):St:={tm:=aK s.tm d.reads,h:=s.h,defers:=[],round:=s.round}
def kT(ss:Nat->St)(rs:Nat->ck)(ld:Nat->Option (Nat×Nat×Nat))(k:Nat):cC:=⟨rs k,ld k,(ss k).h,(ss (k+1)).h⟩
structure Trace (E:Env) (call:Cle->List AV->AH->Option (AV×AH)) (ds:List DOp) (done:List cC) (s s':St) (ss:Nat->St) (vs:Nat->AV) (rs:Nat->ck) (ld:Nat->Option (Nat×Nat×Nat)):Prop where
 first:ss 0=s
 last:ss ds.length=s'
 step:∀k d,ds[k]? =Z d->∃near,bC E call d near (ss k)=Z (vs k,rs k,(ss (k+1)).h)
 tm:∀k d,ds[k]? =Z d->(ss (k+1)).tm=putDst (ss k).tm d.o.dst (vs k)
 defers:∀k,k<ds.length->(ss (k+1)).defers=(ss k).defers
 round:∀k,k<ds.length->(ss (k+1)).round=(ss k).round
 free:∀k d,ds[k]? =Z d->∀i∈d.free,∃r,(done++(Ac k).map (kT ss rs ld))[i]? =Z r/\du r (kT ss rs ld k)=J
 lds:∀k d,ds[k]? =Z d->ld k=loadAt (opSt d (ss k)) d.o.op
theorem Eg{done:List cC}{b:cC}:∀{l:List Nat},dL done b l=J->∀i∈l,∃r,done[i]? =Z r/\du r b=J
 |i::l,h,j,hj=>by
  simp[dL] at h;rcases jl.1 hj with rfl|hj
  ·grind
  ·exact Eg h.2 j hj
theorem Hu{α:Type}(r:α)(rs:Nat->α)(done:List α)(k:Nat):(done++[r])++(Ac k).map rs=done++(Ac (k+1)).map (λj=>match j with|0=>r|j+1=>rs j):=by
 grind [List.range_succ_eq_map,Function.comp_def]
theorem Lv{call:Cle->List AV->AH->Option (AV×AH)}:∀(ds:List DOp) (done:List cC) (s s':St),cg E call ds done s=Z s'->∃ss vs rs ld,Trace E call ds done s s' ss vs rs ld:=by
 intro ds
 induction ds with
 |nil=>
  intro done s s' h;simp[cg] at h;subst h;exact⟨λ_=>s,λ_=>bJ,λ_=>default,λ_=>Y,rfl,rfl,λk d h=>by simp at h,λk d h=>by simp at h,λk h=>by rfl,λk h=>by rfl,λk d h=>by simp at h,λk d h=>by simp at h⟩
 |cons d ds ih=>
  intro done s s' h;simp[cg] at h;split at h
  ·rename_i v rec h1 hs;have hq:=lO h;clear h;obtain⟨hfr,h⟩:=hq;obtain⟨ss,vs,rs,ld,t⟩:=ih _ _ _ h;have hcr:∀k,kT (λk=>match k with|0=>s|k+1=>ss k) (λk=>match k with|0=>rec|k+1=>rs k) (λk=>match k with|0=>loadAt (opSt d s) d.o.op|k+1=>ld k) k=
     (match k with|0=>⟨rec,loadAt (opSt d s) d.o.op,s.h,h1⟩|k+1=>kT ss rs ld k):=λk=>by
    cases k with
    |zero=>simp[kT,t.first]
    |succ k=>rfl
   refine⟨λk=>match k with|0=>s|k+1=>ss k,λk=>match k with|0=>v|k+1=>vs k,λk=>match k with|0=>rec|k+1=>rs k,λk=>match k with|0=>loadAt (opSt d s) d.o.op|k+1=>ld k,rfl,t.last,λk e hk=>?_,λk e hk=>?_,λk hk=>?_,λk hk=>?_,λk e hk=>?_,λk e hk=>?_⟩
   ·cases k with
    |zero=>simp at hk;subst hk;exact⟨_,by simp[t.first];exact hs⟩
    |succ k=>exact t.step k e Gr
   ·cases k with
    |zero=>simp at hk;subst hk;simp[t.first]
    |succ k=>exact t.tm k e Gr
   ·cases k with
    |zero=>simp[t.first]
    |succ k=>exact t.defers k Gr
   ·cases k with
    |zero=>simp[t.first]
    |succ k=>exact t.round k Gr
   ·rw[show kT _ _ _=_ from funext hcr];cases k with
    |zero=>
     simp at hk;subst hk;intro i hi;obtain⟨r,h1,h2⟩:=Eg hfr i hi;exact⟨r,Gr,h2⟩
    |succ k=>
     intro i hi;obtain⟨r,h1,h2⟩:=t.free k e Gr i hi;rw[Hu] at h1;exact⟨r,h1,h2⟩
   ·cases k with
    |zero=>grind
    |succ k=>exact t.lds k e Gr
  ·cases h
theorem uV{pr:List (List Nat)}:∀{l:List Oper} {j:Nat},lC pr l j=J->∀(k:Nat) (o:Oper),l[k]? =Z o->
  (∀e∈o.after,Region.binds .any e=J->e.on<j+k)/\∀i∈pr.getD (j+k) [],edgeTo pr o i=J
 | [],_,_,k,o,h=>by simp at h
 |x::l,j,hp,k,o,h=>by
  simp only[lC,im,j3] at hp;cases k with
  |zero=>
   simp at h;subst h;refine⟨λe he hb=>?_,λi hi=>hp.1.2 i Gr⟩;have:=hp.1.1 e Gr
   simp_all
  |succ k=>
   obtain⟨h1,h2⟩:=uV hp.2 k o Gr
   grind
theorem zZ{pr:List (List Nat)}{ops:Array Oper}{L:Nat->Bool}(hp:lC pr ops.toList 0=J)
  (hdown:∀j o,ops[j]? =Z o->L j=J->∀e∈o.after,Region.binds .any e=J->L e.on=J):
  ∀(j:Nat) (o:Oper),ops[j]? =Z o->(∀e∈o.after,Region.binds .any e=J->L e.on=J)->∀i∈pr.getD j [],L i=J:=by
 intro j
 induction j using Aw with
 |_ j ih=>
 intro o ho hall i hi;obtain⟨h1,h2⟩:=uV hp j o Gr;have he:=h2 i Gr;simp only[edgeTo,List.any_eq_true,im,Aq] at he
 grind [iu]
def left(L:Nat->Bool):Nat->Nat
 |0=>0
 |n+1=>left L n+if L n then 0 else 1
theorem Jf{L L':Nat->Bool}{i:Nat}(h0:L i=U)(h1:L' i=J)(h:∀k,k≠i->L' k=L k):∀n,left L n=left L' n+if i<n then 1 else 0
 |0=>by rfl
 |n+1=>by
  simp[left,Jf h0 h1 h n]
  grind
theorem Cj{L:Nat->Bool}:∀n,left L n=0->∀k,k<n->L k=J
 |0,_,k,hk=>om
 |n+1,h,k,hk=>by
  rw[left] at h
  by_cases e:k=n
  ·grind
  ·exact Cj n om k om
theorem tB{a b:ck}(h:eS a b=J):(∀x∈b.F,x∉a.D/\¬(a.lo<=x/\x<a.hi))/\(∀x∈b.D,x∉a.F)/\(∀x∈b.D,x∉a.D/\¬(a.lo<=x/\x<a.hi)):=by
 simp only[eS,eT,im,Bool.not_eq_true',List.any_eq_false,Aq,not_or,vg] at h
 simp_all
theorem yV{M:Nat}{ops:Array Oper}{ds:List DOp}(h:cDraw P M ops=Z ds):∃pr:List (List Nat),lC pr ops.toList 0=J/\ds.length=ops.size/\
  (∀(j:Nat) (o:Oper),ops[j]? =Z o->∃d,ds[j]? =Z d/\d.o=kE P M ops o/\∀i,i<j->i∉pr.getD j []->i∈d.free)/\
  (∀(j:Nat) (d:DOp),ds[j]? =Z d->∀i∈d.free,∃e,ds[i]? =Z e/\eC e d=J):=by
 unfold cDraw at h;have hq:=gr h;clear h;obtain⟨hc,hq⟩:=hq;simp only[im] at hc;refine⟨predsOf ops.toList,hc.1,by rw[<-hq];simp,λj o ho=>?_,?_⟩
 ·have hz:(ops.toList.zipIdx)[j]? =Z (o,j):=by
   grind
  refine⟨_,by rw[<-hq,List.getElem?_map,hz];rfl,rfl,λi hi hn=>?_⟩
  grind [vg]
 ·have key:∀(l:List DOp),od ds l=J->∀d∈l,∀i∈d.free,∃e,ds[i]? =Z e/\eC e d=J:=by
   intro l
   induction l with
   |nil=>grind
   |cons b l ih=>
    intro hp d hd i hi;simp[od] at hp
    grind
  intro j d hd i hi;have hc2:=hc.2;rw[hq] at hc2;exact key ds hc2 d (List.mem_of_getElem? hd) i hi
theorem uc{a b:DOp}(h:eC a b=J):(∀t,a.o.dst=Z t->t∉b.reads/\b.o.dst≠Z t)/\(∀t,b.o.dst=Z t->t∉a.reads):=by
 simp[eC] at h
 grind [dstIn,vg,sameDst,Nat.beq_refl]
theorem tA{call:Cle->List AV->AH->Option (AV×AH)}{d:DOp}{near:List Nat}{v:AV}{r:ck}{h1:AH}(hs:bC E call d near s=Z (v,r,h1)):
  r.lo=s.h.next/\r.hi=h1.next/\s.h.next<=h1.next/\(∀b,b∉r.D->¬(r.lo<=b/\b<r.hi)->h1.get b=s.h.get b):=by
 unfold bC at hs;simp only at hs;split at hs
 ·have hq:=lO hs;clear hs;obtain⟨_,hs⟩:=hq;split at hs
  ·rename_i v1 s1 hrun;have hq:=gr hs;clear hs;obtain⟨hc,hq⟩:=hq;simp only[pI] at hq;obtain⟨rfl,rfl,rfl⟩:=hq;rw[im,im] at hc;refine⟨rfl,rfl,j6 hc.1.2,λb hb hn=>?_⟩
   simp_all [Jb,if_neg]
  grind
 ·grind
 grind
theorem Dz{op:AOp}{p:Nat×Nat×Nat}(h:loadAt s op=Z p):∃n x,op=.load n x/\s.eval x=Z (.ptr p.1 p.2.1)/\p.2.2=eW n:=by
 cases op with
 |load n x=>
  simp[loadAt] at h
  grind
 |_=>simp[loadAt] at h
theorem Lr{call:Cle->List AV->AH->Option (AV×AH)}{d:DOp}{near:List Nat}{v:AV}{r:ck}{h1:AH}{p:Nat×Nat×Nat}(hl:loadAt (opSt d s) d.o.op=Z p)(hs:bC E call d near s=Z (v,r,h1)):
  r.D=[]/\r.lo=r.hi:=by
 obtain⟨n,x,hop,_,_⟩:=Dz hl;unfold bC at hs;simp only at hs;split at hs
 ·have hq:=lO hs;clear hs;obtain⟨_,hs⟩:=hq;split at hs
  ·rename_i v1 s1 hrun;have hq:=gr hs;clear hs;obtain⟨hc,hq⟩:=hq;simp only[pI] at hq;obtain⟨rfl,rfl,rfl⟩:=hq;rw[hop] at hrun⊢
   simp[aL] at hrun;split at hrun
   ·simp[j7] at hrun;obtain⟨_,_,_,rfl⟩:=hrun;exact⟨rfl,rfl⟩
   grind
  grind
 ·grind
 grind
theorem Dl{h1 h2:AH}{p:Nat×Nat×Nat}(hs:sameAt h1 h2 p=J):dX p.2.1 p.2.2 (h1.get p.1)=dX p.2.1 p.2.2 (h2.get p.1):=by
 grind [sameAt,wL]
theorem aUB{op:Op}{n:Option Nat}{y:Opd}(h:cOp P op=Z (.load n y)):∃t x,op=.load t x/\gV P t=Z n/\bA x=Z y:=by
 cases op with
 |load t x=>
  simp[cOp] at h
  grind
 |alloc t=>
  grind [cOp,A8]
 |_=>
  exfalso;simp only[cOp,Bool.cond_eq_ite] at h
  repeat' split at h
  all_goals first
   |contradiction
   |(simp only[A8] at h;obtain⟨y,hy,e⟩:=h;cases e;done)
   |(simp only[sI] at h;cases h;done)
   |cases h
theorem aOM{call:Cle->List AV->AH->Option (AV×AH)}{s1 s2:St}{n:Option Nat}{x:Opd}{b o:Nat}{v:AV}{u:St}(he:s1.eval x=Z (.ptr b o))(he2:s2.eval x=Z (.ptr b o))(hr:aL E call s1 (.load n x)=Z (v,u))
  (hc:dX o (eW n) (s1.h.get b)=dX o (eW n) (s2.h.get b)):aL E call s2 (.load n x)=Z (v,s2):=by
 simp only[aL,j7,sI,pI, *] at hr⊢
 obtain⟨v',⟨cs,hcs,hv⟩,rfl,rfl⟩:=hr;simp[bI] at hcs;split at hcs
 ·rename_i a ra ha;have hq:=gr hcs;clear hcs;obtain⟨hle,hcs⟩:=hq;have hle:=j6 hle;subst hcs;rw[ha] at hc;have hlen:o+(eW n)<=a.length:=by
   cases n with
   |none=>
    grind [takeN,List.head?_drop,eW]
   |some k=>
    rw[takeN] at hv;have hq:=gr hv;clear hv;obtain⟨h1,_⟩:=hq;have h1:=j6 h1
    grind [eW]
  simp[dX,Aj hlen] at hc;cases hg:s2.h.get b with
  |none=>grind
  |some k2=>
   rw[hg] at hc;cases k2 with
   |cells c rc=>
    simp only[] at hc;have hq:=gr hc.symm;clear hc;obtain⟨h2,hc⟩:=hq;have h2:=j6 h2;refine⟨v',⟨c.drop o,?_,?_⟩,rfl,trivial⟩
    ·simp[bI,hg,Aj (show o<=c.length by omega)]
    ·cases n with
     |none=>
      rw[takeN] at hv⊢
      simp[eW] at hc;have e:=congrArg List.head? hc
      grind [List.head?_take]
     |some k=>
      rw[takeN] at hv⊢
      have hq:=gr hv;clear hv;obtain⟨h1,hv⟩:=hq;simp[eW] at hc h2;rw[Aj (show k<=(c.drop o).length by grind),cond_true,hc,hv]
   |_=>simp[] at hc
 grind
theorem wR{n:Nat}{l:List Nat}(h:below n l=J):∀b∈l,b<n:=λb hb=>by
 have:=j3.1 h b hb
 simp_all
theorem Eb{h:AH}{l:List Nat}(hk:fG h l=J):∀b∈l,b<h.next/\∀k,h.get b=Z k->∀c∈hE k,c<h.next:=λb hb=>by
 have:=j3.1 hk b hb;rw[im] at this;refine⟨j6 this.1,λk hk c hc=>?_⟩;have h2:=this.2;rw[hk] at h2;exact wR h2 c hc
theorem Hi{call:Cle->List AV->AH->Option (AV×AH)}{d:DOp}{near:List Nat}{v:AV}{r:ck}{h1:AH}(hs:bC E call d near s=Z (v,r,h1)):
  ∀b,(b∈r.F->b<s.h.next)/\(b∈r.D->b<s.h.next):=by
 unfold bC at hs;simp only at hs;split at hs
 ·have hq:=lO hs;clear hs;obtain⟨hk,hs⟩:=hq;rw[im] at hk;split at hs
  ·rename_i v1 s1 hrun;have hq:=gr hs;clear hs;obtain⟨hc,hq⟩:=hq;simp only[pI] at hq;obtain⟨rfl,rfl,rfl⟩:=hq;rw[im,im] at hc
   grind [Eb,wR]
  grind
 ·grind
 grind
structure Inv (E:Env) (base:Nat) (S0:bE) (f0:Emb) (h0:AH) (w0:World) (a0:Act) (ss:Nat->St) (rs:Nat->ck) (ds:List DOp) (N:Nat) (DH DT:Nat->Nat->Bool) (L:Nat->Bool) (a:Act) (w:World):Prop where
 ex:∃(S:bE) (f:Emb) (h:AH),qH E.aY base S0 f0 h0 w0 S f h w/\(∀b x,f b=Z x->b<h0.next->f0 b=Z x)/\h.next=(ss ds.length).h.next/\
  (∀b,h.get b=ov DH (λk b=>(ss (k+1)).h.get b) ds.length L (ss 0).h.get b)/\
  a.tmps.size=N/\(∀t v,ov DT (λk t=>(ss (k+1)).tm.get t) ds.length L (ss 0).tm.get t=Z v->∃x,a.tmps[t]? =Z x/\Rel S f v x)/\
  (∀k,k<ds.length->L k=U->∀b,(rs k).lo<=b->b<(rs k).hi->f b=Y)
 d:a.defers=a0.defers
theorem uC{ss:Nat->St}{rs:Nat->ck}{ld:Nat->Option (Nat×Nat×Nat)}{k t:Nat}(h:du (kT ss rs ld k) (kT ss rs ld t)=J):eS (rs k) (rs t)=J\/
  (∃p,ld t=Z p/\dX p.2.1 p.2.2 ((ss k).h.get p.1)=dX p.2.1 p.2.2 ((ss (k+1)).h.get p.1))\/
  ∃p,ld k=Z p/\dX p.2.1 p.2.2 ((ss t).h.get p.1)=dX p.2.1 p.2.2 ((ss (t+1)).h.get p.1):=by
 simp[du,kT] at h;rcases h with h|h|h
 ·grind
 ·split at h<;>grind [Dl]
 ·split at h<;>grind [Dl]
theorem aPT{call:Cle->List AV->AH->Option (AV×AH)}(hP:E.P=P)(hcall:eM P E call)(hm:ez P E){M:Nat}(hM:M<=N){ro:Option Nat}{ops:Array Oper}{ds:List DOp}{Q:Exit->Act->World->Prop}
  {K:Act->World->Prop} {S0:bE} {f0:Emb} {h0:AH} {w0:World} {a0:Act} {ss:Nat->St} {vs:Nat->AV} {rs:Nat->ck} {ld:Nat->Option (Nat×Nat×Nat)} {DH DT:Nat->Nat->Bool}
  (hDH:∀k b,DH k b=J↔b∈(rs k).D\/((rs k).lo<=b/\b<(rs k).hi)) (hDT:∀k t d,ds[k]? =Z d->(DT k t=J↔d.o.dst=Z t))
  (tr:Trace E call ds [] s s' ss vs rs ld) (hround:∀k,k<=ds.length->(ss k).round=s.round)
  (hnext:∀i j,i<=j->j<=ds.length->(ss i).h.next<=(ss j).h.next)
  {i:Nat} {o:Oper} {d:DOp} (ho:ops[i]? =Z o) (hd:ds[i]? =Z d) (hdo:d.o=kE P M ops o) {L L':Nat->Bool} (hL:L i=U) (hL1:L' i=J) (hL2:∀k,k≠i->L' k=L k)
  (hh0:h0.next<=(ss 0).h.next)
  (hlt:∀k,k<i->L k=U->du (kT ss rs ld k) (kT ss rs ld i)=J/\∀e,ds[k]? =Z e->eC e d=J)
  (hgt:∀k,i<k->k<ds.length->L k=J->du (kT ss rs ld i) (kT ss rs ld k)=J/\∀e,ds[k]? =Z e->eC d e=J)
  (hpair:∀k t,k<t->t<ds.length->L k=U->L t=J->du (kT ss rs ld k) (kT ss rs ld t)=J)
  {a:Act} {w:World} (inv:Inv E base S0 f0 h0 w0 a0 ss rs ds N DH DT L a w)
  (k:∀a1 w1,Inv E base S0 f0 h0 w0 a0 ss rs ds N DH DT L' a1 w1->K a1 w1):wpOpIn (fen ro) 0 P ops Q i K a w:=by
 have hin:i<ds.length:=Gr;obtain⟨near,hst⟩:=tr.step i d hd;have hheap:=tA hst;obtain⟨hlo,hhi,hnx,_⟩:=hheap;have htm:=tr.tm i d hd;obtain⟨⟨S,f,h,hg,hfr,hnext0,hget,hsz,htmps,hnew⟩,hdef⟩:=inv;have lo_of:∀k,k<ds.length->(rs k).lo=(ss k).h.next/\(rs k).hi=(ss (k+1)).h.next:=λk hk=>by
  obtain⟨nr,hs⟩:=tr.step k _ (ji hk)
  grind [tA]
 have ldq:∀k p,k<ds.length->ld k=Z p->∀b,DH k b=U:=λk p hk hp b=>by
  have he:=ji hk;obtain⟨nr,hs⟩:=tr.step k _ he;obtain⟨q1,q2⟩:=Lr (p:=p) (by rw[<-tr.lds k _ he];exact hp) hs
  grind
 have keepH:∀k b,DH k b=U->k<ds.length->(ss (k+1)).h.get b=(ss k).h.get b:=λk b hb hk=>by
  obtain⟨nr,hs⟩:=tr.step k _ (ji hk)
  grind [tA]
 have keepT:∀k t,DT k t=U->k<ds.length->(ss (k+1)).tm.get t=(ss k).tm.get t:=λk t ht hk=>by
  exact U95
 have allH:∀b,ov DH (λk b=>(ss (k+1)).h.get b) i (λ_=>J) (ss 0).h.get b=(ss i).h.get b:=λb=>by
  have:=Ie (D:=λk b=>if k<ds.length then DH k b else J) (st:=λk b=>(ss k).h.get b) (b:=b) (λk b hb=>by
   simp_all) i
  rw[<-this];have gen:∀m,m<=ds.length->ov DH (λk b=>(ss (k+1)).h.get b) m (λ_=>J) (ss 0).h.get b=ov (λk b=>if k<ds.length then DH k b else J) (λk b=>(ss (k+1)).h.get b) m (λ_=>J) (ss 0).h.get b:=by
   exact U96
  grind
 have allT:∀b,ov DT (λk b=>(ss (k+1)).tm.get b) i (λ_=>J) (ss 0).tm.get b=(ss i).tm.get b:=λb=>by
  have:=Ie (D:=λk b=>if k<ds.length then DT k b else J) (st:=λk b=>(ss k).tm.get b) (b:=b) (λk b hb=>by
   simp_all) i
  rw[<-this];have gen:∀m,m<=ds.length->ov DT (λk b=>(ss (k+1)).tm.get b) m (λ_=>J) (ss 0).tm.get b=ov (λk b=>if k<ds.length then DT k b else J) (λk b=>(ss (k+1)).tm.get b) m (λ_=>J) (ss 0).tm.get b:=by
   exact U96
  grind
 have seeT:∀t,t∈d.reads->ov DT (λk t=>(ss (k+1)).tm.get t) ds.length L (ss 0).tm.get t=(ss i).tm.get t:=λt ht=>by
  rw[<-allT t,<-Ic ds.length (Nat.le_of_lt hin)];refine ux _ λk hk=>?_
  have he:=ji hk;rcases Nat.lt_trichotomy k i with hki|hki|hki
  ·cases hLk:L k with
   |true=>exact .inl (by simp[hki])
   |false=>
    right;cases hdt:DT k t with
    |false=>rfl
    |true=>exact absurd ht ((uc ((hlt k hki hLk).2 _ he)).1 t ((hDT k t _ he).1 hdt)).1
  ·subst hki;exact .inl (by simp[hL])
  ·cases hLk:L k with
   |false=>exact .inl (by rw[eq_comm];exact decide_eq_false om)
   |true=>
    right;cases hdt:DT k t with
    |false=>rfl
    |true=>exact absurd ht ((uc ((hgt k hki hk hLk).2 _ he)).2 t ((hDT k t _ he).1 hdt))
 have seeH:ld i=Y->(∀b∈(rs i).F,b<(ss i).h.next)->∀b,b∈(rs i).F->h.get b=(ss i).h.get b:=λhld hF b hb=>by
  rw[hget,<-allH b,<-Ic ds.length (Nat.le_of_lt hin)];refine ux _ λk hk=>?_
  rcases Nat.lt_trichotomy k i with hki|hki|hki
  ·cases hLk:L k with
   |true=>exact .inl (by simp[hki])
   |false=>
    right;cases hdt:DH k b with
    |false=>rfl
    |true=>
     rcases uC (hlt k hki hLk).1 with hap|⟨p,hp,_⟩|⟨p,hp,_⟩
     ·have q:=(tB hap).1 b hb;rcases(hDH k b).1 hdt with hx|hx
      ·exact absurd hx q.1
      ·exact absurd hx q.2
     ·rw[hld] at hp;cases hp
     ·rw[ldq k p hk hp b] at hdt;cases hdt
  ·subst hki;exact .inl (by simp[hL])
  ·cases hLk:L k with
   |false=>exact .inl (by rw[eq_comm];exact decide_eq_false om)
   |true=>
    right;cases hdt:DH k b with
    |false=>rfl
    |true=>
     rcases uC (hgt k hki hk hLk).1 with hap|⟨p,hp,_⟩|⟨p,hp,_⟩
     ·have q:=(tB hap).2.1 b;rcases(hDH k b).1 hdt with hx|hx
      ·exact absurd hb (q hx)
      ·have:=hF b hb;have h1:=(lo_of k hk).1;have h2:=hnext (i+1) k om om;omega
     ·rw[ldq k p hk hp b] at hdt;cases hdt
     ·rw[hld] at hp;cases hp
 have htmR:TmR S f (aK (ss i).tm d.reads) a.tmps N:=⟨hsz,λt v hv=>by
  rw[sD] at hv;split at hv
  ·rename_i hm;exact htmps t v (by rw[seeT t hm];exact hv)
  ·cases hv⟩
 have finish:∀(S1:bE) (f1:Emb) (h1:AH) (w1:World) (x:Value),qH E.aY base S f h w S1 f1 h1 w1->h1.next=h.next->(∀b,¬((rs i).lo<=b/\b<(rs i).hi)->f1 b=f b)->
   (∀b,DH i b=J->h1.get b=(ss (i+1)).h.get b)->(∀b,DH i b=U->h1.get b=h.get b)->Rel S1 f1 (vs i) x->(∀t,d.o.dst=Z t->t<N)->
   Inv E base S0 f0 h0 w0 a0 ss rs ds N DH DT L' (a.put d.o.dst x) w1:=by
  intro S1 f1 h1 w1 x hg1 hn1 hf1 hi1 hi2 hrel hdst;have hle1:=hg1.le;refine⟨⟨S1,f1,h1,hg.trans hg1,λb y hy hb=>?_,by rw[hn1,hnext0],λb=>?_,?_,λt v hv=>?_,λk hk hLk b hb1 hb2=>?_⟩,?_⟩
  ·refine hfr b y ?_ hb;rw[<-hf1 b]
   ·exact hy
   ·have h1:=hnext 0 i om om;have h2:=(lo_of i hin).1;omega
  ·cases hdb:DH i b with
   |true=>
    rw[hi1 b hdb];refine(aDT (val:=λk b=>(ss (k+1)).h.get b) ds.length hin hL1 hdb λk hik hk hLk=>?_).symm;rw[hL2 k om] at hLk;rcases uC (hgt k hik hk hLk).1 with hap|⟨p,hp,_⟩|⟨p,hp,_⟩
    rotate_left
    ·exact ldq k p hk hp b
    ·rw[ldq i p hin hp b] at hdb;cases hdb
    have q:=tB hap;cases hdk:DH k b with
    |false=>rfl
    |true=>
     have h1:=(lo_of k hk).1;have h2:=hnext (i+1) k om om;have h3:=(lo_of i hin).2;rcases(hDH k b).1 hdk with hx|hx
     ·rcases(hDH i b).1 hdb with hy|hy
      ·exact absurd hy (q.2.2 b hx).1
      ·exact absurd hy (q.2.2 b hx).2
     ·rcases(hDH i b).1 hdb with hy|hy
      ·have:=(Hi hst b).2 hy;omega
      ·omega
   |false=>
    rw[hi2 b hdb,hget];refine ux _ λk hk=>?_
    by_cases e:k=i
    ·subst e;exact .inr hdb
    ·exact .inl (hL2 k e).symm
  ·cases d.o.dst<;>simp[Act.put,hsz]
  ·cases hdt:DT i t with
   |true=>
    have hdt':=(hDT i t d hd).1 hdt;rw[aDT (val:=λk t=>(ss (k+1)).tm.get t) ds.length hin hL1 hdt λk hik hk hLk=>?_] at hv
    ·rw[htm,hdt'] at hv;simp[putDst,Tr.aO] at hv;subst hv;rw[hdt'];exact⟨x,by simp[Act.put,hsz,hdst t hdt'],hrel⟩
    ·rw[hL2 k om] at hLk;have he:=ji hk;cases hdk:DT k t with
     |false=>rfl
     |true=>exact absurd ((hDT k t _ he).1 hdk) ((uc ((hgt k hik hk hLk).2 _ he)).1 t hdt').2
   |false=>
    have hne:d.o.dst≠Z t:=λe=>by rw[(hDT i t d hd).2 e] at hdt;cases hdt
    rw[show ov DT (λk t=>(ss (k+1)).tm.get t) ds.length L' (ss 0).tm.get t=ov DT (λk t=>(ss (k+1)).tm.get t) ds.length L (ss 0).tm.get t from ux _ λk hk=>by
     by_cases e:k=i
     ·subst e;exact .inr hdt
     ·exact .inl (hL2 k e)] at hv
    obtain⟨y,hy,hr⟩:=htmps t v hv;refine⟨y,?_,hr.le hle1 _ _⟩;cases hdst':d.o.dst with
    |none=>exact hy
    |some u=>
     simp[Act.put,Bj];rw[if_neg (λe=>hne (by rw[hdst',e]))]
     exact hy
  ·have hki:k≠i:=λe=>by subst e;rw[hL1] at hLk;cases hLk
   rw[hL2 k hki] at hLk;rw[hf1 b]
   ·exact hnew k hk hLk b hb1 hb2
   ·have q1:=lo_of k hk;have q2:=lo_of i hin;rcases Nat.lt_or_gt_of_ne hki with hlt'|hgt'
    ·have:=hnext (k+1) i om om;omega
    ·have:=hnext (i+1) k om om;omega
  ·rw[<-hdef];cases d.o.dst<;>rfl
 unfold wpOpIn;simp[ho];have hF:=Hi hst;unfold bC at hst;simp only at hst;have hgd:∃g,d.o.guard=g/\(qk ops o.guard=Z g\/∃w0,d.o.op=.bad w0):=by
  rcases U168 with⟨q,w0,e⟩|⟨g,ao,hg0,hao,hd0,e⟩
  ·exact⟨_,rfl,.inr ⟨w0,by rw[hdo,e]⟩⟩
  ·exact⟨g,by rw[hdo,e],.inl hg0⟩
 split at hst
 ·
  rename_i hwt;have hq:=lO hst;clear hst;obtain⟨hkn,hst⟩:=hq;rw[im] at hkn;split at hst
  ·rename_i v1 s1 hrun;have hq:=gr hst;clear hst;obtain⟨hc,hq⟩:=hq;rw[im,im] at hc;simp only[pI] at hq;obtain⟨hv,hrs,hss⟩:=hq;rcases U168 with⟨q,w0,e⟩|⟨g,ao,hg0,hao,hd0,e⟩
   ·rw[hdo,e] at hrun;simp[aL] at hrun
   ·have hdop:d.o.op=bif shown ao||fo ao then ao else .bad (opWord o.op):=by rw[hdo,e]
    have hdg:d.o.guard=g:=by rw[hdo,e]
    have hdd:d.o.dst=o.dst:=by rw[hdo,e]
    rw[hdg] at hwt;have hwant:=vw (s:={tm:=aK (ss i).tm d.reads,h:=(ss i).h,defers:=[],round:=(ss i).round}) htmR hg0 hwt;rw[hwant,if_pos rfl];cases hs:shown ao with
    |false=>
     cases hde:fo ao with
     |false=>rw[hdop,hs,hde] at hrun;simp[aL] at hrun
     |true=>
      rw[hdop,hs,hde] at hrun;cases ao with
      |defer x args=>
       simp only[Bool.or_true,cond_true,aL] at hrun;split at hrun
       ·split at hrun
        ·rw[sI,pI] at hrun;obtain⟨_,rfl⟩:=hrun;simp at hc
        ·cases hrun
       ·cases hrun
      |_=>simp[fo] at hde
    |true=>
     have hdop':d.o.op=ao:=by rw[hdop,hs];rfl
     have hl:(rs i).F=jL {tm:=aK (ss i).tm d.reads,h:=(ss i).h,defers:=[],round:=(ss i).round} (aQ (aK (ss i).tm d.reads).ag) d.o.op:=by rw[<-hrs]
     generalize hvs:aQ (aK (ss i).tm d.reads).ag=vs' at hkn hrun hrs hl hc hss;rw[<-hl] at hkn hrun hrs hc hss;have hkH:=Eb hkn.2;cases hld:ld i with
     |some p=>
      have hl0:=tr.lds i d hd;rw[hld] at hl0;obtain⟨n0,x0,hop,hev,hw⟩:=Dz hl0.symm;rw[hop] at hrun;have hmem:p.1∈(rs i).F:=by
       by_cases hm:p.1∈(rs i).F
       ·exact hm
       ·exfalso;have hev':St.eval {tm:=aK (ss i).tm d.reads,h:=aJ (ss i).h (rs i).F,defers:=[],round:=(ss i).round} x0=Z (.ptr p.1 p.2.1):=hev;simp only[aL,hev',bI,tc,if_neg hm,Option.bind_none] at hrun;cases hrun
      have hrg:(aJ (ss i).h (rs i).F).get p.1=(ss i).h.get p.1:=by rw[tc,if_pos hmem]
      have hlt0:=(hkH p.1 hmem).1;have notnew:∀k,i<k->k<ds.length->DH k p.1=J->p.1∈(rs k).D:=λk hik hk hb=>by
       rcases(hDH k p.1).1 hb with hx|hx
       ·exact hx
       ·have h1:=(lo_of k hk).1;have h2:=hnext (i+1) k om om;omega
      have hsee:dX p.2.1 p.2.2 (h.get p.1)=dX p.2.1 p.2.2 ((ss i).h.get p.1):=by
       rw[hget];refine bCT (φ:=dX p.2.1 p.2.2) (ver:=λk b=>(ss k).h.get b) hin (ldq i p hin hld _) (λk hk hb=>keepH k _ hb hk) (λk hk hLk hb=>?_) (λk hik hk hLk hb=>?_) (λk t hik hkt htl hLk hLt hb1 hb2=>?_)
       ·rcases uC (hlt k hk hLk).1 with hap|⟨p',hp,he⟩|⟨p',hp,_⟩
        ·have q:=(tB hap).1 p.1 hmem;rcases(hDH k p.1).1 hb with hx|hx
         ·exact absurd hx q.1
         ·exact absurd hx q.2
        ·rw[hld] at hp;simp at hp;subst hp;exact he.symm
        ·rw[ldq k p' om hp p.1] at hb;cases hb
       ·rcases uC (hgt k hik hk hLk).1 with hap|⟨p',hp,_⟩|⟨p',hp,he⟩
        ·exact absurd hmem ((tB hap).2.1 p.1 (notnew k hik hk hb))
        ·rw[ldq k p' hk hp p.1] at hb;cases hb
        ·rw[hld] at hp;simp at hp;subst hp;exact he.symm
       ·rcases uC (hpair k t hkt htl hLk hLt) with hap|⟨p',hp,_⟩|⟨p',hp,_⟩
        ·exact((tB hap).2.2 p.1 (notnew t om htl hb2)).1 (notnew k hik om hb1)
        ·rw[ldq t p' htl hp p.1] at hb2;cases hb2
        ·rw[ldq k p' om hp p.1] at hb1;cases hb1
      have hrun2:=aOM (s1:={tm:=aK (ss i).tm d.reads,h:=aJ (ss i).h (rs i).F,defers:=[],round:=(ss i).round}) (s2:={tm:=aK (ss i).tm d.reads,h:=h,defers:=[],round:=(ss i).round}) hev hev hrun (by rw[<-hw];show dX _ _ ((aJ (ss i).h (rs i).F).get p.1)=dX _ _ (h.get p.1);rw[hrg,hsee])
      rw[hdop'] at hop;subst hop;obtain⟨t0,xx,hopq,hn0,hc0⟩:=aUB hao;obtain⟨_,z,hz,hrz⟩:=aHW (s:={tm:=aK (ss i).tm d.reads,h:=h,defers:=[],round:=(ss i).round}) htmR hg.wr hn0 hc0 hrun2;have hout:da P (execOp a.eval o) w (λx w'=>w'=w/\Rel S f v1 x):=by
       have e:execOp a.eval o=(do pure (Next.value (<-Instr.loadAt t0 (a.eval xx)))):=by
        unfold execOp;simp[hopq]
       rw[e];exact Yu hz ⟨rfl,hrz⟩
      refine Ig ro (vL hao hs) hout λx w1 hleft=>?_
      obtain⟨rfl,hrel⟩:=hleft;rw[<-hdd];refine k _ _ (finish S f h w1 x ⟨.refl _ _,hg.wr,.refl _ _,λ_ _ _ _ _=>⟨lx rfl,λ_ _=>rfl⟩,sc⟩ rfl (λ_ _=>rfl) (λb hb=>?_) (λ_ _=>rfl) (by rw[<-hv];exact hrel) λt ht=>?_)
      ·rw[ldq i p hin hld b] at hb;cases hb
      ·exact U23
     |none=>
     have see:=seeH hld (λb hb=>(hkH b hb).1);have hin1:∀b,(aJ (ss i).h (rs i).F).get b=if b∈(rs i).F then h.get b else Y:=λb=>by
      rw[tc];split
      ·rename_i hm;exact(see b hm).symm
      ·rfl
     have wrp:=hg.wr.part (hin:=aJ (ss i).h (rs i).F) hin1 (λb hb=>(hkH b hb).1) (λb hb kk hkk c hcc=>(hkH b hb).2 kk (by rw[<-see b hb];exact hkk) c hcc)
     have htmR':TmR S (oM f (aJ (ss i).h (rs i).F).next) (aK (ss i).tm d.reads) a.tmps N:=⟨hsz,λt v hv'=>by
      obtain⟨x,hx,hr⟩:=htmR.get t v hv';refine⟨x,hx,hr.fZ _ _ λb hb=>?_⟩;have:b<(ss i).h.next:=wR hkn.1 b (by rw[<-hvs];exact zG (yZ hv') hb)
      exact if_pos this⟩
     rw[hdop'] at hrun;obtain⟨_,_,hout⟩:=Dn (s:={tm:=aK (ss i).tm d.reads,h:=aJ (ss i).h (rs i).F,defers:=[],round:=(ss i).round}) hP hcall hm htmR' wrp hao hs hrun;refine Ig ro (vL hao hs) hout λx w1 hleft=>?_
     obtain⟨S1,f1,hgo,hrel⟩:=hleft;have hDs:(rs i).D=bif dm d.o.op then(rs i).F.filter λb=> !(b9 (vs'++near) b&&eqB ((ss i).h.get b) (s1.h.get b)) else cZ {tm:=aK (ss i).tm d.reads,h:=aJ (ss i).h (rs i).F,defers:=[],round:=(ss i).round} d.o.op:=by
      have:=congrArg ck.D hrs;exact this.symm
     rw[<-hDs] at hc hss;have hlo':(rs i).lo=(ss i).h.next:=hlo;have hhi':(rs i).hi=s1.h.next:=by rw[<-hrs]
     let h':AH:=⟨h.next,cx s1.h (ss i).h.next (s1.h.next-(ss i).h.next) (eD s1.h (rs i).D h.tr)⟩
     have hnx1:(ss i).h.next<=s1.h.next:=j6 hc.1.2;have h'get:∀b,h'.get b=if b∈(rs i).D\/((ss i).h.next<=b/\b<s1.h.next) then s1.h.get b else h.get b:=λb=>by
      show(cx s1.h (ss i).h.next (s1.h.next-(ss i).h.next) (eD s1.h (rs i).D h.tr)).get b=_;rw[vJ,xI]
      by_cases q1:(ss i).h.next<=b/\b<s1.h.next
      ·rw[if_pos om,if_pos (.inr q1)]
      ·rw[if_neg om]
       by_cases q2:b∈(rs i).D
       ·rw[if_pos q2,if_pos (.inl q2)]
       ·rw[if_neg q2,if_neg (λhx=>hx.elim q2 q1)];rfl
     have ss1:∀b,DH i b=J->(ss (i+1)).h.get b=s1.h.get b:=λb hb=>by
      rw[<-hss,Jb,if_pos];exact U97
     obtain⟨f2,hle2,hg2,hf2⟩:=frame (h':=h') (D:=λb=>b∈(rs i).D) hg.wr hin1 (λb hb=>(hkH b hb).1)
      (by
       rw[hnext0];have:=hnext (i+1) ds.length om (ij _);rw[<-hss] at this;exact this) rfl
      (λb hb1 hb2=>hnew i hin hL b (by rw[hlo'];exact hb1) (by rw[hhi'];exact hb2)) hgo
      (λb hb hnD=>by
       rw[hDs] at hnD;have hbl:=(hkH b hb).1;cases hcl:dm d.o.op with
       |true=>
        simp only[hcl,cond_true,List.mem_filter,not_and,Bool.not_eq_true'] at hnD;have hx:=hnD hb;have hx:eqB ((ss i).h.get b) (s1.h.get b)=J:=by
         cases hy:(b9 (vs'++near) b&&eqB ((ss i).h.get b) (s1.h.get b)) with
         |true=>rw[im] at hy;exact hy.2
         |false=>simp[hy] at hx
        rw[<-aZE hx,tc,if_pos hb]
       |false=>
        simp[hcl] at hnD;rw[hdop'] at hcl hnD;refine aND hcl hrun b hbl ?_
        cases hmm:b9 (cZ {tm:=aK (ss i).tm d.reads,h:=aJ (ss i).h (rs i).F,defers:=[],round:=(ss i).round} ao) b with
        |false=>rfl
        |true=>exact absurd (vg.1 hmm) hnD)
      (λb hb=>wR hc.2 b hb)
      (λb hb=>(h'get b).trans (if_pos hb)) (λb hb=>(h'get b).trans (if_neg hb))
     have hrel2:Rel S1 f2 (vs i) x:=by rw[<-hv];exact hrel.le hle2 _ _
     rw[<-hdd];refine k _ _ (finish S1 f2 h' w1 x hg2 rfl (λb hb=>hf2 b (by rw[hlo',hhi'] at hb;exact hb)) (λb hb=>?_) (λb hb=>?_) hrel2 λt ht=>?_)
     ·rw[ss1 b hb,h'get,if_pos];exact U97
     ·rw[h'get,if_neg];intro hx;rw[(hDH i b).2 (hx.imp id λhy=>by rw[hlo',hhi'];exact hy)] at hb
      cases hb
     ·exact U23
  ·cases hst
 ·
  rename_i hwt;simp at hst;obtain⟨hv,hrs,hss⟩:=hst;rcases U168 with⟨q,w0,e⟩|⟨g,ao,hg0,hao,hd0,e⟩
  ·have:d.o.guard=Y:=by rw[hdo,e]
   rw[this] at hwt;simp[aw] at hwt
  ·have hdg:d.o.guard=g:=by rw[hdo,e]
   have hdd:d.o.dst=o.dst:=by rw[hdo,e]
   rw[hdg] at hwt;have hwant:=vw (s:={tm:=aK (ss i).tm d.reads,h:=(ss i).h,defers:=[],round:=(ss i).round}) htmR hg0 hwt;rw[hwant,if_neg Sp,<-hdd];refine⟨λ_ _=>Jx ro _,k _ _ (finish S f h w undef ⟨.refl _ _,hg.wr,.refl _ _,λ_ _ _ _ _=>⟨lx rfl,λ_ _=>rfl⟩,sc⟩ rfl (λ_ _=>rfl) (λb hb=>?_) (λ_ _=>rfl) (by rw[<-hv];exact sx) λt ht=>?_)⟩
   ·exfalso;rcases(hDH i b).1 hb with hx|hx
    ·rw[<-hrs] at hx;cases hx
    ·rw[<-hrs] at hx;simp only at hx;omega
   ·exact U23
 ·cases hst
theorem wk{call:Cle->List AV->AH->Option (AV×AH)}{ds:List DOp}{ss:Nat->St}{vs:Nat->AV}{rs:Nat->ck}{ld:Nat->Option (Nat×Nat×Nat)}(tr:Trace E call ds [] s s' ss vs rs ld):∀k,k<=ds.length->(ss k).round=s.round
 |0,_=>by rw[tr.first]
 |k+1,hk=>by rw[tr.round k om];exact wk tr k om
def rR(F:Fence)(P:Program)(ops:Array Oper)(Q:Exit->Act->World->Prop):Nat->Nat->Act->World->Prop
 |0,_,a,w=>Q .normal a w
 |k+1,i,a,w=>wpOpIn F 0 P ops Q i (λa1 w1=>rR F P ops Q k (i+1) a1 w1) a w
theorem aZG{call:Cle->List AV->AH->Option (AV×AH)}(hP:E.P=P)(hcall:eM P E call)(hm:ez P E){M:Nat}(hM:M<=N){ro:Option Nat}{ops:Array Oper}{full ds:List DOp}{Q:Exit->Act->World->Prop}
  {S0:bE} {f0:Emb} {w0:World} {a0:Act} {ss:Nat->St} {vs:Nat->AV} {rs:Nat->ck} {ld:Nat->Option (Nat×Nat×Nat)} {DH DT:Nat->Nat->Bool}
  (hDH:∀k b,DH k b=J↔b∈(rs k).D\/((rs k).lo<=b/\b<(rs k).hi)) (hDT:∀k t d,ds[k]? =Z d->(DT k t=J↔d.o.dst=Z t))
  (hcd:cDraw P M ops=Z full) (hpre:∃suf,full=ds++suf/\∀d∈suf,d.free=[]) (tr:Trace E call ds [] s s' ss vs rs ld) (hnext:∀i j,i<=j->j<=ds.length->(ss i).h.next<=(ss j).h.next)
  (fin:∀a w,Inv E base S0 f0 s.h w0 a0 ss rs ds N DH DT (λ_=>J) a w->rR (fen ro) P ops Q (ops.size-ds.length) ds.length a w):
  ∀(fuel:Nat) (listed:Array Bool) (a:Act) (w:World),listed.size=ops.size->left (λk=>listed.getD k U) ops.size<=fuel->(ds.length<ops.size->listed.getD ds.length U=U)->
   (∀j o,ops[j]? =Z o->listed.getD j U=J->∀e∈o.after,Region.binds .any e=J->listed.getD e.on U=J)->
   Inv E base S0 f0 s.h w0 a0 ss rs ds N DH DT (λk=>listed.getD k U) a w->wpAnyIn (fen ro) 0 P .any ops Q fuel listed a w:=by
 obtain⟨pr,hp1,hlen,hds0,hfree0⟩:=yV hcd;obtain⟨suf,esuf,hsfr⟩:=hpre;have hle:ds.length<=ops.size:=Gr;have hold:∀j,j<ds.length->full[j]? =ds[j]? :=Gr;have hsuf:∀(j:Nat) (o:Oper),ds.length<=j->ops[j]? =Z o->∀k,k<j->k∈pr.getD j []:=Gr;have hds:∀(j:Nat) (o:Oper),j<ds.length->ops[j]? =Z o->∃d,ds[j]? =Z d/\d.o=kE P M ops o/\∀i,i<j->i∉pr.getD j []->i∈d.free:=Gr;have hfree:∀(j:Nat) (d:DOp),ds[j]? =Z d->∀i∈d.free,i<ds.length->∃e,ds[i]? =Z e/\eC e d=J:=Gr;have whole:∀(listed:Array Bool) (a:Act) (w:World),(∀k,k<ds.length->listed.getD k U=J)->Inv E base S0 f0 s.h w0 a0 ss rs ds N DH DT (λk=>listed.getD k U) a w->Inv E base S0 f0 s.h w0 a0 ss rs ds N DH DT (λ_=>J) a w:=by
  intro listed a w all inv;refine⟨?_,inv.d⟩;obtain⟨S,f,h,h1,h2,h3,h4,h5,h6,h7⟩:=inv.ex;refine⟨S,f,h,h1,h2,h3,λb=>?_,h5,λt v hv=>h6 t v ?_,λk hk hl=>by cases hl⟩<;>grind [ux]
 have done:∀(listed:Array Bool) (a:Act) (w:World),listed.size=ops.size->Region.ready .any ops listed=[]->(ds.length<ops.size->listed.getD ds.length U=U)->Inv E base S0 f0 s.h w0 a0 ss rs ds N DH DT (λk=>listed.getD k U) a w->Q .normal a w:=by
  intro listed a w hsz hr hla inv;have all:∀k,k<ops.size->listed.getD k U=J:=by
   intro k
   induction k using Aw with
   |_ k ih=>
   intro hk;cases hl:listed.getD k U with
   |true=>rfl
   |false=>
    exfalso;have ho:=Af hk;have hmem:k∈Region.ready .any ops listed:=by
     refine mem_ready.2 ⟨?_,_,ho,λe he hb=>?_⟩
     ·grind
     ·have:=(uV hp1 k _ Gr).1 e he hb
      grind
    grind
  rcases A1 ds.length ops.size with e|e
  ·grind
  ·have:=fin a w (whole listed a w (λk hk=>all k om) inv);rw[show ops.size-ds.length=0 by omega] at this
   exact this
 have tail:∀(k i fuel:Nat) (listed:Array Bool) (a:Act) (w:World),i+k=ops.size->ds.length<=i->listed.size=ops.size->(∀j,j<i->listed.getD j U=J)->(∀j,i<=j->j<ops.size->listed.getD j U=U)->
   left (λk=>listed.getD k U) ops.size<=fuel->rR (fen ro) P ops Q k i a w->wpAnyIn (fen ro) 0 P .any ops Q fuel listed a w:=by
  intro k
  induction k with
  |zero=>
   intro i fuel listed a w hik hdi hsz hlo hhi hlf hQ;have hr:Region.ready .any ops listed=[]:=by
    cases hr:Region.ready .any ops listed with
    |nil=>rfl
    |cons k r=>
     exfalso;have hk:k∈Region.ready .any ops listed:=by rw[hr];simp
     obtain⟨h1,o,ho,_⟩:=mem_ready.1 hk;have hks:=(As.1 ho).1;have:=hlo k om;exact U98
   cases fuel with
   |zero=>exact⟨hr,hQ⟩
   |succ fuel=>exact⟨λ_=>hQ,λj hj=>by rw[hr] at hj;cases hj⟩
  |succ k ih=>
   intro i fuel listed a w hik hdi hsz hlo hhi hlf hQ;have his:i<ops.size:=om;have hio:=Af his;have hLi:listed.getD i U=U:=hhi i (ij _) his;have hset1:(listed.setIfInBounds i J).getD i U=J:=by
    simp[Al,hsz,his]
   have hset2:∀k,k≠i->(listed.setIfInBounds i J).getD k U=listed.getD k U:=λk hk=>by
    simp[Al,Array.getElem?_setIfInBounds_ne (Ne.symm hk)]
   cases fuel with
   |zero=>
    exfalso;have:=Cj ops.size (Nat.le_zero.1 hlf) i his;rw[hLi] at this;cases this
   |succ fuel=>
    have hdn:∀j o,ops[j]? =Z o->listed.getD j U=J->∀e∈o.after,Region.binds .any e=J->listed.getD e.on U=J:=λj o ho hj e he hb=>by
     have hjs:=(As.1 ho).1;have hji:j<i:=by
      rcases A1 j i with q|q
      ·exact q
      ·rw[hhi j q hjs] at hj;cases hj
     have:=(uV hp1 j _ (by simpa using ho)).1 e he hb
     exact hlo e.on om
    have clos:=zZ (L:=λk=>listed.getD k U) hp1 hdn;refine⟨λhr=>?_,λj hj=>?_⟩
    ·exfalso;have hmem:i∈Region.ready .any ops listed:=by
      refine mem_ready.2 ⟨?_,_,hio,λe he hb=>?_⟩
      ·rw[Al,Af om] at hLi⊢
       simpa using hLi
      ·have:=(uV hp1 i _ (by simpa using hio)).1 e he hb
       have:=hlo e.on om;exact this
     rw[hr] at hmem;cases hmem
    ·obtain⟨h1,o,ho,hall⟩:=mem_ready.1 hj;have hjs:=(As.1 ho).1;have hLj:listed.getD j U=U:=by
      rw[Al,Af om] at h1⊢
      simpa using h1
     have hji:j=i:=by
      rcases Nat.lt_trichotomy j i with q|q|q
      ·rw[hlo j q] at hLj;cases hLj
      ·exact q
      ·have:=clos j o ho hall i (hsuf j o om ho i q);rw[hLi] at this;cases this
     subst hji;refine wpOpIn_mono (λa1 w1 hQ1=>?_) hQ;refine ih (j+1) fuel _ a1 w1 om om (by simpa using hsz) (λm hm=>?_) (λm hm1 hm2=>?_) ?_ hQ1
     ·by_cases e:m=j
      ·rw[e];exact hset1
      ·rw[hset2 m e];exact hlo m om
     ·rw[hset2 m om];exact hhi m om hm2
     ·have:=Jf (L:=λk=>listed.getD k U) (L':=λk=>(listed.setIfInBounds j J).getD k U) hLj hset1 hset2 ops.size;rw[if_pos hjs] at this;omega
 intro fuel
 induction fuel with
 |zero=>
  intro listed a w hsz hleft hla hdown inv;have hall:=Cj ops.size (Nat.le_zero.1 hleft);have hr:Region.ready .any ops listed=[]:=by
   cases hr:Region.ready .any ops listed with
   |nil=>rfl
   |cons k r=>
    exfalso;have hk:k∈Region.ready .any ops listed:=by rw[hr];simp
    obtain⟨h1,o,ho,_⟩:=mem_ready.1 hk;have hks:=(As.1 ho).1;have:=hall k hks;exact U98
  exact⟨hr,done listed a w hsz hr hla inv⟩
 |succ fuel ih=>
  intro listed a w hsz hleft hla hdown inv;refine⟨λhr=>done listed a w hsz hr hla inv,λi hi=>?_⟩;obtain⟨h1,o,ho,hall⟩:=mem_ready.1 hi;have his:=(As.1 ho).1;have hLi:listed.getD i U=U:=by
   rw[Al,Af om] at h1⊢
   simpa using h1
  have hset1:(listed.setIfInBounds i J).getD i U=J:=by
   simp[Al,hsz,his]
  have hset2:∀k,k≠i->(listed.setIfInBounds i J).getD k U=listed.getD k U:=λk hk=>by
   simp[Al,Array.getElem?_setIfInBounds_ne (Ne.symm hk)]
  have clos:=zZ (L:=λk=>listed.getD k U) hp1 hdown
  by_cases hil:ds.length<=i
  ·
   have hn0:listed.getD ds.length U=U:=hla om;have hi':i=ds.length:=by
    rcases A1 ds.length i with q|q
    ·have:=clos i o ho hall ds.length (hsuf i o hil ho ds.length q);rw[hn0] at this;cases this
    ·omega
   have hbef:∀k,k<ds.length->listed.getD k U=J:=λk hk=>clos i o ho hall k (hsuf i o hil ho k om);have hfin:=fin a w (whole listed a w hbef inv);obtain⟨m,hm⟩:∃m,ops.size-ds.length=m+1:=⟨ops.size-ds.length-1,om⟩;rw[hm] at hfin;have hfin:wpOpIn (fen ro) 0 P ops Q ds.length (λa1 w1=>rR (fen ro) P ops Q m (ds.length+1) a1 w1) a w:=hfin;rw[<-hi'] at hfin;refine wpOpIn_mono (λa1 w1 hQ=>?_) hfin;refine tail m (i+1) fuel _ a1 w1 om om (by simpa using hsz) (λj hj=>?_) (λj hj1 hj2=>?_) ?_ hQ
   ·by_cases e:j=i
    ·rw[e];exact hset1
    ·rw[hset2 j e];exact hbef j om
   ·rw[hset2 j om];cases hl:listed.getD j U with
    |false=>rfl
    |true=>
     have hjo:=Af hj2;have:=clos j _ hjo (hdown j _ hjo hl) ds.length (hsuf j _ om hjo ds.length om);rw[hn0] at this;cases this
   ·exact U24
  have hil:i<ds.length:=om;obtain⟨d,hd,hdo,hfr⟩:=hds i o hil ho;have recs:∀k (e:DOp),ds[k]? =Z e->∀j∈e.free,du (kT ss rs ld j) (kT ss rs ld k)=J/\∀q,ds[j]? =Z q->eC q e=J:=by
   intro k e he j hj;obtain⟨r,q1,q2⟩:=tr.free k e he j hj;simp at q1;obtain⟨j',hj',rfl⟩:=q1;have:j'=j:=by
    have:=Au.1 hj';obtain⟨_,e2⟩:=this
    simpa using e2.symm
   subst this;refine⟨q2,λq hq=>?_⟩;obtain⟨q',hq',hsl⟩:=hfree k e he j' hj (by have:=(Au.1 hq).1;exact this)
   rw[hq] at hq';simp at hq';subst hq';exact hsl
  refine aPT (L:=λk=>listed.getD k U) (L':=λk=>(listed.setIfInBounds i J).getD k U) hP hcall hm hM hDH hDT tr (λk hk=>wk tr k hk) hnext ho hd hdo hLi hset1 hset2 (by rw[tr.first];exact ij _) (λk hk hLk=>?_) (λk hk hkl hLk=>?_) (λk t hkt htl hLk hLt=>?_) inv λa1 w1 inv1=>?_
  ·have hnot:k∉pr.getD i []:=λhm=>by
    have:=clos i o ho hall k hm;rw[hLk] at this;cases this
   exact recs i d hd k (hfr k hk hnot)
  ·have hks:k<ops.size:=by omega
   have hok:=Af hks;obtain⟨e,he,heo,hfe⟩:=hds k _ hkl hok;have hnot:i∉pr.getD k []:=λhm=>by
    have:=clos k _ hok (hdown k _ hok hLk) i hm;rw[hLi] at this;cases this
   obtain⟨q1,q2⟩:=recs k e he i (hfe i hk hnot);exact⟨q1,λe' he'=>by rw[he] at he';simp at he';subst he';exact q2 d hd⟩
  ·have hts:t<ops.size:=by omega
   have hot:=Af hts;obtain⟨e,he,heo,hfe⟩:=hds t _ htl hot;have hnot:k∉pr.getD t []:=λhm=>by
    have:=clos t _ hot (hdown t _ hot hLt) k hm;rw[hLk] at this;cases this
   exact(recs t e he k (hfe k hkt hnot)).1
  ·refine ih _ a1 w1 (by simpa using hsz) ?_ (λhlt=>by rw[hset2 _ om];exact hla hlt) (λj oj hoj hLj e he hb=>?_) inv1
   ·exact U24
   ·by_cases hji:j=i
    ·subst hji;rw[ho] at hoj;simp at hoj;subst hoj;have:=hall e he hb
     by_cases hei:e.on=j
     ·rw[hei];exact hset1
     ·rw[hset2 _ hei];exact this
    ·rw[hset2 j hji] at hLj;have:=hdown j oj hoj hLj e he hb
     by_cases hei:e.on=i
     ·rw[hei];exact hset1
     ·rw[hset2 _ hei];exact this
theorem Kq(hP:E.P=P)(hm:ez P E)(hmix:P.follows .mixedOrders=J){n:Nat}(hc:∀m,m<n->eM P E (bY E (exec E m))):nS P E n:=by
 intro M id ops s s' e base ro S f a w N Q hM hrun mid k;have hm':=hm;cases n with
 |zero=>grind [exec]
 |succ n=>
  have hcall:=hc n om;simp[dQ] at hrun;split at hrun
  ·rename_i full hds;simp only[exec,A8,pI] at hrun;obtain⟨s2,hr0,rfl,rfl⟩:=hrun;have hcs:∃ds suf s1,full=ds++suf/\(∀d∈suf,d.free=[])/\dT E (bY E (exec E n)) (suf.map (·.o)) s1=Z s2/\cg E (bY E (exec E n)) ds [] s=Z s1:=by
    unfold gS at hr0;split at hr0
    ·grind [vK]
    ·exact⟨full,[],s2,(List.append_nil _).symm,(λd hd=>by cases hd),rfl,hr0⟩
   obtain⟨ds,suf,s1,esuf,hsfr,hlast,hr⟩:=hcs;have hpre:∃suf,full=ds++suf/\∀d∈suf,d.free=[]:=⟨suf,esuf,hsfr⟩;have hlen0:full.length=ops.size:=by grind [yV]
   obtain⟨ss,vs,rs,ld,tr⟩:=Lv ds [] s s1 hr;have hnext1:∀j,j<ds.length->(ss j).h.next<=(ss (j+1)).h.next:=λj hj=>by
    obtain⟨nr,hs⟩:=tr.step j _ (ji hj);exact(tA hs).2.2.1
   have hnext:∀i j,i<=j->j<=ds.length->(ss i).h.next<=(ss j).h.next:=by
    intro i j hij
    induction j<;>grind
   let DH:Nat->Nat->Bool:=λk b=>b9 (rs k).D b||(ii (rs k).lo b&&ir b (rs k).hi)
   let DT:Nat->Nat->Bool:=λk t=>match ds[k]? with|some d=>(match d.o.dst with|some u=>ig u t|none=>U)|none=>U
   have hDH:∀k b,DH k b=J↔b∈(rs k).D\/((rs k).lo<=b/\b<(rs k).hi):=λk b=>by
    simp only[DH,Aq,im,vg];exact or_congr Iff.rfl (and_congr ⟨j6,Aj⟩ ⟨j6,Aj⟩)
   have hDT:∀k t d,ds[k]? =Z d->(DT k t=J↔d.o.dst=Z t):=λk t d hd=>by
    simp[DT,hd];cases d.o.dst<;>simp
   refine wpIn_region_any hmix ?_
   have wr0:WR E.aY base S f ⟨(ss ds.length).h.next,s.h.tr⟩ w.drew:=by
    have r:=mid.wr.drew;refine⟨r.gw,r.jV,r.blk,r.apart,λb x hx=>?_,r.le⟩;have h1:=r.dom b x hx;have h2:=hnext 0 ds.length om (ij _);rw[tr.first] at h2
    grind
   refine aZG (base:=base) (S0:=S) (f0:=f) (w0:=w) (a0:=a) hP hcall hm hM hDH hDT hds hpre tr hnext (λa1 w1 inv=>?_) ops.size _ a w.drew Sp ?_ (λhlt=>?_) (λj o _ hl=>?_) ⟨⟨S,f,⟨(ss ds.length).h.next,s.h.tr⟩,?_,λ_ _ h _=>h,rfl,λb=>?_,mid.tm.size,λt v hv=>?_,λq hq _ b hb1 _=>?_⟩,rfl⟩
   ·
    obtain⟨S1,f1,h1,g1,g2,g3,g4,g5,g6,g7⟩:=inv.ex;have stepH:∀k b,(if k<ds.length then DH k b else J)=U->(ss (k+1)).h.get b=(ss k).h.get b:=λk b hb=>by
     split at hb
     ·rename_i hk;obtain⟨nr,hs⟩:=tr.step k _ (ji hk);obtain⟨_,_,_,q⟩:=tA hs;have hn:¬(b∈(rs k).D\/((rs k).lo<=b/\b<(rs k).hi)):=Gr
      grind
     grind
    have stepT:∀k t,(if k<ds.length then DT k t else J)=U->(ss (k+1)).tm.get t=(ss k).tm.get t:=λk t ht=>by
     split at ht
     ·rename_i hk;exact U95
     grind
    have gen:∀{α:Type} (D:Nat->Nat->Bool) (val:Nat->Nat->Option α) (g:Nat->Option α) (b m:Nat),m<=ds.length->ov D val m (λ_=>J) g b=ov (λk b=>if k<ds.length then D k b else J) val m (λ_=>J) g b:=by
     intro α D val g b m
     induction m with
     |zero=>intro _;rfl
     |succ m ih=>intro hm;simp only[ov];rw[ih om,if_pos om]
    have hh:∀b,s1.h.get b=h1.get b:=λb=>by
     rw[g4,gen DH _ _ b _ (ij _),<-tr.last];exact(Ie (st:=λk b=>(ss k).h.get b) stepH ds.length).symm
    have ht:∀t,s1.tm.get t=ov DT (λk t=>(ss (k+1)).tm.get t) ds.length (λ_=>J) (ss 0).tm.get t:=λt=>by
     rw[gen DT _ _ t _ (ij _),<-tr.last];exact(Ie (st:=λk b=>(ss k).tm.get b) stepT ds.length).symm
    have hn1:s1.h.next=h1.next:=by rw[g3,<-tr.last]
    have wrf:=g1.wr.congr (h':=s1.h) hn1 hh;have hnx:s.h.next<=s1.h.next:=by
     have:=hnext 0 ds.length om (ij _);rw[tr.first,tr.last] at this;grind
    have hrd:s1.round=s.round:=by rw[<-tr.last];exact wk tr ds.length (ij _)
    have hdf:s1.defers=s.defers:=by
     rw[<-tr.last];have:∀m,m<=ds.length->(ss m).defers=s.defers:=by
      intro m
      induction m with
      |zero=>intro _;rw[tr.first]
      |succ m ih=>intro hm;rw[tr.defers m om];grind
     grind
    have goes1:dp E.aY base S f s.h w S1 f1 s1.h w1:=⟨g1.le,wrf,g1.below,g1.keep,λb B O R hb hf=>g1.live b B O R Gr hf,g2,hnx⟩;have mid1:Mid E base ro S1 f1 s1 a1 w1 N:=⟨⟨g5,λt v hv=>g6 t v Gr⟩,wrf,by rw[hdf,inv.d];exact mid.d.le g1.le,by rw[hrd];exact mid.r.le g1.le⟩
    have chain:∀(l:List DOp) (i:Nat) (s':St) (a':Act) (w':World) (S':bE) (f':Emb),full.drop i=l->dp E.aY base S f s.h w S' f' s'.h w'->Mid E base ro S' f' s' a' w' N->s'.round=s.round->dT E (bY E (exec E n)) (l.map (·.o)) s'=Z s2->rR (fen ro) P ops Q (ops.size-i) i a' w':=by
     intro l
     induction l with
     |nil=>
      intro i s' a' w' S' f' hdr hg hmd hrd' hrun;have hi:ops.size-i=0:=by
       have:=congrArg List.length hdr;rw[List.length_drop] at this;simp at this;omega
      rw[hi];simp[dT] at hrun;subst hrun;exact k a' w' S' f' hg hmd hrd'
     |cons d l ih=>
      intro i s' a' w' S' f' hdr hg hmd hrd' hrun;have hif:full[i]? =Z d:=by
       have:=congrArg (·[0]?) hdr
       simpa [List.getElem?_drop] using this
      have hil:i<ops.size:=by
       have:=(Au.1 hif).1;omega
      have hio:=Af hil;obtain⟨pr',_,_,hd2,_⟩:=yV hds;obtain⟨d',q1,q2,_⟩:=hd2 i _ hio;have e2:d'=d:=by rw[hif] at q1;exact(Option.some.inj q1).symm
      subst e2;rw[jk,q2] at hrun;obtain⟨m,hm⟩:∃m,ops.size-i=m+1:=⟨ops.size-i-1,om⟩;rw[hm];refine He hP hcall hm' hM hmd hio hrun λs3 a3 w3 S3 f3 g3' t3 r3 hr3=>?_
      have:=ih (i+1) s3 a3 w3 S3 f3 (by rw[<-List.drop_drop,hdr];rfl) (hg.trans g3') t3 (r3.trans hrd') hr3
      rw[show ops.size-(i+1)=m by omega] at this
      exact this
    exact chain suf ds.length s1 a1 w1 S1 f1 (by rw[esuf,List.drop_left]) goes1 mid1 hrd hlast
   ·have:∀m,m<=ops.size->left (λk=>(Array.replicate ops.size U).getD k U) m<=m:=by
     intro m
     induction m with
     |zero=>intro _;simp[left]
     |succ m ih=>intro hm;simp only[left];have:=ih om;split<;>omega
    exact this _ (ij _)
   ·simp[Bd];split<;>simp
   ·exfalso;simp[Bd] at hl;split at hl<;>simp at hl
   ·refine⟨.refl _ _,wr0,(Below.refl _ _).drew,λ_ _ _ _ _=>⟨lx rfl,λ_ _=>rfl⟩,sc⟩
   ·rw[Sk,tr.first];rfl
    intro q hq;simp[Bd];split<;>simp
   ·rw[Sk,tr.first] at hv
    ·exact mid.tm.get t v hv
    ·intro q hq;simp[Bd];split<;>simp
   ·cases hfb:f b with
    |none=>rfl
    |some x=>
     have h1:=mid.wr.dom b x hfb;obtain⟨nr,hs⟩:=tr.step q _ (ji hq);have h2:=(tA hs).1;have h3:=hnext 0 q om om;rw[tr.first] at h3
     omega
  ·simp[exec] at hrun
theorem xq(ok:lM P E)(n:Nat):eM P E (bY E (exec E n)):=
 aBW ok (λ_ hc=>Kq ok.prog ok.iG ok.mixed hc) n
end Go.AM
