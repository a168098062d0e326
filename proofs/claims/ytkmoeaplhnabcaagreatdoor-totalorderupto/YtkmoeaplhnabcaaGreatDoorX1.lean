/- XDem XDemB XSort XIter -/
import Derived.Test.YtkmoeaplhnabcaaGreatDoorU0
import Derived.Test.YtkmoeaplhnabcaaGreatDoorW1
import Derived.Test.YtkmoeaplhnabcaaGreatDoorD1
import Derived.Shelf.Sort.Plain

set_option linter.all false
open Option.some renaming injEq → sI
open Prod.mk renaming injEq → pI
open Bool renaming and_self → ip, cond_eq_ite → C4
open List renaming append_nil → j6, cons_append → ja, filterMap_cons → C5, getElem?_eq_getElem → jk, getElem?_map → Ag, length_map → ji
open Nat renaming add_zero → Aa, beq → i5, beq_refl → je
open Option renaming map_eq_some_iff → iw, map_some → jo
namespace Go.AM
open Go.RowKit
variable {base:Nat}{S:Snap}{f:Emb}{h:AH}{w:World}{P:Program}{E:Env}{s s':St}{a:Act}{N:Nat}
def CallFact(P:Program)(E:Env)(g:Nat)(l:List AV)(h:AH)(r:AV)(h':AH):Prop:=
 (∃fn,P.funcs[g]? =some fn∧(fn.name== "runtime.NumGoroutine")=false∧fn.body.isNone=false)∧
  ∀base S f w vals,WR E.globs base S f h w→RelL S f l vals→CallsIn Fence.wide 0 P g vals.toArray w fun e w'=>∃x,e=.returned x∧Left E base S f h w r h' x w'
def CallRel(P:Program)(E:Env)(g:Nat)(l:List AV)(h:AH)(R:AV→AH→Prop):Prop:=
 (∃fn,P.funcs[g]? =some fn∧(fn.name== "runtime.NumGoroutine")=false∧fn.body.isNone=false)∧
  ∀base S f w vals,WR E.globs base S f h w→RelL S f l vals→CallsIn Fence.wide 0 P g vals.toArray w fun e w'=>∃x r h',e=.returned x∧R r h'∧Left E base S f h w r h' x w'
theorem CallFact.rel{g:Nat}{l:List AV}{h h':AH}{r:AV}{R:AV→AH→Prop}(x:CallFact P E g l h r h')(k:R r h'):CallRel P E g l h R:=
 ⟨x.1,fun base S f w vals wr hl=>(x.2 base S f w vals wr hl).mono fun e w' ⟨y,e1,hL⟩=>⟨y,r,h',e1,k,hL⟩⟩
theorem CallRel.mono{g:Nat}{l:List AV}{h:AH}{R R':AV→AH→Prop}(x:CallRel P E g l h R)(k:∀r h',R r h'→R' r h'):CallRel P E g l h R':=
 ⟨x.1,fun base S f w vals wr hl=>(x.2 base S f w vals wr hl).mono fun e w' ⟨y,r,h',e1,hR,hL⟩=>⟨y,r,h',e1,k _ _ hR,hL⟩⟩
def dstep(P:Program)(E:Env)(o:AOp)(s:St)(K:AV→St→Prop):Prop:=
 (∃n v s1,runOp E (aZ E (exec E n)) s o=some (v,s1)∧K v s1)∨
 (∃g args l R,o=.call g args∧evalAll s args=some l∧CallRel P E g l s.h R∧∀v h',R v h'→K v (s.toH h'))∨
 ∃x b m n seen es,o=.nextMap x∧s.eval x=some (.it b)∧s.h.get b=some (.mitr m n seen)∧s.h.get m=some (.map es)∧es.length=n∧(∃i,i<n∧i∉seen)∧
  ∀i k u,i<n→i∉seen→es[i]? =some (k,u)→k.oneCell'=true∧K (.tup [.val (.bool true),.val k,u]) (s.toH (s.h.put b (some (.mitr m n (seen++[i])))))
def dops(P:Program)(E:Env):List AOper→St→(St→Prop)→Prop
 | [],s,K=>K s
 |o::r,s,K=>match wantedA s o.guard with
  |some true=>dstep P E o.op s fun v s1=>dops P E r ({s1 with round:=s.round}.put o.dst v) K
  |some false=>dops P E r (s.put o.dst undefA) K
  |none=>False
def isLoop:ACode→Bool
 |.loop _=>true
 |_=>false
inductive DW (P:Program) (E:Env):ACode→St→(Ex→St→Prop)→Prop where
 |det {c:ACode} {s:St} {K:Ex→St→Prop} {m:Nat} {e:Ex} {s':St}:isLoop c=false→exec E m c s=some (e,s')→K e s'→DW P E c s K
 |region {ops:List AOper} {s:St} {K:Ex→St→Prop}:dops P E ops s (K .normal)→DW P E (.region ops) s K
 |seq {x y:ACode} {s:St} {K K1:Ex→St→Prop}:DW P E x s K1→(∀s1,K1 .normal s1→DW P E y s1 K)→(∀e s1,isNormal e=false→K1 e s1→K e s1)→DW P E (.seq x y) s K
 |condT {c:Opd} {x y:ACode} {s:St} {K:Ex→St→Prop}:s.eval c=some (.val (.bool true))→DW P E x s K→DW P E (.cond c x y) s K
 |condF {c:Opd} {x y:ACode} {s:St} {K:Ex→St→Prop}:s.eval c=some (.val (.bool false))→DW P E y s K→DW P E (.cond c x y) s K
 |block {id:Nat} {x:ACode} {s:St} {K K1:Ex→St→Prop}:DW P E x s K1→(∀e s1,K1 e s1→K (match e with|.exit i=>bif i5 i id then .normal else .exit i|e=>e) s1)→DW P E (.block id x) s K
 |loop {x:ACode} {s:St} {K K1:Ex→St→Prop}:DW P E x s K1→(∀s1,K1 .normal s1→DW P E (.loop x) s1 K)→(∀e s1,isNormal e=false→K1 e s1→K e s1)→DW P E (.loop x) s K
theorem Dz{op:Op}{g:Nat}{l:List Opd}(h:cOp P op=some (.call g l)):∃args argTypes,op=.call {callee:=.value (.func g),args,argTypes}∧cOpds args.toList=some l:=by
 cases op with
 |call c=>
  obtain⟨callee,args,argTypes⟩:=c;simp only[cOp] at h;cases hl:cOpds args.toList with
  |none=>simp[hl] at h
  |some l'=>
   simp only[hl] at h;cases callee with
   |value x=>
    cases x with
    |func g'=>
     simp only at h;cases hb:noBody P g' with
     |true=>
      simp only[hb,cond_true] at h;split at h
      ·simp at h
      ·cases h
     |false=>
      simp only[hb,cond_false,sI,AOp.call.injEq] at h;obtain⟨rfl,rfl⟩:=h;exact⟨args,argTypes,rfl,hl⟩
    |_=>
     simp only[iw] at h;obtain⟨y,hy,e⟩:=h;cases e
   |invoke x name=>
    simp only[iw] at h;obtain⟨y,hy,e⟩:=h;cases e
   |builtin b=>
    exfalso;simp only[C4] at h
    repeat' split at h
    all_goals first
     |contradiction
     |(simp only[iw] at h;obtain⟨y,hy,e⟩:=h;cases e;done)
     |(simp only[sI] at h;cases h;done)
     |(simp only[sI] at h;split at h<;>cases h;done)
     |cases h
 |alloc t=>
  simp only[cOp,iw] at h;obtain⟨y,hy,e⟩:=h;cases hb:isBld P t<;>simp[hb] at e
 |_=>
  exfalso;simp only[cOp,C4] at h
  repeat' split at h
  all_goals first
   |contradiction
   |(simp only[iw] at h;obtain⟨y,hy,e⟩:=h;cases e;done)
   |(simp only[sI] at h;cases h;done)
   |cases h
theorem sy{g:Nat}{l:List AV}{vals:List Value}{R:AV→AH→Prop}(hc:CallRel P E g l s.h R)(wr:WR E.globs base S f s.h w)(hl:RelL S f l vals):
  OpOut P (callFunc g vals.toArray) w fun x w'=>∃r h',R r h'∧Left E base S f s.h w r h' x w':=by
 obtain⟨⟨fn,h1,h2,h3⟩,h4⟩:=hc;have e:(callFunc g vals.toArray).run P w=.ok (.enter g vals.toArray) w:=by
  unfold callFunc;simp only[Sem.run_bind,run_program,Result.andThen_ok];have h1':P.funcs[g]? =some fn:=h1;simp only[h1',h2,h3];rfl
 unfold OpOut;rw[e];exact(h4 base S f w vals wr hl).mono fun e w' ⟨x,r,h',e1,hR,hL⟩=>⟨x,e1,r,h',hR,hL⟩
theorem Gq{op:Op}{x:Opd}(h:cOp P op=some (.nextMap x)):∃it,op=.next it false∧cOpd it=some x:=by
 cases op with
 |next it b=>
  cases b with
  |true=>simp[cOp] at h
  |false=>
   simp only[cOp,iw] at h;obtain⟨y,hy,e⟩:=h;cases e;exact⟨it,rfl,hy⟩
 |alloc t=>
  simp only[cOp,iw] at h;obtain⟨y,hy,e⟩:=h;cases hb:isBld P t<;>simp[hb] at e
 |_=>
  exfalso;simp only[cOp,C4] at h
  repeat' split at h
  all_goals first
   |contradiction
   |(simp only[iw] at h;obtain⟨y,hy,e⟩:=h;cases e;done)
   |(simp only[sI] at h;cases h;done)
   |cases h
theorem pA(s:St)(d:Option Nat)(v:AV):s.put d v={s with tm:=putDst s.tm d v}:=by cases d<;>rfl
theorem Hs(ok:EnvOk P E){M:Nat}{ro:Option Nat}{ops:Array Oper}{Q:Exit→Act→World→Prop}{K:Act→World→Prop}{K':St→Prop}{o:Oper}{i:Nat}{r:List AOper}(hM:M≤N)
  (mid:Mid E base ro S f s a w N) (hi:ops[i]? =some o) (hrun:dops P E (cOper P M ops o::r) s K')
  (k:∀s1 a1 w1 S1 f1,Goes E.globs base S f s.h w S1 f1 s1.h w1→Mid E base ro S1 f1 s1 a1 w1 N→s1.round=s.round→dops P E r s1 K'→K a1 w1):
  wpOpIn (fen ro) 0 P ops Q i K a w:=by
 have det:∀(call:Cle→List AV→AH→Option (AV×AH)) (v:AV) (s1:St),CallOk P E call→wantedA s (cOper P M ops o).guard=some true→runOp E call s (cOper P M ops o).op=some (v,s1)→
   dops P E r ({s1 with round:=s.round}.put (cOper P M ops o).dst v) K'→wpOpIn (fen ro) 0 P ops Q i K a w:=by
  intro call v s1 hcall hw hr hk;refine dz (call:=call) (r:=[]) (s':={s1 with tm:=putDst s1.tm (cOper P M ops o).dst v,round:=s.round}) ok.prog hcall ok.meth hM mid hi ?_ fun s2 a1 w1 S1 f1 g1 t1 e1 r1=>?_
  ·simp only[runOps,hw,hr]
  ·simp only[runOps,sI] at r1;subst r1;refine k _ a1 w1 S1 f1 g1 t1 e1 ?_
   rw[pA] at hk;exact hk
 simp only[dops] at hrun;split at hrun
 ·rename_i hw;rcases hrun with⟨n,v,s1,h1,h2⟩|⟨g,args,l,R,h1,h2,h3,h4⟩|⟨x,b,m,n,seen,es,h1,h2,h3,h4,h5,h6,h7⟩
  ·exact det _ v s1 (bm ok n) hw h1 h2
  ·obtain⟨ht,wr,hdf,hro⟩:=mid;unfold wpOpIn;simp only[hi];rcases bw P M ops o with⟨d,w0,e⟩|⟨g0,ao,hg,hao,hd,e⟩
   ·rw[e] at h1;cases h1
   ·rw[e] at hw h1 h4;simp only at hw h1 h4;have hwant:=b6 ht hg hw;rw[hwant];simp only[if_true];have hs:(shown ao||isDefer ao)=true∧ao=.call g args:=by
     cases hb:(shown ao||isDefer ao) with
     |false=>rw[hb] at h1;cases h1
     |true=>rw[hb] at h1;exact⟨rfl,h1⟩
    obtain⟨_,rfl⟩:=hs;obtain⟨oargs,argTypes,hop,hl⟩:=Dz hao;have hcr:=sy h3 wr (bE ht hl h2);have hout:OpOut P (execOp a.eval o) w fun x w'=>∃r h',R r h'∧Left E base S f s.h w r h' x w':=by
     have ho:execOp a.eval o=(do let d←resolve a.eval {callee:=.value (.func g),args:=oargs,argTypes} o.type;invoke d.target d.args):=by
      unfold execOp;simp only[hop]
     refine dK (pre:=resolve a.eval {callee:=.value (.func g),args:=oargs,argTypes} o.type) (x:={target:=.fn (.func g) #[],args:= #[]++oargs.map a.eval}) (by simp[resolve,Act.eval,Deferred.ofValue]) ?_ ho
     have e:(oargs.toList.map a.eval).toArray= #[]++oargs.map a.eval++ #[]:=by apply Array.ext';simp
     rw[e] at hcr;exact hcr
    refine eT ro (by intro c hc;rw[hop] at hc;cases hc) hout fun x' w'' ⟨v,h',hR,S',f',hgo,hrel⟩=>?_
    refine k {s with tm:=putDst s.tm o.dst v,h:=h'} _ w'' S' f' hgo ⟨(ht.le hgo.le).put hd hM hrel,hgo.wr,?_,hro.le hgo.le⟩ rfl ?_
    ·exact U32
    ·have hk:=h4 v h' hR;rw[pA] at hk;exact hk
  ·obtain⟨ht,wr,hdf,hro⟩:=mid;unfold wpOpIn;simp only[hi];rcases bw P M ops o with⟨d,w0,e⟩|⟨g,ao,hg,hao,hd,e⟩
   ·rw[e] at h1;cases h1
   ·rw[e] at hw h1 h7;simp only at hw h1 h7;have hwant:=b6 ht hg hw;rw[hwant];simp only[if_true];have hs:(shown ao||isDefer ao)=true∧ao=.nextMap x:=by
     cases hb:(shown ao||isDefer ao) with
     |false=>rw[hb] at h1;cases h1
     |true=>rw[hb] at h1;exact⟨rfl,h1⟩
    obtain⟨_,rfl⟩:=hs;obtain⟨it,hop,hit⟩:=Gq hao;have rx:=aA ht hit h2;simp only[Rel] at rx;obtain⟨B,O,R,hf,hX⟩:=rx;obtain⟨j,q,u,j1,j2,j3,z,w',hrun',hleft⟩:=yq (P:=P) (ty:=o.type) wr h3 hf h4 h5 h6;obtain⟨hone,hk⟩:=h7 j q u j1 j2 j3;have hout:OpOut P (execOp a.eval o) w (Left E base S f s.h w (.tup [.val (.bool true),.val q,u]) (s.h.put b (some (.mitr m n (seen++[j]))))):=by
     have ho:execOp a.eval o=(do pure (Next.value (←Instr.next (a.eval it) false o.type))):=by
      unfold execOp;simp only[hop]
     rw[ho,hX];exact nU hrun' (hleft hone)
    refine eT ro (by intro c hc;rw[hop] at hc;cases hc) hout fun x' w'' ⟨S',f',hgo,hrel⟩=>?_
    refine k {s with tm:=putDst s.tm o.dst (.tup [.val (.bool true),.val q,u]),h:=s.h.put b (some (.mitr m n (seen++[j])))} _ w'' S' f' hgo ⟨(ht.le hgo.le).put hd hM hrel,hgo.wr,?_,hro.le hgo.le⟩ rfl ?_
    ·exact U32
    ·rw[pA] at hk;exact hk
 ·rename_i hw;refine dz (call:=noCall) (r:=[]) (s':=s.put (cOper P M ops o).dst undefA) ok.prog ⟨(fun _ _ _ _ _ h=>by cases h),(fun _ _ _ _ _ h=>by cases h)⟩ ok.meth hM mid hi ?_ fun s2 a1 w1 S1 f1 g1 t1 e1 r1=>?_
  ·simp only[runOps,hw,pA]
  ·simp only[runOps,sI] at r1;subst r1;exact k _ a1 w1 S1 f1 g1 t1 e1 hrun
 ·exact hrun.elim
theorem ut(ok:EnvOk P E){M:Nat}{ro:Option Nat}{ops:Array Oper}{Q:Exit→Act→World→Prop}(hM:M≤N){S0:Snap}{f0:Emb}{h0:AH}{w0:World}{r0:Option Nat}{K:St→Prop}
  (k:∀s' a1 w1 S1 f1,K s'→Goes E.globs base S0 f0 h0 w0 S1 f1 s'.h w1→Mid E base ro S1 f1 s' a1 w1 N→s'.round=r0→Q .normal a1 w1):
  ∀(l:List Nat) (s:St) (a:Act) (w:World) (S:Snap) (f:Emb),Goes E.globs base S0 f0 h0 w0 S f s.h w→Mid E base ro S f s a w N→s.round=r0→
   dops P E (l.filterMap fun i=>(ops[i]?).map (cOper P M ops)) s K→wpOpsIn (fen ro) 0 P ops Q l a w:=by
 intro l
 induction l with
 |nil=>
  intro s a w S f hgo mid hd' hrun;exact k s a w S f hrun hgo mid hd'
 |cons i l ih=>
  intro s a w S f hgo mid hd' hrun;rw[wpOpsIn_cons];cases hi:ops[i]? with
  |none=>
   unfold wpOpIn;simp only[hi];rw[C5] at hrun;simp only[hi,Option.map_none] at hrun;exact ih s a w S f hgo mid hd' hrun
  |some o=>
   rw[C5] at hrun;simp only[hi,jo] at hrun;exact Hs ok hM mid hi hrun fun s1 a1 w1 S1 f1 g1 t1 e1 r1=>
    ih s1 a1 w1 S1 f1 (hgo.trans g1) t1 (e1.trans hd') r1
def LIn(F:Fence)(n:Nat)(P:Program)(c:Code)(Q:Exit→Act→World→Prop)(a:Act)(w:World):Prop:=
 ∀(b:Frame) (k:List Item) (cs:List Frame),b.roundOf=F.round→F.fn b.fn→F.room (cs.length+1+n)→
  ∃e a' w',Q e a' w'∧ArrivesIn (Machine.fenced P F) P (lone (b.atR a (.code c:: .inLoop c::k)) cs w) b k cs e a' w'
theorem LIn.loop{F:Fence}{n:Nat}{c:Code}{Q:Exit→Act→World→Prop}(h:LIn F n P c Q a w):(Code.loop c).wpIn F n P Q a w:=by
 intro b k cs hro hb hr;obtain⟨e,a',w',hq,harr⟩:=h b k cs hro hb hr;exact⟨e,a',w',hq,.of_steps (.one (fenced_calm hb hr rfl) stepR_loop) harr⟩
theorem LIn.round{F:Fence}{n:Nat}{c:Code}{Q:Exit→Act→World→Prop}(h:c.wpIn F n P (Exit.then (LIn F n P c Q) Q) a w):LIn F n P c Q a w:=by
 intro b k cs hro hb hr;obtain⟨e,a₁,w₁,hq,harr⟩:=h b (.inLoop c::k) cs hro hb hr;cases e with
 |normal=>
  obtain⟨e₂,a₂,w₂,hq₂,harr₂⟩:=hq b k cs hro hb hr;exact⟨e₂,a₂,w₂,hq₂,.of_steps (StepsIn.trans harr (.one (fenced_calm hb hr rfl) stepR_inLoop)) harr₂⟩
 |exit id=>exact⟨_,a₁,w₁,hq,.pass (x:=.inLoop c) rfl (fun _ _=>.inl (by simp)) harr⟩
 |goto l=>exact⟨_,a₁,w₁,hq,.pass (x:=.inLoop c) rfl (fun _ _=>.inl (by simp)) harr⟩
 |ret=>exact⟨_,a₁,w₁,hq,.pass (x:=.inLoop c) rfl (fun _ _=>.inl (by simp)) harr⟩
 |panic ch=>exact⟨_,a₁,w₁,hq,.pass (x:=.inLoop c) rfl (fun _ _=>.inl (by simp)) harr⟩
 |outgrown=>exact⟨_,a₁,w₁,hq,.pass (x:=.inLoop c) rfl (fun _ _=>.inl (by simp)) harr⟩
def inOf(F:Fence)(P:Program):Code→(Exit→Act→World→Prop)→Act→World→Prop
 |.loop c,Q,a,w=>LIn F 0 P c Q a w
 |c,Q,a,w=>c.wpIn F 0 P Q a w
theorem dX{F:Fence}{Q:Exit→Act→World→Prop}:∀{c:Code},inOf F P c Q a w→c.wpIn F 0 P Q a w
 |.loop _,h=>LIn.loop h
 |.skip,h|.region ..,h|.seq ..,h|.cond ..,h|.block ..,h|.exit _,h|.ret,h|.scope _,h|.label _,h|.goto _,h|.rangeFunc ..,h|.refuse _,h=>h
theorem vO{F:Fence}{Q:Exit→Act→World→Prop}{c:Code}(hc:∀x,c≠ .loop x)(h:c.wpIn F 0 P Q a w):inOf F P c Q a w:=by
 cases c<;>first|exact h|exact absurd rfl (hc _)
theorem DW.skip{s:St}{K:Ex→St→Prop}(d:DW P E .skip s K):K .normal s:=by
 cases d with
 |det hl hx hK=>
  rename_i m e s';cases m with
  |zero=>simp[exec] at hx
  |succ m=>
   simp only[exec,sI,pI] at hx;obtain⟨rfl,rfl⟩:=hx;exact hK
theorem DW.sound(ok:EnvOk P E){M:Nat}(hM:M≤N){ac:ACode}{s:St}{K:Ex→St→Prop}(d:DW P E ac s K):∀(c:Code) (ro:Option Nat) (S:Snap) (f:Emb) (a:Act) (w:World) (Q:Exit→Act→World→Prop),cCode P M c=ac→
  Mid E base ro S f s a w N→(∀e s' a1 w1 S1 f1,K e s'→Goes E.globs base S f s.h w S1 f1 s'.h w1→Mid E base ro S1 f1 s' a1 w1 N→s'.round=s.round→Q (exOf e) a1 w1)→inOf (fen ro) P c Q a w:=by
 induction d with
 | @det ac s K m e s' hl hx hK=>
  intro c ro S f a w Q hc mid k;refine vO (fun x e=>?_) ?_
  ·subst e;rw[←hc] at hl;cases hl
  ·rw[←hc] at hx;exact eG ok.prog ok.meth hM m (fun j _=>bm ok j) (fun j _=>fo ok.prog ok.meth ok.mixed fun i _=>bm ok i) c s e s' ro S f a w Q hx mid fun a1 w1 S1 f1 g t r=>k e s' a1 w1 S1 f1 hK g t r
 | @region aops s K hx=>
  intro c ro S f a w Q hc mid k;cases c with
  |region id ops d=>
   cases d with
   |true=>
    simp only[cCode,if_true] at hc;split at hc<;>cases hc
   |false=>
    simp only[cCode,Bool.false_eq_true,if_false,ACode.region.injEq] at hc;subst hc;refine wpIn_region (ut ok hM (fun s' a1 w1 S1 f1 hk g t r=>k .normal s' a1 w1 S1 f1 hk g t r) _ s a w S f mid.wr.goes mid rfl ?_);rw[eN];exact hx
  |cond c x y=>simp only[cCode] at hc;split at hc<;>cases hc
  |rangeFunc g ps x y=>simp only[cCode] at hc;split at hc<;>cases hc
  |_=>simp[cCode] at hc
 | @seq x y s K K1 hd1 _ h3 ih1 ih2=>
  intro c ro S f a w Q hc mid k;cases c with
  |seq cx cy=>
   simp only[cCode,ACode.seq.injEq] at hc;refine wpIn_seq (dX (ih1 cx ro S f a w _ hc.1 mid fun e s1 a1 w1 S1 f1 hk g1 t1 r1=>?_));cases e with
   |normal=>exact dX (ih2 s1 hk cy ro S1 f1 a1 w1 Q hc.2 t1 fun e s2 a2 w2 S2 f2 hk2 g2 t2 r2=>k e s2 a2 w2 S2 f2 hk2 (g1.trans g2) t2 (r2.trans r1))
   |exit i=>exact k _ s1 a1 w1 S1 f1 (h3 _ s1 rfl hk) g1 t1 r1
   |ret=>exact k _ s1 a1 w1 S1 f1 (h3 _ s1 rfl hk) g1 t1 r1
  |scope cx=>
   simp only[cCode,ACode.seq.injEq] at hc;obtain⟨hc1,hc2⟩:=hc;subst hc1;refine vO (fun _ e=>by cases e) (jN (dX (ih2 s (DW.skip hd1) cx ro S f a w _ hc2 mid fun e s2 a2 w2 S2 f2 hk2 g2 t2 r2=>?_)))
   have:=k e s2 a2 w2 S2 f2 hk2 g2 t2 r2;cases e<;>exact this
  |cond c x y=>simp only[cCode] at hc;split at hc<;>cases hc
  |rangeFunc g ps x y=>simp only[cCode] at hc;split at hc<;>cases hc
  |region id ops d=>
   cases d with
   |true=>simp only[cCode,if_true] at hc;split at hc<;>cases hc
   |false=>simp[cCode] at hc
  |_=>simp[cCode] at hc
 | @condT o x y s K hv _ ih=>
  intro c ro S f a w Q hc mid k;cases c with
  |cond co cx cy=>
   simp only[cCode] at hc;split at hc
   ·rename_i c' hc';simp only[ACode.cond.injEq] at hc;obtain⟨rfl,hx,hy⟩:=hc;have hr:=aA mid.tm hc' hv;simp only[Rel] at hr;exact wpIn_cond_true hr.1 (dX (ih cx ro S f a w Q hx mid k))
   ·cases hc
  |rangeFunc g ps x y=>simp only[cCode] at hc;split at hc<;>cases hc
  |region id ops d=>
   cases d with
   |true=>simp only[cCode,if_true] at hc;split at hc<;>cases hc
   |false=>simp[cCode] at hc
  |_=>simp[cCode] at hc
 | @condF o x y s K hv _ ih=>
  intro c ro S f a w Q hc mid k;cases c with
  |cond co cx cy=>
   simp only[cCode] at hc;split at hc
   ·rename_i c' hc';simp only[ACode.cond.injEq] at hc;obtain⟨rfl,hx,hy⟩:=hc;have hr:=aA mid.tm hc' hv;simp only[Rel] at hr;exact wpIn_cond_false hr.1 (dX (ih cy ro S f a w Q hy mid k))
   ·cases hc
  |rangeFunc g ps x y=>simp only[cCode] at hc;split at hc<;>cases hc
  |region id ops d=>
   cases d with
   |true=>simp only[cCode,if_true] at hc;split at hc<;>cases hc
   |false=>simp[cCode] at hc
  |_=>simp[cCode] at hc
 | @block id x s K K1 _ h2 ih=>
  intro c ro S f a w Q hc mid k;cases c with
  |block id' cx=>
   simp only[cCode,ACode.block.injEq] at hc;obtain⟨rfl,hx⟩:=hc;refine wpIn_block (dX (ih cx ro S f a w _ hx mid fun e s1 a1 w1 S1 f1 hk g1 t1 r1=>?_));have:=k _ s1 a1 w1 S1 f1 (h2 e s1 hk) g1 t1 r1;cases e with
   |normal=>exact this
   |ret=>exact this
   |exit i=>
    simp only[exOf,Exit.inBlock]
    by_cases he:i=id'
    ·subst he;simpa [exOf] using this
    ·rw[if_neg he];have hb:i5 i id'=false:=by cases hq:i5 i id' with
      |false=>rfl
      |true=>exact absurd (Nat.eq_of_beq_eq_true hq) he
     simpa [hb,exOf] using this
  |cond c x y=>simp only[cCode] at hc;split at hc<;>cases hc
  |rangeFunc g ps x y=>simp only[cCode] at hc;split at hc<;>cases hc
  |region id ops d=>
   cases d with
   |true=>simp only[cCode,if_true] at hc;split at hc<;>cases hc
   |false=>simp[cCode] at hc
  |_=>simp[cCode] at hc
 | @loop x s K K1 _ _ h3 ih1 ih2=>
  intro c ro S f a w Q hc mid k;cases c with
  |loop cx=>
   have hc0:=hc;simp only[cCode,ACode.loop.injEq] at hc;refine LIn.round (dX (ih1 cx ro S f a w _ hc mid fun e s1 a1 w1 S1 f1 hk g1 t1 r1=>?_));cases e with
   |normal=>exact ih2 s1 hk (.loop cx) ro S1 f1 a1 w1 Q hc0 t1 fun e s2 a2 w2 S2 f2 hk2 g2 t2 r2=>k e s2 a2 w2 S2 f2 hk2 (g1.trans g2) t2 (r2.trans r1)
   |exit i=>exact k _ s1 a1 w1 S1 f1 (h3 _ s1 rfl hk) g1 t1 r1
   |ret=>exact k _ s1 a1 w1 S1 f1 (h3 _ s1 rfl hk) g1 t1 r1
  |cond c x y=>simp only[cCode] at hc;split at hc<;>cases hc
  |rangeFunc g ps x y=>simp only[cCode] at hc;split at hc<;>cases hc
  |region id ops d=>
   cases d with
   |true=>simp only[cCode,if_true] at hc;split at hc<;>cases hc
   |false=>simp[cCode] at hc
  |_=>simp[cCode] at hc
end Go.AM
namespace Go.AM
open Go.RowKit
variable {base:Nat}{S:Snap}{f:Emb}{h:AH}{w:World}{P:Program}{E:Env}{s s':St}{a:Act}{N:Nat}
theorem mZ(ok:EnvOk P E){g:Nat}{af:AFun}{l:List AV}{R:AV→AH→Prop}(haf:funOf P g=some af)
  (d:DW P E af.body {tm:=enterTm l 0 .nil,h,defers:=[],round:=none} fun e s1=>(e=.normal∨e=.ret)∧∃r h',leaveA E af s1=some (r,h')∧R r h'):
  (∃fn,P.funcs[g]? =some fn∧(fn.name== "runtime.NumGoroutine")=false∧fn.body.isNone=false)∧
   ∀base S f w vals,WR E.globs base S f h w→RelL S f l vals→CallsIn Fence.wide 0 P g vals.toArray w fun e w'=>∃x r h',e=.returned x∧R r h'∧Left E base S f h w r h' x w':=by
 obtain⟨fn,c,h1,h2,h3,h4,h5⟩:=l6 haf;refine⟨⟨fn,h1,h2,by rw[h3];rfl⟩,fun base S f w vals wr hl=>?_⟩
 rw[h4] at d;refine callsIn_of_wp_marks (F:=Fence.wide) h1 h3 trivial ?_
 have hlen:=hl.length;have hsz:(vals.toArray++Array.replicate (fn.ntmps-vals.toArray.size) undef).size=max vals.length fn.ntmps:=by simp;omega
 refine dX (d.sound (base:=base) (N:=max vals.length fn.ntmps) ok (Nat.le_max_right _ _) c none S f _ w _ rfl ⟨⟨hsz,fun i v hv=>?_⟩,wr,rfl,rfl⟩ fun e s1 a1 w1 S1 f1 hK g1 t1 _=>?_)
 ·exact U17
 ·obtain⟨he,r,h',hlv,hR⟩:=hK;unfold leaveA at hlv;split at hlv
  ·rename_i h2' hrd;split at hlv
   ·rename_i lr hlr;simp only[sI,pI] at hlv;obtain⟨rfl,rfl⟩:=hlv;have hbody:LeavesInM Fence.wide 0 P fn a1.tmps (fun e w'=>∃x r h',e=.returned x∧R r h'∧Left E base S f h w r h' x w') a1.defers .returning w1:=by
     refine g9 ok.idle s1.defers a1.defers s1.h w1 hrd t1.d t1.wr fun w2 g2=>?_
     obtain⟨v,hv,hrv⟩:=fO (fn:=fn) (s:={s1 with h:=h2'}) (a:=a1) t1.tm g2.wr h5 hlr;exact⟨v,hv,v,_,_,rfl,hR,S1,f1,g1.trans g2,hrv⟩
    rcases he with rfl|rfl<;>exact hbody
   ·cases hlv
  ·cases hlv
theorem nR{S2:Snap}{w w':World}{r t:AV}{hc:AH}{x:Value}(ht:toTree (freeze deepest r hc) deepest r=some t)
  (h1:∀b o v,S2 b o=some v→w.cell? ⟨b,o,none⟩=some v) (hl:Left E w.heap.size S2 nof .empty w r hc x w'):PureLeft S2 w t x w':=by
 obtain⟨S',f',hg,hr⟩:=hl;have hkeep:∀b o,b<w.heap.size→S' b o=S2 b o:=fun b o hb=>by
  have:=(hg.keep b o 1 hb (fun c _ _ _ hc=>(by cases hc))).2 0 om
  simpa using this
 have wr1:=hg.wr.fz (cH deepest r hc)
 classical
 let S3:Snap:=fun b o=>if b<w.heap.size then S2 b o else w'.cell? ⟨b,o,none⟩
 refine⟨S3,?_,hg.below,fun b o v hv=>?_,fun b o hb=>by simp only[S3,if_pos hb]⟩
 ·refine fR wr1 (fun b o v hv=>?_) (fun b cs B O R hb hf i hi v hv=>?_) _ _ _ _ ht hr
  ·exact U18
  ·exact U19
 ·exact U20
theorem so(ok:EnvOk P E){g:Nat}{af:AFun}{l:List AV}{t:AV}(haf:funOf P g=some af)
  (d:DW P E af.body {tm:=enterTm l 0 .nil,h:=.empty,defers:=[],round:=none} fun e s1=>(e=.normal∨e=.ret)∧∃r hc,leaveA E af s1=some (r,hc)∧toTree (freeze deepest r hc) deepest r=some t):
  KFact P E.globs g l t:=by
 obtain⟨k1,k2⟩:=mZ ok (R:=fun r hc=>toTree (freeze deepest r hc) deepest r=some t) haf d;refine⟨k1,fun S2 w vals q1 q2 q3=>?_⟩;refine CallsIn.mono (k2 w.heap.size S2 nof w vals (km q1 q2) q3) fun e w' he=>?_
 obtain⟨x,r,hc,rfl,hR,hL⟩:=he;exact⟨x,rfl,nR hR q1 hL⟩
theorem DW.run{c:ACode}{s:St}{K:Ex→St→Prop}(hl:isLoop c=false)(h:Run E c s K):DW P E c s K:=by
 obtain⟨e,s',x,y⟩:=h;obtain⟨n,hn⟩:=x.one;exact .det hl hn y
theorem bh{K:St→Prop}:∀(a b:List AOper) (s:St),wpOps E a s (fun s1=>dops P E b s1 K)→dops P E (a++b) s K
 | [],b,s,h=>h
 |o::r,b,s,h=>by
  simp only[wpOps] at h;simp only[ja,dops];cases hw:wantedA s o.guard with
  |none=>rw[hw] at h;exact h.elim
  |some g=>
   rw[hw] at h;simp only[aJ] at h;cases g with
   |false=>exact bh r b _ (h.2 rfl)
   |true=>
    have h1:=h.1 rfl;clear h;refine .inl ?_
    have fin:∀(c:Cle) (l:List AV) (K':AV→AH→Prop),(∀call,runOp E call s o.op=(call c l s.h).bind fun(v,h)=>some (v,{s with h}))→CallTo E c l s.h K'→∃n v h',runOp E (aZ E (exec E n)) s o.op=some (v,s.toH h')∧K' v h':=by
     intro c l K' ho ⟨v,h',hr,hk⟩;obtain⟨n,hn⟩:=hr.one;exact⟨n,v,h',by rw[ho,hn];rfl,hk⟩
    unfold wpOp at h1;split at h1
    ·rename_i f args heq;cases he:evalAll s args with
     |none=>rw[he] at h1;exact h1.elim
     |some l=>
      rw[he] at h1;obtain⟨n,v,h',r1,r2⟩:=fin _ _ _ (fun call=>by rw[heq];simp only[runOp,he]) h1
      exact⟨n,v,_,r1,bh r b _ r2⟩
    ·rename_i x args heq;split at h1
     ·rename_i b' hx;cases he:evalAll s args with
      |none=>rw[he] at h1;exact h1.elim
      |some l=>
       rw[he] at h1;obtain⟨n,v,h',r1,r2⟩:=fin _ _ _ (fun call=>by rw[heq];simp only[runOp,he,hx]) h1
       exact⟨n,v,_,r1,bh r b _ r2⟩
     ·rename_i f a' b' hx;cases he:evalAll s args with
      |none=>rw[he] at h1;exact h1.elim
      |some l=>
       rw[he] at h1;obtain⟨n,v,h',r1,r2⟩:=fin _ _ _ (fun call=>by rw[heq];simp only[runOp,he,hx]) h1
       exact⟨n,v,_,r1,bh r b _ r2⟩
     ·exact h1.elim
    ·cases ho:runOp E noCall s o.op with
     |none=>rw[ho] at h1;exact h1.elim
     |some vs=>
      obtain⟨v,s1⟩:=vs;rw[ho] at h1;exact⟨0,v,s1,d8 ho,bh r b _ h1⟩
theorem ki{ops:List AOper}{s:St}{K:St→Prop}(h:wpOps E ops s K):dops P E ops s K:=by
 have:=bh (P:=P) (K:=K) ops [] s (by simpa only[dops] using h)
 rwa [j6] at this
theorem xY{x:Opd}{dst:Option Nat}{r:List AOper}{s:St}{K:St→Prop}{b m n:Nat}{seen:List Nat}{es:List (Value×AV)}(h1:s.eval x=some (.it b))(h2:s.h.get b=some (.mitr m n seen))(h3:s.h.get m=some (.map es))(h4:es.length=n)
  (h5:∃i,i<n∧i∉seen) (k:∀i k u,i<n→i∉seen→es[i]? =some (k,u)→k.oneCell'=true∧dops P E r ((s.toH (s.h.put b (some (.mitr m n (seen++[i]))))).put dst (.tup [.val (.bool true),.val k,u])) K):
  dops P E (⟨dst,none,.nextMap x⟩::r) s K:=by
 simp only[dops,wantedA];refine .inr (.inr ⟨x,b,m,n,seen,es,rfl,h1,h2,h3,h4,h5,fun i q u a1 a2 a3=>?_⟩);exact k i q u a1 a2 a3
theorem gz{g:Nat}{args:List Opd}{dst:Option Nat}{r:List AOper}{s:St}{K:St→Prop}{l:List AV}{R:AV→AH→Prop}(h1:evalAll s args=some l)(h2:CallRel P E g l s.h R)(k:∀v h',R v h'→dops P E r ((s.toH h').put dst v) K):
  dops P E (⟨dst,none,.call g args⟩::r) s K:=by
 simp only[dops,wantedA];exact .inr (.inl ⟨g,args,l,R,rfl,h1,h2,k⟩)
theorem oP{g:Nat}{args:List Opd}{dst:Option Nat}{r:List AOper}{s:St}{K:St→Prop}{l:List AV}{v:AV}{h':AH}(h1:evalAll s args=some l)(h2:CallFact P E g l s.h v h')(k:dops P E r ((s.toH h').put dst v) K):
  dops P E (⟨dst,none,.call g args⟩::r) s K:=
 gz h1 (h2.rel (R:=fun v1 h1=>v1=v∧h1=h') ⟨rfl,rfl⟩) fun v1 h1 ⟨e1,e2⟩=>by subst e1;subst e2;exact k
end Go.AM
namespace Go.AM
open Go.RowKit Go.Sort Go.Proofs
variable {P:Program}{E:Env}
abbrev strL8(l:List UInt8):AV:=.val (.string ⟨l.toArray⟩)
theorem qZ{α:Type}(x:α):∀(l:List α) (j:Nat),j<l.length→(l.set j x).take (j+1)=l.take j++[x]
 | [],j,h=>by simp at h
 |a::l,0,h=>by simp
 |a::l,j+1,h=>by
  have:=qZ x l j (by simpa using h)
  simp only[List.set_cons_succ,List.take_succ_cons,ja,this]
theorem gH(w:World)(B off:Nat):∀(rest:List (List UInt8)) (j:Nat) (d:Array (List UInt8)),j+rest.length=d.size→(putRow encStr w B off d).setCells B (off+j) (rest.map encStr)=putRow encStr w B off (d.toList.take j++rest).toArray
 | [],j,d,h=>by
  have:d.toList.take j=d.toList:=List.take_of_length_le (by simp at h⊢;omega)
  rw[this,j6];rfl
 |x::r,j,d,h=>by
  have hj:j<d.size:=by simp at h;omega
  have ih:=gH w B off r (j+1) (d.setIfInBounds j x) (by simp at h⊢;omega)
  have e:(d.setIfInBounds j x).toList.take (j+1)++r=d.toList.take j++x::r:=by
   rw[Array.toList_setIfInBounds,qZ x d.toList j (by simpa using hj),List.append_assoc]
   rfl
  rw[e] at ih;rw[List.map_cons,World.setCells,putRow_set encStr w B off d j x hj];exact ih
theorem wg{g:Nat}(hfn:∃fn,P.funcs[g]? =some fn∧(fn.name== "runtime.NumGoroutine")=false∧fn.body.isNone=false)
  (hC:∀(blk off cap:Nat) (ss:List (List UInt8)) (w:World),Holds encStr w blk off ss.toArray→blk<w.heap.size→ss.length<4611686018427387904→
   Calls P g #[.slice (some ⟨blk,off,none⟩) ss.length cap] w fun e w'=>e=.returned (.tuple #[])∧∃n os,w'=grow (putRow encStr (Sort.ahead w n) blk off (ss.mergeSort fun x y=>decide (x≤y)).toArray) os)
  {h:AH} {b k:Nat} {cap:Option Nat} {ss:List (List UInt8)} (hk:ss.length=k) (h0:0<k) (h1:k<2^60) (hb:h.get b=some (.cells (ss.map strL8) true)):
  CallFact P E g [.own b 0 k 1 cap] h (.tup []) (h.put b (some (.cells ((ss.mergeSort fun x y=>decide (x≤y)).map strL8) true))):=by
 refine⟨hfn,fun base S f w vals wr hl=>?_⟩;simp only[RelL,Rel] at hl;obtain⟨x,ys,rfl,⟨B,O,R,c,hf,hat,hn,hcap,hR⟩,rfl⟩:=hl;have hx:=hat.pos (.inl h0);subst hx;obtain⟨B0,O0,R0,hf0,hB,hsz,hr⟩:=wr.blk b _ hb;rw[hf] at hf0;simp only[sI,pI] at hf0;obtain⟨rfl,rfl,rfl⟩:=hf0;have hr0:=hr;simp only[BlkR] at hr;obtain⟨r1,r2,r3,r4,r5⟩:=hr;rw[ji] at r1;have hH:Holds encStr w B (O+0) ss.toArray:=fun j hj=>by
  have hj:j<ss.length:=by simpa using hj
  have hg:(ss.map strL8)[j]? =some (strL8 ss[j]):=by simp[hj]
  obtain⟨y,y1,y2,y3⟩:=r2 j _ hg;simp only[Rel] at y3;refine⟨?_,?_⟩
  ·rw[Aa,y1,y3.1,getElem!_pos _ j (by simpa using hj)]
   simp
  ·rw[Aa];exact(r4 trivial j om).1
 have hlen:(ss.mergeSort fun x y=>decide (x≤y)).length=k:=by rw[List.length_mergeSort,hk]
 have hcall:=hC B (O+0) c ss w hH hsz om;rw[hk] at hcall;refine(callsIn_wide.2 hcall).mono fun e w' he=>?_
 obtain⟨rfl,n,os,rfl⟩:=he;refine⟨_,rfl,S,f,?_,?_⟩
 ·have b1:Below w.heap.size w (Sort.ahead w n):=⟨rfl,rfl,rfl,Nat.le_refl _,fun _ _=>rfl⟩;have g1:=wr.later b1;have hH1:=holds_ahead encStr w n B (O+0) ss.toArray hH;have e1:putRow encStr (Sort.ahead w n) B (O+0) (ss.mergeSort fun x y=>decide (x≤y)).toArray=(Sort.ahead w n).setCells B (O+0) ((ss.mergeSort fun x y=>decide (x≤y)).map encStr):=by
   have:=gH (Sort.ahead w n) B (O+0) (ss.mergeSort fun x y=>decide (x≤y)) 0 ss.toArray (by simp[List.length_mergeSort])
   rw[putRow_self encStr _ B (O+0) ss.toArray hH1,Aa] at this;rw[List.take_zero,List.nil_append] at this;rw[Aa];exact this.symm
  have g2:=g1.wr.setCells (b:=b) (cs:=ss.map strL8) (cs':=(ss.mergeSort fun x y=>decide (x≤y)).map strL8) (off:=0) hb hf ((ss.mergeSort fun x y=>decide (x≤y)).map encStr)
   (by rw[ji,hlen];omega) (by rw[ji,hlen];omega)
   (fun i c hc hi=>by
    have h2:=(List.getElem?_eq_some_iff.1 hc).1;rw[ji] at h2;rw[ji] at hi;omega)
   (fun i c hc hi=>by
    rw[Nat.zero_add,Ag] at hc;rw[ji] at hi;rw[jk hi,jo,sI] at hc;subst hc;refine⟨encStr (ss.mergeSort fun x y=>decide (x≤y))[i],by rw[Ag,jk hi];rfl,rfl,?_⟩
    simp only[Rel];exact⟨trivial,rfl⟩)
  rw[←e1] at g2;have b3:Below (putRow encStr (Sort.ahead w n) B (O+0) (ss.mergeSort fun x y=>decide (x≤y)).toArray).heap.size (putRow encStr (Sort.ahead w n) B (O+0) (ss.mergeSort fun x y=>decide (x≤y)).toArray) (grow (putRow encStr (Sort.ahead w n) B (O+0) (ss.mergeSort fun x y=>decide (x≤y)).toArray) os):=
   ⟨rfl,rfl,rfl,by simp[grow],fun k hk=>heap_grow_old _ _ hk⟩
  exact(g1.trans g2).trans (g2.wr.later b3)
 ·simp only[Rel];exact⟨[],rfl,by simp only[RelL]⟩
end Go.AM
namespace Go.AM
variable {P:Program}{E:Env}{s:St}{K:St→Prop}{r:List AOper}{dst:Option Nat}
theorem cK{x y:ACode}{K:Ex→St→Prop}(hx:isLoop x=false)(h:Run E x s fun e s1=>e=.normal∧DW P E y s1 K):DW P E (.seq x y) s K:=
 DW.seq (K1:=fun e s1=>e=.normal∧DW P E y s1 K) (DW.run hx h) (fun s1 h=>h.2) (fun e s1 hn h=>by rw[h.1] at hn;cases hn)
def itOf(b:Nat)(es:List (Value×AV)):Blk:=match es with
 | []=>.miter (some b)
 | [_]=>.mit1 b false
 |es=>.mitr b es.length []
theorem qn{x:Opd}{b:Nat}{es:List (Value×AV)}(hx:s.eval x=some (.mp b))(hg:s.h.get b=some (.map es))(k:wpOps E r ((s.toH (s.h.alloc (itOf b es))).put dst (.it s.h.next)) K):wpOps E (⟨dst,none,.rangeMap x⟩::r) s K:=by
 rw[bz (o:=some (.it s.h.next,s.h.alloc (itOf b es)))]
 ·exact k
 ·simp only[runOp,hx,hg,itOf,jo];cases es with
  |nil=>rfl
  |cons a t=>cases t<;>rfl
 ·exact fun _ _=>rfl
def AtEnd(h:AH)(b:Nat):Prop:=(∃m,h.get b=some (.miter (some m))∧h.get m=some (.map []))∨(∃m e,h.get b=some (.mit1 m true)∧h.get m=some (.map [e]))∨(∃m n seen es,h.get b=some (.mitr m n seen)∧h.get m=some (.map es)∧es.length=n∧1≤n∧allSeen seen n=true)
theorem tt{x:Opd}{b:Nat}(hx:s.eval x=some (.it b))(hg:AtEnd s.h b)(k:wpOps E r (s.put dst (.tup [.val (.bool false)])) K):wpOps E (⟨dst,none,.nextMap x⟩::r) s K:=by
 rw[ax (o:=some (.tup [.val (.bool false)]))]
 ·exact k
 ·rcases hg with⟨m,h1,h2⟩|⟨m,e,h1,h2⟩|⟨m,n,seen,es,h1,h2,h3,h4,h5⟩
  ·simp only[runOp,hx,h1,h2];rfl
  ·simp only[runOp,hx,h1,h2];rfl
  ·have h6:i5 es.length n=true:=by rw[h3];exact je _
   have h7:Nat.ble 1 n=true:=Nat.ble_eq.mpr h4;simp only[runOp,hx,h1,h2,h5,h6,h7,ip,cond_true];rfl
 ·exact fun _ _=>rfl
theorem yr{x:Opd}{b m:Nat}{k:Value}{u:AV}(hx:s.eval x=some (.it b))(h1:s.h.get b=some (.mit1 m false))(h2:s.h.get m=some (.map [(k,u)]))(h3:k.oneCell'=true)(kk:wpOps E r ((s.toH (s.h.put b (some (.mit1 m true)))).put dst (.tup [.val (.bool true),.val k,u])) K):wpOps E (⟨dst,none,.nextMap x⟩::r) s K:=by
 rw[bz (o:=some (.tup [.val (.bool true),.val k,u],s.h.put b (some (.mit1 m true))))]
 ·exact kk
 ·simp only[runOp,hx,h1,h2,h3,cond_true];rfl
 ·exact fun _ _=>rfl
def CurIs(h:AH)(b:Nat)(k:Value)(u:AV):Prop:=(∃m,h.get b=some (.mit1 m true)∧h.get m=some (.map [(k,u)]))∨(∃m n seen es i,h.get b=some (.mitr m n (seen++[i]))∧h.get m=some (.map es)∧es.length=n∧es[i]? =some (k,u))
theorem Nl{x:Opd}{b:Nat}{k:Value}{u:AV}(hx:s.eval x=some (.it b))(hg:CurIs s.h b k u)(h3:k.oneCell'=true)(kk:wpOps E r (s.put dst (.tup [.val k,u])) K):wpOps E (⟨dst,none,.curMap x⟩::r) s K:=by
 rw[ax (o:=some (.tup [.val k,u]))]
 ·exact kk
 ·rcases hg with⟨m,h1,h2⟩|⟨m,n,seen,es,i,h1,h2,h4,h5⟩
  ·simp only[runOp,hx,h1,h2,h3,cond_true];rfl
  ·have h6:i5 es.length n=true:=by rw[h4];exact je _
   have h7:curOf (seen++[i]) es=some (k,u):=by simp only[curOf,List.getLast?_concat,h5]
   simp only[runOp,hx,h1,h2,h7,h6,h3,ip,cond_true];rfl
 ·exact fun _ _=>rfl
theorem mV{seen:List Nat}:∀{n:Nat},(∀i,i<n→i∈seen)→allSeen seen n=true
 |0,_=>rfl
 |n+1,h=>by
  rw[allSeen,mV fun i hi=>h i om,Bool.and_true];exact List.any_eq_true.2 ⟨n,h n om,je n⟩
theorem KFact.flat{g:Nat}{l:List AV}{t:AV}{h:AH}(k:KFact P E.globs g l t)(ht:isFlat t=true)(hl:∀S f vals,RelL S f l vals→RelL S nof l vals):CallFact P E g l h t h:=
 ⟨k.1,fun base S f w vals wr hv=>(k.2 S w vals wr.snap wr.glob (hl S f vals hv)).mono fun e w' ⟨x,e1,S3,hr3,hb,hs3,hold⟩=>⟨x,e1,S,f,wr.later hb,lx ht hr3⟩⟩
end Go.AM
