/- TFre TBulk TTypes TBulkE TBulkF -/
import Derived.Test.YtkmoeaplhnabcaaGreatDoorU0
import Derived.Test.YtkmoeaplhnabcaaGreatDoorN4

set_option linter.all false
open Nat renaming reduceEqDiff → rA, reduceAdd → rB, reduceMul → rC
open Int renaming reduceEq → rD, reduceLT → rE, reduceLE → rF
open Option.some renaming injEq → sI
open Bool renaming and_self → ip
open List renaming all_cons → j4, all_nil → j5, append_assoc → jh, append_nil → j6, drop_succ_cons → A6, drop_zero → jj, filter_cons → Ay, flatMap_append → A8, length_append → io, length_cons → im, length_nil → jf, mem_cons → i8, mem_cons_of_mem → j0, mem_cons_self → il, mem_nil_iff → jb, mem_of_mem_drop → A4, mem_singleton → ig, nil_append → iz, take_succ_cons → jm, take_zero → jv
open Nat renaming le_refl → i7, zero_le → ir
namespace Go.Proofs.YtkmoeaplhnabcaaGreatDoor
open Go Go.AM
set_option maxHeartbeats 4000000
variable [KR]
theorem Qk{g:Nat}{l:List AV}{a:AFun}{L:List ByteArray}(hs:freshF g=true)(hf:funOf Tryz.prog g=some a)(hl:∀v∈l,Tree v)
  (H:∀s:St,(∀i v,(enterTm l 0 .nil).get i=some v→s.eval (.t i)=some v)→s.h=.empty→s.defers=[]→s.round=none→wp E1 a.body s fun e s=>(e=.normal∨e=.ret)∧s.defers=[]∧∃v,resultsA E1.globs s a.res=some [v]∧RowX s.h 0 L.length 1 v (L.flatMap strA)):
  ∃nl cap,∀h,RunCall E1 (.f g) l h (Vl.A strA ⟨L,nl,cap⟩) h:=by
 obtain⟨v,h',hr,hrun⟩:=dT (g:=g) (l:=l) (h:=.empty) (a:=a) (fun v h'=>RowX h' 0 L.length 1 v (L.flatMap strA)) hf fun s h1 h2 h3 h4=>(ag _ _ _ (H s h1 h2 h3 h4)).mono fun e s' ⟨k1,k2,v,k3,k4⟩=>⟨k1,k2,[v],k3,k4⟩;obtain⟨h1,f1,f2,f3,f4⟩:=bN hr;obtain⟨nl,cap,e⟩:=d9 hr;refine⟨nl,cap,fun h=>hrun.mono fun n p=>?_⟩;have hz:l.foldl (fun h v=>AM.freeze deepest v h) h=h:=az hl;rw[e] at f4;simp only[aZ,cD,bI hs,hz,bb hl,bX hs,p,f1,f4];cases isFlat (Vl.A strA ⟨L,nl,cap⟩)<;>rfl
theorem uD(w:Vl ByteArray)(x:ByteArray)(hN:w.l.length<2^61)(h:AH):RunCall E1 (.f 50) [w.A strA,vS x] h (vB (memS x w.l)) h:=by
 refine gJ kr Mh (dm Tree.vl (Tree.val _)) rfl (Tree.val _) (fun s hs hh hd hr=>?_) h;have h0:=hs 0 _ rfl;have h1:=hs 1 _ rfl;simp-implicitDefEqProofs only[zz,f50,V,↓reduceIte,rA,reduceCtorEq,h0,h1,hd,aG (cW w x hN),dr]
theorem qN{s:St}{K:St→Prop}{r:List AOper}{dst:Option Nat}{es bytes a d k m lo:Nat}{v x:AV}{cs new:List AV}(hr:RowX s.h lo k es v cs)(hlo:lo≤s.h.next)(he:elemsOf s.h es x=some (new,m))(hl:new.length=m*es)(hn:∀c∈new,Leaf c)(hok:okLen (k+m) bytes=true)(ha:s.eval (.t a)=some v)(hx:s.eval (.t d)=some x)
  (kk:∀v' h',RowX h' lo (k+m) es v' (cs++new)→s.h.next≤h'.next→(∀y,y<s.h.next→y∉ids v→h'.get y=s.h.get y)→AM.wpOps E1 r ((s.toH h').put dst v') K):AM.wpOps E1 (⟨dst,none,.append es bytes (.t a) (.t d)⟩::r) s K:=by
 obtain⟨v',h',e,r',n',o',_⟩:=mm (bytes:=bytes) hr hlo he hl hn hok ha hx;rw[cR,e];exact kk v' h' r' n' o'
theorem rl(e:Ex)(hN:e.pm.l.length<2^26):∀(r:List Pm) (i:Nat) (s:St) (acc:List ByteArray) (v:AV),e.pm.l.drop i=r→i≤e.pm.l.length→acc.length+r.length<2^28→RowX s.h 1 acc.length 1 v (acc.flatMap strA)→1≤s.h.next→s.h.get 0=some (.cells e.cells true)→s.eval (.t 3)=some (.ptr 0 0)→s.eval (.t 7)=some v→s.eval (.t 8)=some (vI (i:Nat))→s.defers=[]→
  Run E1 mB s fun ex s'=>ex=.exit 0∧s'.defers=[]∧∃v',s'.eval (.t 7)=some v'∧RowX s'.h 1 (acc++(bif decide (e.op=6) then pnm r else [])).length 1 v' ((acc++(bif decide (e.op=6) then pnm r else [])).flatMap strA)
 | [],i,s,acc,v,hd,hi,hA,hr,l1,g0,h3,h7,h8,hf=>by
  have hl:=aK hd hi;subst hl;have hx:(bif decide (e.op=6) then pnm [] else [])=[]:=by cases decide (e.op=6)<;>rfl
  apply aC (rfl:mB=.loop iT);rw[hx,j6];simp-implicitDefEqProofs only[iT,V,↓reduceIte,rA,h3,h7,h8,hf,g0,ba];exact⟨v,rfl,hr⟩
 |p::r,i,s,acc,v,hd,hi,hA,hr,l1,g0,h3,h7,h8,hf=>by
  have hl:=aL hd;have hlt:=bY hl;have w1:IntKind.i64.wrap ((i:Int)+1)=((i+1:Nat):Int):=aE (n:=i+1) om;have c0:(0=s.h.next)=False:=by simp;omega
  rw[im] at hA;apply aC (rfl:mB=.loop iT);cases q:decide (e.op=6) with
  |false=>
   rw[cond_false,j6];simp-implicitDefEqProofs only[iT,V,↓reduceIte,rA,h3,h7,h8,hf,g0,hlt,q];exact⟨v,rfl,hr⟩
  |true=>
   simp-implicitDefEqProofs only[iT,V,↓reduceIte,rA,WF,h3,h7,h8,g0,hlt,q,e.pm.at Pm.len hd];refine qN (k:=acc.length) (m:=1) (lo:=1) (v:=v) (x:=.own s.h.next 0 1 1 (some 1)) (cs:=acc.flatMap strA) (new:=[vS p.nm]) ?_ ?_ ?_ rfl ?_ (aS (bytes:=16) om de) ?_ ?_ ?_
   ·exact U74
   ·exact U34
   ·refine aq (rw':=true) ?_ rfl;exact U36
   ·exact fun c hc=>by rw[ig.1 hc];exact Leaf.val _
   ·exact U36
   ·exact U36
   intro v1 h1' r1 m1 o1;simp-implicitDefEqProofs only[V] at m1 o1 r1;simp-implicitDefEqProofs only[V,↓reduceIte,rA,h8,w1];have hb:(acc++[p.nm]).length=acc.length+1:=by rw[io];rfl
   rw[show acc++pnm (p::r)=(acc++[p.nm])++(bif decide (e.op=6) then pnm r else []) by rw[q,cond_true,jh];rfl]
   refine rl e hN r (i+1) _ (acc++[p.nm]) v1 (aH hd) om om ?_ ?_ ?_ ?_ ?_ ?_ ?_
   all_goals try simp-implicitDefEqProofs only[V,↓reduceIte,rA,h3,hf]
   ·exact U64
   ·omega
   ·rw[o1 0 om (fun q=>by have:=(hr.ids 0 q).1;omega),if_neg om,g0]
theorem zE{i:Nat}:decide ((i:Int)>0)=decide (0<i):=by
 rcases Nat.eq_zero_or_pos i with rfl|h
 ·rfl
 ·rw[decide_eq_true (show(i:Int)>0 by omega),decide_eq_true h]
theorem vh{h:AH}{lo:Nat}(hlo:lo≤h.next):RowX (h.alloc (.cells [] true)) lo 0 1 (.own h.next 0 0 1 (some 0)) []:=
 RowX.made (fun c hc=>by cases hc) rfl hlo (Nat.lt_succ_self _) aO
theorem oX(e:Ex)(i:Nat)(w:Vl ByteArray)(hi:i<2^60)(hN:w.l.length+e.pm.l.length<2^26):∃nl cap,∀h,RunCall E1 (.f 80) [.agg e.cells,vI (i:Nat),w.A strA] h (Vl.A strA ⟨w.l++insS e i,nl,cap⟩) h:=by
 refine Qk kr Lt (fun v hv=>?_) fun s hs hh hd hrd=>?_
 ·simp only[i8,jb,or_false] at hv;rcases hv with rfl|rfl|rfl
  ·exact Tree.ex e
  ·exact Tree.val _
  ·exact Tree.vl
 have h0:=hs 0 _ rfl;have h1:=hs 1 _ rfl;have h2:=hs 2 _ rfl;simp-implicitDefEqProofs only[za,f80,V,↓reduceIte,rA,WF,h0,h2,hh];refine qN (k:=0) (m:=w.l.length) (lo:=1) (v:=.own 1 0 0 1 (some 0)) (x:=w.A strA) (cs:=[]) (new:=w.l.flatMap strA) ?_ ?_ (bW aI) (cE _) (bR _) (aS (bytes:=16) om de) ?_ ?_ ?_
 ·simp-implicitDefEqProofs only[V];exact vh (h:=AH.empty.alloc (.cells e.cells true)) (i7 _)
 ·exact U75
 ·exact U36
 ·exact U36
 intro v1 h1' r1 m1 o1;simp-implicitDefEqProofs only[V,rB] at m1 o1 r1
 try rw[iz] at r1
 try rw[Nat.zero_add] at r1
 have m1:2≤h1'.next:=m1;have g0:h1'.get 0=some (.cells e.cells true):=by
  rw[o1 0 (by show 0<2;omega) (by simp[ids]),if_neg om]
  rfl
 have fin:∀(s1:St) (acc:List ByteArray) (v2:AV),acc.length<2^27→acc++(bif decide (e.op=6) then pnm e.pm.l else [])=w.l++insS e i→s1.h.get 0=some (.cells e.cells true)→1≤s1.h.next→RowX s1.h 1 acc.length 1 v2 (acc.flatMap strA)→s1.eval (.t 3)=some (.ptr 0 0)→s1.eval (.t 7)=some v2→s1.eval (.t 8)=some (vI ((0:Nat):Int))→s1.defers=[]→
   Run E1 mB s1 fun ex s'=>ex=.exit 0∧s'.defers=[]∧∃v',s'.eval (.t 7)=some v'∧RowX s'.h 1 (w.l++insS e i).length 1 v' ((w.l++insS e i).flatMap strA):=
  fun s1 acc v2 z1 z2 z3 z4 z5 e3 e7 e8 d1=>by
   have:=rl e om e.pm.l 0 s1 acc v2 rfl (ir _) om z5 z4 z3 e3 e7 e8 d1
   rwa [z2] at this
 have hfin:∀(ex:AM.Ex) (s':St),(ex=.exit 0∧s'.defers=[]∧∃v',s'.eval (.t 7)=some v'∧RowX s'.h 1 (w.l++insS e i).length 1 v' ((w.l++insS e i).flatMap strA))→∃v',ex=.exit 0∧s'.defers=[]∧s'.eval (.t 7)=some v'∧RowX s'.h 0 (w.l++insS e i).length 1 v' ((w.l++insS e i).flatMap strA):=fun ex s' ⟨a1,a2,v',a3,a4⟩=>⟨v',a1,a2,a3,a4.low (ir _)⟩;cases q7:decide (e.op=7) with
 |false=>
  simp-implicitDefEqProofs only[V,↓reduceIte,rA,g0,q7];refine(fin _ w.l v1 om (by rw[insS,q7];rfl) ?_ ?_ ?_ ?_ ?_ ?_ ?_).mono ?_
  all_goals try simp-implicitDefEqProofs only[V,↓reduceIte,rA,hd]
  ·exact g0
  ·omega
  ·exact r1
  ·rfl
  intro ex s2 hx;obtain⟨v',rfl,d2,t7,r2⟩:=hfin ex s2 hx;simp-implicitDefEqProofs only[V,↓reduceIte,reduceCtorEq,WF,t7,d2];exact⟨v',rfl,r2⟩
 |true=>
  have q6:decide (e.op=6)=false:=by have:=of_decide_eq_true q7;exact decide_eq_false om
  cases qi:decide (0<i) with
  |false=>
   simp-implicitDefEqProofs only[V,↓reduceIte,rA,h1,g0,q7,zE,qi];refine(fin _ w.l v1 om (by rw[insS,q7,qi];rfl) ?_ ?_ ?_ ?_ ?_ ?_ ?_).mono ?_
   all_goals try simp-implicitDefEqProofs only[V,↓reduceIte,rA,hd]
   ·exact g0
   ·omega
   ·exact r1
   ·rfl
   intro ex s2 hx;obtain⟨v',rfl,d2,t7,r2⟩:=hfin ex s2 hx;simp-implicitDefEqProofs only[V,↓reduceIte,reduceCtorEq,WF,t7,d2];exact⟨v',rfl,r2⟩
  |true=>
   have c0:(0=h1'.next)=False:=by simp;omega
   simp-implicitDefEqProofs only[V,↓reduceIte,rA,WF,h1,g0,q7,zE,qi];refine qN (k:=w.l.length) (m:=1) (lo:=1) (v:=v1) (x:=.own h1'.next 0 1 1 (some 1)) (cs:=w.l.flatMap strA) (new:=[vS e.nm]) ?_ ?_ ?_ rfl ?_ (aS (bytes:=16) om de) ?_ ?_ ?_
   ·simp-implicitDefEqProofs only[V];exact r1.to (Nat.le_succ _) fun y _ y2=>aB y2
   ·exact U34
   ·refine aq (rw':=true) ?_ rfl;exact U36
   ·exact fun c hc=>by rw[ig.1 hc];exact Leaf.val _
   ·exact U36
   ·exact U36
   intro v2 h2' r2 m2 o2;simp-implicitDefEqProofs only[V] at m2 o2 r2;have hb:(w.l++[e.nm]).length=w.l.length+1:=by rw[io];rfl
   simp-implicitDefEqProofs only[V,↓reduceIte];refine(fin _ (w.l++[e.nm]) v2 om (by rw[insS,q7,qi,q6];simp) ?_ ?_ ?_ ?_ ?_ ?_ ?_).mono ?_
   all_goals try simp-implicitDefEqProofs only[V,↓reduceIte,rA,hd]
   ·rw[o2 0 om (fun q=>by have:=(r1.ids 0 q).1;omega),if_neg om,g0]
   ·omega
   ·rw[hb,A8];exact r2
   ·rfl
   intro ex s2 hx;obtain⟨v',rfl,d2,t7,r2⟩:=hfin ex s2 hx;simp-implicitDefEqProofs only[V,↓reduceIte,reduceCtorEq,WF,t7,d2];exact⟨v',rfl,r2⟩
def selN(c:Bool)(l:List Ex):List ByteArray:=nmE (l.filter fun x=> !c||isCall' x)
theorem gE(c:Bool)(a b:List Ex):selN c (a++b)=selN c a++selN c b:=by rw[selN,List.filter_append,nmE,List.map_append];rfl
theorem gD(c:Bool)(l:List Ex):(selN c l).length≤l.length:=by
 rw[selN,nmE,List.length_map];exact List.length_filter_le _ _
theorem tT(l:List Ex):selN false l=nmE l:=by
 rw[selN,List.filter_eq_self.2 (fun a _=>by simp)]
def FreP(e:Ex):Prop:=∀(c:Bool) (w:Vl ByteArray),w.l.length+e.sz<2^24→∀h,RunCall E1 (.f 53) [.agg e.cells,w.A strA,vB c] h (nmV (selN c (occ e w.l))) h
theorem uX{e k:Ex}{r':List Ex}{i:Nat}{c:Bool}{w:Vl ByteArray}{acc:List ByteArray}{v:AV}{s:St}(hd:e.ks.drop i=k::r')(hk:FreP k)(hN:w.l.length+e.sz<2^24)(hi:i<2^28)(hA:acc.length<2^27)(hr:RowC s.h 1 acc.length 1 v (acc.flatMap strA))(l1:1≤s.h.next)(g0:s.h.get 0=some (.cells e.cells true))(h1:s.eval (.t 1)=some (w.A strA))(h2:s.eval (.t 2)=some (vB c))(h3:s.eval (.t 3)=some (.ptr 0 0))(h7:s.eval (.t 7)=some v)(h8:s.eval (.t 8)=some (vI (i:Nat))):
  Run E1 zx s fun ex s'=>ex=.normal∧s'.defers=s.defers∧1≤s'.h.next∧s'.h.get 0=some (.cells e.cells true)∧s'.eval (.t 1)=some (w.A strA)∧s'.eval (.t 2)=some (vB c)∧s'.eval (.t 3)=some (.ptr 0 0)∧s'.eval (.t 8)=some (vI (i:Nat))∧∃v',s'.eval (.t 7)=some v'∧RowC s'.h 1 (acc++selN c (occ k (w.l++insS e i))).length 1 v' ((acc++selN c (occ k (w.l++insS e i))).flatMap strA):=by
 have hes:=e.sz_eq;have hkm:=kw hd;have hil:=rV e i;obtain⟨nl1,cap1,hc80⟩:=oX e i w om om;have hc53:=hk c ⟨w.l++insS e i,nl1,cap1⟩ (by show(w.l++insS e i).length+_<_;rw[io];omega)
 have hol:=bo k (w.l++insS e i);have hsl:=gD c (occ k (w.l++insS e i));have n0:niceT s.h (some (.ptr 0 0))=true:=bt om g0 (by rw[e.ids0];rfl)
 have n3:niceT s.h (some (.ptr 0 3))=true:=bt om g0 (by rw[e.ids0];rfl)
 have ie:ids (.agg e.cells)=[]:=by show idsL e.cells=[];exact e.ids0
 have ik:ids (.agg k.cells)=[]:=by show idsL k.cells=[];exact k.ids0
 have iks:ids e.kids=[]:=by obtain⟨nl,cap,q⟩:=e.kids_eq;rw[q];exact Vl.ids
 have vi:∀v,ids (AV.val v)=[]:=fun _=>rfl;refine bT (ops:=mE) (pre:=mE.take 12++[⟨⟨some 54,none,.append 1 16 (.t 42) (.t 53)⟩,[42,53],[]⟩]) (d:=⟨⟨some 7,none,.mv (.t 54)⟩,[54],[]⟩) rfl ?_
 refine cN (mE.take 12) [] _ rfl (fun x hx=>by cases hx) ?_
 simp-implicitDefEqProofs only[mE,jm,jv,wpDr,bZ,j4,j5,V,↓reduceIte,rA,h1,h2,h3,h7,h8,g0,n0,n3,hr.nice,e.kid hd,aM ie,ak ie,aM ik,ak ik,aM iks,aM Vl.ids,ak Vl.ids,aM (vi _),ak (vi _),an,ip];refine⟨_,hc80,?_⟩;simp-implicitDefEqProofs only[V,aM Vl.ids,ak Vl.ids];refine⟨_,hc53,?_⟩;intro _ done' hd' hq';refine xj (bytes:=16) (k:=acc.length) (m:=(selN c (occ k (w.l++insS e i))).length) (lo:=1) (v:=v) (x:=nmV (selN c (occ k (w.l++insS e i)))) (cs:=acc.flatMap strA) (new:=(selN c (occ k (w.l++insS e i))).flatMap strA) ?_ ?_ (fun h _=>bW aI) (cE _) (bR _) (aS om de) (fun y hy=>by rw[show ids (nmV _)=[] from Vl.ids] at hy;cases hy) ?_ ?_ fun rec v' h' r' n' o'=>bO ?_
 ·exact U76
 ·simp-implicitDefEqProofs only[V];exact l1
 ·exact U36
 ·exact U36
 simp-implicitDefEqProofs only[V] at n' o';simp-implicitDefEqProofs only[V,↓reduceIte,rA,h1,h2,h3,h8];refine⟨om,?_,v',rfl,?_⟩
 ·rw[o' 0 om (fun q=>by have:=(hr.ids 0 q).1;omega),g0]
 ·rw[io,A8];exact r'
theorem oH{e:Ex}(ih:∀k∈e.ks,FreP k){c:Bool}{w:Vl ByteArray}(hN:w.l.length+e.sz<2^24):∀(r:List Ex) (i:Nat) (s:St) (acc:List ByteArray) (v:AV),e.ks.drop i=r→i≤e.ks.length→acc.length+Ex.szL r<2^26→RowC s.h 1 acc.length 1 v (acc.flatMap strA)→1≤s.h.next→s.h.get 0=some (.cells e.cells true)→s.eval (.t 1)=some (w.A strA)→s.eval (.t 2)=some (vB c)→s.eval (.t 3)=some (.ptr 0 0)→s.eval (.t 7)=some v→s.eval (.t 8)=some (vI (i:Nat))→s.defers=[]→
  Run E1 mG s fun ex s'=>ex=.exit 0∧s'.defers=[]∧1≤s'.h.next∧s'.h.get 0=some (.cells e.cells true)∧s'.eval (.t 1)=some (w.A strA)∧s'.eval (.t 2)=some (vB c)∧s'.eval (.t 3)=some (.ptr 0 0)∧∃v',s'.eval (.t 7)=some v'∧RowC s'.h 1 (acc++selN c (occK (insS e) r i w.l)).length 1 v' ((acc++selN c (occK (insS e) r i w.l)).flatMap strA)
 | [],i,s,acc,v,hd,hi,hA,hr,l1,g0,h1,h2,h3,h7,h8,hf=>by
  have hl:=aK hd hi;subst hl;apply aC (rfl:mG=.loop mK);have e0:acc++selN c (occK (insS e) [] e.ks.length w.l)=acc:=by rw[occK];exact j6 _
  rw[e0];simp-implicitDefEqProofs only[mK,V,↓reduceIte,rA,h1,h2,h3,h7,h8,hf,g0,ba];exact⟨l1,v,rfl,hr⟩
 |k::r,i,s,acc,v,hd,hi,hA,hr,l1,g0,h1,h2,h3,h7,h8,hf=>by
  have hl:=aL hd;have hlt:=bY hl;have hes:=e.sz_eq;have hkl:=oa e.ks;have w1:IntKind.i64.wrap ((i:Int)+1)=((i+1:Nat):Int):=aE (n:=i+1) om;have hk:=ih k (A4 (by rw[hd];exact il))
  rw[Ex.szL] at hA;have hol:=bo k (w.l++insS e i);have hsl:=gD c (occ k (w.l++insS e i));apply aC (rfl:mG=.loop mK);have e0:acc++selN c (occK (insS e) (k::r) i w.l)=(acc++selN c (occ k (w.l++insS e i)))++selN c (occK (insS e) r (i+1) w.l):=by rw[occK,gE,jh]
  rw[e0];simp-implicitDefEqProofs only[mK,V,↓reduceIte,rA,h3,h8,g0,hlt];refine(uX (c:=c) (acc:=acc) (v:=v) hd hk hN om om ?_ ?_ ?_ ?_ ?_ ?_ ?_ ?_).mono ?_
  all_goals try simp-implicitDefEqProofs only[V,↓reduceIte,rA,h1,h2,h3,h7,h8]
  ·exact hr
  ·exact l1
  ·exact g0
  rintro ex s1 ⟨rfl,d1,m1,g1,u1,u2,u3,u8,v1,u7,r1⟩;simp-implicitDefEqProofs only[hf] at d1;simp-implicitDefEqProofs only[V,↓reduceIte,u8,w1];refine oH ih hN r (i+1) _ (acc++selN c (occ k (w.l++insS e i))) v1 (aH hd) om (by rw[io];omega) ?_ ?_ ?_ ?_ ?_ ?_ ?_ ?_ ?_
  all_goals try simp-implicitDefEqProofs only[V,↓reduceIte,rA,u1,u2,u3,u7,d1]
  ·exact r1
  ·exact m1
  ·exact g1
theorem uW{e:Ex}{a:Al}{r':List Al}{i:Nat}{w:Vl ByteArray}{s:St}(hd:e.al.drop i=a::r')(hN:w.l.length+a.ns.l.length<2^26)(l1:1≤s.h.next)(g0:s.h.get 0=some (.cells e.cells true))(h1:s.eval (.t 1)=some (w.A strA))(h3:s.eval (.t 3)=some (.ptr 0 0))(h9:s.eval (.t 9)=some (vI (i:Nat))):
  Run E1 zw s fun ex s'=>ex=.normal∧s'.defers=s.defers∧s.h.next≤s'.h.next∧(∀y,y<s.h.next→s'.h.get y=s.h.get y)∧(∀j,j<10→s'.eval (.t j)=s.eval (.t j))∧∃v',s'.eval (.t 10)=some v'∧RowX s'.h s.h.next (w.l++a.ns.l).length 1 v' ((w.l++a.ns.l).flatMap strA):=by
 have n0:∀h':AH,s.h.next≤h'.next→h'.get 0=some (.cells e.cells true)→∀o,niceT h' (some (.ptr 0 o))=true:=fun h' hn hg o=>bt om hg (by rw[e.ids0];rfl)
 have ia:ids e.alts=[]:=by obtain⟨nl,cap,q⟩:=e.alts_eq;rw[q];exact Vl.ids
 have vi:∀v,ids (AV.val v)=[]:=fun _=>rfl;refine bT (ops:=pc) (pre:=pc.take 10) (d:=⟨⟨some 10,none,.mv (.t 71)⟩,[71],[]⟩) rfl ?_
 simp-implicitDefEqProofs only[pc,jm,jv];refine et (cs:=[]) (fun j hj=>by cases hj) rfl Hd (by simp) rfl rfl ?_
 refine bH (v:=w.A strA) de rfl ?_ (iJ U38) (by simp) ?_
 ·simp-implicitDefEqProofs only[V,↓reduceIte,rA,h1,j4,j5];simp only[aM Vl.ids]
 have r0:RowX (s.h.alloc (.cells [] true)) s.h.next 0 1 (.own s.h.next 0 0 1 (some 0)) []:=vh (i7 _);refine oT (bytes:=16) (k:=0) (m:=w.l.length) (lo:=s.h.next) (v:=.own s.h.next 0 0 1 (some 0)) (x:=w.A strA) (cs:=[]) (new:=w.l.flatMap strA) ?_ ?_ (fun h _=>bW aI) (cE _) (bR _) (aS om de) (fun y hy=>by rw[Vl.ids] at hy;cases hy) ?_ ?_ (by simp) (by simp) (fun j hj=>by
   simp only[i8,jb,or_false] at hj;rcases hj with rfl|rfl
   ·exact .inl rfl
   ·exact .inr (.inl rfl)) rfl rfl fun rec2 v2 h2' r2 n2 o2 t2 m2=>?_
 ·simp-implicitDefEqProofs only[V];exact r0
 ·exact U75
 ·exact U36
 ·exact U36
 simp-implicitDefEqProofs only[V] at n2 o2;rw[iz] at r2
 try rw[Nat.zero_add] at r2
 have n2:s.h.next+1≤h2'.next:=n2;have o2':∀y,y<s.h.next→h2'.get y=s.h.get y:=fun y hy=>by rw[o2 y om (by simp[ids];omega),if_neg om]
 have g2:h2'.get 0=some (.cells e.cells true):=by rw[o2' 0 om,g0]
 have mild2:MildR [0] rec2:=m2 [0] fun r hr=>by
  rw[ig.1 hr];refine⟨by show 0<s.h.next+1;omega,by simp[ids];omega⟩
 show DrawTo E1 ([⟨⟨some 65,none,.fieldAddr 5 (.t 3)⟩,[3],[0,1,2]⟩,⟨⟨some 66,none,.load none (.t 65)⟩,[65],[0,1,2]⟩,⟨⟨some 67,none,.mv (.t 9)⟩,[9],[0,1,2,3,4]⟩,⟨⟨some 68,none,.idxAddrS 9 (.t 66) (.t 67)⟩,[66,67],[0,1,2]⟩,⟨⟨some 69,none,.fieldAddr 1 (.t 68)⟩,[68],[0,1,2]⟩,⟨⟨some 70,none,.load none (.t 69)⟩,[69],[0,1,2]⟩]++[⟨⟨some 71,none,.append 1 16 (.t 64) (.t 70)⟩,[64,70],[]⟩]) _ _ _;refine yt (R:=[0]) _ _ _ rfl (fun x hx=>?_) (fun r hr=>?_) ?_
 ·simp only[iz,List.cons_append,i8,jb,or_false] at hx;rcases hx with rfl|rfl|rfl
  ·intro r hr;rw[ig.1 hr];exact⟨fun h=>(by cases h),fun h=>by have h1:s.h.next≤0:=h.1;omega⟩
  ·intro r hr;rw[ig.1 hr];refine⟨fun h=>(by cases h),fun h=>?_⟩
   have h1:s.h.next+1≤0:=h.1;omega
  ·exact mild2
 ·rw[ig.1 hr];show 0<h2'.next;omega
 have q3:=n0 h2' om g2;have on:∀o,onlyT [0] (some (.ptr 0 o))=true:=fun o=>Qo rfl;have oip:∀l,onlyT [0] (some (AV.iptr l))=true:=fun l=>rfl;simp-implicitDefEqProofs only[wpDm,bZ,j4,j5,footed,V,↓reduceIte,rA,h3,h9,g2,q3,on,oip,e.alt hd,aM ia,aM (vi _),Qn (vi _),an,ip];intro _ done' hd' hq';refine oT (bytes:=16) (k:=w.l.length) (m:=a.ns.l.length) (lo:=s.h.next) (v:=v2) (x:=a.ns.A strA) (cs:=w.l.flatMap strA) (new:=a.ns.l.flatMap strA) ?_ ?_ (fun h _=>bW aI) (cE _) (bR _) (aS om de) (fun y hy=>by rw[Vl.ids] at hy;cases hy) ?_ ?_ (by simp) (by simp) (fun j hj=>by
   simp only[i8,jb,or_false] at hj;rcases hj with rfl|rfl
   ·exact .inl rfl
   ·exact .inr (.inl rfl)) rfl rfl fun rec3 v3 h3' r3 n3 o3 t3 m3=>bO ?_
 ·exact U42
 ·exact U34
 ·exact U36
 ·exact U36
 simp-implicitDefEqProofs only[V] at n3 o3;simp-implicitDefEqProofs only[V,↓reduceIte];refine⟨om,fun y hy=>?_,fun j hj=>?_,v3,rfl,?_⟩
 ·rw[o3 y om (fun q=>by have:=(r2.ids y q).1;omega),o2' y hy]
 ·have q:∀n,10≤n→(j=n)=False:=fun n hn=>by simp;omega
  simp-implicitDefEqProofs only[↓reduceIte,q 10 om,q 62 om,q 63 om,q 64 om,q 65 om,q 66 om,q 67 om,q 68 om,q 69 om,q 70 om,q 71 om]
 ·rw[io,A8];exact r3
theorem oG{e:Ex}(ih:∀a∈e.al,FreP a.b){c:Bool}{w:Vl ByteArray}(hN:w.l.length+e.sz<2^24):∀(r:List Al) (i:Nat) (s:St) (acc:List ByteArray) (v:AV),e.al.drop i=r→i≤e.al.length→acc.length+Ex.szA r<2^26→RowC s.h 1 acc.length 1 v (acc.flatMap strA)→1≤s.h.next→s.h.get 0=some (.cells e.cells true)→s.eval (.t 1)=some (w.A strA)→s.eval (.t 2)=some (vB c)→s.eval (.t 3)=some (.ptr 0 0)→s.eval (.t 7)=some v→s.eval (.t 9)=some (vI (i:Nat))→s.defers=[]→
  Run E1 mF s fun ex s'=>ex=.exit 2∧s'.defers=[]∧∃v',s'.eval (.t 7)=some v'∧RowC s'.h 1 (acc++selN c (occA r w.l)).length 1 v' ((acc++selN c (occA r w.l)).flatMap strA)
 | [],i,s,acc,v,hd,hi,hA,hr,l1,g0,h1,h2,h3,h7,h9,hf=>by
  have hl:=aK hd hi;subst hl;apply aC (rfl:mF=.loop mJ);have e0:acc++selN c (occA [] w.l)=acc:=by rw[occA];exact j6 _
  rw[e0];simp-implicitDefEqProofs only[mJ,V,↓reduceIte,rA,h3,h7,h9,hf,g0,ba];exact⟨v,rfl,hr⟩
 |a::r,i,s,acc,v,hd,hi,hA,hr,l1,g0,h1,h2,h3,h7,h9,hf=>by
  have hl:=aL hd;have hlt:=bY hl;have hes:=e.sz_eq;have hkl:=ob e.al;have hsd:=ky hd;have w1:IntKind.i64.wrap ((i:Int)+1)=((i+1:Nat):Int):=aE (n:=i+1) om;have hk:=ih a (A4 (by rw[hd];exact il))
  rw[dc] at hA;have hol:=bo a.b (w.l++a.ns.l);have hsl:=gD c (occ a.b (w.l++a.ns.l));apply aC (rfl:mF=.loop mJ);have e0:acc++selN c (occA (a::r) w.l)=(acc++selN c (occ a.b (w.l++a.ns.l)))++selN c (occA r w.l):=by rw[nY,gE,jh]
  rw[e0];simp-implicitDefEqProofs only[mJ,V,↓reduceIte,rA,h3,h9,g0,hlt];refine(uW (w:=w) hd om ?_ ?_ ?_ ?_ ?_).mono ?_
  all_goals try simp-implicitDefEqProofs only[V,↓reduceIte,rA,h1,h3,h9]
  ·exact l1
  ·exact g0
  rintro ex s1 ⟨rfl,d1,m1,o1,k1,v1,u10,r1⟩;simp-implicitDefEqProofs only[hf] at d1 m1 o1 r1;have u1:s1.eval (.t 1)=some (w.A strA):=by rw[k1 1 de];simp-implicitDefEqProofs only[↓reduceIte,rA,h1]
  have u2:s1.eval (.t 2)=some (vB c):=by rw[k1 2 de];simp-implicitDefEqProofs only[↓reduceIte,rA,h2]
  have u3:s1.eval (.t 3)=some (.ptr 0 0):=by rw[k1 3 de];simp-implicitDefEqProofs only[↓reduceIte,rA,h3]
  have u7:s1.eval (.t 7)=some v:=by rw[k1 7 de];simp-implicitDefEqProofs only[↓reduceIte,rA,h7]
  have u9:s1.eval (.t 9)=some (vI (i:Nat)):=by rw[k1 9 de];simp-implicitDefEqProofs only[↓reduceIte,rA,h9]
  have g1:s1.h.get 0=some (.cells e.cells true):=by rw[o1 0 om,g0]
  have hr1:RowC s1.h 1 acc.length 1 v (acc.flatMap strA):=hr.to m1 fun y _ y2=>o1 y y2;obtain⟨hz,f1,f2,f3,f4⟩:=bN r1;obtain⟨nl1,cap1,e1⟩:=d9 r1;have hc53:=hk c ⟨w.l++a.ns.l,nl1,cap1⟩ (by show(w.l++a.ns.l).length+_<_;rw[io];omega)
  rw[e1] at f4;obtain⟨h2',hcall,h2or⟩:=Dy (E:=E1) (g:=53) (xs:=[.agg a.b.cells]) (ys:=[vB c]) (a:=v1) (a':=Vl.A strA ⟨w.l++a.ns.l,nl1,cap1⟩) (h:=s1.h) kr (iM (Tree.ex a.b)) (iM (Tree.val _)) Vl.leaf.tree f1 f4 hc53;have n2:h2'.next=s1.h.next:=by rcases h2or with rfl|rfl<;>first|rfl|exact f2
  have o2:∀y,y<s.h.next→h2'.get y=s1.h.get y:=fun y hy=>by
   rcases h2or with rfl|rfl
   ·rfl
   ·exact f3 y fun q=>by have:=(r1.ids y q).1;omega
  have hcall:RunCall E1 (.f 53) [.agg a.b.cells,v1,vB c] s1.h (nmV (selN c (occ a.b (w.l++a.ns.l)))) h2':=hcall;simp-implicitDefEqProofs only[V,↓reduceIte,rA,u2,u3,u7,u9,u10,g1,e.alt hd];refine aW (by simp-implicitDefEqProofs only[V];exact hcall) ?_
  have hr2:RowC h2' 1 acc.length 1 v (acc.flatMap strA):=hr1.toB om fun y hy=>o2 y (hr.ids y hy).2.1;refine cO (k:=acc.length) (m:=(selN c (occ a.b (w.l++a.ns.l))).length) (lo:=1) (v:=v) (x:=nmV (selN c (occ a.b (w.l++a.ns.l)))) (cs:=acc.flatMap strA) (new:=(selN c (occ a.b (w.l++a.ns.l))).flatMap strA) ?_ ?_ (bW aI) (cE _) (bR _) (aS (bytes:=16) om de) ?_ ?_ ?_
  ·simp-implicitDefEqProofs only[V];exact hr2
  ·exact U34
  ·exact U36
  ·exact U36
  intro v3 h3' r3 n3 o3;simp-implicitDefEqProofs only[V] at n3 o3 r3;simp-implicitDefEqProofs only[V,↓reduceIte,rA,u9,w1];refine oG ih hN r (i+1) _ (acc++selN c (occ a.b (w.l++a.ns.l))) v3 (aH hd) om (by rw[io];omega) ?_ ?_ ?_ ?_ ?_ ?_ ?_ ?_ ?_
  all_goals try simp-implicitDefEqProofs only[V,↓reduceIte,rA,u1,u2,u3,d1]
  ·rw[io,A8];exact r3
  ·omega
  ·rw[o3 0 om (fun q=>by have:=(hr2.ids 0 q).1;omega),o2 0 om,g1]
def mH:ACode:=(.region [⟨some 11,none,.fieldAddr 0 (.t 3)⟩,⟨some 12,none,.load none (.t 11)⟩,⟨some 13,none,.bin .eql 40 true (.t 12) (.c (vI 5))⟩,⟨some 14,none,.mv (.t 13)⟩,⟨some 15,some (14,false),.fieldAddr 0 (.t 3)⟩,⟨some 16,some (14,false),.load none (.t 15)⟩,⟨some 17,some (14,false),.bin .eql 40 true (.t 16) (.c (vI 3))⟩,⟨some 18,some (14,false),.mv (.t 17)⟩,⟨some 19,some (18,true),.mv (.t 2)⟩,⟨some 20,some (18,true),.un .not (.t 19)⟩,⟨some 21,some (14,false),.pick (.t 18) (.t 20) (.c (vB false))⟩,⟨some 22,none,.pick (.t 14) (.c (vB true)) (.t 21)⟩,⟨some 23,none,.mv (.t 22)⟩,⟨some 24,some (23,true),.mv (.t 1)⟩,⟨some 25,some (23,true),.fieldAddr 1 (.t 3)⟩,⟨some 26,some (23,true),.load none (.t 25)⟩,⟨some 27,some (23,true),.call 50 [.t 24,.t 26]⟩,⟨some 28,some (23,true),.un .not (.t 27)⟩,⟨some 29,none,.pick (.t 23) (.t 28) (.c (vB false))⟩])
def mI:ACode:=(.cond (.t 29) (.region [⟨some 30,none,.mv (.t 7)⟩,⟨some 31,none,.fieldAddr 1 (.t 3)⟩,⟨some 32,none,.load none (.t 31)⟩,⟨some 33,none,.buildSlice 1 1 [vS ⟨#[]⟩] [(0,1,(.t 32))]⟩,⟨some 34,none,.append 1 16 (.t 30) (.t 33)⟩,⟨some 7,none,.mv (.t 34)⟩]) .skip)
def zu:ACode:=(.seq (.seq (.region [⟨some 8,none,.mv (.c (vI 0))⟩])
 (.block 0 mG))
 (.seq (.seq (.region [⟨some 9,none,.mv (.c (vI 0))⟩])
 (.block 2 mF))
 (.seq (.region [⟨some 83,none,.mv (.t 7)⟩,⟨some 6,none,.mv (.t 83)⟩])
 .ret)))
theorem Mf:f53=.seq (.region [⟨some 3,none,.box (.t 0)⟩,⟨some 6,none,.mv (.c (.val (.slice none 0 0)))⟩]) (.seq (.region [⟨some 7,none,.mv (.c (.val (.slice none 0 0)))⟩]) (.seq (.seq mH mI) zu)):=rfl
theorem dB{e:Ex}(ihk:∀k∈e.ks,FreP k)(iha:∀a∈e.al,FreP a.b){c:Bool}{w:Vl ByteArray}(hN:w.l.length+e.sz<2^24){s:St}{acc:List ByteArray}{v:AV}(hacc:acc.length≤1)(hr:RowC s.h 1 acc.length 1 v (acc.flatMap strA))(l1:1≤s.h.next)(g0:s.h.get 0=some (.cells e.cells true))(h1:s.eval (.t 1)=some (w.A strA))(h2:s.eval (.t 2)=some (vB c))(h3:s.eval (.t 3)=some (.ptr 0 0))(h7:s.eval (.t 7)=some v)(hf:s.defers=[]){Q:AM.Ex→St→Prop}(kq:∀ex s' v',(ex=.normal∨ex=.ret)→s'.defers=[]→s'.eval (.t 6)=some v'→RowC s'.h 1 (acc++selN c (occK (insS e) e.ks 0 w.l++occA e.al w.l)).length 1 v' ((acc++selN c (occK (insS e) e.ks 0 w.l++occA e.al w.l)).flatMap strA)→Q ex s'):
  wp E1 zu s Q:=by
 have hes:=e.sz_eq;have hol:=gK (insS e) e.ks 0 w.l;have hsl:=gD c (occK (insS e) e.ks 0 w.l);simp-implicitDefEqProofs only[zu,V];refine(oH ihk hN (c:=c) e.ks 0 _ acc v rfl (ir _) om ?_ ?_ ?_ ?_ ?_ ?_ ?_ ?_ ?_).mono ?_
 all_goals try simp-implicitDefEqProofs only[V,↓reduceIte,rA,h1,h2,h3,h7,hf]
 ·exact hr
 ·exact l1
 ·exact g0
 ·rfl
 rintro ex s1 ⟨rfl,d1,m1,g1,u1,u2,u3,v1,u7,r1⟩;simp-implicitDefEqProofs only[V,WF];refine(oG iha hN (c:=c) e.al 0 _ (acc++selN c (occK (insS e) e.ks 0 w.l)) v1 rfl (ir _) (by rw[io];omega) ?_ ?_ ?_ ?_ ?_ ?_ ?_ ?_ ?_).mono ?_
 all_goals try simp-implicitDefEqProofs only[V,↓reduceIte,rA,u1,u2,u3,u7,d1]
 ·exact r1
 ·exact m1
 ·exact g1
 ·rfl
 rintro ex s2 ⟨rfl,d2,v2,u7',r2⟩;simp-implicitDefEqProofs only[V,↓reduceIte,WF,u7'];refine kq _ _ v2 (.inr rfl) ?_ ?_ ?_
 ·simp-implicitDefEqProofs only[V,d2]
 ·exact U36
 rw[gE,←jh];exact r2
theorem zO(e:Ex)(ihk:∀k∈e.ks,FreP k)(iha:∀a∈e.al,FreP a.b):FreP e:=by
 intro c w hN;have hes:=e.sz_eq;refine jX kr Me (fun v hv=>?_) (fun s hs hh hd hrd=>?_)
 ·simp only[i8,jb,or_false] at hv;rcases hv with rfl|rfl|rfl
  ·exact Tree.ex e
  ·exact Tree.vl
  ·exact Tree.val _
 have h0:=hs 0 _ rfl;have h1:=hs 1 _ rfl;have h2:=hs 2 _ rfl;have hc50:=uD w e.nm om;have e0:selN c (occ e w.l)=selN c (e.own w.l)++selN c (occK (insS e) e.ks 0 w.l++occA e.al w.l):=by rw[lg,gE]
 rw[e0];show wp E1 f53 s _;rw[Mf];cases q5:decide (e.op=5) with
 |true=>
  cases qm:memS e.nm w.l with
  |true=>
   have hq:selN c (e.own w.l)=[]:=by rw[Ex.own,q5,qm,Bool.or_true];rfl
   rw[hq,iz];simp-implicitDefEqProofs only[mH,mI,V,↓reduceIte,rA,h0,h1,hh,q5,aG hc50,qm];refine dB ihk iha hN (c:=c) (acc:=[]) (v:=.val (.slice none 0 0)) (ir _) RowC.nil ?_ ?_ ?_ ?_ ?_ ?_ ?_ ?_
   all_goals try simp-implicitDefEqProofs only[V,↓reduceIte,rA,h1,h2,hd]
   ·exact i7 _
   ·exact U77
  |false=>
   have hq:selN c (e.own w.l)=[e.nm]:=by
    rw[Ex.own,q5,qm,Bool.or_true];show selN c [e]=_;have:isCall' e=true:=q5;rw[selN,Ay,this,Bool.or_true];rfl
   rw[hq];simp-implicitDefEqProofs only[mH,mI,V,↓reduceIte,rA,WF,h0,h1,hh,q5,aG hc50,qm];refine cO (k:=0) (m:=1) (lo:=1) (v:=.val (.slice none 0 0)) (x:=.own 1 0 1 1 (some 1)) (cs:=[]) (new:=[vS e.nm]) ?_ ?_ ?_ rfl ?_ (aS (bytes:=16) de de) ?_ ?_ ?_
   ·exact RowC.nil
   ·exact U75
   ·refine aq (rw':=true) ?_ rfl;exact U36
   ·exact fun c hc=>by rw[ig.1 hc];exact Leaf.val _
   ·exact U36
   ·exact U36
   intro v1 h1' r1 m1 o1;simp-implicitDefEqProofs only[V,rB] at m1 o1 r1;have m1:2≤h1'.next:=m1;simp-implicitDefEqProofs only[V,↓reduceIte];refine dB ihk iha hN (c:=c) (acc:=[e.nm]) (v:=v1) (i7 _) ?_ ?_ ?_ ?_ ?_ ?_ ?_ ?_ ?_
   all_goals try simp-implicitDefEqProofs only[V,↓reduceIte,rA,h1,h2,hd]
   ·exact r1
   ·omega
   ·rw[o1 0 (by show 0<2;omega) (by simp[ids]),if_neg (by show¬(0=1);omega)]
    rfl
   ·exact U78
 |false=>
  cases q3:decide (e.op=3) with
  |false=>
   have hq:selN c (e.own w.l)=[]:=by rw[Ex.own,q5,q3];rfl
   rw[hq,iz];simp-implicitDefEqProofs only[mH,mI,V,↓reduceIte,rA,h0,hh,q5,q3];refine dB ihk iha hN (c:=c) (acc:=[]) (v:=.val (.slice none 0 0)) (ir _) RowC.nil ?_ ?_ ?_ ?_ ?_ ?_ ?_ ?_
   all_goals try simp-implicitDefEqProofs only[V,↓reduceIte,rA,h1,h2,hd]
   ·exact i7 _
   ·exact U77
  |true=>
   cases c with
   |true=>
    have hq:selN true (e.own w.l)=[]:=by
     rw[Ex.own,q5,q3,Bool.true_or,Bool.true_and];cases memS e.nm w.l with
     |true=>rfl
     |false=>
      show selN true [e]=_;have:isCall' e=false:=q5;rw[selN,Ay,this];rfl
    rw[hq,iz];simp-implicitDefEqProofs only[mH,mI,V,↓reduceIte,rA,h0,h2,hh,q5,q3];refine dB ihk iha hN (c:=true) (acc:=[]) (v:=.val (.slice none 0 0)) (ir _) RowC.nil ?_ ?_ ?_ ?_ ?_ ?_ ?_ ?_
    all_goals try simp-implicitDefEqProofs only[V,↓reduceIte,rA,h1,h2,hd]
    ·exact i7 _
    ·exact U77
   |false=>
    cases qm:memS e.nm w.l with
    |true=>
     have hq:selN false (e.own w.l)=[]:=by rw[Ex.own,q5,q3,qm];rfl
     rw[hq,iz];simp-implicitDefEqProofs only[mH,mI,V,↓reduceIte,rA,h0,h1,h2,hh,q5,q3,aG hc50,qm];refine dB ihk iha hN (c:=false) (acc:=[]) (v:=.val (.slice none 0 0)) (ir _) RowC.nil ?_ ?_ ?_ ?_ ?_ ?_ ?_ ?_
     all_goals try simp-implicitDefEqProofs only[V,↓reduceIte,rA,h1,h2,hd]
     ·exact i7 _
     ·exact U77
    |false=>
     have hq:selN false (e.own w.l)=[e.nm]:=by rw[Ex.own,q5,q3,qm];rfl
     rw[hq];simp-implicitDefEqProofs only[mH,mI,V,↓reduceIte,rA,WF,h0,h1,h2,hh,q5,q3,aG hc50,qm];refine cO (k:=0) (m:=1) (lo:=1) (v:=.val (.slice none 0 0)) (x:=.own 1 0 1 1 (some 1)) (cs:=[]) (new:=[vS e.nm]) ?_ ?_ ?_ rfl ?_ (aS (bytes:=16) de de) ?_ ?_ ?_
     ·exact RowC.nil
     ·exact U75
     ·refine aq (rw':=true) ?_ rfl;exact U36
     ·exact fun c hc=>by rw[ig.1 hc];exact Leaf.val _
     ·exact U36
     ·exact U36
     intro v1 h1' r1 m1 o1;simp-implicitDefEqProofs only[V,rB] at m1 o1 r1;have m1:2≤h1'.next:=m1;simp-implicitDefEqProofs only[V,↓reduceIte];refine dB ihk iha hN (c:=false) (acc:=[e.nm]) (v:=v1) (i7 _) ?_ ?_ ?_ ?_ ?_ ?_ ?_ ?_ ?_
     all_goals try simp-implicitDefEqProofs only[V,↓reduceIte,rA,h1,h2,hd]
     ·exact r1
     ·omega
     ·rw[o1 0 (by show 0<2;omega) (by simp[ids]),if_neg (by show¬(0=1);omega)]
      rfl
     ·exact U78
mutual
theorem pT:∀e:Ex,FreP e
 |.mk o s n ks nl cap pm al anl acap ty=>zO (.mk o s n ks nl cap pm al anl acap ty) (rg ks) (rh al)
theorem rg:∀l:List Ex,∀k∈l,FreP k
 | [],k,h=>(by cases h)
 |a::r,k,h=>(i8.1 h).elim (fun e=>e▸pT a) (rg r k)
theorem rh:∀l:List Al,∀k∈l,FreP k.b
 | [],k,h=>(by cases h)
 |.mk c ns e0::r,k,h=>(i8.1 h).elim (fun e=>by rw[e];exact pT e0) (rh r k)
end
mutual
def Pr.wt:Pr→Nat
 |.mk _ s _ ks _ _=>1+s.size+Pr.wtL ks
def Pr.wtL:List Pr→Nat
 | []=>0
 |k::r=>k.wt+Pr.wtL r
end
def namW:List ByteArray→Nat
 | []=>0
 |x::r=>1+x.size+namW r
mutual
def Ty.wt:Ty→Nat
 |.mk _ s ls _ _ ns p ps=>1+s.size+Ty.wtL ls+namW ns.l+p.wt+Pr.wtL ps.l
def Ty.wtL:List Ty→Nat
 | []=>0
 |k::r=>k.wt+Ty.wtL r
end
def pmW:List Pm→Nat
 | []=>0
 |p::r=>1+p.nm.size+p.t.wt+pmW r
mutual
def Ex.wt:Ex→Nat
 |.mk _ s _ ks _ _ pm al _ _ ty=>1+s.size+Ex.wtL ks+pmW pm.l+Al.wtL al+Ty.wtL ty.l
def Ex.wtL:List Ex→Nat
 | []=>0
 |k::r=>k.wt+Ex.wtL r
def Al.wtL:List Al→Nat
 | []=>0
 |.mk c ns b::r=>1+c.size+namW ns.l+b.wt+Al.wtL r
end
theorem Pr.wt_eq(p:Pr):p.wt=1+p.nm.size+Pr.wtL p.ks:=by cases p;rfl
theorem Ty.wt_eq(t:Ty):t.wt=1+t.nm.size+Ty.wtL t.as+namW t.ns.l+t.p.wt+Pr.wtL t.ps.l:=by cases t;rw[Ty.wt];rfl
theorem Ex.wt_eq(e:Ex):e.wt=1+e.nm.size+Ex.wtL e.ks+pmW e.pm.l+Al.wtL e.al+Ty.wtL e.ty.l:=by cases e;rw[Ex.wt];rfl
theorem Al.wtL_cons(a:Al)(r:List Al):Al.wtL (a::r)=1+a.con.size+namW a.ns.l+a.b.wt+Al.wtL r:=by cases a;rw[Al.wtL];rfl
theorem Pr.wtL_len:∀l:List Pr,l.length≤Pr.wtL l
 | []=>i7 _
 |k::r=>by
  have h1:=Pr.wtL_len r;have h2:=k.wt_eq;simp only[im,Pr.wtL];omega
theorem Ty.wtL_len:∀l:List Ty,l.length≤Ty.wtL l
 | []=>ir _
 |k::r=>by
  have h1:=Ty.wtL_len r;have h2:=k.wt_eq;rw[im,Ty.wtL];omega
theorem gL:∀l:List ByteArray,l.length≤namW l
 | []=>i7 _
 |k::r=>by
  have h1:=gL r;simp only[im,namW];omega
theorem vX:∀l:List Pm,l.length≤pmW l
 | []=>i7 _
 |k::r=>by
  have h1:=vX r;simp only[im,pmW];omega
theorem Ex.wtL_len:∀l:List Ex,l.length≤Ex.wtL l
 | []=>ir _
 |k::r=>by
  have h1:=Ex.wtL_len r;have h2:=k.wt_eq;rw[im,Ex.wtL];omega
theorem Al.wtL_len:∀l:List Al,l.length≤Al.wtL l
 | []=>ir _
 |k::r=>by
  have h1:=Al.wtL_len r;rw[im,Al.wtL_cons];omega
theorem dW{b:ByteArray}:lenStrV (vS b)=some (vI (b.size:Nat)):=rfl
theorem fC{P:Program}{t:TypeId}{g:Bool}{n:Nat}(hn:n≤2^30):binA P .quo t g (vI (n:Int)) (vI 50)=some (vI ((n/50:Nat):Int)):=by
 have h1:(n:Int).tdiv 50=((n/50:Nat):Int):=rfl;have h2:IntKind.i64.wrap ((n/50:Nat):Int)=((n/50:Nat):Int):=aE (n:=n/50) om;have h3:binInt .quo .i64 (n:Int) 50=some (.int .i64 ((n/50:Nat):Int)):=by
  show(bif (50:Int)==0 then none else some (Value.int .i64 (IntKind.i64.wrap ((n:Int).tdiv 50))))=_;rw[h1,h2];rfl
 simp only[binA,h3];rfl
def Pr.vl:Pr→Vl Pr|.mk _ _ _ ks nl cap=>⟨ks,nl,cap⟩
theorem Pr.vl_l(p:Pr):p.vl.l=p.ks:=by cases p;rfl
theorem Pr.vl_A(p:Pr):p.vl.A Pr.cells=p.kids:=by
 cases p;simp only[Pr.vl,Vl.A,Pr.kids,Pr.cellsL_eq]
def Ty.vl:Ty→Vl Ty|.mk _ _ ks nl cap _ _ _=>⟨ks,nl,cap⟩
theorem Ty.vl_l(p:Ty):p.vl.l=p.as:=by cases p;rfl
theorem Ty.vl_A(p:Ty):p.vl.A Ty.cells=p.args:=by
 cases p;simp only[Ty.vl,Vl.A,Ty.args,Ty.cellsL_eq]
theorem Ib{g:Nat}{l:List AV}{a:AFun}{P:Nat→Prop}(hs:freshF g=true)(hf:funOf Tryz.prog g=some a)(hl:∀v∈l,Tree v)
  (H:∀s:St,(∀i v,(enterTm l 0 .nil).get i=some v→s.eval (.t i)=some v)→s.h=.empty→s.defers=[]→wp E1 a.body s fun e s=>(e=.normal∨e=.ret)∧s.defers=[]∧∃r:Nat,P r∧resultsA E1.globs s a.res=some [vI (r:Nat)]):
  ∃r:Nat,P r∧∀h,RunCall E1 (.f g) l h (vI (r:Nat)) h:=by
 obtain⟨v,h',⟨r,hr,rfl⟩,hrun⟩:=dT (g:=g) (l:=l) (h:=.empty) (a:=a) (fun v _=>∃r:Nat,P r∧v=vI (r:Nat)) hf fun s h1 h2 h3 h4=>(ag _ _ _ (H s h1 h2 h3)).mono fun e s' ⟨k1,k2,r,k3,k4⟩=>⟨k1,k2,[vI (r:Nat)],k4,r,k3,rfl⟩;exact⟨r,hr,fun h=>hZ (bI hs) (bX hs _) hl hrun (Rep.leaf (lo:=0) (hi:=0) (n:=0) (Leaf.val _)) de h⟩
def PredsOk(w:Vl Pr):Prop:=Pr.wtL w.l≤2^24→∀m:Int,-2^40≤m→m≤2^40→∃r:Nat,r≤Pr.wtL w.l∧∀h,RunCall E1 (.f 54) [w.A Pr.cells,vI m] h (vI (r:Nat)) h
theorem sL(w:Vl Pr)(hw:Pr.wtL w.l≤2^24)(m:Int)(m1: -2^40≤m)(m2:m≤2^40):∀(r:List Pr) (i acc:Nat) (s:St),w.l.drop i=r→i≤w.l.length→acc+Pr.wtL r≤2^24→(∀k∈r,PredsOk k.vl)→
  s.eval (.t 0)=some (w.A Pr.cells)→s.eval (.t 1)=some (vI m)→s.eval (.t 5)=some (vI (acc:Nat))→s.eval (.t 6)=some (vI (i:Nat))→s.defers=[]→
  Run E1 pb s fun e s'=>e=.exit 0∧s'.defers=[]∧∃b:Nat,s'.eval (.t 5)=some (vI (b:Nat))∧b≤acc+Pr.wtL r
 | [],i,acc,s,hd,hi,ha,hk,h0,h1,h5,h6,hf=>by
  have hl:=aK hd hi;subst hl;apply aC (rfl:pb=.loop iW);simp-implicitDefEqProofs only[iW,V,↓reduceIte,rA,reduceCtorEq,h0,h5,h6,hf,ba];exact⟨acc,rfl,by simp only[Pr.wtL];omega⟩
 |k::r,i,acc,s,hd,hi,ha,hk,h0,h1,h5,h6,hf=>by
  have hl:=aL hd;have hlt:=bY hl;have hlw:=Pr.wtL_len w.l;have w1:IntKind.i64.wrap ((i:Int)+1)=((i+1:Nat):Int):=aE (n:=i+1) om;have hwk:=k.wt_eq;have ha':acc+(k.wt+Pr.wtL r)≤2^24:=ha;apply aC (rfl:pb=.loop iW);cases hc:decide ((acc:Int)≤m) with
  |false=>
   simp-implicitDefEqProofs only[iW,V,↓reduceIte,rA,reduceCtorEq,h0,h1,h5,h6,hf,hlt,hc];exact⟨acc,rfl,om⟩
  |true=>
   have hc':=of_decide_eq_true hc;have w2:IntKind.i64.wrap ((acc:Int)+1)=((acc+1:Nat):Int):=aE (n:=acc+1) om;have w3:IntKind.i64.wrap (((acc+1:Nat):Int)+((k.nm.size/50:Nat):Int))=((acc+1+k.nm.size/50:Nat):Int):=aE (n:=acc+1+k.nm.size/50) om;have w4:IntKind.i64.wrap (m-((acc+1+k.nm.size/50:Nat):Int))=m-((acc+1+k.nm.size/50:Nat):Int):=IntWalk.i64_in _ om;obtain⟨q,q1,q3⟩:=hk k il (by rw[k.vl_l];omega) (m-((acc+1+k.nm.size/50:Nat):Int)) om om
   rw[k.vl_l] at q1;rw[k.vl_A] at q3;have w5:IntKind.i64.wrap (((acc+1+k.nm.size/50:Nat):Int)+(q:Int))=((acc+1+k.nm.size/50+q:Nat):Int):=aE (n:=acc+1+k.nm.size/50+q) om;simp-implicitDefEqProofs only[iW,V,↓reduceIte,rA,reduceCtorEq,h0,h1,h5,h6,hlt,hc,w.at Pr.len hd,fC (n:=k.nm.size) om,dW,w1,w2,w3,w4,w5,aG q3];refine(sL w hw m m1 m2 r (i+1) (acc+1+k.nm.size/50+q) _ (aH hd) om om (fun k' hk'=>hk k' (j0 _ hk')) ?_ ?_ ?_ ?_ ?_).mono ?_
   all_goals try simp-implicitDefEqProofs only[V,↓reduceIte,rA,reduceCtorEq,h0,h1,hf]
   rintro e s1 ⟨e1,d1,b,b1,b3⟩;exact⟨e1,d1,b,b1,by simp only[Pr.wtL];omega⟩
theorem lZ(w:Vl Pr)(hk:∀k∈w.l,PredsOk k.vl):PredsOk w:=fun hw m m1 m2=>by
 refine Ib kr Mc (dm Vl.leaf.tree (Tree.val _)) fun s hs hh hd=>?_
 have h0:=hs 0 _ rfl;have h1:=hs 1 _ rfl;simp-implicitDefEqProofs only[zt,f54,V];refine(sL w hw m m1 m2 w.l 0 0 _ rfl (ir _) om hk ?_ ?_ ?_ ?_ ?_).mono ?_
 all_goals try simp-implicitDefEqProofs only[V,↓reduceIte,rA,reduceCtorEq,h0,h1,hd]
 ·rfl
 ·rfl
 rintro e s1 ⟨rfl,d1,b,b1,b3⟩;simp-implicitDefEqProofs only[V,↓reduceIte,reduceCtorEq,WB,d1,b1];exact⟨b,om,rfl⟩
mutual
theorem Fr:∀p:Pr,PredsOk p.vl
 |.mk o s n ks nl cap=>lZ ⟨ks,nl,cap⟩ (pC ks)
theorem pC:∀l:List Pr,∀k∈l,PredsOk k.vl
 | [],k,hk=>by cases hk
 |p::r,k,hk=>by
  rcases i8.1 hk with e|hk
  ·rw[e];exact Fr p
  ·exact pC r k hk
end
theorem pD(w:Vl Pr):PredsOk w:=lZ w (pC w.l)
theorem sW(w:Vl ByteArray)(hw:namW w.l≤2^24)(m:Int):∀(r:List ByteArray) (i acc:Nat) (s:St),w.l.drop i=r→i≤w.l.length→acc+namW r≤2^24→
  s.eval (.t 0)=some (w.A strA)→s.eval (.t 1)=some (vI m)→s.eval (.t 5)=some (vI (acc:Nat))→s.eval (.t 6)=some (vI (i:Nat))→s.defers=[]→
  Run E1 pl s fun e s'=>e=.exit 0∧s'.defers=[]∧∃b:Nat,s'.eval (.t 5)=some (vI (b:Nat))∧b≤acc+namW r∧((b:Int)≤m→acc+r.length≤b)
 | [],i,acc,s,hd,hi,ha,h0,h1,h5,h6,hf=>by
  have hl:=aK hd hi;subst hl;apply aC (rfl:pl=.loop jA);simp-implicitDefEqProofs only[jA,V,↓reduceIte,rA,reduceCtorEq,h0,h5,h6,hf,ba];exact⟨acc,rfl,by simp only[namW];omega,fun _=>i7 _⟩
 |k::r,i,acc,s,hd,hi,ha,h0,h1,h5,h6,hf=>by
  have hl:=aL hd;have hlt:=bY hl;have hlw:=gL w.l;have w1:IntKind.i64.wrap ((i:Int)+1)=((i+1:Nat):Int):=aE (n:=i+1) om;have ha':acc+(1+k.size+namW r)≤2^24:=ha;apply aC (rfl:pl=.loop jA);cases hc:decide ((acc:Int)≤m) with
  |false=>
   simp-implicitDefEqProofs only[jA,V,↓reduceIte,rA,reduceCtorEq,h0,h1,h5,h6,hf,hlt,hc];exact⟨acc,rfl,om,fun h=>absurd h (of_decide_eq_false hc)⟩
  |true=>
   have w2:IntKind.i64.wrap ((acc:Int)+1)=((acc+1:Nat):Int):=aE (n:=acc+1) om;have w3:IntKind.i64.wrap (((acc+1:Nat):Int)+((k.size/50:Nat):Int))=((acc+1+k.size/50:Nat):Int):=aE (n:=acc+1+k.size/50) om;simp-implicitDefEqProofs only[jA,V,↓reduceIte,rA,reduceCtorEq,h0,h1,h5,h6,hlt,hc,w.at aI hd,bS,fC (n:=k.size) om,dW,w1,w2,w3];refine(sW w hw m r (i+1) (acc+1+k.size/50) _ (aH hd) om om ?_ ?_ ?_ ?_ ?_).mono ?_
   all_goals try simp-implicitDefEqProofs only[V,↓reduceIte,rA,reduceCtorEq,h0,h1,hf]
   rintro e s1 ⟨e1,d1,b,b1,b2,b3⟩;refine⟨e1,d1,b,b1,by simp only[namW];omega,fun hb=>?_⟩
   have:=b3 hb;rw[im];omega
theorem pM(w:Vl ByteArray)(hw:namW w.l≤2^24)(m:Int):∃r:Nat,(r≤namW w.l∧((r:Int)≤m→w.l.length≤r))∧∀h,RunCall E1 (.f 34) [w.A strA,vI m] h (vI (r:Nat)) h:=by
 refine Ib kr Mr (dm Vl.leaf.tree (Tree.val _)) fun s hs hh hd=>?_
 have h0:=hs 0 _ rfl;have h1:=hs 1 _ rfl;simp-implicitDefEqProofs only[Cw,f34,V];refine(sW w hw m w.l 0 0 _ rfl (ir _) om ?_ ?_ ?_ ?_ ?_).mono ?_
 all_goals try simp-implicitDefEqProofs only[V,↓reduceIte,rA,reduceCtorEq,h0,h1,hd]
 ·rfl
 ·rfl
 rintro e s1 ⟨rfl,d1,b,b1,b2,b3⟩;simp-implicitDefEqProofs only[V,↓reduceIte,reduceCtorEq,WB,d1,b1];exact⟨b,⟨om,fun h=>by have:=b3 h;omega⟩,rfl⟩
theorem ua{s:St}{w:Vl Ty}{k:Ty}{r:List Ty}{i acc:Nat}{m:Int}(hd:w.l.drop i=k::r)(hw:acc+k.wt≤2^24)(m1: -2^40≤m)(m2:m≤2^40)(ht:NoTag s.h)(h0:s.eval (.t 0)=some (w.A Ty.cells))(h1:s.eval (.t 1)=some (vI m))(h5:s.eval (.t 5)=some (vI (acc:Nat)))(h6:s.eval (.t 6)=some (vI (i:Nat))):
  Run E1 Cy s fun e s'=>e=.normal∧s'.defers=s.defers∧NoTag s'.h∧(∃b:Nat,s'.eval (.t 5)=some (vI (b:Nat))∧b+Ty.wtL k.as≤acc+k.wt)∧∀j,j<5∨j=6→s'.eval (.t j)=s.eval (.t j):=by
 have hwk:=k.wt_eq;have hnl:=gL k.ns.l;have ti:ids (w.A Ty.cells)=[]:=Vl.ids;have vi:∀v,ids (AV.val v)=[]:=fun _=>rfl;have w2:IntKind.i64.wrap ((acc:Int)+1)=((acc+1:Nat):Int):=aE (n:=acc+1) om;have w3:IntKind.i64.wrap (((acc+1:Nat):Int)+((k.nm.size/50:Nat):Int))=((acc+1+k.nm.size/50:Nat):Int):=aE (n:=acc+1+k.nm.size/50) om;have w4:IntKind.i64.wrap (((acc+1+k.nm.size/50:Nat):Int)+(k.ns.l.length:Nat))=((acc+1+k.nm.size/50+k.ns.l.length:Nat):Int):=aE (n:=acc+1+k.nm.size/50+k.ns.l.length) om;generalize hA:acc+1+k.nm.size/50+k.ns.l.length=A at w4;refine bT (ops:=cJ) (pre:=cJ.take 32) (d:=⟨⟨some 5,none,.mv (.t 49)⟩,[49],[]⟩) rfl ?_
 show DrawTo E1 (cJ.take 22++(cJ.take 32).drop 22) [] s _;refine cN (cJ.take 22) [] s rfl (fun x hx=>by cases hx) ?_
 simp-implicitDefEqProofs only[cJ,jm,jv,A6,jj,wpDr,bZ,j4,j5,V,↓reduceIte,rA,reduceCtorEq,h0,h5,h6,aM ti,aM Vl.ids,dL,an,w.at Ty.len hd,dW,fC (n:=k.nm.size) om,w2,w3,w4,ip];intro _ d1 hl1 hq1;have hl1:d1.length=22:=hl1;refine et (cs:=k.p.cells) (fun j hj v hv=>?_) rfl ?_ (fun i hi=>?_) rfl rfl ?_
 ·simp only[i8,jb,or_false] at hj;subst hj;simp-implicitDefEqProofs only[V,↓reduceIte,sI] at hv;subst hv;have:ids (.agg k.p.cells)=[]:=k.p.ids0;rw[this];rfl
 ·refine oD (v:=.agg k.p.cells) ?_ rfl k.p.len rfl;exact U36
 ·simp only[i8,jb,or_false] at hi;omega
 generalize hB:s.h.next=B at hq1;simp-implicitDefEqProofs only[V,hB];have hmild:∀x∈d1++[(⟨[],[],B,B+1⟩:DRec)],MildR [] x:=fun x hx r hr=>by cases hr
 have hl2:(d1++[(⟨[],[],B,B+1⟩:DRec)]).length=23:=by rw[io,hl1];rfl
 show DrawTo E1 (((cJ.take 32).drop 23).take 5++(cJ.take 32).drop 28) (d1++[(⟨[],[],B,B+1⟩:DRec)]) _ _;refine nc (R:=[]) (K1:=fun s'=>s'.eval (.t 45)=some (k.ps.A Pr.cells)∧s'.eval (.t 40)=some (.own B 0 1 4 (some 1))∧s'.eval (.t 1)=some (vI m)∧s'.eval (.t 34)=some (vI (A:Nat))∧s'.defers=s.defers∧∀j,j<5∨j=6→s'.eval (.t j)=s.eval (.t j)) (((cJ.take 32).drop 23).take 5) _ _ _ (by rw[hl2];rfl) hmild (fun r hr=>by cases hr) rfl ?_ ?_
 ·simp-implicitDefEqProofs only[cJ,jm,jv,A6,jj,wpDm,bZ,j4,j5,footed,V,↓reduceIte,rA,reduceCtorEq,h0,h1,h6,aM ti,dL,an,w.at Ty.len hd,show∀l,onlyT [] (some (AV.iptr l))=true from fun _=>rfl];intro j hj
  repeat rw[if_neg om]
 rintro s1 ⟨e45,e40,e1,e34,d1',o1⟩ hh more hm _;simp-implicitDefEqProofs only[V] at hh;rw[jh];have hm:more.length=5:=hm;have hn1:s1.h.next=B+1:=by rw[hh,←hB];rfl
 have hg1:s1.h.get B=some (.cells k.p.cells true):=by rw[hh,←hB];exact aO
 have ht1:NoTag s1.h:=by rw[hh];exact ht.alloc
 have r1:RowX s1.h B 1 4 (.own B 0 1 4 (some 1)) k.p.cells:=RowX.made k.p.leaves k.p.len (i7 _) om hg1;have hwl:=Pr.wtL_len k.ps.l;show DrawTo E1 ((cJ.take 32).drop 28) _ _ _;simp only[cJ,jm,jv,A6,jj];refine fK (k:=1) (m:=k.ps.l.length) (lo:=B) (v:=.own B 0 1 4 (some 1)) (x:=k.ps.A Pr.cells) (cs:=k.p.cells) (new:=k.ps.l.flatMap Pr.cells) r1 om (fun h _=>bW Pr.len) (bG Pr.len _) (fI Pr.leaves _) (aS om de) (fun y hy=>by rw[Vl.ids] at hy;cases hy) e40 e45 de de (fun j hj=>?_) rfl rfl (fun F D lo hi hF hD=>?_) ?_
 ·simp only[i8,jb,or_false] at hj;rcases hj with rfl|rfl
  ·exact .inl rfl
  ·exact .inr (.inl rfl)
 ·refine cz (n:=B) hq1 (fun y hy=>?_) (fun y hy=>?_) (fun i hi=>?_)
  ·rcases hF y hy with q|q
   ·simp only[AM.ids,ig] at q;omega
   ·rw[Vl.ids] at q;cases q
  ·have q:=hD y hy;simp only[AM.ids,ig] at q;omega
  ·rw[hl1];simp only[i8,jb,or_false] at hi;omega
 intro rec v2 h2 r2 n2 o2 t2 _;have ec:k.p.cells++k.ps.l.flatMap Pr.cells=(k.p::k.ps.l).flatMap Pr.cells:=rfl;have i2:∀y∈ids v2,B≤y:=fun y hy=>(r2.ids y hy).1;have hk2:1+k.ps.l.length=(k.p::k.ps.l).length:=by rw[im];omega
 rw[ec,hk2] at r2;obtain⟨nl2,cap2,hA2⟩:=d9 r2;have hz2:Pr.wtL (k.p::k.ps.l)=k.p.wt+Pr.wtL k.ps.l:=rfl;obtain⟨q,c1,c3⟩:=pD ⟨k.p::k.ps.l,nl2,cap2⟩ (by show Pr.wtL (k.p::k.ps.l)≤_;omega) m m1 m2
 have c1:q≤Pr.wtL (k.p::k.ps.l):=c1;have w5:IntKind.i64.wrap ((A:Int)+(q:Int))=((A+q:Nat):Int):=aE (n:=A+q) om;refine bH (v:=vI m) rfl rfl ?_ ?_ (fun i hi=>?_) ?_
 ·simp-implicitDefEqProofs only[V,↓reduceIte,rA,j4,j5,e1,dL]
 ·simp-implicitDefEqProofs only[runOp,V,↓reduceIte,rA,e1]
 ·simp only[io,im,jf,hl1,hm];simp only[i8,jb,or_false] at hi;omega
 refine fq (lo:=B) (k:=(k.p::k.ps.l).length) (es:=4) (w:=v2) (cs:=(k.p::k.ps.l).flatMap Pr.cells) (l:=[v2,vI m]) (t:=vI (q:Nat)) ?_ (fun j hj=>?_) ⟨46,il,?_⟩ rfl ?_ ?_ rfl rfl (fun h g1 g2=>?_) (fun F D lo hi hF hD=>?_) ?_
 ·exact U42
 ·simp only[i8,jb,or_false] at hj;rcases hj with rfl|rfl
  ·refine⟨v2,?_,.inr rfl⟩;simp-implicitDefEqProofs only[V,↓reduceIte,rA]
  ·refine⟨vI m,?_,.inl rfl⟩;exact U36
 ·exact U36
 ·exact U36
 ·simp-implicitDefEqProofs only[V];exact t2 ht1
 ·simp-implicitDefEqProofs only[V] at g1 g2;have r3:RowX h B (k.p::k.ps.l).length 4 v2 ((k.p::k.ps.l).flatMap Pr.cells):=r2.toB om g2;obtain⟨h3,f1,f2,f3,f4⟩:=bN r3;rw[hA2] at f4;exact dE (xs:=[]) (ys:=[vI m]) kr (fun v hv=>by cases hv) (iM (Tree.val _)) Vl.leaf.tree f1 f4 rfl c3
 ·rw[jh,jh];refine cz (n:=B) hq1 (fun y hy=>i2 y (hF y hy)) (fun y hy=>i2 y (hD y hy)) (fun i hi=>?_);rw[hl1];simp only[i8,jb,or_false] at hi;omega
 intro rec3 h3 n3 o3;refine bH (v:=vI ((A+q:Nat):Int)) rfl rfl ?_ ?_ (fun i hi=>by cases hi) ?_
 ·simp-implicitDefEqProofs only[V,↓reduceIte,rA,j4,j5,e34,dL]
 ·simp-implicitDefEqProofs only[runOp,V,↓reduceIte,rA,e34,w5]
 refine bO ?_
 simp-implicitDefEqProofs only[V,↓reduceIte];simp-implicitDefEqProofs only[V] at o3;refine⟨d1',fun y c n=>by rw[o3];exact t2 ht1 y c n,⟨A+q,rfl,om⟩,fun j hj=>?_⟩
 rw[←o1 j hj]
 repeat rw[if_neg om]
def TypesOk(w:Vl Ty):Prop:=Ty.wtL w.l≤2^24→∀m:Int,-2^40≤m→m≤2^40→∃r:Nat,r≤Ty.wtL w.l∧∀h,RunCall E1 (.f 33) [w.A Ty.cells,vI m] h (vI (r:Nat)) h
theorem sX(w:Vl Ty)(hw:Ty.wtL w.l≤2^24)(m:Int)(m1: -2^40≤m)(m2:m≤2^40):∀(r:List Ty) (i acc:Nat) (s:St),w.l.drop i=r→i≤w.l.length→acc+Ty.wtL r≤2^24→(∀k∈r,TypesOk k.vl)→NoTag s.h→
  s.eval (.t 0)=some (w.A Ty.cells)→s.eval (.t 1)=some (vI m)→s.eval (.t 5)=some (vI (acc:Nat))→s.eval (.t 6)=some (vI (i:Nat))→s.defers=[]→
  Run E1 pn s fun e s'=>e=.exit 0∧s'.defers=[]∧∃b:Nat,s'.eval (.t 5)=some (vI (b:Nat))∧b≤acc+Ty.wtL r
 | [],i,acc,s,hd,hi,ha,hk,nt,h0,h1,h5,h6,hf=>by
  have hl:=aK hd hi;subst hl;apply aC (rfl:pn=.loop jB);simp-implicitDefEqProofs only[jB,V,↓reduceIte,rA,reduceCtorEq,h0,h5,h6,hf,ba];exact⟨acc,rfl,Nat.le_add_right _ _⟩
 |k::r,i,acc,s,hd,hi,ha,hk,nt,h0,h1,h5,h6,hf=>by
  have hl:=aL hd;have hlt:=bY hl;have hlw:=Ty.wtL_len w.l;have w1:IntKind.i64.wrap ((i:Int)+1)=((i+1:Nat):Int):=aE (n:=i+1) om;have hwk:=k.wt_eq;rw[Ty.wtL] at ha;rw[Ty.wtL];apply aC (rfl:pn=.loop jB);cases hc:decide ((acc:Int)≤m) with
  |false=>
   simp-implicitDefEqProofs only[jB,V,↓reduceIte,rA,reduceCtorEq,h0,h1,h5,h6,hf,hlt,hc];exact⟨acc,rfl,om⟩
  |true=>
   have hc':=of_decide_eq_true hc;simp-implicitDefEqProofs only[jB,V,↓reduceIte,rA,reduceCtorEq,h0,h1,h5,h6,hlt,hc];refine(ua (acc:=acc) (m:=m) hd om m1 m2 ?_ ?_ ?_ ?_ ?_).mono ?_
   all_goals try simp-implicitDefEqProofs only[V,↓reduceIte,rA,reduceCtorEq,h0,h1,h5,h6]
   ·exact nt
   rintro e s1 ⟨rfl,d1,nt1,⟨b,t5,hb⟩,k1⟩
   try simp-implicitDefEqProofs only[hf] at d1
   have u0:s1.eval (.t 0)=some (w.A Ty.cells):=by rw[k1 0 de];simp-implicitDefEqProofs only[↓reduceIte,reduceCtorEq,h0]
   have u1:s1.eval (.t 1)=some (vI m):=by rw[k1 1 de];simp-implicitDefEqProofs only[↓reduceIte,rA,h1]
   have u6:s1.eval (.t 6)=some (vI (i:Nat)):=by rw[k1 6 de];simp-implicitDefEqProofs only[↓reduceIte,rA,h6]
   have w4:IntKind.i64.wrap (m-(b:Int))=m-(b:Int):=IntWalk.i64_in _ om;obtain⟨q,q1,q3⟩:=hk k il (by rw[k.vl_l];omega) (m-(b:Int)) om om
   rw[k.vl_l] at q1;rw[k.vl_A] at q3;have w5:IntKind.i64.wrap ((b:Int)+(q:Int))=((b+q:Nat):Int):=aE (n:=b+q) om;simp-implicitDefEqProofs only[V,↓reduceIte,rA,reduceCtorEq,u0,u1,u6,t5,w.at Ty.len hd,w1,w4,w5,aG q3];refine(sX w hw m m1 m2 r (i+1) (b+q) _ (aH hd) om om (fun k' hk'=>hk k' (j0 _ hk')) ?_ ?_ ?_ ?_ ?_ ?_).mono ?_
   all_goals try simp-implicitDefEqProofs only[V,↓reduceIte,rA,reduceCtorEq,u0,u1,d1]
   ·exact nt1
   rintro e s2 ⟨e1,d2,b2,t5,hb2⟩;exact⟨e1,d2,b2,t5,om⟩
theorem ku(w:Vl Ty)(hk:∀k∈w.l,TypesOk k.vl):TypesOk w:=fun hw m m1 m2=>by
 refine Ib kr Ms (dm Vl.leaf.tree (Tree.val _)) fun s hs hh hd=>?_
 have h0:=hs 0 _ rfl;have h1:=hs 1 _ rfl;simp-implicitDefEqProofs only[Cx,f33,V];refine(sX w hw m m1 m2 w.l 0 0 _ rfl (ir _) om hk ?_ ?_ ?_ ?_ ?_ ?_).mono ?_
 all_goals try simp-implicitDefEqProofs only[V,↓reduceIte,rA,reduceCtorEq,h0,h1,hd,hh]
 ·exact NoTag.empty
 ·rfl
 ·rfl
 rintro e s1 ⟨rfl,d1,b,b1,b3⟩;simp-implicitDefEqProofs only[V,↓reduceIte,reduceCtorEq,WB,d1,b1];exact⟨b,om,rfl⟩
mutual
theorem Fb:∀p:Ty,TypesOk p.vl
 |.mk o s ks nl cap ns p ps=>ku ⟨ks,nl,cap⟩ (oY ks)
theorem oY:∀l:List Ty,∀k∈l,TypesOk k.vl
 | [],k,hk=>by cases hk
 |p::r,k,hk=>by
  rcases i8.1 hk with e|hk
  ·rw[e];exact Fb p
  ·exact oY r k hk
end
theorem fy(w:Vl Ty):TypesOk w:=ku w (oY w.l)
theorem qD{h:AH}{C:Nat}{e:Ex}(hC:C<h.next)(g:h.get C=some (.cells e.cells true)):∀o,niceT h (some (.ptr C o))=true:=fun o=>bt hC g (by rw[e.ids0];rfl)
theorem ug{s:St}{e:Ex}{C:Nat}{m:Int}(hw:e.wt≤2^24)(m1: -2^40≤m)(m2:m≤2^40)(hC:C<s.h.next)(g:s.h.get C=some (.cells e.cells true))(h1:s.eval (.t 1)=some (vI m))(h2:s.eval (.t 2)=some (.ptr C 0)):
  Run E1 Dj s fun x s'=>x=.normal∧s'.defers=s.defers∧s'.h=s.h∧(∃b:Nat,s'.eval (.t 5)=some (vI (b:Nat))∧1≤b∧b≤1+e.nm.size+Ty.wtL e.ty.l)∧∀j,j<5→s'.eval (.t j)=s.eval (.t j):=by
 have hwe:=e.wt_eq;have n0:=qD hC g;have vi:∀v,ids (AV.val v)=[]:=fun _=>rfl;have w3:IntKind.i64.wrap (1+((e.nm.size/50:Nat):Int))=((1+e.nm.size/50:Nat):Int):=by
  rw[show 1+((e.nm.size/50:Nat):Int)=((1+e.nm.size/50:Nat):Int) by omega]
  exact aE (n:=1+e.nm.size/50) om
 obtain⟨q,q1,q3⟩:=fy e.ty om m m1 m2;have w5:IntKind.i64.wrap (((1+e.nm.size/50:Nat):Int)+(q:Int))=((1+e.nm.size/50+q:Nat):Int):=aE (n:=1+e.nm.size/50+q) om;refine eP (ops:=ud) rfl ?_
 simp-implicitDefEqProofs only[ud,wpDr,bZ,j4,j5,V,↓reduceIte,rA,h1,h2,n0,g,aM Vl.ids,ak Vl.ids,aM (vi _),ak (vi _),dW,fC (n:=e.nm.size) om,w3,ip];refine⟨_,q3,?_⟩;simp-implicitDefEqProofs only[V,↓reduceIte,aM (vi _),w5];refine⟨⟨1+e.nm.size/50+q,rfl,om,om⟩,fun j hj=>?_⟩
 repeat rw[if_neg om]
theorem uf{s:St}{e:Ex}{k:Pm}{r:List Pm}{C i acc:Nat}{m:Int}(hd:e.pm.l.drop i=k::r)(hw:acc+(1+k.nm.size+k.t.wt)≤2^24)(m1: -2^40≤m)(m2:m≤2^40)(ht:NoTag s.h)(hC:C<s.h.next)(g:s.h.get C=some (.cells e.cells true))(h1:s.eval (.t 1)=some (vI m))(h2:s.eval (.t 2)=some (.ptr C 0))(h5:s.eval (.t 5)=some (vI (acc:Nat)))(h6:s.eval (.t 6)=some (vI (i:Nat))):
  Run E1 Di s fun x s'=>x=.normal∧s'.defers=s.defers∧NoTag s'.h∧C<s'.h.next∧s'.h.get C=some (.cells e.cells true)∧(∃b:Nat,s'.eval (.t 5)=some (vI (b:Nat))∧acc+1≤b∧b≤acc+(1+k.nm.size+k.t.wt))∧∀j,j<5∨j=6→s'.eval (.t j)=s.eval (.t j):=by
 have n0:=qD hC g;have vi:∀v,ids (AV.val v)=[]:=fun _=>rfl;have w2:IntKind.i64.wrap ((acc:Int)+1)=((acc+1:Nat):Int):=aE (n:=acc+1) om;have w3:IntKind.i64.wrap (((acc+1:Nat):Int)+((k.nm.size/50:Nat):Int))=((acc+1+k.nm.size/50:Nat):Int):=aE (n:=acc+1+k.nm.size/50) om;generalize hA:acc+1+k.nm.size/50=A at w3;have ti0:ids (.agg k.t.cells)=[]:=k.t.ids0;refine bT (ops:=fj) (pre:=fj.take 21) (d:=⟨⟨some 5,none,.mv (.t 51)⟩,[51],[]⟩) rfl ?_
 show DrawTo E1 (fj.take 17++(fj.take 21).drop 17) [] s _;refine cN (fj.take 17) [] s rfl (fun x hx=>by cases hx) ?_
 simp-implicitDefEqProofs only[fj,jm,jv,A6,jj,wpDr,bZ,j4,j5,V,↓reduceIte,rA,h2,h5,h6,n0,g,aM Vl.ids,dL,an,e.pm.at Pm.len hd,dW,fC (n:=k.nm.size) om,w2,w3,ip];intro _ d1 hl1 hq1;have hl1:d1.length=17:=hl1;refine et (cs:=k.t.cells) (fun j hj v hv=>?_) rfl ?_ (fun i hi=>?_) rfl rfl ?_
 ·simp only[i8,jb,or_false] at hj;subst hj;simp-implicitDefEqProofs only[V,↓reduceIte,sI] at hv;subst hv;rw[ti0];rfl
 ·refine oD (v:=.agg k.t.cells) ?_ rfl k.t.len rfl;exact U36
 ·simp only[i8,jb,or_false] at hi;omega
 have hCn:=hC;have hgo:(s.h.alloc (.cells k.t.cells true)).get C=some (.cells e.cells true):=by rw[aB hC,g]
 have hto:NoTag (s.h.alloc (.cells k.t.cells true)):=ht.alloc;generalize hB:s.h.next=B at hq1 hCn;have hn1:(s.h.alloc (.cells k.t.cells true)).next=B+1:=by rw[←hB];rfl
 have hg1:(s.h.alloc (.cells k.t.cells true)).get B=some (.cells k.t.cells true):=by rw[←hB];exact aO
 generalize hH:s.h.alloc (.cells k.t.cells true)=H at hn1 hg1 hgo hto;simp-implicitDefEqProofs only[V,hB,hH];obtain⟨q,c1,c3⟩:=fy ⟨[k.t],none,some 1⟩ (by show k.t.wt+0≤_;omega) m m1 m2
 have c1:q≤k.t.wt+0:=c1;have w5:IntKind.i64.wrap ((A:Int)+(q:Int))=((A+q:Nat):Int):=aE (n:=A+q) om;refine bH (v:=vI m) rfl rfl ?_ ?_ (fun i hi=>?_) ?_
 ·simp-implicitDefEqProofs only[V,↓reduceIte,rA,j4,j5,h1,dL]
 ·simp-implicitDefEqProofs only[runOp,V,↓reduceIte,rA,h1]
 ·simp only[io,im,jf,hl1];simp only[i8,jb,or_false] at hi;omega
 have r2:RowX H B 1 9 (.own B 0 1 9 (some 1)) k.t.cells:=RowX.made k.t.leaves k.t.len (i7 _) om hg1;refine fq (lo:=B) (k:=1) (es:=9) (w:=.own B 0 1 9 (some 1)) (cs:=k.t.cells) (l:=[.own B 0 1 9 (some 1),vI m]) (t:=vI (q:Nat)) ?_ (fun j hj=>?_) ⟨48,il,?_⟩ rfl ?_ ?_ rfl rfl (fun h g1 g2=>?_) (fun F D lo hi hF hD=>?_) ?_
 ·exact U42
 ·simp only[i8,jb,or_false] at hj;rcases hj with rfl|rfl
  ·refine⟨.own B 0 1 9 (some 1),?_,.inr rfl⟩;exact U36
  ·refine⟨vI m,?_,.inl rfl⟩;exact U36
 ·exact U36
 ·exact U36
 ·simp-implicitDefEqProofs only[V];exact hto
 ·simp-implicitDefEqProofs only[V] at g1 g2;have r3:RowX h B 1 9 (.own B 0 1 9 (some 1)) k.t.cells:=r2.toB (by rw[g1];exact i7 _) g2
  obtain⟨h3,f1,f2,f3,f4⟩:=bN r3;have e4:rowX (.own B 0 1 9 (some 1)) 1 k.t.cells=Vl.A Ty.cells ⟨[k.t],none,some 1⟩:=by
   simp only[rowX,Vl.A,kidsA,List.flatMap_cons,List.flatMap_nil,j6,Option.isSome_none,Bool.false_and,cond_false];rfl
  rw[e4] at f4;exact dE (xs:=[]) (ys:=[vI m]) kr (fun v hv=>by cases hv) (iM (Tree.val _)) Vl.leaf.tree f1 f4 rfl c3
 ·rw[jh];have i2:∀y∈ids (.own B 0 1 9 (some 1)),B≤y:=fun y hy=>by
   rw[AM.ids,ig] at hy;omega
  refine cz (n:=B) hq1 (fun y hy=>i2 y (hF y hy)) (fun y hy=>i2 y (hD y hy)) (fun i hi=>?_);rw[hl1];simp only[i8,jb,or_false] at hi;omega
 intro rec3 h3 n3 o3;refine bH (v:=vI ((A+q:Nat):Int)) rfl rfl ?_ ?_ (fun i hi=>by cases hi) ?_
 ·simp-implicitDefEqProofs only[V,↓reduceIte,rA,j4,j5,dL]
 ·simp-implicitDefEqProofs only[runOp,V,↓reduceIte,rA,w5]
 refine bO ?_
 simp-implicitDefEqProofs only[V] at o3 n3;simp-implicitDefEqProofs only[V,↓reduceIte];refine⟨fun y c n=>by rw[o3];exact hto y c n,by rw[n3];omega,?_,⟨A+q,rfl,om,om⟩,fun j hj=>?_⟩
 ·rw[o3,hgo]
 ·repeat rw[if_neg om]
theorem ue{s:St}{e:Ex}{k:Al}{r:List Al}{C i acc:Nat}{m:Int}(hd:e.al.drop i=k::r)(hw:acc+(1+k.con.size+namW k.ns.l)≤2^24)(hC:C<s.h.next)(g:s.h.get C=some (.cells e.cells true))(h1:s.eval (.t 1)=some (vI m))(h2:s.eval (.t 2)=some (.ptr C 0))(h5:s.eval (.t 5)=some (vI (acc:Nat)))(h8:s.eval (.t 8)=some (vI (i:Nat))):
  Run E1 Dh s fun x s'=>x=.normal∧s'.defers=s.defers∧s'.h=s.h∧(∃b:Nat,s'.eval (.t 5)=some (vI (b:Nat))∧acc+1≤b∧b≤acc+(1+k.con.size+namW k.ns.l)∧((b:Int)≤m→acc+1+k.ns.l.length≤b))∧∀j,j<5∨j=8→s'.eval (.t j)=s.eval (.t j):=by
 have n0:=qD hC g;have vi:∀v,ids (AV.val v)=[]:=fun _=>rfl;obtain⟨q,⟨q1,q2⟩,q3⟩:=pM k.ns om m;have w2:IntKind.i64.wrap ((acc:Int)+1)=((acc+1:Nat):Int):=aE (n:=acc+1) om;have w3:IntKind.i64.wrap (((acc+1:Nat):Int)+((k.con.size/50:Nat):Int))=((acc+1+k.con.size/50:Nat):Int):=aE (n:=acc+1+k.con.size/50) om;have w5:IntKind.i64.wrap (((acc+1+k.con.size/50:Nat):Int)+(q:Int))=((acc+1+k.con.size/50+q:Nat):Int):=aE (n:=acc+1+k.con.size/50+q) om;have ia:ids e.alts=[]:=by
  obtain⟨nl,cap,ea⟩:=e.alts_eq;rw[ea];exact Vl.ids
 refine eP (ops:=uc) rfl ?_
 simp-implicitDefEqProofs only[uc,wpDr,bZ,j4,j5,V,↓reduceIte,rA,h1,h2,h5,h8,n0,g,Ex.alt hd,aM ia,aM Vl.ids,ak Vl.ids,aM (vi _),ak (vi _),an,dW,fC (n:=k.con.size) om,w2,w3,ip];refine⟨_,q3,?_⟩;simp-implicitDefEqProofs only[V,↓reduceIte,aM (vi _),w5];refine⟨⟨acc+1+k.con.size/50+q,rfl,om,om,fun h=>by have:=q2 om;omega⟩,fun j hj=>?_⟩
 repeat rw[if_neg om]
def BulkOk(e:Ex):Prop:=e.wt≤2^24→∀m:Int,-2^40≤m→m≤2^40→∃r:Nat,(r≤e.wt∧((r:Int)≤m→e.sz≤r))∧∀h,RunCall E1 (.f 15) [.agg e.cells,vI m] h (vI (r:Nat)) h
theorem oN{e:Ex}(hw:e.wt≤2^24){m:Int}(m1: -2^40≤m)(m2:m≤2^40):∀(r:List Pm) (i acc:Nat) (s:St),e.pm.l.drop i=r→i≤e.pm.l.length→acc+pmW r≤2^24→NoTag s.h→0<s.h.next→s.h.get 0=some (.cells e.cells true)→
  s.eval (.t 1)=some (vI m)→s.eval (.t 2)=some (.ptr 0 0)→s.eval (.t 5)=some (vI (acc:Nat))→s.eval (.t 6)=some (vI (i:Nat))→s.defers=[]→
  Run E1 py s fun x s'=>x=.exit 0∧s'.defers=[]∧0<s'.h.next∧s'.h.get 0=some (.cells e.cells true)∧s'.eval (.t 1)=some (vI m)∧s'.eval (.t 2)=some (.ptr 0 0)∧∃b:Nat,s'.eval (.t 5)=some (vI (b:Nat))∧b≤acc+pmW r∧((b:Int)≤m→acc+r.length≤b)
 | [],i,acc,s,hd,hi,ha,nt,l0,g0,h1,h2,h5,h6,hf=>by
  have hl:=aK hd hi;subst hl;apply aC (rfl:py=.loop jF);simp-implicitDefEqProofs only[jF,V,↓reduceIte,rA,h1,h2,h5,h6,g0,hf,ba];exact⟨l0,acc,rfl,Nat.le_add_right _ _,fun _=>i7 _⟩
 |k::r,i,acc,s,hd,hi,ha,nt,l0,g0,h1,h2,h5,h6,hf=>by
  have hl:=aL hd;have hlt:=bY hl;have hwe:=e.wt_eq;have hlw:=vX e.pm.l;have w1:IntKind.i64.wrap ((i:Int)+1)=((i+1:Nat):Int):=aE (n:=i+1) om;rw[pmW] at ha;rw[pmW];apply aC (rfl:py=.loop jF);cases hc:decide ((acc:Int)≤m) with
  |false=>
   simp-implicitDefEqProofs only[jF,V,↓reduceIte,rA,h1,h2,h5,h6,g0,hf,hlt,hc];exact⟨l0,acc,rfl,om,fun h=>absurd h (of_decide_eq_false hc)⟩
  |true=>
   simp-implicitDefEqProofs only[jF,V,↓reduceIte,rA,h1,h2,h5,h6,g0,hlt,hc];refine(uf (C:=0) (acc:=acc) (m:=m) hd om m1 m2 ?_ ?_ ?_ ?_ ?_ ?_ ?_).mono ?_
   all_goals try simp-implicitDefEqProofs only[V,↓reduceIte,rA,h1,h2,h5,h6]
   ·exact nt
   ·exact l0
   ·exact g0
   rintro x s1 ⟨rfl,d1,nt1,l1,g1,⟨b,t5,b1,b2⟩,k1⟩
   try simp-implicitDefEqProofs only[hf] at d1
   have u1:s1.eval (.t 1)=some (vI m):=by rw[k1 1 de];simp-implicitDefEqProofs only[↓reduceIte,rA,h1]
   have u2:s1.eval (.t 2)=some (.ptr 0 0):=by rw[k1 2 de];simp-implicitDefEqProofs only[↓reduceIte,rA,h2]
   have u6:s1.eval (.t 6)=some (vI (i:Nat)):=by rw[k1 6 de];simp-implicitDefEqProofs only[↓reduceIte,rA,h6]
   simp-implicitDefEqProofs only[V,↓reduceIte,u6,w1];refine(oN hw m1 m2 r (i+1) b _ (aH hd) om om ?_ ?_ ?_ ?_ ?_ ?_ ?_ ?_).mono ?_
   all_goals try simp-implicitDefEqProofs only[V,↓reduceIte,rA,u1,u2,t5,d1]
   ·exact nt1
   ·exact l1
   ·exact g1
   rintro x s2 ⟨e1,d2,l2,g2,v1,v2,b',t5,c1,c2⟩;refine⟨e1,d2,l2,g2,v1,v2,b',t5,om,fun h=>?_⟩;have:=c2 h;rw[im];omega
theorem oM{e:Ex}(hw:e.wt≤2^24){m:Int}(m1: -2^40≤m)(m2:m≤2^40):∀(r:List Ex) (i acc:Nat) (s:St),e.ks.drop i=r→i≤e.ks.length→acc+Ex.wtL r≤2^24→(∀k∈r,BulkOk k)→0<s.h.next→s.h.get 0=some (.cells e.cells true)→
  s.eval (.t 1)=some (vI m)→s.eval (.t 2)=some (.ptr 0 0)→s.eval (.t 5)=some (vI (acc:Nat))→s.eval (.t 7)=some (vI (i:Nat))→s.defers=[]→
  Run E1 pw s fun x s'=>x=.exit 2∧s'.defers=[]∧0<s'.h.next∧s'.h.get 0=some (.cells e.cells true)∧s'.eval (.t 1)=some (vI m)∧s'.eval (.t 2)=some (.ptr 0 0)∧∃b:Nat,s'.eval (.t 5)=some (vI (b:Nat))∧b≤acc+Ex.wtL r∧((b:Int)≤m→acc+Ex.szL r≤b)
 | [],i,acc,s,hd,hi,ha,hk,l0,g0,h1,h2,h5,h7,hf=>by
  have hl:=aK hd hi;subst hl;apply aC (rfl:pw=.loop jE);simp-implicitDefEqProofs only[jE,V,↓reduceIte,rA,h1,h2,h5,h7,g0,hf,ba];exact⟨l0,acc,rfl,Nat.le_add_right _ _,fun _=>by rw[Ex.szL];exact i7 _⟩
 |k::r,i,acc,s,hd,hi,ha,hk,l0,g0,h1,h2,h5,h7,hf=>by
  have hl:=aL hd;have hlt:=bY hl;have hwe:=e.wt_eq;have hlw:=Ex.wtL_len e.ks;have w1:IntKind.i64.wrap ((i:Int)+1)=((i+1:Nat):Int):=aE (n:=i+1) om;rw[Ex.wtL] at ha;rw[Ex.wtL];apply aC (rfl:pw=.loop jE);cases hc:decide ((acc:Int)≤m) with
  |false=>
   simp-implicitDefEqProofs only[jE,V,↓reduceIte,rA,h1,h2,h5,h7,g0,hf,hlt,hc];exact⟨l0,acc,rfl,om,fun h=>absurd h (of_decide_eq_false hc)⟩
  |true=>
   have hc':=of_decide_eq_true hc;have w4:IntKind.i64.wrap (m-(acc:Int))=m-(acc:Int):=IntWalk.i64_in _ om;obtain⟨q,⟨q1,q2⟩,q3⟩:=hk k il om (m-(acc:Int)) om om;have w5:IntKind.i64.wrap ((acc:Int)+(q:Int))=((acc+q:Nat):Int):=aE (n:=acc+q) om;simp-implicitDefEqProofs only[jE,V,↓reduceIte,rA,h1,h2,h5,h7,g0,hlt,hc,Ex.kid hd,w1,w4,w5,aG q3];refine(oM hw m1 m2 r (i+1) (acc+q) _ (aH hd) om om (fun k' hk'=>hk k' (j0 _ hk')) ?_ ?_ ?_ ?_ ?_ ?_ ?_).mono ?_
   all_goals try simp-implicitDefEqProofs only[V,↓reduceIte,rA,h1,h2,hf]
   ·exact l0
   ·exact g0
   rintro x s2 ⟨e1,d2,l2,g2,v1,v2,b',t5,c1,c2⟩;refine⟨e1,d2,l2,g2,v1,v2,b',t5,om,fun h=>?_⟩;have:=c2 h;have:=q2 om;rw[Ex.szL];omega
theorem oL{e:Ex}(hw:e.wt≤2^24){m:Int}(m1: -2^40≤m)(m2:m≤2^40):∀(r:List Al) (i acc:Nat) (s:St),e.al.drop i=r→i≤e.al.length→acc+Al.wtL r≤2^24→(∀k∈r,BulkOk k.b)→0<s.h.next→s.h.get 0=some (.cells e.cells true)→
  s.eval (.t 1)=some (vI m)→s.eval (.t 2)=some (.ptr 0 0)→s.eval (.t 5)=some (vI (acc:Nat))→s.eval (.t 8)=some (vI (i:Nat))→s.defers=[]→
  Run E1 pv s fun x s'=>x=.exit 4∧s'.defers=[]∧∃b:Nat,s'.eval (.t 5)=some (vI (b:Nat))∧b≤acc+Al.wtL r∧((b:Int)≤m→acc+Ex.szA r≤b)
 | [],i,acc,s,hd,hi,ha,hk,l0,g0,h1,h2,h5,h8,hf=>by
  have hl:=aK hd hi;subst hl;apply aC (rfl:pv=.loop jD);simp-implicitDefEqProofs only[jD,V,↓reduceIte,rA,h2,h5,h8,g0,hf,ba];exact⟨acc,rfl,Nat.le_add_right _ _,fun _=>by rw[Ex.szA];exact i7 _⟩
 |k::r,i,acc,s,hd,hi,ha,hk,l0,g0,h1,h2,h5,h8,hf=>by
  have hl:=aL hd;have hlt:=bY hl;have hwe:=e.wt_eq;have hlw:=Al.wtL_len e.al;have w1:IntKind.i64.wrap ((i:Int)+1)=((i+1:Nat):Int):=aE (n:=i+1) om;rw[Al.wtL_cons] at ha;rw[Al.wtL_cons];apply aC (rfl:pv=.loop jD);cases hc:decide ((acc:Int)≤m) with
  |false=>
   simp-implicitDefEqProofs only[jD,V,↓reduceIte,rA,h1,h2,h5,h8,g0,hf,hlt,hc];exact⟨acc,rfl,om,fun h=>absurd h (of_decide_eq_false hc)⟩
  |true=>
   have hc':=of_decide_eq_true hc;simp-implicitDefEqProofs only[jD,V,↓reduceIte,rA,h1,h2,h5,h8,g0,hlt,hc];refine(ue (C:=0) (acc:=acc) (m:=m) hd om ?_ ?_ ?_ ?_ ?_ ?_).mono ?_
   all_goals try simp-implicitDefEqProofs only[V,↓reduceIte,rA,h1,h2,h5,h8]
   ·exact l0
   ·exact g0
   rintro x s1 ⟨rfl,d1,eh,⟨b,t5,b1,b2,b3⟩,k1⟩
   try simp-implicitDefEqProofs only[hf] at d1 eh
   have u1:s1.eval (.t 1)=some (vI m):=by rw[k1 1 de];simp-implicitDefEqProofs only[↓reduceIte,rA,h1]
   have u2:s1.eval (.t 2)=some (.ptr 0 0):=by rw[k1 2 de];simp-implicitDefEqProofs only[↓reduceIte,rA,h2]
   have u8:s1.eval (.t 8)=some (vI (i:Nat)):=by rw[k1 8 de];simp-implicitDefEqProofs only[↓reduceIte,rA,h8]
   have l1:0<s1.h.next:=by rw[eh];exact l0
   have g1:s1.h.get 0=some (.cells e.cells true):=by rw[eh];exact g0
   have w4:IntKind.i64.wrap (m-(b:Int))=m-(b:Int):=IntWalk.i64_in _ om;obtain⟨q,⟨q1,q2⟩,q3⟩:=hk k il om (m-(b:Int)) om om;have w5:IntKind.i64.wrap ((b:Int)+(q:Int))=((b+q:Nat):Int):=aE (n:=b+q) om;simp-implicitDefEqProofs only[V,↓reduceIte,rA,u1,u2,u8,t5,g1,Ex.alt hd,w1,w4,w5,aG q3];refine(oL hw m1 m2 r (i+1) (b+q) _ (aH hd) om om (fun k' hk'=>hk k' (j0 _ hk')) ?_ ?_ ?_ ?_ ?_ ?_ ?_).mono ?_
   all_goals try simp-implicitDefEqProofs only[V,↓reduceIte,rA,u1,u2,d1]
   ·exact l1
   ·exact g1
   rintro x s2 ⟨e1,d2,b',t5,c1,c2⟩;refine⟨e1,d2,b',t5,om,fun h=>?_⟩;have:=c2 h;have:=q2 om;have:=b3 om;rw[dc];omega
theorem xg(e:Ex)(hk:∀k∈e.ks,BulkOk k)(ha:∀k∈e.al,BulkOk k.b):BulkOk e:=fun hw m m1 m2=>by
 have hwe:=e.wt_eq;refine Ib kr Nb (dm (Tree.ex e) (Tree.val _)) fun s hs hh hd=>?_
 have h0:=hs 0 _ rfl;have h1:=hs 1 _ rfl;simp-implicitDefEqProofs only[Dg,f15,V,h0,hh];refine(ug (C:=0) (e:=e) (m:=m) hw m1 m2 ?_ ?_ ?_ ?_).mono ?_
 all_goals try simp-implicitDefEqProofs only[V,↓reduceIte,rA,h1]
 ·exact Nat.zero_lt_one
 rintro x s1 ⟨rfl,d1,eh,⟨b,t5,b1,b2⟩,k1⟩
 try simp-implicitDefEqProofs only[hd] at d1 eh
 have u1:s1.eval (.t 1)=some (vI m):=by rw[k1 1 de];simp-implicitDefEqProofs only[↓reduceIte,rA,h1]
 have u2:s1.eval (.t 2)=some (.ptr 0 0):=by rw[k1 2 de];simp-implicitDefEqProofs only[↓reduceIte,rA]
 simp-implicitDefEqProofs only[V];refine(oN hw m1 m2 e.pm.l 0 b _ rfl (ir _) om ?_ ?_ ?_ ?_ ?_ ?_ ?_ ?_).mono ?_
 all_goals try simp-implicitDefEqProofs only[V,↓reduceIte,rA,u1,u2,t5,d1,eh]
 ·exact NoTag.empty.alloc
 ·exact Nat.zero_lt_one
 ·rfl
 rintro x s2 ⟨rfl,d2,l2,g2,v1,v2,c,t5,c1,c2⟩;simp-implicitDefEqProofs only[V,WF];refine(oM hw m1 m2 e.ks 0 c _ rfl (ir _) om hk ?_ ?_ ?_ ?_ ?_ ?_ ?_).mono ?_
 all_goals try simp-implicitDefEqProofs only[V,↓reduceIte,rA,v1,v2,t5,d2]
 ·exact l2
 ·exact g2
 ·rfl
 rintro x s3 ⟨rfl,d3,l3,g3,y1,y2,a,t5,a1,a2⟩;simp-implicitDefEqProofs only[V,WF];refine(oL hw m1 m2 e.al 0 a _ rfl (ir _) om ha ?_ ?_ ?_ ?_ ?_ ?_ ?_).mono ?_
 all_goals try simp-implicitDefEqProofs only[V,↓reduceIte,rA,y1,y2,t5,d3]
 ·exact l3
 ·exact g3
 ·rfl
 rintro x s4 ⟨rfl,d4,z,t5,z1,z2⟩;simp-implicitDefEqProofs only[V,↓reduceIte,reduceCtorEq,WF,t5,d4];refine⟨z,⟨om,fun h=>?_⟩,rfl⟩;have p1:=z2 h;have p2:=a2 om;have p3:=c2 om;rw[e.sz_eq];omega
mutual
theorem vF:∀e:Ex,BulkOk e
 |.mk o s n ks nl cap pm al anl acap ty=>xg (.mk o s n ks nl cap pm al anl acap ty) (Ef ks) (Eg al)
theorem Ef:∀l:List Ex,∀k∈l,BulkOk k
 | [],k,hk=>by cases hk
 |p::r,k,hk=>by
  rcases i8.1 hk with e|hk
  ·rw[e];exact vF p
  ·exact Ef r k hk
theorem Eg:∀l:List Al,∀k∈l,BulkOk k.b
 | [],k,hk=>by cases hk
 |.mk c ns b::r,k,hk=>by
  rcases i8.1 hk with e|hk
  ·rw[e];exact vF b
  ·exact Eg r k hk
end
end Go.Proofs.YtkmoeaplhnabcaaGreatDoor
