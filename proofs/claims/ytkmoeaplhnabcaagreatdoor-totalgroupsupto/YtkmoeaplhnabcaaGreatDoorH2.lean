/- TDocA TDocB TDocR -/
import Derived.Test.YtkmoeaplhnabcaaGreatDoorU0
import Derived.Test.YtkmoeaplhnabcaaGreatDoorN4
import Derived.Test.YtkmoeaplhnabcaaGreatDoorH1

set_option linter.all false
open Nat renaming reduceEqDiff → rA, reduceAdd → rB, reduceMul → rC
open Int renaming reduceEq → rD, reduceLT → rE, reduceLE → rF
open Option.some renaming injEq → sI
open Prod.mk renaming injEq → pI
open Bool renaming and_self → io, false_and → B7, true_and → A1
open List renaming all_cons → j5, all_nil → j4, append_assoc → ji, append_nil → j6, filter_cons → A6, length_append → iq, length_cons → il, length_map → je, length_nil → jc, mem_append → jb, mem_cons_self → im, mem_filter → A9, mem_singleton → ig, nodup_nil → Af, take_succ_cons → js, take_zero → jx
open Nat renaming le_refl → i7, zero_le → ip, zero_lt_one → Bb
namespace Go.Proofs.YtkmoeaplhnabcaaGreatDoor
open Go Go.AM
set_option maxHeartbeats 4000000
variable [KR]
theorem lI{s:St}{K:St→Prop}{rest:List DOp}{done:List DRec}{dst:Option Nat}{rd fr:List Nat}{f:Nat}{xs:List Opd}{l:List AV}{v:AV}{h1:AH}(hxs:xs.all (opdIn rd)=true)(hpl:(rd.all fun t=>plainT (s.eval (.t t)))=true)(he:evalAll s xs=some l)
  (hc:RunCall E1 (.f f) l (restrictH s.h []) v h1) (hn:s.h.next≤h1.next) (hf:∀j∈fr,j<done.length)
  (k:∀rec h',h'.next=h1.next→(∀x,s.h.next≤x→x<h1.next→h'.get x=h1.get x)→(∀x,x<s.h.next→h'.get x=s.h.get x)→(NoTag s.h→NoTag h1→NoTag h')→DrawTo E1 rest (done++[rec]) ((s.toH h').put dst v) K):
  DrawTo E1 (⟨⟨dst,none,.call f xs⟩,rd,fr⟩::rest) done s K:=by
 have hvs:idsL (pickTm s.tm rd).vals=[]:=by
  cases hq:idsL (pickTm s.tm rd).vals with
  |nil=>rfl
  |cons x l=>
   obtain⟨j,hj,w,hw,hxw⟩:=dp (s:=s) (l:=rd) (x:=x) (by rw[hq];exact im)
   have:=List.all_eq_true.1 hpl j hj;rw[hw] at this;have:ids w=[]:=List.isEmpty_iff.1 this;rw[this] at hxw;cases hxw
 have hev:evalAll {tm:=pickTm s.tm rd,h:=restrictH s.h [],defers:=[],round:=s.round} xs=some l:=by
  rw[←he];exact gl hxs
 have hble:Nat.ble s.h.next h1.next=true:=Nat.ble_eq.mpr hn;have hst:Ev fun n=>stepDraw E1 (ag E1 (exec E1 n)) ⟨⟨dst,none,.call f xs⟩,rd,fr⟩ (nearOf done fr) s=some (v,⟨[],[],s.h.next,h1.next⟩,mergeH s.h [] h1):=by
  refine hc.mono fun n p=>?_
  have b0:below s.h.next []=true:=rfl;have k0:knownH s.h []=true:=rfl;have f0:∀tm:Tr AV,foot {tm:=tm,h:=s.h,defers:=[],round:=s.round} [] (.call f xs)=[]:=fun _=>rfl;simp only[stepDraw,wantedA,hvs,f0,b0,k0,io,cond_true,runOp,hev,p,Option.bind_some,isCall,List.isEmpty_nil,hble,List.filter_nil]
 refine an (d:=⟨⟨dst,none,.call f xs⟩,rd,fr⟩) (cR (R:=[]) (fun x _ r hr=>by cases hr) (fun b hb=>hb) hf) hst (k _ _ rfl ?_ ?_ ?_)
 ·intro x x1 x2;rw[cF hn,if_pos ⟨x1,x2⟩]
 ·intro x x1;rw[cF hn,if_neg om,if_neg (by simp)]
 ·exact U32
theorem oH(e:Ex)(hz:e.sz<2^22)(h:AH):RunCall E1 (.f 115) [.agg e.cells] h (nmV (nmC (occ e []))) h:=by
 have hc:=lW e true ⟨[],nilK,none⟩ (by simp only[jc];omega)
 rw[yR] at hc;refine xI kr Lr (ei (Tree.ex e)) (fun s hs hh hd hr=>?_) h;have h0:=hs 0 _ rfl;have hc:∀h,RunCall E1 (.f 53) [.agg e.cells,.val (.slice none 0 0),vB true] h (nmV (nmC (occ e []))) h:=hc;simp-implicitDefEqProofs only[xp,f115,V,↓reduceIte,rA,reduceCtorEq,h0,hh,hd,aA hc];exact⟨_,rfl,1,de,Rep.leaf Vl.leaf⟩
theorem kp(e:Ex)(hz:e.sz<2^22)(h:AH):RunCall E1 (.f 32) [.agg e.cells] h (nmV (freeS e)) h:=by
 have hc:=lW e false ⟨[],nilK,none⟩ (by simp only[jc];omega)
 rw[uv] at hc;have hol:=bo e [];have hu:∀h,RunCall E1 (.f 52) [nmV (nmE (occ e [])),.val (.slice none 0 0)] h (nmV (freeS e)) h:=fun h=>gU (nmE (occ e [])) [] (by rw[nmE,je];omega) de h
 refine xI kr Ri (ei (Tree.ex e)) (fun s hs hh hd hr=>?_) h;have h0:=hs 0 _ rfl;have hc:∀h,RunCall E1 (.f 53) [.agg e.cells,.val (.slice none 0 0),vB false] h (nmV (nmE (occ e []))) h:=hc;simp-implicitDefEqProofs only[Hf,f32,V,↓reduceIte,rA,reduceCtorEq,h0,hh,hd,aA hc,aA hu];exact⟨_,rfl,1,de,Rep.leaf Vl.leaf⟩
theorem uN{m:Md}(hmn:m.ds.l.length<2^61){N:Vl ByteArray}{i:Nat}{x:ByteArray}{r:List ByteArray}{s:St}{B:Nat}{Q:AM.Ex→St→Prop}(hd:N.l.drop i=x::r)(hB:B<s.h.next)(gB:s.h.get B=some (.cells m.cells true))(h2:s.eval (.t 2)=some (.ptr B 0))(h8:s.eval (.t 8)=some (N.A strA))(h9:s.eval (.t 9)=some (vI (i:Nat)))
  (post:∀s',(∀j,j<10→s'.eval (.t j)=s.eval (.t j))→s'.eval (.t 11)=some (vB (kn m x))→(∃cs,s'.h=(s.h.alloc (.cells zDf true)).put s.h.next (some (.cells cs true)))→s'.defers=s.defers→Q .normal s'):Run E1 xw s Q:=by
 have hcall:=fun h=>cY m x hmn h;have nB:niceT s.h (some (.ptr B 0))=true:=bZ hB gB (by rw[m.ids0];rfl)
 have ids2:ids (.agg m.cells)=[]:=by show idsL m.cells=[];exact m.ids0
 have hans:∃cs,ansD x m.ds.l=.tup [.agg cs,vB (kn m x)]∧idsL cs=[]∧cs.length=25:=by
  rw[ansD,kn];cases fndD x m.ds.l with
  |none=>exact⟨zDf,rfl,by rw[pe];exact dZ.ids0,rfl⟩
  |some d=>exact⟨d.cells,rfl,d.ids0,d.len⟩
 obtain⟨cs,e1,ci,cl⟩:=hans;have ids3:ids (.tup [.agg cs,vB (kn m x)])=[]:=by
  show idsL [.agg cs,vB (kn m x)]=[];simp only[idsL,ids,ci,j6]
 have vi:∀v,ids (AV.val v)=[]:=fun _=>rfl;rw[e1] at hcall;refine nc (ops:=lf) (pre:=lf.take 9) (a:=10) (x:=37) (b:=38) (c:=11) (n:=25) (z:=zDf) (fr0:=[0,1,2,3,4,5,6,7,8]) (fr1:=[8]) rfl rfl rfl rfl de de de ?_
 simp-implicitDefEqProofs only[lf,js,jx,wpDr,bA,j5,j4,V,↓reduceIte,rA,h2,h8,h9,gB,nB,N.at aI hd,bR,ab,aJ ids2,aU ids2,aJ Vl.ids,aJ (vi _),aU (vi _),io];refine⟨_,hcall,aJ ids3,aJ ids3,?_⟩;simp-implicitDefEqProofs only[V,↓reduceIte,rA,aJ ids3];refine⟨cs,rfl,ci,cl,?_⟩;refine post _ (fun j hj=>?_) ?_ ⟨cs,rfl⟩ rfl
 ·have q:∀n,10≤n→(j=n)=False:=fun n hn=>by simp;omega
  simp-implicitDefEqProofs only[V,↓reduceIte,q 10 om,q 11 om,q 30 om,q 31 om,q 32 om,q 33 om,q 34 om,q 35 om,q 36 om,q 37 om,q 38 om]
 ·exact U36
theorem uM{d:Df}(hN:d.ps.l.length<2^61){N:Vl ByteArray}{i:Nat}{x:ByteArray}{r:List ByteArray}{s:St}{C:Nat}{b:Bool}(hd:N.l.drop i=x::r)(hC:C<s.h.next)(gC:s.h.get C=some (.cells d.cells true))(h5:s.eval (.t 5)=some (.ptr C 0))(h8:s.eval (.t 8)=some (N.A strA))(h9:s.eval (.t 9)=some (vI (i:Nat)))(h11:s.eval (.t 11)=some (vB b)):
  Run E1 xu s fun e s'=>e=.normal∧s'.h=s.h∧s'.defers=s.defers∧s'.eval (.t 49)=some (vB (b&& !memS x d.ps.l))∧∀j,j<12→s'.eval (.t j)=s.eval (.t j):=by
 have nC:∀o,niceT s.h (some (.ptr C o))=true:=fun o=>bZ hC gC (by rw[d.ids0];rfl)
 have vi:∀v,ids (AV.val v)=[]:=fun _=>rfl;have nu:niceT s.h (some undefA)=true:=rfl;have hc26:=dg d.ps x hN;refine bd (ops:=lc) rfl ?_
 have q:∀j,j<12→∀n,12≤n→(j=n)=False:=fun j hj n hn=>by simp;omega
 cases b with
 |true=>
  simp-implicitDefEqProofs only[lc,wpDr,bA,eu,pA,iG,j5,j4,V,↓reduceIte,rA,h5,h8,h9,h11,nC,gC,N.at aI hd,bR,aJ Vl.ids,aU Vl.ids,aJ (vi _),aU (vi _),ab,io];refine⟨_,hc26,?_⟩;simp-implicitDefEqProofs only[V,↓reduceIte,rA,aJ (vi _),io];intro j hj;have q:=q j hj;exact U99
 |false=>
  simp-implicitDefEqProofs only[lc,wpDr,bA,eu,iG,j5,j4,V,↓reduceIte,rA,h5,h8,h9,h11,nC,gC,N.at aI hd,bR,aJ Vl.ids,aU Vl.ids,aJ (vi _),aU (vi _),ab,nu,io];intro j hj;have q:=q j hj;exact U99
theorem kN{m:Md}(hmn:m.ds.l.length<2^61){d:Df}(hN:d.ps.l.length<2^61){N:Vl ByteArray}(hNl:N.l.length<2^28){B C lo:Nat}(hBC:B<lo∧C<lo):∀(r:List ByteArray) (i:Nat) (s:St) (acc:List ByteArray) (v:AV),N.l.drop i=r→i≤N.l.length→acc.length+r.length<2^28→RowC s.h lo acc.length 1 v (acc.flatMap strA)→lo≤s.h.next→s.h.get B=some (.cells m.cells true)→s.h.get C=some (.cells d.cells true)→NoTag s.h→s.eval (.t 2)=some (.ptr B 0)→s.eval (.t 5)=some (.ptr C 0)→s.eval (.t 6)=some (vB true)→s.eval (.t 7)=some v→s.eval (.t 8)=some (N.A strA)→s.eval (.t 9)=some (vI (i:Nat))→s.defers=[]→
  Run E1 iR s fun e s'=>e=.exit 0∧s'.defers=[]∧lo≤s'.h.next∧(∀y,y<lo→s'.h.get y=s.h.get y)∧NoTag s'.h∧∃v',s'.eval (.t 7)=some v'∧RowC s'.h lo (acc++r.filter fun x=> !(memS x d.ps.l||(fndD x m.ds.l).isNone)).length 1 v' ((acc++r.filter fun x=> !(memS x d.ps.l||(fndD x m.ds.l).isNone)).flatMap strA)
 | [],i,s,acc,v,hd,hi,hA,hr,l1,gB,gC,nt,h2,h5,h6,h7,h8,h9,hf=>by
  have hl:=aK hd hi;subst hl;apply aC (rfl:iR=.loop dv);rw[show acc++List.filter (fun x=> !(memS x d.ps.l||(fndD x m.ds.l).isNone)) []=acc from j6 _];simp-implicitDefEqProofs only[dv,V,↓reduceIte,rA,h7,h8,h9,hf,bS];exact⟨l1,fun _ _=>trivial,nt,v,rfl,hr⟩
 |x::r,i,s,acc,v,hd,hi,hA,hr,l1,gB,gC,nt,h2,h5,h6,h7,h8,h9,hf=>by
  have hl:=aL hd;have hlt:=bQ hl;have w1:IntKind.i64.wrap ((i:Int)+1)=((i+1:Nat):Int):=aE (n:=i+1) om;rw[il] at hA;apply aC (rfl:iR=.loop dv);have hp:(kn m x&& !memS x d.ps.l)= !(memS x d.ps.l||(fndD x m.ds.l).isNone):=by
   rw[kn];cases memS x d.ps.l<;>cases fndD x m.ds.l<;>rfl
  rw[A6,←hp];simp-implicitDefEqProofs only[dv,V,↓reduceIte,rA,h6,h8,h9,hlt];refine uN (B:=B) hmn hd ?_ ?_ ?_ ?_ ?_ ?_
  ·exact U40
  ·exact U64
  ·exact U53
  ·exact U100
  ·exact U44
  intro s1 k1 t11 ⟨cs,eh⟩ d1;simp-implicitDefEqProofs only[V] at eh d1;have n1:s1.h.next=s.h.next+1:=by rw[eh];rfl
  have o1:∀y,y<s.h.next→s1.h.get y=s.h.get y:=fun y hy=>by rw[eh,aQ om,aD hy]
  have nt1:NoTag s1.h:=by rw[eh];exact bp nt.alloc
  have u2:s1.eval (.t 2)=some (.ptr B 0):=by rw[k1 2 de];simp-implicitDefEqProofs only[V,↓reduceIte,rA,h2]
  have u5:s1.eval (.t 5)=some (.ptr C 0):=by rw[k1 5 de];simp-implicitDefEqProofs only[V,↓reduceIte,rA,h5]
  have u6:s1.eval (.t 6)=some (vB true):=by rw[k1 6 de];simp-implicitDefEqProofs only[V,↓reduceIte,rA,h6]
  have u7:s1.eval (.t 7)=some v:=by rw[k1 7 de];simp-implicitDefEqProofs only[V,↓reduceIte,rA,h7]
  have u8:s1.eval (.t 8)=some (N.A strA):=by rw[k1 8 de];simp-implicitDefEqProofs only[V,↓reduceIte,rA,h8]
  have u9:s1.eval (.t 9)=some (vI (i:Nat)):=by rw[k1 9 de];simp-implicitDefEqProofs only[V,↓reduceIte,rA,h9]
  simp-implicitDefEqProofs only[V];refine(uM (C:=C) hN hd om (by rw[o1 C om,gC]) u5 u8 u9 t11).mono ?_
  rintro e s2 ⟨rfl,eh2,d2,t49,k2⟩;have v2:s2.eval (.t 2)=some (.ptr B 0):=by rw[k2 2 de,u2]
  have v5:s2.eval (.t 5)=some (.ptr C 0):=by rw[k2 5 de,u5]
  have v6:s2.eval (.t 6)=some (vB true):=by rw[k2 6 de,u6]
  have v7:s2.eval (.t 7)=some v:=by rw[k2 7 de,u7]
  have v8:s2.eval (.t 8)=some (N.A strA):=by rw[k2 8 de,u8]
  have v9:s2.eval (.t 9)=some (vI (i:Nat)):=by rw[k2 9 de,u9]
  have hr2:RowC s2.h lo acc.length 1 v (acc.flatMap strA):=by rw[eh2];exact hr.to om fun y _ y2=>o1 y y2
  have o2:∀y,y<s.h.next→s2.h.get y=s.h.get y:=fun y hy=>by rw[eh2,o1 y hy]
  have n2:s2.h.next=s.h.next+1:=by rw[eh2,n1]
  have nt2:NoTag s2.h:=by rw[eh2];exact nt1
  cases q:(kn m x&& !memS x d.ps.l) with
  |false=>
   rw[q] at t49;simp-implicitDefEqProofs only[V,↓reduceIte,reduceCtorEq,t49,v9,w1];refine(kN hmn hN hNl hBC r (i+1) _ acc v (aF hd) om om ?_ ?_ ?_ ?_ ?_ ?_ ?_ ?_ ?_ ?_ ?_ ?_).mono ?_
   all_goals try simp-implicitDefEqProofs only[V,↓reduceIte,rA,v2,v5,v6,v7,v8,d2,d1,hf]
   ·exact hr2
   ·omega
   ·rw[o2 B om,gB]
   ·rw[o2 C om,gC]
   ·exact nt2
   rintro e s3 ⟨e1,d3,n3,o3,H⟩
   try simp-implicitDefEqProofs only[V,↓reduceIte,rA,rB,rC,reduceCtorEq,rD,rE,rF] at o3
   exact⟨e1,d3,n3,fun y hy=>by rw[o3 y hy,o2 y om],H⟩
  |true=>
   rw[q] at t49;have hb:(acc++[x]).length=acc.length+1:=by rw[iq];rfl
   simp-implicitDefEqProofs only[V,↓reduceIte,rA,WF,t49,v7,v8,v9,N.at aI hd,bR];refine dJ (k:=acc.length) (m:=1) (lo:=lo) (v:=v) (x:=.own s2.h.next 0 1 1 (some 1)) (cs:=acc.flatMap strA) (new:=[vS x]) ?_ ?_ ?_ de rfl ?_ (aN (bytes:=16) om de) ?_ ?_ ?_
   ·exact U76
   ·exact U40
   ·refine ae (rw':=true) ?_ rfl;exact U36
   ·exact fun c hc=>by rw[ig.1 hc];exact Leaf.val _
   ·exact U36
   ·exact U36
   intro h3' r3 m3 o3 t3;simp-implicitDefEqProofs only[V] at m3 o3 r3 t3;have m3:s2.h.next+1≤h3'.next:=m3;simp-implicitDefEqProofs only[V,↓reduceIte,rA,v9,w1];have o3':∀y,y<lo→h3'.get y=s.h.get y:=fun y hy=>by
    rw[o3 y om (fun q=>by have:=(hr2.ids y q).1;omega),if_neg om,o2 y om]
   rw[show acc++x::List.filter (fun x=> !(memS x d.ps.l||(fndD x m.ds.l).isNone)) r=(acc++[x])++List.filter (fun x=> !(memS x d.ps.l||(fndD x m.ds.l).isNone)) r by rw[ji];rfl]
   refine(kN hmn hN hNl hBC r (i+1) _ (acc++[x]) (.own (s2.h.next+1) 0 (acc.length+1) 1 none) (aF hd) om om ?_ ?_ ?_ ?_ ?_ ?_ ?_ ?_ ?_ ?_ ?_ ?_).mono ?_
   all_goals try simp-implicitDefEqProofs only[V,↓reduceIte,rA,v2,v5,v6,v8,d2,d1,hf]
   ·exact U81
   ·omega
   ·rw[o3' B hBC.1,gB]
   ·rw[o3' C hBC.2,gC]
   ·exact t3 nt2.alloc
   rintro e s4 ⟨e1,d3,n4,o4,H⟩
   try simp-implicitDefEqProofs only[V,↓reduceIte,rA,rB,rC,reduceCtorEq,rD,rE,rF] at o4
   exact⟨e1,d3,n4,fun y hy=>by rw[o4 y hy,o3' y hy],H⟩
theorem g9{m:Md}(hm:MdT m)(x:ByteArray){h:AH}(nt:NoTag h):∃v h',RunCall E1 (.f 111) [.agg m.cells,vS x] h v h'∧RowC h' h.next (sucM m x).length 1 v ((sucM m x).flatMap strA)∧h.next≤h'.next∧(∀y,y<h.next→h'.get y=h.get y)∧NoTag h':=by
 have hmn:=hm.n;obtain⟨v,h',hrun,hP⟩:=dC (g:=111) (l:=[.agg m.cells,vS x]) (h:=h) (fun v h'=>RowC h' h.next (sucM m x).length 1 v ((sucM m x).flatMap strA)∧h.next≤h'.next∧(∀y,y<h.next→h'.get y=h.get y)∧NoTag h') kr Lu fun s hs hh hd hrd=>by
  have h0:=hs 0 _ rfl;have h1:=hs 1 _ rfl;have c1:(h.next=h.next+1)=False:=by simp
  cases qd:fndD x m.ds.l with
  |none=>
   have e1:ansD x m.ds.l=.tup [.agg zDf,vB false]:=by rw[ansD,qd]
   have hsu:sucM m x=[]:=by rw[sucM,qd]
   have hz32:∀h,RunCall E1 (.f 32) [.agg zEx.cells] h (nmV (freeS zEx)) h:=kp zEx de;have hl32:lenV (nmV (freeS zEx))=some (vI (((freeS zEx).length:Nat):Int)):=qU;have hzb:takeN (some 7) (zDf.drop 2)=some (.agg zEx.cells):=by
    rw[pe];show takeN (some 7) (dZ.b.cells++_)=_;exact Ex.row
   have hcf:cfB (some (.cells zDf true)) 2=some (zDf.drop 2):=rfl;rw[hsu];simp-implicitDefEqProofs only[rg,f111,V,↓reduceIte,rA,WF,h0,h1,hh,aA (cY m x om),e1,bP,l6,hcf,hzb,aA hz32];apply aC (rfl:iR=.loop dv);cases ql:decide (((0:Nat):Int)<(((freeS zEx).length:Nat):Int)) with
   |false=>
    have ql':decide ((0:Int)<(((freeS zEx).length:Nat):Int))=false:=ql;simp-implicitDefEqProofs only[dv,V,↓reduceIte,rA,reduceCtorEq,WF,hl32,ql',hd]
    trace_state
    refine⟨_,rfl,RowC.nil,om,fun y hy=>?_,bp nt.alloc.alloc⟩;rw[if_neg om,if_neg om,if_neg om]
   |true=>
    have ql':decide ((0:Int)<(((freeS zEx).length:Nat):Int))=true:=ql;simp-implicitDefEqProofs only[dv,V,↓reduceIte,rA,reduceCtorEq,WF,hl32,ql',hd]
    trace_state
    refine⟨_,rfl,RowC.nil,om,fun y hy=>?_,bp nt.alloc.alloc⟩;rw[if_neg om,if_neg om,if_neg om]
  |some d=>
   have e1:ansD x m.ds.l=.tup [.agg d.cells,vB true]:=by rw[ansD,qd]
   obtain⟨hdm,_⟩:=d9 qd;obtain⟨b1,b2⟩:=hm.b d hdm;have hsu:sucM m x=(freeS d.b).filter fun x=> !(memS x d.ps.l||(fndD x m.ds.l).isNone):=by rw[sucM,qd];rfl
   have hfl:=jP d.b;have hc32:∀h,RunCall E1 (.f 32) [.agg d.b.cells] h (nmV (freeS d.b)) h:=kp d.b om;rw[hsu];simp-implicitDefEqProofs only[rg,f111,V,↓reduceIte,rA,WF,h0,h1,hh,aA (cY m x om),e1,bP,cm,aA hc32];refine(kN (m:=m) (d:=d) om om (N:=⟨freeS d.b,nilK,none⟩) (by show(freeS d.b).length<_;omega) (B:=h.next) (C:=h.next+1) (lo:=h.next+2) ⟨om,om⟩ (freeS d.b) 0 _ [] (.val (.slice none 0 0)) rfl (ip _) (by simp only[jc];omega) RowC.nil ?_ ?_ ?_ ?_ ?_ ?_ ?_ ?_ ?_ ?_ ?_).mono ?_
   all_goals try simp-implicitDefEqProofs only[V,↓reduceIte,rA,hd,c1]
   ·exact i7 _
   ·exact bp nt.alloc.alloc
   ·rfl
   ·rfl
   rintro e s1 ⟨rfl,d1,n1,o1,nt1,v,t7,r1⟩
   try simp-implicitDefEqProofs only[V,↓reduceIte,rA,rB,rC,reduceCtorEq,rD,rE,rF] at o1
   simp-implicitDefEqProofs only[V,↓reduceIte,reduceCtorEq,WF,t7,d1];rw[List.nil_append] at r1;refine⟨_,rfl,r1.low om,om,fun y hy=>?_,nt1⟩;rw[o1 y om,if_neg om,if_neg om,if_neg om]
 exact⟨v,h',hrun,hP⟩
theorem gQ{s:St}{i:Nat}{b c:Bool}(h:s.eval (.t i)=some (vB b)):wantedA s (some (i,c))=some (b==c):=by
 have h:s.tm.get i=some (vB b):=h;show(match s.tm.get i with|some (.val (.bool d))=>some (d==c)|some (.tup [])=>some false|_=>none)=_;rw[h]
theorem ox{h:AH}{lo:Nat}{v:AV}{l:List ByteArray}{b:ByteArray}(r:RowX h lo l.length 1 v (l.flatMap strA))(hN:l.length<2^61):RunCall E1 (.f 50) [v,vS b] h (vB (memS b l)) h:=by
 obtain⟨h1,f1,f2,f3,f4⟩:=bG r;obtain⟨nl,cap,e⟩:=fQ r;refine cZ (xs:=[]) (ys:=[vS b]) kr (fun v hv=>by cases hv) (ei (Tree.val _)) jG.tree f1 f4 rfl fun h=>?_
 rw[e];exact dc ⟨l,nl,cap⟩ b hN h
theorem oy{h:AH}{lo:Nat}{v:AV}{l:List ByteArray}{b:ByteArray}(r:RowX h lo l.length 1 v (l.flatMap strA))(hN:l.length<2^61):RunCall E1 (.f 26) [v,vS b] h (vB (memS b l)) h:=by
 obtain⟨h1,f1,f2,f3,f4⟩:=bG r;obtain⟨nl,cap,e⟩:=fQ r;refine cZ (xs:=[]) (ys:=[vS b]) kr (fun v hv=>by cases hv) (ei (Tree.val _)) jG.tree f1 f4 rfl fun h=>?_
 rw[e];exact dg ⟨l,nl,cap⟩ b hN h
theorem vx{m:Md}(hmn:m.ds.l.length<2^61){N:Vl ByteArray}{i:Nat}{x:ByteArray}{r:List ByteArray}{s:St}{B:Nat}{Q:AM.Ex→St→Prop}(hd:N.l.drop i=x::r)(hB:B<s.h.next)(gB:s.h.get B=some (.cells m.cells true))(h2:s.eval (.t 2)=some (.ptr B 0))(h8:s.eval (.t 8)=some (N.A strA))(h9:s.eval (.t 9)=some (vI (i:Nat)))
  (post:∀s',(∀j,j<10→s'.eval (.t j)=s.eval (.t j))→s'.eval (.t 11)=some (vB (kn m x))→(∃cs,s'.h=(s.h.alloc (.cells zDf true)).put s.h.next (some (.cells cs true)))→s'.defers=s.defers→Q .normal s'):Run E1 Fr s Q:=by
 have hcall:=fun h=>cY m x hmn h;have nB:niceT s.h (some (.ptr B 0))=true:=bZ hB gB (by rw[m.ids0];rfl)
 have ids2:ids (.agg m.cells)=[]:=by show idsL m.cells=[];exact m.ids0
 have hans:∃cs,ansD x m.ds.l=.tup [.agg cs,vB (kn m x)]∧idsL cs=[]∧cs.length=25:=by
  rw[ansD,kn];cases fndD x m.ds.l with
  |none=>exact⟨zDf,rfl,by rw[pe];exact dZ.ids0,rfl⟩
  |some d=>exact⟨d.cells,rfl,d.ids0,d.len⟩
 obtain⟨cs,e1,ci,cl⟩:=hans;have ids3:ids (.tup [.agg cs,vB (kn m x)])=[]:=by
  show idsL [.agg cs,vB (kn m x)]=[];simp only[idsL,ids,ci,j6]
 have vi:∀v,ids (AV.val v)=[]:=fun _=>rfl;rw[e1] at hcall;refine nc (ops:=qp) (pre:=qp.take 9) (a:=10) (x:=36) (b:=37) (c:=11) (n:=25) (z:=zDf) (fr0:=[0,1,2,3,4,5,6,7,8]) (fr1:=[8]) rfl rfl rfl rfl de de de ?_
 simp-implicitDefEqProofs only[qp,js,jx,wpDr,bA,j5,j4,V,↓reduceIte,rA,h2,h8,h9,gB,nB,N.at aI hd,bR,ab,aJ ids2,aU ids2,aJ Vl.ids,aJ (vi _),aU (vi _),io];refine⟨_,hcall,aJ ids3,aJ ids3,?_⟩;simp-implicitDefEqProofs only[V,↓reduceIte,rA,aJ ids3];refine⟨cs,rfl,ci,cl,?_⟩;refine post _ (fun j hj=>?_) ?_ ⟨cs,rfl⟩ rfl
 ·have q:∀n,10≤n→(j=n)=False:=fun n hn=>by simp;omega
  simp-implicitDefEqProofs only[V,↓reduceIte,q 10 om,q 11 om,q 29 om,q 30 om,q 31 om,q 32 om,q 33 om,q 34 om,q 35 om,q 36 om,q 37 om]
 ·exact U36
theorem vw{d:Df}(hN:d.ps.l.length<2^61){N:Vl ByteArray}{i:Nat}{x:ByteArray}{r:List ByteArray}{s:St}{C lo:Nat}{b:Bool}{acc:List ByteArray}{v:AV}(hd:N.l.drop i=x::r)(hC:C<s.h.next)(gC:s.h.get C=some (.cells d.cells true))(hr:RowC s.h lo acc.length 1 v (acc.flatMap strA))(hA:acc.length<2^61)(nt:NoTag s.h)(h5:s.eval (.t 5)=some (.ptr C 0))(h7:s.eval (.t 7)=some v)(h8:s.eval (.t 8)=some (N.A strA))(h9:s.eval (.t 9)=some (vI (i:Nat)))(h11:s.eval (.t 11)=some (vB b)):
  Run E1 Fq s fun e s'=>e=.normal∧s'.h.next=s.h.next∧(∀y,s'.h.get y=s.h.get y)∧s'.defers=s.defers∧s'.eval (.t 57)=some (vB ((b&& !memS x d.ps.l)&& !memS x acc))∧∀j,j<12→s'.eval (.t j)=s.eval (.t j):=by
 have nC:∀o,niceT s.h (some (.ptr C o))=true:=fun o=>bZ hC gC (by rw[d.ids0];rfl)
 have vi:∀v,ids (AV.val v)=[]:=fun _=>rfl;have nu:niceT s.h (some undefA)=true:=rfl;have hc50:=dc d.ps x hN;have q:∀j,j<12→∀n,12≤n→(j=n)=False:=fun j hj n hn=>by simp;omega
 refine bM (ops:=fq) (pre:=fq.take 17++[⟨⟨some 55,some (49,true),.call 50 [.t 50,.t 54]⟩,[50,54,49],[]⟩,⟨⟨some 56,some (49,true),.un .not (.t 55)⟩,[55,49],[]⟩]) (d:=⟨⟨some 57,none,.pick (.t 49) (.t 56) (.c (vB false))⟩,[49,56],[]⟩) rfl ?_
 refine br (fq.take 17) [] _ rfl (fun x hx=>by cases hx) ?_
 cases hb:b&& !memS x d.ps.l with
 |false=>
  rw[B7];cases b with
  |false=>
   simp-implicitDefEqProofs only[fq,js,jx,wpDr,bA,eu,iG,j5,j4,V,↓reduceIte,rA,h5,h7,h8,h9,h11,nC,gC,N.at aI hd,bR,aJ Vl.ids,aU Vl.ids,aJ (vi _),aU (vi _),ab,nu,hr.nice,io];intro _ done' hd' _;have e49:∀s1:St,s1.eval (.t 49)=some (vB false)→wantedA s1 (some (49,true))=some false:=fun s1 h=>gQ h;refine fP rfl (e49 _ U36) (by simp) ?_
   refine fP rfl (e49 _ U36) (by simp) ?_
   refine bO ?_
   simp-implicitDefEqProofs only[V,↓reduceIte,rA];refine⟨fun _=>trivial,fun j hj=>?_⟩;have q:=q j hj;exact U101
  |true=>
   have hm:memS x d.ps.l=true:=by rw[A1] at hb;simpa using hb
   simp-implicitDefEqProofs only[fq,js,jx,wpDr,bA,eu,pA,iG,j5,j4,V,↓reduceIte,rA,h5,h7,h8,h9,h11,nC,gC,N.at aI hd,bR,aJ Vl.ids,aU Vl.ids,aJ (vi _),aU (vi _),ab,nu,hr.nice,io];refine⟨_,hc50,?_⟩;simp-implicitDefEqProofs only[iG,V,↓reduceIte,rA,hm,h7,h8,h9,aJ Vl.ids,aJ (vi _),nu,hr.nice,io];intro _ done' hd' _;have e49:∀s1:St,s1.eval (.t 49)=some (vB false)→wantedA s1 (some (49,true))=some false:=fun s1 h=>gQ h;refine fP rfl (e49 _ U36) (by simp) ?_
   refine fP rfl (e49 _ U36) (by simp) ?_
   refine bO ?_
   simp-implicitDefEqProofs only[V,↓reduceIte,rA];refine⟨fun _=>trivial,fun j hj=>?_⟩;have q:=q j hj;exact U101
 |true=>
  rw[A1];rw[Bool.and_eq_true] at hb;obtain⟨rfl,hm'⟩:=hb;have hm:memS x d.ps.l=false:=by simpa using hm'
  simp-implicitDefEqProofs only[fq,js,jx,wpDr,bA,eu,pA,iG,j5,j4,V,↓reduceIte,rA,h5,h7,h8,h9,h11,nC,gC,N.at aI hd,bR,aJ Vl.ids,aU Vl.ids,aJ (vi _),aU (vi _),ab,nu,hr.nice,io];refine⟨_,hc50,?_⟩;simp-implicitDefEqProofs only[pA,V,↓reduceIte,rA,hm,h7,h8,h9,N.at aI hd,bR,aJ Vl.ids,aJ (vi _),ab,nu,hr.nice,io];intro _ done' hd' _;refine wo (lo:=lo) (k:=acc.length) (es:=1) (w:=v) (cs:=acc.flatMap strA) (l:=[v,vS x]) (t:=vB (memS x acc)) ?_ (fun j hj=>?_) ⟨50,by simp,?_⟩ rfl ?_ ?_ rfl (gQ (b:=true) ?_) (fun h g1 g2=>?_) fun rec h' n' o'=>?_
  ·simp-implicitDefEqProofs only[V];exact hr.x
  ·simp only[List.mem_cons,List.mem_nil_iff,or_false] at hj;rcases hj with rfl|rfl|rfl
   ·exact⟨v,by simp-implicitDefEqProofs only[V,↓reduceIte,rA],.inr rfl⟩
   ·exact⟨vS x,by simp-implicitDefEqProofs only[V,↓reduceIte],.inl rfl⟩
   ·exact⟨vB true,by simp-implicitDefEqProofs only[V,↓reduceIte,rA],.inl rfl⟩
  ·exact U36
  ·exact U36
  ·simp-implicitDefEqProofs only[V];exact nt
  ·exact U36
  ·simp-implicitDefEqProofs only[V] at g1 g2;exact ox (lo:=lo) (hr.toB om g2).x hA
  simp-implicitDefEqProofs only[V] at n' o';refine vE (v:=vB (!memS x acc)) rfl rfl rfl (gQ (b:=true) ?_) ?_ ?_ (by simp) (bO ?_)
  ·exact U36
  ·simp-implicitDefEqProofs only[V,↓reduceIte,rA,j5,j4];rfl
  ·have e55:∀s2:St,s2.eval (.t 55)=some (vB (memS x acc))→runOp E1 noCall s2 (.un .not (.t 55))=some (vB (!memS x acc),s2):=fun s2 h=>by
    simp only[runOp,h];rfl
   exact e55 _ U36
  simp-implicitDefEqProofs only[V,↓reduceIte,rA];refine⟨n',o',fun j hj=>?_⟩;have q:=q j hj;exact U101
theorem kQ{acc r:List ByteArray}{x:ByteArray}{b:Bool}(h:memS x acc=b):addAll acc (x::r)=addAll (bif b then acc else acc++[x]) r:=by
 show addAll (addS x acc) r=_;rw[addS,h]
theorem mt{m:Md}(hmn:m.ds.l.length<2^61){d:Df}(hN:d.ps.l.length<2^61){N:Vl ByteArray}(hNl:N.l.length<2^28){B C lo:Nat}(hBC:B<lo∧C<lo):∀(r:List ByteArray) (i:Nat) (s:St) (acc:List ByteArray) (v:AV),N.l.drop i=r→i≤N.l.length→acc.length+r.length<2^28→RowC s.h lo acc.length 1 v (acc.flatMap strA)→lo≤s.h.next→s.h.get B=some (.cells m.cells true)→s.h.get C=some (.cells d.cells true)→NoTag s.h→s.eval (.t 2)=some (.ptr B 0)→s.eval (.t 5)=some (.ptr C 0)→s.eval (.t 6)=some (vB true)→s.eval (.t 7)=some v→s.eval (.t 8)=some (N.A strA)→s.eval (.t 9)=some (vI (i:Nat))→s.defers=[]→
  Run E1 qq s fun e s'=>e=.exit 0∧s'.defers=[]∧lo≤s'.h.next∧(∀y,y<lo→s'.h.get y=s.h.get y)∧NoTag s'.h∧∃v',s'.eval (.t 7)=some v'∧RowC s'.h lo (addAll acc (r.filter fun x=>kn m x&& !memS x d.ps.l)).length 1 v' ((addAll acc (r.filter fun x=>kn m x&& !memS x d.ps.l)).flatMap strA)
 | [],i,s,acc,v,hd,hi,hA,hr,l1,gB,gC,nt,h2,h5,h6,h7,h8,h9,hf=>by
  have hl:=aK hd hi;subst hl;apply aC (rfl:qq=.loop mu);rw[show addAll acc (List.filter (fun x=>kn m x&& !memS x d.ps.l) [])=acc from rfl];simp-implicitDefEqProofs only[mu,V,↓reduceIte,rA,h7,h8,h9,hf,bS];exact⟨l1,fun _ _=>trivial,nt,v,rfl,hr⟩
 |x::r,i,s,acc,v,hd,hi,hA,hr,l1,gB,gC,nt,h2,h5,h6,h7,h8,h9,hf=>by
  have hl:=aL hd;have hlt:=bQ hl;have w1:IntKind.i64.wrap ((i:Int)+1)=((i+1:Nat):Int):=aE (n:=i+1) om;rw[il] at hA;apply aC (rfl:qq=.loop mu);simp-implicitDefEqProofs only[mu,V,↓reduceIte,rA,h8,h9,hlt];refine vx (B:=B) hmn hd ?_ ?_ ?_ ?_ ?_ ?_
  ·exact U40
  ·exact U64
  ·exact U53
  ·exact U100
  ·exact U44
  intro s1 k1 t11 ⟨cs,eh⟩ d1;simp-implicitDefEqProofs only[V] at eh d1;have n1:s1.h.next=s.h.next+1:=by rw[eh];rfl
  have o1:∀y,y<s.h.next→s1.h.get y=s.h.get y:=fun y hy=>by rw[eh,aQ om,aD hy]
  have nt1:NoTag s1.h:=by rw[eh];exact bp nt.alloc
  have u2:s1.eval (.t 2)=some (.ptr B 0):=by rw[k1 2 de];simp-implicitDefEqProofs only[V,↓reduceIte,rA,h2]
  have u5:s1.eval (.t 5)=some (.ptr C 0):=by rw[k1 5 de];simp-implicitDefEqProofs only[V,↓reduceIte,rA,h5]
  have u6:s1.eval (.t 6)=some (vB true):=by rw[k1 6 de];simp-implicitDefEqProofs only[V,↓reduceIte,rA,h6]
  have u7:s1.eval (.t 7)=some v:=by rw[k1 7 de];simp-implicitDefEqProofs only[V,↓reduceIte,rA,h7]
  have u8:s1.eval (.t 8)=some (N.A strA):=by rw[k1 8 de];simp-implicitDefEqProofs only[V,↓reduceIte,rA,h8]
  have u9:s1.eval (.t 9)=some (vI (i:Nat)):=by rw[k1 9 de];simp-implicitDefEqProofs only[V,↓reduceIte,rA,h9]
  have hr1:RowC s1.h lo acc.length 1 v (acc.flatMap strA):=hr.to om fun y _ y2=>o1 y y2;simp-implicitDefEqProofs only[V];refine(vw (C:=C) (lo:=lo) (acc:=acc) (v:=v) hN hd om (by rw[o1 C om,gC]) hr1 om nt1 u5 u7 u8 u9 t11).mono ?_
  rintro e s2 ⟨rfl,m2,g2,d2,t57,k2⟩;have v2:s2.eval (.t 2)=some (.ptr B 0):=by rw[k2 2 de,u2]
  have v5:s2.eval (.t 5)=some (.ptr C 0):=by rw[k2 5 de,u5]
  have v6:s2.eval (.t 6)=some (vB true):=by rw[k2 6 de,u6]
  have v7:s2.eval (.t 7)=some v:=by rw[k2 7 de,u7]
  have v8:s2.eval (.t 8)=some (N.A strA):=by rw[k2 8 de,u8]
  have v9:s2.eval (.t 9)=some (vI (i:Nat)):=by rw[k2 9 de,u9]
  have hr2:RowC s2.h lo acc.length 1 v (acc.flatMap strA):=hr1.to om fun y _ y2=>g2 y;have o2:∀y,y<s.h.next→s2.h.get y=s.h.get y:=fun y hy=>by rw[g2,o1 y hy]
  have n2:s2.h.next=s.h.next+1:=by rw[m2,n1]
  have nt2:NoTag s2.h:=fun y c n=>by rw[g2];exact nt1 y c n
  have keep:∀b,((kn m x&& !memS x d.ps.l)&& !memS x acc)=b→addAll acc (List.filter (fun x=>kn m x&& !memS x d.ps.l) (x::r))=addAll (bif b then acc++[x] else acc) (List.filter (fun x=>kn m x&& !memS x d.ps.l) r):=fun b hb=>by
   rw[A6];cases q1:(kn m x&& !memS x d.ps.l) with
   |false=>
    rw[q1] at hb;subst hb;simp only[Bool.false_eq_true,if_false,B7,cond_false]
   |true=>
    rw[q1,A1] at hb;subst hb;rw[if_pos rfl,kQ rfl];cases memS x acc<;>rfl
  cases q:((kn m x&& !memS x d.ps.l)&& !memS x acc) with
  |false=>
   rw[q] at t57;rw[keep _ q,cond_false];simp-implicitDefEqProofs only[V,↓reduceIte,t57,v9,w1];refine(mt hmn hN hNl hBC r (i+1) _ acc v (aF hd) om om ?_ ?_ ?_ ?_ ?_ ?_ ?_ ?_ ?_ ?_ ?_ ?_).mono ?_
   all_goals try simp-implicitDefEqProofs only[V,↓reduceIte,rA,v2,v5,v6,v7,v8,d2,d1,hf]
   ·exact hr2
   ·omega
   ·rw[o2 B om,gB]
   ·rw[o2 C om,gC]
   ·exact nt2
   rintro e s3 ⟨e1,d3,n3,o3,H⟩
   try simp-implicitDefEqProofs only[V,↓reduceIte,rA,rB,rC,reduceCtorEq,rD,rE,rF] at o3
   exact⟨e1,d3,n3,fun y hy=>by rw[o3 y hy,o2 y om],H⟩
  |true=>
   rw[q] at t57;rw[keep _ q,cond_true];have hb:(acc++[x]).length=acc.length+1:=by rw[iq];rfl
   simp-implicitDefEqProofs only[V,↓reduceIte,rA,WF,t57,v7,v8,v9,N.at aI hd,bR];refine dJ (k:=acc.length) (m:=1) (lo:=lo) (v:=v) (x:=.own s2.h.next 0 1 1 (some 1)) (cs:=acc.flatMap strA) (new:=[vS x]) ?_ ?_ ?_ de rfl ?_ (aN (bytes:=16) om de) ?_ ?_ ?_
   ·exact U76
   ·exact U40
   ·refine ae (rw':=true) ?_ rfl;exact U36
   ·exact fun c hc=>by rw[ig.1 hc];exact Leaf.val _
   ·exact U36
   ·exact U36
   intro h3' r3 m3 o3 t3;simp-implicitDefEqProofs only[V] at m3 o3 r3 t3;have m3:s2.h.next+1≤h3'.next:=m3;simp-implicitDefEqProofs only[V,↓reduceIte,rA,v9,w1];have o3':∀y,y<lo→h3'.get y=s.h.get y:=fun y hy=>by
    rw[o3 y om (fun q=>by have:=(hr2.ids y q).1;omega),if_neg om,o2 y om]
   refine(mt hmn hN hNl hBC r (i+1) _ (acc++[x]) (.own (s2.h.next+1) 0 (acc.length+1) 1 none) (aF hd) om om ?_ ?_ ?_ ?_ ?_ ?_ ?_ ?_ ?_ ?_ ?_ ?_).mono ?_
   all_goals try simp-implicitDefEqProofs only[V,↓reduceIte,rA,v2,v5,v6,v8,d2,d1,hf]
   ·exact U81
   ·omega
   ·rw[o3' B hBC.1,gB]
   ·rw[o3' C hBC.2,gC]
   ·exact t3 nt2.alloc
   rintro e s4 ⟨e1,d3,n4,o4,H⟩
   try simp-implicitDefEqProofs only[V,↓reduceIte,rA,rB,rC,reduceCtorEq,rD,rE,rF] at o4
   exact⟨e1,d3,n4,fun y hy=>by rw[o4 y hy,o3' y hy],H⟩
def calB(m:Md)(x:ByteArray):List ByteArray:=match fndD x m.ds.l with
 |some d=>addAll [] ((nmC (occ d.b [])).filter fun x=>kn m x&& !memS x d.ps.l)
 |none=>[]
theorem ef{m:Md}{x z:ByteArray}:z∈calB m x↔z∈sucC m x:=by
 cases q:fndD x m.ds.l with
 |none=>simp only[calB,sucC,q]
 |some d=>
  simp only[calB,sucC,q];rw[bi];constructor
  ·rintro(h|h)
   ·cases h
   ·obtain⟨h1,h2⟩:=A9.1 h;obtain⟨h2,h3⟩:=Bool.and_eq_true_iff.1 h2;exact A9.2 ⟨A9.2 ⟨h1,h3⟩,h2⟩
  ·intro h;obtain⟨h1,h2⟩:=A9.1 h;obtain⟨h1,h3⟩:=A9.1 h1;exact .inr (A9.2 ⟨h1,Bool.and_eq_true_iff.2 ⟨h2,h3⟩⟩)
theorem nn{m:Md}(hm:MdT m)(x:ByteArray){h:AH}(nt:NoTag h):∃v h',RunCall E1 (.f 78) [.agg m.cells,vS x] h v h'∧RowC h' h.next (calB m x).length 1 v ((calB m x).flatMap strA)∧h.next≤h'.next∧(∀y,y<h.next→h'.get y=h.get y)∧NoTag h':=by
 have hmn:=hm.n;obtain⟨v,h',hrun,hP⟩:=dC (g:=78) (l:=[.agg m.cells,vS x]) (h:=h) (fun v h'=>RowC h' h.next (calB m x).length 1 v ((calB m x).flatMap strA)∧h.next≤h'.next∧(∀y,y<h.next→h'.get y=h.get y)∧NoTag h') kr Qi fun s hs hh hd hrd=>by
  have h0:=hs 0 _ rfl;have h1:=hs 1 _ rfl;have c1:(h.next=h.next+1)=False:=by simp
  cases qd:fndD x m.ds.l with
  |none=>
   have e1:ansD x m.ds.l=.tup [.agg zDf,vB false]:=by rw[ansD,qd]
   have hsu:calB m x=[]:=by rw[calB,qd]
   rw[hsu];simp-implicitDefEqProofs only[vv,f78,V,↓reduceIte,rA,reduceCtorEq,WF,h0,h1,hh,hd,aA (cY m x om),e1,bP,l6];refine⟨_,rfl,RowC.nil,om,fun y hy=>?_,bp nt.alloc.alloc⟩;rw[if_neg om,if_neg om,if_neg om]
  |some d=>
   have e1:ansD x m.ds.l=.tup [.agg d.cells,vB true]:=by rw[ansD,qd]
   obtain⟨hdm,_⟩:=d9 qd;obtain⟨b1,b2⟩:=hm.b d hdm;have hsu:calB m x=addAll [] ((nmC (occ d.b [])).filter fun x=>kn m x&& !memS x d.ps.l):=by rw[calB,qd]
   have hfl:(nmC (occ d.b [])).length≤d.b.sz:=by
    have h2:=lR (occ d.b []);have h3:=bo d.b [];omega
   have hc115:∀h,RunCall E1 (.f 115) [.agg d.b.cells] h (nmV (nmC (occ d.b []))) h:=oH d.b om;rw[hsu];simp-implicitDefEqProofs only[vv,f78,V,↓reduceIte,rA,WF,h0,h1,hh,aA (cY m x om),e1,bP,cm,aA hc115];refine(mt (m:=m) (d:=d) om om (N:=⟨nmC (occ d.b []),nilK,none⟩) (by show(nmC (occ d.b [])).length<_;omega) (B:=h.next) (C:=h.next+1) (lo:=h.next+2) ⟨om,om⟩ (nmC (occ d.b [])) 0 _ [] (.val (.slice none 0 0)) rfl (ip _) (by simp only[jc];omega) RowC.nil ?_ ?_ ?_ ?_ ?_ ?_ ?_ ?_ ?_ ?_ ?_).mono ?_
   all_goals try simp-implicitDefEqProofs only[V,↓reduceIte,rA,hd,c1]
   ·exact i7 _
   ·exact bp nt.alloc.alloc
   ·rfl
   ·rfl
   rintro e s1 ⟨rfl,d1,n1,o1,nt1,v,t7,r1⟩
   try simp-implicitDefEqProofs only[V,↓reduceIte,rA,rB,rC,reduceCtorEq,rD,rE,rF] at o1
   simp-implicitDefEqProofs only[V,↓reduceIte,reduceCtorEq,WF,t7,d1];refine⟨_,rfl,r1.low om,om,fun y hy=>?_,nt1⟩;rw[o1 y om,if_neg om,if_neg om,if_neg om]
 exact⟨v,h',hrun,hP⟩
theorem zM{E:Env}{g:Nat}{xs ys:List AV}{a a' t:AV}{h h1:AH}(hs:E.shared.get g=none)(hx:∀v∈xs,Tree v)(hy:∀v∈ys,Tree v)(ha:Tree a')(hz:AM.freeze deepest a h=h1)(hm:toTree h1 deepest a=some a')
  (hc:∀h,RunCall E (.f g) (xs++a'::ys) h t h):∃h',RunCall E (.f g) (xs++a::ys) h t h':=by
 have hfo:(xs++a::ys).foldl (fun h v=>AM.freeze deepest v h) h=h1:=by
  rw[List.foldl_append,ap hx,List.foldl_cons,hz,ap hy]
 have hm1:=lT hm hy hx;have hl':∀v∈xs++a'::ys,Tree v:=fun v hv=>by
  rcases jb.1 hv with hv|hv
  ·exact hx v hv
  ·exact U31
 refine⟨bif isFlat t then h else h1,(hc h1).mono fun n p=>?_⟩;have p:bk E (enterA E (exec E n)) g (xs++a'::ys) h1=some (t,h1):=p;show bk E (enterA E (exec E n)) g (xs++a::ys) h=_;simp only[bk,hs,ap hl',ba hl'] at p;simp only[bk,hs,hfo,hm1];revert p;cases E.known g (xs++a'::ys) with
 |some r=>
  intro p;simp only[sI,pI] at p;obtain⟨e,_⟩:=p;subst e;simp only
 |none=>
  simp only;cases enterA E (exec E n) g (xs++a'::ys) .empty with
  |none=>intro p;cases p
  |some q=>
   obtain⟨r,hc'⟩:=q;simp only;cases toTree (AM.freeze deepest r hc') deepest r with
   |none=>intro p;cases p
   |some t'=>
    intro p;simp only[sI,pI] at p;obtain⟨e,_⟩:=p;subst e;simp only
theorem fO{l r:List ByteArray}{x:ByteArray}{i:Nat}(h:l.drop i=x::r):(l.flatMap strA).drop i=vS x::r.flatMap strA:=by
 have:=cT (f:=strA) (es:=1) aI l i;rw[Nat.mul_one] at this;rw[this,h];rfl
theorem cL(l:List ByteArray):(l.flatMap strA).length=l.length:=by
 have:=bJ (f:=strA) (es:=1) aI l;rw[this,Nat.mul_one]
theorem ly(m:Md)(x:ByteArray):(sucM m x).Nodup:=by
 rw[sucM];split
 ·rw[mentD];exact((jO _).nodup).filter _
 ·exact Af
theorem np(m:Md)(x:ByteArray):(calB m x).Nodup:=by
 rw[calB];split
 ·exact dE Af
 ·exact Af
theorem iY{m:Md}{x y:ByteArray}(h:y∈calB m x):kn m y=true:=by
 have h:=ef.1 h;rw[sucC] at h;split at h
 ·exact(A9.1 h).2
 ·cases h
structure WL (suc:ByteArray→List ByteArray) (k:ByteArray→Bool) (x:ByteArray) (out:List ByteArray) (i:Nat):Prop where
 nd:out.Nodup
 ok:∀z∈out,k z=true
 here:∀y∈suc x,y∈out
 done:∀z∈out.take i,∀y∈suc z,y∈out
 fr:∀z∈out,Rch suc x z
theorem eT:∀(l F:List ByteArray),∃D,addAll F l=F++D
 | [],F=>⟨[],(j6 F).symm⟩
 |x::l,F=>by
  obtain⟨D,h⟩:=eT l (addS x F);have:addAll F (x::l)=addAll (addS x F) l:=rfl;rw[this,h,addS];cases memS x F with
  |true=>exact⟨D,rfl⟩
  |false=>exact⟨x::D,by rw[cond_false,ji];rfl⟩
theorem WL.next{suc:ByteArray→List ByteArray}{k:ByteArray→Bool}{x z:ByteArray}{out r:List ByteArray}{i:Nat}(w:WL suc k x out i)(hd:out.drop i=z::r)(hk:∀y∈suc z,k y=true):WL suc k x (addAll out (suc z)) (i+1):=by
 have hl:=aL hd;have hz:z∈out:=List.mem_of_mem_drop (by rw[hd];exact im)
 obtain⟨D,hD⟩:=eT (suc z) out;have ht:(addAll out (suc z)).take (i+1)=out.take i++[z]:=by
  rw[hD,List.take_append_of_le_length om,List.take_add,hd];rfl
 refine⟨dE w.nd,fun y hy=>?_,fun y hy=>bi.2 (.inl (w.here y hy)),fun a ha y hy=>?_,fun y hy=>?_⟩
 ·rcases bi.1 hy with h|h
  ·exact w.ok y h
  ·exact hk y h
 ·rw[ht] at ha;rcases jb.1 ha with ha|ha
  ·exact bi.2 (.inl (w.done a ha y hy))
  ·rw[ig.1 ha] at hy;exact bi.2 (.inr hy)
 ·rcases bi.1 hy with h|h
  ·exact w.fr y h
  ·exact .step (w.fr z hz) h
theorem WL.end{suc:ByteArray→List ByteArray}{k:ByteArray→Bool}{x:ByteArray}{out:List ByteArray}{i:Nat}(w:WL suc k x out i)(hi:out.length≤i)(z:ByteArray):z∈out↔Rch suc x z:=by
 have ht:out.take i=out:=List.take_of_length_le hi;refine⟨w.fr z,fun h=>?_⟩
 induction h with
 |one h=>exact w.here _ h
 |step _ h ih=>exact w.done _ (by rw[ht];exact ih) _ h
theorem WL.len{suc:ByteArray→List ByteArray}{m:Md}{x:ByteArray}{out:List ByteArray}{i:Nat}(w:WL suc (kn m) x out i):out.length≤m.ds.l.length:=by
 have:=bC w.nd fun z hz=>eM (w.ok z hz)
 rwa [nmM,je] at this
theorem wK{m:Md}(hm:MdT m){out:List ByteArray}{i:Nat}{x:ByteArray}{r:List ByteArray}{s:St}{B lo:Nat}{v:AV}(hd:out.drop i=x::r)(hB:B<s.h.next)(gB:s.h.get B=some (.cells m.cells true))(hr:RowC s.h lo out.length 1 v (out.flatMap strA))(nt:NoTag s.h)(h2:s.eval (.t 2)=some (.ptr B 0))(h5:s.eval (.t 5)=some v)(h6:s.eval (.t 6)=some (vI (i:Nat))):
  Run E1 Gm s fun e s'=>e=.normal∧s'.defers=s.defers∧s.h.next≤s'.h.next∧(∀y,y<s.h.next→s'.h.get y=s.h.get y)∧NoTag s'.h∧(∃w,s'.eval (.t 7)=some w∧RowC s'.h s.h.next (calB m x).length 1 w ((calB m x).flatMap strA))∧∀j,j<7→s'.eval (.t j)=s.eval (.t j):=by
 have nB:niceT s.h (some (.ptr B 0))=true:=bZ hB gB (by rw[m.ids0];rfl)
 obtain⟨b,t',hix,hcf⟩:=(RowP.of hr).at (fO hd);have hcells:∃cs,s.h.get b=some (.cells cs true)∧idsL cs=[]∧b<s.h.next:=by
  have hl:=aL hd;obtain⟨p1,p2,⟨z0,_⟩|⟨b',b1,b2,b3,rfl,b5⟩⟩:=hr
  ·omega
  ·exact U82
 obtain⟨cs,gb,ci,bl⟩:=hcells;have nb:niceT s.h (some (.ptr b i))=true:=bZ bl gb (by rw[ci];rfl)
 have vi:∀v,ids (AV.val v)=[]:=fun _=>rfl;have q:∀j,j<7→∀n,7≤n→(j=n)=False:=fun j hj n hn=>by simp;omega
 refine bM (ops:=nG) (pre:=nG.take 5++[⟨⟨some 23,none,.call 78 [.t 18,.t 22]⟩,[18,22],[]⟩]) (d:=⟨⟨some 7,none,.mv (.t 23)⟩,[23],[]⟩) rfl ?_
 refine br (nG.take 5) [] _ rfl (fun x hx=>by cases hx) ?_
 have ids2:ids (.agg m.cells)=[]:=by show idsL m.cells=[];exact m.ids0
 simp-implicitDefEqProofs only[nG,js,jx,wpDr,bA,j5,j4,V,↓reduceIte,rA,h2,h5,h6,gB,nB,hix,hcf,nb,aJ (vi _),hr.nice,io];intro _ done' hd' _;obtain⟨w,h1,hc,r1,n1,o1,t1⟩:=nn hm x (h:=restrictH s.h []) mS;have n1:s.h.next≤h1.next:=n1;refine lI (l:=[.agg m.cells,vS x]) (v:=w) (h1:=h1) rfl ?_ ?_ ?_ n1 (by simp) fun rec h' n' g' o' t'=>bO ?_
 ·exact U83
 ·exact U36
 ·exact U84
 simp-implicitDefEqProofs only[V] at n' g' o' t';simp-implicitDefEqProofs only[V,↓reduceIte];refine⟨om,o',t' nt t1,⟨w,rfl,r1.to om fun y y1 y2=>g' y y1 y2⟩,fun j hj=>?_⟩;have q:=q j hj;exact U102
theorem jY{ys:List ByteArray}{w:AV}{lo:Nat}(hyl:ys.length<2^28):∀(r:List ByteArray) (j:Nat) (s:St) (acc:List ByteArray) (v:AV),ys.drop j=r→j≤ys.length→acc.length+r.length<2^28→RowC s.h lo acc.length 1 v (acc.flatMap strA)→lo≤s.h.next→RowP s.h lo w (ys.flatMap strA)→(∀y∈ids w,y∉ids v)→NoTag s.h→s.eval (.t 5)=some v→s.eval (.t 7)=some w→s.eval (.t 8)=some (vI (j:Nat))→s.defers=[]→
  Run E1 rH s fun e s'=>e=.exit 2∧s'.defers=[]∧lo≤s'.h.next∧(∀y,y<lo→s'.h.get y=s.h.get y)∧NoTag s'.h∧(∃v',s'.eval (.t 5)=some v'∧RowC s'.h lo (addAll acc r).length 1 v' ((addAll acc r).flatMap strA))∧s'.eval (.t 2)=s.eval (.t 2)∧s'.eval (.t 6)=s.eval (.t 6)
 | [],j,s,acc,v,hd,hj,hA,hr,l1,hw,dj,nt,h5,h7,h8,hf=>by
  have hl:=aK hd hj;subst hl;have hlen:=hw.len;rw[cL] at hlen;apply aC (rfl:rH=.loop nH);rw[show addAll acc []=acc from rfl];simp-implicitDefEqProofs only[nH,V,↓reduceIte,rA,h5,h7,h8,hf,hlen,bS];exact⟨l1,fun _ _=>trivial,nt,v,rfl,hr⟩
 |x::r,j,s,acc,v,hd,hj,hA,hr,l1,hw,dj,nt,h5,h7,h8,hf=>by
  have hl:=aL hd;have hlt:=bQ hl;have w1:IntKind.i64.wrap ((j:Int)+1)=((j+1:Nat):Int):=aE (n:=j+1) om;rw[il] at hA;have hlen:=hw.len;rw[cL] at hlen;obtain⟨b,t',hix,hcf⟩:=hw.at (fO hd);apply aC (rfl:rH=.loop nH);simp-implicitDefEqProofs only[nH,V,↓reduceIte,rA,h5,h7,h8,hlen,hlt,hix,hcf];refine aR (ox (l:=acc) (lo:=lo) hr.x om) ?_
  rw[kQ rfl];cases q:memS x acc with
  |true=>
   simp-implicitDefEqProofs only[V,↓reduceIte,rA,h8,w1,cond_true];refine(jY (lo:=lo) (w:=w) hyl r (j+1) _ acc v (aF hd) om om ?_ ?_ ?_ ?_ ?_ ?_ ?_ ?_ ?_).mono ?_
   all_goals try simp-implicitDefEqProofs only[V,↓reduceIte,rA,h5,h7,hf]
   ·exact hr
   ·exact l1
   ·exact hw
   ·exact dj
   ·exact nt
   rintro e s3 ⟨e1,d3,n3,o3,t3,H,k2,k6⟩
   try simp-implicitDefEqProofs only[V,↓reduceIte,rA,rB,rC,reduceCtorEq,rD,rE,rF] at o3 k2 k6
   exact⟨e1,d3,n3,o3,t3,H,k2,k6⟩
  |false=>
   have hb:(acc++[x]).length=acc.length+1:=by rw[iq];rfl
   simp-implicitDefEqProofs only[V,↓reduceIte,rA,WF,h5,h7,h8,cond_false,hix,hcf];refine dJ (k:=acc.length) (m:=1) (lo:=lo) (v:=v) (x:=.own s.h.next 0 1 1 (some 1)) (cs:=acc.flatMap strA) (new:=[vS x]) ?_ ?_ ?_ de rfl ?_ (aN (bytes:=16) om de) ?_ ?_ ?_
   ·exact U77
   ·exact U40
   ·refine ae (rw':=true) ?_ rfl;exact U36
   ·exact fun c hc=>by rw[ig.1 hc];exact Leaf.val _
   ·exact U36
   ·exact U36
   intro h3' r3 m3 o3 t3;simp-implicitDefEqProofs only[V] at m3 o3 r3 t3;have m3:s.h.next+1≤h3'.next:=m3;simp-implicitDefEqProofs only[V,↓reduceIte,rA,h8,w1];have o3':∀y,y<s.h.next→y∉ids v→h3'.get y=s.h.get y:=fun y hy hv=>by
    rw[o3 y om hv,if_neg om]
   have hw':RowP h3' lo w (ys.flatMap strA):=hw.to om fun y hy=>o3' y (hw.ids y hy).2 (dj y hy);refine(jY (lo:=lo) (w:=w) hyl r (j+1) _ (acc++[x]) (.own (s.h.next+1) 0 (acc.length+1) 1 none) (aF hd) om om ?_ ?_ ?_ ?_ ?_ ?_ ?_ ?_ ?_).mono ?_
   all_goals try simp-implicitDefEqProofs only[V,↓reduceIte,rA,h7,hf]
   ·exact U81
   ·omega
   ·exact hw'
   ·intro y hy;have:=(hw.ids y hy).2;simp only[ids,ig];omega
   ·exact t3 nt.alloc
   rintro e s4 ⟨e1,d3,n4,o4,t4,H,k2,k6⟩
   try simp-implicitDefEqProofs only[V,↓reduceIte,rA,rB,rC,reduceCtorEq,rD,rE,rF] at o4 k2 k6
   exact⟨e1,d3,n4,fun y hy=>by rw[o4 y hy,o3' y om fun q=>by have:=(hr.ids y q).1;omega],t4,H,k2,k6⟩
theorem tx{m:Md}(hm:MdT m){x:ByteArray}{B lo:Nat}(hB:B<lo):∀(n i:Nat) (s:St) (out:List ByteArray) (v:AV),m.ds.l.length+1≤i+n→i≤out.length→WL (calB m) (kn m) x out i→RowC s.h lo out.length 1 v (out.flatMap strA)→lo≤s.h.next→s.h.get B=some (.cells m.cells true)→NoTag s.h→s.eval (.t 2)=some (.ptr B 0)→s.eval (.t 5)=some v→s.eval (.t 6)=some (vI (i:Nat))→s.defers=[]→
  Run E1 wJ s fun e s'=>e=.exit 0∧s'.defers=[]∧∃out v',WL (calB m) (kn m) x out out.length∧s'.eval (.t 5)=some v'∧RowC s'.h lo out.length 1 v' (out.flatMap strA)
 |0,i,s,out,v,hn,hi,hw,_,_,_,_,_,_,_,_=>by
  have:=hw.len;omega
 |n+1,i,s,out,v,hn,hi,hw,hr,l1,gB,nt,h2,h5,h6,hf=>by
  have hol:=hw.len;have hmn:=hm.n;have hlen:=(RowP.of hr).len;rw[cL] at hlen;apply aC (rfl:wJ=.loop rI);cases hd:out.drop i with
  |nil=>
   have hl:=aK hd hi;subst hl;simp-implicitDefEqProofs only[rI,V,↓reduceIte,rA,h5,h6,hf,hlen,bS];exact⟨out,v,hw,rfl,hr⟩
  |cons z r=>
   have hl:=aL hd;have hlt:=bQ hl;have w1:IntKind.i64.wrap ((i:Int)+1)=((i+1:Nat):Int):=aE (n:=i+1) om;simp-implicitDefEqProofs only[rI,V,↓reduceIte,rA,h5,h6,hlen,hlt];refine(wK (B:=B) (lo:=lo) (out:=out) (v:=v) hm hd ?_ ?_ ?_ ?_ ?_ ?_ ?_).mono ?_
   all_goals try simp-implicitDefEqProofs only[V,↓reduceIte,rA,h2,h5,h6]
   ·omega
   ·exact gB
   ·exact hr
   ·exact nt
   rintro e s1 ⟨rfl,d1,n1,o1,t1,⟨w,t7,r1⟩,k1⟩
   try simp-implicitDefEqProofs only[V,↓reduceIte,rA,rB,rC,reduceCtorEq,rD,rE,rF] at d1 n1 o1 r1
   have u2:s1.eval (.t 2)=some (.ptr B 0):=by rw[k1 2 de];simp-implicitDefEqProofs only[↓reduceIte,rA,h2]
   have u5:s1.eval (.t 5)=some v:=by rw[k1 5 de];simp-implicitDefEqProofs only[↓reduceIte,rA,h5]
   have u6:s1.eval (.t 6)=some (vI (i:Nat)):=by rw[k1 6 de];simp-implicitDefEqProofs only[↓reduceIte,rA,h6]
   simp-implicitDefEqProofs only[V];have hyl:(calB m z).length≤m.ds.l.length:=by
    have:=bC (np m z) fun y hy=>eM (iY hy)
    rwa [nmM,je] at this
   refine(jY (lo:=lo) (w:=w) (ys:=calB m z) om (calB m z) 0 _ out v rfl (ip _) om ?_ ?_ ?_ ?_ ?_ ?_ ?_ ?_ ?_).mono ?_
   all_goals try simp-implicitDefEqProofs only[V,↓reduceIte,rA,u5,t7,d1,hf]
   ·exact hr.to n1 fun y _ y2=>o1 y y2
   ·omega
   ·exact(RowP.of (r1.low l1))
   ·intro y hy hv;have h1:=(r1.ids y hy).1;have h2:=(hr.ids y hv).2;omega
   ·exact t1
   ·rfl
   rintro e s2 ⟨rfl,d2,n2,o2,t2,⟨v',t5,r2⟩,k2,k6⟩
   try simp-implicitDefEqProofs only[V,↓reduceIte,rA,rB,rC,reduceCtorEq,rD,rE,rF] at o2 k2 k6
   simp-implicitDefEqProofs only[V,↓reduceIte,WF,k6,u6,w1];have hw':=hw.next hd fun y hy=>iY hy;have hl':i+1≤(addAll out (calB m z)).length:=by
    obtain⟨D,hD⟩:=eT (calB m z) out;rw[hD,iq];omega
   refine tx hm hB n (i+1) _ (addAll out (calB m z)) v' om hl' hw' ?_ ?_ ?_ ?_ ?_ ?_ ?_ ?_
   all_goals try simp-implicitDefEqProofs only[V,↓reduceIte,rA,k2,u2,t5,d2]
   ·exact r2
   ·omega
   ·rw[o2 B hB,o1 B om,gB]
   ·exact t2
theorem wC{m:Md}(hm:MdT m){out:List ByteArray}{i:Nat}{x:ByteArray}{r:List ByteArray}{s:St}{B lo:Nat}{v:AV}(hd:out.drop i=x::r)(hB:B<s.h.next)(gB:s.h.get B=some (.cells m.cells true))(hr:RowC s.h lo out.length 1 v (out.flatMap strA))(nt:NoTag s.h)(h2:s.eval (.t 2)=some (.ptr B 0))(h5:s.eval (.t 5)=some v)(h6:s.eval (.t 6)=some (vI (i:Nat))):
  Run E1 Gc s fun e s'=>e=.normal∧s'.defers=s.defers∧s.h.next≤s'.h.next∧(∀y,y<s.h.next→s'.h.get y=s.h.get y)∧NoTag s'.h∧(∃w,s'.eval (.t 7)=some w∧RowC s'.h s.h.next (sucM m x).length 1 w ((sucM m x).flatMap strA))∧∀j,j<7→s'.eval (.t j)=s.eval (.t j):=by
 have nB:niceT s.h (some (.ptr B 0))=true:=bZ hB gB (by rw[m.ids0];rfl)
 obtain⟨b,t',hix,hcf⟩:=(RowP.of hr).at (fO hd);have hcells:∃cs,s.h.get b=some (.cells cs true)∧idsL cs=[]∧b<s.h.next:=by
  have hl:=aL hd;obtain⟨p1,p2,⟨z0,_⟩|⟨b',b1,b2,b3,rfl,b5⟩⟩:=hr
  ·omega
  ·exact U82
 obtain⟨cs,gb,ci,bl⟩:=hcells;have nb:niceT s.h (some (.ptr b i))=true:=bZ bl gb (by rw[ci];rfl)
 have vi:∀v,ids (AV.val v)=[]:=fun _=>rfl;have q:∀j,j<7→∀n,7≤n→(j=n)=False:=fun j hj n hn=>by simp;omega
 refine bM (ops:=my) (pre:=my.take 5++[⟨⟨some 23,none,.call 111 [.t 18,.t 22]⟩,[18,22],[]⟩]) (d:=⟨⟨some 7,none,.mv (.t 23)⟩,[23],[]⟩) rfl ?_
 refine br (my.take 5) [] _ rfl (fun x hx=>by cases hx) ?_
 have ids2:ids (.agg m.cells)=[]:=by show idsL m.cells=[];exact m.ids0
 simp-implicitDefEqProofs only[my,js,jx,wpDr,bA,j5,j4,V,↓reduceIte,rA,h2,h5,h6,gB,nB,hix,hcf,nb,aJ (vi _),hr.nice,io];intro _ done' hd' _;obtain⟨w,h1,hc,r1,n1,o1,t1⟩:=g9 hm x (h:=restrictH s.h []) mS;have n1:s.h.next≤h1.next:=n1;refine lI (l:=[.agg m.cells,vS x]) (v:=w) (h1:=h1) rfl ?_ ?_ ?_ n1 (by simp) fun rec h' n' g' o' t'=>bO ?_
 ·exact U83
 ·exact U36
 ·exact U84
 simp-implicitDefEqProofs only[V] at n' g' o' t';simp-implicitDefEqProofs only[V,↓reduceIte];refine⟨om,o',t' nt t1,⟨w,rfl,r1.to om fun y y1 y2=>g' y y1 y2⟩,fun j hj=>?_⟩;have q:=q j hj;exact U102
theorem jW{ys:List ByteArray}{w:AV}{lo:Nat}(hyl:ys.length<2^28):∀(r:List ByteArray) (j:Nat) (s:St) (acc:List ByteArray) (v:AV),ys.drop j=r→j≤ys.length→acc.length+r.length<2^28→RowC s.h lo acc.length 1 v (acc.flatMap strA)→lo≤s.h.next→RowP s.h lo w (ys.flatMap strA)→(∀y∈ids w,y∉ids v)→NoTag s.h→s.eval (.t 5)=some v→s.eval (.t 7)=some w→s.eval (.t 8)=some (vI (j:Nat))→s.defers=[]→
  Run E1 qu s fun e s'=>e=.exit 2∧s'.defers=[]∧lo≤s'.h.next∧(∀y,y<lo→s'.h.get y=s.h.get y)∧NoTag s'.h∧(∃v',s'.eval (.t 5)=some v'∧RowC s'.h lo (addAll acc r).length 1 v' ((addAll acc r).flatMap strA))∧s'.eval (.t 2)=s.eval (.t 2)∧s'.eval (.t 6)=s.eval (.t 6)
 | [],j,s,acc,v,hd,hj,hA,hr,l1,hw,dj,nt,h5,h7,h8,hf=>by
  have hl:=aK hd hj;subst hl;have hlen:=hw.len;rw[cL] at hlen;apply aC (rfl:qu=.loop mz);rw[show addAll acc []=acc from rfl];simp-implicitDefEqProofs only[mz,V,↓reduceIte,rA,h5,h7,h8,hf,hlen,bS];exact⟨l1,fun _ _=>trivial,nt,v,rfl,hr⟩
 |x::r,j,s,acc,v,hd,hj,hA,hr,l1,hw,dj,nt,h5,h7,h8,hf=>by
  have hl:=aL hd;have hlt:=bQ hl;have w1:IntKind.i64.wrap ((j:Int)+1)=((j+1:Nat):Int):=aE (n:=j+1) om;rw[il] at hA;have hlen:=hw.len;rw[cL] at hlen;obtain⟨b,t',hix,hcf⟩:=hw.at (fO hd);apply aC (rfl:qu=.loop mz);simp-implicitDefEqProofs only[mz,V,↓reduceIte,rA,h5,h7,h8,hlen,hlt,hix,hcf];refine aR (oy (l:=acc) (lo:=lo) hr.x om) ?_
  rw[kQ rfl];cases q:memS x acc with
  |true=>
   simp-implicitDefEqProofs only[V,↓reduceIte,rA,h8,w1,cond_true];refine(jW (lo:=lo) (w:=w) hyl r (j+1) _ acc v (aF hd) om om ?_ ?_ ?_ ?_ ?_ ?_ ?_ ?_ ?_).mono ?_
   all_goals try simp-implicitDefEqProofs only[V,↓reduceIte,rA,h5,h7,hf]
   ·exact hr
   ·exact l1
   ·exact hw
   ·exact dj
   ·exact nt
   rintro e s3 ⟨e1,d3,n3,o3,t3,H,k2,k6⟩
   try simp-implicitDefEqProofs only[V,↓reduceIte,rA,rB,rC,reduceCtorEq,rD,rE,rF] at o3 k2 k6
   exact⟨e1,d3,n3,o3,t3,H,k2,k6⟩
  |false=>
   have hb:(acc++[x]).length=acc.length+1:=by rw[iq];rfl
   simp-implicitDefEqProofs only[V,↓reduceIte,rA,WF,h5,h7,h8,cond_false,hix,hcf];refine dJ (k:=acc.length) (m:=1) (lo:=lo) (v:=v) (x:=.own s.h.next 0 1 1 (some 1)) (cs:=acc.flatMap strA) (new:=[vS x]) ?_ ?_ ?_ de rfl ?_ (aN (bytes:=16) om de) ?_ ?_ ?_
   ·exact U77
   ·exact U40
   ·refine ae (rw':=true) ?_ rfl;exact U36
   ·exact fun c hc=>by rw[ig.1 hc];exact Leaf.val _
   ·exact U36
   ·exact U36
   intro h3' r3 m3 o3 t3;simp-implicitDefEqProofs only[V] at m3 o3 r3 t3;have m3:s.h.next+1≤h3'.next:=m3;simp-implicitDefEqProofs only[V,↓reduceIte,rA,h8,w1];have o3':∀y,y<s.h.next→y∉ids v→h3'.get y=s.h.get y:=fun y hy hv=>by
    rw[o3 y om hv,if_neg om]
   have hw':RowP h3' lo w (ys.flatMap strA):=hw.to om fun y hy=>o3' y (hw.ids y hy).2 (dj y hy);refine(jW (lo:=lo) (w:=w) hyl r (j+1) _ (acc++[x]) (.own (s.h.next+1) 0 (acc.length+1) 1 none) (aF hd) om om ?_ ?_ ?_ ?_ ?_ ?_ ?_ ?_ ?_).mono ?_
   all_goals try simp-implicitDefEqProofs only[V,↓reduceIte,rA,h7,hf]
   ·exact U81
   ·omega
   ·exact hw'
   ·intro y hy;have:=(hw.ids y hy).2;simp only[ids,ig];omega
   ·exact t3 nt.alloc
   rintro e s4 ⟨e1,d3,n4,o4,t4,H,k2,k6⟩
   try simp-implicitDefEqProofs only[V,↓reduceIte,rA,rB,rC,reduceCtorEq,rD,rE,rF] at o4 k2 k6
   exact⟨e1,d3,n4,fun y hy=>by rw[o4 y hy,o3' y om fun q=>by have:=(hr.ids y q).1;omega],t4,H,k2,k6⟩
theorem tt{m:Md}(hm:MdT m){x:ByteArray}{B lo:Nat}(hB:B<lo):∀(n i:Nat) (s:St) (out:List ByteArray) (v:AV),m.ds.l.length+1≤i+n→i≤out.length→WL (sucM m) (kn m) x out i→RowC s.h lo out.length 1 v (out.flatMap strA)→lo≤s.h.next→s.h.get B=some (.cells m.cells true)→NoTag s.h→s.eval (.t 2)=some (.ptr B 0)→s.eval (.t 5)=some v→s.eval (.t 6)=some (vI (i:Nat))→s.defers=[]→
  Run E1 wB s fun e s'=>e=.exit 0∧s'.defers=[]∧∃out v',WL (sucM m) (kn m) x out out.length∧s'.eval (.t 5)=some v'∧RowC s'.h lo out.length 1 v' (out.flatMap strA)
 |0,i,s,out,v,hn,hi,hw,_,_,_,_,_,_,_,_=>by
  have:=hw.len;omega
 |n+1,i,s,out,v,hn,hi,hw,hr,l1,gB,nt,h2,h5,h6,hf=>by
  have hol:=hw.len;have hmn:=hm.n;have hlen:=(RowP.of hr).len;rw[cL] at hlen;apply aC (rfl:wB=.loop qw);cases hd:out.drop i with
  |nil=>
   have hl:=aK hd hi;subst hl;simp-implicitDefEqProofs only[qw,V,↓reduceIte,rA,h5,h6,hf,hlen,bS];exact⟨out,v,hw,rfl,hr⟩
  |cons z r=>
   have hl:=aL hd;have hlt:=bQ hl;have w1:IntKind.i64.wrap ((i:Int)+1)=((i+1:Nat):Int):=aE (n:=i+1) om;simp-implicitDefEqProofs only[qw,V,↓reduceIte,rA,h5,h6,hlen,hlt];refine(wC (B:=B) (lo:=lo) (out:=out) (v:=v) hm hd ?_ ?_ ?_ ?_ ?_ ?_ ?_).mono ?_
   all_goals try simp-implicitDefEqProofs only[V,↓reduceIte,rA,h2,h5,h6]
   ·omega
   ·exact gB
   ·exact hr
   ·exact nt
   rintro e s1 ⟨rfl,d1,n1,o1,t1,⟨w,t7,r1⟩,k1⟩
   try simp-implicitDefEqProofs only[V,↓reduceIte,rA,rB,rC,reduceCtorEq,rD,rE,rF] at d1 n1 o1 r1
   have u2:s1.eval (.t 2)=some (.ptr B 0):=by rw[k1 2 de];simp-implicitDefEqProofs only[↓reduceIte,rA,h2]
   have u5:s1.eval (.t 5)=some v:=by rw[k1 5 de];simp-implicitDefEqProofs only[↓reduceIte,rA,h5]
   have u6:s1.eval (.t 6)=some (vI (i:Nat)):=by rw[k1 6 de];simp-implicitDefEqProofs only[↓reduceIte,rA,h6]
   simp-implicitDefEqProofs only[V];have hyl:(sucM m z).length≤m.ds.l.length:=by
    have:=bC (ly m z) fun y hy=>eM (gY hy)
    rwa [nmM,je] at this
   refine(jW (lo:=lo) (w:=w) (ys:=sucM m z) om (sucM m z) 0 _ out v rfl (ip _) om ?_ ?_ ?_ ?_ ?_ ?_ ?_ ?_ ?_).mono ?_
   all_goals try simp-implicitDefEqProofs only[V,↓reduceIte,rA,u5,t7,d1,hf]
   ·exact hr.to n1 fun y _ y2=>o1 y y2
   ·omega
   ·exact(RowP.of (r1.low l1))
   ·intro y hy hv;have h1:=(r1.ids y hy).1;have h2:=(hr.ids y hv).2;omega
   ·exact t1
   ·rfl
   rintro e s2 ⟨rfl,d2,n2,o2,t2,⟨v',t5,r2⟩,k2,k6⟩
   try simp-implicitDefEqProofs only[V,↓reduceIte,rA,rB,rC,reduceCtorEq,rD,rE,rF] at o2 k2 k6
   simp-implicitDefEqProofs only[V,↓reduceIte,WF,k6,u6,w1];have hw':=hw.next hd fun y hy=>gY hy;have hl':i+1≤(addAll out (sucM m z)).length:=by
    obtain⟨D,hD⟩:=eT (sucM m z) out;rw[hD,iq];omega
   refine tt hm hB n (i+1) _ (addAll out (sucM m z)) v' om hl' hw' ?_ ?_ ?_ ?_ ?_ ?_ ?_ ?_
   all_goals try simp-implicitDefEqProofs only[V,↓reduceIte,rA,k2,u2,t5,d2]
   ·exact r2
   ·omega
   ·rw[o2 B hB,o1 B om,gB]
   ·exact t2
theorem wl0{suc:ByteArray→List ByteArray}{k:ByteArray→Bool}{x:ByteArray}(h:(suc x).Nodup)(hk:∀y∈suc x,k y=true):WL suc k x (suc x) 0:=
 ⟨h,hk,fun _ h=>h,fun _ h=>(by cases h),fun _ h=>.one h⟩
theorem ud{m:Md}{x z:ByteArray}:Rch (calB m) x z↔Rch (sucC m) x z:=by
 constructor
 ·intro h
  induction h with
  |one h=>exact .one (ef.1 h)
  |step _ h ih=>exact .step ih (ef.1 h)
 ·intro h
  induction h with
  |one h=>exact .one (ef.2 h)
  |step _ h ih=>exact .step ih (ef.2 h)
theorem qD{h:AH}{lo:Nat}{v:AV}{l:List ByteArray}(r:RowC h lo l.length 1 v (l.flatMap strA)):rowX v l.length (l.flatMap strA)=nmV l:=by
 obtain⟨_,_,⟨h1,rfl⟩|⟨b,_,_,_,rfl,_⟩⟩:=r
 ·have:l=[]:=List.eq_nil_of_length_eq_zero h1;subst this;rfl
 ·cases l with
  |nil=>simp only[jc] at*;omega
  |cons x r=>rfl
theorem gt{m:Md}(hm:MdT m)(x:ByteArray):∃L,ReachC m x L∧∀h,RunCall E1 (.f 51) [.agg m.cells,vS x] h (nmV L) h:=by
 have hmn:=hm.n;have key:∃v h',(∃L,ReachC m x L∧v=nmV L)∧Ev fun n=>enterA E1 (exec E1 n) 51 [.agg m.cells,vS x] .empty=some (v,h'):=by
  obtain⟨v,h',hP,hrun⟩:=dA (g:=51) (l:=[.agg m.cells,vS x]) (h:=.empty) (fun v h'=>∃L,ReachC m x L∧v=nmV L) Qv fun s hs hh hd hrd=>by
   refine aj _ _ _ ?_
   have h0:=hs 0 _ rfl;have h1:=hs 1 _ rfl;have nt0:NoTag ((AH.empty).alloc (.cells m.cells true)):=NoTag.empty.alloc;obtain⟨v,h1',hc,hr,n1,o1,t1⟩:=nn hm x nt0;simp-implicitDefEqProofs only[Gl,f51,V,↓reduceIte,rA,h0,h1,hh];refine aR (by simp-implicitDefEqProofs only[V];exact hc) ?_
   simp-implicitDefEqProofs only[V,↓reduceIte];refine(tx hm (B:=0) (lo:=1) de (m.ds.l.length+1) 0 _ (calB m x) v om (ip _) (wl0 (np m x) fun y=>iY) ?_ ?_ ?_ ?_ ?_ ?_ ?_ ?_).mono ?_
   all_goals try simp-implicitDefEqProofs only[V,↓reduceIte,rA,hd]
   ·exact hr
   ·exact n1
   ·rw[o1 0 Bb];rfl
   ·exact t1
   ·rfl
   rintro e s1 ⟨rfl,d1,out,v',w1,t5,r1⟩;have hol:=w1.len;simp-implicitDefEqProofs only[V,↓reduceIte,WF,t5];obtain⟨hz,f1,f2,f3,f4⟩:=bG r1.x;rw[qD r1] at f4;obtain⟨h2,hc2⟩:=zM (E:=E1) (g:=52) (xs:=[]) (ys:=[.val (.slice none 0 0)]) kr (fun v hv=>by cases hv) (ei (Tree.val _)) Vl.leaf.tree f1 f4 (gU out [] om de)
   refine aR (by simp-implicitDefEqProofs only[V];exact hc2) ?_
   simp-implicitDefEqProofs only[V,↓reduceIte,reduceCtorEq,d1];refine⟨_,rfl,_,⟨fk _ _,fun z=>?_⟩,rfl⟩;rw[eJ,w1.end (i7 _) z,ud];simp only[List.not_mem_nil,or_false]
  exact⟨v,h',hP,hrun⟩
 obtain⟨v,h',⟨L,hL,rfl⟩,hrun⟩:=key;exact⟨L,hL,fun h=>fF (bF kr) (bV kr _) (cO (Tree.md m) (Tree.val _)) hrun (Rep.leaf (lo:=0) (hi:=0) (n:=0) Vl.leaf) de h⟩
theorem qI{m:Md}(hm:MdT m)(x:ByteArray):∃L,L.Nodup∧(∀z,z∈L↔Rch (sucM m) x z)∧(∀z∈L,kn m z=true)∧∀h,RunCall E1 (.f 71) [.agg m.cells,vS x] h (nmV L) h:=by
 have hmn:=hm.n;obtain⟨v,h',hP,hrun⟩:=dA (g:=71) (l:=[.agg m.cells,vS x]) (h:=.empty) (fun v h'=>∃out,WL (sucM m) (kn m) x out out.length∧RowC h' 1 out.length 1 v (out.flatMap strA)) Qp fun s hs hh hd hrd=>by
  refine aj _ _ _ ?_
  have h0:=hs 0 _ rfl;have h1:=hs 1 _ rfl;have nt0:NoTag ((AH.empty).alloc (.cells m.cells true)):=NoTag.empty.alloc;obtain⟨v,h1',hc,hr,n1,o1,t1⟩:=g9 hm x nt0;simp-implicitDefEqProofs only[Gb,f71,V,↓reduceIte,rA,h0,h1,hh];refine aR (by simp-implicitDefEqProofs only[V];exact hc) ?_
  simp-implicitDefEqProofs only[V,↓reduceIte];refine(tt hm (B:=0) (lo:=1) de (m.ds.l.length+1) 0 _ (sucM m x) v om (ip _) (wl0 (ly m x) fun y=>gY) ?_ ?_ ?_ ?_ ?_ ?_ ?_ ?_).mono ?_
  all_goals try simp-implicitDefEqProofs only[V,↓reduceIte,rA,hd]
  ·exact hr
  ·exact n1
  ·rw[o1 0 Bb];rfl
  ·exact t1
  ·rfl
  rintro e s1 ⟨rfl,d1,out,v',w1,t5,r1⟩;simp-implicitDefEqProofs only[V,↓reduceIte,reduceCtorEq,WF,t5,d1];exact⟨_,rfl,out,w1,r1⟩
 obtain⟨out,w1,r1⟩:=hP;refine⟨out,w1.nd,w1.end (i7 _),w1.ok,fun h=>?_⟩;obtain⟨hz,f1,f2,f3,f4⟩:=bG r1.x;rw[qD r1,←f1] at f4;refine hrun.mono fun n p=>?_
 have hl:∀v∈[AV.agg m.cells,vS x],Tree v:=cO (Tree.md m) (Tree.val _);have hz:=ap (h:=h) hl;simp only[ag,bk,bF (g:=71) kr,hz,ba hl,bV (g:=71) kr,p,f4];cases isFlat (nmV out)<;>rfl
end Go.Proofs.YtkmoeaplhnabcaaGreatDoor
