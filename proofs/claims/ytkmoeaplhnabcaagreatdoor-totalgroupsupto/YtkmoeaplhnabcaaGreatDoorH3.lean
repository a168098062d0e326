/- TDocG TDocH -/
import Derived.Test.YtkmoeaplhnabcaaGreatDoorU0
import Derived.Test.YtkmoeaplhnabcaaGreatDoorN4
import Derived.Test.YtkmoeaplhnabcaaGreatDoorH2

set_option linter.all false
open Nat renaming reduceEqDiff → rA, reduceAdd → rB, reduceMul → rC
open Int renaming reduceEq → rD, reduceLT → rE, reduceLE → rF
open Bool renaming and_self → io, eq_iff_iff → Aq, false_or → Ay, or_eq_true → Ab, true_or → A5
open List renaming all_cons → j5, all_nil → j4, filter_cons → A6, flatMap_append → A2, length_append → iq, length_cons → il, length_map → je, length_nil → jc, mem_cons → i9, mem_cons_of_mem → iz, mem_cons_self → im, mem_singleton → ig
open Nat renaming le_refl → i7, zero_le → ip, zero_lt_one → Bb
namespace Go.Proofs.YtkmoeaplhnabcaaGreatDoor
open Go Go.AM
set_option maxHeartbeats 4000000
variable [KR]
theorem ReachC.len'{m:Md}{x:ByteArray}{L:List ByteArray}(r:ReachC m x L):L.length≤m.ds.l.length:=by
 have h:=bC r.srt.nodup fun z hz=>by
  have h:=(r.mem z).1 hz;have:kn m z=true:=by
   rw[←show Rch (calB m) x z↔Rch (sucC m) x z from ud] at h;cases h with
   |one h=>exact iY h
   |step _ h=>exact iY h
  exact eM this
 rwa [nmM,je] at h
theorem lu{m:Md}(hm:MdT m)(a b:ByteArray)(h:AH):RunCall E1 (.f 30) [.agg m.cells,vS a,vS b] h (vB (tog m a b)) h:=by
 have hmn:=hm.n;obtain⟨La,ra,hca⟩:=gt hm a;obtain⟨Lb,rb,hcb⟩:=gt hm b;have la:=ra.len';have lb:=rb.len';have ha:∀h,RunCall E1 (.f 50) [nmV La,vS b] h (vB (memS b La)) h:=dc ⟨La,nilK,none⟩ b (by show La.length<_;omega)
 have hb:∀h,RunCall E1 (.f 50) [nmV Lb,vS a] h (vB (memS a Lb)) h:=dc ⟨Lb,nilK,none⟩ a (by show Lb.length<_;omega)
 have ht:tog m a b=(memS b La&&memS a Lb):=by
  rw[Aq,Bool.and_eq_true,eD,aV,aV,ra.mem,rb.mem]
 refine dB kr Rk (fun v hv=>?_) rfl (Tree.val _) (fun s hs hh hd hr=>?_) h
 ·exact U73
 have h0:=hs 0 _ rfl;have h1:=hs 1 _ rfl;have h2:=hs 2 _ rfl;rw[ht];cases q:memS b La with
 |false=>simp-implicitDefEqProofs only[wQ,f30,V,↓reduceIte,rA,reduceCtorEq,h0,h1,h2,hh,hd,aA hca,aA ha,q]
 |true=>simp-implicitDefEqProofs only[wQ,f30,V,↓reduceIte,rA,reduceCtorEq,h0,h1,h2,hh,hd,aA hca,aA ha,aA hcb,aA hb,q]
theorem vA{m:Md}(hm:MdT m)(x:ByteArray)(h:AH):RunCall E1 (.f 11) [.agg m.cells,vS x] h (vB (tog m x x)) h:=by
 refine dB kr Ry (cO (Tree.md m) (Tree.val _)) rfl (Tree.val _) (fun s hs hh hd hr=>?_) h;have h0:=hs 0 _ rfl;have h1:=hs 1 _ rfl;simp-implicitDefEqProofs only[Hw,f11,V,↓reduceIte,rA,reduceCtorEq,h0,h1,hh,hd,aA (lu hm x x)]
theorem vC{m:Md}{x:ByteArray}(kx:KReach m x)(h:AH):RunCall E1 (.f 10) [.agg m.cells,vS x] h (vB (tog m x x)) h:=by
 refine dB kr Rz (cO (Tree.md m) (Tree.val _)) rfl (Tree.val _) (fun s hs hh hd hr=>?_) h;have h0:=hs 0 _ rfl;have h1:=hs 1 _ rfl;simp-implicitDefEqProofs only[Hx,f10,V,↓reduceIte,rA,reduceCtorEq,h0,h1,hh,hd,aA (lv kx kx)]
theorem wU{m:Md}(hm:MdT m){x:ByteArray}{i:Nat}{d:Df}{r:List Df}{s:St}(hd:m.ds.l.drop i=d::r)(l0:0<s.h.next)(g0:s.h.get 0=some (.cells m.cells true))(h1:s.eval (.t 1)=some (vS x))(h2:s.eval (.t 2)=some (.ptr 0 0))(h6:s.eval (.t 6)=some (vI (i:Nat))):
  Run E1 Hk s fun e s'=>e=.normal∧s'.h=s.h∧s'.defers=s.defers∧s'.eval (.t 32)=some (vB (inG m x d))∧∀j,j<12→s'.eval (.t j)=s.eval (.t j):=by
 have n0:∀o,niceT s.h (some (.ptr 0 o))=true:=fun o=>bZ l0 g0 (by rw[m.ids0];rfl)
 have nm:ids (.agg m.cells)=[]:=by show idsL m.cells=[];exact m.ids0
 have vi:∀v,ids (AV.val v)=[]:=fun _=>rfl;have nu:niceT s.h (some undefA)=true:=rfl;have hc:=lu hm x d.nm;have q:∀j,j<12→∀n,12≤n→(j=n)=False:=fun j hj n hn=>by simp;omega
 refine bd (ops:=rS) rfl ?_
 cases q1:strEq d.nm x with
 |true=>
  have e:inG m x d=true:=by rw[inG,q1,A5]
  rw[e];simp-implicitDefEqProofs only[rS,wpDr,bA,eu,iG,j5,j4,V,↓reduceIte,rA,h1,h2,h6,n0,g0,m.ds.at Df.len hd,q1,aJ nm,aU nm,aJ Vl.ids,aJ (vi _),aU (vi _),ab,nu,io];intro j hj;have q:=q j hj;exact U103
 |false=>
  have e:inG m x d=tog m x d.nm:=by rw[inG,q1,Ay]
  rw[e];simp-implicitDefEqProofs only[rS,wpDr,bA,eu,pA,iG,j5,j4,V,↓reduceIte,rA,h1,h2,h6,n0,g0,m.ds.at Df.len hd,q1,aJ nm,aU nm,aJ Vl.ids,aJ (vi _),aU (vi _),ab,nu,io];refine⟨_,hc,?_⟩;simp-implicitDefEqProofs only[V,aJ (vi _)];intro j hj;have q:=q j hj;exact U103
theorem nO{m:Md}(hm:MdT m){x:ByteArray}:∀(r:List Df) (i:Nat) (s:St) (acc:List ByteArray) (v:AV),m.ds.l.drop i=r→i≤m.ds.l.length→acc.length+r.length<2^22→RowC s.h 1 acc.length 1 v (acc.flatMap strA)→1≤s.h.next→s.h.get 0=some (.cells m.cells true)→s.eval (.t 1)=some (vS x)→s.eval (.t 2)=some (.ptr 0 0)→s.eval (.t 5)=some v→s.eval (.t 6)=some (vI (i:Nat))→s.defers=[]→
  Run E1 rT s fun e s'=>e=.exit 0∧s'.defers=[]∧∃v',s'.eval (.t 5)=some v'∧RowC s'.h 1 (acc++grpD m x r).length 1 v' ((acc++grpD m x r).flatMap strA)
 | [],i,s,acc,v,hd,hi,hA,hr,l1,g0,h1,h2,h5,h6,hf=>by
  have hl:=aK hd hi;subst hl;apply aC (rfl:rT=.loop nP);simp-implicitDefEqProofs only[nP,V,↓reduceIte,rA,h2,h5,h6,g0,hf,bS,grpD,List.append_nil];exact⟨v,rfl,hr⟩
 |d::r,i,s,acc,v,hd,hi,hA,hr,l1,g0,h1,h2,h5,h6,hf=>by
  have hl:=aL hd;have hmn:=hm.n;have hlt:=bQ hl;have w1:IntKind.i64.wrap ((i:Int)+1)=((i+1:Nat):Int):=aE (n:=i+1) om;rw[il] at hA;apply aC (rfl:rT=.loop nP);simp-implicitDefEqProofs only[nP,V,↓reduceIte,rA,h2,h6,g0,hlt];refine(wU (x:=x) hm hd ?_ ?_ ?_ ?_ ?_).mono ?_
  all_goals try simp-implicitDefEqProofs only[V,↓reduceIte,rA,h1,h2,h6]
  ·omega
  ·exact g0
  rintro e s1 ⟨rfl,eh,d1,t32,k1⟩
  try simp-implicitDefEqProofs only[hf] at eh d1
  have u1:s1.eval (.t 1)=some (vS x):=by rw[k1 1 de];simp-implicitDefEqProofs only[↓reduceIte,rA,h1]
  have u2:s1.eval (.t 2)=some (.ptr 0 0):=by rw[k1 2 de];simp-implicitDefEqProofs only[↓reduceIte,rA,h2]
  have u5:s1.eval (.t 5)=some v:=by rw[k1 5 de];simp-implicitDefEqProofs only[↓reduceIte,rA,h5]
  have u6:s1.eval (.t 6)=some (vI (i:Nat)):=by rw[k1 6 de];simp-implicitDefEqProofs only[↓reduceIte,rA,h6]
  have hr2:RowC s1.h 1 acc.length 1 v (acc.flatMap strA):=by rw[eh];exact hr
  have g1:s1.h.get 0=some (.cells m.cells true):=by rw[eh];exact g0
  have n1:1≤s1.h.next:=by rw[eh];exact l1
  rw[grpD];cases q:inG m x d with
  |false=>
   rw[q] at t32;simp-implicitDefEqProofs only[V,↓reduceIte,t32,u6,w1];refine nO hm r (i+1) _ acc v (aF hd) om om ?_ ?_ ?_ ?_ ?_ ?_ ?_ ?_
   all_goals try simp-implicitDefEqProofs only[V,↓reduceIte,rA,u1,u2,u5,d1]
   ·exact hr2
   ·exact n1
   ·exact g1
  |true=>
   rw[q] at t32;have hb:(acc++[d.nm]).length=acc.length+1:=by rw[iq];rfl
   simp-implicitDefEqProofs only[V,↓reduceIte,rA,WF,t32,u2,u5,u6,g1,m.ds.at Df.len hd];refine cJ (k:=acc.length) (m:=1) (lo:=1) (v:=v) (x:=.own s1.h.next 0 1 1 (some 1)) (cs:=acc.flatMap strA) (new:=[vS d.nm]) ?_ ?_ ?_ rfl ?_ (aN (bytes:=16) om de) ?_ ?_ ?_
   ·exact U76
   ·exact U40
   ·refine ae (rw':=true) ?_ rfl;exact U36
   ·exact fun c hc=>by rw[ig.1 hc];exact Leaf.val _
   ·exact U36
   ·exact U36
   intro v1 h1' r1 m1 o1;simp-implicitDefEqProofs only[V] at m1 o1 r1;simp-implicitDefEqProofs only[V,↓reduceIte,rA,u6,w1];rw[show acc++d.nm::grpD m x r=(acc++[d.nm])++grpD m x r by rw[List.append_assoc];rfl]
   refine nO hm r (i+1) _ (acc++[d.nm]) v1 (aF hd) om om ?_ ?_ ?_ ?_ ?_ ?_ ?_ ?_
   all_goals try simp-implicitDefEqProofs only[V,↓reduceIte,rA,u1,u2,d1]
   ·exact U65
   ·omega
   ·rw[o1 0 om (fun q=>by have:=(hr2.ids 0 q).1;omega),if_neg om,g1]
theorem iF{m:Md}(hm:MdT m)(x:ByteArray)(h:AH):RunCall E1 (.f 27) [.agg m.cells,vS x] h (nmV (grp m x)) h:=by
 have hmn:=hm.n;refine fZ kr Rn (cO (Tree.md m) (Tree.val _)) (fun s hs hh hd hr=>?_) h;have h0:=hs 0 _ rfl;have h1:=hs 1 _ rfl;simp-implicitDefEqProofs only[Hj,f27,V,h0,hh];refine(nO (x:=x) hm m.ds.l 0 _ [] (.val (.slice none 0 0)) rfl (ip _) (by simp only[jc];omega) RowC.nil ?_ ?_ ?_ ?_ ?_ ?_ ?_).mono ?_
 all_goals try simp-implicitDefEqProofs only[V,↓reduceIte,rA,h1,hd]
 ·exact i7 _
 ·rfl
 rintro e s1 ⟨rfl,d1,v,t5,r1⟩;rw[List.nil_append] at r1;simp-implicitDefEqProofs only[V,↓reduceIte,reduceCtorEq,WB,t5,d1];exact⟨v,rfl,1,de,dK r1⟩
theorem pP{b L:Vl ByteArray}(hb:b.l.length<2^60)(hL:L.l.length<2^60):∀(r:List ByteArray) (j:Nat) (s:St),L.l.drop j=r→j≤L.l.length→s.eval (.t 2)=some (b.A strA)→s.eval (.t 8)=some (L.A strA)→s.eval (.t 9)=some (vI (j:Nat))→s.defers=[]→
  Run E1 rK s fun e s'=>s'.defers=[]∧s'.h=s.h∧((r.any (fun y=>memS y b.l)=false∧e=.exit 2∧s'.eval (.t 1)=s.eval (.t 1)∧s'.eval (.t 2)=s.eval (.t 2)∧s'.eval (.t 3)=s.eval (.t 3)∧s'.eval (.t 7)=s.eval (.t 7))∨(r.any (fun y=>memS y b.l)=true∧e=.ret∧s'.eval (.t 6)=some (vB true)))
 | [],j,s,hd,hj,h2,h8,h9,hf=>by
  have hl:=aK hd hj;subst hl;apply aC (rfl:rK=.loop jZ);simp-implicitDefEqProofs only[jZ,V,↓reduceIte,rA,reduceCtorEq,h2,h8,h9,hf,bS,List.any_nil]
 |x::r,j,s,hd,hj,h2,h8,h9,hf=>by
  have hl:=aL hd;have hlt:=bQ hl;have w1:IntKind.i64.wrap ((j:Int)+1)=((j+1:Nat):Int):=aE (n:=j+1) om;have hc:=dg b x om;apply aC (rfl:rK=.loop jZ);rw[List.any_cons];cases q:memS x b.l with
  |true=>
   rw[A5];simp-implicitDefEqProofs only[jZ,V,↓reduceIte,rA,reduceCtorEq,h2,h8,h9,hf,hlt,L.at aI hd,bR,aA hc,q]
  |false=>
   rw[Ay];simp-implicitDefEqProofs only[jZ,V,↓reduceIte,rA,h2,h8,h9,hlt,L.at aI hd,bR,aA hc,q,w1];refine(pP hb hL r (j+1) _ (aF hd) om ?_ ?_ ?_ ?_).mono ?_
   all_goals try simp-implicitDefEqProofs only[V,↓reduceIte,rA,h2,h8,hf]
   rintro e s1 ⟨d1,eh,⟨q1,e1,k1,k2,k3,k7⟩|⟨q1,e1,k6⟩⟩
   ·exact⟨d1,eh,.inl ⟨q1,e1,k1,k2,k3,k7⟩⟩
   ·exact⟨d1,eh,.inr ⟨q1,e1,k6⟩⟩
theorem wN{m:Md}{a:Vl ByteArray}{x:ByteArray}{L:List ByteArray}{i:Nat}{r:List ByteArray}{s:St}(hc:∀h,RunCall E1 (.f 71) [.agg m.cells,vS x] h (nmV L) h)(hd:a.l.drop i=x::r)(l0:0<s.h.next)(g0:s.h.get 0=some (.cells m.cells true))(h1:s.eval (.t 1)=some (a.A strA))(h3:s.eval (.t 3)=some (.ptr 0 0))(h7:s.eval (.t 7)=some (vI (i:Nat))):
  Run E1 Gr s fun e s'=>e=.normal∧s'.h=s.h∧s'.defers=s.defers∧s'.eval (.t 8)=some (nmV L)∧∀j,j<8→s'.eval (.t j)=s.eval (.t j):=by
 have n0:∀o,niceT s.h (some (.ptr 0 o))=true:=fun o=>bZ l0 g0 (by rw[m.ids0];rfl)
 have nm:ids (.agg m.cells)=[]:=by show idsL m.cells=[];exact m.ids0
 have nv:ids (nmV L)=[]:=Vl.ids;have vi:∀v,ids (AV.val v)=[]:=fun _=>rfl;refine bd (ops:=wM) rfl ?_
 simp-implicitDefEqProofs only[wM,wpDr,bA,j5,j4,V,↓reduceIte,rA,h1,h3,h7,n0,g0,a.at aI hd,bR,aJ nm,aU nm,aJ Vl.ids,aJ (vi _),aU (vi _),ab,io];refine⟨_,hc,?_⟩;simp-implicitDefEqProofs only[V,aJ nv];intro j hj;have q:∀n,8≤n→(j=n)=False:=fun n hn=>by simp;omega
 simp-implicitDefEqProofs only[↓reduceIte,q 8 om,q 16 om,q 17 om,q 18 om,q 19 om,q 20 om,q 21 om]
theorem vD{m:Md}{x:ByteArray}{a b L:List ByteArray}(hL:∀z,z∈L↔Rch (sucM m) x z):rchB m (x::a) b=(L.any (fun y=>memS y b)||rchB m a b):=by
 rw[Aq,Ab,eY,eY,List.any_eq_true];constructor
 ·rintro⟨s,hs,t,ht,hr⟩;rcases i9.1 hs with rfl|hs
  ·exact .inl ⟨t,(hL t).2 hr,aV.2 ht⟩
  ·exact .inr ⟨s,hs,t,ht,hr⟩
 ·rintro(⟨t,h1,h2⟩|⟨s,hs,t,ht,hr⟩)
  ·exact⟨x,im,t,aV.1 h2,(hL t).1 h1⟩
  ·exact⟨s,iz _ hs,t,ht,hr⟩
theorem tz{m:Md}(hm:MdT m){a b:Vl ByteArray}(ha:a.l.length<2^60)(hb:b.l.length<2^60):∀(r:List ByteArray) (i:Nat) (s:St),a.l.drop i=r→i≤a.l.length→0<s.h.next→s.h.get 0=some (.cells m.cells true)→s.eval (.t 1)=some (a.A strA)→s.eval (.t 2)=some (b.A strA)→s.eval (.t 3)=some (.ptr 0 0)→s.eval (.t 7)=some (vI (i:Nat))→s.defers=[]→
  Run E1 rJ s fun e s'=>s'.defers=[]∧((rchB m r b.l=false∧e=.exit 0)∨(rchB m r b.l=true∧e=.ret∧s'.eval (.t 6)=some (vB true)))
 | [],i,s,hd,hi,l0,g0,h1,h2,h3,h7,hf=>by
  have hl:=aK hd hi;subst hl;apply aC (rfl:rJ=.loop nI);simp-implicitDefEqProofs only[nI,V,↓reduceIte,rA,reduceCtorEq,h1,h7,hf,bS,sf]
 |x::r,i,s,hd,hi,l0,g0,h1,h2,h3,h7,hf=>by
  have hl:=aL hd;have hmn:=hm.n;have hlt:=bQ hl;have w1:IntKind.i64.wrap ((i:Int)+1)=((i+1:Nat):Int):=aE (n:=i+1) om;obtain⟨L,hLn,hLm,hLk,hc⟩:=qI hm x;have hLl:=bC hLn fun z hz=>eM (hLk z hz);rw[nmM,je] at hLl;apply aC (rfl:rJ=.loop nI);simp-implicitDefEqProofs only[nI,V,↓reduceIte,rA,h1,h7,hlt];refine(wN (a:=a) hc hd ?_ ?_ ?_ ?_ ?_).mono ?_
  all_goals try simp-implicitDefEqProofs only[V,↓reduceIte,rA,h1,h3,h7]
  ·exact l0
  ·exact g0
  rintro e s1 ⟨rfl,eh,d1,t8,k1⟩
  try simp-implicitDefEqProofs only[hf] at eh d1
  have u1:s1.eval (.t 1)=some (a.A strA):=by rw[k1 1 de];simp-implicitDefEqProofs only[↓reduceIte,rA,h1]
  have u2:s1.eval (.t 2)=some (b.A strA):=by rw[k1 2 de];simp-implicitDefEqProofs only[↓reduceIte,rA,h2]
  have u3:s1.eval (.t 3)=some (.ptr 0 0):=by rw[k1 3 de];simp-implicitDefEqProofs only[↓reduceIte,rA,h3]
  have u7:s1.eval (.t 7)=some (vI (i:Nat)):=by rw[k1 7 de];simp-implicitDefEqProofs only[↓reduceIte,rA,h7]
  rw[vD hLm];simp-implicitDefEqProofs only[V];refine(pP (b:=b) (L:=⟨L,nilK,none⟩) hb (by show L.length<_;omega) L 0 _ rfl (ip _) ?_ ?_ ?_ ?_).mono ?_
  all_goals try simp-implicitDefEqProofs only[V,↓reduceIte,rA,u2,t8,d1]
  ·rfl
  ·rfl
  rintro e s2 ⟨d2,eh2,⟨q,rfl,k1,k2,k3,k7⟩|⟨q,rfl,t6⟩⟩
  ·try simp-implicitDefEqProofs only[V,↓reduceIte,rA,rB,rC,reduceCtorEq,rD,rE,rF] at k1 k2 k3 k7 eh2
   rw[q,Ay];simp-implicitDefEqProofs only[V,↓reduceIte,WF,k7,u7,w1];refine tz hm ha hb r (i+1) _ (aF hd) om ?_ ?_ ?_ ?_ ?_ ?_ ?_
   all_goals try simp-implicitDefEqProofs only[V,↓reduceIte,rA,k1,k2,k3,u1,u3,d2]
   ·rw[eh2,eh];exact l0
   ·rw[eh2,eh];exact g0
  ·rw[q,A5];simp-implicitDefEqProofs only[V,reduceCtorEq,t6,d2]
theorem eX{m:Md}(hm:MdT m)(a b:Vl ByteArray)(ha:a.l.length<2^60)(hb:b.l.length<2^60)(h:AH):RunCall E1 (.f 47) [.agg m.cells,a.A strA,b.A strA] h (vB (rchB m a.l b.l)) h:=by
 refine dB kr Qz (fun v hv=>?_) rfl (Tree.val _) (fun s hs hh hd hr=>?_) h
 ·exact U70
 have h0:=hs 0 _ rfl;have h1:=hs 1 _ rfl;have h2:=hs 2 _ rfl;simp-implicitDefEqProofs only[Gq,f47,V,h0,hh];refine(tz hm ha hb a.l 0 _ rfl (ip _) ?_ ?_ ?_ ?_ ?_ ?_ ?_).mono ?_
 all_goals try simp-implicitDefEqProofs only[V,↓reduceIte,rA,h1,h2,hd]
 ·exact Bb
 ·rfl
 rintro e s1 ⟨d1,⟨q,rfl⟩|⟨q,rfl,t6⟩⟩
 ·exact U71
 ·exact U72
noncomputable def blk (m:Md) (g P:List ByteArray) (d:Df):Bool:=(!memS d.nm P&& !memS d.nm g)&&rchB m g (grp m d.nm)&& !rchB m (grp m d.nm) g
noncomputable def rdy (m:Md) (g P:List ByteArray):List Df→Bool
 | []=>true
 |d::r=>bif blk m g P d then false else rdy m g P r
theorem wT{m:Md}(hm:MdT m){d:Df}{i:Nat}{r:List Df}{s:St}(hd:m.ds.l.drop i=d::r)(l0:0<s.h.next)(g0:s.h.get 0=some (.cells m.cells true))(h3:s.eval (.t 3)=some (.ptr 0 0))(h7:s.eval (.t 7)=some (vI (i:Nat))):
  Run E1 Hi s fun e s'=>e=.normal∧s'.h=s.h∧s'.defers=s.defers∧s'.eval (.t 8)=some (nmV (grp m d.nm))∧∀j,j<8→s'.eval (.t j)=s.eval (.t j):=by
 have n0:∀o,niceT s.h (some (.ptr 0 o))=true:=fun o=>bZ l0 g0 (by rw[m.ids0];rfl)
 have nm:ids (.agg m.cells)=[]:=by show idsL m.cells=[];exact m.ids0
 have nv:ids (nmV (grp m d.nm))=[]:=Vl.ids;have vi:∀v,ids (AV.val v)=[]:=fun _=>rfl;have hc:=iF hm d.nm;refine bd (ops:=wS) rfl ?_
 simp-implicitDefEqProofs only[wS,wpDr,bA,j5,j4,V,↓reduceIte,rA,h3,h7,n0,g0,m.ds.at Df.len hd,aJ nm,aU nm,aJ Vl.ids,aJ (vi _),aU (vi _),ab,io];refine⟨_,hc,?_⟩;simp-implicitDefEqProofs only[V,aJ nv];intro j hj;have q:∀n,8≤n→(j=n)=False:=fun n hn=>by simp;omega
 simp-implicitDefEqProofs only[↓reduceIte,q 8 om,q 16 om,q 17 om,q 18 om,q 19 om,q 20 om,q 21 om,q 22 om,q 23 om]
theorem uG{m:Md}(hm:MdT m){g:List ByteArray}{P:Vl ByteArray}(hg:g.length<2^60)(hP:P.l.length<2^60):∀(r:List Df) (i:Nat) (s:St),m.ds.l.drop i=r→i≤m.ds.l.length→0<s.h.next→s.h.get 0=some (.cells m.cells true)→s.eval (.t 1)=some (nmV g)→s.eval (.t 2)=some (P.A strA)→s.eval (.t 3)=some (.ptr 0 0)→s.eval (.t 7)=some (vI (i:Nat))→s.defers=[]→
  Run E1 nL s fun e s'=>s'.defers=[]∧((rdy m g P.l r=true∧e=.exit 0)∨(rdy m g P.l r=false∧e=.ret∧s'.eval (.t 6)=some (vB false)))
 | [],i,s,hd,hi,l0,g0,h1,h2,h3,h7,hf=>by
  have hl:=aK hd hi;subst hl;apply aC (rfl:nL=.loop nN);simp-implicitDefEqProofs only[nN,V,↓reduceIte,rA,reduceCtorEq,h3,h7,g0,hf,bS,rdy]
 |d::r,i,s,hd,hi,l0,g0,h1,h2,h3,h7,hf=>by
  have hl:=aL hd;have hmn:=hm.n;have hlt:=bQ hl;have w1:IntKind.i64.wrap ((i:Int)+1)=((i+1:Nat):Int):=aE (n:=i+1) om;have hgl:(grp m d.nm).length≤m.ds.l.length:=d7 m.ds.l;have hc1:∀h,RunCall E1 (.f 26) [P.A strA,vS d.nm] h (vB (memS d.nm P.l)) h:=dg P d.nm om;have hc2:∀h,RunCall E1 (.f 26) [nmV g,vS d.nm] h (vB (memS d.nm g)) h:=dg ⟨g,nilK,none⟩ d.nm (by show g.length<_;omega)
  have hc3:∀h,RunCall E1 (.f 47) [.agg m.cells,nmV g,nmV (grp m d.nm)] h (vB (rchB m g (grp m d.nm))) h:=eX hm ⟨g,nilK,none⟩ ⟨grp m d.nm,nilK,none⟩ hg (by show(grp m d.nm).length<_;omega)
  have hc4:∀h,RunCall E1 (.f 47) [.agg m.cells,nmV (grp m d.nm),nmV g] h (vB (rchB m (grp m d.nm) g)) h:=eX hm ⟨grp m d.nm,nilK,none⟩ ⟨g,nilK,none⟩ (by show(grp m d.nm).length<_;omega) hg
  apply aC (rfl:nL=.loop nN);simp-implicitDefEqProofs only[nN,V,↓reduceIte,rA,h3,h7,g0,hlt];refine(wT hm hd ?_ ?_ ?_ ?_).mono ?_
  all_goals try simp-implicitDefEqProofs only[V,↓reduceIte,rA,h3,h7]
  ·exact l0
  ·exact g0
  rintro e s1 ⟨rfl,eh,d1,t8,k1⟩
  try simp-implicitDefEqProofs only[hf] at eh d1
  have u1:s1.eval (.t 1)=some (nmV g):=by rw[k1 1 de];simp-implicitDefEqProofs only[↓reduceIte,rA,h1]
  have u2:s1.eval (.t 2)=some (P.A strA):=by rw[k1 2 de];simp-implicitDefEqProofs only[↓reduceIte,rA,h2]
  have u3:s1.eval (.t 3)=some (.ptr 0 0):=by rw[k1 3 de];simp-implicitDefEqProofs only[↓reduceIte,rA,h3]
  have u7:s1.eval (.t 7)=some (vI (i:Nat)):=by rw[k1 7 de];simp-implicitDefEqProofs only[↓reduceIte,rA,h7]
  have n1:0<s1.h.next:=by rw[eh];exact l0
  have g1:s1.h.get 0=some (.cells m.cells true):=by rw[eh];exact g0
  have hn:∀s2:St,s2.h=s1.h→s2.eval (.t 1)=some (nmV g)→s2.eval (.t 2)=some (P.A strA)→s2.eval (.t 3)=some (.ptr 0 0)→s2.eval (.t 7)=some (vI ((i+1:Nat):Int))→s2.defers=[]→Run E1 nL s2 fun e s'=>s'.defers=[]∧((rdy m g P.l r=true∧e=.exit 0)∨(rdy m g P.l r=false∧e=.ret∧s'.eval (.t 6)=some (vB false))):=
   fun s2 e2 v1 v2 v3 v7 vf=>uG hm hg hP r (i+1) s2 (aF hd) om (by rw[e2];exact n1) (by rw[e2];exact g1) v1 v2 v3 v7 vf
  rw[rdy,blk];cases q1:memS d.nm P.l with
  |true=>
   simp-implicitDefEqProofs only[V,↓reduceIte,rA,u2,u3,u7,g1,m.ds.at Df.len hd,aA hc1,q1,w1];refine hn _ ?_ ?_ ?_ ?_ ?_ ?_
   all_goals simp-implicitDefEqProofs only[V,↓reduceIte,rA,u1,u2,u3,d1]
  |false=>
   cases q2:memS d.nm g with
   |true=>
    simp-implicitDefEqProofs only[V,↓reduceIte,rA,u1,u2,u3,u7,g1,m.ds.at Df.len hd,aA hc1,aA hc2,q1,q2,w1];refine hn _ ?_ ?_ ?_ ?_ ?_ ?_
    all_goals simp-implicitDefEqProofs only[V,↓reduceIte,rA,u1,u2,u3,d1]
   |false=>
    cases q3:rchB m g (grp m d.nm) with
    |false=>
     simp-implicitDefEqProofs only[V,↓reduceIte,rA,u1,u2,u3,u7,t8,g1,m.ds.at Df.len hd,aA hc1,aA hc2,aA hc3,q1,q2,q3,w1];refine hn _ ?_ ?_ ?_ ?_ ?_ ?_
     all_goals simp-implicitDefEqProofs only[V,↓reduceIte,rA,u1,u2,u3,d1]
    |true=>
     cases q4:rchB m (grp m d.nm) g with
     |true=>
      simp-implicitDefEqProofs only[V,↓reduceIte,rA,u1,u2,u3,u7,t8,g1,m.ds.at Df.len hd,aA hc1,aA hc2,aA hc3,aA hc4,q1,q2,q3,q4,w1];refine hn _ ?_ ?_ ?_ ?_ ?_ ?_
      all_goals simp-implicitDefEqProofs only[V,↓reduceIte,rA,u1,u2,u3,d1]
     |false=>
      simp-implicitDefEqProofs only[V,↓reduceIte,rA,reduceCtorEq,u1,u2,u3,u7,t8,g1,d1,m.ds.at Df.len hd,aA hc1,aA hc2,aA hc3,aA hc4,q1,q2,q3,q4]
theorem qH{m:Md}(hm:MdT m){g:List ByteArray}(P:Vl ByteArray)(hg:g.length<2^60)(hP:P.l.length<2^60)(h:AH):RunCall E1 (.f 28) [.agg m.cells,nmV g,P.A strA] h (vB (rdy m g P.l m.ds.l)) h:=by
 refine dB kr Rm (fun v hv=>?_) rfl (Tree.val _) (fun s hs hh hd hr=>?_) h
 ·exact U70
 have h0:=hs 0 _ rfl;have h1:=hs 1 _ rfl;have h2:=hs 2 _ rfl;simp-implicitDefEqProofs only[Hh,f28,V,h0,hh];refine(uG hm (P:=P) hg hP m.ds.l 0 _ rfl (ip _) ?_ ?_ ?_ ?_ ?_ ?_ ?_).mono ?_
 all_goals try simp-implicitDefEqProofs only[V,↓reduceIte,rA,h1,h2,hd]
 ·exact Bb
 ·rfl
 rintro e s1 ⟨d1,⟨q,rfl⟩|⟨q,rfl,t6⟩⟩
 ·exact U71
 ·exact U72
noncomputable def fstG (m:Md) (P:List ByteArray):List Df→Option (List ByteArray)
 | []=>none
 |d::r=>bif memS d.nm P then fstG m P r else bif rdy m (grp m d.nm) P m.ds.l then some (grp m d.nm) else fstG m P r
noncomputable def runR (m:Md):Nat→List ByteArray→List (List ByteArray)→List (List ByteArray)
 |0,_,out=>out
 |n+1,P,out=>match fstG m P m.ds.l with
  |none=>out
  |some g=>runR m n (P++g) (out++[g])
noncomputable def grpsR (m:Md):List (List ByteArray):=runR m (m.ds.l.length+1) [] []
theorem y6{m:Md}(hm:MdT m){d:Df}{i:Nat}{r:List Df}{s:St}(hd:m.ds.l.drop i=d::r)(l0:0<s.h.next)(g0:s.h.get 0=some (.cells m.cells true))(h1:s.eval (.t 1)=some (.ptr 0 0))(h6:s.eval (.t 6)=some (vI (i:Nat))):
  Run E1 Mt s fun e s'=>e=.normal∧s'.h=s.h∧s'.defers=s.defers∧s'.eval (.t 7)=some (nmV (grp m d.nm))∧∀j,j<7→s'.eval (.t j)=s.eval (.t j):=by
 have n0:∀o,niceT s.h (some (.ptr 0 o))=true:=fun o=>bZ l0 g0 (by rw[m.ids0];rfl)
 have nm:ids (.agg m.cells)=[]:=by show idsL m.cells=[];exact m.ids0
 have nv:ids (nmV (grp m d.nm))=[]:=Vl.ids;have vi:∀v,ids (AV.val v)=[]:=fun _=>rfl;have hc:=iF hm d.nm;refine bd (ops:=Fk) rfl ?_
 simp-implicitDefEqProofs only[Fk,wpDr,bA,j5,j4,V,↓reduceIte,rA,h1,h6,n0,g0,m.ds.at Df.len hd,aJ nm,aU nm,aJ Vl.ids,aJ (vi _),aU (vi _),ab,io];refine⟨_,hc,?_⟩;simp-implicitDefEqProofs only[V,aJ nv];intro j hj;have q:∀n,7≤n→(j=n)=False:=fun n hn=>by simp;omega
 simp-implicitDefEqProofs only[↓reduceIte,q 7 om,q 28 om,q 29 om,q 30 om,q 31 om,q 32 om,q 33 om,q 34 om,q 35 om]
theorem sc{m:Md}(hm:MdT m){g P:List ByteArray}{h:AH}{lo:Nat}{u:AV}(r:RowC h lo P.length 1 u (P.flatMap strA))(hg:g.length<2^60)(hP:P.length<2^60):RunCall E1 (.f 28) [.agg m.cells,nmV g,u] h (vB (rdy m g P m.ds.l)) h:=by
 obtain⟨h1,f1,f2,f3,f4⟩:=bG r.x;rw[qD r] at f4;exact cZ (xs:=[.agg m.cells,nmV g]) (ys:=[]) kr (cO (Tree.md m) Vl.leaf.tree) (fun v hv=>by cases hv) Vl.leaf.tree f1 f4 rfl fun h=>qH hm ⟨P,nilK,none⟩ hg hP h
structure TwoG (h:AH) (m:Md) (v u:AV) (out:List (List ByteArray)) (P:List ByteArray):Prop where
 g0:h.get 0=some (.cells m.cells true)
 l1:1≤h.next
 rv:RowC h 1 out.length 1 v (out.flatMap gA)
 ru:RowC h 1 P.length 1 u (P.flatMap strA)
 dj:∀y∈ids v,y∉ids u
theorem iJ{m:Md}(hm:MdT m){out:List (List ByteArray)}{P:List ByteArray}{v u:AV}(hO:out.length<2^29)(hP:P.length<2^29):∀(r:List Df) (i:Nat) (s:St),m.ds.l.drop i=r→i≤m.ds.l.length→TwoG s.h m v u out P→s.eval (.t 1)=some (.ptr 0 0)→s.eval (.t 3)=some v→s.eval (.t 4)=some u→s.eval (.t 5)=some (vB false)→s.eval (.t 6)=some (vI (i:Nat))→s.defers=[]→
  Run E1 tY s fun e s'=>e=.exit 2∧s'.defers=[]∧s'.eval (.t 1)=some (.ptr 0 0)∧((fstG m P r=none∧s'.eval (.t 5)=some (vB false)∧s'.eval (.t 3)=some v∧RowC s'.h 1 out.length 1 v (out.flatMap gA))∨∃g v' u',fstG m P r=some g∧s'.eval (.t 5)=some (vB true)∧s'.eval (.t 3)=some v'∧s'.eval (.t 4)=some u'∧TwoG s'.h m v' u' (out++[g]) (P++g))
 | [],i,s,hd,hi,tw,h1,h3,h4,h5,h6,hf=>by
  have hl:=aK hd hi;subst hl;have g0:=tw.g0;apply aC (rfl:tY=.loop k9);simp-implicitDefEqProofs only[k9,V,↓reduceIte,rA,reduceCtorEq,h1,h3,h4,h5,h6,g0,hf,bS,fstG];exact .inl tw.rv
 |d::r,i,s,hd,hi,tw,h1,h3,h4,h5,h6,hf=>by
  have hl:=aL hd;have hmn:=hm.n;have hlt:=bQ hl;have g0:=tw.g0;have l1:=tw.l1;have hdm:d∈m.ds.l:=List.mem_of_mem_drop (by rw[hd];exact im)
  have w1:IntKind.i64.wrap ((i:Int)+1)=((i+1:Nat):Int):=aE (n:=i+1) om;have hgl:(grp m d.nm).length≤m.ds.l.length:=d7 m.ds.l;have hc1:=oy (b:=d.nm) tw.ru.x om;apply aC (rfl:tY=.loop k9);simp-implicitDefEqProofs only[k9,V,↓reduceIte,rA,h1,h4,h5,h6,g0,hlt,m.ds.at Df.len hd];refine aR hc1 ?_
  rw[fstG];cases q1:memS d.nm P with
  |true=>
   simp-implicitDefEqProofs only[V,↓reduceIte,rA,WF,h6,w1];refine(iJ (v:=v) (u:=u) hm hO hP r (i+1) _ (aF hd) om ?_ ?_ ?_ ?_ ?_ ?_ ?_)
   all_goals try simp-implicitDefEqProofs only[V,↓reduceIte,rA,h1,h3,h4,h5,hf]
   exact tw
  |false=>
   simp-implicitDefEqProofs only[V,↓reduceIte];refine(y6 hm hd ?_ ?_ ?_ ?_).mono ?_
   all_goals try simp-implicitDefEqProofs only[V,↓reduceIte,rA,h1,h6]
   ·exact l1
   ·exact g0
   rintro e s1 ⟨rfl,eh,d1,t7,k1⟩
   try simp-implicitDefEqProofs only[hf] at eh d1
   have u1:s1.eval (.t 1)=some (.ptr 0 0):=by rw[k1 1 de];simp-implicitDefEqProofs only[↓reduceIte,rA,h1]
   have u3:s1.eval (.t 3)=some v:=by rw[k1 3 de];simp-implicitDefEqProofs only[↓reduceIte,rA,h3]
   have u4:s1.eval (.t 4)=some u:=by rw[k1 4 de];simp-implicitDefEqProofs only[↓reduceIte,rA,h4]
   have u5:s1.eval (.t 5)=some (vB false):=by rw[k1 5 de];simp-implicitDefEqProofs only[↓reduceIte,rA,h5]
   have u6:s1.eval (.t 6)=some (vI (i:Nat)):=by rw[k1 6 de];simp-implicitDefEqProofs only[↓reduceIte,rA,h6]
   have g1:s1.h.get 0=some (.cells m.cells true):=by rw[eh];exact g0
   have tw1:TwoG s1.h m v u out P:=by rw[eh];exact tw
   have hc2:=sc (g:=grp m d.nm) hm tw1.ru om om;simp-implicitDefEqProofs only[V,↓reduceIte,rA,u1,u4,t7,g1];refine aR (by simp-implicitDefEqProofs only[V];exact hc2) ?_
   cases q2:rdy m (grp m d.nm) P m.ds.l with
   |false=>
    simp-implicitDefEqProofs only[V,↓reduceIte,rA,u6,w1];refine(iJ (v:=v) (u:=u) hm hO hP r (i+1) _ (aF hd) om ?_ ?_ ?_ ?_ ?_ ?_ ?_)
    all_goals try simp-implicitDefEqProofs only[V,↓reduceIte,rA,u1,u3,u4,u5,d1]
    exact tw1
   |true=>
    have cn:(nmV (grp m d.nm)).cells=some [nmV (grp m d.nm)]:=yA;obtain⟨a,t,hgr⟩:=iE hdm;have hgp:0<(grp m d.nm).length:=by rw[hgr];exact Nat.zero_lt_succ _
    simp-implicitDefEqProofs only[V,↓reduceIte,rA,reduceCtorEq,WF,u3,t7,cn];refine dJ (k:=out.length) (m:=1) (lo:=1) (v:=v) (x:=.own s1.h.next 0 1 1 (some 1)) (cs:=out.flatMap gA) (new:=[nmV (grp m d.nm)]) ?_ ?_ ?_ de rfl ?_ (aN (bytes:=24) om de) ?_ ?_ ?_
    ·simp-implicitDefEqProofs only[V];exact tw1.rv.to (Nat.le_succ _) fun y _ y2=>aD y2
    ·simp-implicitDefEqProofs only[V];exact Nat.le_trans tw1.l1 (Nat.le_succ _)
    ·refine ae (rw':=true) ?_ rfl;exact U36
    ·exact fun c hc=>by rw[ig.1 hc];exact Vl.leaf
    ·exact U36
    ·exact U36
    intro h1' r1 m1 o1 _;simp-implicitDefEqProofs only[V] at m1 o1 r1;have m1:s1.h.next+1≤h1'.next:=m1;have o1':∀y,y<s1.h.next→y∉ids v→h1'.get y=s1.h.get y:=fun y hy hv=>by rw[o1 y om hv,if_neg om]
    have ru1:RowC h1' 1 P.length 1 u (P.flatMap strA):=by
     obtain⟨p1,p2,p3|⟨b,b1,b2,b3,rfl,b5⟩⟩:=tw1.ru
     ·exact⟨p1,p2,.inl p3⟩
     ·exact⟨p1,p2,.inr ⟨b,b1,om,b3,rfl,by rw[o1' b b2 fun q=>tw1.dj b q (by simp[ids]),b5]⟩⟩
    simp-implicitDefEqProofs only[V,↓reduceIte,rA,u4,t7];refine dJ (k:=P.length) (m:=(grp m d.nm).length) (lo:=1) (v:=u) (x:=nmV (grp m d.nm)) (cs:=P.flatMap strA) (new:=(grp m d.nm).flatMap strA) ?_ ?_ ?_ hgp (by rw[cL,Nat.mul_one]) ?_ (aN (bytes:=16) om de) ?_ ?_ ?_
    ·simp-implicitDefEqProofs only[V];exact ru1
    ·exact U40
    ·simp-implicitDefEqProofs only[V];exact bU aI
    ·exact eA (fun a v hv=>by rw[ig.1 hv];exact Leaf.val _) _
    ·exact U36
    ·exact U36
    intro h2' r2 m2 o2 _;simp-implicitDefEqProofs only[V] at m2 o2 r2;simp-implicitDefEqProofs only[V,↓reduceIte,rA,u6,w1];have l1':=tw1.l1;have tw2:TwoG h2' m (.own (s1.h.next+1) 0 (out.length+1) 1 none) (.own h1'.next 0 (P.length+(grp m d.nm).length) 1 none) (out++[grp m d.nm]) (P++grp m d.nm):=by
     have hne:∀y,y<s1.h.next→y∈ids u→y<h1'.next:=fun y _ _=>by omega
     refine⟨?_,om,?_,?_,fun y hy=>?_⟩
     ·rw[o2 0 om (fun q=>by have:=(tw1.ru.ids 0 q).1;omega),o1' 0 om (fun q=>by have:=(tw1.rv.ids 0 q).1;omega),g1]
     ·have e:(out++[grp m d.nm]).length=out.length+1:=by rw[iq];rfl
      rw[e,A2];obtain⟨p1,p2,p3|⟨b,b1,b2,b3,b4,b5⟩⟩:=r1
      ·omega
      ·cases b4;exact⟨p1,p2,.inr ⟨_,b1,om,b3,rfl,by rw[o2 _ b2 fun q=>by have:=(tw1.ru.ids _ q).2;omega];exact b5⟩⟩
     ·rw[iq,A2];exact r2
     ·rw[ids,ig] at hy;rw[ids,ig];have:=(r1.ids (s1.h.next+1) (by simp[ids])).2
      omega
    apply aC (rfl:tY=.loop k9);have g2:=tw2.g0;cases q3:decide (((i+1:Nat):Int)<(m.ds.l.length:Int)) with
    |true=>
     simp-implicitDefEqProofs only[k9,V,↓reduceIte,rA,u1,g2,d1,q3];exact .inr ⟨_,_,_,rfl,rfl,rfl,tw2⟩
    |false=>
     simp-implicitDefEqProofs only[k9,V,↓reduceIte,rA,u1,g2,d1,q3];exact .inr ⟨_,_,_,rfl,rfl,rfl,tw2⟩
noncomputable def mea (m:Md) (P:List ByteArray):Nat:=(m.ds.l.filter fun d=> !memS d.nm P).length
theorem fU{m:Md}{P g:List ByteArray}:∀{l:List Df},fstG m P l=some g→∃d∈l,g=grp m d.nm∧memS d.nm P=false
 | [],h=>by cases h
 |d::r,h=>by
  rw[fstG] at h;cases q1:memS d.nm P with
  |true=>
   rw[q1,cond_true] at h;obtain⟨e,h1,h2⟩:=fU h;exact⟨e,iz _ h1,h2⟩
  |false=>
   rw[q1,cond_false] at h;cases q2:rdy m (grp m d.nm) P m.ds.l with
   |true=>
    rw[q2,cond_true] at h;cases h;exact⟨d,im,rfl,q1⟩
   |false=>
    rw[q2,cond_false] at h;obtain⟨e,h1,h2⟩:=fU h;exact⟨e,iz _ h1,h2⟩
theorem tN{m:Md}{d:Df}:inG m d.nm d=true:=by rw[inG,ax,A5]
theorem hY{m:Md}{x z:ByteArray}:∀{l:List Df},z∈grpD m x l↔∃d∈l,d.nm=z∧inG m x d=true
 | []=>by simp[grpD]
 |d::r=>by
  rw[grpD];cases q:inG m x d with
  |true=>
   rw[cond_true,i9,hY];constructor
   ·rintro(rfl|⟨e,h1,h2,h3⟩)
    ·exact⟨d,im,rfl,q⟩
    ·exact⟨e,iz _ h1,h2,h3⟩
   ·rintro⟨e,h1,h2,h3⟩;rcases i9.1 h1 with rfl|h1
    ·exact .inl h2.symm
    ·exact .inr ⟨e,h1,h2,h3⟩
  |false=>
   rw[cond_false,hY];constructor
   ·rintro⟨e,h1,h2,h3⟩;exact⟨e,iz _ h1,h2,h3⟩
   ·rintro⟨e,h1,h2,h3⟩;rcases i9.1 h1 with rfl|h1
    ·rw[q] at h3;cases h3
    ·exact⟨e,h1,h2,h3⟩
theorem pG{α:Type}{p q:α→Bool}:∀{l:List α},(∀a∈l,q a=true→p a=true)→(∃a∈l,p a=true∧q a=false)→(l.filter q).length<(l.filter p).length
 | [],_,⟨a,h,_⟩=>by cases h
 |x::l,h1,⟨a,h,h2,h3⟩=>by
  have hle:∀l:List α,(∀a∈l,q a=true→p a=true)→(l.filter q).length≤(l.filter p).length:=fun l=>by
   induction l with
   |nil=>exact fun _=>i7 _
   |cons y l ih=>
    intro k;have:=ih fun a ha=>k a (iz _ ha);rw[A6,A6];cases e:q y with
    |true=>rw[if_pos rfl,if_pos (k y im e),il,il];omega
    |false=>
     rw[if_neg de];split
     ·rw[il];omega
     ·exact this
  have k:=fun a ha=>h1 a (iz _ ha);rw[A6,A6];rcases i9.1 h with rfl|h
  ·rw[h2,h3,if_pos rfl,if_neg de,il];have:=hle l k;omega
  ·have ih:=pG k ⟨a,h,h2,h3⟩;cases e:q x with
   |true=>rw[if_pos rfl,if_pos (h1 x im e),il,il];omega
   |false=>
    rw[if_neg de];split
    ·rw[il];omega
    ·exact ih
theorem mX{x:ByteArray}{a b:List ByteArray}:memS x (a++b)=(memS x a||memS x b):=by
 rw[Aq,Ab,aV,aV,aV,List.mem_append]
theorem Dx{m:Md}{P g:List ByteArray}(h:fstG m P m.ds.l=some g):mea m (P++g)<mea m P:=by
 obtain⟨d,hd,rfl,hP⟩:=fU h;refine pG (fun a _ h=>?_) ⟨d,hd,by rw[hP];rfl,?_⟩
 ·rw[mX,Bool.not_eq_true',Bool.or_eq_false_iff] at h;rw[h.1];rfl
 ·have:memS d.nm (grp m d.nm)=true:=aV.2 (hY.2 ⟨d,hd,rfl,tN⟩);rw[mX,this,Bool.or_true];rfl
theorem Fj{m:Md}(hm:MdT m)(hs:m.ds.l.length<2^14):∀(n:Nat) (P:List ByteArray) (out:List (List ByteArray)) (v u:AV) (s:St),mea m P≤n→P.length+n*2^14<2^29→out.length+n<2^29→TwoG s.h m v u out P→s.eval (.t 1)=some (.ptr 0 0)→s.eval (.t 3)=some v→s.eval (.t 4)=some u→s.eval (.t 5)=some (vB true)→s.defers=[]→
  Run E1 tX s fun e s'=>e=.exit 0∧s'.defers=[]∧∃v',s'.eval (.t 3)=some v'∧RowC s'.h 1 (runR m (n+1) P out).length 1 v' ((runR m (n+1) P out).flatMap gA):=fun n=>by
 induction n with
 |zero=>
  intro P out v u s hn hP hO tw h1 h3 h4 h5 hf;apply aC (rfl:tX=.loop mq);simp-implicitDefEqProofs only[mq,V,↓reduceIte,h5];refine(iJ (v:=v) (u:=u) (P:=P) (out:=out) hm om om m.ds.l 0 _ rfl (ip _) ?_ ?_ ?_ ?_ ?_ ?_ ?_).mono ?_
  all_goals try simp-implicitDefEqProofs only[V,↓reduceIte,rA,h1,h3,h4,hf]
  ·exact tw
  ·rfl
  rintro e s1 ⟨rfl,d1,u1,⟨q,t5,t3,r1⟩|⟨g,v',u',q,t5,t3,t4,tw1⟩⟩
  ·exact U85
  ·have:=Dx q;omega
 |succ n ih=>
  intro P out v u s hn hP hO tw h1 h3 h4 h5 hf;apply aC (rfl:tX=.loop mq);simp-implicitDefEqProofs only[mq,V,↓reduceIte,h5];refine(iJ (v:=v) (u:=u) (P:=P) (out:=out) hm om om m.ds.l 0 _ rfl (ip _) ?_ ?_ ?_ ?_ ?_ ?_ ?_).mono ?_
  all_goals try simp-implicitDefEqProofs only[V,↓reduceIte,rA,h1,h3,h4,hf]
  ·exact tw
  ·rfl
  rintro e s1 ⟨rfl,d1,u1,⟨q,t5,t3,r1⟩|⟨g,v',u',q,t5,t3,t4,tw1⟩⟩
  ·exact U85
  ·have hlt:=Dx q;obtain⟨d,hd,eg,_⟩:=fU q;have hgl:g.length≤m.ds.l.length:=by rw[eg];exact d7 m.ds.l
   simp-implicitDefEqProofs only[V,WB];rw[runR,q];refine ih (P++g) (out++[g]) v' u' s1 om ?_ ?_ tw1 u1 t3 t4 t5 d1
   ·rw[iq];omega
   ·rw[iq,List.length_singleton];omega
theorem qe{m:Md}(hm:MdT m)(hs:m.ds.l.length<2^14)(h:AH):RunCall E1 (.f 8) [.agg m.cells] h (gsV (grpsR m)) h:=by
 have hmea:mea m []≤m.ds.l.length:=List.length_filter_le _ _;refine fZ kr Wz (ei (Tree.md m)) (fun s hs' hh hd hr=>?_) h;have h0:=hs' 0 _ rfl;simp-implicitDefEqProofs only[Ms,f8,V,h0,hh];refine(Fj hm hs m.ds.l.length [] [] (.val (.slice none 0 0)) (.val (.slice none 0 0)) _ hmea (by simp only[jc];omega) (by simp only[jc];omega) ?_ ?_ ?_ ?_ ?_ ?_).mono ?_
 all_goals try simp-implicitDefEqProofs only[V,↓reduceIte,rA,hd]
 ·exact⟨rfl,i7 _,RowC.nil,RowC.nil,fun y hy=>by cases hy⟩
 rintro e s2 ⟨rfl,d2,u',t3,r2⟩;simp-implicitDefEqProofs only[V,↓reduceIte,reduceCtorEq,WF,t3,d2];refine⟨u',rfl,1,de,?_⟩;have r2:RowC s2.h 1 (grpsR m).length 1 u' ((grpsR m).flatMap gA):=r2;have:=(r2.low (ip 1)).rep;rw[show(bif Nat.beq (grpsR m).length 0 then AV.val (.slice none 0 0) else .imm ((grpsR m).flatMap gA) (grpsR m).length none)=rowT (grpsR m).length ((grpsR m).flatMap gA) from rfl,gn rfl] at this;exact this
end Go.Proofs.YtkmoeaplhnabcaaGreatDoor
