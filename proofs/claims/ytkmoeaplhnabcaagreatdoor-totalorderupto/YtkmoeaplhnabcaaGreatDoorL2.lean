/- TMenA TMenB TMenC TMenD TPlawB TOrdA TOrdB TOrdC -/
import Derived.Test.YtkmoeaplhnabcaaGreatDoorU0
import Derived.Test.YtkmoeaplhnabcaaGreatDoorH2
import Derived.Test.YtkmoeaplhnabcaaGreatDoorL1

set_option linter.all false
open Nat renaming reduceEqDiff → rA, reduceAdd → rB, reduceMul → rC
open Int renaming reduceEq → rD, reduceLT → rE, reduceLE → rF
open Option.some renaming injEq → sI
open Prod.mk renaming injEq → pI
open Bool renaming and_eq_true → i9, and_self → ip, false_and → B6, false_or → Av, not_eq_true' → Au, not_false → A5, not_true → Be, true_and → A7, true_or → A2
open List renaming Pairwise → Bv, all_cons → j4, all_eq_true → iy, all_nil → j5, append_assoc → jh, append_nil → j6, drop_succ_cons → A6, drop_zero → jj, flatMap_append → A8, length_append → io, length_cons → im, length_singleton → C0, mem_append → jc, mem_append_right → Ae, mem_cons → i8, mem_cons_of_mem → j0, mem_cons_self → il, mem_filter → jy, mem_flatten → Ca, mem_map → A1, mem_nil_iff → jb, mem_of_mem_drop → A4, mem_singleton → ig, nodup_cons → Ax, take_succ_cons → jm, take_zero → jv
open Nat renaming eq_of_beq_eq_true → ij, le_refl → i7, zero_le → ir
namespace Go.Proofs.YtkmoeaplhnabcaaGreatDoor
open Go Go.AM
set_option maxHeartbeats 4000000
variable [KR]
theorem fZ{h:AH}{lo:Nat}{v:AV}{l:List ByteArray}{b:ByteArray}(r:RowX h lo l.length 1 v (l.flatMap strA))(hN:l.length<2^61):RunCall E1 (.f 13) [v,vS b] h (vI (fndI b l)) h:=by
 obtain⟨h1,f1,f2,f3,f4⟩:=bN r;obtain⟨nl,cap,e⟩:=d9 r;refine dE (xs:=[]) (ys:=[vS b]) kr (fun v hv=>by cases hv) (iM (Tree.val _)) nN.tree f1 f4 rfl fun h=>?_
 rw[e];exact cW ⟨l,nl,cap⟩ b hN h
theorem uk{m:Md}(hmn:m.ds.l.length<2^61){out:List ByteArray}{i:Nat}{x:ByteArray}{r:List ByteArray}{d:Df}{s:St}{B lo:Nat}{v:AV}{Q:AM.Ex→St→Prop}(hx:fndD x m.ds.l=some d)(hd:out.drop i=x::r)(hB:B<s.h.next)(gB:s.h.get B=some (.cells m.cells true))(hr:RowX s.h lo out.length 1 v (out.flatMap strA))(hix:∃b t',idxAddrSV 1 v i=some (.ptr b i)∧cfB (s.h.get b) i=some (vS x::t')∧niceT s.h (some (.ptr b i))=true)(h2:s.eval (.t 2)=some (.ptr B 0))(h5:s.eval (.t 5)=some v)(h6:s.eval (.t 6)=some (vI (i:Nat)))
  (post:∀s',(∀j,j<7→s'.eval (.t j)=s.eval (.t j))→s'.eval (.t 7)=some (.ptr s.h.next 0)→s'.eval (.t 8)=some (vB true)→s'.h=(s.h.alloc (.cells zDf true)).put s.h.next (some (.cells d.cells true))→s'.defers=s.defers→Q .normal s'):Run E1 Dp s Q:=by
 have hcall:=fun h=>mc m x hmn h;have nB:niceT s.h (some (.ptr B 0))=true:=bt hB gB (by rw[m.ids0];rfl)
 have ids2:ids (.agg m.cells)=[]:=by show idsL m.cells=[];exact m.ids0
 have e1:ansD x m.ds.l=.tup [.agg d.cells,vB true]:=by rw[ansD,hx]
 obtain⟨b,t',hix,hcf,nb⟩:=hix;have ids3:ids (.tup [.agg d.cells,vB true])=[]:=by
  show idsL [.agg d.cells,vB true]=[];simp only[idsL,ids,d.ids0,j6]
 have vi:∀v,ids (AV.val v)=[]:=fun _=>rfl;rw[e1] at hcall;refine mb (ops:=p9) (pre:=p9.take 9) (a:=7) (x:=28) (b:=29) (c:=8) (n:=25) (z:=zDf) (fr0:=[0,1,2,3,4,5,6,7,8]) (fr1:=[8]) rfl rfl rfl rfl de de de ?_
 simp-implicitDefEqProofs only[p9,jm,jv,wpDr,bZ,j4,j5,V,↓reduceIte,rA,h2,h5,h6,gB,nB,hix,hcf,nb,hr.nice,aM ids2,ak ids2,aM (vi _),ak (vi _),ip];refine⟨_,hcall,aM ids3,aM ids3,?_⟩;simp-implicitDefEqProofs only[V,↓reduceIte,rA,aM ids3];refine⟨d.cells,rfl,d.ids0,d.len,?_⟩;refine post _ (fun j hj=>?_) ?_ ?_ rfl rfl
 ·have q:∀n,7≤n→(j=n)=False:=fun n hn=>by simp;omega
  simp-implicitDefEqProofs only[V,↓reduceIte,q 7 om,q 8 om,q 21 om,q 22 om,q 23 om,q 24 om,q 25 om,q 26 om,q 27 om,q 28 om,q 29 om]
 ·exact U36
 ·exact U36
theorem uj{m:Md}(hmn:m.ds.l.length<2^61){N:Vl ByteArray}{i:Nat}{x:ByteArray}{r:List ByteArray}{s:St}{B:Nat}{Q:AM.Ex→St→Prop}(hd:N.l.drop i=x::r)(hB:B<s.h.next)(gB:s.h.get B=some (.cells m.cells true))(h2:s.eval (.t 2)=some (.ptr B 0))(h9:s.eval (.t 9)=some (N.A strA))(h10:s.eval (.t 10)=some (vI (i:Nat)))
  (post:∀s',(∀j,j<11→s'.eval (.t j)=s.eval (.t j))→s'.eval (.t 12)=some (vB (kn m x))→(∃cs,s'.h=(s.h.alloc (.cells zDf true)).put s.h.next (some (.cells cs true)))→s'.defers=s.defers→Q .normal s'):Run E1 Do s Q:=by
 have hcall:=fun h=>mc m x hmn h;have nB:niceT s.h (some (.ptr B 0))=true:=bt hB gB (by rw[m.ids0];rfl)
 have ids2:ids (.agg m.cells)=[]:=by show idsL m.cells=[];exact m.ids0
 have hans:∃cs,ansD x m.ds.l=.tup [.agg cs,vB (kn m x)]∧idsL cs=[]∧cs.length=25:=by
  rw[ansD,kn];cases fndD x m.ds.l with
  |none=>exact⟨zDf,rfl,by rw[xm];exact dZ.ids0,rfl⟩
  |some d=>exact⟨d.cells,rfl,d.ids0,d.len⟩
 obtain⟨cs,e1,ci,cl⟩:=hans;have ids3:ids (.tup [.agg cs,vB (kn m x)])=[]:=by
  show idsL [.agg cs,vB (kn m x)]=[];simp only[idsL,ids,ci,j6]
 have vi:∀v,ids (AV.val v)=[]:=fun _=>rfl;rw[e1] at hcall;refine mb (ops:=p8) (pre:=p8.take 9) (a:=11) (x:=46) (b:=47) (c:=12) (n:=25) (z:=zDf) (fr0:=[0,1,2,3,4,5,6,7,8]) (fr1:=[8]) rfl rfl rfl rfl de de de ?_
 simp-implicitDefEqProofs only[p8,jm,jv,wpDr,bZ,j4,j5,V,↓reduceIte,rA,h2,h9,h10,gB,nB,N.at aI hd,bS,an,aM ids2,ak ids2,aM Vl.ids,aM (vi _),ak (vi _),ip];refine⟨_,hcall,aM ids3,aM ids3,?_⟩;simp-implicitDefEqProofs only[V,↓reduceIte,rA,aM ids3];refine⟨cs,rfl,ci,cl,?_⟩;refine post _ (fun j hj=>?_) ?_ ⟨cs,rfl⟩ rfl
 ·have q:∀n,11≤n→(j=n)=False:=fun n hn=>by simp;omega
  simp-implicitDefEqProofs only[V,↓reduceIte,q 11 om,q 12 om,q 39 om,q 40 om,q 41 om,q 42 om,q 43 om,q 44 om,q 45 om,q 46 om,q 47 om]
 ·exact U36
theorem ui{d:Df}(hN:d.ps.l.length<2^61){N:Vl ByteArray}{i:Nat}{x:ByteArray}{r:List ByteArray}{s:St}{C lo:Nat}{b:Bool}{acc:List ByteArray}{v:AV}(hd:N.l.drop i=x::r)(hC:C<s.h.next)(gC:s.h.get C=some (.cells d.cells true))(hr:RowX s.h lo acc.length 1 v (acc.flatMap strA))(hA:acc.length<2^61)(nt:NoTag s.h)(h7:s.eval (.t 7)=some (.ptr C 0))(h5:s.eval (.t 5)=some v)(h9:s.eval (.t 9)=some (N.A strA))(h10:s.eval (.t 10)=some (vI (i:Nat)))(h12:s.eval (.t 12)=some (vB b)):
  Run E1 Dn s fun e s'=>e=.normal∧s'.h.next=s.h.next∧(∀y,s'.h.get y=s.h.get y)∧s'.defers=s.defers∧s'.eval (.t 67)=some (vB ((b&& !memS x d.ps.l)&& !memS x acc))∧∀j,j<13→s'.eval (.t j)=s.eval (.t j):=by
 have nC:∀o,niceT s.h (some (.ptr C o))=true:=fun o=>bt hC gC (by rw[d.ids0];rfl)
 have vi:∀v,ids (AV.val v)=[]:=fun _=>rfl;have nu:niceT s.h (some undefA)=true:=rfl;have hc13:=cW d.ps x hN;have q:∀j,j<13→∀n,13≤n→(j=n)=False:=fun j hj n hn=>by simp;omega
 refine bT (ops:=fk) (pre:=fk.take 17++[⟨⟨some 65,some (59,true),.call 13 [.t 60,.t 64]⟩,[60,64,59],[]⟩,⟨⟨some 66,some (59,true),.bin .lss 3 true (.t 65) (.c (vI 0))⟩,[65,59],[]⟩]) (d:=⟨⟨some 67,none,.pick (.t 59) (.t 66) (.c (vB false))⟩,[59,66],[]⟩) rfl ?_
 refine cN (fk.take 17) [] _ rfl (fun x hx=>by cases hx) ?_
 cases hb:b&& !memS x d.ps.l with
 |false=>
  rw[B6];cases b with
  |false=>
   simp-implicitDefEqProofs only[fk,jm,jv,wpDr,bZ,iO,vq,j4,j5,V,↓reduceIte,rA,h7,h5,h9,h10,h12,nC,gC,N.at aI hd,bS,aM Vl.ids,ak Vl.ids,aM (vi _),ak (vi _),an,nu,hr.nice,ip];intro _ done' hd' _;have e49:∀s1:St,s1.eval (.t 59)=some (vB false)→wantedA s1 (some (59,true))=some false:=fun s1 h=>dH h;refine dh rfl (e49 _ U36) (by simp) ?_
   refine dh rfl (e49 _ U36) (by simp) ?_
   refine bO ?_
   simp-implicitDefEqProofs only[V,↓reduceIte,rA];refine⟨fun _=>trivial,fun j hj=>?_⟩;have q:=q j hj;exact U92
  |true=>
   have hm:memS x d.ps.l=true:=by rw[A7] at hb;simpa using hb
   simp-implicitDefEqProofs only[fk,jm,jv,wpDr,bZ,iO,nz,vq,j4,j5,V,↓reduceIte,rA,h7,h5,h9,h10,h12,nC,gC,N.at aI hd,bS,aM Vl.ids,ak Vl.ids,aM (vi _),ak (vi _),an,nu,hr.nice,ip];refine⟨_,hc13,?_⟩;simp-implicitDefEqProofs only[vq,V,↓reduceIte,rA,cB,hm,h5,h9,h10,aM Vl.ids,aM (vi _),nu,hr.nice,ip];intro _ done' hd' _;have e49:∀s1:St,s1.eval (.t 59)=some (vB false)→wantedA s1 (some (59,true))=some false:=fun s1 h=>dH h;refine dh rfl (e49 _ U36) (by simp) ?_
   refine dh rfl (e49 _ U36) (by simp) ?_
   refine bO ?_
   simp-implicitDefEqProofs only[V,↓reduceIte,rA];refine⟨fun _=>trivial,fun j hj=>?_⟩;have q:=q j hj;exact U92
 |true=>
  rw[A7];rw[i9] at hb;obtain⟨rfl,hm'⟩:=hb;have hm:memS x d.ps.l=false:=by simpa using hm'
  simp-implicitDefEqProofs only[fk,jm,jv,wpDr,bZ,iO,nz,vq,j4,j5,V,↓reduceIte,rA,h7,h5,h9,h10,h12,nC,gC,N.at aI hd,bS,aM Vl.ids,ak Vl.ids,aM (vi _),ak (vi _),an,nu,hr.nice,ip];refine⟨_,hc13,?_⟩;simp-implicitDefEqProofs only[nz,V,↓reduceIte,rA,cB,hm,h5,h9,h10,N.at aI hd,bS,aM Vl.ids,aM (vi _),an,nu,hr.nice,ip];intro _ done' hd' _;refine vC (lo:=lo) (k:=acc.length) (es:=1) (w:=v) (cs:=acc.flatMap strA) (l:=[v,vS x]) (t:=vI (fndI x acc)) ?_ (fun j hj=>?_) ⟨60,by simp,?_⟩ rfl ?_ ?_ rfl (dH (b:=true) ?_) (fun h g1 g2=>?_) fun rec h' n' o'=>?_
  ·exact U76
  ·simp only[i8,jb,or_false] at hj;rcases hj with rfl|rfl|rfl
   ·exact⟨v,by simp-implicitDefEqProofs only[V,↓reduceIte,rA],.inr rfl⟩
   ·exact⟨vS x,by simp-implicitDefEqProofs only[V,↓reduceIte],.inl rfl⟩
   ·exact⟨vB true,by simp-implicitDefEqProofs only[V,↓reduceIte,rA],.inl rfl⟩
  ·exact U36
  ·exact U36
  ·simp-implicitDefEqProofs only[V];exact nt
  ·exact U36
  ·simp-implicitDefEqProofs only[V] at g1 g2;exact fZ (lo:=lo) (hr.toB om g2) hA
  simp-implicitDefEqProofs only[V] at n' o';refine tW (v:=vB (!memS x acc)) rfl rfl rfl (dH (b:=true) ?_) ?_ ?_ (by simp) (bO ?_)
  ·exact U36
  ·simp-implicitDefEqProofs only[V,↓reduceIte,rA,j4,j5];rfl
  ·have e65:∀s2:St,s2.eval (.t 65)=some (vI (fndI x acc))→runOp E1 noCall s2 (.bin .lss 3 true (.t 65) (.c (vI 0)))=some (vB (!memS x acc),s2):=fun s2 h=>by
    have hv:binA E1.P .lss 3 true (vI (fndI x acc)) (vI 0)=some (vB (decide (fndI x acc<0))):=Ie;rw[cB] at hv;have hz:s2.eval (.c (vI 0))=some (vI 0):=rfl;simp only[runOp,h,hz,hv,Option.bind_some]
   exact e65 _ U36
  simp-implicitDefEqProofs only[V,↓reduceIte,rA];refine⟨n',o',fun j hj=>?_⟩;have q:=q j hj;exact U92
theorem tD{s:St}{K:St→Prop}{r:List AOper}{dst:Option Nat}{es bytes a d k m lo:Nat}{v x:AV}{cs new:List AV}(hr:RowX s.h lo k es v cs)(hlo:lo≤s.h.next)(he:elemsOf s.h es x=some (new,m))(hl:new.length=m*es)(hn:∀c∈new,Leaf c)(hok:okLen (k+m) bytes=true)(ha:s.eval (.t a)=some v)(hx:s.eval (.t d)=some x)
  (kk:∀v' h',RowX h' lo (k+m) es v' (cs++new)→s.h.next≤h'.next→(∀y,y<s.h.next→y∉ids v→h'.get y=s.h.get y)→(NoTag s.h→NoTag h')→AM.wpOps E1 r ((s.toH h').put dst v') K):AM.wpOps E1 (⟨dst,none,.append es bytes (.t a) (.t d)⟩::r) s K:=by
 obtain⟨v',h',e,r',n',o',t'⟩:=mm (bytes:=bytes) hr hlo he hl hn hok ha hx;rw[cR,e];exact kk v' h' r' n' o' t'
theorem Jh{α:Type}{f:α→List AV}{v:Vl α}{b:ByteArray}(h:v.A f=vS b):False:=by
 obtain⟨l,nl,cap⟩:=v;simp only[Vl.A,kidsA] at h;cases nl with
 |none=>simp at h
 |some a=>
  cases e:Nat.beq l.length 0 with
  |true=>rw[e] at h;simp[noKids] at h
  |false=>rw[e] at h;simp at h
theorem Nk{d:Df}{acc:List ByteArray}{x:ByteArray}(h:d.cells=acc.flatMap strA++[vS x]):False:=by
 have hl:=congrArg List.length h;rw[d.len,io,fD,C0] at hl
 match acc,hl,h with
 | [],hl,h=>simp at hl
 | [a],hl,h=>simp at hl
 |a::b::r,hl,h=>
  have h:AV.val (.string d.nm)::d.ps.A strA::(d.b.cells++d.rest)=vS a:: vS b::(r.flatMap strA++[vS x]):=h;injection h with _ h;injection h with h _;exact Jh h
theorem jI{m:Md}(hmn:m.ds.l.length<2^61){d:Df}(hN:d.ps.l.length<2^61){N:Vl ByteArray}(hNl:N.l.length<2^28){B C lo o:Nat}(hB:B<lo):∀(r:List ByteArray) (i:Nat) (s:St) (acc:List ByteArray) (v:AV),N.l.drop i=r→i≤N.l.length→acc.length+r.length<2^28→RowX s.h lo acc.length 1 v (acc.flatMap strA)→lo≤s.h.next→C<s.h.next→C∉ids v→s.h.get B=some (.cells m.cells true)→s.h.get C=some (.cells d.cells true)→NoTag s.h→s.eval (.t 2)=some (.ptr B 0)→s.eval (.t 7)=some (.ptr C 0)→s.eval (.t 6)=some (vI (o:Nat))→s.eval (.t 5)=some v→s.eval (.t 9)=some (N.A strA)→s.eval (.t 10)=some (vI (i:Nat))→s.defers=[]→
  Run E1 qA s fun e s'=>e=.exit 2∧s'.defers=[]∧lo≤s'.h.next∧(∀y,y<lo→s'.h.get y=s.h.get y)∧NoTag s'.h∧s'.eval (.t 2)=some (.ptr B 0)∧s'.eval (.t 6)=some (vI (o:Nat))∧∃v',s'.eval (.t 5)=some v'∧RowX s'.h lo (addAll acc (r.filter fun x=>kn m x&& !memS x d.ps.l)).length 1 v' ((addAll acc (r.filter fun x=>kn m x&& !memS x d.ps.l)).flatMap strA)
 | [],i,s,acc,v,hd,hi,hA,hr,l1,lC,nC,gB,gC,nt,h2,h7,h6,h5,h9,h10,hf=>by
  have hl:=aK hd hi;subst hl;apply aC (rfl:qA=.loop mS);rw[show addAll acc (List.filter (fun x=>kn m x&& !memS x d.ps.l) [])=acc from rfl];simp-implicitDefEqProofs only[mS,V,↓reduceIte,rA,h2,h6,h5,h9,h10,hf,ba];exact⟨l1,fun _ _=>trivial,nt,v,rfl,hr⟩
 |x::r,i,s,acc,v,hd,hi,hA,hr,l1,lC,nC,gB,gC,nt,h2,h7,h6,h5,h9,h10,hf=>by
  have hl:=aL hd;have hlt:=bY hl;have w1:IntKind.i64.wrap ((i:Int)+1)=((i+1:Nat):Int):=aE (n:=i+1) om;rw[im] at hA;apply aC (rfl:qA=.loop mS);simp-implicitDefEqProofs only[mS,V,↓reduceIte,rA,h9,h10,hlt];refine uj (B:=B) hmn hd ?_ ?_ ?_ ?_ ?_ ?_
  ·exact U34
  ·exact U63
  ·exact U52
  ·exact U43
  ·simp-implicitDefEqProofs only[V,↓reduceIte,rA,h10]
  intro s1 k1 t12 ⟨cs,eh⟩ d1;simp-implicitDefEqProofs only[V] at eh d1;have n1:s1.h.next=s.h.next+1:=by rw[eh];rfl
  have o1:∀y,y<s.h.next→s1.h.get y=s.h.get y:=fun y hy=>by rw[eh,aP om,aB hy]
  have nt1:NoTag s1.h:=by rw[eh];exact fF nt.alloc
  have u2:s1.eval (.t 2)=some (.ptr B 0):=by rw[k1 2 de];simp-implicitDefEqProofs only[V,↓reduceIte,rA,h2]
  have u7:s1.eval (.t 7)=some (.ptr C 0):=by rw[k1 7 de];simp-implicitDefEqProofs only[V,↓reduceIte,rA,h7]
  have u6:s1.eval (.t 6)=some (vI (o:Nat)):=by rw[k1 6 de];simp-implicitDefEqProofs only[V,↓reduceIte,rA,h6]
  have u5:s1.eval (.t 5)=some v:=by rw[k1 5 de];simp-implicitDefEqProofs only[V,↓reduceIte,rA,h5]
  have u9:s1.eval (.t 9)=some (N.A strA):=by rw[k1 9 de];simp-implicitDefEqProofs only[V,↓reduceIte,rA,h9]
  have u10:s1.eval (.t 10)=some (vI (i:Nat)):=by rw[k1 10 de];simp-implicitDefEqProofs only[V,↓reduceIte,rA,h10]
  have hr1:RowX s1.h lo acc.length 1 v (acc.flatMap strA):=hr.to om fun y _ y2=>o1 y y2;simp-implicitDefEqProofs only[V];refine(ui (C:=C) (lo:=lo) (acc:=acc) (v:=v) hN hd om (by rw[o1 C om,gC]) hr1 om nt1 u7 u5 u9 u10 t12).mono ?_
  rintro e s2 ⟨rfl,m2,g2,d2,t67,k2⟩;have v2:s2.eval (.t 2)=some (.ptr B 0):=by rw[k2 2 de,u2]
  have v7:s2.eval (.t 7)=some (.ptr C 0):=by rw[k2 7 de,u7]
  have v6:s2.eval (.t 6)=some (vI (o:Nat)):=by rw[k2 6 de,u6]
  have v5:s2.eval (.t 5)=some v:=by rw[k2 5 de,u5]
  have v9:s2.eval (.t 9)=some (N.A strA):=by rw[k2 9 de,u9]
  have v10:s2.eval (.t 10)=some (vI (i:Nat)):=by rw[k2 10 de,u10]
  have hr2:RowX s2.h lo acc.length 1 v (acc.flatMap strA):=hr1.to om fun y _ y2=>g2 y;have o2:∀y,y<s.h.next→s2.h.get y=s.h.get y:=fun y hy=>by rw[g2,o1 y hy]
  have n2:s2.h.next=s.h.next+1:=by rw[m2,n1]
  have nt2:NoTag s2.h:=fun y c n=>by rw[g2];exact nt1 y c n
  have keep:∀b,((kn m x&& !memS x d.ps.l)&& !memS x acc)=b→addAll acc (List.filter (fun x=>kn m x&& !memS x d.ps.l) (x::r))=addAll (bif b then acc++[x] else acc) (List.filter (fun x=>kn m x&& !memS x d.ps.l) r):=fun b hb=>by
   rw[List.filter_cons];cases q1:(kn m x&& !memS x d.ps.l) with
   |false=>
    rw[q1] at hb;subst hb;simp only[Bool.false_eq_true,if_false,B6,cond_false]
   |true=>
    rw[q1,A7] at hb;subst hb;rw[if_pos rfl,xf rfl];cases memS x acc<;>rfl
  cases q:((kn m x&& !memS x d.ps.l)&& !memS x acc) with
  |false=>
   rw[q] at t67;rw[keep _ q,cond_false];simp-implicitDefEqProofs only[V,↓reduceIte,t67,v10,w1];refine(jI (o:=o) (C:=C) hmn hN hNl hB r (i+1) _ acc v (aH hd) om om ?_ ?_ ?_ ?_ ?_ ?_ ?_ ?_ ?_ ?_ ?_ ?_ ?_ ?_).mono ?_
   all_goals try simp-implicitDefEqProofs only[V,↓reduceIte,rA,v2,v7,v6,v5,v9,d2,d1,hf]
   ·exact hr2
   ·omega
   ·omega
   ·exact nC
   ·rw[o2 B om,gB]
   ·rw[o2 C om,gC]
   ·exact nt2
   rintro e s3 ⟨e1,d3,n3,o3,H⟩
   try simp-implicitDefEqProofs only[V,↓reduceIte,rA,rB,rC,reduceCtorEq,rD,rE,rF] at o3
   exact⟨e1,d3,n3,fun y hy=>by rw[o3 y hy,o2 y om],H⟩
  |true=>
   rw[q] at t67;rw[keep _ q,cond_true];have hb:(acc++[x]).length=acc.length+1:=by rw[io];rfl
   simp-implicitDefEqProofs only[V,↓reduceIte,rA,WF,t67,v5,v9,v10,N.at aI hd,bS];refine tD (k:=acc.length) (m:=1) (lo:=lo) (v:=v) (x:=.own s2.h.next 0 1 1 (some 1)) (cs:=acc.flatMap strA) (new:=[vS x]) ?_ ?_ ?_ rfl ?_ (aS (bytes:=16) om de) ?_ ?_ ?_
   ·exact U73
   ·exact U34
   ·refine aq (rw':=true) ?_ rfl;exact U36
   ·exact fun c hc=>by rw[ig.1 hc];exact Leaf.val _
   ·exact U36
   ·exact U36
   intro v3 h3' r3 m3 o3 t3;simp-implicitDefEqProofs only[V] at m3 o3 r3 t3;have m3:s2.h.next+1≤h3'.next:=m3;simp-implicitDefEqProofs only[V,↓reduceIte,rA,v10,w1];have o3':∀y,y<lo→h3'.get y=s.h.get y:=fun y hy=>by
    rw[o3 y om (fun q=>by have:=(hr2.ids y q).1;omega),if_neg om,o2 y om]
   have gC3:h3'.get C=some (.cells d.cells true):=by rw[o3 C om nC,if_neg om,o2 C om,gC]
   have nC3:C∉ids v3:=fun q=>by
    have h1:=(r3.ids C q).2.2;rw[gC3] at h1;injection h1 with h1;injection h1 with h1 _;exact Nk h1
   refine(jI (o:=o) (C:=C) hmn hN hNl hB r (i+1) _ (acc++[x]) v3 (aH hd) om om ?_ ?_ ?_ ?_ ?_ ?_ ?_ ?_ ?_ ?_ ?_ ?_ ?_ ?_).mono ?_
   all_goals try simp-implicitDefEqProofs only[V,↓reduceIte,rA,v2,v7,v6,v9,d2,d1,hf]
   ·rw[hb,A8];exact r3
   ·omega
   ·omega
   ·exact nC3
   ·rw[o3' B hB,gB]
   ·exact gC3
   ·exact t3 nt2.alloc
   rintro e s4 ⟨e1,d3,n4,o4,H⟩
   try simp-implicitDefEqProofs only[V,↓reduceIte,rA,rB,rC,reduceCtorEq,rD,rE,rF] at o4
   exact⟨e1,d3,n4,fun y hy=>by rw[o4 y hy,o3' y hy],H⟩
theorem yI{h:AH}{lo i:Nat}{v:AV}{l t:List ByteArray}{x:ByteArray}(r:RowX h lo l.length 1 v (l.flatMap strA))(hd:l.drop i=x::t):∃b t',idxAddrSV 1 v i=some (.ptr b i)∧cfB (h.get b) i=some (vS x::t')∧niceT h (some (.ptr b i))=true:=by
 have hl:=aL hd;have hdr:=wd hd;have hle:Nat.ble i (l.flatMap strA).length=true:=Nat.ble_eq.mpr (by rw[fD];omega)
 have key:∀b cap,(∀c∈l.flatMap strA,Leaf c)→b<h.next→v=.own b 0 l.length 1 cap→h.get b=some (.cells (l.flatMap strA) true)→∃b t',idxAddrSV 1 v i=some (.ptr b i)∧cfB (h.get b) i=some (vS x::t')∧niceT h (some (.ptr b i))=true:=by
  rintro b cap hlf b2 rfl g;refine⟨b,t.flatMap strA,gQ hl,?_,bt b2 g (by rw[xH hlf];rfl)⟩
  rw[g];simp only[cfB,hle,cond_true];rw[hdr]
 rcases r with⟨p1,p2,⟨z0,_⟩|⟨b,b1,b2,b3,b4,b5⟩⟩|⟨p1,p2,b,b1,b2,b4,b5⟩
 ·omega
 ·exact key b none p1 b2 b4 b5
 ·exact key b _ p1 b2 b4 b5
structure WM (suc:ByteArray→List ByteArray) (k:ByteArray→Bool) (x:ByteArray) (out:List ByteArray) (i:Nat):Prop where
 nd:out.Nodup
 ok:∀z∈out,k z=true
 here:x∈out
 done:∀z∈out.take i,∀y∈suc z,y∈out
 fr:∀z∈out,z=x∨Rch suc x z
theorem WM.next{suc:ByteArray→List ByteArray}{k:ByteArray→Bool}{x z:ByteArray}{out r:List ByteArray}{i:Nat}(w:WM suc k x out i)(hd:out.drop i=z::r)(hk:∀y∈suc z,k y=true):WM suc k x (addAll out (suc z)) (i+1):=by
 have hl:=aL hd;have hz:z∈out:=A4 (by rw[hd];exact il)
 obtain⟨D,hD⟩:=eM (suc z) out;have ht:(addAll out (suc z)).take (i+1)=out.take i++[z]:=by
  rw[hD,List.take_append_of_le_length om,List.take_add,hd];rfl
 refine⟨cj w.nd,fun y hy=>?_,bM.2 (.inl w.here),fun a ha y hy=>?_,fun y hy=>?_⟩
 ·rcases bM.1 hy with h|h
  ·exact w.ok y h
  ·exact hk y h
 ·exact U79
 ·rcases bM.1 hy with h|h
  ·exact w.fr y h
  ·rcases w.fr z hz with rfl|h1
   ·exact .inr (.one h)
   ·exact .inr (.step h1 h)
theorem WM.end{suc:ByteArray→List ByteArray}{k:ByteArray→Bool}{x:ByteArray}{out:List ByteArray}{i:Nat}(w:WM suc k x out i)(hi:out.length≤i)(z:ByteArray):z∈out↔z=x∨Rch suc x z:=by
 have ht:out.take i=out:=List.take_of_length_le hi;refine⟨w.fr z,fun h=>?_⟩;rcases h with rfl|h
 ·exact w.here
 ·induction h with
  |one h=>exact w.done _ (by rw[ht];exact w.here) _ h
  |step _ h ih=>exact w.done _ (by rw[ht];exact ih) _ h
theorem WM.len{suc:ByteArray→List ByteArray}{m:Md}{x:ByteArray}{out:List ByteArray}{i:Nat}(w:WM suc (kn m) x out i):out.length≤m.ds.l.length:=U11
theorem Kz{m:Md}{z:ByteArray}(h:kn m z=true):∃d,fndD z m.ds.l=some d:=by
 rw[kn] at h;exact Option.isSome_iff_exists.1 h
theorem Fe{m:Md}{z:ByteArray}{d:Df}(h:fndD z m.ds.l=some d):sucM m z=(freeS d.b).filter fun x=>kn m x&& !memS x d.ps.l:=by
 rw[sucM,h];show(freeS d.b).filter (fun x=> !(memS x d.ps.l||(fndD x m.ds.l).isNone))=_;refine List.filter_congr fun x _=>?_
 rw[kn];cases memS x d.ps.l<;>cases fndD x m.ds.l<;>rfl
theorem sc{m:Md}(hm:MdT m){x:ByteArray}{B lo:Nat}(hB:B<lo):∀(n i:Nat) (s:St) (out:List ByteArray) (v:AV),m.ds.l.length+1≤i+n→i≤out.length→WM (sucM m) (kn m) x out i→RowX s.h lo out.length 1 v (out.flatMap strA)→lo≤s.h.next→s.h.get B=some (.cells m.cells true)→NoTag s.h→s.eval (.t 2)=some (.ptr B 0)→s.eval (.t 5)=some v→s.eval (.t 6)=some (vI (i:Nat))→s.defers=[]→
  Run E1 uh s fun e s'=>e=.exit 0∧s'.defers=[]∧∃out v',WM (sucM m) (kn m) x out out.length∧s'.eval (.t 5)=some v'∧RowX s'.h lo out.length 1 v' (out.flatMap strA)
 |0,i,s,out,v,hn,hi,hw,_,_,_,_,_,_,_,_=>by
  have:=hw.len;omega
 |n+1,i,s,out,v,hn,hi,hw,hr,l1,gB,nt,h2,h5,h6,hf=>by
  have hol:=hw.len;have hmn:=hm.n;have hlen:=hr.len;apply aC (rfl:uh=.loop qB);cases hd:out.drop i with
  |nil=>
   have hl:=aK hd hi;subst hl;simp-implicitDefEqProofs only[qB,V,↓reduceIte,rA,h5,h6,hf,hlen,ba];exact⟨out,v,hw,rfl,hr⟩
  |cons z r=>
   have hl:=aL hd;have hlt:=bY hl;have w1:IntKind.i64.wrap ((i:Int)+1)=((i+1:Nat):Int):=aE (n:=i+1) om;have hzm:z∈out:=A4 (by rw[hd];exact il)
   obtain⟨d,hzd⟩:=Kz (hw.ok z hzm);obtain⟨hdm,_⟩:=ee hzd;obtain⟨b1,b2⟩:=hm.b d hdm;have hse:=Fe hzd;have hfl:=iP d.b;have hc32:∀h,RunCall E1 (.f 32) [.agg d.b.cells] h (nmV (freeS d.b)) h:=re d.b om;simp-implicitDefEqProofs only[qB,V,↓reduceIte,rA,h5,h6,hlen,hlt];refine uk (B:=B) (lo:=lo) (out:=out) (v:=v) om hzd hd ?_ ?_ ?_ ?_ ?_ ?_ ?_ ?_
   ·exact U34
   ·simp-implicitDefEqProofs only[V];exact gB
   ·exact U76
   ·simp-implicitDefEqProofs only[V];exact yI hr hd
   ·exact U52
   ·exact U35
   ·exact U69
   intro s1 k1 t7 t8 eh d1;simp-implicitDefEqProofs only[V] at eh d1 t7;have u2:s1.eval (.t 2)=some (.ptr B 0):=by rw[k1 2 de];simp-implicitDefEqProofs only[V,↓reduceIte,rA,h2]
   have u5:s1.eval (.t 5)=some v:=by rw[k1 5 de];simp-implicitDefEqProofs only[V,↓reduceIte,rA,h5]
   have u6:s1.eval (.t 6)=some (vI (i:Nat)):=by rw[k1 6 de];simp-implicitDefEqProofs only[V,↓reduceIte,rA,h6]
   have n1:s1.h.next=s.h.next+1:=by rw[eh];rfl
   have o1:∀y,y<s.h.next→s1.h.get y=s.h.get y:=fun y hy=>by rw[eh,aP om,aB hy]
   have g1:s1.h.get s.h.next=some (.cells d.cells true):=by rw[eh];exact bL
   have nt1:NoTag s1.h:=by rw[eh];exact fF nt.alloc
   have d1:s1.defers=[]:=by rw[d1,hf]
   simp-implicitDefEqProofs only[V,↓reduceIte,t7,g1,aG hc32];refine(jI (o:=i) (m:=m) (d:=d) om om (N:=⟨freeS d.b,nilK,none⟩) (by show(freeS d.b).length<_;omega) (B:=B) (C:=s.h.next) (lo:=lo) hB (freeS d.b) 0 _ out v rfl (ir _) om ?_ ?_ ?_ ?_ ?_ ?_ ?_ ?_ ?_ ?_ ?_ ?_ ?_ ?_).mono ?_
   all_goals try simp-implicitDefEqProofs only[V,↓reduceIte,rA,u2,u5,u6,t7,d1]
   ·exact hr.to om fun y _ y2=>o1 y y2
   ·omega
   ·omega
   ·exact fun q=>by have:=(hr.ids _ q).2.1;omega
   ·rw[o1 B om,gB]
   ·exact g1
   ·exact nt1
   ·rfl
   ·rfl
   rintro e s2 ⟨rfl,d2,n2,o2,t2,k2,k6,v',t5,r2⟩
   try simp-implicitDefEqProofs only[V,↓reduceIte,rA,rB,rC,reduceCtorEq,rD,rE,rF] at o2 k2 k6
   simp-implicitDefEqProofs only[V,↓reduceIte,WF,k6,w1];rw[←hse] at r2;have hw':=hw.next hd fun y hy=>oc hy;have hl':i+1≤(addAll out (sucM m z)).length:=by
    obtain⟨D,hD⟩:=eM (sucM m z) out;rw[hD,io];omega
   refine sc hm hB n (i+1) _ (addAll out (sucM m z)) v' om hl' hw' ?_ ?_ ?_ ?_ ?_ ?_ ?_ ?_
   all_goals try simp-implicitDefEqProofs only[V,↓reduceIte,rA,k2,t5,d2]
   ·exact r2
   ·omega
   ·rw[o2 B hB,o1 B om,gB]
   ·exact t2
theorem tv{m:Md}(hm:MdT m){x:ByteArray}(hx:kn m x=true):∃out nl cap,out.length≤m.ds.l.length∧(∀z,z∈out↔z=x∨Rch (sucM m) x z)∧∀h,RunCall E1 (.f 12) [.agg m.cells,vS x] h (Vl.A strA ⟨out,nl,cap⟩) h:=by
 have hmn:=hm.n;obtain⟨v,h',hP,hrun⟩:=dT (g:=12) (l:=[.agg m.cells,vS x]) (h:=.empty) (fun v h'=>∃out,WM (sucM m) (kn m) x out out.length∧RowX h' 1 out.length 1 v (out.flatMap strA)) Nf fun s hs hh hd hrd=>by
  refine ag _ _ _ ?_
  have h0:=hs 0 _ rfl;have h1:=hs 1 _ rfl;simp-implicitDefEqProofs only[Dm,f12,V,↓reduceIte,rA,WF,h0,h1,hh];refine(sc hm (B:=0) (lo:=1) de (m.ds.l.length+1) 0 _ [x] (.own 1 0 1 1 (some 1)) om (ir _) ⟨by simp,fun z hz=>by rw[ig.1 hz];exact hx,ig.2 rfl,fun z hz=>by simp at hz,fun z hz=>.inl (ig.1 hz)⟩ ?_ ?_ ?_ ?_ ?_ ?_ ?_ ?_).mono ?_
  all_goals try simp-implicitDefEqProofs only[V,↓reduceIte,rA,rB,reduceCtorEq,hd]
  ·exact RowX.made (fun c hc=>by rw[ig.1 hc];exact Leaf.val _) rfl (i7 _) (Nat.lt_succ_self _) (by rw[AH.get_alloc];rfl)
  ·decide
  ·exact NoTag.empty.alloc.alloc
  ·rfl
  rintro e s1 ⟨rfl,d1,out,v',w1,t5,r1⟩;simp-implicitDefEqProofs only[V,↓reduceIte,reduceCtorEq,WF,t5,d1];exact⟨_,rfl,out,w1,r1⟩
 obtain⟨out,w1,r1⟩:=hP;obtain⟨hz,f1,f2,f3,f4⟩:=bN r1;obtain⟨nl,cap,e⟩:=d9 r1;refine⟨out,nl,cap,w1.len,w1.end (i7 _),fun h=>?_⟩;rw[e,←f1] at f4;refine hrun.mono fun n p=>?_
 have hl:∀v∈[AV.agg m.cells,vS x],Tree v:=dm (Tree.md m) (Tree.val _);have hz:=az (h:=h) hl;simp only[aZ,cD,bI (g:=12) kr,hz,bb hl,bX (g:=12) kr,p,f4];cases isFlat (Vl.A strA ⟨out,nl,cap⟩)<;>rfl
theorem yB{m:Md}{x y:ByteArray}(h:y∈sucC m x):y∈sucM m x:=by
 rw[sucC] at h;rw[sucM];cases q:fndD x m.ds.l with
 |none=>rw[q] at h;cases h
 |some d=>
  rw[q] at h;have h:y∈(calD d).filter (kn m):=h;obtain⟨h1,h2⟩:=jy.1 h;obtain⟨h3,h4⟩:=jy.1 h1;show y∈mentD m d;refine jy.2 ⟨iL.2 ?_,?_⟩
  ·rw[nmC,nmE,A1] at h3;obtain⟨e,he,rfl⟩:=h3;exact A1.2 ⟨e,(jy.1 he).1,rfl⟩
  ·rw[kn] at h2;simp only[Au] at h4;cases q:fndD y m.ds.l with
   |none=>rw[q] at h2;cases h2
   |some d=>rw[h4];rfl
theorem Kf{m:Md}{x y:ByteArray}(h:Rch (sucC m) x y):Rch (sucM m) x y:=by
 induction h with
 |one h=>exact .one (yB h)
 |step _ h ih=>exact .step ih (yB h)
theorem Hr{m:Md}{x a b:ByteArray}(ha:eqv m x a)(hb:eqv m x b):b=a∨Rch (sucM m) a b:=by
 rcases(ha.symm.trans hb) with h|h
 ·exact .inl h
 ·exact .inr (Kf (dy.1 h).1)
def IsG(m:Md)(g:List ByteArray):Prop:=∃d∈m.ds.l,g=G m d
theorem IsG.rch{m:Md}{g:List ByteArray}(h:IsG m g){a b:ByteArray}(ha:a∈g)(hb:b∈g):b=a∨Rch (sucM m) a b:=by
 obtain⟨d,_,rfl⟩:=h;exact Hr (eD.1 ha).2 (eD.1 hb).2
theorem lQ{m:Md}{a b c:List ByteArray}(hb:IsG m b)(h:rchB m a b=true)(k:rchB m b c=true):rchB m a c=true:=by
 obtain⟨s,hs,t,ht,h⟩:=cT.1 h;obtain⟨u,hu,v,hv,k⟩:=cT.1 k;refine cT.2 ⟨s,hs,v,hv,?_⟩;rcases hb.rch ht hu with rfl|q
 ·exact h.trans k
 ·exact(h.trans q).trans k
theorem Eo{m:Md}{a b c:List ByteArray}(ha:IsG m a)(hb:IsG m b)(hc:IsG m c)(h:Wt m a b=true)(k:Wt m b c=true):Wt m a c=true:=by
 rw[Wt,i9,Au] at h k⊢
 refine⟨lQ hb h.1 k.1,?_⟩;cases q:rchB m c a with
 |false=>rfl
 |true=>
  have:=lQ hc k.1 q;rw[this] at h;exact absurd h.2 (by simp)
theorem vt{m:Md}:∀l:List (List ByteArray),l≠ []→(∀g∈l,IsG m g)→∃g∈l,∀x∈l,Wt m g x=false
 | [],h,_=>absurd rfl h
 | [a],_,_=>⟨a,ig.2 rfl,fun x hx=>by rw[ig.1 hx];exact qO⟩
 |a::b::r,_,hg=>by
  obtain⟨g,h1,h2⟩:=vt (b::r) (by simp) fun x hx=>hg x (j0 _ hx)
  cases q:Wt m g a with
  |false=>exact⟨g,j0 _ h1,fun x hx=>by
    rcases i8.1 hx with rfl|hx
    ·exact q
    ·exact h2 x hx⟩
  |true=>exact⟨a,il,fun x hx=>by
    rcases i8.1 hx with rfl|hx
    ·exact qO
    ·cases p:Wt m a x with
     |false=>rfl
     |true=>
      have:=Eo (hg g (j0 _ h1)) (hg a il) (hg x (j0 _ hx)) q p;rw[h2 x hx] at this;cases this⟩
theorem vZ{m:Md}{gs:List (List ByteArray)}:∀{l:List (List ByteArray)} {i j:Nat} {g:List ByteArray},gs.drop i=l→pickG m gs i l=some (j,g)→gs.any (Wt m g)=false∧∃t,gs.drop j=g::t
 | [],i,j,g,_,h=>by simp[pickG] at h
 |x::l,i,j,g,hd,h=>by
  rw[pickG,tF hd gs 0 rfl] at h;cases q:gs.any (Wt m x) with
  |true=>
   rw[q] at h;exact vZ (aH hd) h
  |false=>
   rw[q] at h;simp only[cond_false,sI,pI] at h;obtain⟨rfl,rfl⟩:=h;exact⟨q,l,hd⟩
theorem qs{m:Md}{gs:List (List ByteArray)}:∀{l:List (List ByteArray)} {i:Nat},gs.drop i=l→pickG m gs i l=none→∀g∈l,gs.any (Wt m g)=true
 | [],i,_,h,g,hg=>by cases hg
 |x::l,i,hd,h,g,hg=>by
  rw[pickG,tF hd gs 0 rfl] at h;cases q:gs.any (Wt m x) with
  |true=>
   rw[q] at h;rcases i8.1 hg with rfl|hg
   ·exact q
   ·exact qs (aH hd) h g hg
  |false=>
   rw[q] at h;cases h
theorem mW{α:Type}:∀{l:List α} {i:Nat} {g:α} {t:List α},l.drop i=g::t→(g::l.eraseIdx i).Perm l∧(l.eraseIdx i).length+1=l.length
 | [],i,g,t,h=>by simp at h
 |x::l,0,g,t,h=>by
  rw[jj] at h;cases h;exact⟨.refl _,rfl⟩
 |x::l,i+1,g,t,h=>by
  rw[A6] at h;obtain⟨h1,h2⟩:=mW h;rw[List.eraseIdx_cons_succ,im,im];exact⟨(List.Perm.swap x g _).trans (h1.cons x),om⟩
def Ordd(m:Md)(out gs:List (List ByteArray)):Prop:=∀p g t,out=p++g::t→∀x∈t++gs,Wt m g x=false
theorem vV{m:Md}:∀(n:Nat) (gs out:List (List ByteArray)),gs.length=n→(∀g∈gs,IsG m g)→Ordd m out gs→(runG m n gs out).Perm (out++gs)∧Ordd m (runG m n gs out) []
 |0,gs,out,hl,_,ho=>by
  have:=List.eq_nil_of_length_eq_zero hl;subst this;exact⟨by rw[j6];exact .refl _,ho⟩
 |n+1,gs,out,hl,hg,ho=>by
  rw[runG];cases q:pickG m gs 0 gs with
  |none=>
   obtain⟨g,h1,h2⟩:=vt gs (by intro e;rw[e] at hl;cases hl) hg
   have:=qs (i:=0) jj q g h1;obtain⟨x,hx,k⟩:=List.any_eq_true.1 this;rw[h2 x hx] at k;cases k
  |some y=>
   obtain⟨i,g⟩:=y;obtain⟨h1,t,h2⟩:=vZ (i:=0) jj q;obtain⟨e1,e2⟩:=mW h2;have hsub:∀x∈gs.eraseIdx i,x∈gs:=fun x hx=>List.mem_of_mem_eraseIdx hx;have hgm:g∈gs:=A4 (by rw[h2];exact il)
   have hw:∀x∈gs,Wt m g x=false:=fun x hx=>by
    have:=List.any_eq_false.1 h1 x hx
    simpa using this
   obtain⟨r1,r2⟩:=vV n (gs.eraseIdx i) (out++[g]) om (fun x hx=>hg x (hsub x hx)) fun p a u hpu x hx=>by
    rcases List.eq_nil_or_concat u with hu|⟨u',b,hu⟩
    ·subst hu;obtain⟨rfl,e⟩:=List.append_inj' hpu rfl;cases e;exact hw x (hsub x (by simpa using hx))
    ·rw[List.concat_eq_append] at hu;subst hu;rw[←List.cons_append,←jh] at hpu;obtain⟨e,e'⟩:=List.append_inj' hpu rfl;cases e';refine ho p a u' e x ?_
     simp only[jc,ig] at hx⊢
     rcases hx with(hx|rfl)|hx
     ·exact .inl hx
     ·exact .inr hgm
     ·exact .inr (hsub x hx)
   refine⟨r1.trans ?_,r2⟩;rw[jh];exact List.Perm.append_left out e1
structure OrdT (m:Md) (gs:List (List ByteArray)):Prop where
 nd:gs.flatten.Nodup
 len:gs.flatten.length=m.ds.l.length
 kn:∀z∈gs.flatten,kn m z=true
 all:∀d∈m.ds.l,d.nm∈gs.flatten
 ord:∀p g t,gs=p++g::t→∀a∈g,∀z,Rch (sucM m) a z→z∈p.flatten++g∨Rch (sucM m) z a
theorem y6{m:Md}{z:ByteArray}(h:z∈nmM m):kn m z=true:=by
 obtain⟨d,hd,rfl⟩:=A1.1 h;exact vm hd
theorem fY{m:Md}{x:ByteArray}:∀{l:List Df},(l.map Df.nm).Nodup→(grpD m x l).Nodup
 | [],_=>List.nodup_nil
 |d::r,h=>by
  rw[List.map_cons,Ax] at h;rw[grpD];cases inG m x d with
  |false=>exact fY h.2
  |true=>
   refine Ax.2 ⟨fun k=>?_,fY h.2⟩;obtain⟨e,h1,h2,_⟩:=gO.1 k;exact h.1 (A1.2 ⟨e,h1,h2⟩)
theorem xO{m:Md}{x:ByteArray}(hn:(nmM m).Nodup):(grp m x).Nodup:=fY hn
theorem zH{m:Md}(hn:(nmM m).Nodup):OrdT m (grps m):=by
 have h0:opn m 0 m.ds.l=(m.ds.l.filter (isF m)).map (G m):=yY hn m.ds.l [] rfl;have hg:∀g∈opn m 0 m.ds.l,IsG m g:=fun g h=>by
  rw[h0] at h;obtain⟨d,hd,rfl⟩:=A1.1 h;exact⟨d,(jy.1 hd).1,rfl⟩
 obtain⟨hp,ho⟩:=vV (opn m 0 m.ds.l).length (opn m 0 m.ds.l) [] rfl hg fun p g t e=>by simp at e
 have hp:(grps m).Perm (opn m 0 m.ds.l):=hp;have ho:Ordd m (grps m) []:=ho;have hG:∀g∈grps m,IsG m g:=fun g h=>hg g (hp.mem_iff.1 h);have nm_of:∀z∈(grps m).flatten,z∈nmM m:=fun z hz=>by
  obtain⟨g,h1,h2⟩:=Ca.1 hz;obtain⟨d,_,rfl⟩:=hG g h1;exact(eD.1 h2).1
 have all:∀d∈m.ds.l,∃g∈grps m,d.nm∈g:=fun d hd=>by
  obtain⟨e,h1,h2,h3,_⟩:=Lg hd;refine⟨G m e,hp.mem_iff.2 ?_,?_⟩
  ·rw[h0];exact A1.2 ⟨e,jy.2 ⟨h1,h2⟩,rfl⟩
  ·rw[h3];exact Oc hd
 have all':∀d∈m.ds.l,d.nm∈(grps m).flatten:=fun d hd=>by
  obtain⟨g,h1,h2⟩:=all d hd;exact Ca.2 ⟨g,h1,h2⟩
 have hdn:m.ds.l.Nodup:=Bv.of_map Df.nm (fun a b h e=>h (congrArg Df.nm e)) hn;have nd0:(opn m 0 m.ds.l).flatten.Nodup:=by
  rw[List.Nodup,List.pairwise_flatten];refine⟨fun g h=>?_,?_⟩
  ·obtain⟨d,_,rfl⟩:=hg g h;exact xO hn
  ·rw[h0,List.pairwise_map];refine Bv.imp_of_mem (fun{a b} ha hb hab x hx y hy e=>?_) (Bv.filter (isF m) hdn);subst e;obtain⟨a1,a2⟩:=jy.1 ha;obtain⟨b1,b2⟩:=jy.1 hb;exact hab (Hc hn a1 b1 a2 b2 (vp ((eD.1 hx).2.trans (eD.1 hy).2.symm)))
 have nd:(grps m).flatten.Nodup:=(hp.flatten.nodup_iff).2 nd0;have hlen:(grps m).flatten.length=(nmM m).length:=Nat.le_antisymm (bD nd nm_of) (bD hn fun z hz=>by
  obtain⟨d,hd,rfl⟩:=A1.1 hz;exact all' d hd)
 refine⟨nd,by rw[hlen,nmM,List.length_map],fun z hz=>y6 (nm_of z hz),all',fun p g t hs a ha z hz=>?_⟩
 obtain⟨d,hd,rfl⟩:=A1.1 (fX (kW hz));obtain⟨x,hx,hzx⟩:=all d hd;have hgm:g∈grps m:=by rw[hs];exact Ae _ il
 rw[hs,jc] at hx;rcases hx with hx|hx
 ·exact .inl (List.mem_append_left _ (Ca.2 ⟨x,hx,hzx⟩))
 ·rcases i8.1 hx with rfl|hx
  ·exact .inl (Ae _ hzx)
  ·right;have hxm:x∈grps m:=by rw[hs];exact Ae _ (j0 _ hx)
   have hw:=ho p g t hs x (by rw[j6];exact hx)
   have h1:rchB m g x=true:=cT.2 ⟨a,ha,_,hzx,hz⟩;rw[Wt,h1,A7,Bool.not_eq_false'] at hw;obtain⟨s,hs',b,hb,hr⟩:=cT.1 hw;have k1:Rch (sucM m) d.nm b:=by
    rcases(hG x hxm).rch hzx hs' with e|q
    ·rw[←e];exact hr
    ·exact q.trans hr
   rcases(hG g hgm).rch hb ha with e|q
   ·rw[e];exact k1
   ·exact k1.trans q
def skipAt(g:Nat)(b:Bool):Nat→List DOp→Bool
 |_,[]=>true
 |n,d::r=>(match d.o.guard with
  |some (i,c)=>Nat.beq i g&&(c==b)
  |none=>false)&&(guardIn d.reads d.o.guard&&(d.free.all (fun i=>Nat.blt i n)&&((match d.o.dst with
  |some j=> !Nat.beq j g
  |none=>true)&&skipAt g b (n+1) r)))
def noDst(j:Nat)(d:DOp):Bool:=match d.o.dst with
 |some i=> !Nat.beq i j
 |none=>true
theorem lG{E:Env}{K:St→Prop}{g:Nat}{b:Bool}:∀(ops:List DOp) (done:List DRec) (s:St),skipAt g b done.length ops=true→s.eval (.t g)=some (vB (!b))→
  (∀s',s'.h=s.h→s'.defers=s.defers→(∀j,ops.all (noDst j)=true→s'.eval (.t j)=s.eval (.t j))→(∀d∈ops,∀j,d.o.dst=some j→s'.eval (.t j)=some undefA)→K s')→DrawTo E ops done s K
 | [],done,s,_,_,k=>bO (k s rfl rfl (fun _ _=>rfl) (fun d hd=>by cases hd))
 |⟨⟨dst,gd,op⟩,rd,fr⟩::r,done,s,h,hv,k=>by
  rw[skipAt] at h;simp only[i9] at h;obtain⟨h1,h2,h3,h4,h5⟩:=h;have hgd:gd=some (g,b):=by
   cases gd with
   |none=>cases h1
   |some ic=>
    obtain⟨i,c⟩:=ic;simp only[i9,beq_iff_eq] at h1;rw[ij h1.1,h1.2]
  subst hgd;have hw:wantedA s (some (g,b))=some false:=by
   rw[dH hv];cases b<;>rfl
  have hf:∀i∈fr,i<done.length:=fun i hi=>Nat.blt_eq.mp (iy.1 h3 i hi);have hput:∀j,(s.put dst undefA).eval (.t j)=if dst=some j then some undefA else s.eval (.t j):=fun j=>by
   cases dst with
   |none=>rfl
   |some i=>
    show(s.set i undefA).eval (.t j)=_;rw[St.eval_set]
    by_cases e:j=i
    ·subst e;rw[if_pos rfl,if_pos rfl]
    ·rw[if_neg e,if_neg (fun q=>e (by injection q with q;exact q.symm))]
  have hg':(s.put dst undefA).eval (.t g)=some (vB (!b)):=by
   rw[hput,if_neg,hv];intro q;subst q;simp only[Nat.beq_refl,Be] at h4;cases h4
  refine dh h2 hw hf (lG r _ _ (by rw[io];exact h5) hg' fun s' e1 e2 e3 e4=>?_)
  have hh:(s.put dst undefA).h=s.h∧(s.put dst undefA).defers=s.defers:=by cases dst<;>exact⟨rfl,rfl⟩
  refine k s' (e1.trans hh.1) (e2.trans hh.2) (fun j hj=>?_) (fun d hd j hj=>?_)
  ·rw[j4,i9] at hj;rw[e3 j hj.2,hput,if_neg];intro q;have:=hj.1;rw[noDst,q] at this;simp at this
  ·rcases i8.1 hd with rfl|hd
   ·by_cases q:r.all (noDst j)=true
    ·rw[e3 j q,hput,if_pos hj]
    ·rw[iy] at q;simp only[Classical.not_forall] at q;obtain⟨d,hd,q⟩:=q;refine e4 d hd j ?_
     cases hdd:d.o.dst with
     |none=>rw[noDst,hdd] at q;exact absurd rfl q
     |some i=>
      rw[noDst,hdd] at q;simp only[Au,Bool.not_eq_false] at q;rw[ij q]
   ·exact e4 d hd j hj
theorem uu{h:AH}{lo:Nat}{v:AV}{l:List ByteArray}(r:RowX h lo l.length 1 v (l.flatMap strA))(hN:l.length<2^61):RunCall E1 (.f 14) [v] h (vB (disS l)) h:=by
 obtain⟨h1,f1,f2,f3,f4⟩:=bN r;obtain⟨nl,cap,e⟩:=d9 r;rw[e] at f4;exact dE (xs:=[]) (ys:=[]) kr (fun v hv=>by cases hv) (fun v hv=>by cases hv) Vl.leaf.tree f1 f4 rfl fun h=>mY ⟨l,nl,cap⟩ hN h
def MenK(m:Md)(x:ByteArray)(L:Vl ByteArray):Prop:=L.l.length≤m.ds.l.length∧(∀z,z∈L.l↔z=x∨Rch (sucM m) x z)∧∀h,RunCall E1 (.f 12) [.agg m.cells,vS x] h (L.A strA) h
theorem vf{m:Md}(hm:MdT m){x:ByteArray}(hx:kn m x=true):∃L,MenK m x L:=by
 obtain⟨out,nl,cap,h1,h2,h3⟩:=tv hm hx;exact⟨⟨out,nl,cap⟩,h1,h2,h3⟩
theorem xV{s:St}{m:Md}{gs t:List (List ByteArray)}{g u:List ByteArray}{a:ByteArray}{i k:Nat}{L:Vl ByteArray}(hL:MenK m a L)(hd:gs.drop i=g::t)(hk:g.drop k=a::u)(l0:0<s.h.next)(g0:s.h.get 0=some (.cells m.cells true))(h1:s.eval (.t 1)=some (.ptr 0 0))(h3:s.eval (.t 3)=some (gsV gs))(h5:s.eval (.t 5)=some (vI (i:Nat)))(h6:s.eval (.t 6)=some (vI (k:Nat))):
  Run E1 Iu s fun e s'=>e=.normal∧s'.h=s.h∧s'.defers=s.defers∧s'.eval (.t 7)=some (L.A strA)∧∀j,j<7→s'.eval (.t j)=s.eval (.t j):=by
 have n0:∀o,niceT s.h (some (.ptr 0 o))=true:=fun o=>bt l0 g0 (by rw[m.ids0];rfl)
 have nm:ids (.agg m.cells)=[]:=by show idsL m.cells=[];exact m.ids0
 have ng:=zG gs;have nv:ids (nmV g)=[]:=Vl.ids;have vi:∀v,ids (AV.val v)=[]:=fun _=>rfl;have hka:idxAddrSV 1 (nmV g) k=some (.iptr (strA a++u.flatMap strA)):=Vl.at (v:=⟨g,nilK,none⟩) aI hk;refine eP (ops:=Ce) rfl ?_
 simp-implicitDefEqProofs only[Ce,wpDr,bZ,j4,j5,V,↓reduceIte,rA,h1,h3,h5,h6,n0,g0,rW hd,hka,bS,aM nm,ak nm,aM ng,aM nv,aM (vi _),ak (vi _),an,ip];refine⟨_,hL.2.2,?_⟩;simp-implicitDefEqProofs only[V,aM Vl.ids];intro j hj
 repeat rw[if_neg om]
def gh:List DOp:=(dt.take 23).drop 8
theorem xU{s:St}{m:Md}{gs t:List (List ByteArray)}{g u r:List ByteArray}{a z:ByteArray}{i k j:Nat}{L M:Vl ByteArray}{acc:List ByteArray}{v:AV}(hM:MenK m z M)(hMl:M.l.length<2^61)(hd:gs.drop i=g::t)(hk:g.drop k=a::u)(hj:L.l.drop j=z::r)(l0:1≤s.h.next)(g0:s.h.get 0=some (.cells m.cells true))(nt:NoTag s.h)(hr:RowX s.h 1 acc.length 1 v (acc.flatMap strA))(hA:acc.length<2^61)(h1:s.eval (.t 1)=some (.ptr 0 0))(h3:s.eval (.t 3)=some (gsV gs))(h4:s.eval (.t 4)=some v)(h5:s.eval (.t 5)=some (vI (i:Nat)))(h6:s.eval (.t 6)=some (vI (k:Nat)))(h7:s.eval (.t 7)=some (L.A strA))(h8:s.eval (.t 8)=some (vI (j:Nat))):
  Run E1 It s fun e s'=>e=.normal∧s'.h.next=s.h.next∧(∀y,s'.h.get y=s.h.get y)∧s'.defers=s.defers∧s'.eval (.t 75)=some (vB (!memS z acc&& !memS a M.l))∧∀j,j<10→s'.eval (.t j)=s.eval (.t j):=by
 have n0:∀(h:AH) o,h.next=s.h.next→(∀y,h.get y=s.h.get y)→niceT h (some (.ptr 0 o))=true:=fun h o e1 e2=>bt om (by rw[e2];exact g0) (by rw[m.ids0];rfl)
 have nm:ids (.agg m.cells)=[]:=by show idsL m.cells=[];exact m.ids0
 have ng:=zG gs;have nv:ids (nmV g)=[]:=Vl.ids;have vi:∀v,ids (AV.val v)=[]:=fun _=>rfl;have nu:∀h,niceT h (some undefA)=true:=fun _=>rfl;have hka:idxAddrSV 1 (nmV g) k=some (.iptr (strA a++u.flatMap strA)):=Vl.at (v:=⟨g,nilK,none⟩) aI hk;have hc13:=cW M a hMl;have q:∀j,j<10→∀n,10≤n→(j=n)=False:=fun j hj n hn=>by simp;omega
 refine bT (ops:=dt) (pre:=dt.take 23) (d:=⟨⟨some 75,none,.pick (.t 59) (.t 74) (.c (vB false))⟩,[59,74],[]⟩) rfl ?_
 refine eC (R:=[0]) (post:=(dt.take 23).drop 5) ((dt.take 23).take 5) [] _ s.h 5 rfl (fun x hx=>by cases hx) (fun r hr=>by rw[ig.1 hr];exact l0) rfl rfl (K1:=fun s0=>s0.eval (.t 52)=some v∧s0.eval (.t 56)=some (vS z)∧s0.defers=s.defers∧∀j,j<10→s0.eval (.t j)=s.eval (.t j)) ?_ ?_
 ·simp-implicitDefEqProofs only[dt,jm,jv,wpDm,footed,onlyT,Be,A5,Av,A2,bZ,j4,j5,V,↓reduceIte,rA,h4,h7,h8,L.at aI hj,bS,aM Vl.ids,aM (vi _),an,hr.nice,ip,ids];refine fun j hj=>?_
  have q:=q j hj;simp-implicitDefEqProofs only[↓reduceIte,q 52 om,q 53 om,q 54 om,q 55 om,q 56 om]
 rintro s0 ⟨t52,t56,d0,k0⟩ eh0 done' hd' hq;show DrawTo E1 (⟨⟨some 57,none,.call 13 [.t 52,.t 56]⟩,[52,56],[]⟩::(dt.take 23).drop 6) done' s0 _;refine ml (lo:=1) (k:=acc.length) (es:=1) (w:=v) (cs:=acc.flatMap strA) (l:=[v,vS z]) (t:=vI (fndI z acc)) ?_ (fun j hj=>?_) ⟨52,by simp,t52⟩ rfl ?_ ?_ rfl rfl (fun h g1 g2=>?_) (fun _ _ _ _ _ _=>rfl) fun rec h' rD r1 r2 n' o'=>?_
 ·rw[eh0];exact hr
 ·simp only[i8,jb,or_false] at hj;rcases hj with rfl|rfl
  ·exact⟨v,t52,.inr rfl⟩
  ·exact⟨vS z,t56,.inl rfl⟩
 ·simp only[evalAll,t52,t56]
 ·rw[eh0];exact nt
 ·rw[eh0] at g1 g2;exact fZ (lo:=1) (hr.toB om g2) hA
 rw[eh0] at n' o' r1 r2;have hq':∀x∈done'++[rec],MildR [0] x:=fun x hx=>by
  rcases jc.1 hx with hx|hx
  ·exact hq x hx
  ·rw[ig.1 hx];intro y hy;rw[ig.1 hy];exact⟨fun h=>by have:=(hr.ids _ (rD 0 h)).1;omega,fun h=>by rw[r1,r2] at h;omega⟩
 have g0':h'.get 0=some (.cells m.cells true):=by rw[o',g0]
 have n0':∀o,niceT h' (some (.ptr 0 o))=true:=fun o=>n0 h' o n' o';have mn:memN [0] 0=true:=rfl;have len6:(done'++[rec]).length=6:=by rw[io,hd'];rfl
 refine eC (R:=[0]) (post:=gh) ((dt.drop 6).take 2) (done'++[rec]) _ h' 8 (by rw[len6];rfl) hq' (fun r hr=>by rw[ig.1 hr];show 0<h'.next;omega) rfl (by rw[len6];rfl) (K1:=fun s1=>s1.eval (.t 59)=some (vB (!memS z acc))∧s1.defers=s.defers∧∀j,j<10→s1.eval (.t j)=s.eval (.t j)) ?_ ?_
 ·simp-implicitDefEqProofs only[dt,jm,jv,A6,jj,wpDm,footed,A5,A2,bZ,j4,j5,V,↓reduceIte,cB,aM (vi _),ip];refine⟨d0,fun j hj=>?_⟩;have q:=q j hj;simp-implicitDefEqProofs only[↓reduceIte,q 57 om,q 58 om,q 59 om,k0 j hj]
 rintro s1 ⟨t59,d1,k1⟩ eh done2 hd2 hq2;have fin:∀s2:St,s2.h=h'→s2.defers=s.defers→(∀j,j<10→s2.eval (.t j)=s.eval (.t j))→s2.eval (.t 59)=some (vB (!memS z acc))→(memS z acc=false→s2.eval (.t 74)=some (vB (!memS a M.l)))→(memS z acc=true→s2.eval (.t 74)=some undefA)→
   AM.wpOps E1 [⟨some 75,none,.pick (.t 59) (.t 74) (.c (vB false))⟩] s2 fun s'=>AM.Ex.normal=.normal∧s'.h.next=s.h.next∧(∀y,s'.h.get y=s.h.get y)∧s'.defers=s.defers∧s'.eval (.t 75)=some (vB (!memS z acc&& !memS a M.l))∧∀j,j<10→s'.eval (.t j)=s.eval (.t j):=fun s2 e1 e2 e3 e4 e5 e6=>by
  cases hz:memS z acc with
  |true=>
   have e6:=e6 hz;rw[hz] at e4;simp-implicitDefEqProofs only[V,↓reduceIte,e4,e6,e1,e2,n',o'];refine⟨fun _=>trivial,fun j hj=>?_⟩;rw[if_neg om];exact e3 j hj
  |false=>
   have e5:=e5 hz;rw[hz] at e4;simp-implicitDefEqProofs only[V,↓reduceIte,e4,e5,e1,e2,n',o'];refine⟨fun _=>trivial,fun j hj=>?_⟩;rw[if_neg om];exact e3 j hj
 rcases Bool.eq_false_or_eq_true (memS z acc) with hz|hz
 ·rw[hz] at t59;refine lG (g:=59) (b:=true) gh _ _ (by rw[hd2];rfl) t59 fun s2 e1 e2 e3 e4=>?_
  refine fin s2 (e1.trans eh) (e2.trans d1) (fun j hj=>?_) (by rw[e3 59 rfl,t59,hz]) (fun h=>by rw[hz] at h;cases h) (fun _=>e4 ⟨⟨some 74,some (59,true),.bin .lss 3 true (.t 73) (.c (vI 0))⟩,[73,59],[]⟩ (by simp[gh,dt]) 74 rfl)
  rw[e3 j (by
   have:j=0∨j=1∨j=2∨j=3∨j=4∨j=5∨j=6∨j=7∨j=8∨j=9:=by omega
   rcases this with rfl|rfl|rfl|rfl|rfl|rfl|rfl|rfl|rfl|rfl<;>rfl),k1 j hj]
 ·rw[hz] at t59;have u1:s1.eval (.t 1)=some (.ptr 0 0):=by rw[k1 1 de,h1]
  have u3:s1.eval (.t 3)=some (gsV gs):=by rw[k1 3 de,h3]
  have u5:s1.eval (.t 5)=some (vI (i:Nat)):=by rw[k1 5 de,h5]
  have u6:s1.eval (.t 6)=some (vI (k:Nat)):=by rw[k1 6 de,h6]
  have u7:s1.eval (.t 7)=some (L.A strA):=by rw[k1 7 de,h7]
  have u8:s1.eval (.t 8)=some (vI (j:Nat)):=by rw[k1 8 de,h8]
  have hvj:idxAddrSV 1 (L.A strA) j=some (.iptr (strA z++r.flatMap strA)):=L.at aI hj;have go:wantedA s1 (some (59,true))=some true:=dH (b:=true) t59;refine eC (R:=[0]) (post:=gh.drop 6) (gh.take 6) done2 _ h' 14 (by rw[hd2];rfl) hq2 (fun r hr=>by rw[ig.1 hr,eh];omega) eh (by rw[hd2];rfl) (K1:=fun s2=>s2.eval (.t 65)=some (M.A strA)∧s2.eval (.t 59)=some (vB true)∧s2.defers=s.defers∧∀j,j<10→s2.eval (.t j)=s.eval (.t j)) ?_ ?_
  ·simp-implicitDefEqProofs only[gh,dt,jm,jv,A6,jj,wpDm,footed,onlyT,mn,Be,A5,Av,A2,iO,nz,j4,j5,V,↓reduceIte,rA,t59,u1,u7,u8,eh,g0',n0',hvj,bS,aM nm,ak nm,aM Vl.ids,aM (vi _),ak (vi _),an,ip,ids];refine⟨_,hM.2.2,?_⟩;simp-implicitDefEqProofs only[V];refine⟨d1,fun j hj=>?_⟩;have q:=q j hj;simp-implicitDefEqProofs only[↓reduceIte,q 60 om,q 61 om,q 62 om,q 63 om,q 64 om,q 65 om,k1 j hj]
  rintro s2 ⟨t65,t59,d2,k2⟩ eh2 done3 hd3 hq3;have u3:s2.eval (.t 3)=some (gsV gs):=by rw[k2 3 de,h3]
  have u5:s2.eval (.t 5)=some (vI (i:Nat)):=by rw[k2 5 de,h5]
  have u6:s2.eval (.t 6)=some (vI (k:Nat)):=by rw[k2 6 de,h6]
  have go:wantedA s2 (some (59,true))=some true:=dH (b:=true) t59;refine eC (R:=[0]) (post:=gh.drop 13) ((gh.drop 6).take 7) done3 _ h' 21 (by rw[hd3];rfl) hq3 (fun r hr=>by rw[ig.1 hr,eh2];omega) eh2 (by rw[hd3];rfl) (K1:=fun s3=>s3.eval (.t 72)=some (vS a)∧s3.eval (.t 65)=some (M.A strA)∧s3.eval (.t 59)=some (vB true)∧s3.defers=s.defers∧∀j,j<10→s3.eval (.t j)=s.eval (.t j)) ?_ ?_
  ·simp-implicitDefEqProofs only[gh,dt,jm,jv,A6,jj,wpDm,footed,onlyT,Be,A5,Av,A2,iO,nz,j4,j5,V,↓reduceIte,rA,t59,t65,u3,u5,u6,eh2,rW hd,hka,bS,aM ng,aM nv,aM (vi _),an,ip,ids];refine⟨d2,fun j hj=>?_⟩;have q:=q j hj;simp-implicitDefEqProofs only[↓reduceIte,q 66 om,q 67 om,q 68 om,q 69 om,q 70 om,q 71 om,q 72 om,k2 j hj]
  rintro s3 ⟨t72,t65,t59,d3,k3⟩ eh3 done4 hd4 hq4;refine eC (R:=[0]) (post:=[]) [⟨⟨some 73,some (59,true),.call 13 [.t 65,.t 72]⟩,[65,72,59],[]⟩,⟨⟨some 74,some (59,true),.bin .lss 3 true (.t 73) (.c (vI 0))⟩,[73,59],[]⟩] done4 _ h' 23 (by rw[hd4];rfl) hq4 (fun r hr=>by rw[ig.1 hr,eh3];omega) eh3 (by rw[hd4];rfl) (K1:=fun s4=>s4.eval (.t 74)=some (vB (!memS a M.l))∧s4.eval (.t 59)=some (vB true)∧s4.defers=s.defers∧∀j,j<10→s4.eval (.t j)=s.eval (.t j)) ?_ ?_
  ·simp-implicitDefEqProofs only[wpDm,footed,onlyT,A5,A2,iO,nz,j4,j5,V,↓reduceIte,rA,t59,t65,t72,aM Vl.ids,ak Vl.ids,aM (vi _),ak (vi _),ip];refine⟨_,hc13,?_⟩;simp-implicitDefEqProofs only[V,↓reduceIte,rA,cB,t59,aM (vi _)];refine⟨d3,fun j hj=>?_⟩;have q:=q j hj;simp-implicitDefEqProofs only[↓reduceIte,q 73 om,q 74 om,k3 j hj]
  rintro s4 ⟨t74,t59,d4,k4⟩ eh4 done5 hd5 hq5;exact bO (fin s4 eh4 d4 k4 (by rw[t59,hz];rfl) (fun _=>t74) (fun h=>by rw[hz] at h;cases h))
structure HO (m:Md) (h:AH) (acc:List ByteArray) (v:AV):Prop where
 n:1≤h.next
 g:h.get 0=some (.cells m.cells true)
 t:NoTag h
 r:RowX h 1 acc.length 1 v (acc.flatMap strA)
theorem HO.to{m:Md}{h h':AH}{acc:List ByteArray}{v:AV}(H:HO m h acc v)(e1:h'.next=h.next)(e2:∀y,h'.get y=h.get y):HO m h' acc v:=
 ⟨by rw[e1];exact H.n,by rw[e2];exact H.g,fun b x t n e=>H.t b x t n (by rw[←e2];exact e),H.r.to om fun y _ _=>e2 y⟩
def MenOk(m:Md)(acc:List ByteArray)(a:ByteArray)(l:List ByteArray):Prop:=∀z∈l,∃M:Vl ByteArray,MenK m z M∧M.l.length<2^61∧(!memS z acc&& !memS a M.l)=false
theorem sP{m:Md}{gs t:List (List ByteArray)}{g u:List ByteArray}{a:ByteArray}{i k:Nat}{L:Vl ByteArray}{acc:List ByteArray}{v:AV}(hLl:L.l.length<2^61)(hA:acc.length<2^61)(hd:gs.drop i=g::t)(hk:g.drop k=a::u):∀(r:List ByteArray) (j:Nat) (s:St),L.l.drop j=r→j≤L.l.length→MenOk m acc a r→HO m s.h acc v→s.eval (.t 1)=some (.ptr 0 0)→s.eval (.t 3)=some (gsV gs)→s.eval (.t 4)=some v→s.eval (.t 5)=some (vI (i:Nat))→s.eval (.t 6)=some (vI (k:Nat))→s.eval (.t 7)=some (L.A strA)→s.eval (.t 8)=some (vI (j:Nat))→s.defers=[]→
  Run E1 wD s fun e s'=>e=.exit 4∧s'.defers=[]∧HO m s'.h acc v∧∀n,n<7→s'.eval (.t n)=s.eval (.t n)
 | [],j,s,hj,hi,hm,H,h1,h3,h4,h5,h6,h7,h8,hf=>by
  have hl:=aK hj hi;subst hl;apply aC (rfl:wD=.loop sT);simp-implicitDefEqProofs only[sT,V,↓reduceIte,rA,h7,h8,hf,ba];refine⟨H,fun n hn=>?_⟩
  repeat rw[if_neg om]
 |z::r,j,s,hj,hi,hm,H,h1,h3,h4,h5,h6,h7,h8,hf=>by
  have hl:=aL hj;have hlt:=bY hl;have w1:IntKind.i64.wrap ((j:Int)+1)=((j+1:Nat):Int):=aE (n:=j+1) om;obtain⟨M,hM,hMl,hb⟩:=hm z il;apply aC (rfl:wD=.loop sT);simp-implicitDefEqProofs only[sT,V,↓reduceIte,rA,h7,h8,hlt];refine(xU (m:=m) (acc:=acc) (v:=v) (L:=L) hM hMl hd hk hj ?_ ?_ ?_ ?_ hA ?_ ?_ ?_ ?_ ?_ ?_ ?_).mono ?_
  all_goals try simp-implicitDefEqProofs only[V,↓reduceIte,rA,h1,h3,h4,h5,h6,h7,h8]
  ·exact H.n
  ·exact H.g
  ·exact H.t
  ·exact H.r
  rintro e s1 ⟨rfl,n1,o1,d1,t75,k1⟩;rw[hb] at t75
  try simp-implicitDefEqProofs only[V,↓reduceIte,rA,rB,rC,reduceCtorEq,rD,rE,rF] at n1 o1 d1
  have H1:HO m s1.h acc v:=H.to n1 o1;have u1:s1.eval (.t 1)=some (.ptr 0 0):=by rw[k1 1 de];simp-implicitDefEqProofs only[↓reduceIte,rA,h1]
  have u3:s1.eval (.t 3)=some (gsV gs):=by rw[k1 3 de];simp-implicitDefEqProofs only[↓reduceIte,rA,h3]
  have u4:s1.eval (.t 4)=some v:=by rw[k1 4 de];simp-implicitDefEqProofs only[↓reduceIte,rA,h4]
  have u5:s1.eval (.t 5)=some (vI (i:Nat)):=by rw[k1 5 de];simp-implicitDefEqProofs only[↓reduceIte,rA,h5]
  have u6:s1.eval (.t 6)=some (vI (k:Nat)):=by rw[k1 6 de];simp-implicitDefEqProofs only[↓reduceIte,rA,h6]
  have u7:s1.eval (.t 7)=some (L.A strA):=by rw[k1 7 de];simp-implicitDefEqProofs only[↓reduceIte,rA,h7]
  have u8:s1.eval (.t 8)=some (vI (j:Nat)):=by rw[k1 8 de];simp-implicitDefEqProofs only[↓reduceIte,rA,h8]
  simp-implicitDefEqProofs only[V,↓reduceIte,t75,u8,w1];refine(sP (m:=m) (v:=v) (acc:=acc) (L:=L) hLl hA hd hk r (j+1) _ (aH hj) om (fun z hz=>hm z (j0 _ hz)) ?_ ?_ ?_ ?_ ?_ ?_ ?_ ?_ ?_).mono ?_
  all_goals try simp-implicitDefEqProofs only[V,↓reduceIte,rA,u1,u3,u4,u5,u6,u7,d1,hf]
  ·exact H1
  rintro e s2 ⟨e1,d2,H2,k2⟩;refine⟨e1,d2,H2,fun n hn=>?_⟩;rw[k2 n hn];have q:∀x,7≤x→(n=x)=False:=fun x hx=>by simp;omega
  simp-implicitDefEqProofs only[↓reduceIte,q 8 om,q 50 om,q 51 om];rw[k1 n om];simp-implicitDefEqProofs only[↓reduceIte,q 46 om,q 47 om,q 48 om,q 49 om]
theorem sO{m:Md}(hm:MdT m){gs t:List (List ByteArray)}{g:List ByteArray}{i:Nat}{acc:List ByteArray}{v:AV}(hA:acc.length<2^61)(hgl:g.length<2^61)(hd:gs.drop i=g::t)(hkn:∀a∈g,kn m a=true)(hok:∀a∈g,∀L:Vl ByteArray,MenK m a L→MenOk m acc a L.l):∀(r:List ByteArray) (k:Nat) (s:St),g.drop k=r→k≤g.length→HO m s.h acc v→s.eval (.t 1)=some (.ptr 0 0)→s.eval (.t 3)=some (gsV gs)→s.eval (.t 4)=some v→s.eval (.t 5)=some (vI (i:Nat))→s.eval (.t 6)=some (vI (k:Nat))→s.defers=[]→
  Run E1 wC s fun e s'=>e=.exit 2∧s'.defers=[]∧HO m s'.h acc v∧∀n,n<6→s'.eval (.t n)=s.eval (.t n)
 | [],k,s,hk,hi,H,h1,h3,h4,h5,h6,hf=>by
  have hl:=aK hk hi;subst hl;have hln:lenV (nmV g)=some (vI (g.length:Nat)):=Vl.len;apply aC (rfl:wC=.loop sS);simp-implicitDefEqProofs only[sS,V,↓reduceIte,rA,h3,h5,h6,hf,rW hd,hln,ba];refine⟨H,fun n hn=>?_⟩
  repeat rw[if_neg om]
 |a::u,k,s,hk,hi,H,h1,h3,h4,h5,h6,hf=>by
  have hl:=aL hk;have hlt:=bY hl;have hln:lenV (nmV g)=some (vI (g.length:Nat)):=Vl.len;have w1:IntKind.i64.wrap ((k:Int)+1)=((k+1:Nat):Int):=aE (n:=k+1) om;have ham:a∈g:=A4 (by rw[hk];exact il)
  obtain⟨L,hL⟩:=vf hm (hkn a ham);have hmn:=hm.n;have hL1:=hL.1;apply aC (rfl:wC=.loop sS);simp-implicitDefEqProofs only[sS,V,↓reduceIte,rA,h3,h5,h6,rW hd,hln,hlt];refine(xV (m:=m) hL hd hk ?_ ?_ ?_ ?_ ?_ ?_).mono ?_
  all_goals try simp-implicitDefEqProofs only[V,↓reduceIte,rA,h1,h3,h5,h6]
  ·exact H.n
  ·exact H.g
  rintro e s1 ⟨rfl,eh,d1,t7,k1⟩
  try simp-implicitDefEqProofs only[V,↓reduceIte,rA,rB,rC,reduceCtorEq,rD,rE,rF] at eh d1
  have H1:HO m s1.h acc v:=by rw[eh];exact H
  have u1:s1.eval (.t 1)=some (.ptr 0 0):=by rw[k1 1 de];simp-implicitDefEqProofs only[↓reduceIte,rA,h1]
  have u3:s1.eval (.t 3)=some (gsV gs):=by rw[k1 3 de];simp-implicitDefEqProofs only[↓reduceIte,rA,h3]
  have u4:s1.eval (.t 4)=some v:=by rw[k1 4 de];simp-implicitDefEqProofs only[↓reduceIte,rA,h4]
  have u5:s1.eval (.t 5)=some (vI (i:Nat)):=by rw[k1 5 de];simp-implicitDefEqProofs only[↓reduceIte,rA,h5]
  have u6:s1.eval (.t 6)=some (vI (k:Nat)):=by rw[k1 6 de];simp-implicitDefEqProofs only[↓reduceIte,rA,h6]
  simp-implicitDefEqProofs only[V];refine(sP (m:=m) (L:=L) (acc:=acc) (v:=v) om hA hd hk L.l 0 _ rfl (ir _) (hok a ham L hL) ?_ ?_ ?_ ?_ ?_ ?_ ?_ ?_ ?_).mono ?_
  all_goals try simp-implicitDefEqProofs only[V,↓reduceIte,rA,u1,u3,u4,u5,u6,t7,d1,hf]
  ·exact H1
  ·rfl
  rintro e s2 ⟨rfl,d2,H2,k2⟩;have v1:s2.eval (.t 1)=some (.ptr 0 0):=by rw[k2 1 de];simp-implicitDefEqProofs only[↓reduceIte,rA,u1]
  have v3:s2.eval (.t 3)=some (gsV gs):=by rw[k2 3 de];simp-implicitDefEqProofs only[↓reduceIte,rA,u3]
  have v4:s2.eval (.t 4)=some v:=by rw[k2 4 de];simp-implicitDefEqProofs only[↓reduceIte,rA,u4]
  have v5:s2.eval (.t 5)=some (vI (i:Nat)):=by rw[k2 5 de];simp-implicitDefEqProofs only[↓reduceIte,rA,u5]
  have v6:s2.eval (.t 6)=some (vI (k:Nat)):=by rw[k2 6 de];simp-implicitDefEqProofs only[↓reduceIte,rA,u6]
  simp-implicitDefEqProofs only[V,↓reduceIte,WF,v6,w1];refine(sO (m:=m) (v:=v) (acc:=acc) hm hA hgl hd hkn hok u (k+1) _ (aH hk) om ?_ ?_ ?_ ?_ ?_ ?_ ?_).mono ?_
  all_goals try simp-implicitDefEqProofs only[V,↓reduceIte,rA,v1,v3,v4,v5,d2]
  ·exact H2
  rintro e s3 ⟨e1,d3,H3,k3⟩;refine⟨e1,d3,H3,fun n hn=>?_⟩;rw[k3 n hn];have q:∀x,6≤x→(n=x)=False:=fun x hx=>by simp;omega
  simp-implicitDefEqProofs only[↓reduceIte,q 6 om,q 35 om,q 36 om];rw[k2 n om];simp-implicitDefEqProofs only[↓reduceIte,q 8 om];rw[k1 n om];simp-implicitDefEqProofs only[↓reduceIte,q 28 om,q 29 om,q 30 om,q 31 om,q 32 om,q 33 om,q 34 om]
theorem Dr(h:AH)(g:List ByteArray):elemsOf h 1 (nmV g)=some (g.flatMap strA,g.length):=by
 cases g with
 |nil=>rfl
 |cons a t=>exact du (by rw[fD,Nat.mul_one])
theorem HO.app{m:Md}{h h':AH}{acc g:List ByteArray}{v v':AV}(H:HO m h acc v)(r:RowX h' 1 (acc.length+g.length) 1 v' (acc.flatMap strA++g.flatMap strA))(n:h.next≤h'.next)(o:∀y,y<h.next→y∉ids v→h'.get y=h.get y)(t:NoTag h→NoTag h'):HO m h' (acc++g) v':=
 ⟨Nat.le_trans H.n n,by rw[o 0 H.n (fun q=>by have:=(H.r.ids 0 q).1;omega)];exact H.g,t H.t,by rw[io,A8];exact r⟩
theorem Ku{m:Md}(hm:MdT m){gs p t:List (List ByteArray)}{g:List ByteArray}(hO:OrdT m gs)(e:gs=p++g::t)(a:ByteArray)(ha:a∈g)(L:Vl ByteArray)(hL:MenK m a L):MenOk m (p.flatten++g) a L.l:=fun z hz=>by
 have hk:∀y∈g,kn m y=true:=fun y hy=>hO.kn y (Ca.2 ⟨g,by rw[e];exact Ae _ il,hy⟩)
 have hzk:kn m z=true:=by
  rcases(hL.2.1 z).1 hz with rfl|h
  ·exact hk z ha
  ·exact kW h
 obtain⟨M,hM⟩:=vf hm hzk;have hmn:=hm.n;have hM1:=hM.1;refine⟨M,hM,om,?_⟩;have key:memS z (p.flatten++g)=true∨memS a M.l=true:=by
  rcases(hL.2.1 z).1 hz with rfl|h
  ·exact .inl (ay.2 (Ae _ ha))
  ·rcases hO.ord p g t e a ha z h with q|q
   ·exact .inl (ay.2 q)
   ·exact .inr (ay.2 ((hM.2.1 a).2 (.inr q)))
 rcases key with q|q
 ·rw[q];rfl
 ·rw[q,Be,Bool.and_false]
theorem sN{m:Md}(hm:MdT m){gs:List (List ByteArray)}(hO:OrdT m gs)(hgs:gs.length<2^60):∀(r p:List (List ByteArray)) (v:AV) (s:St),gs=p++r→HO m s.h p.flatten v→s.eval (.t 1)=some (.ptr 0 0)→s.eval (.t 3)=some (gsV gs)→s.eval (.t 4)=some v→s.eval (.t 5)=some (vI (p.length:Nat))→s.defers=[]→
  Run E1 wB s fun e s'=>e=.exit 0∧s'.defers=[]∧s'.eval (.t 1)=some (.ptr 0 0)∧∃v',HO m s'.h gs.flatten v'∧s'.eval (.t 4)=some v'
 | [],p,v,s,e,H,h1,h3,h4,h5,hf=>by
  rw[j6] at e;subst e;apply aC (rfl:wB=.loop sR);simp-implicitDefEqProofs only[sR,V,↓reduceIte,rA,h1,h3,h4,h5,hf,zF,ba];exact⟨v,H,rfl⟩
 |g::r,p,v,s,e,H,h1,h3,h4,h5,hf=>by
  have hd:gs.drop p.length=g::r:=by rw[e,List.drop_left]
  have hl:=aL hd;have hlt:=bY hl;have w1:IntKind.i64.wrap ((p.length:Int)+1)=((p.length+1:Nat):Int):=aE (n:=p.length+1) om;have hfl:p.flatten.length+g.length≤m.ds.l.length:=by
   rw[←hO.len,e,List.flatten_append,io,List.flatten_cons,io];omega
  have hmn:=hm.n;have hgk:∀a∈g,kn m a=true:=fun y hy=>hO.kn y (Ca.2 ⟨g,by rw[e];exact Ae _ il,hy⟩)
  apply aC (rfl:wB=.loop sR);simp-implicitDefEqProofs only[sR,V,↓reduceIte,rA,h3,h4,h5,zF,hlt,rW hd];refine tD (k:=p.flatten.length) (m:=g.length) (lo:=1) (v:=v) (x:=nmV g) (cs:=p.flatten.flatMap strA) (new:=g.flatMap strA) ?_ ?_ (Dr _ g) ?_ ?_ (aS (bytes:=16) om de) ?_ ?_ ?_
  ·simp-implicitDefEqProofs only[V];exact H.r
  ·simp-implicitDefEqProofs only[V];exact H.n
  ·rw[fD,Nat.mul_one]
  ·intro c hc;obtain⟨b,_,hb⟩:=List.mem_flatMap.1 hc;rw[ig.1 hb];exact Leaf.val _
  ·exact U36
  ·exact U36
  intro v3 h3' r3 m3 o3 t3;simp-implicitDefEqProofs only[V] at m3 o3 t3;have H3:HO m h3' (p.flatten++g) v3:=H.app r3 m3 o3 t3;simp-implicitDefEqProofs only[V,↓reduceIte];refine(sO (m:=m) (v:=v3) (acc:=p.flatten++g) hm (by rw[io];omega) om hd hgk (fun a ha L hL=>Ku hm hO e a ha L hL) g 0 _ rfl (ir _) ?_ ?_ ?_ ?_ ?_ ?_ ?_).mono ?_
  all_goals try simp-implicitDefEqProofs only[V,↓reduceIte,rA,h1,h3,h5,hf]
  ·exact H3
  ·rfl
  rintro x s2 ⟨rfl,d2,H2,k2⟩;have v1:s2.eval (.t 1)=some (.ptr 0 0):=by rw[k2 1 de];simp-implicitDefEqProofs only[↓reduceIte,rA,h1]
  have v3':s2.eval (.t 3)=some (gsV gs):=by rw[k2 3 de];simp-implicitDefEqProofs only[↓reduceIte,rA,h3]
  have v4:s2.eval (.t 4)=some v3:=by rw[k2 4 de];simp-implicitDefEqProofs only[↓reduceIte,rA]
  have v5:s2.eval (.t 5)=some (vI (p.length:Nat)):=by rw[k2 5 de];simp-implicitDefEqProofs only[↓reduceIte,rA,h5]
  simp-implicitDefEqProofs only[V,↓reduceIte,WF,v5,w1];refine(sN (m:=m) hm hO hgs r (p++[g]) v3 _ (by rw[e,jh];rfl) ?_ ?_ ?_ ?_ ?_ ?_).mono ?_
  all_goals try simp-implicitDefEqProofs only[V,↓reduceIte,rA,v1,v3',v4,d2]
  ·rw[List.flatten_append,List.flatten_cons,List.flatten_nil,j6];exact H2
  ·rw[io,C0]
  exact fun x s' h=>h
theorem sM{m:Md}(hm:MdT m){acc:List ByteArray}{v:AV}(hA:acc.length<2^61)(hall:∀d∈m.ds.l,d.nm∈acc):∀(r:List Df) (i:Nat) (s:St),m.ds.l.drop i=r→i≤m.ds.l.length→HO m s.h acc v→s.eval (.t 1)=some (.ptr 0 0)→s.eval (.t 4)=some v→s.eval (.t 9)=some (vI (i:Nat))→s.defers=[]→
  Run E1 wA s fun e s'=>e=.exit 6∧s'.defers=[]
 | [],i,s,hd,hi,H,h1,h4,h9,hf=>by
  have hl:=aK hd hi;subst hl;have g0:=H.g;apply aC (rfl:wA=.loop sQ);simp-implicitDefEqProofs only[sQ,V,↓reduceIte,rA,h1,h9,g0,hf,ba]
 |d::r,i,s,hd,hi,H,h1,h4,h9,hf=>by
  have hl:=aL hd;have hlt:=bY hl;have hmn:=hm.n;have w1:IntKind.i64.wrap ((i:Int)+1)=((i+1:Nat):Int):=aE (n:=i+1) om;have hdm:d∈m.ds.l:=A4 (by rw[hd];exact il)
  have hmem:memS d.nm acc=true:=ay.2 (hall d hdm);have g0:=H.g;have hc:=fZ (b:=d.nm) H.r hA;apply aC (rfl:wA=.loop sQ);simp-implicitDefEqProofs only[sQ,V,↓reduceIte,rA,h1,h4,h9,g0,hlt,m.ds.at Df.len hd];refine aW (by simp-implicitDefEqProofs only[V];exact hc) ?_
  simp-implicitDefEqProofs only[V,↓reduceIte,rA,cB,hmem,h9,w1];refine(sM (v:=v) hm hA hall r (i+1) _ (aH hd) om ?_ ?_ ?_ ?_ ?_).mono ?_
  all_goals try simp-implicitDefEqProofs only[V,↓reduceIte,rA,h1,h4,hf]
  ·exact H
  exact fun x s' h=>h
theorem Rg(hk:KAwk){m:Md}(hw:dsW m.ds.l≤2^23)(hN:m.ds.l.length<2^30)(hL:DifT m→KM m∧KAll m∧OrdT m (grps m)):∃h',Ev fun n=>enterA E1 (exec E1 n) 4 [.agg m.cells] .empty=some (vB true,h'):=by
 obtain⟨b,hb,c5⟩:=uw hw hN;have c6:=tB hk;obtain⟨v,h',rfl,hrun⟩:=dT (g:=4) (l:=[.agg m.cells]) (h:=.empty) (fun v _=>v=vB true) Sh fun s hs hh hd hrd=>by
  refine ag _ _ _ ?_
  have h0:=hs 0 _ rfl;cases b with
  |false=>
   simp-implicitDefEqProofs only[Cg,f4,V,↓reduceIte,rA,reduceCtorEq,h0,hh,hd,aG c5,aG c6];exact⟨_,rfl,rfl⟩
  |true=>
   obtain⟨kM,kA,hO⟩:=hL (hb rfl);have hD:=hb rfl;have hm:=hD.md;have hn:=hD.n;have c7:=pR hm kM kA;have hgsl:(grps m).length≤m.ds.l.length:=by
    have h1:=qb (m:=m) (opn m 0 m.ds.l).length (opn m 0 m.ds.l) [];have h2:=pF (m:=m) m.ds.l 0;rw[List.length_nil] at h1;rw[grps];omega
   have hfl:=hO.len;have dn:decide (((grps m).flatten.length:Int)=((m.ds.l.length:Nat):Int))=true:=decide_eq_true (by rw[hfl])
   have hdis:disS (grps m).flatten=true:=g8.2 hO.nd;simp-implicitDefEqProofs only[Cg,f4,V,↓reduceIte,rA,h0,hh,aG c5,aG c7];refine(sN (m:=m) (gs:=grps m) hm hO om (grps m) [] (.val (.slice none 0 0)) _ rfl ?_ ?_ ?_ ?_ ?_ ?_).mono ?_
   all_goals try simp-implicitDefEqProofs only[V,↓reduceIte,rA,hd]
   ·exact⟨i7 _,by rw[AH.get_alloc];rfl,NoTag.empty.alloc,(RowC.nil (lo:=1)).x⟩
   ·rfl
   rintro e s1 ⟨rfl,d1,t1,v',H1,t4⟩;have g0:=H1.g;have hln:=H1.r.len;have hd14:=uu H1.r om;simp-implicitDefEqProofs only[V,↓reduceIte,rA,WF,t1,t4,g0,hln,dn];refine aW (by simp-implicitDefEqProofs only[V];exact hd14) ?_
   simp-implicitDefEqProofs only[V,↓reduceIte,rA,hdis];refine(sM (v:=v') hm om hO.all m.ds.l 0 _ rfl (ir _) ?_ ?_ ?_ ?_ ?_).mono ?_
   all_goals try simp-implicitDefEqProofs only[V,↓reduceIte,rA,t1,t4,d1]
   ·exact H1
   ·rfl
   rintro e s2 ⟨rfl,d2⟩;simp-implicitDefEqProofs only[V,↓reduceIte,reduceCtorEq,WF,aG c6,d2];exact⟨_,rfl,rfl⟩
 exact⟨h',hrun⟩
end Go.Proofs.YtkmoeaplhnabcaaGreatDoor
