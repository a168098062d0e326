/- VCopy VCopb VFind VSub VSame VFill VVoid VRsame VBase VRcoll VHelp -/
import Derived.Test.YtmbabhlmdhghdaaGreatDoorD2
import Derived.Test.YtmbabhlmdhghdaaGreatDoorN2
set_option linter.all false
open Nat renaming reduceEqDiff->rA, reduceAdd->rB, reduceMul->rC
open Int renaming reduceEq->rD, reduceLT->rE, reduceLE->rF
open Option renaming some->Z, none->Y
open Bool renaming true->J, false->U
open And renaming intro->i9
open List renaming all_cons->j9, all_nil->jc, drop_drop->Ax, drop_eq_nil_iff->Az, drop_succ_cons->An, drop_zero->A9, mem_cons_of_mem->iy, mem_cons_self->ip, mem_nil_iff->jd, take_length->Ah, take_succ_cons->Ar
open Nat renaming beq->ig, ble->ii, le_succ->j5, zero_le->il
namespace Go.Proofs.YtmbabhlmdhghdaaGreatDoor
open Go Go.AM
set_option maxHeartbeats 4000000
theorem ve{h:AH}{b o:Nat}{cs:List AV}(hb:b<h.next)(g:h.get b=Z (.cells cs J))(hi:below h.next (aQ cs)=J):bp h (Z (.ptr b o))=J:=by
 have:=U190
 grind [bp,lN,ids]
theorem me{h:AH}{v:AV}(hi:ids v=[]):bp h (Z v)=J:=by grind [bp,lN]
theorem pv{v:AV}(hi:ids v=[]):dG (Z v)=J:=by grind [dG]
theorem uW{R:List Nat}{v:AV}(hi:ids v=[]):eZ R (Z v)=J:=by grind [eZ]
theorem yv{R:List Nat}{b o:Nat}(hi:b9 R b=J):eZ R (Z (.ptr b o))=J:=by grind [eZ,ids]
theorem Pr.ah(p:Pr):ids p.av=[]:=by show aQ p.cells=[];exact p.bM
theorem aFW{s:St}{C B lo k:Nat}{v:AV}{cs X:List AV}{q q':Pr}{a1 a2:AV}(hr:aV s.h lo k 4 v cs)(hC:C<lo)(hlo:lo<=s.h.next)(hg:s.h.get C=Z (.cells (X++[v]) J))(hX:X.length=3)(iX:aQ X=[])(hB:B<s.h.next)(gB:s.h.get B=Z (.cells q.cells J))(hk:k<2^30)
  (hc:∀h,aE E1 (.f 53) [q.av] h q'.av h) (h3:s.eval (.t 3)=Z (.ptr C 0)) (h5:s.eval (.t 5)=Z (.ptr B 0)):
  Run E1 aXE s λe s'=>e=.normal/\(∃v',aV s'.h lo (k+1) 4 v' (cs++q'.cells)/\s'.h.get C=Z (.cells (X++[v']) J))/\s.h.next<=s'.h.next/\(∀x,x<lo->x≠C->s'.h.get x=s.h.get x)/\s'.defers=s.defers/\∀i,i<20->s'.eval (.t i)=s.eval (.t i):=by
 have hCn:=U229;have hbc:below s.h.next (aQ (X++[v]))=J:=by
  rw[ms,iX];simp[aQ];exact hr.below
 have n1:=U230;have n2:=U231;have o1:=U232;have o2:=U233;have hdrop:cfB (Z (.cells (X++[v]) J)) 3=Z [v]:=by
  simp_all [ii,cfB]
 refine vY (ops:=nR) (pre:=nR.take 7) (d:=⟨⟨Y,Y,.store 1 (.t 26) (.t 25)⟩,[26,25],[]⟩) rfl λK0 hK=>?_
 show b6 E1 (nR.take 4++(nR.take 7).drop 4) [] s K0;refine w7 (R:=[C,B]) _ [] s rfl (λx hx=>by cases hx) (λr hr'=>by
  grind) ?_
 simp only[nR,Ar,List.take_zero,An,A9,eU,pf,j9,jc,dF,V,me q.ah,pv q.ah,seval, *];exact U112
theorem aFO{s:St}{C B lo k:Nat}{v:AV}{cs X:List AV}{q q':Pr}{a1 a2:AV}(hr:aV s.h lo k 4 v cs)(hC:C<lo)(hlo:lo<=s.h.next)(hg:s.h.get C=Z (.cells (X++[v]) J))(hX:X.length=3)(iX:aQ X=[])(hB:B<s.h.next)(gB:s.h.get B=Z (.cells q.cells J))(hk:k<2^30)
  (hc:∀h,aE E1 (.f 74) [q.av,a1,a2] h q'.av h) (h3:s.eval (.t 8)=Z (.ptr C 0)) (h5:s.eval (.t 10)=Z (.ptr B 0)) (h1:s.eval (.t 1)=Z a1) (h2:s.eval (.t 2)=Z a2) (i1:ids a1=[]) (i2:ids a2=[]):
  Run E1 aVZ s λe s'=>e=.normal/\(∃v',aV s'.h lo (k+1) 4 v' (cs++q'.cells)/\s'.h.get C=Z (.cells (X++[v']) J))/\s.h.next<=s'.h.next/\(∀x,x<lo->x≠C->s'.h.get x=s.h.get x)/\s'.defers=s.defers/\∀i,i<45->s'.eval (.t i)=s.eval (.t i):=by
 have hCn:=U229;have hbc:below s.h.next (aQ (X++[v]))=J:=by
  rw[ms,iX];simp[aQ];exact hr.below
 have n1:=U230;have n2:=U231;have o1:=U232;have o2:=U233;have hdrop:cfB (Z (.cells (X++[v]) J)) 3=Z [v]:=by
  simp_all [ii,cfB]
 refine vY (ops:=nH) (pre:=nH.take 9) (d:=⟨⟨Y,Y,.store 1 (.t 53) (.t 52)⟩,[53,52],[]⟩) rfl λK0 hK=>?_
 show b6 E1 (nH.take 6++(nH.take 9).drop 6) [] s K0;refine w7 (R:=[C,B]) _ [] s rfl (λx hx=>by cases hx) (λr hr'=>by
  grind) ?_
 simp only[nH,Ar,List.take_zero,An,A9,eU,pf,j9,jc,dF,V,me q.ah,pv q.ah,me i1,me i2,pv i1,pv i2,seval, *];exact U112
theorem pl(l:List Pr)(k:Pr):Pr.aG (l++[k])=Pr.aG l++k.cells:=by
 induction l<;>grind [Pr.aG]
theorem Kg{C lo:Nat}{l:List Pr}{L:AV}{X:List AV}{F:Pr->Pr}{a1 a2:AV}(hL:∀i k r,l.drop i=k::r->aX 4 L i=Z (.bD (k.cells++Pr.aG r)))(hC:C<lo)(hX:X.length=3)(iX:aQ X=[])(hN:l.length<2^29)(i1:ids a1=[])(i2:ids a2=[]):
  ∀(r:List Pr) (i:Nat) (s:St) (v:AV),l.drop i=r->i<=l.length->(∀k∈r,∀h,aE E1 (.f 53) [k.av] h (F k).av h)->aV s.h lo i 4 v (Pr.aG ((l.take i).map F))->lo<=s.h.next->s.h.get C=Z (.cells (X++[v]) J)->
  s.eval (.t 3)=Z (.ptr C 0)->s.eval (.t 14)=Z L->s.eval (.t 15)=Z (vI (l.length:Nat))->s.eval (.t 16)=Z (vI (i:Nat))->(h1:88=88\/s.eval (.t 1)=Z a1)->(h2:88=88\/s.eval (.t 2)=Z a2)->s.defers=[]->
  Run E1 Ub s λe s'=>e=.exit 0/\(∃v',aV s'.h lo l.length 4 v' (Pr.aG (l.map F))/\s'.h.get C=Z (.cells (X++[v']) J))/\s.h.next<=s'.h.next/\(∀x,x<lo->x≠C->s'.h.get x=s.h.get x)/\s'.defers=[]/\∀j,j<16->j≠5->s'.eval (.t j)=s.eval (.t j)
 | [],i,s,v,hd,hi,hc,hr,hlo,hg,h3,h6,h7,h8,h1,h2,hf=>by
  have hl:i=l.length:=by
   grind [Az]
  subst hl;have hlt:=U234;rw[Ah] at hr;apply az (rfl:Ub=.loop qC);simp only[qC,V,↓reduceIte,h7,h8,hf,hlt]
  grind
 |k::r,i,s,v,hd,hi,hc,hr,hlo,hg,h3,h6,h7,h8,h1,h2,hf=>by
  have hl:i<l.length:=by
   grind
  have hlt:=U217;have hd':l.drop (i+1)=r:=by rw[<-Ax,hd];rfl
  have hs:∀h:AH,eu (h.alloc (.cells [vI 0,vS ⟨#[]⟩,vI 0,.val (.slice Y 0 0)] J)) 4 (.ptr h.next 0) k.cells=_:=λh=>vW rfl k.len;have w1:=U196;have hCn:=U229;apply az (rfl:Ub=.loop qC);simp only[qC,V,↓reduceIte,rA,h6,h7,h8,hlt,hL i k r hd,hs];have h1:88=88\/s.eval (.t 1)=Z a1:=h1;have h2:88=88\/s.eval (.t 2)=Z a2:=h2;refine(aFW (C:=C) (B:=s.h.next) (lo:=lo) (k:=i) (v:=v) (cs:=Pr.aG ((l.take i).map F)) (X:=X) (q:=k) (q':=F k) (a1:=a1) (a2:=a2) ?_ hC ?_ ?_ hX iX ?_ ?_ om (hc k ip) ?_ ?_).mono ?_
  ·exact U30
  ·exact U31
  ·exact U32
  ·exact U31
  ·exact U33
  ·simp only[V,↓reduceIte,rA,h3]
  ·exact U33
  rintro e s1 ⟨rfl,⟨v1,r1,g1⟩,n1,o1,d1,t1⟩;simp only[V] at n1 o1 d1 t1;have e3:s1.eval (.t 3)=Z (.ptr C 0):=Gr;have e6:s1.eval (.t 14)=Z L:=Gr;have e7:s1.eval (.t 15)=Z (vI (l.length:Nat)):=Gr;have e8:s1.eval (.t 16)=Z (vI (i:Nat)):=Gr;have e1:s1.eval (.t 1)=s.eval (.t 1):=Gr;have e2:s1.eval (.t 2)=s.eval (.t 2):=Gr;simp only[V,↓reduceIte,e8,w1];refine(Kg hL hC hX iX hN i1 i2 r (i+1) _ v1 hd' om (λk' hk=>hc k' (iy _ hk)) ?_ ?_ ?_ ?_ ?_ ?_ ?_ ?_ ?_ ?_).mono ?_
  ·simp only[V]
   grind [pl]
  ·exact U31
  ·simp only[V];exact g1
  ·exact U65
  ·simp only[V,↓reduceIte,rA,e6]
  ·simp only[V,↓reduceIte,rA,e7]
  ·exact U33
  ·grind
  ·grind
  ·simp only[V,d1,hf]
  rintro e s2 ⟨rfl,⟨v2,r2,g2⟩,n2,o2,d2,t2⟩;simp only[V] at n2 o2 t2
  grind
theorem Jz{C lo:Nat}{l:List Pr}{L:AV}{X:List AV}{F:Pr->Pr}{a1 a2:AV}(hL:∀i k r,l.drop i=k::r->aX 4 L i=Z (.bD (k.cells++Pr.aG r)))(hC:C<lo)(hX:X.length=3)(iX:aQ X=[])(hN:l.length<2^29)(i1:ids a1=[])(i2:ids a2=[]):
  ∀(r:List Pr) (i:Nat) (s:St) (v:AV),l.drop i=r->i<=l.length->(∀k∈r,∀h,aE E1 (.f 74) [k.av,a1,a2] h (F k).av h)->aV s.h lo i 4 v (Pr.aG ((l.take i).map F))->lo<=s.h.next->s.h.get C=Z (.cells (X++[v]) J)->
  s.eval (.t 8)=Z (.ptr C 0)->s.eval (.t 39)=Z L->s.eval (.t 40)=Z (vI (l.length:Nat))->s.eval (.t 41)=Z (vI (i:Nat))->(h1:109=88\/s.eval (.t 1)=Z a1)->(h2:109=88\/s.eval (.t 2)=Z a2)->s.defers=[]->
  Run E1 py s λe s'=>e=.exit 0/\(∃v',aV s'.h lo l.length 4 v' (Pr.aG (l.map F))/\s'.h.get C=Z (.cells (X++[v']) J))/\s.h.next<=s'.h.next/\(∀x,x<lo->x≠C->s'.h.get x=s.h.get x)/\s'.defers=[]/\∀j,j<41->j≠10->s'.eval (.t j)=s.eval (.t j)
 | [],i,s,v,hd,hi,hc,hr,hlo,hg,h3,h6,h7,h8,h1,h2,hf=>by
  have hl:i=l.length:=by
   grind [Az]
  subst hl;have hlt:=U234;rw[Ah] at hr;apply az (rfl:py=.loop pe);simp only[pe,V,↓reduceIte,h7,h8,hf,hlt]
  grind
 |k::r,i,s,v,hd,hi,hc,hr,hlo,hg,h3,h6,h7,h8,h1,h2,hf=>by
  have hl:i<l.length:=by
   grind
  have hlt:=U217;have hd':l.drop (i+1)=r:=by rw[<-Ax,hd];rfl
  have hs:∀h:AH,eu (h.alloc (.cells [vI 0,vS ⟨#[]⟩,vI 0,.val (.slice Y 0 0)] J)) 4 (.ptr h.next 0) k.cells=_:=λh=>vW rfl k.len;have w1:=U196;have hCn:=U229;apply az (rfl:py=.loop pe);simp only[pe,V,↓reduceIte,rA,h6,h7,h8,hlt,hL i k r hd,hs];have h1:109=88\/s.eval (.t 1)=Z a1:=h1;have h2:109=88\/s.eval (.t 2)=Z a2:=h2;refine(aFO (C:=C) (B:=s.h.next) (lo:=lo) (k:=i) (v:=v) (cs:=Pr.aG ((l.take i).map F)) (X:=X) (q:=k) (q':=F k) (a1:=a1) (a2:=a2) ?_ hC ?_ ?_ hX iX ?_ ?_ om (hc k ip) ?_ ?_ ?_ ?_ i1 i2).mono ?_
  ·exact U30
  ·exact U31
  ·exact U32
  ·exact U31
  ·exact U33
  ·simp only[V,↓reduceIte,rA,h3]
  ·exact U33
  ·simp only[V,↓reduceIte,rA,h1.resolve_left de]
  ·simp only[V,↓reduceIte,rA,h2.resolve_left de]
  rintro e s1 ⟨rfl,⟨v1,r1,g1⟩,n1,o1,d1,t1⟩;simp only[V] at n1 o1 d1 t1;have e3:s1.eval (.t 8)=Z (.ptr C 0):=Gr;have e6:s1.eval (.t 39)=Z L:=Gr;have e7:s1.eval (.t 40)=Z (vI (l.length:Nat)):=Gr;have e8:s1.eval (.t 41)=Z (vI (i:Nat)):=Gr;have e1:s1.eval (.t 1)=s.eval (.t 1):=Gr;have e2:s1.eval (.t 2)=s.eval (.t 2):=Gr;simp only[V,↓reduceIte,e8,w1];refine(Jz hL hC hX iX hN i1 i2 r (i+1) _ v1 hd' om (λk' hk=>hc k' (iy _ hk)) ?_ ?_ ?_ ?_ ?_ ?_ ?_ ?_ ?_ ?_).mono ?_
  ·simp only[V]
   grind [pl]
  ·exact U31
  ·simp only[V];exact g1
  ·exact U65
  ·simp only[V,↓reduceIte,rA,e6]
  ·simp only[V,↓reduceIte,rA,e7]
  ·exact U33
  ·exact h1.imp id λq=>by
    simp only[V,↓reduceIte,rA,e1];exact q
  ·exact h2.imp id λq=>by
    simp only[V,↓reduceIte,rA,e2];exact q
  ·simp only[V,d1,hf]
  rintro e s2 ⟨rfl,⟨v2,r2,g2⟩,n2,o2,d2,t2⟩;simp only[V] at n2 o2 t2
  grind
def dV(z:List AV)(o n:Nat)(l:List AV):Option (List AV):=bif ig l.length n&&ii (o+n) z.length then Z (putAt z o l) else Y
def fillP(s:St)(r:List (Nat×Nat×Opd)):Option (List AV)->Option (List AV)
 |some z=>fill s z r
 |none=>Y
def fillC(s:St)(z:List AV)(o n:Nat)(r:List (Nat×Nat×Opd)):Option (List AV)->Option (List AV)
 |some l=>fillP s r (dV z o n l)
 |none=>Y
def fillK(s:St)(z:List AV)(o n:Nat)(r:List (Nat×Nat×Opd)):Option AV->Option (List AV)
 |some v=>fillC s z o n r v.cells
 |none=>Y
theorem aUY{s:St}{z:List AV}:fill s z []=Z z:=by rfl
theorem aPH{s:St}{z:List AV}{o n:Nat}{x:Opd}{r:List (Nat×Nat×Opd)}:fill s z ((o,n,x)::r)=fillK s z o n r (s.eval x):=by
 cases he:s.eval x with
 |none=>grind [fill,fillK]
 |some v=>
  cases hv:v.cells with
  |none=>grind [fill,fillK,fillC]
  |some l=>
   simp[fill,fillK,fillC,dV, *];cases ig l.length n&&ii (o+n) z.length<;>rfl
theorem aFC{s:St}{z:List AV}{o n:Nat}{r:List (Nat×Nat×Opd)}{v:AV}:fillK s z o n r (Z v)=fillC s z o n r v.cells:=rfl
theorem aFD{s:St}{z:List AV}{o n:Nat}{r:List (Nat×Nat×Opd)}{l:List AV}:fillC s z o n r (Z l)=fillP s r (dV z o n l):=rfl
theorem aFB{s:St}{z:List AV}{r:List (Nat×Nat×Opd)}:fillP s r (Z z)=fill s z r:=rfl
theorem bQX{a x:AV}{z:List AV}:dV (a::z) 0 1 [x]=Z (x::z):=by
 rfl
theorem bQW{a b x:AV}{z:List AV}:dV (a::b::z) 1 1 [x]=Z (a::x::z):=by
 rfl
theorem bQV{a b c x:AV}{z:List AV}:dV (a::b::c::z) 2 1 [x]=Z (a::b::x::z):=by
 rfl
theorem bQU{a b c d x:AV}{z:List AV}:dV (a::b::c::d::z) 3 1 [x]=Z (a::b::c::x::z):=by
 rfl
theorem bJS{a b c d:AV}:takeN (Z 4) [a,b,c,d]=Z (.agg [a,b,c,d]):=rfl
def stK(h:AH)(b n off:Nat)(l:List AV):Option Blk->Option AH
 |some (.cells cs J)=>bif ig l.length n&&ii (off+n) cs.length then Z (h.put b (Z (.cells (putAt cs off l) J))) else Y
 |_=>Y
theorem bBQ{h:AH}{b n off:Nat}{l:List AV}:eu h n (.ptr b off) l=stK h b n off l (h.get b):=by
 rfl
theorem cy{h:AH}{b n:Nat}{cs l:List AV}(hc:cs.length=n)(hl:l.length=n):stK h b n 0 l (Z (.cells cs J))=Z (h.put b (Z (.cells l J))):=by
 have h1:=U192;have h2:ii (0+n) cs.length=J:=Sa;have h3:putAt cs 0 l=l:=by
  simp_all [putAt]
 exact U66
theorem bQK{h:AH}{b:Nat}{a0 a1 a2 a3 x0 x1 x2 x3:AV}:stK h b 4 0 [x0,x1,x2,x3] (Z (.cells [a0,a1,a2,a3] J))=Z (h.put b (Z (.cells [x0,x1,x2,x3] J))):=cy rfl rfl
theorem bQJ{h:AH}{b:Nat}{a0 a1 a2 a3:AV}{p:Pr}:stK h b 4 0 p.cells (Z (.cells [a0,a1,a2,a3] J))=Z (h.put b (Z (.cells p.cells J))):=cy rfl p.len
theorem bQL{h:AH}{b:Nat}{a x:AV}{z:List AV}:stK h b 1 0 [x] (Z (.cells (a::z) J))=Z (h.put b (Z (.cells (x::z) J))):=by
 rfl
theorem bDE{n:Nat}:ig n n=J:=Nat.beq_refl n
theorem bRL:ig 1 2=U:=rfl
theorem bRI:ig 2 1=U:=rfl
theorem bRM:ig 1 0=U:=rfl
theorem bRP:ig 0 1=U:=rfl
theorem bRJ:ig 2 0=U:=rfl
theorem bRO:ig 0 2=U:=rfl
theorem bRE:ig 3 2=U:=rfl
theorem bRH:ig 2 3=U:=rfl
theorem bRF:ig 3 1=U:=rfl
theorem bRK:ig 1 3=U:=rfl
theorem bRG:ig 3 0=U:=rfl
theorem bRN:ig 0 3=U:=rfl
def WB:=i9 @bDE (i9 bRL (i9 bRI (i9 bRM (i9 bRP (i9 bRJ (i9 bRO (i9 bRE (i9 bRH (i9 bRF (i9 bRK (i9 bRG bRN)))))))))))
def WF:=i9 WB (i9 @bBQ (i9 @bQK (i9 @bQJ (i9 @bQL (i9 @aUY (i9 @aPH (i9 @aFC (i9 @aFD (i9 @aFB (i9 @bQX (i9 @bQW (i9 @bQV (i9 @bQU @bJS)))))))))))))
theorem sf{g:Nat}{l:List AV}{a:ax}{t:AV}(hs:hY g=J)(hf:aR Tryz.prog g=Z a)(hl:∀v∈l,Tree v)
  (H:∀s:St,(∀i v,(bg l 0 .nil).get i=Z v->s.eval (.t i)=Z v)->s.h=.empty->s.defers=[]->s.round=Y->wp E1 a.body s λe s=>(e=.normal\/e=.ret)/\s.defers=[]/\∃r,ay E1.aY s a.res=Z [r]/\∃n,n<1000/\Rep s.h 0 s.h.next n r t) (h:AH):
  aE E1 (.f g) l h t h:=by
 obtain⟨v,h',⟨n,hn,hr⟩,hrun⟩:=yS (g:=g) (l:=l) (h:=.empty) (a:=a) (λv h'=>∃n,n<1000/\Rep h' 0 h'.next n v t) hf λs h1 h2 h3 h4=>(rU _ _ _ (H s h1 h2 h3 h4)).mono λe s' ⟨k1,k2,r,k3,k4⟩=>⟨k1,k2,[r],k3,k4⟩;exact U235
def ai:Option (Option Addr×Nat):=Z (Y,0)
theorem Rz{h:AH}{lo k:Nat}{v:AV}{o n:Int}{nm:ByteArray}{l:List Pr}(r:aV h lo k 4 v (Pr.aG l))(hk:l.length=k):Rep h 0 h.next 2 (.agg [vI o,vS nm,vI n,v]) (Pr.mk o nm n l ai Y).av:=by
 have e:(Pr.mk o nm n l ai Y).kids=(bif ig k 0 then .val (.slice Y 0 0) else .imm (Pr.aG l) k Y):=by
  simp_all [Pr.kids,cV,ai,noKids]
 have:=Rep.agg (h:=h) (lo:=0) (hi:=h.next) (n:=1) (ps:=[(vI o,vI o),(vS nm,vS nm),(vI n,vI n),(v,(Pr.mk o nm n l ai Y).kids)]) (λp hp=>by
  simp[jd] at hp;rcases hp with rfl|rfl|rfl|rfl
  ·exact U183
  ·exact U183
  ·exact U183
  ·rw[e];exact Rep.to (il _) (Nat.le_refl _) (λb _ _ cs rw g=>⟨rw,g⟩) (Nat.le_refl _) r.rep)
 simp only[List.map_cons,List.map_nil] at this;show Rep _ _ _ _ _ (.agg (Pr.mk o nm n l ai Y).cells);rw[Pr.bS];exact this
mutual
def Pr.cp:Pr->Pr
 |.mk o s n ks _ _=>.mk o s n (Pr.cpL ks) ai Y
def Pr.cpL:List Pr->List Pr
 | []=>[]
 |k::r=>k.cp::Pr.cpL r
end
theorem Gs:∀l:List Pr,Pr.cpL l=l.map Pr.cp
 | []=>rfl
 |k::r=>by rw[Pr.cpL,Gs r];rfl
theorem wq(p:Pr):∀i k r,p.ks.drop i=k::r->aX 4 p.kids i=Z (.bD (k.cells++Pr.aG r)):=λ_ _ _ h=>sY h
theorem aBQ(p:Pr)(hN:p.ks.length<2^29)(hc:∀k∈p.ks,∀h,aE E1 (.f 53) [k.av] h k.cp.av h)(h:AH):aE E1 (.f 53) [p.av] h (Pr.mk p.op p.nm p.n (p.ks.map Pr.cp) ai Y).av h:=by
 refine sf rf bMS (qr (Tree.pr p)) (λs hs hh hd hr=>?_) h;have h0:=hs 0 _ rfl;simp[aXD,f53,V,WF, *];refine(Kg (C:=2) (lo:=3) (l:=p.ks) (L:=p.kids) (X:=[vI p.op,vS p.nm,vI p.n]) (F:=Pr.cp) (a1:=p.av) (a2:=p.av) (wq p) de rfl rfl hN p.ah p.ah p.ks 0 _ (.val (.slice Y 0 0)) rfl (il _) hc aV.nil ?_ ?_ ?_ ?_ ?_ ?_ (.inl rfl) (.inl rfl) ?_).mono ?_
 ·simp only[V,rB]
  grind
 ·simp only[V];rfl
 ·simp[V]
 ·simp[V]
 ·simp[V]
 ·simp only[V];rfl
 ·simp[V,hd]
 rintro e s1 ⟨rfl,⟨v1,r1,g1⟩,n1,o1,d1,t1⟩;simp at g1;have g0:s1.h.get 1=Z (.cells [vI 0,vS ⟨#[]⟩,vI 0,.val (.slice Y 0 0)] J):=by
  rw[o1 1 de de];simp[V]
 have e3:s1.eval (.t 3)=Z (.ptr 2 0):=by rw[t1 3 de de];simp[V]
 have e2:s1.eval (.t 2)=Z (.ptr 1 0):=by rw[t1 2 de de];simp[V]
 simp only[V,WF,seval, *];refine⟨_,rfl,2,de,?_⟩;have hn:3<=s1.h.next:=n1;exact U236
mutual
theorem uT:∀(p:Pr),p.nodes<2^29->∀h,aE E1 (.f 53) [p.av] h p.cp.av h
 |.mk o s n ks nl cap,hb,h=>by
  have hb':=U237;have hk:=U198;have:=aBQ (.mk o s n ks nl cap) (by show ks.length<_;omega) (xJ ks om) h
  rw[show(Pr.mk o s n ks nl cap).cp=Pr.mk o s n (Pr.cpL ks) ai Y from rfl,Gs];exact this
theorem xJ:∀(l:List Pr),Pr.aI l<2^29->∀k∈l,∀h,aE E1 (.f 53) [k.av] h k.cp.av h
 | [],_,k,hk,_=>by cases hk
 |p::r,hb,k,hk,h=>by
  have hb':=U238;rcases U201 with e|hk
  ·have:=uT p om h
   grind
  ·exact xJ r om k hk h
end
theorem aPV{p:Pr}(hb:p.nodes<2^29){r:List aW}{s:St}{dst:Option Nat}{K:St->Prop}:bo E1 53 r s dst K (Z [p.av])=AM.wpOps E1 r (s.put dst p.cp.av) K:=ac (uT p hb)
theorem Pz(v:Vl ByteArray)(b:ByteArray)(hN:v.l.length<2^61):∀(r:List ByteArray) (i:Nat) (s:St),v.l.drop i=r->i<=v.l.length->s.eval (.t 0)=Z (v.A bV)->s.eval (.t 6)=Z (v.A bV)->s.eval (.t 1)=Z (vS b)->s.eval (.t 7)=Z (vI (v.l.length:Nat))->s.eval (.t 8)=Z (vI (i:Nat))->s.defers=[]->
  Run E1 og s λe s'=>s'.defers=[]/\((fnd b r=Y/\e=.exit 0)\/(∃j,fnd b r=Z j/\e=.ret/\s'.eval (.t 4)=Z (vI ((i+j:Nat):Int))))
 | [],i,s,hr,hi,h0,h6,h1,h7,h8,hd=>by
  have hl:=ca hr hi;subst hl;apply az (rfl:og=.loop k6);simp[k6,V,fnd, *]
 |a::r,i,s,hr,hi,h0,h6,h1,h7,h8,hd=>by
  have hl:=cz hr;have hlt:=rj hl;have w1:=U204;apply az (rfl:og=.loop k6);cases hq:aP b a with
  |true=>
   simp only[k6,V,v.at sz hr,Np,fnd,seval, *]
   grind
  |false=>
   simp only[k6,V,v.at sz hr,Np,fnd,seval, *];refine(Pz v b hN r (i+1) _ (ba hr) om ?_ ?_ ?_ ?_ ?_ ?_).mono ?_
   all_goals try simp only[V,↓reduceIte,rA,reduceCtorEq,h0,h1,h6,h7,hd]
   grind
theorem Mw(v:Vl ByteArray)(b:ByteArray)(hN:v.l.length<2^61)(h:AH):aE E1 (.f 142) [v.A bV,vS b] h (vI (iO b v.l)) h:=by
 refine s5 rf bFG (sE Tree.vl (Tree.val _)) rfl (Tree.val _) (λs hs hh hd hr=>?_) h;have h0:=hs 0 _ rfl;have h1:=hs 1 _ rfl;simp[aJY,f142,V,h0];refine(Pz v b hN v.l 0 _ rfl (il _) ?_ ?_ ?_ ?_ ?_ ?_).mono ?_
 all_goals try simp only[V,↓reduceIte,rA,reduceCtorEq,h0,h1,hd]
 ·rfl
 rintro e s1 ⟨d1,⟨q,rfl⟩|⟨j,q,rfl,q2⟩⟩
 ·simp[V,iO, *]
 ·simp only[V,reduceCtorEq,d1,iO,q,q2]
theorem Ti(v:Vl ByteArray)(b:ByteArray)(hN:v.l.length<2^61)(h:AH):aE E1 (.f 112) [v.A bV,vS b] h (vI (iO b v.l)) h:=by
 refine s5 rf bFZ (sE Tree.vl (Tree.val _)) rfl (Tree.val _) (λs hs hh hd hr=>?_) h;have h0:=hs 0 _ rfl;have h1:=hs 1 _ rfl;simp only[aKY,f112,V,↓reduceIte,rA,reduceCtorEq,h0,h1,hd,ac (Mw v b hN)]
theorem yP{v:Vl ByteArray}{b:ByteArray}(hN:v.l.length<2^61){r:List aW}{s:St}{dst:Option Nat}{K:St->Prop}:bo E1 112 r s dst K (Z [v.A bV,vS b])=AM.wpOps E1 r (s.put dst (vI (iO b v.l))) K:=ac (Ti v b hN)
set_option maxHeartbeats 400000
def dx(o:Int)(s:ByteArray)(l:List ByteArray)(bys:List Pr):Option Pr:=bif decide (o=3) then(fnd s l).bind (λi=>bys[i]?) else Y
mutual
def Pr.sub(l:List ByteArray)(bys:List Pr):Pr->Pr
 |.mk o s n ks _ _=>match dx o s l bys with
  |some q=>q.cp
  |none=>.mk o s n (Pr.subL l bys ks) ai Y
def Pr.subL(l:List ByteArray)(bys:List Pr):List Pr->List Pr
 | []=>[]
 |k::r=>k.sub l bys::Pr.subL l bys r
end
theorem Xf(l:List ByteArray)(bys:List Pr):∀ks:List Pr,Pr.subL l bys ks=ks.map (Pr.sub l bys)
 | []=>rfl
 |k::r=>by rw[Pr.subL,Xf l bys r];rfl
theorem sJ{h:AH}{lo hi:Nat}{cs:List AV}(hc:∀c∈cs,aj c):Rep h lo hi 1 (.agg cs) (.agg cs):=by
 have:=Rep.agg (h:=h) (lo:=lo) (hi:=hi) (n:=0) (ps:=cs.map λc=>(c,c)) (λp hp=>by
  obtain⟨c,hc',rfl⟩:=List.mem_map.1 hp
  grind [Rep.leaf])
 grind [Wb,Wa]
def mw:aF:=(.seq (.region [⟨Z 31,Y,.fieldAddr 0 (.t 3)⟩,⟨Z 32,Y,.load Y (.t 31)⟩,⟨Z 33,Y,.fieldAddr 1 (.t 3)⟩,⟨Z 34,Y,.load Y (.t 33)⟩,⟨Z 35,Y,.fieldAddr 2 (.t 3)⟩,⟨Z 36,Y,.load Y (.t 35)⟩,⟨Z 37,Y,.build [vI 0,vS ⟨#[]⟩,vI 0,.val (.slice Y 0 0)] [(0,1,(.t 32)),(1,1,(.t 34)),(2,1,(.t 36))]⟩,⟨Z 8,Y,.alloc [vI 0,vS ⟨#[]⟩,vI 0,.val (.slice Y 0 0)]⟩,⟨Y,Y,.store 4 (.t 8) (.t 37)⟩])
 (.seq (.seq (.region [⟨Z 38,Y,.fieldAddr 3 (.t 3)⟩,⟨Z 39,Y,.load Y (.t 38)⟩,⟨Z 40,Y,.fI (.t 39)⟩,⟨Z 41,Y,.mv (.c (vI 0))⟩])
 (.block 0 py))
 (.seq (.region [⟨Z 55,Y,.load (Z 4) (.t 8)⟩,⟨Y,Y,.store 4 (.t 6) (.t 55)⟩])
 .ret)))
theorem bME:f74=(.seq (.region [⟨Z 3,Y,.box (.t 0)⟩,⟨Z 6,Y,.alloc [vI 0,vS ⟨#[]⟩,vI 0,.val (.slice Y 0 0)]⟩])
 (.seq (.seq (.region [⟨Z 11,Y,.fieldAddr 0 (.t 3)⟩,⟨Z 12,Y,.load Y (.t 11)⟩,⟨Z 13,Y,.bin .eql 40 J (.t 12) (.c (vI 3))⟩])
 (.cond (.t 13) (.seq (.region [⟨Z 14,Y,.mv (.t 1)⟩,⟨Z 15,Y,.fieldAddr 1 (.t 3)⟩,⟨Z 16,Y,.load Y (.t 15)⟩,⟨Z 17,Y,.call 112 [.t 14,.t 16]⟩,⟨Z 7,Y,.mv (.t 17)⟩])
 (.seq (.region [⟨Z 18,Y,.mv (.t 7)⟩,⟨Z 19,Y,.bin .geq 3 J (.t 18) (.c (vI 0))⟩,⟨Z 20,Y,.mv (.t 19)⟩,⟨Z 21,Z (20,J),.mv (.t 7)⟩,⟨Z 22,Z (20,J),.mv (.t 2)⟩,⟨Z 23,Z (20,J),.fI (.t 22)⟩,⟨Z 24,Z (20,J),.bin .lss 3 U (.t 21) (.t 23)⟩,⟨Z 25,Y,.pick (.t 20) (.t 24) (.c (Vb U))⟩])
 (.cond (.t 25) (.seq (.region [⟨Z 26,Y,.mv (.t 2)⟩,⟨Z 27,Y,.mv (.t 7)⟩,⟨Z 28,Y,.bT 4 (.t 26) (.t 27)⟩,⟨Z 29,Y,.load (Z 4) (.t 28)⟩,⟨Z 30,Y,.call 53 [.t 29]⟩,⟨Y,Y,.store 4 (.t 6) (.t 30)⟩])
 .ret) .skip))) .skip))
 mw)):=rfl
theorem aRT{p:Pr}{v:Vl ByteArray}{w:Vl Pr}{F:Pr->Pr}{s:St}{K:Ex->St->Prop}(hN:p.ks.length<2^29)(hc:∀k∈p.ks,∀h,aE E1 (.f 74) [k.av,v.A bV,w.A Pr.cells] h (F k).av h)
  (hn:s.h.next=2) (g0:s.h.get 0=Z (.cells p.cells J)) (g1:s.h.get 1=Z (.cells [vI 0,vS ⟨#[]⟩,vI 0,.val (.slice Y 0 0)] J))
  (h1:s.eval (.t 1)=Z (v.A bV)) (h2:s.eval (.t 2)=Z (w.A Pr.cells)) (h3:s.eval (.t 3)=Z (.ptr 0 0)) (h6:s.eval (.t 6)=Z (.ptr 1 0)) (hd:s.defers=[])
  (k:∀s',s'.defers=[]->s'.eval (.t 6)=Z (.ptr 1 0)->∀cs,s'.h.get 1=Z (.cells cs J)->cs.length=4->Rep s'.h 0 s'.h.next 2 (.agg cs) (Pr.mk p.op p.nm p.n (p.ks.map F) ai Y).av->K .ret s'):wp E1 mw s K:=by
 simp[mw,V,WF, *];refine(Jz (C:=2) (lo:=3) (l:=p.ks) (L:=p.kids) (X:=[vI p.op,vS p.nm,vI p.n]) (F:=F) (a1:=v.A bV) (a2:=w.A Pr.cells) (wq p) de rfl rfl hN Vl.ids Vl.ids p.ks 0 _ (.val (.slice Y 0 0)) rfl (il _) hc aV.nil ?_ ?_ ?_ ?_ ?_ ?_ (.inr ?_) (.inr ?_) ?_).mono ?_
 ·simp only[V,rB,hn]
  grind
 ·simp only[V];rfl
 ·simp[V]
 ·simp[V]
 ·simp[V]
 ·simp only[V];rfl
 ·simp[V,h1]
 ·simp[V,h2]
 ·simp[V,hd]
 rintro e s1 ⟨rfl,⟨v1,r1,e1⟩,n1,o1,d1,t1⟩;simp at e1;have q1:s1.h.get 1=Z (.cells [vI 0,vS ⟨#[]⟩,vI 0,.val (.slice Y 0 0)] J):=by
  rw[o1 1 de de];simp[V, *]
 have e8:s1.eval (.t 8)=Z (.ptr 2 0):=by rw[t1 8 de de];simp[V]
 have e6:s1.eval (.t 6)=Z (.ptr 1 0):=by rw[t1 6 de de];simp[V,h6]
 have hn3:3<=s1.h.next:=by
  simp[V,hn] at n1;exact n1
 simp[V,WF, *];refine k _ ?_ ?_ [vI p.op,vS p.nm,vI p.n,v1] ?_ ?_ ?_
 ·simp[V,d1]
 ·simp[V,e6]
 ·simp[V]
 ·rfl
 ·exact U236
theorem aCV(p:Pr)(v:Vl ByteArray)(w:Vl Pr)(F:Pr->Pr)(hN:p.ks.length<2^29)(hv:v.l.length<2^61)(hw:∀q∈w.l,q.nodes<2^29)(hc:∀k∈p.ks,∀h,aE E1 (.f 74) [k.av,v.A bV,w.A Pr.cells] h (F k).av h)(h:AH):
  aE E1 (.f 74) [p.av,v.A bV,w.A Pr.cells] h (match dx p.op p.nm v.l w.l with|some q=>q.cp|none=>Pr.mk p.op p.nm p.n (p.ks.map F) ai Y).av h:=by
 refine sf rf bMD (yy (Tree.pr p) Tree.vl Tree.vl) (λs hs hh hd hr=>?_) h;have h0:=hs 0 _ rfl;have h1:=hs 1 _ rfl;have h2:=hs 2 _ rfl;have fin:∀s':St,s'.defers=[]->s'.eval (.t 6)=Z (.ptr 1 0)->∀cs n t,s'.h.get 1=Z (.cells cs J)->cs.length=4->Rep s'.h 0 s'.h.next n (.agg cs) t->n<1000->s'.defers=[]/\∃r,ay E1.aY s' np.res=Z [r]/\∃n,n<1000/\Rep s'.h 0 s'.h.next n r t:=λs' d e cs n t g hl hr hn=>by
  refine⟨d,.agg cs,?_,n,hn,hr⟩;simp[np,V,cf hl, *]
 have tl:∀(s':St) (b:Int×ByteArray),s'.h.next=2->s'.h.get 0=Z (.cells p.cells J)->s'.h.get 1=Z (.cells [vI 0,vS ⟨#[]⟩,vI 0,.val (.slice Y 0 0)] J)->s'.eval (.t 1)=Z (v.A bV)->s'.eval (.t 2)=Z (w.A Pr.cells)->s'.eval (.t 3)=Z (.ptr 0 0)->s'.eval (.t 6)=Z (.ptr 1 0)->s'.defers=[]->dx p.op p.nm v.l w.l=Y->
   wp E1 mw s' λe s=>(e=.normal\/e=.ret)/\s.defers=[]/\∃r,ay E1.aY s np.res=Z [r]/\∃n,n<1000/\Rep s.h 0 s.h.next n r (match dx p.op p.nm v.l w.l with|some q=>q.cp|none=>Pr.mk p.op p.nm p.n (p.ks.map F) ai Y).av:=λs' _ a1 a2 a3 a4 a5 a6 a7 a8 a9=>
  aRT hN hc a1 a2 a3 a4 a5 a6 a7 a8 λs2 d e cs g hl hr=>⟨.inr rfl,fin s2 d e cs 2 _ g hl Gr de⟩
 have hfn:np.body=f74:=rfl;rw[hfn,bME];cases ho:decide (p.op=3) with
 |false=>
  simp[V, *];refine tl _ (0,⟨#[]⟩) ?_ ?_ ?_ ?_ ?_ ?_ ?_ ?_ (by simp_all [dx])
  all_goals simp only[V,↓reduceIte,rA,rB,reduceCtorEq,h1,h2,hd]
 |true=>
  cases hf:fnd p.nm v.l with
  |none=>
   have hI:iO p.nm v.l= -1:=by grind [iO]
   simp[V,yP hv, *];refine tl _ (0,⟨#[]⟩) ?_ ?_ ?_ ?_ ?_ ?_ ?_ ?_ (by simp_all [dx])
   all_goals simp only[V,↓reduceIte,rA,rB,reduceCtorEq,h1,h2,hd]
   all_goals rfl
  |some i=>
   have hI:iO p.nm v.l=(i:Nat):=by grind [iO]
   have hge:decide ((0:Int)<=(i:Int))=J:=by rfl
   rcases Nat.lt_or_ge i w.l.length with hi|hi
   ·obtain⟨q,r,hq⟩:=U239;have hmem:q∈w.l:=by grind [ip]
    have hpk:dx p.op p.nm v.l w.l=Z q:=by
     exact U113
    simp only[np,V,WF,yP hv,rj hi,w.at Pr.len hq,aPV (hw q hmem),seval, *];exact⟨_,rfl,1,de,sJ q.cp.leaves⟩
   ·have hlt:decide ((i:Int)<(w.l.length:Nat))=U:=by grind
    have hpk:dx p.op p.nm v.l w.l=Y:=by
     simp_all [dx]
    simp only[V,h0,h1,h2,hh,ho,yP hv,hI,hge,hlt,seval];refine tl _ (0,⟨#[]⟩) ?_ ?_ ?_ ?_ ?_ ?_ ?_ ?_ hpk
    all_goals simp only[V,↓reduceIte,rA,rB,reduceCtorEq,h1,h2,hd]
    all_goals rfl
mutual
theorem yg(v:Vl ByteArray)(w:Vl Pr)(hv:v.l.length<2^61)(hw:∀q∈w.l,q.nodes<2^29):∀(p:Pr),p.nodes<2^29->∀h,aE E1 (.f 74) [p.av,v.A bV,w.A Pr.cells] h (p.sub v.l w.l).av h
 |.mk o s n ks nl cap,hb,h=>by
  have hb':=U237;have hk:=U198;have:=aCV (.mk o s n ks nl cap) v w (Pr.sub v.l w.l) (by show ks.length<_;omega) hv hw (xh v w hv hw ks om) h
  rw[show(Pr.mk o s n ks nl cap).sub v.l w.l=(match dx o s v.l w.l with|some q=>q.cp|none=>Pr.mk o s n (Pr.subL v.l w.l ks) ai Y) by rfl,Xf]
  exact this
theorem xh(v:Vl ByteArray)(w:Vl Pr)(hv:v.l.length<2^61)(hw:∀q∈w.l,q.nodes<2^29):∀(l:List Pr),Pr.aI l<2^29->∀k∈l,∀h,aE E1 (.f 74) [k.av,v.A bV,w.A Pr.cells] h (k.sub v.l w.l).av h
 | [],_,k,hk,_=>by cases hk
 |p::r,hb,k,hk,h=>by
  have hb':=U238;rcases U201 with e|hk
  ·have:=yg v w hv hw p om h
   grind
  ·exact xh v w hv hw r om k hk h
end
mutual
def Pr.same:Pr->Pr->Bool
 |.mk o s n ks _ _,q=>decide (o=q.op)&&(aP s q.nm&&(decide (n=q.n)&&(decide (ks.length=q.ks.length)&&Pr.eP ks q.ks)))
def Pr.eP:List Pr->List Pr->Bool
 |k::r,k'::r'=>k.same k'&&Pr.eP r r'
 |_,_=>J
end
theorem aFN{s:St}{p q:Pr}{i:Nat}{k k':Pr}{r r':List Pr}{x:Bool}(h1:p.ks.drop i=k::r)(h2:q.ks.drop i=k'::r')(hc:∀h,aE E1 (.f 48) [k.av,k'.av] h (Vb x) h)
  (e0:s.eval (.t 0)=Z p.kids) (e1:s.eval (.t 1)=Z q.kids) (e2:s.eval (.t 2)=Z (.fn (.func 48) [] [])) (e7:s.eval (.t 7)=Z (vI (i:Nat))):
  Run E1 aVW s λe s'=>e=.normal/\s'.eval (.t 28)=Z (Vb (!x))/\s'.h=s.h/\s'.defers=s.defers/\∀j,j<18->s'.eval (.t j)=s.eval (.t j):=by
 have i1:ids p.kids=[]:=(aj.kids p).ids;have i2:ids q.kids=[]:=(aj.kids q).ids;have i3:ids (AV.bD (k.cells++Pr.aG r))=[]:=by rfl
 have i4:ids (AV.bD (k'.cells++Pr.aG r'))=[]:=by rfl
 have i5:ids (AV.fn (.func 48) [] [])=[]:=rfl;have i6:ids (AV.val (.int .i64 (i:Int)))=[]:=rfl;refine pb rfl ?_
 simp[aVV,X0,X1,X3,X4,V,wq p i k r h1,wq q i k' r' h2,an i1,an i2,an i5,ac hc, *];intro j hj
 repeat rw[if_neg om]
theorem aAN(p q:Pr)(hN:p.ks.length<2^61)(hl:p.ks.length=q.ks.length):∀(r r':List Pr) (i:Nat) (s:St),p.ks.drop i=r->q.ks.drop i=r'->i<=p.ks.length->(∀k∈r,∀k' h,aE E1 (.f 48) [k.av,k'.av] h (Vb (k.same k')) h)->
  s.eval (.t 0)=Z p.kids->s.eval (.t 1)=Z q.kids->s.eval (.t 2)=Z (.fn (.func 48) [] [])->s.eval (.t 14)=Z (vI (p.ks.length:Nat))->s.eval (.t 15)=Z (vI (i:Nat))->s.defers=[]->
  Run E1 Tt s λe s'=>s'.defers=[]/\((Pr.eP r r'=J/\e=.exit 0)\/(Pr.eP r r'=U/\e=.ret/\s'.eval (.t 6)=Z (Vb U)))
 | [],r',i,s,hr,hr',hi,hc,h0,h1,h2,h14,h15,hd=>by
  have hl:=ca hr hi;subst hl;apply az (rfl:Tt=.loop qw);simp[qw,V,Pr.eP, *]
 |k::r,[],i,s,hr,hr',hi,hc,h0,h1,h2,h14,h15,hd=>by
  grind [ca]
 |k::r,k'::r',i,s,hr,hr',hi,hc,h0,h1,h2,h14,h15,hd=>by
  have h3:=cz hr;have hlt:=rj h3;have w1:=U204;apply az (rfl:Tt=.loop qw);simp only[qw,V,h14,h15,hlt,seval];refine(aFN hr hr' (hc k ip k') ?_ ?_ ?_ ?_).mono ?_
  all_goals try simp only[V,h0,h1,h2,seval]
  rintro e s1 ⟨rfl,x1,x2,x3,x4⟩
  try simp only[V,↓reduceIte,rA,rB,rC,reduceCtorEq,rD,rE,rF] at x2 x3
  have e15:s1.eval (.t 15)=Z (vI (i:Nat)):=Gr;have e14:s1.eval (.t 14)=Z (vI (p.ks.length:Nat)):=Gr;have e0:s1.eval (.t 0)=Z p.kids:=Gr;have e1:s1.eval (.t 1)=Z q.kids:=Gr;have e2:s1.eval (.t 2)=Z (.fn (.func 48) [] []):=Gr;cases hs:k.same k' with
  |false=>
   rw[hs] at x1;simp[V,Pr.eP, *]
  |true=>
   rw[hs] at x1;simp only[V, *];refine(aAN p q hN hl r r' (i+1) _ (ba hr) (ba hr') om (λk0 h0=>hc k0 (iy _ h0)) ?_ ?_ ?_ ?_ ?_ ?_).mono ?_
   all_goals try simp only[V,↓reduceIte,rA,reduceCtorEq,e0,e1,e2,e14,x3,hd]
   simp_all [Pr.eP]
theorem Vz(p q:Pr)(hN:p.ks.length<2^61)(hc:∀k∈p.ks,∀k' h,aE E1 (.f 48) [k.av,k'.av] h (Vb (k.same k')) h)(h:AH):
  aE E1 (.f 85) [p.kids,q.kids,.fn (.func 48) [] []] h (Vb (decide (p.ks.length=q.ks.length)&&Pr.eP p.ks q.ks)) h:=by
 refine s5 rf bMA (yy (aj.kids p).tree (aj.kids q).tree (aj.fn0 _).tree) rfl (Tree.val _) (λs hs hh hd hr=>?_) h;have h0:=hs 0 _ rfl;have h1:=hs 1 _ rfl;have h2:=hs 2 _ rfl
 by_cases hl:p.ks.length=q.ks.length
 ·have hne:=U240;have hle:decide (p.ks.length=q.ks.length)=J:=Gr;simp[aFM,f85,V,h0,h1,hne];refine(aAN p q hN hl p.ks q.ks 0 _ rfl rfl (il _) hc ?_ ?_ ?_ ?_ ?_ ?_).mono ?_
  all_goals try simp only[V,↓reduceIte,rA,reduceCtorEq,h0,h1,h2,hd]
  ·rfl
  rintro e s1 ⟨d1,⟨q1,rfl⟩|⟨q1,rfl,q2⟩⟩
  ·simp[V, *]
  ·simp[V, *]
 ·have hne:=U241;have hle:decide (p.ks.length=q.ks.length)=U:=Gr;simp only[aFM,f85,V,↓reduceIte,rA,reduceCtorEq,h0,h1,hd,hne,hle]
theorem aMY(p q:Pr)(hN:p.ks.length<2^61)(hc:∀k∈p.ks,∀k' h,aE E1 (.f 48) [k.av,k'.av] h (Vb (k.same k')) h)(h:AH):
  aE E1 (.f 48) [p.av,q.av] h (Vb (decide (p.op=q.op)&&(aP p.nm q.nm&&(decide (p.n=q.n)&&(decide (p.ks.length=q.ks.length)&&Pr.eP p.ks q.ks))))) h:=by
 refine s5 rf bMW (sE (Tree.pr p) (Tree.pr q)) rfl (Tree.val _) (λs hs hh hd hr=>?_) h;have h0:=hs 0 _ rfl;have h1:=hs 1 _ rfl;cases a:decide (p.op=q.op) with
 |false=>simp[pX,f48,V, *]
 |true=>cases b:aP p.nm q.nm with
  |false=>simp[pX,f48,V, *]
  |true=>cases c:decide (p.n=q.n) with
   |false=>simp[pX,f48,V, *]
   |true=>simp[pX,f48,V,ac (Vz p q hN hc), *]
mutual
theorem uU:∀(p:Pr),p.nodes<2^61->∀q h,aE E1 (.f 48) [p.av,q.av] h (Vb (p.same q)) h
 |.mk o s n ks nl cap,hb,q,h=>by
  have hb':=U197;have hk:=U198;rw[Pr.same];exact aMY (.mk o s n ks nl cap) q (by show ks.length<_;omega) (ym ks om) h
theorem ym:∀(l:List Pr),Pr.aI l<2^61->∀k∈l,∀q h,aE E1 (.f 48) [k.av,q.av] h (Vb (k.same q)) h
 | [],_,k,hk,_,_=>by cases hk
 |p::r,hb,k,hk,q,h=>by
  have hb':=U242;rcases U201 with e|hk
  ·have:=uU p om q h
   grind
  ·exact ym r om k hk q h
end
def tPr:Pr:=.mk 2 ⟨#[]⟩ 1 [] ai Y
def fPr:Pr:=.mk 2 ⟨#[]⟩ 0 [] ai Y
def zPr:Pr:=.mk 0 ⟨#[]⟩ 0 [] ai Y
theorem aLJ(h:AH):aE E1 (.f 51) [Vb J] h tPr.av h:=by
 refine sf rf aXH (qr (Tree.val _)) (λs hs hh hd hr=>?_) h;have h0:=hs 0 _ rfl;simp only[aFZ,f51,V,WF,seval, *];exact U243
theorem aLK(h:AH):aE E1 (.f 51) [Vb U] h fPr.av h:=by
 refine sf rf aXH (qr (Tree.val _)) (λs hs hh hd hr=>?_) h;have h0:=hs 0 _ rfl;simp only[aFZ,f51,V,WF,seval, *];exact U244
def Pr.eX(p:Pr):Bool:=p.same zPr||p.same tPr
theorem aFY{s:St}{p:Pr}{B:Nat}(hb:p.nodes<2^61)(hB:B<s.h.next)(g:s.h.get B=Z (.cells p.cells J))(h1:s.eval (.t 1)=Z (.ptr B 0)):
  Run E1 aXG s λe s'=>e=.normal/\s'.eval (.t 2)=Z (Vb p.eX)/\s'.h=s.h/\s'.defers=s.defers:=by
 have n1:=U245;have o1:=U246;have z0:(AV.agg [vI 0,vS ⟨#[]⟩,vI 0,.val (.slice Y 0 0)])=zPr.av:=rfl;have c0:∀h,aE E1 (.f 48) [p.av,.agg [vI 0,vS ⟨#[]⟩,vI 0,.val (.slice Y 0 0)]] h (Vb (p.same zPr)) h:=uU p hb zPr;have zi:=U247;have bi:=U248;have ui:ids bJ=[]:=rfl;refine tY (R:=[B]) rfl (λr hr'=>by grind) ?_
 cases hz:p.same zPr with
 |true=>
  rw[hz] at c0;simp only[aFX,eU,pf,Jp,j9,jc,dF,V,WF,h1,g,n1,o1,me p.ah,pv p.ah,me zi,pv zi,seval];refine⟨_,c0,?_⟩;simp[aUT,V,me (bi _),uW (bi _),me ui,Pr.eX,hz]
 |false=>
  rw[hz] at c0;simp only[aFX,eU,pf,Jp,j9,jc,dF,V,WF,h1,g,n1,o1,me p.ah,pv p.ah,me zi,pv zi,seval];refine⟨_,c0,?_⟩;simp only[aUS,V,me (bi _),pv (bi _),uW (bi _)];refine⟨_,aLJ,?_⟩;simp only[V,me tPr.ah,pv tPr.ah];refine⟨_,uU p hb tPr,?_⟩;simp only[V,me (bi _),Pr.eX,hz]
theorem Di(p:Pr)(hb:p.nodes<2^61)(h:AH):aE E1 (.f 52) [p.av] h (Vb p.eX) h:=by
 refine s5 rf bMT (qr (Tree.pr p)) rfl (Tree.val _) (λs hs hh hd hr=>?_) h;have h0:=hs 0 _ rfl;simp[aXF,f52,V, *];refine(aFY (p:=p) (B:=0) hb ?_ ?_ ?_).mono ?_
 ·exact U32
 ·rfl
 ·simp[V]
 rintro e s1 ⟨rfl,e2,e3,e4⟩;simp[V,hd] at e4;simp[V, *]
theorem aYI{s:St}{p q:Pr}{i:Nat}{k k':Pr}{r r':List Pr}{x:Bool}(h1:p.ks.drop i=k::r)(h2:q.ks.drop i=k'::r')(hc:∀h,aE E1 (.f 21) [k.av,k'.av] h (Vb x) h)
  (hn:1<s.h.next) (g0:s.h.get 0=Z (.cells p.cells J)) (g1:s.h.get 1=Z (.cells q.cells J)) (e2:s.eval (.t 2)=Z (.ptr 0 0)) (e3:s.eval (.t 3)=Z (.ptr 1 0)) (e5:s.eval (.t 5)=Z (vI (i:Nat))):
  Run E1 aYJ s λe s'=>e=.normal/\s'.h=s.h/\s'.defers=s.defers/\s'.eval (.t 2)=s.eval (.t 2)/\s'.eval (.t 3)=s.eval (.t 3)/\s'.eval (.t 36)=s.eval (.t 36)/\s'.eval (.t 37)=s.eval (.t 37)/\s'.eval (.t 51)=Z (Vb (!x)):=by
 have vi:=U249;have n0:∀o,bp s.h (Z (.ptr 0 o))=J:=λo=>ve om g0 (by rw[p.bM];rfl)
 have n1:∀o,bp s.h (Z (.ptr 1 o))=J:=λo=>ve hn g1 (by rw[q.bM];rfl)
 have o0:=U250;have o1:=U251;have pi:ids p.kids=[]:=(aj.kids p).ids;have qi:ids q.kids=[]:=(aj.kids q).ids;refine tY (R:=[0,1]) rfl (λr hr'=>by
  grind) ?_
 simp[aYH,eU,pf,dF,V,me pi,me qi,me k.ah,pv k.ah,me k'.ah,pv k'.ah,wq p i k r h1,wq q i k' r' h2,tC,te,show∀l,eZ [0,1] (Z (AV.bD l))=J from λ_=>rfl,uW (vi _), *];refine⟨_,hc,?_⟩;simp[V,te]
 grind
theorem aAV(p q:Pr)(hN:p.ks.length<2^61)(hl:p.ks.length=q.ks.length):∀(r r':List Pr) (i:Nat) (s:St),p.ks.drop i=r->q.ks.drop i=r'->i<=p.ks.length->(∀k∈r,∀k' h,aE E1 (.f 21) [k.av,k'.av] h (Vb (k.same k')) h)->
  1<s.h.next->s.h.get 0=Z (.cells p.cells J)->s.h.get 1=Z (.cells q.cells J)->s.eval (.t 2)=Z (.ptr 0 0)->s.eval (.t 3)=Z (.ptr 1 0)->s.eval (.t 36)=Z (vI (p.ks.length:Nat))->s.eval (.t 37)=Z (vI (i:Nat))->s.defers=[]->
  Run E1 Uv s λe s'=>s'.defers=[]/\((Pr.eP r r'=J/\e=.exit 0)\/(Pr.eP r r'=U/\e=.ret/\s'.eval (.t 4)=Z (Vb U)))
 | [],r',i,s,hr,hr',hi,hc,hn,g0,g1,h2,h3,h36,h37,hd=>by
  have hl:=ca hr hi;subst hl;apply az (rfl:Uv=.loop rK);simp[rK,V,Pr.eP, *]
 |k::r,[],i,s,hr,hr',hi,hc,hn,g0,g1,h2,h3,h36,h37,hd=>by
  grind [ca]
 |k::r,k'::r',i,s,hr,hr',hi,hc,hn,g0,g1,h2,h3,h36,h37,hd=>by
  have hlt:=rj (cz hr);have hll:=cz hr;have w1:=U204;apply az (rfl:Uv=.loop rK);simp only[rK,V,h36,h37,hlt,seval];refine(aYI hr hr' (hc k ip k') ?_ ?_ ?_ ?_ ?_ ?_).mono ?_
  ·simp[V];exact hn
  ·simp[V,g0]
  ·simp[V,g1]
  ·simp[V,h2]
  ·simp[V,h3]
  ·simp[V]
  rintro e s1 ⟨rfl,x1,x2,x3,x4,x5,x6,x7⟩;simp[V,h2,h3,h36,h37,hd] at x1 x2 x3 x4 x5 x6;rw[Pr.eP];cases hs:k.same k' with
  |false=>
   rw[hs] at x7;simp[V, *]
  |true=>
   rw[hs] at x7;simp only[V, *];refine aAV p q hN hl r r' (i+1) _ (ba hr) (ba hr') om (λk0 h0=>hc k0 (iy _ h0)) ?_ ?_ ?_ ?_ ?_ ?_ ?_ ?_
   ·simp[V,x1];exact hn
   ·simp[V, *]
   ·simp[V, *]
   ·simp[V,x3]
   ·simp[V,x4]
   ·simp[V,x5]
   ·simp[V]
   ·simp only[V,x2]
theorem aDI(p q:Pr)(hN:p.ks.length<2^61)(hc:∀k∈p.ks,∀k' h,aE E1 (.f 21) [k.av,k'.av] h (Vb (k.same k')) h)(h:AH):
  aE E1 (.f 21) [p.av,q.av] h (Vb (decide (p.op=q.op)&&(aP p.nm q.nm&&(decide (p.n=q.n)&&(decide (p.ks.length=q.ks.length)&&Pr.eP p.ks q.ks))))) h:=by
 refine s5 rf bNM (sE (Tree.pr p) (Tree.pr q)) rfl (Tree.val _) (λs hs hh hd hr=>?_) h;have h0:=hs 0 _ rfl;have h1:=hs 1 _ rfl;cases a:decide (p.op=q.op) with
 |false=>simp[nE,f21,V, *]
 |true=>cases b:aP p.nm q.nm with
  |false=>simp[nE,f21,V, *]
  |true=>cases c:decide (p.n=q.n) with
   |false=>simp[nE,f21,V, *]
   |true=>
    by_cases hl:p.ks.length=q.ks.length
    ·have hne:=U240;have hle:decide (p.ks.length=q.ks.length)=J:=Gr;simp[nE,f21,V,h0,h1,hh,a,b,c,hne,hle];refine(aAV p q hN hl p.ks q.ks 0 _ rfl rfl (il _) hc ?_ ?_ ?_ ?_ ?_ ?_ ?_ ?_).mono ?_
     ·simp only[V,rB];decide
     ·rfl
     ·simp[V]
     ·simp[V]
     ·simp[V]
     ·simp[V]
     ·simp only[V];rfl
     ·simp[V,hd]
     rintro e s1 ⟨d1,⟨q1,rfl⟩|⟨q1,rfl,q2⟩⟩
     ·simp[V, *]
     ·simp[V, *]
    ·have hne:=U241;have hle:decide (p.ks.length=q.ks.length)=U:=Gr;simp[nE,f21,V, *]
mutual
theorem sR:∀(p:Pr),p.nodes<2^61->∀q h,aE E1 (.f 21) [p.av,q.av] h (Vb (p.same q)) h
 |.mk o s n ks nl cap,hb,q,h=>by
  have hb':=U197;have hk:=U198;rw[Pr.same];exact aDI (.mk o s n ks nl cap) q (by show ks.length<_;omega) (xi ks om) h
theorem xi:∀(l:List Pr),Pr.aI l<2^61->∀k∈l,∀q h,aE E1 (.f 21) [k.av,q.av] h (Vb (k.same q)) h
 | [],_,k,hk,_,_=>by cases hk
 |p::r,hb,k,hk,q,h=>by
  have hb':=U242;rcases U201 with e|hk
  ·have:=sR p om q h
   grind
  ·exact xi r om k hk q h
end
theorem tu(h:AH):aE E1 (.f 54) [] h tPr.av h:=by
 refine sf rf bMR (λv hv=>by cases hv) (λs hs hh hd hr=>?_) h
 simp only[aXC,f54,V,WF,seval, *];exact U243
theorem aWZ{s:St}{p:Pr}{B:Nat}(hb:p.nodes<2^61)(hB:B<s.h.next)(g:s.h.get B=Z (.cells p.cells J))(h1:s.eval (.t 1)=Z (.ptr B 0)):
  Run E1 aXA s λe s'=>e=.normal/\s'.eval (.t 2)=Z (Vb p.eX)/\s'.h=s.h/\s'.defers=s.defers:=by
 have n1:=U245;have o1:=U246;have c0:∀h,aE E1 (.f 21) [p.av,.agg [vI 0,vS ⟨#[]⟩,vI 0,.val (.slice Y 0 0)]] h (Vb (p.same zPr)) h:=sR p hb zPr;have c1:∀h,aE E1 (.f 21) [p.av,tPr.av] h (Vb (p.same tPr)) h:=sR p hb tPr;have zi:=U247;have bi:=U248;have ui:ids bJ=[]:=rfl;have ev:p.eX=(p.same tPr||p.same zPr):=by grind [Pr.eX]
 refine tY (R:=[B]) rfl (λr hr'=>by grind) ?_
 rw[ev];simp only[aWX,eU,pf,Jp,j9,jc,dF,V,WF,me p.ah,pv p.ah,me zi,pv zi,seval, *];refine⟨_,tu,?_⟩;simp only[V,me tPr.ah,pv tPr.ah,me ui,pv ui];cases hz:p.same tPr with
 |true=>
  rw[hz] at c1;refine⟨_,c1,?_⟩;simp[aUT,V,me (bi _),uW (bi _)]
 |false=>
  rw[hz] at c1;refine⟨_,c1,?_⟩;simp only[aUS,V,me (bi _),pv (bi _),uW (bi _)];refine⟨_,c0,?_⟩;simp only[V,me (bi _)]
theorem ug(p:Pr)(hb:p.nodes<2^61)(h:AH):aE E1 (.f 56) [p.av] h (Vb p.eX) h:=by
 refine s5 rf bMP (qr (Tree.pr p)) rfl (Tree.val _) (λs hs hh hd hr=>?_) h;have h0:=hs 0 _ rfl;simp[aWY,f56,V, *];refine(aWZ (p:=p) (B:=0) hb ?_ ?_ ?_).mono ?_
 ·exact U32
 ·rfl
 ·simp[V]
 rintro e s1 ⟨rfl,e2,e3,e4⟩;simp[V,hd] at e4;simp[V, *]
theorem ut{E:Env}{g:Nat}{xs ys:List AV}{a a' t:AV}{h h1:AH}(hs:E.shared.get g=Y)(hx:∀v∈xs,Tree v)(hy:∀v∈ys,Tree v)(ha:Tree a')(hz:AM.freeze aU a h=h1)(hm:ar h1 aU a=Z a')(hf:dg t=J)
  (hc:∀h,aE E (.f g) (xs++a'::ys) h t h):aE E (.f g) (xs++a::ys) h t h:=by
 have hfo:(xs++a::ys).foldl (λh v=>AM.freeze aU v h) h=h1:=by
  simp_all [sm]
 have hm1:=Su hm hy hx;have hl':∀v∈xs++a'::ys,Tree v:=Gr;refine(hc h1).mono λn p=>?_
 have p:=U186;show fD E (bh E (exec E n)) g (xs++a::ys) h=_;simp only[fD,hs,sm hl',s9 hl'] at p;simp[fD, *];revert p;cases E.known g (xs++a'::ys) with
 |some r=>
  grind
 |none=>
  simp only;cases bh E (exec E n) g (xs++a'::ys) .empty<;>grind
theorem uo{E:Env}{s:St}{K:St->Prop}{r:List aW}{dst:Option Nat}{es bytes a d k m lo:Nat}{v x:AV}{cs new:List AV}(hr:aV s.h lo k es v cs)(hlo:lo<=s.h.next)(he:au s.h es x=Z (new,m))(hm:0<m)(hl:new.length=m*es)(hn:∀c∈new,aj c)(hok:cW (k+m) bytes=J)(ha:s.eval (.t a)=Z v)(hx:s.eval (.t d)=Z x)
  (kk:∀h',aV h' lo (k+m) es (.own s.h.next 0 (k+m) es Y) (cs++new)->s.h.next<=h'.next->(∀y,y<s.h.next->y∉ids v->h'.get y=s.h.get y)->AM.wpOps E r ((s.toH h').put dst (.own s.h.next 0 (k+m) es Y)) K):AM.wpOps E (⟨dst,Y,.append es bytes (.t a) (.t d)⟩::r) s K:=by
 obtain⟨p1,p2,p3,p4⟩:=Gi hr hlo hn hl hm;rw[tX,xc hr he hm hok ha hx];exact kk (gj s.h v new) p2 om p3
theorem sX{a b c d:AV}{q:Pr}:dV [a,b,c,d] 0 4 q.cells=Z q.cells:=by
 have h1:ig q.cells.length 4=J:=by rw[q.len];rfl
 have h2:ii (0+4) [a,b,c,d].length=J:=rfl;have h3:putAt [a,b,c,d] 0 q.cells=q.cells:=by
  simp_all [putAt]
 simp only[dV,h1,h2,Bool.and_self,cond_true,h3]
theorem uQ{α:Type}{f:α->List AV}{l:List α}{n:Nat}(hn:l.length=n):fE n (l.flatMap f)=(⟨l,ai,Y⟩:Vl α).A f:=by
 simp_all [fE,Vl.A,cV,ai,noKids]
def dy(p:Pr):List Pr->Bool
 | []=>U
 |q::r=>q.same p||dy p r
theorem Qf(p:Pr)(w:Vl Pr)(hw:∀q∈w.l,q.nodes<2^61)(hN:w.l.length<2^61):∀(r:List Pr) (i:Nat) (s:St),w.l.drop i=r->i<=w.l.length->0<s.h.next->s.h.get 0=Z (.cells p.cells J)->
  s.eval (.t 3)=Z (.ptr 0 0)->s.eval (.t 7)=Z (w.A Pr.cells)->s.eval (.t 8)=Z (vI (w.l.length:Nat))->s.eval (.t 9)=Z (vI (i:Nat))->s.defers=[]->
  Run E1 o8 s λe s'=>s'.defers=[]/\((dy p r=U/\e=.exit 0)\/(dy p r=J/\e=.ret/\s'.eval (.t 4)=Z (Vb J)))
 | [],i,s,hd,hi,hn,g0,h3,h7,h8,h9,hf=>by
  have hl:=ca hd hi;subst hl;apply az (rfl:o8=.loop ky);simp[ky,V,dy, *]
 |k::r,i,s,hd,hi,hn,g0,h3,h7,h8,h9,hf=>by
  have hl:=cz hd;have hlt:=rj hl;have w1:=U204;have n0:=U252;have hs:=sR k (hw k (List.mem_of_mem_drop (i:=i) Gr)) p;apply az (rfl:o8=.loop ky);rw[dy];cases hc:k.same p with
  |true=>
   rw[hc] at hs;simp only[ky,V,WF,w.at Pr.len hd,ac hs,seval, *]
  |false=>
   rw[hc] at hs;simp only[ky,V,WF,w.at Pr.len hd,ac hs,seval, *];refine Qf p w hw hN r (i+1) _ (ba hd) om ?_ ?_ ?_ ?_ ?_ ?_ ?_
   ·exact U31
   ·simp[V, *]
   all_goals simp only[V,↓reduceIte,rA,h3,h7,h8,hf]
theorem Rv(w:Vl Pr)(p:Pr)(hw:∀q∈w.l,q.nodes<2^61)(hN:w.l.length<2^61)(h:AH):aE E1 (.f 128) [w.A Pr.cells,p.av] h (Vb (dy p w.l)) h:=by
 refine s5 rf bFO (sE Tree.vl (Tree.pr p)) rfl (Tree.val _) (λs hs hh hd hr=>?_) h;have h0:=hs 0 _ rfl;have h1:=hs 1 _ rfl;simp[aKN,f128,V, *];refine(Qf p w hw hN w.l 0 _ rfl (il _) ?_ ?_ ?_ ?_ ?_ ?_ ?_).mono ?_
 ·simp only[V];decide
 ·rfl
 ·simp[V]
 ·simp[V]
 ·simp[V]
 ·exact U34
 ·simp[V,hd]
 rintro e s1 ⟨d1,⟨q,rfl⟩|⟨q,rfl,q2⟩⟩
 ·simp[V, *]
 ·simp[V, *]
mutual
def rin(op:Int):Pr->List Pr->List Pr
 |.mk o s n ks a b,L=>bif decide (o=op)&& !dy (.mk o s n ks a b) (ej op ks L) then ej op ks L++[(Pr.mk o s n ks a b)] else ej op ks L
def ej(op:Int):List Pr->List Pr->List Pr
 | [],L=>L
 |k::r,L=>ej op r (rin op k L)
end
mutual
theorem Ru(op:Int):∀(p:Pr) (L:List Pr),(rin op p L).length<=L.length+p.nodes
 |.mk o s n ks a b,L=>by
  have:=Hp op ks L;rw[rin,Pr.nodes]
  grind
theorem Hp(op:Int):∀(l L:List Pr),(ej op l L).length<=L.length+Pr.aI l
 | [],L=>by grind [ej]
 |k::r,L=>by
  have h1:=Ru op k L;have h2:=Hp op r (rin op k L)
  grind [ej,Pr.aI]
end
def Small(L:List Pr):Prop:=∀q∈L,q.nodes<2^61
mutual
theorem Nr(op:Int):∀(p:Pr) (L:List Pr),p.nodes<2^61->Small L->Small (rin op p L)
 |.mk o s n ks a b,L,hb,hL=>by
  have hb':=U197;have h1:=yF op ks L om hL;simp[rin];cases decide (o=op)&& !dy (.mk o s n ks a b) (ej op ks L)
  ·exact h1
  ·intro q hq;rcases List.mem_append.1 hq with hq|hq
   ·exact h1 q hq
   grind
theorem yF(op:Int):∀(l L:List Pr),Pr.aI l<2^61->Small L->Small (ej op l L)
 | [],L,_,hL=>hL
 |k::r,L,hb,hL=>by
  have hb':k.nodes+Pr.aI r<2^61:=hb;exact yF op r (rin op k L) om (Nr op k L om hL)
end
theorem Oc{k:Pr}:∀{l:List Pr},k∈l->k.nodes<=Pr.aI l
 | [],h=>by cases h
 |p::r,h=>by
  rw[Pr.aI];rcases List.mem_cons.1 h with e|h
  ·grind
  ·have:=Oc h;omega
def RinOk(op:Int)(k:Pr):Prop:=∀(h:AH) (lo:Nat) (v:AV) (L:List Pr),Small L->aV h lo L.length 4 v (Pr.aG L)->lo<=h.next->L.length+k.nodes<2^29->∃v' h',aE E1 (.f 89) [k.av,vI op,v] h v' h'/\aV h' lo (rin op k L).length 4 v' (Pr.aG (rin op k L))/\h.next<=h'.next/\(∀x,x<h.next->x∉ids v->h'.get x=h.get x)/\(∀x∈ids v',x∈ids v\/h.next<=x)
theorem Zx(op:Int)(p:Pr){lo B:Nat}(hlB:lo<=B)(hN:p.ks.length<2^29):∀(r:List Pr) (i:Nat) (s:St) (v:AV) (L:List Pr),p.ks.drop i=r->i<=p.ks.length->(∀k∈r,RinOk op k)->(∀k∈r,k.nodes<2^61)->Small L->L.length+Pr.aI r<2^29->aV s.h lo L.length 4 v (Pr.aG L)->B<s.h.next->B∉ids v->s.h.get B=Z (.cells p.cells J)->
  s.eval (.t 1)=Z (vI op)->s.eval (.t 2)=Z v->s.eval (.t 3)=Z (.ptr B 0)->s.eval (.t 10)=Z p.kids->s.eval (.t 11)=Z (vI (p.ks.length:Nat))->s.eval (.t 12)=Z (vI (i:Nat))->s.defers=[]->
  Run E1 Tp s λe s'=>e=.exit 0/\s'.defers=[]/\s'.eval (.t 1)=Z (vI op)/\s'.eval (.t 3)=Z (.ptr B 0)/\∃v',s'.eval (.t 2)=Z v'/\aV s'.h lo (ej op r L).length 4 v' (Pr.aG (ej op r L))/\s.h.next<=s'.h.next/\(∀x,x<s.h.next->x∉ids v->s'.h.get x=s.h.get x)/\(∀x∈ids v',x∈ids v\/s.h.next<=x)
 | [],i,s,v,L,hd,hi,hk,hkn,hS,hL,hr,hB,hBv,gB,h1,h2,h3,h10,h11,h12,hf=>by
  have hl:=ca hd hi;subst hl;apply az (rfl:Tp=.loop rT);simp only[rT,V,tE,ej,seval, *]
  simp_all
 |k::r,i,s,v,L,hd,hi,hk,hkn,hS,hL,hr,hB,hBv,gB,h1,h2,h3,h10,h11,h12,hf=>by
  have hl:=cz hd;have hlt:=rj hl;have hL':L.length+(k.nodes+Pr.aI r)<2^29:=hL;have w1:=U204;apply az (rfl:Tp=.loop rT);simp only[rT,V,WF,wq p i k r hd,seval, *];obtain⟨v1,h1',c1,r1,n1,o1,j1⟩:=hk k ip ((s.h.alloc (.cells [vI 0,vS ⟨#[]⟩,vI 0,.val (.slice Y 0 0)] J)).put s.h.next (Z (.cells k.cells J))) lo v L hS (hr.to (j5 _) λx _ x2=>by grind [bc,am]) (by show lo<=s.h.next+1;omega) om
  have n1:s.h.next+1<=h1'.next:=n1;have o1:∀x,x<s.h.next->x∉ids v->h1'.get x=s.h.get x:=λx hx hv=>by
   rw[o1 x (by show x<s.h.next+1;omega) hv,bc om,am hx]
  have j1:∀x∈ids v1,x∈ids v\/s.h.next+1<=x:=j1;refine gt (v:=v1) (h':=h1') ?_ ?_
  ·simp[V];exact c1
  simp only[V,seval, *];have hlen:=Ru op k L;refine(Zx op p (lo:=lo) (B:=B) hlB hN r (i+1) _ v1 (rin op k L) (ba hd) om (λk' hk'=>hk k' (iy _ hk')) (λk' hk'=>hkn k' (iy _ hk')) (Nr op k L (hkn k ip) hS) om ?_ ?_ ?_ ?_ ?_ ?_ ?_ ?_ ?_ ?_ ?_).mono ?_
  ·simp[V];exact r1
  ·simp[V];omega
  ·grind
  ·simp[V]
   grind
  ·simp[V,h1]
  ·simp[V]
  ·simp[V,h3]
  ·simp[V,h10]
  ·simp[V,h11]
  ·simp[V]
  ·simp[V,hf]
  rintro e s2 ⟨rfl,d2,e1,e3,v2,e2,r2,n2,o2,j2⟩;simp[V] at n2 o2 j2;refine⟨rfl,d2,e1,e3,v2,e2,r2,om,λx x1 x2=>?_,λx hx=>?_⟩<;>grind
theorem aDO(op:Int)(p:Pr)(hN:p.nodes<2^29)(hk:∀k∈p.ks,RinOk op k)(L1:List Pr->List Pr)(hL1:∀L,L1 L=(bif decide (p.op=op)&& !dy p (ej op p.ks L) then ej op p.ks L++[p] else ej op p.ks L))(h:AH)(lo:Nat)(v:AV)(L:List Pr)(hS:Small L)(hr:aV h lo L.length 4 v (Pr.aG L))(hlo:lo<=h.next)(hb:L.length+p.nodes<2^29):
  ∃v' h',aE E1 (.f 89) [p.av,vI op,v] h v' h'/\aV h' lo (L1 L).length 4 v' (Pr.aG (L1 L))/\h.next<=h'.next/\(∀x,x<h.next->x∉ids v->h'.get x=h.get x)/\(∀x∈ids v',x∈ids v\/h.next<=x):=by
 have hnk:1+Pr.aI p.ks<2^29:=by rw[<-p.pg];exact hN
 have hb':L.length+(1+Pr.aI p.ks)<2^29:=by rw[<-p.pg];exact hb
 have hks:p.ks.length<=Pr.aI p.ks:=rl _;refine bBW (λv' h'=>aV h' lo (L1 L).length 4 v' (Pr.aG (L1 L))/\h.next<=h'.next/\(∀x,x<h.next->x∉ids v->h'.get x=h.get x)/\(∀x∈ids v',x∈ids v\/h.next<=x)) rf bLT λs hs hh hd hrd=>?_
 have h0:=hs 0 _ rfl;have h1:=hs 1 _ rfl;have h2:=hs 2 _ rfl;simp only[aVR,f89,V,↓reduceIte,rA,h0,hh];refine(Zx op p (lo:=lo) (B:=h.next) hlo om p.ks 0 _ v L rfl (il _) hk (λk hk'=>by have:=Oc hk';omega) hS om ?_ ?_ ?_ ?_ ?_ ?_ ?_ ?_ ?_ ?_ ?_).mono ?_
 ·simp only[V];exact hr.to (j5 _) λx _ x2=>by rw[am x2]
 ·exact U31
 ·intro hx;have:=(hr.ids _ hx).2.1;omega
 ·exact U33
 ·simp only[V,↓reduceIte,rA,h1]
 ·simp only[V,↓reduceIte,rA,h2]
 ·exact U29
 ·exact U29
 ·exact U29
 ·exact U34
 ·simp only[V,hd]
 rintro e s1 ⟨rfl,d1,e1,e3,v1,e2,r1,n1,o1,j1⟩;simp only[V] at n1 o1 j1;have gB:s1.h.get h.next=Z (.cells p.cells J):=by
  rw[o1 h.next om (λhx=>by have:=(hr.ids _ hx).2.1;omega),if_pos rfl]
 have o1':∀x,x<h.next->x∉ids v->s1.h.get x=h.get x:=Gr;have j1':∀x∈ids v1,x∈ids v\/h.next<=x:=Gr;have hlen:=Hp op p.ks L;cases ho:decide (p.op=op) with
 |false=>
  have e:L1 L=ej op p.ks L:=Gr;rw[e];simp only[V,↓reduceIte,rA,reduceCtorEq,WB,e1,e2,e3,gB,ho,d1];exact⟨_,rfl,r1,om,o1',j1'⟩
 |true=>
  obtain⟨h2',f1,f2,f9999,f9999⟩:=tP r1;have hcall:aE E1 (.f 128) [v1,p.av] s1.h (Vb (dy p (ej op p.ks L))) s1.h:=ut (xs:=[]) (ys:=[p.av]) rf (λv hv=>by cases hv) (qr (Tree.pr p)) tT.tree f1 f9999 rfl (λh0=>by
   rw[Pr.bG,uQ rfl];exact Rv ⟨ej op p.ks L,ai,Y⟩ p (yF op p.ks L om hS) Gr h0)
  simp only[V,↓reduceIte,rA,WB,e1,e2,e3,gB,ho];refine gt (v:=Vb (dy p (ej op p.ks L))) (h':=s1.h) ?_ ?_
  ·exact U32
  cases hz:dy p (ej op p.ks L) with
  |true=>
   have e:L1 L=ej op p.ks L:=Gr;rw[e];simp only[V,↓reduceIte,rA,reduceCtorEq,e2,d1];exact⟨_,rfl,r1,om,o1',j1'⟩
  |false=>
   have e:L1 L=ej op p.ks L++[p]:=Gr;rw[e];simp only[V,↓reduceIte,rA,WF,e2,e3,gB,sX];refine uo (k:=(ej op p.ks L).length) (m:=1) (lo:=lo) (v:=v1) (x:=.own s1.h.next 0 1 4 (Z 1)) (cs:=Pr.aG (ej op p.ks L)) (new:=p.cells) ?_ ?_ ?_ de (by rw[p.len]) p.leaves (lR om de) ?_ ?_ ?_
   ·simp only[V];exact r1.to (j5 _) λx _ x2=>by rw[am x2]
   ·exact U31
   ·refine kl (rw':=J) ?_ (by rw[p.len])
    exact U33
   ·exact U29
   ·exact U33
   intro h2 r2 n2 o2;simp only[V] at n2 o2 r2;simp only[V,↓reduceIte,reduceCtorEq,d1];refine⟨_,rfl,?_,?_,?_,?_⟩
   ·show aV h2 lo _ 4 _ _;rw[pl,List.length_append];exact r2
   ·grind
   ·grind
   grind [bQ,ids]
mutual
theorem wD(op:Int):∀(p:Pr),p.nodes<2^29->RinOk op p
 |.mk o s n ks nl cap,hb=>λh lo v L hS hr hlo hL=>by
  have hb':=U237;exact aDO op (.mk o s n ks nl cap) hb (xk op ks om) (rin op (.mk o s n ks nl cap)) (λL=>by rfl) h lo v L hS hr hlo hL
theorem xk(op:Int):∀(l:List Pr),Pr.aI l<2^29->∀k∈l,RinOk op k
 | [],_,k,hk=>by cases hk
 |p::r,hb,k,hk=>by
  have hb':=U238;rcases U201 with e|hk
  ·have:=wD op p om
   grind
  ·exact xk op r om k hk
end
def ckS(N:Pr->Int)(p:Pr):Int:=if 400<p.nodes then 7 else if 40<p.depth then 8 else chk N p
theorem aCU{a b c:AV}:takeN (Z 3) [a,b,c]=Z (.agg [a,b,c]):=rfl
def nM(x:ByteArray):List ByteArray->Bool
 | []=>J
 |k::r=>aP k x&&nM x r
def jE:ByteArray:=⟨#[73,110,116]⟩
def dS:ByteArray:=⟨#[66,111,111,108]⟩
def oI:ByteArray:=⟨#[67,101,108,108]⟩
def argS(op:Int):Option ByteArray:=
 if op=6\/op=7\/op=8\/op=9\/op=12\/op=13 then Z jE else if op=10\/op=11 then Y else Z dS
def resS(op:Int):ByteArray:=if op=6\/op=7\/op=8\/op=9 then jE else dS
theorem bJX{h:AH}{b:Nat}{a0 a1 x y:AV}:stK h b 2 0 [x,y] (Z (.cells [a0,a1] J))=Z (h.put b (Z (.cells [x,y] J))):=cy rfl rfl
theorem bJT{a b:AV}:takeN (Z 2) [a,b]=Z (.agg [a,b]):=rfl
def vlk(b:ByteArray):List Vr->Option ByteArray
 | []=>Y
 |v::r=>bif aP v.nm b then Z v.so else vlk b r
def optR:Option ByteArray->List AV
 |some s=>[vS s,Vb J]
 |none=>[vS ⟨#[]⟩,Vb U]
theorem aRM{l r:List Vr}{v:Vr}{k:Nat}(h:l.drop k=v::r):(l.take (k+1)).reverse=v::(l.take k).reverse:=by
 grind
theorem aNP(o:Option ByteArray):Tree (.tup (optR o)):=by cases o<;>exact Tree.two _ _
theorem aNQ(o:Option ByteArray):dg (.tup (optR o))=J:=by cases o<;>rfl
def varS(l:List Vr)(b:ByteArray):Option ByteArray:=vlk b l.reverse
def plainS(s:ByteArray):Bool:=aP s ⟨#[73,110,116]⟩||(aP s ⟨#[66,111,111,108]⟩||aP s ⟨#[67,101,108,108]⟩)
theorem bHN{g:Nat}{l:List AV}{a:ax}{t:AV}(hs:hY g=J)(hf:aR Tryz.prog g=Z a)(hl:∀v∈l,Tree v)
  (H:∀s:St,(∀i v,(bg l 0 .nil).get i=Z v->s.eval (.t i)=Z v)->s.h=.empty->s.defers=[]->s.round=Y->wp E1 a.body s λe s=>(e=.normal\/e=.ret)/\s.defers=[]/\∃rs,ay E1.aY s a.res=Z rs/\∃n,n<1000/\Rep s.h 0 s.h.next n (bQ rs) t) (h:AH):
  aE E1 (.f g) l h t h:=by
 obtain⟨v,h',⟨n,hn,hr⟩,hrun⟩:=yS (g:=g) (l:=l) (h:=.empty) (a:=a) (λv h'=>∃n,n<1000/\Rep h' 0 h'.next n v t) hf λs h1 h2 h3 h4=>(rU _ _ _ (H s h1 h2 h3 h4));exact U235
def jY(b:ByteArray):List Ho->Option Ho
 | []=>Y
 |h::r=>bif aP h.nm b then Z h else jY b r
def smLk(b:ByteArray):List Sm->Option Sm
 | []=>Y
 |s::r=>bif aP s.nm b then Z s else smLk b r
theorem vC{h:AH}{b:Nat}{a0 a1:AV}{p:Ho}:stK h b 2 0 p.cells (Z (.cells [a0,a1] J))=Z (h.put b (Z (.cells p.cells J))):=cy rfl rfl
theorem Br{h:AH}{b:Nat}{a0 a1 a2:AV}{p:Sm}:stK h b 3 0 p.cells (Z (.cells [a0,a1,a2] J))=Z (h.put b (Z (.cells p.cells J))):=cy rfl rfl
theorem aHO{h:AH}{b:Nat}{a0 a1 a2 x y z:AV}:stK h b 3 0 [x,y,z] (Z (.cells [a0,a1,a2] J))=Z (h.put b (Z (.cells [x,y,z] J))):=cy rfl rfl
theorem xS{h:AH}{hi n:Nat}{a b t:AV}{v:Value}(r:Rep h 0 hi n a t):Rep h 0 hi (n+1) (.tup [a,.val v]) (.tup [t,.val v]):=by
 have:=Rep.tup (h:=h) (lo:=0) (hi:=hi) (n:=n) (ps:=[(a,t),(.val v,.val v)]) (λp hp=>by
  simp[jd] at hp;rcases hp with rfl|rfl<;>grind [Rep.leaf,aj.val])
 grind
def sTag:ByteArray:=⟨#[116,97,103]⟩
def sVal:ByteArray:=⟨#[118,97,108]⟩
def symS(sy:List Sm)(b:ByteArray):Option (List ByteArray×ByteArray):=
 bif aP b sTag then Z ([],jE) else bif aP b sVal then Z ([oI],jE) else(smLk b sy).map λs=>(s.as.l,s.res)
theorem bCF{h:AH}{hi a o:Nat}{x z:ByteArray}(g:h.get a=Z (.cells [vS oI] J))(ha:a<hi):Rep h 0 hi 2 (.agg [vS x,.own a 0 1 1 (Z 1),vS z]) (.agg (Sm.mk x ⟨[oI],Y,Z 1⟩ z).cells):=by
 have r1:Rep h 0 hi 1 (.own a 0 1 1 (Z 1)) (.imm [vS oI] 1 (Z 1)):=Rep.own (ps:=[(vS oI,vS oI)]) (il _) ha g rfl (λp hp=>by
  grind [Rep.leaf,aj.val])
 have:=Rep.agg (h:=h) (lo:=0) (hi:=hi) (n:=1) (ps:=[(vS x,vS x),(.own a 0 1 1 (Z 1),.imm [vS oI] 1 (Z 1)),(vS z,vS z)]) (λp hp=>by
  simp[jd] at hp;rcases hp with rfl|rfl|rfl<;>grind [Rep.leaf,aj.val])
 exact this
def eqS:List ByteArray->List ByteArray->Bool
 | [],_=>J
 |k::ks,a::l=>aP k a&&eqS ks l
 |_::_,[]=>U
def hdS:List ByteArray->ByteArray
 |k::_=>k
 | []=>⟨#[]⟩
def appS(sy:List Sm)(b:ByteArray)(ks:List ByteArray):ByteArray×Int:=
 match symS sy b with
 |none=>(⟨#[]⟩,5)
 |some x=>bif aP b sTag then(bif !decide ((ks.length:Int)=1) then(⟨#[]⟩,13) else bif plainS (hdS ks) then(⟨#[]⟩,11) else(x.2,0))
  else bif !decide ((ks.length:Int)=(x.1.length:Nat)) then(⟨#[]⟩,13) else bif eqS ks x.1 then(x.2,0) else(⟨#[]⟩,11)
def filS(hs:List Ho)(b:ByteArray)(ks:List ByteArray):ByteArray×Int:=
 match jY b hs with
 |none=>(⟨#[]⟩,5)
 |some x=>bif !decide ((ks.length:Int)=(x.ps.l.length:Nat)) then(⟨#[]⟩,13) else bif eqS ks (x.ps.l.map Vr.so) then(dS,0) else(⟨#[]⟩,11)
def jN(r:ByteArray×Int):AV:=.tup [vS r.1,vI r.2]
theorem vu(r:ByteArray×Int):Tree (jN r):=Tree.two _ _
def eq2S:List ByteArray->Bool
 |a::b::_=>aP a b
 |_=>U
def jF(op:Int)(ks:List ByteArray):ByteArray×Int:=match argS op with
 |some a=>bif nM a ks then(resS op,0) else(⟨#[]⟩,11)
 |none=>bif eq2S ks then(resS op,0) else(⟨#[]⟩,11)
def mJ(Vx:Evr)(op:Int)(nm:ByteArray)(ks:List ByteArray):ByteArray×Int:=
 bif decide (op=1) then(jE,0) else bif decide (op=2) then(dS,0)
 else bif decide (op=3) then(match varS Vx.vs.l nm with|some s=>(s,0)|none=>(⟨#[]⟩,5))
 else bif decide (op=4) then appS Vx.sy.l nm ks else bif decide (op=5) then filS Vx.hs.l nm ks else jF op ks
theorem bOS{p:Pr}(h:Nb p=0)(ho:p.op=10\/p.op=11):p.ks.length=2:=by
 have hn:¬isNamed p:=by grind [isNamed]
 have:=(bIQ hn h).2.2.2.2
 grind
mutual
def Pr.sor(Vx:Evr):Pr->ByteArray×Int
 |.mk o s n ks _ _=>bif decide ((Pr.fA Vx ks).2=0) then mJ Vx o s (Pr.fA Vx ks).1 else(⟨#[]⟩,(Pr.fA Vx ks).2)
def Pr.fA(Vx:Evr):List Pr->List ByteArray×Int
 | []=>([],0)
 |k::r=>bif decide ((k.sor Vx).2=0) then(bif decide ((Pr.fA Vx r).2=0) then((k.sor Vx).1::(Pr.fA Vx r).1,0) else([],(Pr.fA Vx r).2)) else([],(k.sor Vx).2)
end
mutual
def Pr.two:Pr->Bool
 |.mk o _ _ ks _ _=>(!(decide (o=10)||decide (o=11))||decide (2<=ks.length))&&Pr.twoL ks
def Pr.twoL:List Pr->Bool
 | []=>J
 |k::r=>k.two&&Pr.twoL r
end
theorem Xk(Vx:Evr):∀l:List Pr,(Pr.fA Vx l).2=0->(Pr.fA Vx l).1.length=l.length
 | [],_=>rfl
 |k::r,h=>by
  rw[Pr.fA] at h⊢
  cases h1:decide ((k.sor Vx).2=0) with
  |false=>
   grind
  |true=>
   rw[h1] at h;rw[cond_true] at h⊢
   cases h2:decide ((Pr.fA Vx r).2=0) with
   |false=>
    grind
   |true=>
    simp[Xk Vx r (of_decide_eq_true h2)]
structure EvB (Vx:Evr):Prop where
 v:Vx.vs.l.length<2^61
 y:Vx.sy.l.length<2^61
 ya:∀x∈Vx.sy.l,x.as.l.length<2^31
 h:Vx.hs.l.length<2^61
 hp:∀x∈Vx.hs.l,x.ps.l.length<2^31
theorem aDA(Vx:Evr)(p:Pr):p.sor Vx=bif decide ((Pr.fA Vx p.ks).2=0) then mJ Vx p.op p.nm (Pr.fA Vx p.ks).1 else(⟨#[]⟩,(Pr.fA Vx p.ks).2):=by
 cases p;rfl
mutual
theorem aLM:∀p:Pr,chk Nb p=0->p.two=J
 |.mk o s n ks nl cap,h=>by
  simp[chk] at h;split at h
  ·rename_i q;rw[Pr.two,Bool.and_eq_true];refine⟨?_,aBR ks h⟩;cases ho:(decide (o=10)||decide (o=11)) with
   |false=>rfl
   |true=>
    have:o=10\/o=11:=Gr;have:=bOS (p:=.mk o s n ks nl cap) q this;have:ks.length=2:=this
    grind
  grind
theorem aBR:∀l:List Pr,jX Nb l=0->Pr.twoL l=J
 | [],_=>rfl
 |k::r,h=>by
  simp[jX] at h;split at h
  ·rename_i q;simp[Pr.twoL];exact⟨aLM k q,aBR r h⟩
  grind
end
theorem aZJ{p:Pr}(h:ckS Nb p=0):p.two=J/\p.nodes<=400/\p.depth<=40/\chk Nb p=0:=by
 grind [ckS,aLM]
noncomputable def ofS (Vx:Evr) (p:Pr):ByteArray×Int:=bif decide (ckS Nb p=0) then p.sor Vx else(⟨#[]⟩,ckS Nb p)
noncomputable def pq (Vx:Evr) (p:Pr):Int:=bif p.same zPr then 0 else bif decide ((ofS Vx p).2=0)&& !aP (ofS Vx p).1 dS then 11 else(ofS Vx p).2
def eqNs:List ByteArray->List ByteArray->Bool
 |a::l,b::r=>aP a b&&eqNs l r
 |_,_=>J
def sameN(l r:List ByteArray):Bool:=decide (l.length=r.length)&&eqNs l r
end Go.Proofs.YtmbabhlmdhghdaaGreatDoor
