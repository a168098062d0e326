/- VSolv VRfill VFln VMul VLin VLinb VLinc VLind VLine VTmq VSamf VLinf -/
import Derived.Test.YtmbabhlmdhghdaaGreatDoorN6
set_option linter.all false
open Nat renaming reduceEqDiff->rA, reduceAdd->rB, reduceMul->rC
open Int renaming reduceEq->rD, reduceLT->rE, reduceLE->rF
open Option renaming some->Z, none->Y
open Bool renaming true->J, false->U
open Bool renaming false_eq_true->A6
open List renaming append_nil->jm, drop_eq_getElem_cons->Bm, flatMap_append->Bb, mem_cons_self->ip, mem_nil_iff->jd, take_length->Ah
open Nat renaming le_refl->ij, le_succ->j5, mul_le_mul_right->jy, pow_le_pow_right->B5, zero_le->il
open Option renaming bind_some->jn, map_some->Ab
namespace Go.Proofs.YtmbabhlmdhghdaaGreatDoor
open Go Go.AM
set_option maxHeartbeats 4000000
theorem bQI{h:AH}{b:Nat}{a0 a1:AV}{p:Vr}:stK h b 2 0 p.cells (Z (.cells [a0,a1] J))=Z (h.put b (Z (.cells p.cells J))):=cy rfl rfl
theorem bHJ{h:AH}{b:Nat}{a0 a1:AV}{p:Ho}:stK h b 2 0 p.cells (Z (.cells [a0,a1] J))=Z (h.put b (Z (.cells p.cells J))):=cy rfl rfl
theorem aSB{h:AH}{b:Nat}{a0 a1 a2 a3 a4:AV}{p:So}:stK h b 5 0 p.cells (Z (.cells [a0,a1,a2,a3,a4] J))=Z (h.put b (Z (.cells p.cells J))):=cy rfl p.len
def nms(l:List Vr):List ByteArray:=l.map Vr.nm
theorem aTS{l r:List Vr}{k:Vr}{i:Nat}(h:l.drop i=k::r):(nms (l.take (i+1))).flatMap bV=(nms (l.take i)).flatMap bV++[vS k.nm]:=by
 have:l.take (i+1)=l.take i++[k]:=by
  grind
 rw[this,nms,List.map_append,Bb];rfl
theorem Kf{lo:Nat}(w:Vl Vr)(hN:w.l.length<2^29):∀(r:List Vr) (i:Nat) (s:St) (v:AV),w.l.drop i=r->i<=w.l.length->aV s.h lo i 1 v ((nms (w.l.take i)).flatMap bV)->lo<=s.h.next->s.eval (.t 9)=Z v->
  s.eval (.t 26)=Z (w.A Vr.cells)->s.eval (.t 27)=Z (vI (w.l.length:Nat))->s.eval (.t 28)=Z (vI (i:Nat))->s.defers=[]->
  Run E1 Ua s λe s'=>e=.exit 2/\(∃v',aV s'.h lo w.l.length 1 v' ((nms w.l).flatMap bV)/\s'.eval (.t 9)=Z v')/\s.h.next<=s'.h.next/\(∀x,x<lo->s'.h.get x=s.h.get x)/\s'.defers=[]/\∀j,j<28->j≠9->j≠11->s'.eval (.t j)=s.eval (.t j)
 | [],i,s,v,hd,hi,hr,hlo,h9,h26,h27,h28,hf=>by
  have hl:=ca hd hi;subst hl;rw[Ah] at hr;apply az (rfl:Ua=.loop qQ);simp only[qQ,V,tE,seval, *]
  grind
 |k::r,i,s,v,hd,hi,hr,hlo,h9,h26,h27,h28,hf=>by
  have hl:=cz hd;have hlt:=rj hl;have w1:=U204;apply az (rfl:Ua=.loop qQ);simp only[qQ,V,WF,w.at Vr.len hd,bQI,seval, *];refine bAE (k:=i) (m:=1) (lo:=lo) (v:=v) (x:=.own (s.h.next+1) 0 1 1 (Z 1)) (cs:=(nms (w.l.take i)).flatMap bV) (new:=[vS k.nm]) ?_ ?_ ?_ rfl ?_ (lR om de) ?_ ?_ ?_
  ·simp[V];exact hr.to (by show s.h.next<=s.h.next+1+1;omega) λx _ x2=>by rw[am (by show x<s.h.next+1;omega),bc om,am x2]
  ·simp[V];omega
  ·refine kl (rw':=J) ?_ rfl;simp[V]
  ·grind [aj.val]
  ·simp[V]
  ·simp[V]
  intro v1 h1 r1 n1 o1;simp[V] at n1 o1;simp only[V,seval, *];refine(Kf (lo:=lo) w hN r (i+1) _ v1 (ba hd) om ?_ ?_ ?_ ?_ ?_ ?_ ?_).mono ?_
  ·simp[V]
   grind [aTS]
  ·simp[V];omega
  ·simp[V]
  ·simp[V,h26]
  ·simp[V,h27]
  ·simp[V]
  ·simp[V,hf]
  rintro e s2 ⟨rfl,⟨v2,r2,g2⟩,n2,o2,d2,t2⟩;simp only[V] at n2 o2 t2;refine⟨rfl,⟨v2,r2,g2⟩,om,λx x1=>?_,d2,λj hj hj2 hj3=>?_⟩
  ·rw[o2 x x1,o1 x om (λh=>by have:=(hr.ids x h).1;omega)]
   grind
  ·rw[t2 j hj hj2 hj3]
   repeat rw[if_neg om]
def Pr.vl:Pr->Vl Pr|.mk _ _ _ ks nl cap=>⟨ks,nl,cap⟩
theorem Pr.vl_l(p:Pr):p.vl.l=p.ks:=by cases p;rfl
theorem Pr.vl_A(p:Pr):p.vl.A Pr.cells=p.kids:=by
 cases p
 grind [Pr.vl,Vl.A,Pr.kids,Pr.bG]
def soF(b:ByteArray):List So->Option Pr
 | []=>Y
 |s::r=>bif aP s.nm b then Z s.p else soF b r
def putR(q:Pr)(l:List ByteArray)(p:Pr):Pr:=bif p.eX then tPr else p.gi l q.ks
def lJ(q:Pr)(H:List Ho)(S:List So):Pr:=match jY q.nm H with
 |none=>tPr
 |some h=>match soF q.nm S with
  |none=>tPr
  |some p=>putR q (nms h.ps.l) p
theorem Ke{lo n:Nat}(q:Pr)(l:List ByteArray)(hln:l.length=n)(hn:n<2^61)(S:Vl So)(hS:S.l.length<2^29)(hs:∀s∈S.l,s.p.nodes<2^29)(hlo:2<=lo):∀(r:List So) (i:Nat) (s:St) (v:AV),S.l.drop i=r->i<=S.l.length->lo<=s.h.next->aV s.h lo n 1 v (l.flatMap bV)->
  s.h.get 0=Z (.cells q.cells J)->s.h.get 1=Z (.cells [vI 0,vS ⟨#[]⟩,vI 0,.val (.slice Y 0 0)] J)->
  s.eval (.t 3)=Z (.ptr 0 0)->s.eval (.t 6)=Z (.ptr 1 0)->s.eval (.t 9)=Z v->s.eval (.t 38)=Z (S.A So.cells)->s.eval (.t 39)=Z (vI (S.l.length:Nat))->s.eval (.t 40)=Z (vI (i:Nat))->s.defers=[]->
  Run E1 Tz s λe s'=>s'.defers=[]/\s'.eval (.t 6)=Z (.ptr 1 0)/\((soF q.nm r=Y/\e=.exit 4/\s'.h.get 1=Z (.cells [vI 0,vS ⟨#[]⟩,vI 0,.val (.slice Y 0 0)] J))\/(∃p,soF q.nm r=Z p/\e=.ret/\s'.h.get 1=Z (.cells (putR q l p).cells J)))
 | [],i,s,v,hd,hi,hBn,hr,g0,g1,h3,h6,h9,h38,h39,h40,hf=>by
  have hl:=ca hd hi;subst hl;apply az (rfl:Tz=.loop lX);simp[lX,V,soF, *]
 |so::r,i,s,v,hd,hi,hBn,hr,g0,g1,h3,h6,h9,h38,h39,h40,hf=>by
  have hl:=cz hd;have hlt:=rj hl;have hm:so∈S.l:=by grind [ip]
  have w1:=U204;have n0:=U252;have n1:(1=s.h.next)=False:=Gr;have hsn:so.p.nodes<2^60:=Gr;have hvd:=ug so.p om;apply az (rfl:Tz=.loop lX);cases hq:aP so.nm q.nm with
  |false=>
   simp only[lX,V,WF,S.at So.len hd,aSB,soF,seval, *];refine Ke q l hln hn S hS hs hlo r (i+1) _ v (ba hd) om ?_ ?_ ?_ ?_ ?_ ?_ ?_ ?_ ?_ ?_ ?_
   ·simp[V];omega
   ·simp[V];exact hr.to (j5 _) λx _ x2=>by grind [bc,am]
   all_goals simp only[V,↓reduceIte,rA,n0,n1,g0,g1,h3,h6,h9,h38,h39,hf]
  |true=>cases hz:so.p.eX with
   |true=>
    rw[hz] at hvd;simp only[lX,V,WF,S.at So.len hd,aSB,soF,ac hvd,ac tu,seval, *];exact .inr ⟨_,rfl,by grind [putR]⟩
   |false=>
    rw[hz] at hvd;simp only[lX,V,WF,S.at So.len hd,aSB,soF,ac hvd,seval, *];have hr1:aV ((s.h.alloc (.cells [AV.val (.string ⟨#[]⟩),vI 0,vS ⟨#[]⟩,vI 0,.val (.slice Y 0 0)] J)).put s.h.next (Z (.cells so.cells J))) lo n 1 v (l.flatMap bV):=hr.to (j5 _) λx _ x2=>by grind [bc,am]
    obtain⟨h2,f1,f2,f3,f4⟩:=tP hr1;obtain⟨h3',c1,c2⟩:=vA (E:=E1) (g:=87) (xs:=[so.p.av]) (ys:=[q.kids]) (a:=v) (t:=(so.p.gi l q.ks).av) rf (qr (Tree.pr so.p)) (qr (aj.kids q).tree) tT.tree f1 f4 (λh0=>by
     rw[uQ hln,<-q.vl_A];have:=vN ⟨l,ai,Y⟩ q.vl Gr so.p (hs so hm) h0;rw[q.vl_l] at this
     grind)
    have k1:((s.h.alloc (.cells [AV.val (.string ⟨#[]⟩),vI 0,vS ⟨#[]⟩,vI 0,.val (.slice Y 0 0)] J)).put s.h.next (Z (.cells so.cells J))).get 1=Z (.cells [vI 0,vS ⟨#[]⟩,vI 0,.val (.slice Y 0 0)] J):=by
     grind [bc,am]
    have q1:h3'.get 1=Z (.cells [vI 0,vS ⟨#[]⟩,vI 0,.val (.slice Y 0 0)] J):=by
     rcases c2 with rfl|rfl
     ·exact k1
     ·rw[f3 1 (λhv=>by have:=(hr1.ids 1 hv).1;omega),k1]
    refine gt (v:=(so.p.gi l q.ks).av) (h':=h3') ?_ ?_
    ·simp[V];exact c1
    simp only[V,WF,seval, *];exact .inr ⟨_,rfl,by grind [putR]⟩
theorem Kd(q:Pr)(H:Vl Ho)(S:Vl So)(hN:H.l.length<2^29)(hH:∀h∈H.l,h.ps.l.length<2^29)(hS:S.l.length<2^29)(hs:∀s∈S.l,s.p.nodes<2^29):∀(r:List Ho) (i:Nat) (s:St),H.l.drop i=r->i<=H.l.length->1<s.h.next->
  s.h.get 0=Z (.cells q.cells J)->s.h.get 1=Z (.cells [vI 0,vS ⟨#[]⟩,vI 0,.val (.slice Y 0 0)] J)->
  s.eval (.t 2)=Z (S.A So.cells)->s.eval (.t 3)=Z (.ptr 0 0)->s.eval (.t 6)=Z (.ptr 1 0)->s.eval (.t 14)=Z (H.A Ho.cells)->s.eval (.t 15)=Z (vI (H.l.length:Nat))->s.eval (.t 16)=Z (vI (i:Nat))->s.defers=[]->
  Run E1 Tx s λe s'=>s'.defers=[]/\s'.eval (.t 6)=Z (.ptr 1 0)/\((e=.exit 0/\jY q.nm r=Y/\s'.h.get 1=Z (.cells [vI 0,vS ⟨#[]⟩,vI 0,.val (.slice Y 0 0)] J))\/(e=.ret/\s'.h.get 1=Z (.cells (lJ q r S.l).cells J)))
 | [],i,s,hd,hi,hBn,g0,g1,h2,h3,h6,h14,h15,h16,hf=>by
  have hl:=ca hd hi;subst hl;apply az (rfl:Tx=.loop nZ);simp only[nZ,V,↓reduceIte,rA,reduceCtorEq,h6,h15,h16,hf,tE,jY,g1]
 |h::r,i,s,hd,hi,hBn,g0,g1,h2,h3,h6,h14,h15,h16,hf=>by
  have hl:=cz hd;have hlt:=rj hl;have hm:h∈H.l:=by grind [ip]
  have w1:=U204;have n0:=U252;have n1:(1=s.h.next)=False:=Gr;apply az (rfl:Tx=.loop nZ);cases hq:aP h.nm q.nm with
  |false=>
   have e1:jY q.nm (h::r)=jY q.nm r:=by grind [jY]
   have e2:lJ q (h::r) S.l=lJ q r S.l:=by grind [lJ]
   rw[e1,e2];simp only[nZ,V,↓reduceIte,rA,WF,h3,h14,h15,h16,hlt,H.at Ho.len hd,bHJ,g0,n0,hq,w1];refine Kd q H S hN hH hS hs r (i+1) _ (ba hd) om ?_ ?_ ?_ ?_ ?_ ?_ ?_ ?_ ?_ ?_
   ·exact U31
   all_goals simp only[V,↓reduceIte,rA,n0,n1,g0,g1,h2,h3,h6,h14,h15,hf]
  |true=>
   have e1:jY q.nm (h::r)=Z h:=by grind [jY]
   have e2:lJ q (h::r) S.l=(match soF q.nm S.l with|none=>tPr|some p=>putR q (nms h.ps.l) p):=by rw[lJ,e1]
   simp only[nZ,V,↓reduceIte,rA,WF,h3,h14,h15,h16,hlt,H.at Ho.len hd,bHJ,g0,n0,hq];refine(Kf (lo:=s.h.next+1) h.ps (hH h hm) h.ps.l 0 _ (.val (.slice Y 0 0)) rfl (il _) aV.nil ?_ ?_ ?_ ?_ ?_ ?_).mono ?_
   ·exact U32
   ·exact U29
   ·exact U29
   ·exact U29
   ·exact U34
   ·simp only[V,hf]
   rintro e s1 ⟨rfl,⟨v1,r1,e9⟩,m1,o1,d1,t1⟩;have m1':s.h.next+1<=s1.h.next:=by
    simp only[V] at m1;exact m1
   have k0:s1.h.get 0=Z (.cells q.cells J):=by rw[o1 0 om];simp only[V,↓reduceIte,n0,g0]
   have k1:s1.h.get 1=Z (.cells [vI 0,vS ⟨#[]⟩,vI 0,.val (.slice Y 0 0)] J):=by rw[o1 1 om];simp only[V,↓reduceIte,n1,g1]
   have e2':s1.eval (.t 2)=Z (S.A So.cells):=by rw[t1 2 de de de];simp only[V,↓reduceIte,rA,h2]
   have e3:s1.eval (.t 3)=Z (.ptr 0 0):=by rw[t1 3 de de de];simp only[V,↓reduceIte,rA,h3]
   have e6:s1.eval (.t 6)=Z (.ptr 1 0):=by rw[t1 6 de de de];simp only[V,↓reduceIte,rA,h6]
   simp only[V,↓reduceIte,WB,e2'];refine(Ke (lo:=s.h.next+1) (n:=h.ps.l.length) q (nms h.ps.l) (List.length_map _) Gr S hS hs om S.l 0 _ v1 rfl (il _) ?_ ?_ ?_ ?_ ?_ ?_ ?_ ?_ ?_ ?_ ?_).mono ?_
   ·exact U31
   ·simp only[V];exact r1
   ·simp only[V,k0]
   ·simp only[V,k1]
   ·exact U65
   ·simp only[V,↓reduceIte,rA,e6]
   ·simp only[V,↓reduceIte,rA,e9]
   ·exact U29
   ·exact U29
   ·exact U34
   ·simp only[V,d1]
   rintro e s2 ⟨d2,x6,⟨q2,rfl,g2⟩|⟨p,q2,rfl,g2⟩⟩
   ·rw[e2,q2];simp only[V,↓reduceIte,rA,reduceCtorEq,WF,x6,g2,ac tu,d2]
   ·rw[e2,q2];simp only[V,reduceCtorEq,x6,g2,d2]
theorem aDC(q:Pr)(H:Vl Ho)(S:Vl So)(hN:H.l.length<2^29)(hH:∀h∈H.l,h.ps.l.length<2^29)(hS:S.l.length<2^29)(hs:∀s∈S.l,s.p.nodes<2^29)(h:AH):aE E1 (.f 58) [q.av,H.A Ho.cells,S.A So.cells] h (lJ q H.l S.l).av h:=by
 refine sf rf bMN (yy (Tree.pr q) Tree.vl Tree.vl) (λs hs' hh hd hr=>?_) h;have h0:=hs' 0 _ rfl;have h1:=hs' 1 _ rfl;have h2:=hs' 2 _ rfl;simp[aWV,f58,V, *];refine(Kd q H S hN hH hS hs H.l 0 _ rfl (il _) ?_ ?_ ?_ ?_ ?_ ?_ ?_ ?_ ?_ ?_).mono ?_
 ·simp only[V,rB];decide
 ·rfl
 ·simp[V]
 ·simp[V,h2]
 ·simp[V]
 ·simp[V]
 ·simp[V]
 ·simp[V]
 ·simp only[V];rfl
 ·simp[V,hd]
 rintro e s1 ⟨d1,e6,⟨rfl,q2,g1⟩|⟨rfl,g1⟩⟩
 ·have e:lJ q H.l S.l=tPr:=by rw[lJ,q2]
  rw[e];simp only[V,WF,ac tu,seval, *];exact U243
 ·simp only[V, *];exact⟨_,rfl,1,de,sJ (lJ q H.l S.l).leaves⟩
def Pr.made(p:Pr)(l:List Pr):Pr:=.mk p.op p.nm p.n l ai Y
def ml(H:List Ho)(S:List So)(q:Pr):Pr:=bif decide (q.op=5) then lJ q H S else q
mutual
def Pr.dP(H:List Ho)(S:List So):Pr->Pr
 |.mk o s n ks _ _=>ml H S (.mk o s n (Pr.fH H S ks) ai Y)
def Pr.fH(H:List Ho)(S:List So):List Pr->List Pr
 | []=>[]
 |k::r=>k.dP H S::Pr.fH H S r
end
theorem Jv(H:List Ho)(S:List So):∀ks:List Pr,Pr.fH H S ks=ks.map (Pr.dP H S)
 | []=>rfl
 |k::r=>by rw[Pr.fH,Jv H S r];rfl
theorem aAS(p:Pr){F:Pr->Pr}{a1 a2:AV}(hN:p.ks.length<2^29):∀(r:List Pr) (i:Nat) (s:St) (v:AV),p.ks.drop i=r->i<=p.ks.length->(∀k∈r,∀h,aE E1 (.f 34) [k.av,a1,a2] h (F k).av h)->aV s.h 2 i 4 v (Pr.aG ((p.ks.take i).map F))->2<=s.h.next->
  s.eval (.t 1)=Z a1->s.eval (.t 2)=Z a2->s.eval (.t 3)=Z (.ptr 0 0)->s.eval (.t 6)=Z (.ptr 1 0)->s.eval (.t 7)=Z v->s.eval (.t 12)=Z p.kids->s.eval (.t 13)=Z (vI (p.ks.length:Nat))->s.eval (.t 14)=Z (vI (i:Nat))->s.defers=[]->
  Run E1 Uk s λe s'=>e=.exit 0/\s'.defers=[]/\s'.eval (.t 1)=Z a1/\s'.eval (.t 2)=Z a2/\s'.eval (.t 3)=Z (.ptr 0 0)/\s'.eval (.t 6)=Z (.ptr 1 0)/\2<=s'.h.next/\(∀x,x<2->s'.h.get x=s.h.get x)/\∃v',s'.eval (.t 7)=Z v'/\aV s'.h 2 (p.ks.map F).length 4 v' (Pr.aG (p.ks.map F))
 | [],i,s,v,hd,hi,hc,hr,hn,h1,h2,h3,h6,h7,h12,h13,h14,hf=>by
  have hl:=ca hd hi;subst hl;rw[Ah] at hr;apply az (rfl:Uk=.loop qm);simp only[qm,V,↓reduceIte,rA,h1,h2,h3,h6,h7,h13,h14,hf,tE]
  grind
 |k::r,i,s,v,hd,hi,hc,hr,hn,h1,h2,h3,h6,h7,h12,h13,h14,hf=>by
  have hl:=cz hd;have hlt:=rj hl;have w1:=U204;apply az (rfl:Uk=.loop qm);simp only[qm,V,↓reduceIte,rA,WF,h1,h2,h7,h12,h13,h14,hlt,wq p i k r hd,cf k.len,ac (hc k ip),sX];refine uo (k:=i) (m:=1) (lo:=2) (v:=v) (x:=.own (s.h.next+1) 0 1 4 (Z 1)) (cs:=Pr.aG ((p.ks.take i).map F)) (new:=(F k).cells) ?_ ?_ ?_ de (by rw[(F k).len]) (F k).leaves (lR om de) ?_ ?_ ?_
  ·exact U37
  ·exact U31
  ·refine kl (rw':=J) ?_ (by rw[(F k).len])
   exact U33
  ·exact U29
  ·exact U33
  intro h2' r2 n2 o2;simp only[V] at n2 o2 r2;simp only[V,↓reduceIte,rA,h14,w1];refine(aAS p hN r (i+1) _ (.own (s.h.next+1+1) 0 (i+1) 4 Y) (ba hd) om (λk' hk'=>hc k' (List.mem_cons_of_mem _ hk')) ?_ ?_ ?_ ?_ ?_ ?_ ?_ ?_ ?_ ?_ ?_).mono ?_
  ·simp only[V]
   grind [pl]
  ·exact U31
  all_goals try simp only[V,↓reduceIte,rA,h1,h2,h3,h6,h12,h13,hf]
  rintro e s2 ⟨rfl,d2,e1,e2,e3,e6,n3,o3,v2,e7,r3⟩;refine⟨rfl,d2,e1,e2,e3,e6,n3,λx hx=>?_,v2,e7,r3⟩;exact U123
theorem aDL(p:Pr)(H:Vl Ho)(S:Vl So)(F:Pr->Pr)(hp:p.ks.length<2^29)(hN:H.l.length<2^29)(hH:∀h∈H.l,h.ps.l.length<2^29)(hS:S.l.length<2^29)(hs:∀s∈S.l,s.p.nodes<2^29)(hc:∀k∈p.ks,∀h,aE E1 (.f 34) [k.av,H.A Ho.cells,S.A So.cells] h (F k).av h)(h:AH):
  aE E1 (.f 34) [p.av,H.A Ho.cells,S.A So.cells] h (ml H.l S.l (p.made (p.ks.map F))).av h:=by
 refine sf rf bND (yy (Tree.pr p) Tree.vl Tree.vl) (λs hs' hh hd hr=>?_) h;have h0:=hs' 0 _ rfl;have h1:=hs' 1 _ rfl;have h2:=hs' 2 _ rfl;simp[aXT,f34,V, *];refine(aAS p (F:=F) (a1:=H.A Ho.cells) (a2:=S.A So.cells) hp p.ks 0 _ (.val (.slice Y 0 0)) rfl (il _) hc aV.nil ?_ ?_ ?_ ?_ ?_ ?_ ?_ ?_ ?_ ?_).mono ?_
 ·simp only[V,rB];decide
 ·simp[V,h1]
 ·simp[V,h2]
 ·simp[V]
 ·simp[V]
 ·simp[V]
 ·simp[V]
 ·simp[V]
 ·simp only[V];rfl
 ·simp[V,hd]
 rintro e s1 ⟨rfl,d1,e1,e2,e3,e6,n1,o1,v,e7,r1⟩;have q0:s1.h.get 0=Z (.cells p.cells J):=by rw[o1 0 de];rfl
 have q1:s1.h.get 1=Z (.cells [vI 0,vS ⟨#[]⟩,vI 0,.val (.slice Y 0 0)] J):=by rw[o1 1 de];simp[V]
 obtain⟨h2',c,n2,o2⟩:=Wv (p:=p) s1.h r1;have k1:=(o2 1 de).trans q1;have k0:=(o2 0 de).trans q0;have m0:(0=h2'.next)=False:=Gr;have m1:(1=h2'.next)=False:=Gr;have lz:=U260;have lq:=(Pr.mk p.op p.nm p.n (p.ks.map F) ai Y).len;simp[V, *];refine gt (by simp only[V];exact c) ?_
 cases ho:decide (p.op=5) with
 |false=>
  have e:ml H.l S.l (p.made (p.ks.map F))=.mk p.op p.nm p.n (p.ks.map F) ai Y:=by rw[ml,show(p.made (p.ks.map F)).op=p.op from rfl,ho];rfl
  rw[e];simp only[V,WF,e3,e6,k0,k1,m0,m1,d1,ho,cy lz lq,cf lq,seval];exact U277
 |true=>
  have e:ml H.l S.l (p.made (p.ks.map F))=lJ (.mk p.op p.nm p.n (p.ks.map F) ai Y) H.l S.l:=by rw[ml,show(p.made (p.ks.map F)).op=p.op from rfl,ho];rfl
  rw[e];have lr:=(lJ (.mk p.op p.nm p.n (p.ks.map F) ai Y) H.l S.l).len;simp only[V,WF,e1,e2,e3,e6,k0,k1,m0,m1,d1,ho,cy lz lq,cf lq,ac (aDC (.mk p.op p.nm p.n (p.ks.map F) ai Y) H S hN hH hS hs),cy lz lr,cf lr,seval];exact⟨_,rfl,1,de,sJ (lJ (.mk p.op p.nm p.n (p.ks.map F) ai Y) H.l S.l).leaves⟩
mutual
theorem wB(H:Vl Ho)(S:Vl So)(hN:H.l.length<2^29)(hH:∀h∈H.l,h.ps.l.length<2^29)(hS:S.l.length<2^29)(hs:∀s∈S.l,s.p.nodes<2^29):∀(p:Pr),p.nodes<2^29->∀h,aE E1 (.f 34) [p.av,H.A Ho.cells,S.A So.cells] h (p.dP H.l S.l).av h
 |.mk o s n ks nl cap,hb,h=>by
  have hb':=U237;have hk:=U198;have:=aDL (.mk o s n ks nl cap) H S (Pr.dP H.l S.l) (by show ks.length<_;omega) hN hH hS hs (xj H S hN hH hS hs ks om) h
  rw[show(Pr.mk o s n ks nl cap).dP H.l S.l=ml H.l S.l (.mk o s n (Pr.fH H.l S.l ks) ai Y) by rfl,Jv]
  exact this
theorem xj(H:Vl Ho)(S:Vl So)(hN:H.l.length<2^29)(hH:∀h∈H.l,h.ps.l.length<2^29)(hS:S.l.length<2^29)(hs:∀s∈S.l,s.p.nodes<2^29):∀(l:List Pr),Pr.aI l<2^29->∀k∈l,∀h,aE E1 (.f 34) [k.av,H.A Ho.cells,S.A So.cells] h (k.dP H.l S.l).av h
 | [],_,k,hk,_=>by cases hk
 |p::r,hb,k,hk,h=>by
  have hb':=U238;rcases U201 with e|hk
  ·have:=wB H S hN hH hS hs p om h
   grind
  ·exact xj H S hN hH hS hs r om k hk h
end
mutual
theorem aHK(l:List ByteArray)(bys:List Pr){B:Nat}(h1:1<=B)(hb:∀q∈bys,q.nodes<=B):∀p:Pr,(p.gi l bys).nodes<=p.nodes*B
 |.mk o s n ks a b=>by
  have e:=U299;rw[e,Nat.add_mul,Nat.one_mul,Pr.gi];cases h:dx o s l bys with
  |none=>
   have:=Xe l bys h1 hb ks;show 1+Pr.aI (Pr.jA l bys ks)<=_;omega
  |some q=>
   grind [Nx]
theorem Xe(l:List ByteArray)(bys:List Pr){B:Nat}(h1:1<=B)(hb:∀q∈bys,q.nodes<=B):∀ks:List Pr,Pr.aI (Pr.jA l bys ks)<=Pr.aI ks*B
 | []=>il _
 |k::r=>by
  have e1:=aHK l bys h1 hb k;have e2:=Xe l bys h1 hb r;have e3:Pr.aI (Pr.jA l bys (k::r))=(k.gi l bys).nodes+Pr.aI (Pr.jA l bys r):=rfl;have e4:=U300
  grind [Nat.add_mul]
end
theorem aHP{b:ByteArray}:∀{S:List So} {p:Pr},soF b S=Z p->∃s∈S,s.p=p
 | [],p,h=>by cases h
 |s::r,p,h=>by
  rw[soF] at h;cases hq:aP s.nm b with
  |true=>
   grind
  |false=>
   rw[hq] at h;obtain⟨t,ht,e⟩:=aHP (S:=r) h
   grind
theorem yL{k:Pr}:∀{l:List Pr},k∈l->k.nodes<=Pr.aI l
 | [],h=>by cases h
 |p::r,h=>by
  have e:=U298;rw[e];rcases List.mem_cons.1 h with rfl|h
  ·omega
  ·have:=yL h;omega
theorem bBS{q:Pr}{H:List Ho}{S:List So}(hS:∀s∈S,s.p.nodes<=60):(lJ q H S).nodes<=60*(1+Pr.aI q.ks):=by
 have t1:tPr.nodes=1:=rfl;unfold lJ;cases jY q.nm H with
 |none=>grind
 |some h=>
  cases hs:soF q.nm S with
  |none=>grind
  |some p=>
   obtain⟨s,hs',rfl⟩:=aHP hs;have h6:=hS s hs';show(putR q (nms h.ps.l) s.p).nodes<=_;unfold putR;cases s.p.eX with
   |true=>grind
   |false=>
    have:=aHK (nms h.ps.l) q.ks (B:=1+Pr.aI q.ks) om (λk hk=>by have:=yL hk;omega) s.p
    exact Nat.le_trans this (jy _ h6)
mutual
theorem aAH{H:List Ho}{S:List So}(hS:∀s∈S,s.p.nodes<=60):∀p:Pr,(p.dP H S).nodes<=61^p.nest*p.nodes
 |.mk o s n ks a b=>by
  have ih:=Ov hS ks (H:=H);have e1:=U299;have e2:(Pr.mk o s n ks a b).nest=Pr.eY ks+(bif decide (o=5) then 1 else 0):=rfl;have e3:(Pr.mk o s n ks a b).dP H S=ml H S (.mk o s n (Pr.fH H S ks) ai Y):=rfl;have p1:1<=61^Pr.eY ks:=Gr;rw[e1,e2,e3];unfold ml
  by_cases ho:o=5
  ·have d:decide ((Pr.mk o s n (Pr.fH H S ks) ai Y).op=5)=J:=decide_eq_true ho;rw[d,decide_eq_true ho,cond_true,cond_true,Nat.pow_succ];have:=bBS (q:=.mk o s n (Pr.fH H S ks) ai Y) (H:=H) hS;have e4:(Pr.mk o s n (Pr.fH H S ks) ai Y).ks=Pr.fH H S ks:=rfl
   grind
  ·have d:decide ((Pr.mk o s n (Pr.fH H S ks) ai Y).op=5)=U:=decide_eq_false ho;rw[d,decide_eq_false ho,cond_false,cond_false,Nat.add_zero,Nat.mul_add,Nat.mul_one];show 1+Pr.aI (Pr.fH H S ks)<=_;omega
theorem Ov{H:List Ho}{S:List So}(hS:∀s∈S,s.p.nodes<=60):∀ks:List Pr,Pr.aI (Pr.fH H S ks)<=61^Pr.eY ks*Pr.aI ks
 | []=>il _
 |k::r=>by
  have h1:=aAH hS k (H:=H);have h2:=Ov hS r (H:=H);have e1:Pr.aI (Pr.fH H S (k::r))=(k.dP H S).nodes+Pr.aI (Pr.fH H S r):=rfl;have e2:=U300;have e3:Pr.eY (k::r)=max k.nest (Pr.eY r):=rfl;rw[e1,e2,e3,Nat.mul_add];have h3:61^k.nest*k.nodes<=61^max k.nest (Pr.eY r)*k.nodes:=by simp[jy,B5,Nat.le_max_left]
  have h4:61^Pr.eY r*Pr.aI r<=61^max k.nest (Pr.eY r)*Pr.aI r:=by simp[jy,B5,Nat.le_max_right]
  omega
end
theorem aIL{H:List Ho}{S:List So}(hS:∀s∈S,s.p.nodes<=60){p:Pr}(hn:p.nest<=2)(hb:p.nodes<=20):(p.dP H S).nodes<=100000:=by
 have h1:=aAH hS p (H:=H);have h2:61^p.nest<=61^2:=B5 de hn;have h3:61^p.nest*p.nodes<=61^2*20:=Nat.mul_le_mul h2 hb;omega
def ab(n:Int):Int:=if 0<=n then n else 0-n
theorem bOQ(n:Int):ab n=(n.natAbs:Int):=by
 grind [ab]
theorem bOR(a b:Int):ab (a*b)=ab a*ab b:=by
 grind [bOQ,Int.natAbs_mul]
theorem bTF(n:Int):inB n=J↔ab n<=1000000000000:=by
 grind [uj,ab]
theorem aHI{n:Int}(h:n≠0):0<ab n:=by
 grind [ab]
theorem bKX{a b:Int}(h:a≠0):ab b<=1000000000000/ab a↔inB (a*b)=J:=by
 grind [bTF,bOR,Int.le_ediv_iff_mul_le,aHI]
theorem bDF{a b:Int}(h:b≠0):ab a<=1000000000000/ab b↔inB (a*b)=J:=by
 grind [bKX]
theorem bQR{n:Int}(h:n≠0)(hn:inB n=J):IntKind.i64.wrap (Int.tdiv 1000000000000 (ab n))=1000000000000/ab n:=by
 have hp:=aHI h;rw[Int.tdiv_eq_ediv_of_nonneg om];exact Gw (by have:=Int.ediv_nonneg (a:=1000000000000) (b:=ab n) om om;omega) (by have:=Int.ediv_le_self (a:=1000000000000) (ab n) om;omega)
theorem Dw(a b:Int)(h:AH):aE E1 (.f 209) [vI a,vI b] h (prA (arith a b (a*b))) h:=by
 refine eK rf rf (sE (Tree.val _) (Tree.val _)) rfl (Tree.two _ _) (bTD (rs:=[vI ((arith a b (a*b)).1),Vb ((arith a b (a*b)).2)]) bEQ ?_) h;have h0:(bg [vI a,vI b] 0 .nil).get 0=Z (vI a):=rfl;have h1:(bg [vI a,vI b] 0 .nil).get 1=Z (vI b):=rfl;have i0:inB 0=J:=rfl;cases x:inB a with
 |false=>simp[fS,f209,V,sC h0,sZ,x,arith]
 |true=>cases y:inB b with
  |false=>simp[fS,f209,V,sC h0,sC h1,sZ,arith, *]
  |true=>
   by_cases a0:a=0
   ·subst a0;simp[fS,f209,V,sC h0,sC h1,sZ,arith,okP, *]
   ·by_cases b0:b=0
    ·subst b0;simp[fS,f209,V,sC h0,sC h1,sZ,arith,okP, *]
    ·have hna:ab b≠0:=by have:=aHI b0;omega
     have hq:=bQR b0 y;have hm:=bDF (a:=a) b0;obtain⟨W,hW⟩:∃W,IntKind.i64.wrap (a*b)=W:=⟨_,rfl⟩;have wa:IntKind.i64.wrap (0-a)=0-a:=by grind [uj,Gw]
     have wb:IntKind.i64.wrap (0-b)=0-b:=by grind [uj,Gw]
     have hv:=λ(P:Program) (t:TypeId) (g:Bool)=>Nh (P:=P) (t:=t) (g:=g) (k:=.i64) (a:=1000000000000) hna;rw[hq] at hv;generalize hQ:1000000000000/ab b=Q at*;have zz:∀z:Bool,inB (a*b)=z->(z=J->W=a*b)/\decide (Q<ab a)= !z:=by
      grind [uj,Gw]
     obtain⟨z1,z2⟩:=zz _ rfl;have ga:ab a=a\/ab a=0-a/\a<0:=by grind [ab]
     have gb:ab b=b\/ab b=0-b/\b<0:=by grind [ab]
     by_cases sa:a<0
     ·have eqa:ab a=0-a:=by simp_all [ab,if_neg]
      by_cases sb:b<0
      ·exact U39
      ·have eqb:ab b=b:=by grind
       rw[eqa] at z2;rw[eqb] at hv;cases z:inB (a*b) with
       |false=>rw[z] at z2;simp only[fS,f209,V,sC h0,sC h1,sZ,arith,okP,seval, *]
       |true=>rw[z] at z2;simp only[fS,f209,V,sC h0,sC h1,sZ,arith,okP,seval, *]
     ·have eqa:ab a=a:=by grind
      by_cases sb:b<0
      ·exact U39
      ·have eqb:ab b=b:=by grind
       rw[eqa] at z2;rw[eqb] at hv;cases z:inB (a*b) with
       |false=>rw[z] at z2;simp[fS,f209,V,sC h0,sC h1,sZ,arith,okP, *]
       |true=>rw[z] at z2;simp only[fS,f209,V,↓reduceIte,rA,reduceCtorEq,sC h0,sC h1,sZ,x,y,z,a0,b0,sa,sb,hv,z2,hW,z1 z,arith,okP]
theorem yi(n:Int)(hn:inB n=J)(h:AH):aE E1 (.f 166) [vI n] h (vI (n.natAbs:Nat)) h:=by
 refine s5 rf bEW (qr (Tree.val _)) rfl (Tree.val _) (λs hs hh hd hr=>?_) h;have h0:=hs 0 _ rfl;have hb:=uj.1 hn;have e1:decide (n= -9223372036854775808)=U:=Gr
 by_cases a:n<0
 ·have e2:decide (n<0)=J:=by grind
  have w:IntKind.i64.wrap (0-n)=(n.natAbs:Int):=by grind [Gw]
  simp only[Uz,f166,V,seval, *]
 ·have e2:decide (n<0)=U:=by grind
  have w:n=(n.natAbs:Int):=om;simp only[Uz,f166,V,h0,hd,e1,e2,seval];rw[<-w]
theorem Qd:∀(m b a:Nat) (s:St),b<=m->s.eval (.t 0)=Z (vI (a:Nat))->s.eval (.t 1)=Z (vI (b:Nat))->s.defers=[]->
  Run E1 pG s λe s'=>e=.exit 0/\s'.defers=[]/\s'.eval (.t 0)=Z (vI (Nat.gcd a b:Nat))
 |m,0,a,s,hm,h0,h1,hf=>by
  apply az (rfl:pG=.loop mF);have e:decide (0<((0:Nat):Int))=U:=rfl;simp[mF,V, *]
 |0,b+1,a,s,hm,h0,h1,hf=>om
 |m+1,b+1,a,s,hm,h0,h1,hf=>by
  have e:decide (0<((b+1:Nat):Int))=J:=Gr;have q:∀(P:Program) (t:TypeId) (g:Bool),dM P .rem t g (vI (a:Nat)) (vI (b+1:Nat))=Z (vI (a%(b+1):Nat)):=by grind [aRG]
  have hlt:a%(b+1)<b+1:=by simp[Nat.mod_lt]
  apply az (rfl:pG=.loop mF);simp only[mF,V,seval, *];refine(Qd m (a%(b+1)) (b+1) _ om ?_ ?_ ?_).mono ?_
  all_goals try simp only[V,↓reduceIte,reduceCtorEq,hf]
  rintro e s2 ⟨rfl,d2,e2⟩;refine⟨rfl,d2,?_⟩
  grind [Nat.gcd_comm,Nat.gcd_rec]
theorem Ee(a b:Int)(ha:inB a=J)(hb:inB b=J)(h:AH):aE E1 (.f 131) [vI a,vI b] h (vI (Nat.gcd a.natAbs b.natAbs:Nat)) h:=by
 refine s5 rf bFL (sE (Tree.val _) (Tree.val _)) rfl (Tree.val _) (λs hs hh hd hr=>?_) h;have h0:=hs 0 _ rfl;have h1:=hs 1 _ rfl;simp[aKF,f131,V,ac (yi a ha),ac (yi b hb), *];refine(Qd _ b.natAbs a.natAbs _ (ij _) ?_ ?_ ?_).mono ?_
 all_goals try simp only[V,↓reduceIte,reduceCtorEq,hd]
 rintro e s2 ⟨rfl,d2,e2⟩;simp[V, *]
set_option maxRecDepth 10000
theorem tI{g:Nat}{l:List AV}{a:ax}{P:AV->Prop}(hs:hY g=J)(hf:aR Tryz.prog g=Z a)(hl:∀v∈l,Tree v)
  (H:∀s:St,(∀i v,(bg l 0 .nil).get i=Z v->s.eval (.t i)=Z v)->s.h=.empty->s.defers=[]->s.round=Y->wp E1 a.body s λe s=>(e=.normal\/e=.ret)/\s.defers=[]/\∃rs,ay E1.aY s a.res=Z rs/\∃t n,n<1000/\Rep s.h 0 s.h.next n (bQ rs) t/\P t):
  ∃t,P t/\∀h,aE E1 (.f g) l h t h:=by
 obtain⟨v,h',⟨t,n,hn,hr,hp⟩,hrun⟩:=yS (g:=g) (l:=l) (h:=.empty) (a:=a) (λv h'=>∃t n,n<1000/\Rep h' 0 h'.next n v t/\P t) hf λs h1 h2 h3 h4=>(rU _ _ _ (H s h1 h2 h3 h4)).mono λe s' ⟨k1,k2,rs,k3,k4⟩=>⟨k1,k2,rs,k3,k4⟩;exact⟨t,hp,λh=>Lb (eJ hs) (vH hs _) hl hrun hr (Nat.lt_trans hn de) h⟩
structure Tm where
 nm:ByteArray
 c:Int
def Tm.cells(x:Tm):List AV:=[vS x.nm,vI x.c]
theorem Tm.len(x:Tm):x.cells.length=2:=rfl
theorem Tm.leaves(x:Tm):∀v∈x.cells,aj v:=λv hv=>by
 simp[Tm.cells] at hv;rcases hv with rfl|rfl<;>exact aj.val _
structure Ln where
 ts:Vl Tm
 k:Int
def Ln.cells(x:Ln):List AV:=[x.ts.A Tm.cells,vI x.k]
theorem Ln.len(x:Ln):x.cells.length=2:=rfl
theorem Ln.leaves(x:Ln):∀v∈x.cells,aj v:=λv hv=>by
 simp[Ln.cells] at hv;rcases hv with rfl|rfl<;>simp[Vl.leaf,aj.val]
theorem Ln.bM(x:Ln):aQ x.cells=[]:=rX x.leaves
theorem Ln.ah(x:Ln):ids (.agg x.cells)=[]:=x.bM
theorem Tree.ln(x:Ln):Tree (.agg x.cells):=Tree.agg x.leaves
theorem aRQ{x:Ln}{l:List AV}:takeN (Z 2) (x.cells++l)=Z (.agg x.cells):=tv x.len
def tmOk(x:Tm):Prop:=x.nm.size<=400/\x.c≠0/\inB x.c=J
structure LnOk (x:Ln):Prop where
 n:x.ts.l.length<=24
 t:∀y∈x.ts.l,tmOk y
 k:inB x.k=J
theorem bJN(a b:ByteArray):∃x,∀(P:Program) (t:TypeId) (g:Bool),dM P .leq t g (vS a) (vS b)=Z (Vb x):=⟨_,λ_ _ _=>by simp only[dM,m7,Ab];rfl⟩
theorem aRF(a b:ByteArray):∃x,∀(P:Program) (t:TypeId) (g:Bool),dM P .lss t g (vS a) (vS b)=Z (Vb x):=⟨_,λ_ _ _=>by simp only[dM,m7,Ab];rfl⟩
theorem aPS{α:Type}{l:List α}{j:Nat}{y:α}{r:List α}(h:l.drop (j+1)=y::r):∃z,l.drop j=z::y::r:=by
 have hl:j<l.length:=by
  have:=congrArg List.length h
  grind
 simp_all [Bm]
theorem aBE(x:Ln){y:Tm}{r:List Tm}{i C:Nat}{s:St}(hN:x.ts.l.length<=24)(hd:x.ts.l.drop i=y::r)(hn:0<s.h.next)(hC:C<s.h.next)(g0:s.h.get 0=Z (.cells x.cells J))(gC:s.h.get C=Z (.cells [vS y.nm,vI y.c] J))(h1:s.eval (.t 1)=Z (.ptr 0 0))(h3:s.eval (.t 3)=Z (vI (i:Nat)))(h4:s.eval (.t 4)=Z (.ptr C 0)):
  Run E1 aKM s λe s'=>e=.normal/\s'.h=s.h/\s'.defers=s.defers/\(∃q:Bool,s'.eval (.t 41)=Z (Vb q))/\∀j,j<9->s'.eval (.t j)=s.eval (.t j):=by
 have c0:=U301;have k0:∀o,aN s.h (Z (.ptr 0 o))=J:=λo=>bm hn g0 x.bM;have kC:∀o,aN s.h (Z (.ptr C o))=J:=λo=>bm hC gC rfl;have hl:=cz hd;refine pb rfl ?_
 cases i with
 |zero=>
  have e0:decide (0<((0:Nat):Int))=U:=rfl;simp only[Vs,X0,X1,X3,X4,V,rA, *];exact U126
 |succ j=>
  have e0:decide (0<((j+1:Nat):Int))=J:=Gr;have w:IntKind.i64.wrap (((j+1:Nat):Int)-1)=(j:Int):=by
   grind [sP]
  obtain⟨z,hz⟩:=aPS hd;have hix:aX 2 (x.ts.A Tm.cells) j=Z (.bD (vS z.nm:: vI z.c::(y::r).flatMap Tm.cells)):=x.ts.at Tm.len hz;obtain⟨q,hq⟩:=bJN y.nm z.nm;simp only[Vs,X0,X1,X3,X4,V,an Vl.ids,seval, *];exact U126
theorem Qe(x:Ln)(hN:x.ts.l.length<=24):∀(r:List Tm) (i:Nat) (s:St),x.ts.l.drop i=r->i<=x.ts.l.length->(∀y∈x.ts.l.take i,tmOk y)->0<s.h.next->s.h.get 0=Z (.cells x.cells J)->
  s.eval (.t 1)=Z (.ptr 0 0)->s.eval (.t 3)=Z (vI (i:Nat))->s.defers=[]->
  Run E1 pK s λe s'=>s'.defers=[]/\((e=.exit 0/\(∀y∈x.ts.l,tmOk y)/\s'.eval (.t 1)=Z (.ptr 0 0)/\s'.h.get 0=Z (.cells x.cells J))\/(e=.ret/\∃z:Int,s'.eval (.t 2)=Z (vI z)/\z≠0))
 | [],i,s,hd,hi,hk,hn,g0,h1,h3,hf=>by
  have hl:=ca hd hi;subst hl;have c0:=U301;apply az (rfl:pK=.loop gJ);simp only[gJ,V,tE,seval, *]
  grind
 |y::r,i,s,hd,hi,hk,hn,g0,h1,h3,hf=>by
  have hl:=cz hd;have hlt:=rj hl;have w1:=U204;have c0:=U301;have hix:=U302;have htk:∀l:List AV,takeN (Z 2) (vS y.nm:: vI y.c::l)=Z (.agg [vS y.nm,vI y.c]):=λl=>rfl;have hst:∀(h:AH) b (u w:AV),stK h b 2 0 [vS y.nm,vI y.c] (Z (.cells [u,w] J))=Z (h.put b (Z (.cells [vS y.nm,vI y.c] J))):=λh b u w=>cy rfl rfl;have n0:=U297;have n0':¬s.h.next=0:=om;have hls:mA (vS y.nm)=Z (vI (y.nm.size:Nat)):=su;have c1:cfB (Z (.cells [vS y.nm,vI y.c] J)) 1=Z [vI y.c]:=rfl;apply az (rfl:pK=.loop gJ);cases hA:aP y.nm ⟨#[]⟩ with
  |true=>
   simp only[gJ,V,WF,h1,h3,hf,g0,c0,hlt,hix,htk,hst,hA,seval]
   grind
  |false=>
   by_cases hB:400<y.nm.size
   ·have dB:decide (400<((y.nm.size:Nat):Int))=J:=by grind
    simp only[gJ,V,WF,h1,h3,hf,g0,c0,hlt,hix,htk,hst,hA,dB,hls,seval]
    grind
   ·have dB:decide (400<((y.nm.size:Nat):Int))=U:=by grind
    by_cases hC:y.c=0
    ·have dC:decide (y.c=0)=J:=by grind
     simp only[gJ,V,WF,h1,h3,hf,g0,c0,hlt,hix,htk,hst,hA,dB,hls,dC,c1,seval]
     grind
    ·have dC:decide (y.c=0)=U:=by grind
     cases hD:inB y.c with
     |false=>
      simp only[gJ,V,WF,h1,h3,hf,g0,c0,hlt,hix,htk,hst,hA,dB,hls,dC,c1,sZ,hD,seval]
      grind
     |true=>
      have kx:∀(h:AH) o,0<h.next->h.get 0=Z (.cells x.cells J)->aN h (Z (.ptr 0 o))=J:=λh o q1 q2=>bm q1 q2 (rX x.leaves);simp only[gJ,V,WF,sZ,seval, *];refine(aBE (C:=s.h.next) x hN hd ?_ ?_ ?_ ?_ ?_ ?_ ?_).mono ?_
      all_goals try simp only[V,↓reduceIte,rA,h1,h3,n0,g0]
      ·omega
      ·grind
      rintro e s1 ⟨rfl,eh,d1,⟨q,e41⟩,k1⟩
      try simp[hf] at eh d1
      have u1:s1.eval (.t 1)=Z (.ptr 0 0):=Gr;have u3:s1.eval (.t 3)=Z (vI (i:Nat)):=Gr;cases q with
      |true=>
       simp only[V,e41,d1,seval]
       grind
      |false=>
       simp only[V, *];refine Qe x hN r (i+1) _ (ba hd) om (λz hz=>?_) ?_ ?_ ?_ ?_ ?_
       all_goals try simp only[V,↓reduceIte,rA,u1,d1]
       ·rw[List.take_add_one,List.getElem?_eq_getElem hl] at hz;rcases List.mem_append.1 hz with hz|hz
        ·grind
        ·have e:=Bm hl;rw[hd] at e;simp[List.mem_singleton] at hz;injection e with e1 e2;rw[hz,<-e1];exact⟨om,hC,hD⟩
       ·simp[*]
       grind [bc,am]
theorem sU(x:Ln):∃z:Int,(z=0->LnOk x)/\∀h,aE E1 (.f 129) [.agg x.cells] h (vI z) h:=by
 obtain⟨t,⟨z,rfl,hz⟩,hc⟩:=tI (g:=129) (l:=[.agg x.cells]) (P:=λt=>∃z:Int,t=vI z/\(z=0->LnOk x)) rf bFN (qr (Tree.ln x)) λs hs hh hd hr=>by
  have h0:=hs 0 _ rfl;have c0:=U301;have c1:=U303
  by_cases hN:x.ts.l.length<=24
  ·have dN:decide (24<((x.ts.l.length:Nat):Int))=U:=by grind
   simp[Vt,f129,V, *];refine(Qe x hN x.ts.l 0 _ rfl (il _) (λy hy=>by cases hy) ?_ ?_ ?_ ?_ ?_).mono ?_
   all_goals try simp only[V,↓reduceIte,rA,hd]
   ·decide
   ·rfl
   rintro e s1 ⟨d1,⟨rfl,ok,u1,g0⟩|⟨rfl,z,e2,hz⟩⟩
   ·cases hk:inB x.k with
    |false=>
     simp only[V,WF,sZ, *];exact⟨_,rfl,_,0,de,Rep.leaf (aj.val _),2,rfl,λq=>by cases q⟩
    |true=>
     simp only[V,WF,sZ, *];exact⟨_,rfl,_,0,de,Rep.leaf (aj.val _),0,rfl,λ_=>⟨hN,ok,hk⟩⟩
   ·simp only[V, *];exact⟨_,rfl,_,0,de,Rep.leaf (aj.val _),z,rfl,λq=>absurd q hz⟩
  ·have dN:decide (24<((x.ts.l.length:Nat):Int))=J:=by grind
   simp only[Vt,f129,V,seval, *];exact⟨_,rfl,_,0,de,Rep.leaf (aj.val _),7,rfl,λq=>by cases q⟩
 exact⟨z,hz,hc⟩
theorem rg{h:AH}{b o:Nat}{l:List AV}{rw:Bool}(hb:b<h.next)(g:h.get b=Z (.cells l rw))(hv:below h.next (aQ l)=J):aN h (Z (.ptr b o))=J:=by
 have h1:=U190
 grind [aN,fK,ids,hE]
theorem vt{h:AH}{lo k es:Nat}{v w:AV}{cs:List AV}(r:bn h lo k es v cs)(hw:ids w=[]):below h.next (aQ [v,w])=J:=by
 rw[aQ,aQ,aQ,hw,jm,jm];exact r.below
theorem Qc(x:Ln)(ok:LnOk x):∀(r:List Tm) (i:Nat) (s:St) (g:Nat),x.ts.l.drop i=r->i<=x.ts.l.length->g<=1000000000000->(0<i->0<g)->s.h.get 0=Z (.cells x.cells J)->
  s.eval (.t 1)=Z (.ptr 0 0)->s.eval (.t 3)=Z (vI (g:Nat))->s.eval (.t 4)=Z (vI (i:Nat))->s.defers=[]->
  Run E1 oS s λe s'=>e=.exit 0/\s'.defers=[]/\∃g:Nat,s'.eval (.t 3)=Z (vI (g:Nat))/\g<=1000000000000/\(0<x.ts.l.length->0<g)
 | [],i,s,g,hd,hi,hg,hp,g0,h1,h3,h4,hf=>by
  have hl:=ca hd hi;subst hl;have c0:=U301;apply az (rfl:oS=.loop mV);simp-implicitDefEqProofs only[mV,V,↓reduceIte,rA,h1,h3,h4,hf,g0,c0,tE]
  grind
 |y::r,i,s,g,hd,hi,hg,hp,g0,h1,h3,h4,hf=>by
  have hl:=cz hd;have hN:=ok.n;have hlt:=rj hl;have w1:=U204;have c0:=U301;have hix:=U302;obtain⟨_,yc,yb⟩:=ok.t y (List.mem_of_mem_drop (i:=i) Gr);have hb:=uj.1 yb;have hgb:inB (g:Nat)=J:=uj.2 om;have hcall:=Ee (g:Nat) y.c hgb yb;have g1:Nat.gcd (g:Int).natAbs y.c.natAbs<=y.c.natAbs:=Nat.gcd_le_right _ om;have g2:0<Nat.gcd (g:Int).natAbs y.c.natAbs:=Gr;have hfa:=U304;apply az (rfl:oS=.loop mV);simp-implicitDefEqProofs only[mV,V,↓reduceIte,rA,h1,h3,h4,g0,c0,hlt,hix,hfa,ac hcall,w1];refine Qc x ok r (i+1) _ _ (ba hd) om (by omega:Nat.gcd (g:Int).natAbs y.c.natAbs<=_) (λ_=>g2) ?_ ?_ ?_ ?_ ?_
  all_goals try simp-implicitDefEqProofs only[V,↓reduceIte,rA,h1,hf,g0]
theorem Ks(x:Ln)(ok:LnOk x):∃g:Nat,(g<=1000000000000/\(0<x.ts.l.length->0<g))/\∀h,aE E1 (.f 132) [.agg x.cells] h (vI (g:Nat)) h:=by
 obtain⟨t,⟨z,rfl,hz⟩,hc⟩:=tI (g:=132) (l:=[.agg x.cells]) (P:=λt=>∃g:Nat,t=vI (g:Nat)/\(g<=1000000000000/\(0<x.ts.l.length->0<g))) rf bFK (qr (Tree.ln x)) λs hs hh hd hr=>by
  have h0:=hs 0 _ rfl;simp-implicitDefEqProofs only[aKE,f132,V,h0,hh];refine(Qc x ok x.ts.l 0 _ 0 rfl (il _) de (λq=>absurd q de) ?_ ?_ ?_ ?_ ?_).mono ?_
  all_goals try simp-implicitDefEqProofs only[V,↓reduceIte,rA,hd]
  ·rfl
  ·rfl
  rintro e s1 ⟨rfl,d1,g,e3,k1,k2⟩;simp-implicitDefEqProofs only[V,↓reduceIte,reduceCtorEq,WF,e3,d1];exact⟨_,rfl,_,0,de,Rep.leaf (aj.val _),g,rfl,k1,k2⟩
 grind
theorem yG{a b c d:AV}:dV [a,b] 0 2 [c,d]=Z [c,d]:=rfl
theorem aUK{a b:Value}:aQ [.val a,.val b]=[]:=rfl
theorem bED{l:List Tm}{n:ByteArray}{c:Int}:l.flatMap Tm.cells++[vS n,vI c]=(l++[(⟨n,c⟩:Tm)]).flatMap Tm.cells:=by rw[Bb];rfl
theorem aST{h:AH}{lo:Nat}{v:AV}{out:List Tm}{k:Int}(r:aV h lo out.length 2 v (out.flatMap Tm.cells)):Rep h 0 h.next 2 (.agg [v,vI k]) (.agg (⟨⟨out,ai,Y⟩,k⟩:Ln).cells):=by
 have e:(⟨out,ai,Y⟩:Vl Tm).A Tm.cells=fE out.length (out.flatMap Tm.cells):=by rfl
 have:=Rep.agg (h:=h) (lo:=0) (hi:=h.next) (n:=1) (ps:=[(v,(⟨out,ai,Y⟩:Vl Tm).A Tm.cells),(vI k,vI k)]) (λp hp=>by
  simp[jd] at hp;rcases hp with rfl|rfl
  ·rw[e];exact(r.low (il _)).rep
  ·exact Rep.leaf (aj.val _))
 exact this
theorem sW{a b:AV}{l:List AV}:takeN (Z 2) (a::b::l)=Z (.agg [a,b]):=rfl
theorem Qb(x:Ln)(hN:x.ts.l.length<=24)(d k:Int)(hd0:d≠0):∀(r:List Tm) (i:Nat) (s:St) (v:AV) (out:List Tm),x.ts.l.drop i=r->i<=x.ts.l.length->out.length=i->aV s.h 3 out.length 2 v (out.flatMap Tm.cells)->3<=s.h.next->ak s.h->s.h.get 0=Z (.cells x.cells J)->(∃z,s.h.get 1=Z (.cells z J)/\z.length=2)->s.h.get 2=Z (.cells [v,vI k] J)->
  s.eval (.t 1)=Z (vI d)->s.eval (.t 3)=Z (.ptr 0 0)->s.eval (.t 6)=Z (.ptr 1 0)->s.eval (.t 7)=Z (.ptr 2 0)->s.eval (.t 8)=Z (vI (i:Nat))->s.defers=[]->
  Run E1 ox s λe s'=>e=.exit 0/\s'.defers=[]/\s'.eval (.t 6)=Z (.ptr 1 0)/\s'.eval (.t 7)=Z (.ptr 2 0)/\3<=s'.h.next/\(∃z,s'.h.get 1=Z (.cells z J)/\z.length=2)/\∃v out,s'.h.get 2=Z (.cells [v,vI k] J)/\out.length=x.ts.l.length/\aV s'.h 3 out.length 2 v ((out:List Tm).flatMap Tm.cells)
 | [],i,s,v,out,hd,hi,hl',rv,hn,nt,g0,g1,g2,h1,h3,h6,h7,h8,hf=>by
  have hl:=ca hd hi;subst hl;have c0:=U301;apply az (rfl:ox=.loop l9);simp-implicitDefEqProofs only[l9,V,↓reduceIte,rA,h3,h6,h7,h8,hf,g0,c0,tE]
  grind
 |y::r,i,s,v,out,hd,hi,hl',rv,hn,nt,g0,g1,g2,h1,h3,h6,h7,h8,hf=>by
  have hl:=cz hd;have hlt:=rj hl;have w1:=U204;have c0:=U301;have hix:=U302;have k0:=U305;have kv:=bz rv.x.nice;have k2:=U306;have hfa:=U304;have ns:=λx=>(rv.to (h':=s.h.alloc x) (j5 _) λy _ y2=>am y2).x.nice;have hq:=λ(P:Program) (t:TypeId) (g:Bool)=>Nh (P:=P) (t:=t) (g:=g) (k:=.i64) (a:=y.c) hd0;apply az (rfl:ox=.loop l9);simp-implicitDefEqProofs only[l9,aKD,V,↓reduceIte,rA,h3,h8,g0,c0,hlt];refine pb rfl ?_
  simp-implicitDefEqProofs only[aKB,X0,X1,X2,X3,X4,V,↓reduceIte,rA,WF,h1,h3,h7,h8,g0,g2,c0,hix,hfa,hq,k0,kv,k2,an Vl.ids,yG,aUK,ns,an (show ids (AV.agg [AV.val (Value.string y.nm),AV.val (Value.int IntKind.i64 (IntKind.i64.wrap (y.c.tdiv d)))])=[] from rfl)];refine sk (k:=out.length) (m:=1) (lo:=3) (v:=v) (x:=.own s.h.next 0 1 2 (Z 1)) (cs:=out.flatMap Tm.cells) (new:=[vS y.nm,vI (IntKind.i64.wrap (y.c.tdiv d))]) ?_ ?_ ?_ de rfl (Tm.leaves ⟨y.nm,IntKind.i64.wrap (y.c.tdiv d)⟩) (lR om de) ?_ ?_ ?_
  ·exact U40
  ·exact U41
  ·refine kl (rw':=J) ?_ rfl;exact U43
  ·exact U42
  ·exact U43
  intro h2 rv2 n2 o2 t2 gn2;simp-implicitDefEqProofs only[V] at rv2 n2 o2 t2 gn2;have nt2:=t2 nt.alloc;have fr:∀z,z<3->h2.get z=s.h.get z:=λz hz=>by
   exact U127
  have gg2:h2.get 2=Z (.cells [v,vI k] J):=Gr;have kO:=bz rv2.x.nice;have kc:∀o,aN h2 (Z (.ptr 2 o))=J:=λo=>rg om gg2 (tn (vt rv.x rfl) om);simp-implicitDefEqProofs only[X0,X1,X3,X4,V,↓reduceIte,rA,WF,h7,h8,gg2,kc,w1];refine(Qb x hN d k hd0 r (i+1) _ (.own (s.h.next+1) 0 (out.length+1) 2 Y) (out++[(⟨y.nm,IntKind.i64.wrap (y.c.tdiv d)⟩:Tm)]) (ba hd) om Gr ?_ ?_ ?_ ?_ ?_ ?_ ?_ ?_ ?_ ?_ ?_ ?_)
  all_goals try simp-implicitDefEqProofs only[V,↓reduceIte,rA,reduceCtorEq,h1,h3,h6,h7,hf]
  ·exact U44
  ·omega
  ·exact nt2.put
  ·grind
  grind
theorem wV(x:Ln)(hN:x.ts.l.length<=24)(d k:Int)(hd0:d≠0):∃y:Ln,y.ts.l.length<=24/\∀h,aE E1 (.f 133) [.agg x.cells,vI d,vI k] h (.agg y.cells) h:=by
 obtain⟨t,⟨y,rfl,hy⟩,hc⟩:=tI (g:=133) (l:=[.agg x.cells,vI d,vI k]) (P:=λt=>∃y:Ln,t=.agg y.cells/\y.ts.l.length<=24) rf bFJ (yy (Tree.ln x) (Tree.val _) (Tree.val _)) λs hs hh hd hr=>by
  have h0:=hs 0 _ rfl;have h1:=hs 1 _ rfl;have h2:=hs 2 _ rfl;have hst:∀(h:AH) b (u w:AV),stK h b 2 0 [.val (.slice Y 0 0),vI k] (Z (.cells [u,w] J))=Z (h.put b (Z (.cells [.val (.slice Y 0 0),vI k] J))):=λh b u w=>cy rfl rfl;simp-implicitDefEqProofs only[aKC,f133,V,↓reduceIte,rA,rB,WF,h0,h2,hh,hst];refine(Qb x hN d k hd0 x.ts.l 0 _ (.val (.slice Y 0 0)) [] rfl (il _) rfl aV.nil ?_ ?_ ?_ ?_ ?_ ?_ ?_ ?_ ?_ ?_ ?_).mono ?_
  all_goals try simp-implicitDefEqProofs only[V,↓reduceIte,rA,rB,reduceCtorEq,h1,hd]
  ·decide
  ·exact U307
  ·grind
  ·rfl
  rintro e s1 ⟨rfl,d1,e6,e7,n1,⟨z,g1,lz⟩,v,out,g2,lo,rv⟩;have hst2:∀(h:AH),stK h 1 2 0 [v,vI k] (Z (.cells z J))=Z (h.put 1 (Z (.cells [v,vI k] J))):=λh=>cy lz rfl;simp-implicitDefEqProofs only[V,↓reduceIte,rA,reduceCtorEq,WF,e6,e7,g1,g2,d1,sW,hst2];exact⟨_,rfl,_,2,de,aST (rv.to (h':=s1.h.put 1 (Z (.cells [v,vI k] J))) (ij _) λz z1 _=>bc om),⟨⟨out,ai,Y⟩,k⟩,rfl,Gr⟩
 grind
def zLn:Ln:=⟨⟨[],ai,Y⟩,0⟩
theorem aMF:zLn.cells=[.val (.slice Y 0 0),vI 0]:=rfl
theorem Pv(x:Ln)(hN:x.ts.l.length<=24)(d:Int):∀(r:List Tm) (i:Nat) (s:St) (v:AV) (out:List Tm),x.ts.l.drop i=r->i<=x.ts.l.length->out.length=i->aV s.h 3 out.length 2 v (out.flatMap Tm.cells)->3<=s.h.next->ak s.h->s.h.get 0=Z (.cells x.cells J)->(∃z,s.h.get 1=Z (.cells z J)/\z.length=2)->s.h.get 2=Z (.cells [v,vI 0] J)->
  s.eval (.t 1)=Z (vI d)->s.eval (.t 2)=Z (.ptr 0 0)->s.eval (.t 4)=Z (.ptr 1 0)->s.eval (.t 6)=Z (.ptr 2 0)->s.eval (.t 7)=Z (vI (i:Nat))->s.defers=[]->
  Run E1 o6 s λe s'=>s'.defers=[]/\s'.eval (.t 4)=Z (.ptr 1 0)/\((e=.exit 0/\s'.eval (.t 1)=Z (vI d)/\s'.eval (.t 2)=Z (.ptr 0 0)/\s'.eval (.t 6)=Z (.ptr 2 0)/\3<=s'.h.next/\s'.h.get 0=Z (.cells x.cells J)/\(∃z,s'.h.get 1=Z (.cells z J)/\z.length=2)/\∃v out,s'.h.get 2=Z (.cells [v,vI 0] J)/\out.length=x.ts.l.length/\aV s'.h 3 out.length 2 v ((out:List Tm).flatMap Tm.cells))\/
   (e=.ret/\s'.h.get 1=Z (.cells zLn.cells J)/\s'.eval (.t 5)=Z (Vb U)))
 | [],i,s,v,out,hd,hi,hl',rv,hn,nt,g0,g1,g2,h1,h2,h4,h6,h7,hf=>by
  have hl:=ca hd hi;subst hl;have c0:=U301;apply az (rfl:o6=.loop ku);simp-implicitDefEqProofs only[ku,V,↓reduceIte,rA,reduceCtorEq,h1,h2,h4,h6,h7,hf,g0,c0,tE]
  grind
 |y::r,i,s,v,out,hd,hi,hl',rv,hn,nt,g0,g1,g2,h1,h2,h4,h6,h7,hf=>by
  have hl:=cz hd;have hlt:=rj hl;have w1:=U204;have c0:=U301;have hix:=U302;have hfa:=U304;have hm:=Dw y.c d;obtain⟨p,q⟩:∃p,arith y.c d (y.c*d)=p:=⟨_,rfl⟩;obtain⟨W,b⟩:=p;rw[q] at hm;have hm:∀h,aE E1 (.f 209) [vI y.c,vI d] h (.tup [vI W,Vb b]) h:=hm;obtain⟨z,gz,lz⟩:=g1;have hst:∀(h:AH),stK h 1 2 0 [.val (.slice Y 0 0),vI 0] (Z (.cells z J))=Z (h.put 1 (Z (.cells [.val (.slice Y 0 0),vI 0] J))):=λh=>cy lz rfl;apply az (rfl:o6=.loop ku);cases b with
  |false=>
   simp-implicitDefEqProofs only[ku,V,↓reduceIte,rA,reduceCtorEq,WF,h1,h2,h4,h6,h7,hf,g0,c0,hlt,hix,hfa,ac hm,gz,hst];exact .inr rfl
  |true=>
   have k0:=U305;have kv:=bz rv.x.nice;have k2:=U306;have ns:=λx=>(rv.to (h':=s.h.alloc x) (j5 _) λy _ y2=>am y2).x.nice;simp-implicitDefEqProofs only[ku,aJR,V,↓reduceIte,rA,h1,h2,h7,g0,c0,hlt,hix,hfa,ac hm];refine pb rfl ?_
   simp-implicitDefEqProofs only[aJQ,X0,X1,X2,X3,X4,V,↓reduceIte,rA,WF,h2,h6,h7,g0,g2,c0,hix,k0,kv,k2,an Vl.ids,yG,aUK,ns,an (show ids (AV.agg [AV.val (Value.string y.nm),AV.val (Value.int IntKind.i64 W)])=[] from rfl)];refine sk (k:=out.length) (m:=1) (lo:=3) (v:=v) (x:=.own s.h.next 0 1 2 (Z 1)) (cs:=out.flatMap Tm.cells) (new:=[vS y.nm,vI W]) ?_ ?_ ?_ de rfl (Tm.leaves ⟨y.nm,W⟩) (lR om de) ?_ ?_ ?_
   ·exact U40
   ·exact U41
   ·refine kl (rw':=J) ?_ rfl;exact U43
   ·exact U42
   ·exact U43
   intro h3 rv2 n2 o2 t2 gn2;simp-implicitDefEqProofs only[V] at rv2 n2 o2 t2 gn2;have nt2:=t2 nt.alloc;have fr:∀z,z<3->h3.get z=s.h.get z:=λz hz=>by
    exact U127
   have gg2:h3.get 2=Z (.cells [v,vI 0] J):=Gr;have kO:=bz rv2.x.nice;have kc:∀o,aN h3 (Z (.ptr 2 o))=J:=λo=>rg om gg2 (tn (vt rv.x rfl) om);simp-implicitDefEqProofs only[X0,X1,X3,X4,V,↓reduceIte,rA,WF,h6,h7,gg2,kc,w1];refine(Pv x hN d r (i+1) _ (.own (s.h.next+1) 0 (out.length+1) 2 Y) (out++[(⟨y.nm,W⟩:Tm)]) (ba hd) om Gr ?_ ?_ ?_ ?_ ?_ ?_ ?_ ?_ ?_ ?_ ?_ ?_)
   all_goals try simp-implicitDefEqProofs only[V,↓reduceIte,rA,reduceCtorEq,h1,h2,h4,h6,hf]
   ·exact U44
   ·omega
   ·exact nt2.put
   ·grind
   grind
def lnP(t:AV):Prop:=∃(y:Ln) (b:Bool),t=.tup [.agg y.cells,Vb b]/\y.ts.l.length<=24
theorem Sb{h:AH}{lo:Nat}{v:AV}{out:List Tm}{k:Int}{b:Bool}(r:aV h lo out.length 2 v (out.flatMap Tm.cells))(hl:out.length<=24):∃t n,n<1000/\Rep h 0 h.next n (.tup [.agg [v,vI k],Vb b]) t/\lnP t:=by
 have:=Rep.tup (h:=h) (lo:=0) (hi:=h.next) (n:=2) (ps:=[(.agg [v,vI k],.agg (⟨⟨out,ai,Y⟩,k⟩:Ln).cells),(Vb b,Vb b)]) (λp hp=>by
  simp[jd] at hp;rcases hp with rfl|rfl<;>grind [aST,Rep.leaf,aj.val])
 exact⟨_,3,de,this,⟨⟨out,ai,Y⟩,k⟩,b,rfl,hl⟩
theorem bCE{h:AH}{b:Bool}:∃t n,n<1000/\Rep h 0 h.next n (.tup [.agg [.val (.slice Y 0 0),vI 0],Vb b]) t/\lnP t:=Sb (lo:=0) (out:=[]) aV.nil (il _)
theorem vM(x:Ln)(d:Int):∃t,lnP t/\∀h,aE E1 (.f 164) [.agg x.cells,vI d] h t h:=by
 obtain⟨z,hz,hck⟩:=sU x;refine tI rf bEZ (sE (Tree.ln x) (Tree.val _)) λs hs hh hd hr=>?_
 have h0:=hs 0 _ rfl;have h1:=hs 1 _ rfl;have tx:=U308;have hst:=U309
 by_cases z0:z=0
 ·obtain⟨hN,_,_⟩:=hz z0;subst z0
  by_cases d0:d=0
  ·have dd:decide (d=0)=J:=by grind
   simp-implicitDefEqProofs only[o9,f164,V,↓reduceIte,rA,rB,reduceCtorEq,WF,h0,h1,hh,hd,tx,ac hck,dd,hst,sW];exact U310
  ·have dd:decide (d=0)=U:=by grind
   simp-implicitDefEqProofs only[o9,f164,V,↓reduceIte,rA,rB,reduceCtorEq,WF,h0,h1,hh,tx,ac hck,dd,hst];refine(Pv x hN d x.ts.l 0 _ (.val (.slice Y 0 0)) [] rfl (il _) rfl aV.nil ?_ ?_ ?_ ?_ ?_ ?_ ?_ ?_ ?_ ?_ ?_).mono ?_
   all_goals try simp-implicitDefEqProofs only[V,↓reduceIte,rA,rB,reduceCtorEq,h1,hd]
   ·decide
   ·exact U307
   ·grind
   ·rfl
   rintro e s1 ⟨d1,e4,⟨rfl,e1,e2,e6,n1,g0,⟨u,g1,lz⟩,v,out,g2,lo,rv⟩|⟨rfl,g1,e5⟩⟩
   ·have c1:=U303;have hsr:∀(h:AH) (w:Int),stK h 1 2 0 [v,vI w] (Z (.cells u J))=Z (h.put 1 (Z (.cells [v,vI w] J))):=λh w=>cy lz rfl
    by_cases k0:x.k=0
    ·have dk:decide (x.k=0)=J:=by grind
     simp-implicitDefEqProofs only[V,↓reduceIte,rA,reduceCtorEq,WF,e2,e4,e6,g0,g1,g2,d1,c1,dk,sW,hsr];exact⟨_,rfl,Sb (rv.to (h':=s1.h.put 1 (Z (.cells [v,vI 0] J))) (ij _) λz z1 _=>bc om) om⟩
    ·have dk:decide (x.k=0)=U:=by grind
     have hm:=Dw x.k d;obtain⟨p,q⟩:∃p,arith x.k d (x.k*d)=p:=⟨_,rfl⟩;obtain⟨W,b⟩:=p;rw[q] at hm;have hm:∀h,aE E1 (.f 209) [vI x.k,vI d] h (.tup [vI W,Vb b]) h:=hm;have hs0:∀(h:AH),stK h 1 2 0 [.val (.slice Y 0 0),vI 0] (Z (.cells u J))=Z (h.put 1 (Z (.cells [.val (.slice Y 0 0),vI 0] J))):=λh=>cy lz rfl;have hs1:∀(h:AH),stK h 2 1 1 [vI W] (Z (.cells [v,vI 0] J))=Z (h.put 2 (Z (.cells [v,vI W] J))):=λh=>rfl;cases b with
     |false=>
      simp-implicitDefEqProofs only[V,↓reduceIte,rA,reduceCtorEq,WF,e1,e2,e4,g0,g1,d1,c1,dk,sW,ac hm,hs0];exact U310
     |true=>
      simp-implicitDefEqProofs only[V,↓reduceIte,rA,reduceCtorEq,WF,e1,e2,e4,e6,g0,g1,g2,d1,c1,dk,sW,hsr,ac hm,hs1];exact⟨_,rfl,Sb (rv.to (h':=(s1.h.put 2 (Z (.cells [v,vI W] J))).put 1 (Z (.cells [v,vI W] J))) (ij _) λz z1 _=>by grind [bc]) om⟩
   ·simp-implicitDefEqProofs only[V,reduceCtorEq,e4,e5,g1,d1,aMF,sW];exact U310
 ·have dz:=U311;simp-implicitDefEqProofs only[o9,f164,V,↓reduceIte,rA,rB,reduceCtorEq,WF,h0,hh,hd,tx,ac hck,dz,hst,sW];exact U310
set_option maxHeartbeats 8000000
theorem bCG{h:AH}{lo:Nat}{v:AV}{out:List Tm}{k:Int}{b:Bool}(r:bn h lo out.length 2 v (out.flatMap Tm.cells))(hl:out.length<=24):∃t n,n<1000/\Rep h 0 h.next n (.tup [.agg [v,vI k],Vb b]) t/\lnP t:=by
 have r1:=U312;obtain⟨w,hw,hwl⟩:∃w:Vl Tm,iA v out.length (out.flatMap Tm.cells)=w.A Tm.cells/\w.l=out:=by
  obtain⟨cap,e|e⟩:=Gg r rfl
  ·grind
  ·exact U45
 have r2:=Rep.agg (h:=h) (lo:=0) (hi:=h.next) (n:=1) (ps:=[(v,iA v out.length (out.flatMap Tm.cells)),(vI k,vI k)]) (λp hp=>by
  simp[jd] at hp;rcases hp with rfl|rfl<;>grind [Rep.leaf,aj.val])
 have r3:=Rep.tup (h:=h) (lo:=0) (hi:=h.next) (n:=2) (ps:=[(.agg [v,vI k],.agg [iA v out.length (out.flatMap Tm.cells),vI k]),(Vb b,Vb b)]) (λp hp=>by
  simp[jd] at hp;rcases hp with rfl|rfl<;>grind [Rep.leaf,aj.val])
 exact⟨_,3,de,r3,⟨w,k⟩,b,by grind [Ln.cells],Gr⟩
theorem Lx(x:Ln):∃t,lnP t/\∀h,aE E1 (.f 210) [.agg x.cells] h t h:=by
 obtain⟨z,hz,hck⟩:=sU x;refine tI rf bEP (qr (Tree.ln x)) λs hs hh hd hr=>?_
 have h0:=hs 0 _ rfl;have tx:=U308;have hst:=U309
 by_cases z0:z=0
 ·obtain⟨hN,_,_⟩:=hz z0;subst z0;have c0:=U301;have c1:=U303;simp[Uw,f210,aJH,V,h0,hh,tx,ac hck];refine pb rfl ?_
  obtain⟨H,hH⟩:∃H,((AH.empty.alloc (.cells x.cells J)).alloc (.cells [.val (.slice Y 0 0),vI 0] J)).alloc (.cells [] J)=H:=⟨_,rfl⟩;have Hn:H.next=3:=by rw[<-hH];rfl
  have H0:=U313;have H1:=U314;have H2:H.get 2=Z (.cells [] J):=by grind [AH.aS,tG]
  have k0:=U315;have k1:=U316;have kO:aN H (Z (.own 2 0 0 2 (Z 0)))=J:=uL om H2 rfl;have nO:bp H (Z (.own 2 0 0 2 (Z 0)))=J:=Zh om H2 rfl;have nn:((0:Nat)≠2)=True:=Sp;simp[aJG,X0,X1,X2,X3,X4,V,WF,c0,an Vl.ids,Vl.ids,hH,k0,kO,nO,H0,nn];refine xb (k:=0) (m:=x.ts.l.length) (lo:=2) (v:=.own 2 0 0 2 (Z 0)) (x:=x.ts.A Tm.cells) (cs:=[]) (new:=x.ts.l.flatMap Tm.cells) ?_ ?_ ?_ (uq Tm.len _) ?_ (lR om de) ?_ ?_ ?_
  all_goals try simp only[V,↓reduceIte,rA,Hn]
  ·exact bn.made (λc hc=>by cases hc) rfl (ij _) om H2
  ·decide
  ·exact xF Tm.len _ _
  ·intro c hc;obtain⟨y,_,hy⟩:=List.mem_flatMap.1 hc;exact y.leaves c hy
  intro v' h' r' n' o' t' i'
  try simp only[V,↓reduceIte,rA,rB,rC,reduceCtorEq,rD,rE,rF,Hn] at r'
  try simp only[V,↓reduceIte,rA,rB,rC,reduceCtorEq,rD,rE,rF,Hn] at n'
  try simp only[V,↓reduceIte,rA,rB,rC,reduceCtorEq,rD,rE,rF,Hn] at o'
  try simp only[V,↓reduceIte,rA,rB,rC,reduceCtorEq,rD,rE,rF,Hn] at i'
  have a0:h'.get 0=Z (.cells x.cells J):=by grind [ids]
  have a1:h'.get 1=Z (.cells [.val (.slice Y 0 0),vI 0] J):=by grind [ids]
  have k0':∀o,aN h' (Z (.ptr 0 o))=J:=λo=>bm om a0 x.bM;have k1':∀o,aN h' (Z (.ptr 1 o))=J:=λo=>bm om a1 rfl;have kv:=bz r'.nice;have i1:∀y∈ids v',y≠1/\y≠0:=by grind [ids]
  have ka:aN h' (Z (.agg [v',vI x.k]))=J:=by
   have e:ids (.agg [v',vI x.k])=ids v':=by show ids v'++(ids (vI x.k)++[])=ids v';simp[ids]
   grind [aN,fK]
  have le:¬3<=0:=de;have hcv:v'.cells=Z [v']:=by rcases r' with⟨_,_,⟨_,rfl⟩|⟨_,_,_,_,rfl,_⟩⟩|⟨_,_,_,_,_,rfl,_⟩<;>rfl
  have hst1:∀(w:AV),stK h' 1 2 0 [w,vI x.k] (Z (.cells [.val (.slice Y 0 0),vI 0] J))=Z (h'.put 1 (Z (.cells [w,vI x.k] J))):=λw=>cy rfl rfl;simp only[X0,X1,X2,X3,X4,V,WF,false_and,not_false_eq_true,sW,seval, *]
  trace_state
  exact⟨_,rfl,bCG (bn.toB r' (ij _) λy hy=>bc (i1 y hy).1) hN⟩
 ·have dz:=U311;simp only[Uw,f210,V,WF,ac hck,sW,seval, *];exact U310
structure AI (x y:Ln) (s:St) (v:AV) (out:List Tm) (k:Int) (i j:Nat):Prop where
 rv:aV s.h 4 out.length 2 v (out.flatMap Tm.cells)
 n:4<=s.h.next
 nt:ak s.h
 g0:s.h.get 0=Z (.cells x.cells J)
 g1:s.h.get 1=Z (.cells y.cells J)
 g2:∃z,s.h.get 2=Z (.cells z J)/\z.length=2
 g3:s.h.get 3=Z (.cells [v,vI k] J)
 e2:s.eval (.t 2)=Z (.ptr 0 0)
 e3:s.eval (.t 3)=Z (.ptr 1 0)
 e4:s.eval (.t 4)=Z (.ptr 2 0)
 e6:s.eval (.t 6)=Z (.ptr 3 0)
 e7:s.eval (.t 7)=Z (vI (i:Nat))
 e8:s.eval (.t 8)=Z (vI (j:Nat))
 d:s.defers=[]
theorem AI.to{x y:Ln}{s s':St}{v:AV}{out:List Tm}{k:Int}{i j i' j':Nat}(a:AI x y s v out k i j)(h1:s'.h=s.h)(h2:s'.defers=s.defers)(h3:∀t,t<9->t≠7->t≠8->s'.eval (.t t)=s.eval (.t t))(h7:s'.eval (.t 7)=Z (vI (i':Nat)))(h8:s'.eval (.t 8)=Z (vI (j':Nat))):AI x y s' v out k i' j':=by
 obtain⟨rv,hn,nt,g0,g1,g2,g3,e2,e3,e4,e6,e7,e8,hf⟩:=a;refine⟨by rw[h1];exact rv,by rw[h1];exact hn,by rw[h1];exact nt,by rw[h1];exact g0,by rw[h1];exact g1,by rw[h1];exact g2,by rw[h1];exact g3,?_,?_,?_,?_,h7,h8,by rw[h2];exact hf⟩<;>grind
theorem aBB{x y:Ln}{s:St}{v:AV}{out:List Tm}{k:Int}{i j:Nat}(a:AI x y s v out k i j)(hi:i<=x.ts.l.length)(hj:j<=y.ts.l.length)(hN:x.ts.l.length<=24)(hM:y.ts.l.length<=24):
  Run E1 Vi s λe s'=>e=.normal/\s'.h=s.h/\s'.defers=s.defers/\(∃q:Bool,s'.eval (.t 69)=Z (Vb q)/\(q=J->j=y.ts.l.length\/i<x.ts.l.length)/\(q=U->j<y.ts.l.length))/\∀j,j<9->s'.eval (.t j)=s.eval (.t j):=by
 obtain⟨rv,hn,nt,g0,g1,g2,g3,e2,e3,e4,e6,e7,e8,hf⟩:=a;have c0:=U301;have c1:=U317;have k0:=U305;have k1:=U318;refine pb rfl ?_
 by_cases hjm:j=y.ts.l.length
 ·have d1:decide ((j:Int)=(y.ts.l.length:Nat))=J:=by grind
  simp-implicitDefEqProofs only[oV,X0,X1,X3,X4,V,↓reduceIte,rA,e2,e3,e7,e8,g1,c1,k0,k1,an Vl.ids,Vl.ids,d1];refine⟨⟨J,rfl,λ_=>.inl hjm,λq=>by cases q⟩,λj hj=>?_⟩
  repeat rw[if_neg om]
 ·have d1:decide ((j:Int)=(y.ts.l.length:Nat))=U:=by grind
  have hjl:j<y.ts.l.length:=om
  by_cases hil:i<x.ts.l.length
  ·have d2:decide ((i:Int)<(x.ts.l.length:Nat))=J:=by grind
   obtain⟨a,ra,ha⟩:=re hil;obtain⟨b,rb,hb⟩:=re hjl;have hix:=U319;have hiy:=U320;obtain⟨z,hz⟩:=aRF a.nm b.nm;simp-implicitDefEqProofs only[oV,X0,X1,X3,X4,V,↓reduceIte,rA,e2,e3,e7,e8,g0,g1,c0,c1,k0,k1,an Vl.ids,Vl.ids,d1,d2,hix,hiy,hz];refine⟨⟨z,rfl,λ_=>.inr hil,λ_=>hjl⟩,λj hj=>?_⟩
   repeat rw[if_neg om]
  ·have d2:decide ((i:Int)<(x.ts.l.length:Nat))=U:=by grind
   simp-implicitDefEqProofs only[oV,X0,X1,X3,X4,V,↓reduceIte,rA,e2,e3,e7,e8,g0,g1,c0,c1,k0,k1,an Vl.ids,Vl.ids,d1,d2];refine⟨⟨U,rfl,λq=>(by cases q),λ_=>hjl⟩,λj hj=>?_⟩
   repeat rw[if_neg om]
theorem aAZ{x y:Ln}{s:St}{v:AV}{out:List Tm}{k:Int}{i j:Nat}(a:AI x y s v out k i j)(hi:i<=x.ts.l.length)(hj:j<y.ts.l.length)(hN:x.ts.l.length<=24)(hM:y.ts.l.length<=24):
  Run E1 Vg s λe s'=>e=.normal/\s'.h=s.h/\s'.defers=s.defers/\(∃q:Bool,s'.eval (.t 109)=Z (Vb q)/\(q=U->i<x.ts.l.length))/\∀j,j<9->s'.eval (.t j)=s.eval (.t j):=by
 obtain⟨rv,hn,nt,g0,g1,g2,g3,e2,e3,e4,e6,e7,e8,hf⟩:=a;have c0:=U301;have c1:=U317;have k0:=U305;have k1:=U318;refine pb rfl ?_
 by_cases hjm:i=x.ts.l.length
 ·have d1:decide ((i:Int)=(x.ts.l.length:Nat))=J:=by grind
  simp-implicitDefEqProofs only[Va,X0,X1,X3,X4,V,↓reduceIte,rA,e2,e3,e7,e8,g0,c0,k0,k1,an Vl.ids,Vl.ids,d1];refine⟨⟨J,rfl,λq=>by cases q⟩,λj hj=>?_⟩
  repeat rw[if_neg om]
 ·have d1:decide ((i:Int)=(x.ts.l.length:Nat))=U:=by grind
  have hil:i<x.ts.l.length:=om;obtain⟨a,ra,ha⟩:=re hil;obtain⟨b,rb,hb⟩:=re hj;have hix:=U319;have hiy:=U320;obtain⟨z,hz⟩:=aRF b.nm a.nm;simp-implicitDefEqProofs only[Va,X0,X1,X3,X4,V,↓reduceIte,rA,e2,e3,e7,e8,g0,g1,c0,c1,k0,k1,an Vl.ids,Vl.ids,d1,hix,hiy,hz];refine⟨⟨z,rfl,λ_=>hil⟩,λj hj=>?_⟩
  repeat rw[if_neg om]
theorem aAX{x y:Ln}{s:St}{v:AV}{out:List Tm}{k:Int}{i j:Nat}(a:AI x y s v out k i j)(hi:i<x.ts.l.length)(hj:j<y.ts.l.length)(hN:x.ts.l.length<=24)(hM:y.ts.l.length<=24):
  Run E1 Ve s λe s'=>e=.normal/\s'.h=s.h/\s'.defers=s.defers/\(∃q:Int,s'.eval (.t 9)=Z (vI q))/\∀j,j<9->s'.eval (.t j)=s.eval (.t j):=by
 obtain⟨rv,hn,nt,g0,g1,g2,g3,e2,e3,e4,e6,e7,e8,hf⟩:=a;have c0:=U301;have c1:=U317;have k0:=U305;have k1:=U318;obtain⟨a,ra,ha⟩:=re hi;obtain⟨b,rb,hb⟩:=re hj;have hix:=U319;have hiy:=U320;have hfa:=U321;refine pb rfl ?_
 simp-implicitDefEqProofs only[aJN,X0,X1,X3,X4,V,↓reduceIte,rA,e2,e3,e7,e8,g0,g1,c0,c1,k0,k1,an Vl.ids,hix,hiy,hfa];exact U126
theorem aBA{x y:Ln}{s:St}{v:AV}{out:List Tm}{k:Int}{i j:Nat}(a:AI x y s v out k i j)(hN:x.ts.l.length<=24)(hM:y.ts.l.length<=24)(ho:out.length<=100){w:Tm}{rw':List Tm}(hw:x.ts.l.drop (if 1=1 then i else j)=w::rw'):
  Run E1 Vh s λe s'=>e=.normal/\∃v',AI x y s' v' (out++[w]) k i j:=by
 obtain⟨rv,hn,nt,g0,g1,g2,g3,e2,e3,e4,e6,e7,e8,hf⟩:=a;have c0:=U301;have c1:=U317;have k0:=U305;have k1:=U318;have hix:aX 2 (x.ts.A Tm.cells) _=Z (.bD (vS w.nm:: vI w.c::rw'.flatMap Tm.cells)):=x.ts.at Tm.len hw;simp at hix;have kv:=bz rv.x.nice;have k3:=U322;have ns:=λx=>(rv.to (h':=s.h.alloc x) (j5 _) λy _ y2=>am y2).x.nice;refine pb rfl ?_
 simp-implicitDefEqProofs only[aJP,X0,X1,X2,X3,X4,V,↓reduceIte,rA,WF,e2,e6,e7,g0,g3,c0,k0,k3,kv,ns,an Vl.ids,hix,sW,yG,aUK,an (show ids (AV.agg [AV.val (Value.string w.nm),AV.val (Value.int IntKind.i64 w.c)])=[] from rfl)];refine sk (k:=out.length) (m:=1) (lo:=4) (v:=v) (x:=.own s.h.next 0 1 2 (Z 1)) (cs:=out.flatMap Tm.cells) (new:=[vS w.nm,vI w.c]) ?_ ?_ ?_ de rfl w.leaves (lR om de) ?_ ?_ ?_
 ·exact U40
 ·exact U41
 ·refine kl (rw':=J) ?_ rfl;exact U43
 ·exact U42
 ·exact U43
 exact U154
theorem aAY{x y:Ln}{s:St}{v:AV}{out:List Tm}{k:Int}{i j:Nat}(a:AI x y s v out k i j)(hN:x.ts.l.length<=24)(hM:y.ts.l.length<=24)(ho:out.length<=100){w:Tm}{rw':List Tm}(hw:y.ts.l.drop (if 3=1 then i else j)=w::rw'):
  Run E1 Vf s λe s'=>e=.normal/\∃v',AI x y s' v' (out++[w]) k i j:=by
 obtain⟨rv,hn,nt,g0,g1,g2,g3,e2,e3,e4,e6,e7,e8,hf⟩:=a;have c0:=U301;have c1:=U317;have k0:=U305;have k1:=U318;have hix:aX 2 (y.ts.A Tm.cells) _=Z (.bD (vS w.nm:: vI w.c::rw'.flatMap Tm.cells)):=y.ts.at Tm.len hw;simp at hix;have kv:=bz rv.x.nice;have k3:=U322;have ns:=λx=>(rv.to (h':=s.h.alloc x) (j5 _) λy _ y2=>am y2).x.nice;refine pb rfl ?_
 simp-implicitDefEqProofs only[aJO,X0,X1,X2,X3,X4,V,↓reduceIte,rA,WF,e3,e6,e8,g1,g3,c1,k1,k3,kv,ns,an Vl.ids,hix,sW,yG,aUK,an (show ids (AV.agg [AV.val (Value.string w.nm),AV.val (Value.int IntKind.i64 w.c)])=[] from rfl)];refine sk (k:=out.length) (m:=1) (lo:=4) (v:=v) (x:=.own s.h.next 0 1 2 (Z 1)) (cs:=out.flatMap Tm.cells) (new:=[vS w.nm,vI w.c]) ?_ ?_ ?_ de rfl w.leaves (lR om de) ?_ ?_ ?_
 ·exact U40
 ·exact U41
 ·refine kl (rw':=J) ?_ rfl;exact U43
 ·exact U42
 ·exact U43
 exact U154
theorem aAW{x y:Ln}{s:St}{v:AV}{out:List Tm}{k:Int}{i j:Nat}(a:AI x y s v out k i j)(hN:x.ts.l.length<=24)(hM:y.ts.l.length<=24)(ho:out.length<=100){w:Tm}{rw':List Tm}(hw:x.ts.l.drop i=w::rw'){W:Int}(e9:s.eval (.t 9)=Z (vI W)):
  Run E1 Vd s λe s'=>e=.normal/\∃v',AI x y s' v' (out++[(⟨w.nm,W⟩:Tm)]) k i j:=by
 obtain⟨rv,hn,nt,g0,g1,g2,g3,e2,e3,e4,e6,e7,e8,hf⟩:=a;have c0:=U301;have c1:=U317;have k0:=U305;have k1:=U318;have hix:aX 2 (x.ts.A Tm.cells) _=Z (.bD (vS w.nm:: vI w.c::rw'.flatMap Tm.cells)):=x.ts.at Tm.len hw;have kv:=bz rv.x.nice;have k3:=U322;have ns:=λx=>(rv.to (h':=s.h.alloc x) (j5 _) λy _ y2=>am y2).x.nice;refine pb rfl ?_
 simp-implicitDefEqProofs only[aJM,X0,X1,X2,X3,X4,V,↓reduceIte,rA,WF,e2,e6,e7,e9,g0,g3,c0,k0,k3,kv,ns,an Vl.ids,hix,yG,aUK,an (show ids (AV.agg [AV.val (Value.string w.nm),AV.val (Value.int IntKind.i64 W)])=[] from rfl)];refine sk (k:=out.length) (m:=1) (lo:=4) (v:=v) (x:=.own s.h.next 0 1 2 (Z 1)) (cs:=out.flatMap Tm.cells) (new:=[vS w.nm,vI W]) ?_ ?_ ?_ de rfl (Tm.leaves ⟨w.nm,W⟩) (lR om de) ?_ ?_ ?_
 ·exact U40
 ·exact U41
 ·refine kl (rw':=J) ?_ rfl;exact U43
 ·exact U42
 ·exact U43
 exact U154
def Vc:aF:=(.seq Vi
 (.cond (.t 69) (.seq Vh
 (.region [⟨Z 107,Y,.mv (.t 7)⟩,⟨Z 108,Y,.bin .add 3 J (.t 107) (.c (vI 1))⟩,⟨Z 7,Y,.mv (.t 108)⟩])) (.seq Vg
 (.cond (.t 109) (.seq Vf
 (.region [⟨Z 140,Y,.mv (.t 8)⟩,⟨Z 141,Y,.bin .add 3 J (.t 140) (.c (vI 1))⟩,⟨Z 8,Y,.mv (.t 141)⟩])) (.seq Ve
 (.seq (.seq (.region [⟨Z 50,Y,.mv (.t 9)⟩,⟨Z 51,Y,.bin .neq 3 J (.t 50) (.c (vI 0))⟩])
 (.cond (.t 51) Vd .skip))
 (.seq (.region [⟨Z 65,Y,.mv (.t 7)⟩,⟨Z 66,Y,.bin .add 3 J (.t 65) (.c (vI 1))⟩,⟨Z 7,Y,.mv (.t 66)⟩])
 (.region [⟨Z 67,Y,.mv (.t 8)⟩,⟨Z 68,Y,.bin .add 3 J (.t 67) (.c (vI 1))⟩,⟨Z 8,Y,.mv (.t 68)⟩]))))))))
def mE:aF:=(.seq (.seq (.region [⟨Z 25,Y,.mv (.t 7)⟩,⟨Z 26,Y,.fieldAddr 0 (.t 2)⟩,⟨Z 27,Y,.load Y (.t 26)⟩,⟨Z 28,Y,.fI (.t 27)⟩,⟨Z 29,Y,.bin .lss 3 U (.t 25) (.t 28)⟩,⟨Z 30,Y,.mv (.t 29)⟩,⟨Z 31,Z (30,U),.mv (.t 8)⟩,⟨Z 32,Z (30,U),.fieldAddr 0 (.t 3)⟩,⟨Z 33,Z (30,U),.load Y (.t 32)⟩,⟨Z 34,Z (30,U),.fI (.t 33)⟩,⟨Z 35,Z (30,U),.bin .lss 3 U (.t 31) (.t 34)⟩,⟨Z 36,Y,.pick (.t 30) (.c (Vb J)) (.t 35)⟩])
 (.cond (.t 36) .skip (.exit 0)))
 (.block 1 (.block 2 Vc)))
theorem Kj{x y:Ln}{Q:Ex->St->Prop}(hN:x.ts.l.length<=24)(hM:y.ts.l.length<=24){s:St}{v:AV}{out:List Tm}{k:Int}{i j:Nat}(a:AI x y s v out k i j)(hi:i<=x.ts.l.length)(hj:j<=y.ts.l.length)(hij:i<x.ts.l.length\/j<y.ts.l.length)(ho:out.length<=100)
  (K:∀(s':St) (v':AV) (out':List Tm) (i' j':Nat),AI x y s' v' out' k i' j'->i'<=x.ts.l.length->j'<=y.ts.l.length->out'.length<=out.length+1->(x.ts.l.length-i')+(y.ts.l.length-j')<(x.ts.l.length-i)+(y.ts.l.length-j)->Q .normal s'):wp E1 Vc s Q:=by
 have wi:=U204;have wj:=U323;simp-implicitDefEqProofs only[Vc,V];refine(aBB a hi hj hN hM).mono ?_
 rintro e s1 ⟨rfl,eh,ed,⟨q,e69,q1,q2⟩,et⟩;have a1:AI x y s1 v out k i j:=a.to eh ed (λt ht _ _=>et t ht) (by rw[et 7 de];exact a.e7) (by rw[et 8 de];exact a.e8)
 cases q with
 |true=>
  have hil:i<x.ts.l.length:=by
   grind
  obtain⟨u,ru,hu⟩:=re hil;simp-implicitDefEqProofs only[V,e69];refine(aBA a1 hN hM ho (w:=u) (rw':=ru) hu).mono ?_
  rintro e s2 ⟨rfl,v',a2⟩;have e7:=a2.e7;have e8:=a2.e8;simp-implicitDefEqProofs only[V,↓reduceIte,e7,wi];refine K _ _ _ (i+1) (j) (a2.to ?_ ?_ ?_ ?_ ?_) om om Gr om
  all_goals try simp-implicitDefEqProofs only[V,↓reduceIte,rA,e8]
  grind
 |false=>
  have hjl:=q2 rfl;simp-implicitDefEqProofs only[V,e69];refine(aAZ a1 hi hjl hN hM).mono ?_
  rintro e s2 ⟨rfl,eh2,ed2,⟨p,e109,p1⟩,et2⟩;have a2:AI x y s2 v out k i j:=a1.to eh2 ed2 (λt ht _ _=>et2 t ht) (by rw[et2 7 de];exact a1.e7) (by rw[et2 8 de];exact a1.e8)
  obtain⟨b,rb,hb⟩:=re hjl;cases p with
  |true=>
   simp-implicitDefEqProofs only[V,e109];refine(aAY a2 hN hM ho (w:=b) (rw':=rb) hb).mono ?_
   rintro e s3 ⟨rfl,v',a3⟩;have e7:=a3.e7;have e8:=a3.e8;simp-implicitDefEqProofs only[V,↓reduceIte,e8,wj];refine K _ _ _ (i) (j+1) (a3.to ?_ ?_ ?_ ?_ ?_) om om Gr om
   all_goals try simp-implicitDefEqProofs only[V,↓reduceIte,rA,e7]
   grind
  |false=>
   have hil:=p1 rfl;obtain⟨u,ru,hu⟩:=re hil;simp-implicitDefEqProofs only[V,e109];refine(aAX a2 hil hjl hN hM).mono ?_
   rintro e s3 ⟨rfl,eh3,ed3,⟨W,e9⟩,et3⟩;have a3:AI x y s3 v out k i j:=a2.to eh3 ed3 (λt ht _ _=>et3 t ht) (by rw[et3 7 de];exact a2.e7) (by rw[et3 8 de];exact a2.e8)
   by_cases hW:W=0
   ·have dW:decide (W=0)=J:=by grind
    have e7:=a3.e7;have e8:=a3.e8;simp-implicitDefEqProofs only[V,↓reduceIte,rA,e9,dW,e7,e8,wi,wj];refine K _ _ _ (i+1) (j+1) (a3.to ?_ ?_ ?_ ?_ ?_) om om (j5 _) om
    all_goals try simp-implicitDefEqProofs only[V,↓reduceIte,rA]
    grind
   ·have dW:decide (W=0)=U:=by grind
    simp-implicitDefEqProofs only[V,↓reduceIte,e9,dW];refine(aAW (a3.to (s':=_) (i':=i) (j':=j) ?_ ?_ ?_ ?_ ?_) hN hM ho (w:=u) (rw':=ru) hu (W:=W) ?_).mono ?_
    all_goals try simp-implicitDefEqProofs only[V,↓reduceIte,rA,a3.e7,a3.e8,e9]
    ·grind
    rintro e s4 ⟨rfl,v',a4⟩;have e7:=a4.e7;have e8:=a4.e8;simp-implicitDefEqProofs only[V,↓reduceIte,rA,e7,e8,wi,wj];refine K _ _ _ (i+1) (j+1) (a4.to ?_ ?_ ?_ ?_ ?_) om om Gr om
    all_goals try simp-implicitDefEqProofs only[V,↓reduceIte,rA]
    grind
theorem Ct{x y:Ln}(hN:x.ts.l.length<=24)(hM:y.ts.l.length<=24):∀(m:Nat) (s:St) (v:AV) (out:List Tm) (k:Int) (i j:Nat),AI x y s v out k i j->i<=x.ts.l.length->j<=y.ts.l.length->(x.ts.l.length-i)+(y.ts.l.length-j)<=m->out.length+m<=48->
  Run E1 o7 s λe s'=>e=.exit 0/\∃v out k i j,AI x y s' v out k i j/\out.length<=48
 |m,s,v,out,k,i,j,a,hi,hj,hm,ho=>by
  have a0:=a;obtain⟨rv,hn,nt,g0,g1,g2,g3,e2,e3,e4,e6,e7,e8,hf⟩:=a;have c0:=U301;have c1:=U317;refine az (b:=mE) rfl ?_
  by_cases hil:i<x.ts.l.length
  ·have dI:decide ((i:Int)<(x.ts.l.length:Nat))=J:=by grind
   simp-implicitDefEqProofs only[mE,V,↓reduceIte,rA,e2,e7,g0,c0,dI];refine Kj hN hM (a0.to (s':=_) (i':=i) (j':=j) ?_ ?_ ?_ ?_ ?_) hi hj (.inl hil) om ?_
   all_goals try simp-implicitDefEqProofs only[V,↓reduceIte,rA,e7,e8]
   ·intro t ht _ _
    repeat rw[if_neg om]
   intro s1 v' out' i' j' a1 h1 h2 h3 h4
   trace_state
   show Run E1 o7 s1 _
   match m,hm,ho with
   |0,hm,ho=>omega
   |m+1,hm,ho=>exact Ct hN hM m _ _ _ _ _ _ a1 h1 h2 om om
  ·have dI:decide ((i:Int)<(x.ts.l.length:Nat))=U:=by grind
   by_cases hjl:j<y.ts.l.length
   ·have dJ:decide ((j:Int)<(y.ts.l.length:Nat))=J:=by grind
    simp-implicitDefEqProofs only[mE,V,↓reduceIte,rA,e2,e3,e7,e8,g0,g1,c0,c1,dI,dJ];refine Kj hN hM (a0.to (s':=_) (i':=i) (j':=j) ?_ ?_ ?_ ?_ ?_) hi hj (.inr hjl) om ?_
    all_goals try simp-implicitDefEqProofs only[V,↓reduceIte,rA,e7,e8]
    ·intro t ht _ _
     repeat rw[if_neg om]
    intro s1 v' out' i' j' a1 h1 h2 h3 h4;show Run E1 o7 s1 _
    match m,hm,ho with
    |0,hm,ho=>omega
    |m+1,hm,ho=>exact Ct hN hM m _ _ _ _ _ _ a1 h1 h2 om om
   ·have dJ:decide ((j:Int)<(y.ts.l.length:Nat))=U:=by grind
    simp-implicitDefEqProofs only[mE,V,↓reduceIte,rA,e2,e3,e7,e8,g0,g1,c0,c1,dI,dJ];refine⟨v,out,k,i,j,a0.to (s':=_) ?_ ?_ ?_ ?_ ?_,om⟩
    all_goals try simp-implicitDefEqProofs only[V,↓reduceIte,rA,e7,e8]
    intro t ht _ _
    repeat rw[if_neg om]
set_option maxHeartbeats 1000000
set_option maxRecDepth 100000
theorem sr{P:Program}{α β:Type}(m:Sem α)(f:α->Sem β):bK P (m>>=f)=(bK P m).bind λa=>bK P (f a):=by
 show bK P (Sem.bind m f)=_
 induction m with
 |pure a=>rfl
 |program k ih=>exact ih P
 |mark _ k ih=>exact ih
 |_=>rfl
theorem vT{P:Program}{α:Type}(a:α):bK P (pure a)=Z a:=rfl
theorem bVT:E1.P.underlying 146=Z (.struct #[⟨ "Name",9,0,U,"","",0⟩,⟨ "N",3,1,U,"","",16⟩]):=by rfl
theorem u9:E1.P.underlying 9=Z .string:=by rfl
theorem u3:E1.P.underlying 3=Z (.int .i64):=by rfl
theorem uu(t:TypeId)(d:TypeDesc)(h:E1.P.underlying t=Z d):bK E1.P (underlying t)=Z d:=by
 show bK E1.P (match E1.P.underlying t with|some d=>pure d|none=>_)=_;rw[h];rfl
theorem bQY(cs:Array Value)(o:Nat)(v:Value)(h:cs[o]? =Z v):bK E1.P (part 9 cs o)=Z v:=by
 have:bK E1.P (isAgg 9)=Z U:=by rfl
 simp_all [part,sr,vT]
theorem bQZ(cs:Array Value)(o:Nat)(v:Value)(h:cs[o]? =Z v):bK E1.P (part 3 cs o)=Z v:=by
 have:bK E1.P (isAgg 3)=Z U:=by rfl
 simp_all [part,sr,vT]
theorem eq9(d:Nat)(a b:ByteArray):bK E1.P (Op.equalIn (d+1) 9 (.string a) (.string b))=Z (a==b):=by
 rfl
theorem eq3(d:Nat)(a b:Int):bK E1.P (Op.equalIn (d+1) 3 (.int .i64 a) (.int .i64 b))=Z (a==b):=by
 rfl
theorem bQM:E1.P.stoodInHeld 146=U:=kr
theorem bSF(d:Nat)(a b:ByteArray)(x y:Int):∃z,bK E1.P (Op.equalIn (d+2) 146 (.agg #[.string a,.int .i64 x]) (.agg #[.string b,.int .i64 y]))=Z z:=by
 rw[Op.equalIn,sr,uu 146 _ bVT];simp only[jn];rw[sr];have:bK E1.P program=Z E1.P:=rfl;simp only[this,jn,bQM,A6,if_false];have n1:("Name" :String)≠ "_" :=de;have n2:("N" :String)≠ "_" :=de;have a1:∀(u v:Value),bK E1.P (part 9 #[u,v] 0)=Z u:=λu v=>bQY _ _ _ rfl;have a2:∀(u v:Value),bK E1.P (part 3 #[u,v] 1)=Z v:=λu v=>bQZ _ _ _ rfl;simp only[List.forIn_toArray,List.forIn_cons,List.forIn_nil,sr,ne_eq,not_false_eq_true,if_true,jn,eq9, *];cases (a==b) with
 |false=>exact⟨U,rfl⟩
 |true=>
  simp only[Bool.not_true,A6,if_false,vT,jn,sr,a2,eq3];cases (x==y) with
  |false=>exact⟨U,rfl⟩
  |true=>exact⟨J,rfl⟩
theorem bWB:(E1.P.eqGuardType E1.P.depth 146)=U:=kr
theorem bBM(a b:ByteArray)(x y:Int):∃z,dM E1.P .neq 146 U (.agg [vS a,vI x]) (.agg [vS b,vI y])=Z (Vb z):=by
 have e1:flat (.agg [vS a,vI x])=Z (.agg #[.string a,.int .i64 x]):=rfl;have e2:flat (.agg [vS b,vI y])=Z (.agg #[.string b,.int .i64 y]):=rfl;obtain⟨z,hz⟩:=bSF 9998 a b x y;refine⟨!z,?_⟩;have hz:bK E1.P (Op.equalIn Op.maxDepth 146 (.agg #[.string a,.int .i64 x]) (.agg #[.string b,.int .i64 y]))=Z z:=hz;have hp:bK E1.P program=Z E1.P:=rfl;have hu:∀(α:Type) (a:α),bK E1.P (pure a)=Z a:=λ_ _=>rfl;simp only[dM,eqGuard,binOp,Op.equal,sr,Bool.not_true,A6,if_false,jn,bWB,Bool.not_false,if_true, *];rfl
def boolP(t:AV):Prop:=∃b:Bool,t=Vb b
theorem Qa(x y:Ln)(hN:x.ts.l.length<2^60)(hl:x.ts.l.length=y.ts.l.length):∀(r r':List Tm) (i:Nat) (s:St),x.ts.l.drop i=r->y.ts.l.drop i=r'->i<=x.ts.l.length->2<=s.h.next->s.h.get 0=Z (.cells x.cells J)->s.h.get 1=Z (.cells y.cells J)->
  s.eval (.t 2)=Z (.ptr 0 0)->s.eval (.t 3)=Z (.ptr 1 0)->s.eval (.t 5)=Z (vI (i:Nat))->s.defers=[]->
  Run E1 oR s λe s'=>s'.defers=[]/\(e=.exit 0\/(e=.ret/\s'.eval (.t 4)=Z (Vb U)))
 | [],r',i,s,hd,hd',hi,hn,g0,g1,h2,h3,h5,hf=>by
  have hl:=ca hd hi;subst hl;have c0:=U301;apply az (rfl:oR=.loop mf);simp[mf,V, *]
 |a::r,[],i,s,hd,hd',hi,hn,g0,g1,h2,h3,h5,hf=>by
  have:=cz hd;have h2:=congrArg List.length hd'
  grind
 |a::r,b::r',i,s,hd,hd',hi,hn,g0,g1,h2,h3,h5,hf=>by
  have hlt0:=cz hd;have hlt:=rj hlt0;have w1:=U204;have c0:=U301;have c1:=U317;have hix:aX 2 (x.ts.A Tm.cells) i=Z (.bD (vS a.nm:: vI a.c::r.flatMap Tm.cells)):=x.ts.at Tm.len hd;have hiy:aX 2 (y.ts.A Tm.cells) i=Z (.bD (vS b.nm:: vI b.c::r'.flatMap Tm.cells)):=y.ts.at Tm.len hd';have htk:∀(u v:AV) (l:List AV),takeN (Z 2) (u::v::l)=Z (.agg [u,v]):=λ_ _ _=>rfl;obtain⟨z,hz⟩:=bBM a.nm b.nm a.c b.c;have k0:=U305;have k1:=U318;apply az (rfl:oR=.loop mf);simp only[mf,aKA,V,h2,h5,g0,c0,hlt,seval];refine pb rfl ?_
  simp[aJZ,X0,X1,X3,X4,V,h2,h3,h5,g0,g1,c0,c1,hix,hiy,htk,hz,k0,k1,an Vl.ids];cases z with
  |true=>simp[V,hf]
  |false=>
   simp only[V,h5,w1,seval];refine Qa x y hN hl r r' (i+1) _ (ba hd) (ba hd') om ?_ ?_ ?_ ?_ ?_ ?_ ?_
   all_goals try simp only[V,↓reduceIte,rA,h2,h3,hf,g0,g1]
   exact hn
theorem Rl(x y:Ln)(hN:x.ts.l.length<2^60):∃b:Bool,∀h,aE E1 (.f 134) [.agg x.cells,.agg y.cells] h (Vb b) h:=by
 obtain⟨t,⟨b,rfl⟩,hc⟩:=tI (g:=134) (l:=[.agg x.cells,.agg y.cells]) (P:=boolP) rf bFI (sE (Tree.ln x) (Tree.ln y)) λs hs hh hd hr=>by
  have h0:=hs 0 _ rfl;have h1:=hs 1 _ rfl;have c0:=U301;have c1:=U317;have c2:=U303;have c3:=U324
  by_cases hl:x.ts.l.length=y.ts.l.length
  ·have d1:decide (((x.ts.l.length:Nat):Int)=(y.ts.l.length:Nat))=J:=by grind
   by_cases hk:x.k=y.k
   ·have d2:decide (x.k=y.k)=J:=by grind
    simp[Vo,f134,V,h0,h1,hh,c0,c1,c2,c3,d1,d2];refine(Qa x y hN hl x.ts.l y.ts.l 0 _ rfl rfl (il _) ?_ ?_ ?_ ?_ ?_ ?_ ?_).mono ?_
    all_goals try simp only[V,↓reduceIte,rA,rB,reduceCtorEq,hd]
    ·decide
    ·rfl
    rintro e s1 ⟨d1,rfl|⟨rfl,e4⟩⟩
    ·simp only[V,WF,d1];exact⟨_,rfl,_,0,de,Rep.leaf (aj.val _),_,rfl⟩
    ·simp only[V, *];exact⟨_,rfl,_,0,de,Rep.leaf (aj.val _),_,rfl⟩
   ·have d2:decide (x.k=y.k)=U:=by grind
    exact U129
  ·have d1:decide (((x.ts.l.length:Nat):Int)=(y.ts.l.length:Nat))=U:=by grind
   exact U129
 exact⟨b,hc⟩
theorem aAA{h:AH}{lo k es:Nat}{v w:AV}{cs:List AV}(lw:aj w)(r:aV h lo k es v cs):∃h1,AM.freeze aU (.agg [v,w]) h=h1/\h1.next=h.next/\(∀x,x∉ids v->h1.get x=h.get x)/\ar h1 aU (.agg [v,w])=Z (.agg [fE k cs,w]):=by
 have key:∀n:Nat,∃h1,AM.freeze (n+3) (.agg [v,w]) h=h1/\h1.next=h.next/\(∀x,x∉ids v->h1.get x=h.get x)/\ar h1 (n+3) (.agg [v,w])=Z (.agg [fE k cs,w]):=λn=>by
  obtain⟨h1,e1,e2,e3,e4⟩:=Jq r n;refine⟨h1,?_,e2,e3,?_⟩
  ·rw[AM.freeze];simp;rw[e1,lw.2 h1 (n+1)]
  ·rw[ar.eq_def];simp only[List.mapM_cons,List.mapM_nil];rw[e4,lw.1 h1 (n+1)];rfl
 exact key 999999997
theorem Ew(x y:Ln):∃t,lnP t/\∀h,aE E1 (.f 165) [.agg x.cells,.agg y.cells] h t h:=by
 obtain⟨z,hz,hck⟩:=sU x;obtain⟨u,hu,hcu⟩:=sU y;refine tI rf bEX (sE (Tree.ln x) (Tree.ln y)) λs hs hh hd hr=>?_
 have h0:=hs 0 _ rfl;have h1:=hs 1 _ rfl;have tx:=U308;have ty:=U325;have hst:=U326
 by_cases z0:z=0
 ·subst z0
  by_cases u0:u=0
  ·subst u0;obtain⟨hN,_,_⟩:=hz rfl;obtain⟨hM,_,_⟩:=hu rfl;have c2:=U303;have c3:=U324;simp[pM,f165,V,WF,ac hck,ac hcu, *];refine(Ct hN hM (x.ts.l.length+y.ts.l.length) _ (.val (.slice Y 0 0)) [] (IntKind.i64.wrap (x.k+y.k)) 0 0 ⟨aV.nil,?_,?_,?_,?_,?_,?_,?_,?_,?_,?_,?_,?_,?_⟩ (il _) (il _) om Gr).mono ?_
   all_goals try simp only[V,↓reduceIte,rA,rB,reduceCtorEq,hd]
   ·decide
   ·exact ak.empty.alloc.alloc.alloc.alloc.put
   ·grind
   ·rfl
   ·rfl
   rintro e s1 ⟨rfl,v,out,k,i,j,a,ho⟩;obtain⟨rv,hn,nt,g0,g1,⟨zz,g2,lz⟩,g3,e2,e3,e4,e6,e7,e8,hf⟩:=a;obtain⟨t,⟨w,b,rfl,hw⟩,hr⟩:=Lx ⟨⟨out,ai,Y⟩,k⟩;obtain⟨h1',q1,q2,q3,q4⟩:=aAA (w:=vI k) (aj.val _) rv;have e:AV.agg [fE out.length (out.flatMap Tm.cells),vI k]=.agg (⟨⟨out,ai,Y⟩,k⟩:Ln).cells:=by rfl
   rw[e] at q4;obtain⟨h2,rc,hh2⟩:=vA (xs:=[]) (ys:=[]) (eJ (g:=210) rf) (λv hv=>by cases hv) (λv hv=>by cases hv) (Tree.ln _) q1 q4 hr
   have gg2:h2.get 2=Z (.cells zz J):=by
    rcases hh2 with rfl|rfl
    ·exact g2
    ·rw[q3 2 (λq=>by have:=(rv.ids 2 q).1;omega),g2]
   have hst2:stK h2 2 2 0 w.cells (Z (.cells zz J))=Z (h2.put 2 (Z (.cells w.cells J))):=cy lz w.len;have tw:takeN (Z 2) w.cells=Z (.agg w.cells):=by rfl
   simp[V,sW, *];refine gt (by simp only[V];exact rc) ?_
   simp only[V,WF,seval, *];have r2:=Rep.tup (h:=h2.put 2 (Z (.cells w.cells J))) (lo:=0) (hi:=h2.next) (n:=1) (ps:=[(.agg w.cells,.agg w.cells),(Vb b,Vb b)]) (λp hp=>by
    simp[jd] at hp;rcases hp with rfl|rfl
    ·exact sJ w.leaves
    ·exact Rep.leaf (aj.val _))
   exact⟨_,rfl,_,2,de,r2,w,b,rfl,hw⟩
  ·have dz:decide (u=0)=U:=by grind
   simp only[pM,f165,V,WF,ac hck,ac hcu,sW,seval, *];exact U310
 ·have dz:=U311;simp only[pM,f165,V,WF,ac hck,sW,seval, *];exact U310
def fmP(t:AV):Prop:=∃(y:Ln) (z:Int),t=.tup [.agg y.cells,vI z]/\y.ts.l.length<=24
theorem aSU{h:AH}(y:Ln)(z:Int)(hy:y.ts.l.length<=24):∃t n,n<1000/\Rep h 0 h.next n (.tup [.agg y.cells,vI z]) t/\fmP t:=by
 have r2:=Rep.tup (h:=h) (lo:=0) (hi:=h.next) (n:=1) (ps:=[(.agg y.cells,.agg y.cells),(vI z,vI z)]) (λp hp=>by
  simp[jd] at hp;rcases hp with rfl|rfl
  ·exact sJ y.leaves
  ·exact Rep.leaf (aj.val _))
 exact⟨_,2,de,r2,y,z,rfl,hy⟩
theorem xE(x:Ln):∃t,fmP t/\∀h,aE E1 (.f 99) [.agg x.cells] h t h:=by
 obtain⟨z,hz,hck⟩:=sU x;refine tI rf bLJ (qr (Tree.ln x)) λs hs hh hd hr=>?_
 have h0:=hs 0 _ rfl;have hck':∀h,aE E1 (.f 129) [.agg [x.ts.A Tm.cells,vI x.k]] h (vI z) h:=hck;have tx:=U308;have hst:=U326;have c0:=U301;have c1:=U303;have fin:∀(h:AH) (q z:Int),∃rs,Z [AV.agg [.val (.slice Y 0 0),vI q],vI z]=Z rs/\∃t n,n<1000/\Rep h 0 h.next n (bQ rs) t/\fmP t:=λh q z=>⟨_,rfl,aSU ⟨⟨[],ai,Y⟩,q⟩ z (il _)⟩
 by_cases z0:z=0
 ·subst z0;have ok:=hz rfl;have hN:=ok.n
  by_cases hl:x.ts.l.length=0
  ·have dl:=U327
   by_cases k1:0<x.k
   ·have dk:decide (0<x.k)=J:=by grind
    exact U130
   ·have dk:decide (0<x.k)=U:=by grind
    by_cases k2:x.k<0
    ·have dk2:decide (x.k<0)=J:=by grind
     exact U130
    ·have dk2:decide (x.k<0)=U:=by grind
     exact U130
  ·have dl:=U328;obtain⟨g0,⟨g1,g2⟩,hcm⟩:=Ks x ok;have g3:=g2 om;have hcm':∀h,aE E1 (.f 132) [.agg [x.ts.A Tm.cells,vI x.k]] h (vI (g0:Nat)) h:=hcm;have ix:ids (.agg [x.ts.A Tm.cells,vI x.k])=[]:=x.ah;have hgc:=Ee (g0:Nat) x.k (uj.2 om) ok.k;obtain⟨g,hg⟩:∃g,Nat.gcd ((g0:Nat):Int).natAbs x.k.natAbs=g:=⟨_,rfl⟩;have gp:0<g:=Gr;have gl:g<=1000000000000:=by grind [Nat.gcd_le_left]
   rw[hg] at hgc;obtain⟨a,ra,ha⟩:=re (l:=x.ts.l) (j:=0) om;have hix:aX 2 (x.ts.A Tm.cells) 0=Z (.bD (vS a.nm:: vI a.c::ra.flatMap Tm.cells)):=x.ts.at Tm.len ha;have hfa:=U321;obtain⟨H,hH⟩:∃H,(AH.empty.alloc (.cells x.cells J)).alloc (.cells [.val (.slice Y 0 0),vI 0] J)=H:=⟨_,rfl⟩;have Hn:H.next=2:=by rw[<-hH];rfl
   have H0:=U313;have H1:=U314;have k0:=U315;have k1:=U316;have hz0:∀(y:Ln),stK H 1 2 0 y.cells (Z (.cells [.val (.slice Y 0 0),vI 0] J))=Z (H.put 1 (Z (.cells y.cells J))):=λy=>cy rfl y.len;simp only[Tk,f99,aVE,V,sW,ac hck',seval, *];refine pb rfl ?_
   simp[aVC,X0,X1,X2,X3,X4,V,c0,c1,sW,an ix,ge ix,ee hcm',ee hgc,H0,k0]
   by_cases hs0:a.c<0
   ·have ds:decide (a.c<0)=J:=by grind
    have w1:IntKind.i64.wrap ((g:Int)* -1)= -(g:Int):=by grind [Gw]
    have hq:=λ(P:Program) (t:TypeId) (g':Bool)=>Nh (P:=P) (t:=t) (g:=g') (k:=.i64) (a:=x.k) (b:= -(g:Int)) om;obtain⟨y,hy,hdv⟩:=wV x hN (-(g:Int)) (IntKind.i64.wrap (x.k.tdiv (-(g:Int)))) om;have hdv':∀h,aE E1 (.f 133) [.agg [x.ts.A Tm.cells,vI x.k],vI (-(g:Int)),vI (IntKind.i64.wrap (x.k.tdiv (-(g:Int))))] h (.agg y.cells) h:=hdv;exact U131
   ·have ds:decide (a.c<0)=U:=by grind
    have w1:IntKind.i64.wrap ((g:Int)*1)=(g:Int):=by grind [Gw]
    have hq:=λ(P:Program) (t:TypeId) (g':Bool)=>Nh (P:=P) (t:=t) (g:=g') (k:=.i64) (a:=x.k) (b:=(g:Int)) om;obtain⟨y,hy,hdv⟩:=wV x hN ((g:Int)) (IntKind.i64.wrap (x.k.tdiv ((g:Int)))) om;have hdv':∀h,aE E1 (.f 133) [.agg [x.ts.A Tm.cells,vI x.k],vI ((g:Int)),vI (IntKind.i64.wrap (x.k.tdiv ((g:Int))))] h (.agg y.cells) h:=hdv;exact U131
 ·have dz:=U311;simp only[Tk,f99,V,WF,h0,hh,hd,tx,ac hck,dz,hst,sW,seval];exact U329
end Go.Proofs.YtmbabhlmdhghdaaGreatDoor
