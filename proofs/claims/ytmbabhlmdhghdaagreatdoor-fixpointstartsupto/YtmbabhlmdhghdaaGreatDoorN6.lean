/- VChos VNot VWith VChs VIns VCho VInst VAll VPlaw VStl -/
import Derived.Test.YtmbabhlmdhghdaaGreatDoorN5
set_option linter.all false
open Nat renaming reduceEqDiff->rA, reduceAdd->rB, reduceMul->rC
open Int renaming reduceEq->rD, reduceLT->rE, reduceLE->rF
open Option renaming some->Z, none->Y
open Bool renaming true->J, false->U
open Bool renaming and_eq_true->im, and_self->ja
open List renaming all_cons->j9, all_nil->jc, append_nil->jm, cons_append->jj, getElem?_map->Av, length->A7, length_append->jh, length_cons->jf, length_map->A4, mem_append->jv, mem_cons_of_mem->iy, mem_cons_self->ip, mem_map->js, mem_of_mem_drop->jp, mem_singleton->jb, nil_append->ju, replicate->jr
open Nat renaming beq->ig, ble->ii, blt_eq->j8, eq_zero_or_pos->Bf, le_refl->ij, le_succ->j5, le_trans->jg, lt_succ_self->je, mul_le_mul_right->jy, pow_le_pow_right->B5, zero_le->il
open Go.Proofs.Tryz renaming prog->ib
namespace Go.Proofs.YtmbabhlmdhghdaaGreatDoor
open Go Go.AM
set_option maxHeartbeats 4000000
def iU(n:Nat):List AV:=[vI (n:Nat)]
theorem Ip(n:Nat):(iU n).length=1:=rfl
def chS(n:Nat):List Nat->Bool
 | []=>U
 |a::r=>decide ((a:Int)=(n:Int))||chS n r
theorem Qi(n:Nat)(w:Vl Nat)(hN:w.l.length<2^61):∀(r:List Nat) (i:Nat) (s:St),w.l.drop i=r->i<=w.l.length->
  s.eval (.t 0)=Z (w.A iU)->s.eval (.t 1)=Z (vI (n:Nat))->s.eval (.t 5)=Z (vI (i:Nat))->s.defers=[]->
  Run E1 oY s λe s'=>s'.defers=[]/\((chS n r=U/\e=.exit 0)\/(chS n r=J/\e=.ret/\s'.eval (.t 4)=Z (Vb J)))
 | [],i,s,hd,hi,h0,h1,h5,hf=>by
  have hl:=ca hd hi;subst hl;apply az (rfl:oY=.loop kz);simp[kz,V,chS, *]
 |a::r,i,s,hd,hi,h0,h1,h5,hf=>by
  have hl:=cz hd;have hlt:=rj hl;have w1:=U204;have hix:=U276;apply az (rfl:oY=.loop kz);rw[chS];cases hc:decide ((a:Int)=(n:Int)) with
  |true=>simp only[kz,V,seval, *]
  |false=>
   simp only[kz,V,seval, *];refine Qi n w hN r (i+1) _ (ba hd) om ?_ ?_ ?_ ?_
   all_goals simp only[V,↓reduceIte,rA,reduceCtorEq,h0,h1,hf]
theorem Ku(w:Vl Nat)(n:Nat)(hN:w.l.length<2^61)(h:AH):aE E1 (.f 124) [w.A iU,vI (n:Nat)] h (Vb (chS n w.l)) h:=by
 refine s5 rf bFS (sE Tree.vl (Tree.val _)) rfl (Tree.val _) (λs hs hh hd hr=>?_) h;have h0:=hs 0 _ rfl;have h1:=hs 1 _ rfl;simp[aKS,f124,V];refine(Qi n w hN w.l 0 _ rfl (il _) ?_ ?_ ?_ ?_).mono ?_
 all_goals try simp only[V,↓reduceIte,rA,reduceCtorEq,h0,h1,hd]
 ·rfl
 rintro e s1 ⟨d1,⟨q,rfl⟩|⟨q,rfl,q2⟩⟩
 ·simp[V, *]
 ·simp[V, *]
def Pr.neg(a:Pr):Pr:=.mk 14 ⟨#[]⟩ 0 [a] Y (Z 1)
def notE(p:Pr):Pr:=bif p.eX then fPr else bif p.same fPr then tPr else p.neg
def fQ(p:Pr):Pr:=bif decide (p.op=14) then(match p.ks with
 | [k]=>k
 |_=>notE p) else notE p
theorem aGC{s:St}{p:Pr}{C:Nat}(hb:p.nodes<2^61)(hC:C<s.h.next)(gC:s.h.get C=Z (.cells p.cells J))(h1:s.eval (.t 1)=Z (.ptr C 0)):
  Run E1 aGD s λe s'=>e=.normal/\s'.h=s.h/\s'.defers=s.defers/\s'.eval (.t 21)=Z (Vb (p.same fPr))/\∀j,j<19->s'.eval (.t j)=s.eval (.t j):=by
 have nC:=U256;have nm:ids p.av=[]:=p.ah;have nf:=U257;refine yo (ops:=aGB) rfl ?_
 simp only[aGB,iC,pf,j9,jc,V,me nm,pv nm,seval, *];exact U114
def kV:aF:=(.seq (.seq (.region [⟨Z 16,Y,.load (Z 4) (.t 1)⟩,⟨Z 17,Y,.call 56 [.t 16]⟩])
 (.cond (.t 17) (.seq (.region [⟨Z 18,Y,.call 55 []⟩,⟨Y,Y,.store 4 (.t 2) (.t 18)⟩])
 .ret) .skip))
 (.seq (.seq aGD
 (.cond (.t 21) (.seq (.region [⟨Z 22,Y,.call 54 []⟩,⟨Y,Y,.store 4 (.t 2) (.t 22)⟩])
 .ret) .skip))
 (.seq (.region [⟨Z 23,Y,.load (Z 4) (.t 1)⟩,⟨Z 24,Y,.buildSlice 4 1 [vI 0,vS ⟨#[]⟩,vI 0,.val (.slice Y 0 0)] [(0,4,(.t 23))]⟩,⟨Z 25,Y,.build [vI 0,vS ⟨#[]⟩,vI 0,.val (.slice Y 0 0)] [(0,1,(.c (vI 14))),(3,1,(.t 24))]⟩,⟨Y,Y,.store 4 (.t 2) (.t 25)⟩])
 .ret)))
theorem bNB:f36=.seq (.region [⟨Z 1,Y,.box (.t 0)⟩,⟨Z 2,Y,.alloc [vI 0,vS ⟨#[]⟩,vI 0,.val (.slice Y 0 0)]⟩]) (.seq (.seq (.region [⟨Z 3,Y,.fieldAddr 0 (.t 1)⟩,⟨Z 4,Y,.load Y (.t 3)⟩,⟨Z 5,Y,.bin .eql 40 J (.t 4) (.c (vI 14))⟩,⟨Z 6,Y,.mv (.t 5)⟩,⟨Z 7,Z (6,J),.fieldAddr 3 (.t 1)⟩,⟨Z 8,Z (6,J),.load Y (.t 7)⟩,⟨Z 9,Z (6,J),.fI (.t 8)⟩,⟨Z 10,Z (6,J),.bin .eql 3 J (.t 9) (.c (vI 1))⟩,⟨Z 11,Y,.pick (.t 6) (.t 10) (.c (Vb U))⟩])
 (.cond (.t 11) (.seq (.region [⟨Z 12,Y,.fieldAddr 3 (.t 1)⟩,⟨Z 13,Y,.load Y (.t 12)⟩,⟨Z 14,Y,.bT 4 (.t 13) (.c (vI 0))⟩,⟨Z 15,Y,.load (Z 4) (.t 14)⟩,⟨Y,Y,.store 4 (.t 2) (.t 15)⟩])
 .ret) .skip)) kV):=rfl
theorem Uh{s:St}{p:Pr}{z:List AV}(hb:p.nodes<2^60)(hn:s.h.next=2)(g0:s.h.get 0=Z (.cells p.cells J))(g1:s.h.get 1=Z (.cells z J))(lz:z.length=4)(h1:s.eval (.t 1)=Z (.ptr 0 0))(h2:s.eval (.t 2)=Z (.ptr 1 0))(hd:s.defers=[]):
  wp E1 kV s λe s'=>(e=.normal\/e=.ret)/\s'.defers=[]/\∃r,ay E1.aY s' ny.res=Z [r]/\∃n,n<aU/\Rep s'.h 0 s'.h.next n r (notE p).av:=by
 have hv:=ug p om;rw[notE];cases hq:p.eX with
 |true=>
  rw[hq] at hv;simp only[kV,ny,V,WF,h1,h2,hd,g0,g1,cf p.len,ac hv,ac wJ,cy lz fPr.len,cf fPr.len,seval];exact U244
 |false=>
  rw[hq] at hv;simp[kV,ny,V,ac hv, *];refine(aGC (p:=p) (C:=0) om ?_ ?_ ?_).mono ?_
  all_goals try simp only[V,h1,seval]
  ·omega
  ·exact g0
  rintro e s1 ⟨rfl,eh,d1,t21,k1⟩
  try simp[hd] at eh d1
  have u1:s1.eval (.t 1)=Z (.ptr 0 0):=Gr;have u2:s1.eval (.t 2)=Z (.ptr 1 0):=Gr;have e0:s1.h.get 0=Z (.cells p.cells J):=Gr;have e1:s1.h.get 1=Z (.cells z J):=Gr;have en:s1.h.next=2:=Gr;cases hs:p.same fPr with
  |true=>
   rw[hs] at t21;simp only[V,WF,t21,ac tu,u2,e1,cy lz tPr.len,d1,seval];exact U243
  |false=>
   rw[hs] at t21;simp only[V,WF,t21,u1,u2,e0,e1,en,sX,cf p.len,cy lz (show([AV.val (.int .i64 14),vS ⟨#[]⟩,vI 0,.own 2 0 1 4 (Z 1)]).length=4 from rfl),cf (show([AV.val (.int .i64 14),vS ⟨#[]⟩,vI 0,.own 2 0 1 4 (Z 1)]).length=4 from rfl),d1,seval];refine⟨_,rfl,3,de,?_⟩;have leaf:∀(H:AH) (v:Value),Rep H 0 3 2 (.val v) (.val v):=λH v=>Rep.leaf (aj.val v);have ho:Rep ((s1.h.alloc (.cells p.cells J)).put 1 (Z (.cells [vI 14,vS ⟨#[]⟩,vI 0,.own 2 0 1 4 (Z 1)] J))) 0 3 2 (.own 2 0 1 4 (Z 1)) (.imm p.cells 1 (Z 1)):=by
    have:=Rep.own (h:=(s1.h.alloc (.cells p.cells J)).put 1 (Z (.cells [vI 14,vS ⟨#[]⟩,vI 0,.own 2 0 1 4 (Z 1)] J))) (lo:=0) (hi:=3) (n:=1) (b:=2) (k:=1) (es:=4) (cap:=Z 1) (rw:=J) (ps:=p.cells.map λv=>(v,v)) de de (by
     grind [bc,bGI,co]) (by rw[A4,p.len]) (Hr (n:=0) p)
    grind [bGH]
   have:=Rep.agg (h:=(s1.h.alloc (.cells p.cells J)).put 1 (Z (.cells [vI 14,vS ⟨#[]⟩,vI 0,.own 2 0 1 4 (Z 1)] J))) (lo:=0) (hi:=3) (n:=2) (ps:=[(vI 14,vI 14),(vS ⟨#[]⟩,vS ⟨#[]⟩),(vI 0,vI 0),(.own 2 0 1 4 (Z 1),.imm p.cells 1 (Z 1))]) λq hq=>by
    grind
   simp_all [Pr.neg,Pr.av,Pr.cells,Pr.aG,cV]
theorem aDY(p:Pr)(hb:p.nodes<2^60)(h:AH):aE E1 (.f 36) [p.av] h (fQ p).av h:=by
 refine aDQ rf bNA (qr (Tree.pr p)) (λs hs hh hd hr=>?_) h;have h0:=hs 0 _ rfl;have hz4:=U260;have hp:=p.bS;have hk:oL p.kids=Z (vI (p.ks.length:Nat)):=Zr p;show wp E1 f36 s _;rw[bNB];have tail:∀s1:St,s1.h=((AH.empty.alloc (.cells p.cells J)).alloc (.cells [AV.val (.int .i64 0),vS ⟨#[]⟩,vI 0,.val (.slice Y 0 0)] J))->s1.defers=[]->s1.eval (.t 1)=Z (.ptr 0 0)->s1.eval (.t 2)=Z (.ptr 1 0)->fQ p=notE p->
   wp E1 kV s1 λe s'=>(e=.normal\/e=.ret)/\s'.defers=[]/\∃r,ay E1.aY s' ny.res=Z [r]/\∃n,n<aU/\Rep s'.h 0 s'.h.next n r (fQ p).av:=λs1 e1 e2 e3 e4 e5=>by
  rw[e5];exact Uh hb (by rw[e1];rfl) (by rw[e1];rfl) (by rw[e1];exact co (h:=AH.empty.alloc (.cells p.cells J))) hz4 e3 e4 e2
 cases ho:decide (p.op=14) with
 |false=>
  have hn:fQ p=notE p:=by grind [fQ]
  simp[V,h0,hh,ho];refine tail _ ?_ ?_ ?_ ?_ hn
  all_goals simp[V,hd]
 |true=>
  cases hl:decide ((p.ks.length:Int)=1) with
  |false=>
   have hn:fQ p=notE p:=by
    rw[fQ,ho,cond_true]
    grind
   simp[V,h0,hh,ho,hl];refine tail _ ?_ ?_ ?_ ?_ hn
   all_goals simp[V,hd]
  |true=>
   have hl':=of_decide_eq_true hl
   match hks:p.ks with
   | [k]=>
    have hn:fQ p=k:=by simp_all [fQ]
    have hix:aX 4 p.kids 0=Z (.bD (k.cells++Pr.aG [])):=by grind [sY]
    simp only[V,WF,ny,h0,hh,hd,ho,hk,hl,hix,cy hz4 k.len,cf k.len,seval];rw[hn];exact⟨_,rfl,1,de,sJ k.leaves⟩
   | []=>grind
   |_::_::_=>grind
theorem aDJ{k:Nat}{cs:List AV}:(fE k cs).cells=Z [fE k cs]:=by
 unfold fE;cases ig k 0<;>rfl
theorem bGV(o n:Int)(nm:ByteArray)(l:List Pr):(Pr.mk o nm n l ai Y).av=.agg [vI o,vS nm,vI n,fE l.length (Pr.aG l)]:=by
 rfl
theorem Ww(p:Pr)(l:List Pr)(h:AH):aE E1 (.f 57) [p.av,fE l.length (Pr.aG l)] h (Pr.mk p.op p.nm p.n l ai Y).av h:=by
 refine sf rf bMO (sE (Tree.pr p) tT.tree) (λs hs hh hd hr=>?_) h;have h0:=hs 0 _ rfl;have h1:=hs 1 _ rfl;have hp:=p.bS;simp only[aWW,f57,V,WF,h0,h1,hh,hd,aDJ,seval];refine⟨_,rfl,1,de,?_⟩;rw[bGV];refine sJ λc hc=>?_
 simp[List.mem_nil_iff] at hc;rcases hc with rfl|rfl|rfl|rfl<;>grind [aj.val,tT]
theorem Wv{p:Pr}{l:List Pr}{lo:Nat}{v:AV}(h:AH)(r:aV h lo l.length 4 v (Pr.aG l)):∃h2,aE E1 (.f 57) [p.av,v] h (Pr.mk p.op p.nm p.n l ai Y).av h2/\h2.next=h.next/\∀x,x<lo->h2.get x=h.get x:=by
 obtain⟨h1,f1,f2,f3,f4⟩:=tP r;obtain⟨h2,c,e⟩:=vA (xs:=[p.av]) (ys:=[]) (t:=(Pr.mk p.op p.nm p.n l ai Y).av) (eJ (g:=57) rf) (qr (Tree.pr p)) (λv hv=>by cases hv) tT.tree f1 f4 (λh=>Ww p l h)
 refine⟨h2,c,?_,λx hx=>?_⟩
 ·grind
 ·rcases e with rfl|rfl
  ·rfl
  ·exact f3 x λhv=>by
    have:=(r.ids x hv).1;omega
mutual
def Pr.gi(l:List ByteArray)(bys:List Pr):Pr->Pr
 |.mk o s n ks _ _=>match dx o s l bys with
  |some q=>q
  |none=>.mk o s n (Pr.jA l bys ks) ai Y
def Pr.jA(l:List ByteArray)(bys:List Pr):List Pr->List Pr
 | []=>[]
 |k::r=>k.gi l bys::Pr.jA l bys r
end
theorem Nl(l:List ByteArray)(bys:List Pr):∀ks:List Pr,Pr.jA l bys ks=ks.map (Pr.gi l bys)
 | []=>rfl
 |k::r=>by rw[Pr.jA,Nl l bys r];rfl
theorem aAL(p:Pr){F:Pr->Pr}{a1 a2:AV}(hN:p.ks.length<2^29):∀(r:List Pr) (i:Nat) (s:St) (v:AV),p.ks.drop i=r->i<=p.ks.length->(∀k∈r,∀h,aE E1 (.f 87) [k.av,a1,a2] h (F k).av h)->aV s.h 2 i 4 v (Pr.aG ((p.ks.take i).map F))->2<=s.h.next->
  s.eval (.t 1)=Z a1->s.eval (.t 2)=Z a2->s.eval (.t 3)=Z (.ptr 0 0)->s.eval (.t 6)=Z (.ptr 1 0)->s.eval (.t 8)=Z v->s.eval (.t 31)=Z p.kids->s.eval (.t 32)=Z (vI (p.ks.length:Nat))->s.eval (.t 33)=Z (vI (i:Nat))->s.defers=[]->
  Run E1 qz s λe s'=>e=.exit 0/\s'.defers=[]/\s'.eval (.t 3)=Z (.ptr 0 0)/\s'.eval (.t 6)=Z (.ptr 1 0)/\2<=s'.h.next/\(∀x,x<2->s'.h.get x=s.h.get x)/\∃v',s'.eval (.t 8)=Z v'/\aV s'.h 2 (p.ks.map F).length 4 v' (Pr.aG (p.ks.map F))
 | [],i,s,v,hd,hi,hc,hr,hn,h1,h2,h3,h6,h8,h31,h32,h33,hf=>by
  have hl:=ca hd hi;subst hl;rw[List.take_length] at hr;apply az (rfl:qz=.loop qR);simp only[qR,V,↓reduceIte,rA,h3,h6,h8,h32,h33,hf,tE]
  grind
 |k::r,i,s,v,hd,hi,hc,hr,hn,h1,h2,h3,h6,h8,h31,h32,h33,hf=>by
  have hl:=cz hd;have hlt:=rj hl;have w1:=U204;apply az (rfl:qz=.loop qR);simp only[qR,V,↓reduceIte,rA,WF,h1,h2,h8,h31,h32,h33,hlt,wq p i k r hd,cf k.len,ac (hc k ip),sX];refine uo (k:=i) (m:=1) (lo:=2) (v:=v) (x:=.own (s.h.next+1) 0 1 4 (Z 1)) (cs:=Pr.aG ((p.ks.take i).map F)) (new:=(F k).cells) ?_ ?_ ?_ de (by rw[(F k).len]) (F k).leaves (lR om de) ?_ ?_ ?_
  ·exact U37
  ·exact U31
  ·refine kl (rw':=J) ?_ (by rw[(F k).len])
   exact U33
  ·exact U29
  ·exact U33
  intro h2' r2 n2 o2;simp only[V] at n2 o2 r2;simp only[V,↓reduceIte,rA,h33,w1];refine(aAL p hN r (i+1) _ (.own (s.h.next+1+1) 0 (i+1) 4 Y) (ba hd) om (λk' hk'=>hc k' (iy _ hk')) ?_ ?_ ?_ ?_ ?_ ?_ ?_ ?_ ?_ ?_ ?_).mono ?_
  ·simp only[V]
   grind [pl]
  ·exact U31
  all_goals try simp only[V,↓reduceIte,rA,h1,h2,h3,h6,h31,h32,hf]
  rintro e s2 ⟨rfl,d2,e3,e6,n3,o3,v2,e8,r3⟩;refine⟨rfl,d2,e3,e6,n3,λx hx=>?_,v2,e8,r3⟩;exact U123
def mg:aF:=(.seq (.region [⟨Z 8,Y,.mv (.c (.val (.slice Y 0 0)))⟩])
 (.seq (.seq (.region [⟨Z 30,Y,.fieldAddr 3 (.t 3)⟩,⟨Z 31,Y,.load Y (.t 30)⟩,⟨Z 32,Y,.fI (.t 31)⟩,⟨Z 33,Y,.mv (.c (vI 0))⟩])
 (.block 0 qz))
 (.seq (.region [⟨Z 45,Y,.load (Z 4) (.t 3)⟩,⟨Z 46,Y,.mv (.t 8)⟩,⟨Z 47,Y,.call 57 [.t 45,.t 46]⟩,⟨Y,Y,.store 4 (.t 6) (.t 47)⟩])
 .ret)))
theorem bLW:f87=(.seq (.region [⟨Z 3,Y,.box (.t 0)⟩,⟨Z 6,Y,.alloc [vI 0,vS ⟨#[]⟩,vI 0,.val (.slice Y 0 0)]⟩])
 (.seq (.seq (.region [⟨Z 11,Y,.fieldAddr 0 (.t 3)⟩,⟨Z 12,Y,.load Y (.t 11)⟩,⟨Z 13,Y,.bin .eql 40 J (.t 12) (.c (vI 3))⟩])
 (.cond (.t 13) (.seq (.region [⟨Z 14,Y,.mv (.t 1)⟩,⟨Z 15,Y,.fieldAddr 1 (.t 3)⟩,⟨Z 16,Y,.load Y (.t 15)⟩,⟨Z 17,Y,.call 125 [.t 14,.t 16]⟩,⟨Z 7,Y,.mv (.t 17)⟩])
 (.seq (.region [⟨Z 18,Y,.mv (.t 7)⟩,⟨Z 19,Y,.bin .geq 3 J (.t 18) (.c (vI 0))⟩,⟨Z 20,Y,.mv (.t 19)⟩,⟨Z 21,Z (20,J),.mv (.t 7)⟩,⟨Z 22,Z (20,J),.mv (.t 2)⟩,⟨Z 23,Z (20,J),.fI (.t 22)⟩,⟨Z 24,Z (20,J),.bin .lss 3 U (.t 21) (.t 23)⟩,⟨Z 25,Y,.pick (.t 20) (.t 24) (.c (Vb U))⟩])
 (.cond (.t 25) (.seq (.region [⟨Z 26,Y,.mv (.t 2)⟩,⟨Z 27,Y,.mv (.t 7)⟩,⟨Z 28,Y,.bT 4 (.t 26) (.t 27)⟩,⟨Z 29,Y,.load (Z 4) (.t 28)⟩,⟨Y,Y,.store 4 (.t 6) (.t 29)⟩])
 .ret) .skip))) .skip))
 mg)):=rfl
theorem Tq{p:Pr}{F:Pr->Pr}{a1 a2:AV}{s:St}(hN:p.ks.length<2^29)(hc:∀k∈p.ks,∀h,aE E1 (.f 87) [k.av,a1,a2] h (F k).av h)(hn:s.h.next=2)(g0:s.h.get 0=Z (.cells p.cells J))(g1:s.h.get 1=Z (.cells [vI 0,vS ⟨#[]⟩,vI 0,.val (.slice Y 0 0)] J))
  (h1:s.eval (.t 1)=Z a1) (h2:s.eval (.t 2)=Z a2) (h3:s.eval (.t 3)=Z (.ptr 0 0)) (h6:s.eval (.t 6)=Z (.ptr 1 0)) (hd:s.defers=[]):
  wp E1 mg s λe s'=>(e=.normal\/e=.ret)/\s'.defers=[]/\∃r,ay E1.aY s' nI.res=Z [r]/\∃n,n<1000/\Rep s'.h 0 s'.h.next n r (Pr.mk p.op p.nm p.n (p.ks.map F) ai Y).av:=by
 simp[mg,V, *];refine(aAL p (F:=F) (a1:=a1) (a2:=a2) hN p.ks 0 _ (.val (.slice Y 0 0)) rfl (il _) hc aV.nil ?_ ?_ ?_ ?_ ?_ ?_ ?_ ?_ ?_ ?_).mono ?_
 all_goals try simp only[V,↓reduceIte,rA,h1,h2,h3,h6,hn,hd]
 all_goals try omega
 ·rfl
 rintro e s1 ⟨rfl,d1,e3,e6,n1,o1,v,e8,r1⟩
 try simp only[V,↓reduceIte,rA,rB,rC,reduceCtorEq,rD,rE,rF] at o1
 have q0:s1.h.get 0=Z (.cells p.cells J):=Gr;have q1:=(o1 1 de).trans g1;obtain⟨h2',c,n2,o2⟩:=Wv (p:=p) s1.h r1;have q2:=(o2 1 de).trans q1;simp[V, *];refine gt (by simp only[V];exact c) ?_
 simp only[nI,V,WF,e6,q2,d1,seval];exact U277
theorem Xw(p:Pr)(v:Vl ByteArray)(w:Vl Pr)(F:Pr->Pr)(hN:p.ks.length<2^29)(hv:v.l.length<2^61)(hc:∀k∈p.ks,∀h,aE E1 (.f 87) [k.av,v.A bV,w.A Pr.cells] h (F k).av h)(h:AH):
  aE E1 (.f 87) [p.av,v.A bV,w.A Pr.cells] h (match dx p.op p.nm v.l w.l with|some q=>q|none=>Pr.mk p.op p.nm p.n (p.ks.map F) ai Y).av h:=by
 refine sf rf bLV (yy (Tree.pr p) Tree.vl Tree.vl) (λs hs hh hd hr=>?_) h;have h0:=hs 0 _ rfl;have h1:=hs 1 _ rfl;have h2:=hs 2 _ rfl;have tl:∀(s':St),s'.h.next=2->s'.h.get 0=Z (.cells p.cells J)->s'.h.get 1=Z (.cells [vI 0,vS ⟨#[]⟩,vI 0,.val (.slice Y 0 0)] J)->s'.eval (.t 1)=Z (v.A bV)->s'.eval (.t 2)=Z (w.A Pr.cells)->s'.eval (.t 3)=Z (.ptr 0 0)->s'.eval (.t 6)=Z (.ptr 1 0)->s'.defers=[]->dx p.op p.nm v.l w.l=Y->
   wp E1 mg s' λe s=>(e=.normal\/e=.ret)/\s.defers=[]/\∃r,ay E1.aY s nI.res=Z [r]/\∃n,n<1000/\Rep s.h 0 s.h.next n r (match dx p.op p.nm v.l w.l with|some q=>q|none=>Pr.mk p.op p.nm p.n (p.ks.map F) ai Y).av:=λs' a1 a2 a3 a4 a5 a6 a7 a8 a9=>by
  rw[a9];exact Tq hN hc a1 a2 a3 a4 a5 a6 a7 a8
 have hfn:nI.body=f87:=rfl;rw[hfn,bLW];cases ho:decide (p.op=3) with
 |false=>
  simp[V, *];refine tl _ ?_ ?_ ?_ ?_ ?_ ?_ ?_ ?_ (by simp_all [dx])
  all_goals simp only[V,↓reduceIte,rA,rB,reduceCtorEq,h1,h2,hd]
 |true=>
  cases hf:fnd p.nm v.l with
  |none=>
   have hI:iO p.nm v.l= -1:=by grind [iO]
   simp[V,ac (ul v p.nm hv), *];refine tl _ ?_ ?_ ?_ ?_ ?_ ?_ ?_ ?_ (by simp_all [dx])
   all_goals simp only[V,↓reduceIte,rA,rB,reduceCtorEq,h1,h2,hd]
   all_goals rfl
  |some i=>
   have hI:iO p.nm v.l=(i:Nat):=by grind [iO]
   have hge:decide ((0:Int)<=(i:Int))=J:=by rfl
   rcases Nat.lt_or_ge i w.l.length with hi|hi
   ·obtain⟨q,r,hq⟩:=U239;have hpk:dx p.op p.nm v.l w.l=Z q:=by
     exact U113
    simp only[nI,V,WF,ac (ul v p.nm hv),rj hi,w.at Pr.len hq,seval, *];exact⟨_,rfl,1,de,sJ q.leaves⟩
   ·have hlt:decide ((i:Int)<(w.l.length:Nat))=U:=by grind
    have hpk:dx p.op p.nm v.l w.l=Y:=by
     simp_all [dx]
    simp only[V,h0,h1,h2,hh,ho,ac (ul v p.nm hv),hI,hge,hlt,seval];refine tl _ ?_ ?_ ?_ ?_ ?_ ?_ ?_ ?_ hpk
    all_goals simp only[V,↓reduceIte,rA,rB,reduceCtorEq,h1,h2,hd]
    all_goals rfl
mutual
theorem vN(v:Vl ByteArray)(w:Vl Pr)(hv:v.l.length<2^61):∀(p:Pr),p.nodes<2^29->∀h,aE E1 (.f 87) [p.av,v.A bV,w.A Pr.cells] h (p.gi v.l w.l).av h
 |.mk o s n ks nl cap,hb,h=>by
  have hb':=U237;have hk:=U198;have:=Xw (.mk o s n ks nl cap) v w (Pr.gi v.l w.l) (by show ks.length<_;omega) hv (we v w hv ks om) h
  rw[show(Pr.mk o s n ks nl cap).gi v.l w.l=(match dx o s v.l w.l with|some q=>q|none=>Pr.mk o s n (Pr.jA v.l w.l ks) ai Y) by rfl,Nl]
  exact this
theorem we(v:Vl ByteArray)(w:Vl Pr)(hv:v.l.length<2^61):∀(l:List Pr),Pr.aI l<2^29->∀k∈l,∀h,aE E1 (.f 87) [k.av,v.A bV,w.A Pr.cells] h (k.gi v.l w.l).av h
 | [],_,k,hk,_=>by cases hk
 |p::r,hb,k,hk,h=>by
  have hb':=U238;rcases U201 with e|hk
  ·have:=vN v w hv p om h
   grind
  ·exact we v w hv r om k hk h
end
def pV(b:ByteArray):Pr:=.mk 3 b 0 [] ai Y
theorem aDS(b:ByteArray):AV.agg [vI 3,vS b,vI 0,.val (.slice Y 0 0)]=.agg (pV b).cells:=by rfl
def psN(l:List Vr)(j:Nat):ByteArray:=match l.drop j with
 | []=>⟨#[]⟩
 |v::_=>v.nm
theorem re{α:Type}{l:List α}{j:Nat}(h:j<l.length):∃v r,l.drop j=v::r:=by
 cases hd:l.drop j with
 |nil=>have:=congrArg A7 hd;grind
 |cons v r=>grind
theorem Sh{l:List Vr}{j:Nat}{v:Vr}{r:List Vr}(h:l.drop j=v::r):psN l j=v.nm:=by grind [psN]
theorem uh{n b:Nat}(h:n<2^30)(hb:b<=100):cW n b=J:=lR om hb
theorem Ox(q:Qu)(k:Ho)(w:Vl Nat)(hN:w.l.length<2^20)(hw:∀j∈w.l,j<k.ps.l.length):∀(r:List Nat) (u:List Vr) (i:Nat) (s:St) (v7 v8:AV) (ns:List ByteArray) (ps:List Pr),w.l.drop i=r->q.vs.l.drop i=u->r.length=u.length->i<=w.l.length->ns.length=i->ps.length=i->
  aV s.h 2 ns.length 1 v7 (ns.flatMap bV)->aV s.h 2 ps.length 4 v8 (Pr.aG ps)->(∀y∈ids v7,y∉ids v8)->2<=s.h.next->s.h.get 0=Z (.cells q.cells J)->s.h.get 1=Z (.cells k.cells J)->
  s.eval (.t 2)=Z (w.A iU)->s.eval (.t 3)=Z (.ptr 0 0)->s.eval (.t 4)=Z (.ptr 1 0)->s.eval (.t 7)=Z v7->s.eval (.t 8)=Z v8->s.eval (.t 9)=Z (vI (i:Nat))->s.defers=[]->
  Run E1 Ts s λe s'=>e=.exit 0/\s'.defers=[]/\s'.eval (.t 3)=Z (.ptr 0 0)/\2<=s'.h.next/\s'.h.get 0=Z (.cells q.cells J)/\∃v7 v8,s'.eval (.t 7)=Z v7/\s'.eval (.t 8)=Z v8/\(∀y∈ids v7,y∉ids v8)/\
   aV s'.h 2 (ns++u.map Vr.nm).length 1 v7 ((ns++u.map Vr.nm).flatMap bV)/\aV s'.h 2 (ps++r.map λj=>pV (psN k.ps.l j)).length 4 v8 (Pr.aG (ps++r.map λj=>pV (psN k.ps.l j)))
 | [],u,i,s,v7,v8,ns,ps,hd,hu,hlu,hi,ln,lp,r7,r8,dj,n2,g0,g1,h2,h3,h4,h7,h8,h9,hf=>by
  have hl:=ca hd hi;subst hl;have:u=[]:=Gr;subst this;apply az (rfl:Ts=.loop qU);simp only[qU,V,↓reduceIte,rA,h2,h3,h7,h8,h9,hf,tE,List.map_nil,jm]
  grind
 |a::r,[],i,s,v7,v8,ns,ps,hd,hu,hlu,hi,ln,lp,r7,r8,dj,n2,g0,g1,h2,h3,h4,h7,h8,h9,hf=>Gr
 |a::r,x::u,i,s,v7,v8,ns,ps,hd,hu,hlu,hi,ln,lp,r7,r8,dj,n2,g0,g1,h2,h3,h4,h7,h8,h9,hf=>by
  have hl:=cz hd;have hlt:=rj hl;have w1:=U204;have hix:=U276;have hqx:aX 2 (q.vs.A Vr.cells) i=Z (.bD (x.cells++u.flatMap Vr.cells)):=q.vs.at Vr.len hu;have ha:a<k.ps.l.length:=by grind [ip]
  obtain⟨y,z,hy⟩:=re ha;have hky:aX 2 (k.ps.A Vr.cells) a=Z (.bD (y.cells++z.flatMap Vr.cells)):=k.ps.at Vr.len hy;have c0:=U278;apply az (rfl:Ts=.loop qU);simp only[qU,V,↓reduceIte,rA,WF,h2,h3,h7,h9,hlt,g0,c0,hqx];refine uo (k:=ns.length) (m:=1) (lo:=2) (v:=v7) (x:=.own s.h.next 0 1 1 (Z 1)) (cs:=ns.flatMap bV) (new:=bV x.nm) ?_ ?_ ?_ de rfl (λc hc=>by rw[jb.1 hc];exact aj.val _) (uh om de) ?_ ?_ ?_
  ·simp only[V];exact r7.to (j5 _) λy _ y2=>by rw[am y2]
  ·exact U31
  ·refine kl (rw':=J) ?_ rfl;simp only[V,↓reduceIte];rfl
  ·exact U29
  ·exact U33
  intro h2' r7' n2' o2';simp only[V] at n2' o2';simp only[V] at r7';have fr:∀y,y<s.h.next->y∉ids v7->h2'.get y=s.h.get y:=Gr;have a0:h2'.get 0=Z (.cells q.cells J):=by rw[fr 0 om (λhv=>by have:=(r7.ids 0 hv).1;omega),g0]
  have a1:h2'.get 1=Z (.cells k.cells J):=by rw[fr 1 om (λhv=>by have:=(r7.ids 1 hv).1;omega),g1]
  have r8':aV h2' 2 ps.length 4 v8 (Pr.aG ps):=r8.toB om λy hy=>fr y (r8.ids y hy).2.1 λhv=>dj y hv hy;simp only[V,↓reduceIte];refine pb rfl ?_
  have kn8:=bz r8'.x.nice;have ns8:∀x,bp (h2'.alloc x) (Z v8)=J:=λx=>(r8'.to (h':=h2'.alloc x) (j5 _) λy _ y2=>am y2).x.nice;have kp:∀o,aN h2' (Z (.ptr 1 o))=J:=λo=>bm om a1 k.ah;have c1:=U279;simp only[aVU,X0,X1,X2,X3,X4,V,↓reduceIte,rA,WF,h2,h4,h8,h9,kn8,ns8,kp,a1,c1,hix,hky,an Vl.ids,aDS,an (Pr.ah _),Pr.bM,sX];refine uo (es:=4) (bytes:=56) (k:=ps.length) (m:=1) (lo:=2) (v:=v8) (x:=.own h2'.next 0 1 4 (Z 1)) (cs:=Pr.aG ps) (new:=(pV y.nm).cells) ?_ ?_ ?_ de rf (Pr.leaves _) (uh om de) ?_ ?_ ?_
  ·simp only[V];exact r8'.to (j5 _) λy _ y2=>am y2
  ·exact U31
  ·refine kl (rw':=J) ?_ rf;exact U33
  ·exact U29
  ·exact U33
  intro h3' r8n n3' o3';simp only[V] at n3' o3' r8n;simp only[X0,X3,X4,V,↓reduceIte,rA,h9,w1];have fr2:∀y,y<h2'.next->y∉ids v8->h3'.get y=h2'.get y:=Gr;have b0:h3'.get 0=Z (.cells q.cells J):=by rw[fr2 0 om (λhv=>by have:=(r8.ids 0 hv).1;omega),a0]
  have b1:h3'.get 1=Z (.cells k.cells J):=by rw[fr2 1 om (λhv=>by have:=(r8.ids 1 hv).1;omega),a1]
  have r7n:aV h3' 2 (ns.length+1) 1 (.own (s.h.next+1) 0 (ns.length+1) 1 Y) (ns.flatMap bV++bV x.nm):=r7'.toB om λy hy=>fr2 y (r7'.ids y hy).2.1 λhv=>by
   simp only[ids,jb] at hy;have:=(r8.ids y hv).2.1;omega
  refine(Ox q k w hN hw r u (i+1) _ (.own (s.h.next+1) 0 (ns.length+1) 1 Y) (.own (h2'.next+1) 0 (ps.length+1) 4 Y) (ns++[x.nm]) (ps++[pV (psN k.ps.l a)]) (ba hd) (ba hu) Gr om Gr Gr ?_ ?_ ?_ ?_ ?_ ?_ ?_ ?_ ?_ ?_ ?_ ?_ ?_).mono ?_
  all_goals try simp only[V,↓reduceIte,rA,h2,h3,h4,hf,b0,b1]
  ·simp_all
  ·rw[jh,pl,Sh hy];omega
  ·grind [ids]
  ·omega
  grind
theorem xF{α:Type}{f:α->List AV}{es:Nat}(hf:∀a,(f a).length=es)(h:AH)(w:Vl α):au h es (w.A f)=Z (w.l.flatMap f,w.l.length):=by
 have hl:=uq hf w.l;unfold Vl.A cV;cases hn:(w.nl.isSome&&ig w.l.length 0) with
 |true=>
  rw[im] at hn;have h0:w.l=[]:=Sa;rw[h0];unfold noKids;cases hh:w.nl<;>rfl
 |false=>exact aPQ hl
theorem aOH{l:List Nat}:∀c∈l.flatMap iU,aj c:=λc hc=>by
 obtain⟨a,_,h⟩:=List.mem_flatMap.1 hc;rw[jb.1 h];exact U181
theorem Gg{α:Type}{f:α->List AV}{l:List α}{h:AH}{lo es n:Nat}{v:AV}(r:bn h lo n es v (l.flatMap f))(hn:l.length=n):∃cap,iA v n (l.flatMap f)=(⟨l,ai,cap⟩:Vl α).A f\/0=n:=by
 rcases Bf n with h0|h0
 ·simp_all
 have e:(ai.isSome&&ig l.length 0)=U:=by
  grind [Nat.eq_of_beq_eq_true]
 rcases r with⟨_,_,⟨rfl,rfl⟩|⟨b,_,_,h3,rfl,_⟩⟩|⟨h1,h2,b,b1,b2,rfl,b5⟩
 ·omega
 ·refine⟨Y,.inl ?_⟩;simp only[iA,Vl.A,cV,e,cond_false];rw[hn]
 ·refine⟨Z n,.inl ?_⟩;simp only[iA,Vl.A,cV,e,cond_false];rw[hn]
theorem Yp{l:List Pr}:∀c∈l.flatMap Pr.cells,aj c:=λc hc=>by
 obtain⟨a,_,h⟩:=List.mem_flatMap.1 hc;exact a.leaves c h
def soN(l:List Vr)(j:Nat):ByteArray:=match l.drop j with
 | []=>⟨#[]⟩
 |v::_=>v.so
theorem aSE{l:List Vr}{j:Nat}{v:Vr}{r:List Vr}(h:l.drop j=v::r):soN l j=v.so:=by grind [soN]
def chR(F:List Nat->List Pr)(so:ByteArray)(l:List Nat):Nat->List Vr->List Pr
 |_,[]=>[]
 |i,v::r=>(bif !chS i l&&aP v.so so then F (l++[i]) else [])++chR F so l (i+1) r
def chq(q:Qu)(k:Ho):Nat->List Nat->List Pr
 |0,l=>[q.bd.gi (q.vs.l.map Vr.nm) (l.map λj=>pV (psN k.ps.l j))]
 |n+1,l=>chR (chq q k n) (soN q.vs.l l.length) l 1 (k.ps.l.drop 1)
theorem Wd{F:List Nat->List Pr}{so:ByteArray}{l:List Nat}{b:Nat}(h:∀l,(F l).length<=b):∀(r:List Vr) (i:Nat),(chR F so l i r).length<=r.length*b
 | [],i=>il _
 |v::r,i=>by
  have ih:=Wd h (so:=so) (l:=l) r (i+1);rw[chR,jh,jf,Nat.add_mul]
  grind
theorem aLL{q:Qu}{k:Ho}(hk:k.ps.l.length<=4):∀(n:Nat) (l:List Nat),(chq q k n l).length<=4^n
 |0,l=>ij _
 |n+1,l=>by
  have:=Wd (F:=chq q k n) (so:=soN q.vs.l l.length) (l:=l) (aLL hk n) (k.ps.l.drop 1) 1;have h2:(k.ps.l.drop 1).length<=4:=Gr;have:=jy (4^n) h2
  grind [chq]
theorem Cq(q:Qu)(k:Ho)(w:Vl Nat)(F:List Nat->List Pr)(u:Vr)(us:List Vr)(hN:w.l.length<2^20)(hK:k.ps.l.length<=4)(hF:∀l,(F l).length<=64)(hu:q.vs.l.drop w.l.length=u::us)
  (hc:∀i,i<k.ps.l.length->∃cap,∀w':Vl Nat,w'.l=w.l++[i]->∀h,aE E1 (.f 86) [.agg q.cells,.agg k.cells,w'.A iU] h ((⟨F (w.l++[i]),ai,cap⟩:Vl Pr).A Pr.cells) h):∀(r:List Vr) (i:Nat) (s:St) (v:AV) (out:List Pr),k.ps.l.drop i=r->i<=k.ps.l.length->out.length<=i*64->
  aV s.h 2 out.length 4 v (Pr.aG out)->2<=s.h.next->ak s.h->s.h.get 0=Z (.cells q.cells J)->s.h.get 1=Z (.cells k.cells J)->
  s.eval (.t 2)=Z (w.A iU)->s.eval (.t 3)=Z (.ptr 0 0)->s.eval (.t 4)=Z (.ptr 1 0)->s.eval (.t 10)=Z v->s.eval (.t 11)=Z (vI (i:Nat))->s.defers=[]->
  Run E1 pW s λe s'=>e=.exit 2/\s'.defers=[]/\2<=s'.h.next/\∃v,s'.eval (.t 10)=Z v/\aV s'.h 2 (out++chR F u.so w.l i r).length 4 v (Pr.aG (out++chR F u.so w.l i r))
 | [],i,s,v,out,hd,hi,hol,hr,n2,nt,g0,g1,h2,h3,h4,h10,h11,hf=>by
  have hl:=ca hd hi;subst hl;have c1:=U279;apply az (rfl:pW=.loop qG);simp only[qG,V,g1,h4,h10,h11,hf,tE,chR,jm,seval]
  grind
 |x::r,i,s,v,out,hd,hi,hol,hr,n2,nt,g0,g1,h2,h3,h4,h10,h11,hf=>by
  have hl:=cz hd;have hlt:=rj hl;have w1:=U196;have hkx:=U280;have hux:aX 2 (q.vs.A Vr.cells) w.l.length=Z (.bD (u.cells++us.flatMap Vr.cells)):=q.vs.at Vr.len hu;have c0:=U278;have c1:=U279;have kp1:∀o,aN s.h (Z (.ptr 1 o))=J:=λo=>bm om g1 k.ah;have kp0:=U281;have hch:=Ku w i om;apply az (rfl:pW=.loop qG);simp only[qG,V,seval, *];refine pb rfl ?_
  have skip:∀s':St,(bif !chS i w.l&&aP x.so u.so then F (w.l++[i]) else [])=[]->s'.h=s.h->s'.eval (.t 2)=Z (w.A iU)->s'.eval (.t 3)=Z (.ptr 0 0)->s'.eval (.t 4)=Z (.ptr 1 0)->s'.eval (.t 10)=Z v->s'.eval (.t 11)=Z (vI ((i+1:Nat):Int))->s'.defers=[]->
    Run E1 pW s' λe s'=>e=.exit 2/\s'.defers=[]/\2<=s'.h.next/\∃v,s'.eval (.t 10)=Z v/\aV s'.h 2 (out++chR F u.so w.l i (x::r)).length 4 v (Pr.aG (out++chR F u.so w.l i (x::r))):=λs' hb e0 e2 e3 e4 e10 e11 ef=>by
   rw[chR,hb,ju];exact Cq q k w F u us hN hK hF hu hc r (i+1) s' v out (ba hd) om om Gr Gr Gr Gr Gr e2 e3 e4 e10 e11 ef
  cases hz:chS i w.l with
  |true=>
   simp only[aFK,X0,X1,X2,X3,X4,V,h2,h3,h4,h11,an Vl.ids,ge Vl.ids,ee hch,hz,kp0,kp1,w1,seval];exact U124
  |false=>
   simp only[aFK,X0,X1,X2,X3,X4,V,an Vl.ids,ge Vl.ids,Vl.ids,ee hch,seval, *];cases hy:aP x.so u.so with
   |false=>
    simp only[V,h11,w1,seval];exact U124
   |true=>
    have kn10:=bz hr.x.nice;have q6:=U282;have k2:=U274;simp[V];refine pb rfl ?_
    simp only[aVT,X0,X1,X2,X3,X4,V,WF,an Vl.ids,Vl.ids,show aQ ([]:List AV)=[] from rfl,seval, *];refine xb (es:=1) (bytes:=8) (k:=0) (m:=w.l.length) (lo:=s.h.next) (v:=.own s.h.next 0 0 1 (Z 0)) (x:=w.A iU) (cs:=[]) (new:=w.l.flatMap iU) ?_ ?_ ?_ (by rw[uq Ip]) aOH (uh om de) ?_ ?_ ?_
    ·exact bn.made (λc hc=>by cases hc) rfl (ij _) (je _) co
    ·exact j5 _
    ·exact xF Ip _ w
    ·simp[V]
    ·simp[V]
    intro v84 h84 r84 n84 o84 t84 i84;simp[V] at r84 n84 o84 t84 i84;have nt84:=t84 nt.alloc;have fr84:∀y,y<s.h.next->h84.get y=s.h.get y:=λy hy=>(o84 y om (by grind [ids])).trans (if_neg om)
    have lo84:∀y∈ids v84,s.h.next<=y:=λy hy=>(r84.ids y hy).1;have ne0:∀y∈ids v84,(y=0)=False:=Gr;have ne1:∀y∈ids v84,(y=1)=False:=Gr;have kn84:=λx=>bz (r84.to (h':=h84.alloc x) (j5 _) λy _ y2=>am y2).nice;have ns84:=λx=>(r84.to (h':=h84.alloc x) (j5 _) λy _ y2=>am y2).nice;have z0:¬s.h.next=0:=om;have z1:¬s.h.next=1:=om;simp only[X0,X1,X2,X3,X4,V,WF,not_false_eq_true,show aQ [AV.val (.int .i64 (i:Nat))]=[] from rfl,seval, *];refine xb (es:=1) (bytes:=8) (k:=w.l.length) (m:=1) (lo:=s.h.next) (v:=v84) (x:=.own h84.next 0 1 1 (Z 1)) (cs:=w.l.flatMap iU) (new:=iU i) ?_ ?_ ?_ rfl (λc hc=>by rw[jb.1 hc];exact aj.val _) (uh om de) ?_ ?_ ?_
    ·simp[V]
     simpa only[Nat.zero_add] using r84.to (h':=h84.alloc _) (j5 _) λy _ y2=>am y2
    ·simp[V];omega
    ·refine kl (rw':=J) ?_ rfl;simp[V];rfl
    ·simp[V]
    ·simp[V]
    intro v87 h87 r87 n87 o87 t87 i87;simp[V] at r87 n87 o87 t87 i87;have r87:bn h87 s.h.next (w.l.length+1) 1 v87 ((w.l++[i]).flatMap iU):=Gr;have nt87:=t87 nt84.alloc;have fr87:∀y,y<s.h.next->h87.get y=s.h.get y:=Gr;have lo87:∀y∈ids v87,s.h.next<=y:=Gr;have kn87:=bz r87.nice;simp only[X0,X2,X3,X4,V,an q.ah,an k.ah,kn87,seval];refine⟨⟨λx hx=>by grind,λx hx=>by grind⟩,?_⟩
    obtain⟨cap,hcc⟩:=hc i hl;obtain⟨cap',hrx⟩:=Gg (f:=iU) (l:=w.l++[i]) r87 Gr;have hrx:=hrx.resolve_right om;have hcall:∀h,aE E1 (.f 86) ([.agg q.cells,.agg k.cells]++iA v87 (w.l.length+1) ((w.l++[i]).flatMap iU)::[]) h ((⟨F (w.l++[i]),ai,cap⟩:Vl Pr).A Pr.cells) h:=by
     grind
    refine rY (sK (j:=87) de (by simp[V]) (r87.ne om)) ?_
    refine vm (xs:=[.agg q.cells,.agg k.cells]) (ys:=[]) (w:=v87) (lo:=s.h.next) (k:=w.l.length+1) (es:=1) (cs:=(w.l++[i]).flatMap iU) (t:=(⟨F (w.l++[i]),ai,cap⟩:Vl Pr).A Pr.cells) ?_ (eJ (g:=86) rf) (sE (Tree.qu q) (Tree.ho k)) (λv hv=>by cases hv) ?_ ?_ (by rw[hrx];exact Vl.leaf.tree) hcall ?_ ?_
    ·simp[V]
     grind
    ·simp[X3,V,q.ah,k.ah]
    ·simp[V]
     grind
    ·simp[X3,X4]
    intro h88 n88 o88 t88;simp[V] at n88 o88;have r10:aV h88 2 out.length 4 v (Pr.aG out):=hr.toB om λy hy=>by
     have:=(hr.ids y hy).2.1
     grind
    have fr88:∀y,y<s.h.next->h88.get y=s.h.get y:=Gr;have kn88:=bz r10.x.nice;have ns88:=r10.x.nice;simp only[X0,X2,X3,X4,V,kn88,ns88,an Vl.ids,seval];have hFl:=hF (w.l++[i]);refine bGY (es:=4) (bytes:=56) (k:=out.length) (m:=(F (w.l++[i])).length) (lo:=2) (v:=v) (x:=(⟨F (w.l++[i]),ai,cap⟩:Vl Pr).A Pr.cells) (cs:=Pr.aG out) (new:=(F (w.l++[i])).flatMap Pr.cells) ?_ ?_ ?_ (by rw[uq Pr.len]) Yp (uh om de) ?_ ?_ ?_
    ·simp[V]
     grind
    ·simp[V];omega
    ·grind [xF,Pr.len]
    ·simp[V]
    ·simp[V]
    intro v89 h89 r89 n89 o89 t89 i89;simp[V] at r89 n89 o89 t89 i89;have nt89:=t89 (t88);have fr89:∀y,y<2->h89.get y=s.h.get y:=λy hy=>(o89 y om (λhv=>by have:=(hr.ids y hv).1;omega)).trans (fr88 y om)
    simp only[X0,X3,V,seval, *];refine(Cq q k w F u us hN hK hF hu hc r (i+1) _ v89 (out++F (w.l++[i])) (ba hd) om Gr ?_ ?_ ?_ ?_ ?_ ?_ ?_ ?_ ?_ ?_ ?_).mono ?_
    all_goals try simp only[V,↓reduceIte,rA,h2,h3,h4,hf]
    ·grind [Pr.bG]
    ·omega
    ·grind
    ·grind
    ·grind
    rintro e s2 ⟨rfl,d2,m2,v2,e2,q2⟩;refine⟨rfl,d2,m2,v2,e2,?_⟩
    grind [chR]
theorem Gh{l:List Pr}:fE l.length (Pr.aG l)=(⟨l,ai,Y⟩:Vl Pr).A Pr.cells:=by rw[Pr.bG];rfl
theorem bDC(p:Pr):(⟨[p],ai,Z 1⟩:Vl Pr).A Pr.cells=.imm p.cells 1 (Z 1):=by show AV.imm (p.cells++[]) 1 (Z 1)=_;grind
theorem aAM(q:Qu)(k:Ho)(hk0:0<k.ps.l.length)(hK:k.ps.l.length<=4)(hb:q.bd.nodes<2^29)(hV:q.vs.l.length<2^20):∀n:Nat,n<=3->∃cap,∀w:Vl Nat,w.l.length+n=q.vs.l.length->(∀j∈w.l,j<k.ps.l.length)->∀h,aE E1 (.f 86) [.agg q.cells,.agg k.cells,w.A iU] h ((⟨chq q k n w.l,ai,cap⟩:Vl Pr).A Pr.cells) h
 |0,_=>⟨Z 1,λw hw hj h=>by
  refine sf rf aVS (yy (Tree.qu q) (Tree.ho k) Tree.vl) (λs hs hh hd hr=>?_) h;have h0:=hs 0 _ rfl;have h1:=hs 1 _ rfl;have h2:=hs 2 _ rfl;have c0:=U278;have c2:=U283;have ce:decide ((w.l.length:Int)=(q.vs.l.length:Int))=J:=Gr;simp[aFL,f86,V, *];refine(Ox q k w om hj w.l q.vs.l 0 _ (.val (.slice Y 0 0)) (.val (.slice Y 0 0)) [] [] rfl rfl om (il _) rfl rfl aV.nil aV.nil (λy hy=>by cases hy) ?_ ?_ ?_ ?_ ?_ ?_ ?_ ?_ ?_ ?_).mono ?_
  all_goals try simp only[V,↓reduceIte,rA,rB,reduceCtorEq,h2,hd]
  ·decide
  ·rfl
  rintro e s1 ⟨rfl,d1,e3,n1,g0,v7,v8,e7,e8,dj,r7,r8⟩;rw[ju] at r7 r8;have e7':fE (q.vs.l.map Vr.nm).length ((q.vs.l.map Vr.nm).flatMap bV)=(⟨q.vs.l.map Vr.nm,ai,Y⟩:Vl ByteArray).A bV:=uQ rfl;obtain⟨h3,hc,fz⟩:=aBX (E:=E1) (xs:=[q.bd.av]) (ys:=[]) (a':=fE _ _) (b':=fE _ _) (eJ (g:=87) rf) (qr (Tree.pr _)) (λv hv=>by cases hv) tT.tree tT.tree r7.rep r8.rep de de (t:=(q.bd.gi (q.vs.l.map Vr.nm) (w.l.map λj=>pV (psN k.ps.l j))).av) (λh=>by
   have:=vN ⟨q.vs.l.map Vr.nm,ai,Y⟩ ⟨w.l.map λj=>pV (psN k.ps.l j),ai,Y⟩ Gr q.bd hb h
   grind [Gh])
  simp[V, *];refine gt (by simp only[V];exact hc) ?_
  simp only[V,WF,sX,d1];refine⟨_,rfl,1,de,?_⟩;have hrep:=(bn.made (h:=h3.alloc (.cells (q.bd.gi (q.vs.l.map Vr.nm) (w.l.map λj=>pV (psN k.ps.l j))).cells J)) (lo:=0) (k:=1) (es:=4) (b:=h3.next) (Pr.leaves _) (by rw[Pr.len]) (il _) (je _) co).rep
  rw[chq,bDC];exact hrep⟩
 |n+1,hn=>by
  obtain⟨cap,ih⟩:=aAM q k hk0 hK hb hV n om;refine⟨Y,λw hw hj h=>?_⟩;obtain⟨u,us,hu⟩:=re (l:=q.vs.l) (j:=w.l.length) om;have hso:=aSE hu;refine sf rf aVS (yy (Tree.qu q) (Tree.ho k) Tree.vl) (λs hs hh hd hr=>?_) h;have h0:=hs 0 _ rfl;have h1:=hs 1 _ rfl;have h2:=hs 2 _ rfl;have c0:=U278;have ce:decide ((w.l.length:Int)=(q.vs.l.length:Int))=U:=Gr;simp[aFL,f86,V, *];refine(Cq q k w (chq q k n) u us om hK (λl=>jg (aLL hK n l) (B5 de (by omega:n<=3))) hu (λi hi=>⟨cap,λw' hw' h=>?_⟩) (k.ps.l.drop 1) 1 _ (.val (.slice Y 0 0)) [] rfl hk0 de aV.nil ?_ ?_ ?_ ?_ ?_ ?_ ?_ ?_ ?_ ?_).mono ?_
  all_goals try simp only[V,↓reduceIte,rA,rB,reduceCtorEq,h2,hd]
  ·grind
  ·decide
  ·exact ak.empty.alloc.alloc
  ·rfl
  rintro e s1 ⟨rfl,d1,n1,v1,e10,r1⟩;rw[ju] at r1;simp only[V,WF, *];refine⟨_,rfl,1,de,?_⟩;have:=r1.rep;rw[chq,hso,show(⟨chR (chq q k n) u.so w.l 1 (k.ps.l.drop 1),ai,Y⟩:Vl Pr).A Pr.cells=fE _ _ from Gh.symm];exact Rep.to (il _) (ij _) (λb _ _ cs rw g=>⟨rw,g⟩) (ij _) this
def mN(q:Qu)(k:Ho):List Pr:=match q.vs.l,k.ps.l with
 | [],_=>[]
 |_,[]=>[]
 |u::us,y::_=>bif aP u.so y.so then chq q k us.length [0] else []
theorem Zt(q:Qu)(k:Ho)(hK:k.ps.l.length<=4)(hb:q.bd.nodes<2^29)(hV:q.vs.l.length<=4):∃cap,∀h,aE E1 (.f 49) [.agg q.cells,.agg k.cells] h ((⟨mN q k,ai,cap⟩:Vl Pr).A Pr.cells) h:=by
 have c0:=U278;have c1:=U279;have q6:=U282;have k2:=U274;have kq:=U284;have kk:=U285;have d0:decide (((0:Nat):Int)=0)=J:=rfl;unfold mN;cases hq:q.vs.l with
 |nil=>
  refine⟨Y,λh=>sf rf Ud (sE (Tree.qu q) (Tree.ho k)) (λs hs hh hd hr=>?_) h⟩;have h0:=hs 0 _ rfl;have h1:=hs 1 _ rfl;have lq:q.vs.l.length=0:=Gr;simp[pu,f49,V, *];refine pb rfl ?_
  simp only[qS,X0,X1,X3,X4,V,c0,an Vl.ids,Vl.ids,lq,kq,kk,d0,hd,seval];exact U286
 |cons u us=>
  have lq:=U287;have hux:=U288;cases hk:k.ps.l with
  |nil=>
   refine⟨Y,λh=>sf rf Ud (sE (Tree.qu q) (Tree.ho k)) (λs hs hh hd hr=>?_) h⟩;have h0:=hs 0 _ rfl;have h1:=hs 1 _ rfl;have lk:k.ps.l.length=0:=Gr;simp[pu,f49,V, *];refine pb rfl ?_
   simp only[qS,X0,X1,X3,X4,V,c0,c1,an Vl.ids,Vl.ids,lq,lk,kq,kk,d0,hd,seval];exact U286
  |cons y ys=>
   have lk:=U289;have hky:=U290;cases hs1:aP u.so y.so with
   |false=>
    refine⟨Y,λh=>sf rf Ud (sE (Tree.qu q) (Tree.ho k)) (λs hs hh hd hr=>?_) h⟩;have h0:=hs 0 _ rfl;have h1:=hs 1 _ rfl;simp[pu,f49,V,h0,h1,hh];refine pb rfl ?_
    simp only[qS,X0,X1,X3,X4,V,c0,c1,an Vl.ids,Vl.ids,lq,lk,kq,kk,hux,hky,hs1,hd,seval];exact U286
   |true=>
    obtain⟨cap,hc⟩:=aAM q k Gr hK hb om us.length Gr;refine⟨cap,λh=>sf rf Ud (sE (Tree.qu q) (Tree.ho k)) (λs hs hh hd hr=>?_) h⟩;have h0:=hs 0 _ rfl;have h1:=hs 1 _ rfl;simp[pu,f49,V,h0,h1,hh];refine pb rfl ?_
    simp only[qS,X0,X1,X3,X4,V,WF,c0,c1,an Vl.ids,Vl.ids,lq,lk,kq,kk,hux,hky,hs1,q6,k2,seval];have rx:=bn.made (h:=((AH.empty.alloc (.cells q.cells J)).alloc (.cells k.cells J)).alloc (.cells [AV.val (.int .i64 0)] J)) (lo:=2) (k:=1) (es:=1) (b:=2) (cs:=[AV.val (.int .i64 0)]) (λc hc=>by grind [aj.val]) rfl (ij _) (je 2) (co (h:=(AH.empty.alloc (.cells q.cells J)).alloc (.cells k.cells J)))
    obtain⟨hz,e1,e2,e3,e4⟩:=xD rx;obtain⟨h2,c,e⟩:=vA (xs:=[.agg q.cells,.agg k.cells]) (ys:=[]) (t:=(⟨chq q k us.length [0],ai,cap⟩:Vl Pr).A Pr.cells) (eJ (g:=86) rf) (sE (Tree.qu q) (Tree.ho k)) (λv hv=>by cases hv) (Vl.leaf (f:=iU) (v:=⟨[0],ai,Z 1⟩)).tree e1 e4 (λh=>hc ⟨[0],ai,Z 1⟩ Gr (λj hj=>by grind) h)
    refine gt (by simp only[V];exact c) ?_
    simp only[V,hd];exact⟨_,rfl,0,de,Rep.leaf Vl.leaf⟩
set_option maxRecDepth 10000
def fq:aF->Option (Code×Code)
 |.range _ _ a b _=>Z (a,b)
 |.seq a b=>match fq a with
  |some r=>Z r
  |none=>fq b
 |.cond _ a b=>match fq a with
  |some r=>Z r
  |none=>fq b
 |.block _ b=>fq b
 |.loop b=>fq b
 |_=>Y
noncomputable def jI:Code:=match (aR ib 45).bind λa=>fq a.body with
 |some (a,_)=>a
 |none=>.skip
noncomputable def iJ:Code:=match (aR ib 45).bind λa=>fq a.body with
 |some (_,b)=>b
 |none=>.skip
noncomputable def Ue:aF:=.range (.t 48) [49] jI iJ 61
def qZ:List DOp:=[⟨⟨Z 10,Y,.fieldAddr 1 (.t 2)⟩,[2],[]⟩,⟨⟨Z 11,Y,.load Y (.t 10)⟩,[10],[]⟩,⟨⟨Z 12,Y,.fI (.t 11)⟩,[11],[]⟩,⟨⟨Z 13,Y,.bin .eql 3 J (.t 12) (.c (vI 0))⟩,[12],[]⟩,⟨⟨Z 14,Y,.mv (.t 13)⟩,[13],[]⟩,⟨⟨Z 15,Z (14,U),.fieldAddr 1 (.t 3)⟩,[3,14],[]⟩,⟨⟨Z 16,Z (14,U),.load Y (.t 15)⟩,[15,14],[]⟩,⟨⟨Z 17,Z (14,U),.fI (.t 16)⟩,[16,14],[]⟩,⟨⟨Z 18,Z (14,U),.bin .eql 3 J (.t 17) (.c (vI 0))⟩,[17,14],[]⟩,⟨⟨Z 19,Y,.pick (.t 14) (.c (Vb J)) (.t 18)⟩,[14,18],[]⟩,⟨⟨Z 20,Y,.mv (.t 19)⟩,[19],[]⟩,⟨⟨Z 21,Z (20,U),.fieldAddr 1 (.t 2)⟩,[2,20],[]⟩,⟨⟨Z 22,Z (20,U),.load Y (.t 21)⟩,[21,20],[]⟩,⟨⟨Z 23,Z (20,U),.bT 2 (.t 22) (.c (vI 0))⟩,[22,20],[]⟩,⟨⟨Z 24,Z (20,U),.fieldAddr 1 (.t 23)⟩,[23,20],[]⟩,⟨⟨Z 25,Z (20,U),.load Y (.t 24)⟩,[24,20],[]⟩,⟨⟨Z 26,Z (20,U),.fieldAddr 1 (.t 3)⟩,[3,20],[11,12,13,14,15]⟩,⟨⟨Z 27,Z (20,U),.load Y (.t 26)⟩,[26,20],[11,12,13,14,15]⟩,⟨⟨Z 28,Z (20,U),.bT 2 (.t 27) (.c (vI 0))⟩,[27,20],[11,12,13,14,15]⟩,⟨⟨Z 29,Z (20,U),.fieldAddr 1 (.t 28)⟩,[28,20],[11,12,13,14,15]⟩,⟨⟨Z 30,Z (20,U),.load Y (.t 29)⟩,[29,20],[11,12,13,14,15]⟩,⟨⟨Z 31,Z (20,U),.bin .neq 79 U (.t 25) (.t 30)⟩,[25,30,20],[]⟩,⟨⟨Z 32,Y,.pick (.t 20) (.c (Vb J)) (.t 31)⟩,[20,31],[]⟩]
def bMZ:aF:=.draw qZ
def pS:aF:=(.seq (.region [⟨Z 37,Y,.bin .lss 3 U (.t 36) (.t 35)⟩])
 (.seq (.cond (.t 37) .skip (.exit 0))
 (.seq (.block 1 (.seq (.region [⟨Z 38,Y,.bT 2 (.t 34) (.t 36)⟩,⟨Z 39,Y,.load (Z 2) (.t 38)⟩,⟨Z 7,Y,.alloc [vS ⟨#[]⟩,vS ⟨#[]⟩]⟩,⟨Y,Y,.store 2 (.t 7) (.t 39)⟩])
 (.region [⟨Z 40,Y,.load Y (.t 5)⟩,⟨Z 41,Y,.fieldAddr 0 (.t 7)⟩,⟨Z 42,Y,.load Y (.t 41)⟩,⟨Z 43,Y,.buildSlice 1 1 [vS ⟨#[]⟩] [(0,1,(.t 42))]⟩,⟨Z 44,Y,.append 1 16 (.t 40) (.t 43)⟩,⟨Y,Y,.store 1 (.t 5) (.t 44)⟩])))
 (.region [⟨Z 45,Y,.bin .add 3 J (.t 36) (.c (vI 1))⟩,⟨Z 36,Y,.mv (.t 45)⟩]))))
def Ug:aF:=.loop pS
noncomputable def f45:aF:=(.seq (.region [⟨Z 2,Y,.box (.t 0)⟩,⟨Z 3,Y,.box (.t 1)⟩,⟨Z 4,Y,.mv (.c (.val (.slice Y 0 0)))⟩])
 (.seq (.seq bMZ
 (.cond (.t 32) (.seq (.region [⟨Z 4,Y,.mv (.c (.val (.slice Y 0 0)))⟩])
 .ret) .skip))
 (.seq (.region [⟨Z 5,Y,.alloc [.val (.slice Y 0 0)]⟩])
 (.seq (.seq (.region [⟨Z 33,Y,.fieldAddr 1 (.t 2)⟩,⟨Z 34,Y,.load Y (.t 33)⟩,⟨Z 35,Y,.fI (.t 34)⟩,⟨Z 36,Y,.mv (.c (vI 0))⟩])
 (.block 0 Ug))
 (.seq (.region [⟨Z 8,Y,.alloc [.val (.slice Y 0 0)]⟩])
 (.seq (.seq (.region [⟨Z 46,Y,.load (Z 6) (.t 2)⟩,⟨Z 47,Y,.load (Z 2) (.t 3)⟩,⟨Z 48,Y,.call 83 [.t 46,.t 47]⟩])
 (.block 2 Ue))
 (.seq (.region [⟨Z 60,Y,.load Y (.t 8)⟩,⟨Z 4,Y,.mv (.t 60)⟩])
 .ret)))))))
noncomputable def px:ax:=⟨f45,[.tmp 4]⟩
theorem Uf:aR ib 45=Z px:=by rfl
theorem bGW:dQ E1.P 61 jI=oW:=by rfl
theorem bGU:dQ E1.P 61 iJ=oq:=by rfl
theorem tQ{g:Nat}{l:List AV}{h:AH}{a:ax}{P:List AV->AH->Prop}(hf:aR ib g=Z a)
  (H:∀s:St,(∀i v,(bg l 0 .nil).get i=Z v->s.eval (.t i)=Z v)->s.h=h->s.defers=[]->s.round=Y->Run E1 a.body s λe s=>(e=.normal\/e=.ret)/\∃h',cL E1 s.defers s.h=Z h'/\∃r,P r h'/\ay E1.aY (s.toH h') a.res=Z r):
  ∃r h',P r h'/\Ev λn=>bh E1 (exec E1 n) g l h=Z (bQ r,h'):=by
 obtain⟨e,s',x,y1,h',y2,r,hp,y3⟩:=(H {tm:=bg l 0 .nil,h:=h,defers:=[],round:=Y} (λ_ _ h=>h) rfl rfl rfl);refine⟨r,h',hp,x.mono λn p=>?_⟩;have y4:ay E1.aY {s' with h:=h'} a.res=Z r:=y3;have hl:fj E1 a s'=Z (bQ r,h'):=by
  grind [fj]
 simp only[bh,(show aR E1.P g=Z a by grind [bAM]),p]
 grind
theorem La{E:Env}{g:Nat}{l:List AV}{h h1 h':AH}{r:AV}(hs:E.shared.get g=Y)(hz:l.foldl (λh v=>AM.freeze aU v h) h=h1)(hm:cG h1 l=Y)
  (a:Ev λn=>bh E (exec E n) g l h=Z (r,h')):aE E (.f g) l h (gA r h').1 (gA r h').2:=by
 refine a.mono λn p=>?_
 simp_all [bY,fD]
theorem uB{E:Env}{g:Nat}{l:List AV}{h h1 h':AH}{r:AV}(hs:E.shared.get g=Y)(hz:l.foldl (λh v=>AM.freeze aU v h) h=h1)(hm:cG h1 l=Y)
  (a:Ev λn=>bh E (exec E n) g l h=Z (r,h')) (hr:gA r h'=(r,h'):=by rfl):aE E (.f g) l h r h':=by
 grind [La]
theorem Es{E:Env}{g:Nat}{l:List AV}{h h':AH}{r:AV}(hs:E.shared.get g=Z ())(a:Ev λn=>bh E (exec E n) g l h=Z (r,h')):aE E (.f g) l h r h':=by
 refine a.mono λn p=>?_
 simp_all [bY,fD]
theorem aHC{b o n e:Nat}{c:Option Nat}:dM E1.P .eql 41 J (.own b o n e c) (.val (.slice Y 0 0))=Z (Vb U):=by rfl
theorem aPP{h:AH}{b n es:Nat}{cap:Option Nat}{cs:List AV}{rw:Bool}(g:h.get b=Z (.cells cs rw))(hl:n*es<=cs.length):au h es (.own b 0 n es cap)=Z (cs.take (n*es),n):=by
 have e1:=U184;have e2:ii (0+n*es) cs.length=J:=Sa;simp only[au,e1,cond_true,g,e2,List.drop_zero]
theorem Mx{h:AH}{B n:Nat}{cap:Option Nat}{cs:List AV}{rw:Bool}(g:h.get B=Z (.cells cs rw))(hB:B<h.next)(hn:n<2^20)(hp:0<n)(hl:n*4<=cs.length)(lf:∀c∈cs,aj c):
  ∃h',aE E1 (.f 123) [.own B 0 n 4 cap] h (.own (h.next+1) 0 n 4 Y) h'/\h'.next=h.next+2/\h'.get (h.next+1)=Z (.cells (cs.take (n*4)) J)/\(∀x,x<h.next->h'.get x=h.get x)/\(ak h->ak h'):=by
 obtain⟨r,h',⟨rfl,k1,k2,k3,k4⟩,ha⟩:=tQ (g:=123) (l:=[.own B 0 n 4 cap]) (h:=h) (P:=λr h'=>r=[.own (h.next+1) 0 n 4 Y]/\h'.next=h.next+2/\h'.get (h.next+1)=Z (.cells (cs.take (n*4)) J)/\(∀x,x<h.next->h'.get x=h.get x)/\(ak h->ak h')) bFT λs hs hh hd hr=>by
  have h0:=hs 0 _ rfl;refine rU _ _ _ ?_
  simp[aKT,f123,V,WF,aHC, *];rw[aCF (k:=0) (n:=n) (b:=h.next) (c:=0) (cs:=[]) (new:=cs.take (n*4)) (rw:=J) (x:=.own B 0 n 4 cap) (by simp[V]) (by simp[V]) (by simp[V]) (by simp[V];exact aPP (by rw[am hB];exact g) hl) hp om de (uh om de)]
  simp only[V,hd,List.take_nil,ju];refine⟨_,rfl,_,⟨rfl,?_,?_,?_,?_⟩,rfl⟩
  ·rfl
  ·exact co (h:=h.alloc (.cells [] J))
  ·intro x hx;rw[am (by show x<h.next+1;omega),am hx]
  ·exact λnt=>nt.alloc.alloc
 exact⟨h',Es rf ha,k1,k2,k3,k4⟩
theorem aHN{h:AH}{b n off:Nat}{cs zs l:List AV}(ho:cs.length=off)(hz:zs.length=n)(hl:l.length=n):stK h b n off l (Z (.cells (cs++zs) J))=Z (h.put b (Z (.cells (cs++l) J))):=by
 have h1:=U192;have h2:ii (off+n) (cs++zs).length=J:=Sa;have h3:putAt (cs++zs) off l=cs++l:=by
  grind [putAt]
 exact U66
theorem aCJ:AV.agg [vI 0,vS ⟨#[]⟩,vI 0,.val (.slice Y 0 0)]=.agg zPr.cells:=by rfl
theorem aNM(b:ByteArray):(pV b).nodes=1:=by rfl
theorem bGT(q:Qu)(ns:List ByteArray)(ps out:List Pr)(c5 c8 L:Nat)(s:St)(v5 v8 v9:AV)(hb:q.bd.nodes<2^29)(hns:ns.length<2^20)(hps:∀p∈ps,p.nodes<2^29)(hp0:0<ps.length)(hout:out.length<2^20)(l5:0<c5)(l8:c5<c8)(lL:c8<L)(ln:L<=s.h.next)(nt:ak s.h)
  (g0:s.h.get 0=Z (.cells q.cells J)) (g5:s.h.get c5=Z (.cells [v5] J)) (r5:Rep s.h (c5+1) c8 1 v5 ((⟨ns,ai,Y⟩:Vl ByteArray).A bV)) (g8:s.h.get c8=Z (.cells [v8] J)) (r8:aV s.h L out.length 4 v8 (Pr.aG out)) (r9:aV s.h L ps.length 4 v9 (Pr.aG ps)) (dj:∀y∈ids v9,y∉ids v8)
  (h2:s.eval (.t 2)=Z (.ptr 0 0)) (h5:s.eval (.t 5)=Z (.ptr c5 0)) (h8:s.eval (.t 8)=Z (.ptr c8 0)) (h9:s.eval (.t 9)=Z v9) (hd:s.defers=[]):
  Run E1 oq s λe s'=>e=.normal/\s'.defers=[]/\s.h.next<=s'.h.next/\ak s'.h/\(∃v8,s'.h.get c8=Z (.cells [v8] J)/\aV s'.h L (out++[q.bd.sub ns ps]).length 4 v8 (Pr.aG (out++[q.bd.sub ns ps]))/\∀y∈ids v8,s.h.next<=y)/\Rep s'.h (c5+1) c8 1 v5 ((⟨ns,ai,Y⟩:Vl ByteArray).A bV)/\
   ∀x,x<s.h.next->x≠c8->x∉ids v5->x∉ids v8->x∉ids v9->s'.h.get x=s.h.get x:=by
 have c2:=U283;have kn0:=U281;have kn9:=bz r9.x.nice;have kn8:=bz r8.x.nice;have knc8:∀o,aN s.h (Z (.ptr c8 o))=J:=λo=>tO om g8 r8.x.below;have knc5:∀o,aN s.h (Z (.ptr c5 o))=J:=by grind [tO,aDN]
 have kn5:=aDM r5 om;refine rU _ _ _ ?_
 simp only[oq,V];refine pb rfl ?_
 simp only[rP,X0,X1,X2,X3,X4,V,↓reduceIte,rA,h2,h5,h8,h9,g0,g5,g8,c2,kn0,kn9,knc8,knc5,kn5,an (Pr.ah _)];have hir:∀s':St,s'.eval (.t 52)=Z (.agg q.bd.cells)->s'.eval (.t 53)=Z v5->s'.eval (.t 54)=Z v9->dc s' [52,53,54]=ids v5++ids v9:=λs' e1 e2 e3=>by
  rw[bLD e1 e2 e3,show ids (.agg q.bd.cells)=[] from Pr.ah _,ju,jm]
 refine rY (sK (j:=54) de U33 (r9.x.ne hp0)) ?_
 refine aPA (xs:=[q.bd.av]) (ys:=[]) (w1:=v5) (w2:=v9) (u1:=(⟨ns,ai,Y⟩:Vl ByteArray).A bV) (u2:=fE ps.length (Pr.aG ps)) (t:=(q.bd.sub ns ps).av) (lo:=c5+1) (hi:=c8) (lo':=L) (hi':=s.h.next) ?_ ?_ (by simp only[V];omega) (by simp only[V];omega) (eJ (g:=74) rf) (qr (Tree.pr _)) (λv hv=>by cases hv) ?_ ?_ ?_ Vl.leaf.tree tT.tree (λh=>?_) ?_ ?_
 ·simp only[V];exact r5
 ·simp only[V];exact r9.rep
 ·intro x;rw[hir _ U29 U29 U33]
 ·rw[hir _ U29 U29 U33];have q1:=Yf r5;have q2:=Yf r9.rep
  grind
 ·simp only[V];exact nt
 ·rw[Gh];exact yg ⟨ns,ai,Y⟩ ⟨ps,ai,Y⟩ Gr hps q.bd hb h
 ·have dj8:∀x∈ids v5++ids v9,¬x=c8:=λx hx=>by
   rcases U291 with q|q
   ·have:=tJ r5 x q;omega
   ·have:=(r9.ids x q).1;omega
  simp only[X3,X4,V]
  grind
 intro h1 fz fr1 nt1;simp only[V] at fz fr1;have n1:h1.next=s.h.next:=fz.1;have a8:h1.get c8=Z (.cells [v8] J):=by
  rw[fr1 c8 (λq=>by have:=tJ r5 _ q;omega) (λq=>by have:=(r9.ids _ q).1;omega),g8]
 have a5:Rep h1 (c5+1) c8 1 v5 ((⟨ns,ai,Y⟩:Vl ByteArray).A bV):=r5.fz fz;have r8':aV h1 L out.length 4 v8 (Pr.aG out):=r8.toB om λy hy=>fr1 y (λq=>by have:=tJ r5 _ q;have:=(r8.ids y hy).1;omega) (λq=>dj y q hy)
 have kn8':=bz r8'.x.nice;have ns8':=λx=>(r8'.to (h':=h1.alloc x) (j5 _) λy _ y2=>am y2).x.nice;have hln:=r8.len;have fl:∀x∈ids v8,¬x∈ids v5++ids v9/\¬(s.h.next<=x/\x<s.h.next):=λx hx=>⟨λq=>by
  rcases jv.1 q with q|q
  ·have:=tJ r5 _ q;have:=(r8.ids x hx).1;omega
  grind,om⟩
 simp only[X0,X1,X2,X3,X4,V,↓reduceIte,rA,reduceCtorEq,WF,kn8',ns8',hln,aCJ,sX,Pr.bM];refine⟨fl,?_⟩;refine sk (es:=4) (bytes:=56) (k:=out.length) (m:=1) (lo:=L) (v:=v8) (x:=.own h1.next 0 1 4 (Z 1)) (cs:=Pr.aG out) (new:=zPr.cells) ?_ ?_ ?_ de rf (Pr.leaves _) (uh om de) ?_ ?_ ?_
 ·simp only[V];exact r8'.to (j5 _) λy _ y2=>am y2
 ·simp only[V];omega
 ·refine kl (rw':=J) ?_ rf;exact U33
 ·exact U29
 ·exact U33
 intro h2 r58 n58 o58 t58 g58;simp only[V] at r58 n58 o58 t58 g58;have nt2:=t58 nt1.alloc;have fr2:∀y,y<s.h.next->y∉ids v8->h2.get y=h1.get y:=Gr;have b8:h2.get c8=Z (.cells [v8] J):=by rw[fr2 c8 om (λq=>by have:=(r8.ids _ q).1;omega),a8]
 have hix:∀c,aX 4 (.own (h1.next+1) 0 (out.length+1) 4 c) out.length=Z (.ptr (h1.next+1) (0+out.length*4)):=by simp[wt]
 have kB:∀o,aN h2 (Z (.ptr (h1.next+1) o))=J:=λo=>bm om g58 (by rw[ms,rX r8.1,Pr.bM];rfl)
 have kO:=bz r58.x.nice;have hst:∀(H:AH),stK H (h1.next+1) 4 (out.length*4) (q.bd.sub ns ps).cells (Z (.cells (Pr.aG out++zPr.cells) J))=Z (H.put (h1.next+1) (Z (.cells (Pr.aG out++(q.bd.sub ns ps).cells) J))):=by grind [aHN,pj,Pr.len]
 have ne8:¬c8=h1.next+1:=om;have ne9:¬h1.next+1=c8:=om;have k8:aN h2 (Z (.ptr c8 0))=J:=tO om b8 (tn r8.x.below om);have lc:aQ (Pr.aG out++(q.bd.sub ns ps).cells)=[]:=by rw[ms,rX r8.1,Pr.bM];rfl
 simp only[X0,X1,X2,X3,X4,V,↓reduceIte,rA,WF,hix,kB,kO,g58,hst,h8,b8,ne8,an (Pr.ah _),k8,lc,hd,not_false_eq_true];refine⟨⟨om,om⟩,om,nt2.put.put,⟨_,rfl,?_,λy hy=>by grind [ids]⟩,?_,λx hx x8 x5 xv x9=>?_⟩
 ·rw[jh,pl];refine⟨λc hc=>?_,by grind [pj,Pr.len],.inr ⟨h1.next+1,om,Sa,Gr,rfl,?_⟩⟩
  ·rcases U292 with hc|hc
   ·exact r8.1 c hc
   grind [Pr.leaves]
  ·rw[AH.aO,if_neg ne9,AH.aO,if_pos rfl]
 ·refine td (λx hx=>?_) a5;have:=tJ r5 x hx;rw[AH.aO,if_neg om,AH.aO,if_neg om,fr2 x om (λq=>by grind)]
 grind
theorem Io{h:AH}{b:Nat}{tm:Tr AV}{ps:List Nat}{a d:Code}{M:Nat}{st:LSt}(k:ak h):ak (h.put b (Z (.loop tm ps a d M st))):=λc x t n e=>by
 rw[AH.aO] at e;split at e
 ·cases e
 ·exact k c x t n e
structure RI (q:Qu) (ns:List ByteArray) (c5 c8 b L:Nat) (tm:Tr AV) (v5:AV) (h:AH) (out:List Pr):Prop where
 t2:tm.get 2=Z (.ptr 0 0)
 t5:tm.get 5=Z (.ptr c5 0)
 t8:tm.get 8=Z (.ptr c8 0)
 l5:0<c5
 l8:c5<c8
 lb:c8<b
 lL:b<L
 ln:L<=h.next
 nt:ak h
 g0:h.get 0=Z (.cells q.cells J)
 g5:h.get c5=Z (.cells [v5] J)
 r5:Rep h (c5+1) c8 1 v5 ((⟨ns,ai,Y⟩:Vl ByteArray).A bV)
 gb:h.get b=Z (.loop tm [49] jI iJ 61 .ready)
 r8:∃v8,h.get c8=Z (.cells [v8] J)/\aV h L out.length 4 v8 (Pr.aG out)
theorem RI.to{q:Qu}{ns:List ByteArray}{c5 c8 b L:Nat}{tm:Tr AV}{v5:AV}{h h':AH}{out:List Pr}(k:RI q ns c5 c8 b L tm v5 h out)(hn:h.next<=h'.next)(nt:ak h')(g:∀x,x<=b->h'.get x=h.get x)(g2:∀v8,h.get c8=Z (.cells [v8] J)->∀x∈ids v8,h'.get x=h.get x):RI q ns c5 c8 b L tm v5 h' out:=by
 have l1:=k.l5;have l2:=k.l8;have l3:=k.lb;have l4:=k.lL;obtain⟨v8,e1,e2⟩:=k.r8;refine⟨k.t2,k.t5,k.t8,k.l5,k.l8,k.lb,k.lL,jg k.ln hn,nt,by rw[g 0 om];exact k.g0,by rw[g c5 om];exact k.g5,td (λx hx=>g x (by have:=tJ k.r5 x hx;omega)) k.r5,by rw[g b om];exact k.gb,v8,Gr,e2.toB hn (g2 v8 e1)⟩
theorem bCC{q:Qu}{ns:List ByteArray}{c5 c8 b L:Nat}{tm:Tr AV}{v5 v9:AV}{h:AH}{out ps:List Pr}(k:RI q ns c5 c8 b L tm v5 h out)(hb:q.bd.nodes<2^29)(hns:ns.length<2^20)(hps:∀p∈ps,p.nodes<2^29)(hp0:0<ps.length)(hout:out.length<2^20)
  (r9:aV h L ps.length 4 v9 (Pr.aG ps)) (dj:∀v8,h.get c8=Z (.cells [v8] J)->∀y∈ids v9,y∉ids v8):
  ∃h',aE E1 (.y b) [v9] h (Vb J) h'/\RI q ns c5 c8 b L tm v5 h' (out++[q.bd.sub ns ps])/\h.next<=h'.next/\(∀x,c8<x->x≠b->x<h.next->(∀v8,h.get c8=Z (.cells [v8] J)->x∉ids v8)->x∉ids v9->h'.get x=h.get x)/\∀w8,h'.get c8=Z (.cells [w8] J)->∀x∈ids w8,h.next<=x:=by
 obtain⟨t2,t5,t8,l5,l8,lb,lL,ln,nt,g0,g5,r5,gb,v8,e8,r8⟩:=k;have pa:kQ [49] [v9] tm=Z (tm.put 49 (Z v9)):=rfl;have al:[49].all (λp=>Nat.blt p 61)=J:=rfl;obtain⟨e1,s1,r1,rfl,d1,k1,x2,x5,x8,x9⟩:∃e s1,Ev (λn=>exec E1 n oW {tm:=tm.put 49 (Z v9),h,defers:=[],round:=Z b}=Z (e,s1))/\e=.normal/\s1.defers=[]/\s1.h=h/\s1.eval (.t 2)=Z (.ptr 0 0)/\s1.eval (.t 5)=Z (.ptr c5 0)/\s1.eval (.t 8)=Z (.ptr c8 0)/\s1.eval (.t 9)=Z v9:=by
  have hr:Run E1 oW {tm:=tm.put 49 (Z v9),h,defers:=[],round:=Z b} λe s'=>e=.normal/\s'.defers=[]/\s'.h=h/\s'.eval (.t 2)=Z (.ptr 0 0)/\s'.eval (.t 5)=Z (.ptr c5 0)/\s'.eval (.t 8)=Z (.ptr c8 0)/\s'.eval (.t 9)=Z v9:=by
   refine rU _ _ _ ?_
   have y49:St.eval {tm:=tm.put 49 (Z v9),h,defers:=[],round:=Z b} (.t 49)=Z v9:=by show(tm.put 49 (Z v9)).get 49=_;rw[Tr.aO,if_pos rfl]
   have y2:St.eval {tm:=tm.put 49 (Z v9),h,defers:=[],round:=Z b} (.t 2)=Z (.ptr 0 0):=by show(tm.put 49 (Z v9)).get 2=_;simp_all [Tr.aO]
   have y5:St.eval {tm:=tm.put 49 (Z v9),h,defers:=[],round:=Z b} (.t 5)=Z (.ptr c5 0):=by show(tm.put 49 (Z v9)).get 5=_;simp_all [Tr.aO]
   have y8:St.eval {tm:=tm.put 49 (Z v9),h,defers:=[],round:=Z b} (.t 8)=Z (.ptr c8 0):=by show(tm.put 49 (Z v9)).get 8=_;simp_all [Tr.aO]
   simp[oW,V, *]
  exact hr
 have hB:∀x,x≠b->(h.put b (Z (.loop tm [49] jI iJ 61 .busy))).get x=h.get x:=by simp_all [AH.aO]
 obtain⟨e2,s2,r2,rfl,d2,n2,nt2,⟨w8,f8,q8,i8⟩,f5,fr⟩:=bGT q ns ps out c5 c8 L {s1 with h:=h.put b (Z (.loop tm [49] jI iJ 61 .busy))} v5 v8 v9 hb hns hps hp0 hout l5 l8 om ln (Io nt)
  Gr Gr (td (λx hx=>hB x (by have:=tJ r5 x hx;omega)) r5) Gr
  (r8.toB (ij _) λx hx=>hB x (by have:=(r8.ids x hx).1;omega)) (r9.toB (ij _) λx hx=>hB x (by have:=(r9.ids x hx).1;omega)) (dj v8 e8) x2 x5 x8 x9 d1
 have n2:h.next<=s2.h.next:=n2;have gb2:s2.h.get b=Z (.loop tm [49] jI iJ 61 .busy):=by
  rw[fr b (by show b<h.next;omega) om (λq=>by have:=tJ r5 _ q;omega) (λq=>by have:=(r8.ids _ q).1;omega) (λq=>by have:=(r9.ids _ q).1;omega),AH.aO,if_pos rfl]
 have hC:∀x,x≠b->(s2.h.put b (Z (.loop tm [49] jI iJ 61 .ready))).get x=s2.h.get x:=by simp_all [AH.aO]
 have fr':∀x,x<h.next->x≠b->x≠c8->x∉ids v5->x∉ids v8->x∉ids v9->s2.h.get x=h.get x:=Sa;refine⟨s2.h.put b (Z (.loop tm [49] jI iJ 61 .ready)),?_,⟨t2,t5,t8,l5,l8,lb,lL,jg ln n2,(Io nt2),?_,?_,?_,?_,w8,?_,?_⟩,n2,λx h1 h1b h2 h3 h4=>?_,λw8' e8' x hx=>?_⟩
 ·refine(r1.and r2).mono λn ⟨p1,p2⟩=>?_
  have gb1:s1.h.get b=Z (.loop tm [49] jI iJ 61 .ready):=Gr;have p2':exec E1 n oq {s1 with h:=s1.h.put b (Z (.loop tm [49] jI iJ 61 .busy))}=Z (.normal,s2):=Gr;simp[bY,roundA,gb,pa,al,bGW,p1,gb1,bGU,p2',d2,gb2,qP]
 ·rw[hC 0 om,fr' 0 om om om (λq=>by have:=tJ r5 _ q;omega) (λq=>by have:=(r8.ids _ q).1;omega) (λq=>by have:=(r9.ids _ q).1;omega),g0]
 ·rw[hC c5 om,fr' c5 om om om (λq=>by have:=tJ r5 _ q;omega) (λq=>by have:=(r8.ids _ q).1;omega) (λq=>by have:=(r9.ids _ q).1;omega),g5]
 ·exact td (λx hx=>hC x (by have:=tJ r5 x hx;omega)) f5
 ·rw[AH.aO,if_pos rfl]
 ·grind
 ·exact q8.toB (ij _) λx hx=>hC x (by have:=(q8.ids x hx).1;omega)
 ·rw[hC x h1b,fr' x h2 h1b om (λq=>by have:=tJ r5 _ q;omega) (h3 v8 e8) h4]
 ·rw[hC c8 om,f8] at e8'
  simp_all
def pvs(k:Ho)(l:List Nat):List Pr:=l.map λj=>pV (psN k.ps.l j)
def chG(k:Ho)(vs:List Vr)(G:List Nat->Pr):Nat->List Nat->List Pr
 |0,l=>[G l]
 |n+1,l=>chR (chG k vs G n) (soN vs l.length) l 1 (k.ps.l.drop 1)
theorem bIK(q:Qu)(k:Ho):∀(n:Nat) (l:List Nat),chq q k n l=chG k q.vs.l (λl=>q.bd.gi (q.vs.l.map Vr.nm) (pvs k l)) n l
 |0,l=>rfl
 |n+1,l=>by
  have:chq q k n=chG k q.vs.l (λl=>q.bd.gi (q.vs.l.map Vr.nm) (pvs k l)) n:=funext (bIK q k n);rw[chq,chG,this]
theorem We{k:Ho}{vs:List Vr}{G:List Nat->Pr}(hk:k.ps.l.length<=4):∀(n:Nat) (l:List Nat),(chG k vs G n l).length<=4^n
 |0,l=>ij _
 |n+1,l=>by
  have:=Wd (F:=chG k vs G n) (so:=soN vs l.length) (l:=l) (We hk n) (k.ps.l.drop 1) 1;have h2:(k.ps.l.drop 1).length<=4:=Gr;have:=jy (4^n) h2
  grind [chG]
theorem Yl{k:Ho}{l:List Nat}{i:Nat}:pvs k (l++[i])=pvs k l++[pV (psN k.ps.l i)]:=by grind [pvs]
theorem aNI{k:Ho}{l:List Nat}:∀p∈pvs k l,p.nodes<2^29:=λp hp=>by
 obtain⟨j,_,rfl⟩:=js.1 hp
 grind [aNM]
theorem wE{k:Ho}{l:List Nat}:(pvs k l).length=l.length:=A4 _
theorem sO{l:List Pr}:∀c∈Pr.aG l,aj c:=λc hc=>by grind [Pr.bG,Yp]
def cr(l:List Nat)(m:Nat):List AV:=(List.range m).map λj=>.val (.bool (decide (1<=j)&&chS j l))
structure CI (q:Qu) (k:Ho) (c8 bq bk b:Nat) (h:AH) (l:List Nat):Prop where
 lq:bq<b
 lk:bk<b
 l8:c8<bq
 lqk:c8<bk
 ln:b+7<=h.next
 gy:h.get (b+1)=Z (.cells [.yld b] J)
 gU:h.get (b+2)=Z (.cells (cr l k.ps.l.length) J)
 gu:h.get (b+3)=Z (.cells [.own (b+2) 0 k.ps.l.length 1 (Z k.ps.l.length)] J)
 gs:h.get (b+6)=Z (.cells [.fn (.func 122) [] [.ptr bq 0,.ptr (b+1) 0,.ptr (b+5) 0,.ptr bk 0,.ptr (b+3) 0,.ptr (b+6) 0]] J)
 gq:h.get bq=Z (.cells q.cells J)
 gk:h.get bk=Z (.cells k.cells J)
 gd:h.get (b-1)=Z (.dfr J)
 by':∃B cs cap,h.get (b+5)=Z (.cells [.own B 0 l.length 4 cap] J)/\h.get B=Z (.cells (Pr.aG (pvs k l)++cs) J)/\(∀c∈cs,aj c)/\(∃j,cs.length=j*4)/\(cap=Y\/(cap=Z 1/\l.length=1/\cs=[]))/\(B=b+4\/b+7<=B)/\B<h.next/\
  ∀v8,h.get c8=Z (.cells [v8] J)->B∉ids v8
def qy(b bq bk i:Nat):List AV:=[vI (i:Nat),.ptr bq 0,.ptr (b+1) 0,.ptr (b+5) 0,.ptr bk 0,.ptr (b+3) 0,.ptr (b+6) 0]
theorem aLT{h:AH}{b bq bk i:Nat}{P:AH->Prop}(H:∀s:St,s.eval (.t 0)=Z (vI (i:Nat))->s.eval (.t 1)=Z (.ptr bq 0)->s.eval (.t 2)=Z (.ptr (b+1) 0)->s.eval (.t 3)=Z (.ptr (b+5) 0)->s.eval (.t 4)=Z (.ptr bk 0)->s.eval (.t 5)=Z (.ptr (b+3) 0)->s.eval (.t 6)=Z (.ptr (b+6) 0)->s.h=h->s.defers=[]->
  Run E1 f122 s λe s=>(e=.normal\/e=.ret)/\s.defers=[]/\s.eval (.t 8)=Z (Vb J)/\P s.h):∃h',aE E1 (.f 122) (qy b bq bk i) h (Vb J) h'/\P h':=by
 obtain⟨r,h2,⟨rfl,hp⟩,ha⟩:=tQ (g:=122) (l:=qy b bq bk i) (h:=h) (P:=λr h2=>r=[Vb J]/\P h2) bFU λs hs hh hd hr=>by
  refine(H s (hs 0 _ rfl) (hs 1 _ rfl) (hs 2 _ rfl) (hs 3 _ rfl) (hs 4 _ rfl) (hs 5 _ rfl) (hs 6 _ rfl) hh hd).mono λe s' ⟨k1,k2,k3,k4⟩=>⟨k1,s'.h,by rw[k2];rfl,[Vb J],⟨rfl,k4⟩,?_⟩
  have:s'.tm.get 8=Z (Vb J):=k3
  grind [aKW,ay,St.toH]
 refine⟨h2,uB (eJ (g:=122) rf) (h1:=h) rfl ?_ ha,hp⟩;rfl
theorem aZK{q:Qu}{k:Ho}{ns:List ByteArray}{c5 c8 bq bk b:Nat}{tm:Tr AV}{v5:AV}{h:AH}{out:List Pr}{l:List Nat}(ri:RI q ns c5 c8 b (b+7) tm v5 h out)(ci:CI q k c8 bq bk b h l)(hb:q.bd.nodes<2^29)(hns:ns.length<2^20)(hout:out.length<2^20)(hl:l.length=q.vs.l.length)(hl0:0<l.length)(hll:l.length<2^20):
  ∃h',aE E1 (.f 122) (qy b bq bk l.length) h (Vb J) h'/\RI q ns c5 c8 b (b+7) tm v5 h' (out++[q.bd.sub ns (pvs k l)])/\CI q k c8 bq bk b h' l/\h.next<=h'.next:=by
 have ci0:=ci;have ri0:=ri;obtain⟨lq,lk,l8,lqk,ln,gy,gU,gu,gs,gq,gk,gd,B,cs,cap,gc,gB,lf,hj,hcap,hBr,hBn,hdj⟩:=ci;refine aLT (P:=λh'=>RI q ns c5 c8 b (b+7) tm v5 h' (out++[q.bd.sub ns (pvs k l)])/\CI q k c8 bq bk b h' l/\h.next<=h'.next) λs h0 h1 h2 h3 h4 h5 h6 hh hd=>?_
 have c1:=U278;have ce:decide ((l.length:Int)=(q.vs.l.length:Int))=J:=Gr;have lfB:=U293;have iB:=rX lfB;have knB:aN h (Z (.own B 0 l.length 4 cap))=J:=uL hBn gB iB;have kny:∀o,aN h (Z (.ptr (b+1) o))=J:=λo=>tO om gy (by simp only[ids,below,j9,jc,Bool.and_true];exact j8.mpr om)
 have knc:∀o,aN h (Z (.ptr (b+5) o))=J:=λo=>tO om gc (by simp_all [ids,below])
 refine rU _ _ _ ?_
 simp[f122,V,h0,h1,hh,gq,c1,ce];refine pb rfl ?_
 simp[aKV,X0,X1,X2,X3,X4,V,h2,h3,hh,gy,gc,knB,kny,knc];refine rY (sK (j:=17) de (v:=.own B 0 l.length 4 cap) (by simp[V]) (λe=>by cases e)) ?_
 refine aPB (B:=B) (cs:=Pr.aG (pvs k l)++cs) (rw:=J) (P:=λv h1=>v=.own (h.next+1) 0 l.length 4 Y/\h1.next=h.next+2/\h1.get (h.next+1)=Z (.cells (Pr.aG (pvs k l)) J)) ?_ ?_ iB ?_ ?_ (λh1 e1 e2 e3=>?_) (λn=>?_) ?_
 ·simp[V,hh];grind
 ·simp[V,hh];exact gB
 ·simp[X3,V]
 ·simp[V,hh];exact ri.nt
 ·simp[V,hh] at e1 e2⊢
  obtain⟨h2,c,n2,g2,o2,t2⟩:=Mx (h:=h1) (B:=B) (n:=l.length) (cap:=cap) (e2.trans gB) om hll hl0 (by grind [pj,wE]) lfB
  rw[e1] at c n2 g2;refine⟨_,h2,c,om,o2 B om,t2 e3,rfl,n2,?_⟩
  simp_all [pj,wE]
 ·have z1:¬B=b+1:=by omega
  have z5:¬B=b+5:=om;simp[X3,X4, *]
 rintro v h1 h2 ⟨rfl,n1,g1⟩ n2 _ gn go nt2;simp[V,hh] at gn go;have ri2:RI q ns c5 c8 b (b+7) tm v5 h2 out:=ri.to om nt2 (λx hx=>go x om) (λv8 e8 x hx=>by
  obtain⟨w8,f1,f2⟩:=ri.r8;rw[e8] at f1;cases f1;exact go x (f2.ids x hx).2.1)
 have g9:h2.get (h.next+1)=Z (.cells (Pr.aG (pvs k l)) J):=Gr;have r9:aV h2 (b+7) (pvs k l).length 4 (.own (h.next+1) 0 l.length 4 Y) (Pr.aG (pvs k l)):=⟨sO,pj _,.inr ⟨h.next+1,om,om,by grind [wE],by rw[wE],g9⟩⟩
 obtain⟨h3,rc,ri3,n3,fr3,i3⟩:=bCC ri2 hb hns aNI (by grind [wE]) hout r9 (λv8 e8 y hy hv=>by
  simp[ids] at hy;obtain⟨w8,f1,f2⟩:=ri.r8;have:=ri.l8;have:=ri.lb;rw[go c8 om,f1] at e8;cases e8;have:=(f2.ids y hv).2.1;omega)
 simp[X0,V];refine aZQ (v:=Vb J) (h':=h3) (by simp[V];exact rc) ?_
 simp[V,hd];obtain⟨w8,f1,f2⟩:=ri.r8;have e8:h2.get c8=Z (.cells [w8] J):=by
  grind
 have fx:∀x,c8<x->x≠b->x<h.next->x∉ids w8->h3.get x=h.get x:=by grind [ids]
 have lo8:∀x∈ids w8,b+7<=x:=λx hx=>(f2.ids x hx).1;refine⟨ri3,⟨lq,lk,l8,lqk,om,?_,?_,?_,?_,?_,?_,?_,B,cs,cap,?_,?_,lf,hj,hcap,hBr,om,λv8 e8 hv=>?_⟩,om⟩
 ·grind
 ·grind
 ·grind
 ·grind
 ·grind
 ·grind
 ·grind
 ·grind
 ·grind
 grind
theorem sw(l:List Nat)(m:Nat):(cr l m).length=m:=by grind [cr]
theorem vV{l:List Nat}{m j:Nat}(h:j<m):(cr l m)[j]? =Z (Vb (decide (1<=j)&&chS j l)):=by
 grind [cr]
theorem aCQ{l:List Nat}{m j:Nat}(h:j<m):∃r,(cr l m).drop j=Vb (decide (1<=j)&&chS j l)::r:=by
 obtain⟨v,r,e⟩:=re (l:=cr l m) (j:=j) (by grind [sw])
 have h2:=vV (l:=l) h;have:(cr l m)[j]? =Z v:=by
  have:=congrArg (·[0]?) e
  grind
 grind
theorem Kw(j a:Nat):∀l:List Nat,chS j (l++[a])=(chS j l||decide ((a:Int)=(j:Int)))
 | []=>by simp[chS]
 |x::r=>by simp only[jj,chS,Kw j a r,Bool.or_assoc]
theorem Nt{cs:List AV}{j:Nat}{v:AV}(h:j<cs.length):putAt cs j [v]=cs.set j v:=by
 simp_all [putAt,List.set_eq_take_append_cons_drop]
theorem aRH{l:List Nat}{m j:Nat}(h:j<m)(h1:1<=j):putAt (cr l m) j [Vb J]=cr (l++[j]) m:=by
 rw[Nt (by grind [sw])]
 refine List.ext_getElem? λi=>?_
 rw[List.getElem?_set]
 by_cases hi:i<m
 ·by_cases e:j=i
  ·subst e;rw[if_pos rfl,if_pos (by grind [sw]),vV hi,Kw,decide_eq_true h1,decide_eq_true rfl,Bool.or_true,Bool.true_and]
  ·exact U38
 simp_all [sw]
theorem aMR{l:List Nat}{m j:Nat}(h:j<m)(h1:chS j l=U):putAt (cr (l++[j]) m) j [Vb U]=cr l m:=by
 rw[Nt (by grind [sw])]
 refine List.ext_getElem? λi=>?_
 rw[List.getElem?_set]
 by_cases hi:i<m
 ·by_cases e:j=i
  ·subst e;rw[if_pos rfl,if_pos (by grind [sw]),vV hi,h1,Bool.and_false]
  ·exact U38
 simp_all [sw]
theorem Ni(l:List Nat)(m:Nat):aQ (cr l m)=[]:=rX λc hc=>by
 obtain⟨j,_,rfl⟩:=js.1 hc;exact U181
theorem aSC{h:AH}{b j:Nat}{cs:List AV}{v:AV}(hj:j<cs.length):stK h b 1 j [v] (Z (.cells cs J))=Z (h.put b (Z (.cells (putAt cs j [v]) J))):=by
 have h1:ig [v].length 1=J:=rfl;have h2:ii (j+1) cs.length=J:=Nat.ble_eq.mpr hj;simp only[stK,h1,h2,ja,cond_true]
theorem bBR{h:AH}{b n off:Nat}{cs zs l ds:List AV}(ho:cs.length=off)(hz:zs.length=n)(hl:l.length=n):stK h b n off l (Z (.cells (cs++zs++ds) J))=Z (h.put b (Z (.cells (cs++l++ds) J))):=by
 have h1:=U192;have h2:ii (off+n) (cs++zs++ds).length=J:=Sa;have h3:putAt (cs++zs++ds) off l=cs++l++ds:=by
  grind [putAt]
 exact U66
theorem aMV{b n m es:Nat}(h:m<=n):fW es (.own b 0 n es Y) Y (Z m) Y=Z (.own b 0 m es Y):=by
 have h1:=U184;have h2:ii n n=J:=Sp;have h3:ii m n=J:=Sa;have h4:ii 0 m=J:=by rfl
 have h5:=U159;simp only[fW,h1,cond_true,sliceB,Option.getD_none,Option.getD_some,h2,h3,h4,Option.isNone_none,Bool.true_or,ja,h5]
theorem bOK{s:St}{K:St->Prop}{dst:Option Nat}{r:List aW}{a d B n:Nat}{cap:Option Nat}{A cs new:List AV}{x:AV}(ha:s.eval (.t a)=Z (.own B 0 n 4 cap))(hx:s.eval (.t d)=Z x)(g:s.h.get B=Z (.cells (A++cs) J))(hB:B<s.h.next)(he:∀h:AH,(∀y∈ids x,h.get y=s.h.get y)->au h 4 x=Z (new,1))(hl:new.length=4)(hA:A.length=n*4)(hn:n<2^20)(hj:∃j,cs.length=j*4)(hcap:cap=Y\/(cap=Z 1/\n=1/\cs=[]))
  (k:∀(h':AH) (B':Nat) (cs':List AV),h'.get B'=Z (.cells (A++new++cs') J)->(∃j,cs'.length=j*4)->(∀c∈cs',c∈cs)->(B'=B\/s.h.next<=B')->B'<h'.next->s.h.next<=h'.next->(∀y,y<s.h.next->y≠B->h'.get y=s.h.get y)->(ak s.h->ak h')->AM.wpOps E1 r ((s.toH h').put dst (.own B' 0 (n+1) 4 Y)) K):
  AM.wpOps E1 (⟨dst,Y,.append 4 56 (.t a) (.t d)⟩::r) s K:=by
 have ok:cW (n+1) 56=J:=by grind [uh]
 rcases hcap with rfl|⟨rfl,rfl,rfl⟩
 ·obtain⟨j,hj⟩:=hj;rcases Bf j with rfl|j0
  ·have:cs=[]:=by grind
   subst this;rw[aCE (n:=1) (cs:=A++[]) (new:=new) ha hx g (he _ λy hy=>rfl) de Gr ok];refine k _ s.h.next [] ?_ ⟨0,rfl⟩ (λc hc=>by cases hc) (.inr (ij _)) (je _) (j5 _) (λy y1 y2=>?_) (λnt=>nt.drop.alloc)
   ·rw[jm,jm];exact co (h:=s.h.put B Y)
   ·rw[am Sa,bc y2]
  ·rw[bOJ (n:=1) (cs:=A++cs) (new:=new) ha hx g (he _ λy hy=>rfl) de Gr Gr ok];refine k _ B (cs.drop 4) ?_ ⟨j-1,Gr⟩ (λc hc=>jp hc) (.inl rfl) hB (ij _) (λy y1 y2=>bc y2) (λnt=>nt.put);rw[AH.aO,if_pos rfl]
   grind [List.drop_drop,List.drop_left,putAt]
 ·rw[aCF (n:=1) (cs:=A++[]) (new:=new) ha hx g (he _ λy hy=>rfl) de de Gr ok];refine k _ s.h.next [] ?_ ⟨0,rfl⟩ (λc hc=>by cases hc) (.inr (ij _)) (je _) (j5 _) (λy y1 _=>am y1) (λnt=>nt.alloc)
  grind [co]
theorem wF{b o n e:Nat}{c:Option Nat}:oL (.own b o n e c)=Z (vI (n:Nat)):=rfl
theorem xK{M:Nat}(hM:M<=2^19){q:Qu}{k:Ho}{ns:List ByteArray}{c5 c8 bq bk b:Nat}{tm:Tr AV}{v5:AV}{l:List Nat}{F:List Nat->List Pr}{u:Vr}{us:List Vr}(hl0:0<l.length)(hll:l.length<2^19)(hK:k.ps.l.length<=4)(hF:∀l,(F l).length<=64)(hu:q.vs.l.drop l.length=u::us)
  (hc:∀(i:Nat) (h:AH) (out:List Pr),i<k.ps.l.length->1<=i->RI q ns c5 c8 b (b+7) tm v5 h out->CI q k c8 bq bk b h (l++[i])->out.length<M->∃h',aE E1 (.f 122) (qy b bq bk (l.length+1)) h (Vb J) h'/\RI q ns c5 c8 b (b+7) tm v5 h' (out++F (l++[i]))/\CI q k c8 bq bk b h' (l++[i])/\h.next<=h'.next):
  ∀(r:List Vr) (i:Nat) (s:St) (out:List Pr),k.ps.l.drop i=r->i<=k.ps.l.length->1<=i->out.length+(k.ps.l.length-i)*64<M->RI q ns c5 c8 b (b+7) tm v5 s.h out->CI q k c8 bq bk b s.h l->
  s.eval (.t 0)=Z (vI (l.length:Nat))->s.eval (.t 1)=Z (.ptr bq 0)->s.eval (.t 3)=Z (.ptr (b+5) 0)->s.eval (.t 4)=Z (.ptr bk 0)->s.eval (.t 5)=Z (.ptr (b+3) 0)->s.eval (.t 6)=Z (.ptr (b+6) 0)->s.eval (.t 9)=Z (vI (i:Nat))->s.defers=[]->
  Run E1 mL s λe s'=>e=.exit 0/\s'.defers=[]/\RI q ns c5 c8 b (b+7) tm v5 s'.h (out++chR F u.so l i r)/\CI q k c8 bq bk b s'.h l/\s.h.next<=s'.h.next
 | [],i,s,out,hd,hi,hi1,hol,ri,ci,h0,h1,h3,h4,h5,h6,h9,hf=>by
  have hl:=ca hd hi;subst hl;have c1:=U279;apply az (rfl:mL=.loop l6);simp only[l6,V,h4,h9,ci.gk,tE,hf,chR,jm,seval]
  grind
 |x::r,i,s,out,hd,hi,hi1,hol,ri,ci,h0,h1,h3,h4,h5,h6,h9,hf=>by
  have hl:=cz hd;have hlt:=rj hl;have w1:=U204;have ci0:=ci;obtain⟨lq,lk,l8,lqk,ln,gy,gU,gu,gs,gq,gk,gd,B,cs,cap,gc,gB,lf,hj,hcap,hBr,hBn,hdj⟩:=ci;have c1:=U279;have c0:=U278;have hkx:=U280;have hux:aX 2 (q.vs.A Vr.cells) l.length=Z (.bD (u.cells++us.flatMap Vr.cells)):=q.vs.at Vr.len hu;obtain⟨rb,hrb⟩:=aCQ (l:=l) hl;have cU:cfB (Z (.cells (cr l k.ps.l.length) J)) i=Z (Vb (decide (1<=i)&&chS i l)::rb):=by
   have hle:ii i (cr l k.ps.l.length).length=J:=by simp_all [sw]
   simp[cfB, *]
  have cU':cfB (Z (.cells (cr l k.ps.l.length) J)) (i*1)=Z (Vb (decide (1<=i)&&chS i l)::rb):=Gr;have hiU:aX 1 (.own (b+2) 0 k.ps.l.length 1 (Z k.ps.l.length)) i=Z (.ptr (b+2) (0+i*1)):=wt hl;have d1:decide (1<=i)=J:=Gr;have kn3:∀o,aN s.h (Z (.ptr (b+3) o))=J:=λo=>tO om gu (by simp only[ids,below,j9,jc,Bool.and_true];exact j8.mpr om)
  have knU:aN s.h (Z (.own (b+2) 0 k.ps.l.length 1 (Z k.ps.l.length)))=J:=by grind [uL,Ni]
  have knU2:∀o,aN s.h (Z (.ptr (b+2) o))=J:=by grind [bm,Ni]
  have knk:∀o,aN s.h (Z (.ptr bk o))=J:=λo=>bm om gk k.ah;have knq:∀o,aN s.h (Z (.ptr bq o))=J:=λo=>bm om gq q.bM;have skip:∀s':St,(bif !chS i l&&aP x.so u.so then F (l++[i]) else [])=[]->s'.h=s.h->s'.eval (.t 0)=Z (vI (l.length:Nat))->s'.eval (.t 1)=Z (.ptr bq 0)->s'.eval (.t 3)=Z (.ptr (b+5) 0)->s'.eval (.t 4)=Z (.ptr bk 0)->s'.eval (.t 5)=Z (.ptr (b+3) 0)->s'.eval (.t 6)=Z (.ptr (b+6) 0)->s'.eval (.t 9)=Z (vI ((i+1:Nat):Int))->s'.defers=[]->
    Run E1 mL s' λe s'=>e=.exit 0/\s'.defers=[]/\RI q ns c5 c8 b (b+7) tm v5 s'.h (out++chR F u.so l i (x::r))/\CI q k c8 bq bk b s'.h l/\s.h.next<=s'.h.next:=λs' hb e0 y0 y1 y3 y4 y5 y6 y9 yf=>by
   rw[chR,hb,ju,<-e0];exact xK hM hl0 hll hK hF hu hc r (i+1) s' out (ba hd) om om om Gr Gr y0 y1 y3 y4 y5 y6 y9 yf
  apply az (rfl:mL=.loop l6);simp only[l6,V,seval, *];refine pb rfl ?_
  cases hz:chS i l with
  |true=>
   simp only[Vu,X0,X1,X3,X4,V,WF,h5,h9,gu,gU,hiU,cU',hz,d1,kn3,knU,knU2,knk,knq,h0,h1,h4,w1,seval];exact U125
  |false=>
   simp only[Vu,X0,X1,X3,X4,V,an Vl.ids,seval, *];cases hy:aP x.so u.so with
   |false=>
    simp only[V,WF,h9,w1,seval];exact U125
   |true=>
    have lfB:=U293;have iB:=rX lfB;have hsU:∀H:AH,stK H (b+2) 1 (i*1) [Vb J] (Z (.cells (cr l k.ps.l.length) J))=Z (H.put (b+2) (Z (.cells (cr (l++[i]) k.ps.l.length) J))):=by simp_all [aSC,sw,aRH]
    obtain⟨H1,hH1⟩:∃H1,s.h.put (b+2) (Z (.cells (cr (l++[i]) k.ps.l.length) J))=H1:=⟨_,rfl⟩;have H1g:∀y,y≠b+2->H1.get y=s.h.get y:=λy hy=>by rw[<-hH1,AH.aO,if_neg hy]
    have H1U:H1.get (b+2)=Z (.cells (cr (l++[i]) k.ps.l.length) J):=by rw[<-hH1,AH.aO,if_pos rfl]
    have H1n:H1.next=s.h.next:=by rw[<-hH1];rfl
    have H1t:ak H1:=by rw[<-hH1];exact ri.nt.put
    simp only[V,WF,seval, *];have kc:∀o,aN H1 (Z (.ptr (b+5) o))=J:=λo=>tO om ((H1g _ om).trans gc) (by simp_all [ids,below])
    have kB:aN H1 (Z (.own B 0 l.length 4 cap))=J:=by grind [uL]
    have kk:∀o,aN H1 (Z (.ptr bk o))=J:=λo=>bm om ((H1g _ om).trans gk) k.ah;have nB:∀X,bp (H1.alloc X) (Z (.own B 0 l.length 4 cap))=J:=λX=>Zh (by show B<H1.next+1;omega) (by rw[am om];exact(H1g _ om).trans gB) iB
    have e5:H1.get (b+5)=Z (.cells [.own B 0 l.length 4 cap] J):=Gr;have ek:H1.get bk=Z (.cells k.cells J):=Gr;have eB:H1.get B=Z (.cells (Pr.aG (pvs k l)++cs) J):=Gr;refine pb rfl ?_
    simp only[aKU,X0,X1,X2,X3,X4,V,WF,h3,h4,h9,e5,ek,c1,hkx,kc,kB,kk,nB,an Vl.ids,aDS,aCJ,sX,Pr.bM,wF,seval];refine bOK (B:=B) (n:=l.length) (cap:=cap) (A:=Pr.aG (pvs k l)) (cs:=cs) (new:=zPr.cells) (x:=.own H1.next 0 1 4 (Z 1)) ?_ ?_ ?_ ?_ (λh hg=>?_) rf (by rw[pj,wE]) om hj hcap ?_
    ·simp[V]
    ·simp[V]
    ·simp[V]
     grind
    ·simp[V];omega
    ·refine kl (rw':=J) ?_ rf;rw[hg _ (by grind [ids])]
     simp[V]
    intro H2 B' cs' G2 hj' hsub hB' hBn' n2 o2 t2;simp only[V] at n2 o2 t2 hB';have t2:=t2 H1t.alloc;have fr2:∀y,y<s.h.next->y≠B->H2.get y=H1.get y:=Gr;have hBc:B'=B\/s.h.next<=B':=Gr;have b5:H2.get (b+5)=Z (.cells [.own B 0 l.length 4 cap] J):=Gr;have lf':∀c∈cs',aj c:=Gr;have lfB':∀(z:Pr),∀c∈Pr.aG (pvs k l)++z.cells++cs',aj c:=λz c hc=>by
     rcases U292 with hc|hc
     ·rcases U292 with hc|hc
      ·grind
      ·exact z.leaves c hc
     grind
    have k5:aN H2 (Z (.ptr (b+5) 0))=J:=tO om b5 (by simp only[ids,below,j9,jc,Bool.and_true];exact j8.mpr om)
    have kB2:∀o,aN H2 (Z (.ptr B' o))=J:=by grind [bm,rX]
    have kO2:aN H2 (Z (.own B' 0 (l.length+1) 4 Y))=J:=by grind [uL,rX]
    have hix2:aX 4 (.own B' 0 (l.length+1) 4 Y) l.length=Z (.ptr B' (0+l.length*4)):=by simp[wt]
    have hst:∀H:AH,stK H B' 4 (l.length*4) (pV x.nm).cells (Z (.cells (Pr.aG (pvs k l)++zPr.cells++cs') J))=Z (H.put B' (Z (.cells (Pr.aG (pvs k l)++(pV x.nm).cells++cs') J))):=by grind [bBR,pj,wE,Pr.len]
    have lcB:=rX (lfB' (pV x.nm));have ne1:¬b+5=B':=om;have ne2:¬B'=b+5:=om;simp only[X0,X1,X2,X3,X4,V,WF,h3,k5,kB2,kO2,hix2,hst,G2,b5,ne1,lcB,an (Pr.ah _),not_false_eq_true,seval];refine⟨⟨om,om⟩,?_⟩;obtain⟨H3,hH3⟩:∃H3,(H2.put B' (Z (.cells (Pr.aG (pvs k l)++(pV x.nm).cells++cs') J))).put (b+5) (Z (.cells [.own B' 0 (l.length+1) 4 Y] J))=H3:=⟨_,rfl⟩;have H3n:H3.next=H2.next:=by rw[<-hH3];rfl
    have H3t:ak H3:=by rw[<-hH3];exact t2.put.put
    have H3c:H3.get (b+5)=Z (.cells [.own B' 0 (l.length+1) 4 Y] J):=by rw[<-hH3,AH.aO,if_pos rfl]
    have H3B:H3.get B'=Z (.cells (Pr.aG (pvs k l)++(pV x.nm).cells++cs') J):=by rw[<-hH3,AH.aO,if_neg ne2,AH.aO,if_pos rfl]
    have H3o:∀y,y<s.h.next->y≠B->y≠b+5->y≠b+2->H3.get y=s.h.get y:=λy y1 y2 y3 y4=>by
     rw[<-hH3,AH.aO,if_neg y3,AH.aO,if_neg om,fr2 y y1 y2,H1g y y4]
    have H3U:H3.get (b+2)=Z (.cells (cr (l++[i]) k.ps.l.length) J):=by
     rw[<-hH3,AH.aO,if_neg om,AH.aO,if_neg om,fr2 _ om om,H1U]
    rw[hH3];have lb:=ri.lb;have lc8:=ri.l8;have ri3:RI q ns c5 c8 b (b+7) tm v5 H3 out:=ri.to om H3t (λy hy=>H3o y om om om om) (λv8 e8 y hy=>by
     obtain⟨w8,f1,f2⟩:=ri.r8;have e9:=e8;rw[f1] at e8;cases e8;have:=f2.ids y hy
     grind)
    have e8:H3.get c8=s.h.get c8:=H3o c8 om om om om;have ci3:CI q k c8 bq bk b H3 (l++[i]):=by
     refine⟨lq,lk,l8,lqk,om,?_,H3U,?_,?_,?_,?_,?_,B',cs',Y,?_,?_,lf',hj',.inl rfl,om,om,λv8 ev hv=>?_⟩
     ·grind
     ·grind
     ·grind
     ·rw[H3o _ om om om om,gq]
     ·rw[H3o _ om om om om,gk]
     ·rw[H3o _ om om om om,gd]
     ·simp_all
     ·grind [Yl,Sh,pl]
     ·obtain⟨w8,f1,f2⟩:=ri.r8;rw[e8] at ev;have e9:=ev;rw[f1] at ev;cases ev;rcases hBc with e|e
      ·grind
      ·have:=(f2.ids _ hv).2.1;omega
    obtain⟨H4,rc,ri4,ci4,n4⟩:=hc i H3 out hl hi1 ri3 ci3 om;have wl:IntKind.i64.wrap ((l.length:Int)+1)=((l.length+1:Nat):Int):=by grind [sP]
    have g6:H3.get (b+6)=Z (.cells [.fn (.func 122) [] [.ptr bq 0,.ptr (b+1) 0,.ptr (b+5) 0,.ptr bk 0,.ptr (b+3) 0,.ptr (b+6) 0]] J):=ci3.gs;simp only[V,h0,h6,g6,wl,ju,jj,seval];refine gt (by simp[V];exact rc) ?_
    obtain⟨_,_,_,_,ln4,gy4,gU4,gu4,gs4,gq4,gk4,gd4,B4,cs4,cap4,gc4,gB4,lf4,hj4,hcap4,hBr4,hBn4,hdj4⟩:=ci4;have hcap4:cap4=Y:=by
     grind
    subst hcap4;rw[jh,jf,List.length_nil] at gc4;have wm:IntKind.i64.wrap (((l.length+1:Nat):Int)-1)=((l.length:Nat):Int):=by
     grind [sP]
    have hsl:fW 4 (.own B4 0 (l.length+1) 4 Y) Y (Z l.length) Y=Z (.own B4 0 l.length 4 Y):=aMV om;have hsU4:∀H:AH,stK H (b+2) 1 (i*1) [Vb U] (Z (.cells (cr (l++[i]) k.ps.l.length) J))=Z (H.put (b+2) (Z (.cells (cr l k.ps.l.length) J))):=by simp_all [aSC,sw,aMR]
    have nq1:¬b+3=b+5:=om;have nq2:¬b+2=b+5:=om;simp only[V,WF,h3,h5,h9,gc4,wF,wm,hsl,bCU,gu4,gU4,hiU,nq1,nq2,hsU4,w1,seval];obtain⟨H5,hH5⟩:∃H5,(H4.put (b+5) (Z (.cells [.own B4 0 l.length 4 Y] J))).put (b+2) (Z (.cells (cr l k.ps.l.length) J))=H5:=⟨_,rfl⟩;have H5n:H5.next=H4.next:=by rw[<-hH5];rfl
    have H5t:ak H5:=by rw[<-hH5];exact ri4.nt.put.put
    have H5o:∀y,y≠b+5->y≠b+2->H5.get y=H4.get y:=λy y1 y2=>by rw[<-hH5,AH.aO,if_neg y2,AH.aO,if_neg y1]
    have H5c:H5.get (b+5)=Z (.cells [.own B4 0 l.length 4 Y] J):=by rw[<-hH5,AH.aO,if_neg om,AH.aO,if_pos rfl]
    have H5U:H5.get (b+2)=Z (.cells (cr l k.ps.l.length) J):=by rw[<-hH5,AH.aO,if_pos rfl]
    rw[hH5];have ri5:RI q ns c5 c8 b (b+7) tm v5 H5 (out++F (l++[i])):=ri4.to om H5t (λy hy=>H5o y om om) (λv8 e8 y hy=>by
     obtain⟨w8,f1,f2⟩:=ri4.r8;rw[f1] at e8;cases e8;have:=f2.ids y hy;exact H5o y om om)
    have e85:H5.get c8=H4.get c8:=H5o c8 om om;have ci5:CI q k c8 bq bk b H5 l:=by
     refine⟨lq,lk,l8,lqk,om,?_,H5U,?_,?_,?_,?_,?_,B4,(pV x.nm).cells++cs4,Y,H5c,?_,λc hc=>?_,?_,.inl rfl,hBr4,om,λv8 ev=>hdj4 v8 Gr⟩
     ·grind
     ·grind
     ·grind
     ·rw[H5o _ om om,gq4]
     ·rw[H5o _ om om,gk4]
     ·rw[H5o _ om om,gd4]
     ·rw[H5o _ om om,gB4,Yl,Sh hd,pl,List.append_assoc]
     ·grind
     ·obtain⟨j4,hj4⟩:=hj4;exact⟨j4+1,by grind [Pr.len]⟩
    have hFl:=hF (l++[i]);refine(xK hM hl0 hll hK hF hu hc r (i+1) _ (out++F (l++[i])) (ba hd) om om Gr ?_ ?_ ?_ ?_ ?_ ?_ ?_ ?_ ?_ ?_).mono ?_
    all_goals try simp only[V,↓reduceIte,rA,reduceCtorEq,h0,h1,h3,h4,h5,h6,hf]
    ·grind
    ·grind
    rintro e s2 ⟨rfl,d2,r2,c2,n2'⟩;refine⟨rfl,d2,?_,c2,om⟩
    grind [chR]
theorem Ep{q:Qu}{k:Ho}{ns:List ByteArray}{c5 c8 bq bk b:Nat}{tm:Tr AV}{v5:AV}(hb:q.bd.nodes<2^29)(hns:ns.length<2^20)(hV:q.vs.l.length<2^18)(hk0:0<k.ps.l.length)(hK:k.ps.l.length<=4):∀(n:Nat),n<=3->∀(l:List Nat) (h:AH) (out:List Pr),l.length+n=q.vs.l.length->0<l.length->RI q ns c5 c8 b (b+7) tm v5 h out->CI q k c8 bq bk b h l->out.length+256*n<2^18->
  ∃h',aE E1 (.f 122) (qy b bq bk l.length) h (Vb J) h'/\RI q ns c5 c8 b (b+7) tm v5 h' (out++chG k q.vs.l (λl=>q.bd.sub ns (pvs k l)) n l)/\CI q k c8 bq bk b h' l/\h.next<=h'.next
 |0,_,l,h,out,hl,hl0,ri,ci,ho=>aZK ri ci hb hns om om hl0 om
 |n+1,hn,l,h,out,hl,hl0,ri,ci,ho=>by
  obtain⟨u,us,hu⟩:=re (l:=q.vs.l) (j:=l.length) om;have hso:=aSE hu;have ih:=Ep (c5:=c5) (c8:=c8) (bq:=bq) (bk:=bk) (b:=b) (tm:=tm) (v5:=v5) hb hns hV hk0 hK n om;refine aLT (P:=λh'=>RI q ns c5 c8 b (b+7) tm v5 h' (out++chG k q.vs.l (λl=>q.bd.sub ns (pvs k l)) (n+1) l)/\CI q k c8 bq bk b h' l/\h.next<=h'.next) λs h0 h1 h2 h3 h4 h5 h6 hh hd=>?_
  have c1:=U278;have ce:decide ((l.length:Int)=(q.vs.l.length:Int))=U:=Gr;refine rU _ _ _ ?_
  simp[f122,V,ci.gq, *];refine(xK (M:=2^18-256*n) (q:=q) (k:=k) (ns:=ns) (c5:=c5) (c8:=c8) (bq:=bq) (bk:=bk) (b:=b) (tm:=tm) (v5:=v5) om hl0 om hK (F:=chG k q.vs.l (λl=>q.bd.sub ns (pvs k l)) n) (λl=>jg (We hK n l) (B5 de (by omega:n<=3))) hu (λi h out hi hi1 ri ci ho=>?_) (k.ps.l.drop 1) 1 _ out rfl hk0 de om ?_ ?_ ?_ ?_ ?_ ?_ ?_ ?_ ?_ ?_).mono ?_
  all_goals try simp only[V,↓reduceIte,rA,reduceCtorEq,h0,h1,h3,h4,h5,h6,hd,hh]
  ·grind
  ·exact ri
  ·exact ci
  ·rfl
  rintro e s2 ⟨rfl,d2,r2,c2,n2⟩;simp[V,d2]
  grind [chG]
theorem bBN(m:Nat):(jr m [AV.val (.bool U)]).flatten=cr [0] m:=by
 refine List.ext_getElem? λi=>?_
 have e:(jr m [AV.val (.bool U)]).flatten=jr m (AV.val (.bool U)):=by
  simp
 rw[e]
 by_cases hi:i<m
 ·rw[vV hi,List.getElem?_replicate,if_pos hi];have:(decide (1<=i)&&chS i [0])=U:=by
   cases i<;>rfl
  grind
 simp_all [sw]
theorem RI.raise{q:Qu}{ns:List ByteArray}{c5 c8 b L L':Nat}{tm:Tr AV}{v5:AV}{h h':AH}(k:RI q ns c5 c8 b L tm v5 h [])(hL:L<=L')(hn:L'<=h'.next)(nt:ak h')(g:∀x,x<=b->h'.get x=h.get x):RI q ns c5 c8 b L' tm v5 h' []:=by
 have l1:=k.l5;have l2:=k.l8;have l3:=k.lb;have l4:=k.lL;obtain⟨v8,e1,_,_,⟨_,rfl⟩|⟨_,_,_,e,_⟩⟩:=k.r8
 ·exact⟨k.t2,k.t5,k.t8,k.l5,k.l8,k.lb,om,hn,nt,by rw[g 0 om];exact k.g0,by rw[g c5 om];exact k.g5,td (λx hx=>g x (by have:=tJ k.r5 x hx;omega)) k.r5,by rw[g b om];exact k.gb,_,Gr,aV.nil⟩
 grind
theorem Gf{q:Qu}{k:Ho}{ns:List ByteArray}{c5 c8 bq bk b:Nat}{tm:Tr AV}{v5:AV}{h:AH}(hb:q.bd.nodes<2^29)(hns:ns.length<2^20)(hk0:0<k.ps.l.length)(hK:k.ps.l.length<=4)(n:Nat)(hn:n<=3)(hv:1+n=q.vs.l.length)(ri:RI q ns c5 c8 b (b+1) tm v5 h [])(hnx:h.next=b+1)(l8:c8<bq)(l8k:c8<bk)(lq:bq<b)(lk:bk<b)(gq:h.get bq=Z (.cells q.cells J))(gk:h.get bk=Z (.cells k.cells J))(gd:h.get (b-1)=Z (.dfr J)):
  ∃h',aE E1 (.f 121) [.yld b,.ptr bk 0,.ptr bq 0] h (.tup []) h'/\RI q ns c5 c8 b (b+7) tm v5 h' (chG k q.vs.l (λl=>q.bd.sub ns (pvs k l)) n [0])/\h'.get (b-1)=Z (.dfr J):=by
 have c1:=U279;obtain⟨y,ys,hy⟩:=re (l:=k.ps.l) (j:=0) hk0;have hky:aX 2 (k.ps.A Vr.cells) 0=Z (.bD (y.cells++ys.flatMap Vr.cells)):=k.ps.at Vr.len hy;obtain⟨r,h2,⟨rfl,hp⟩,ha⟩:=tQ (g:=121) (l:=[.yld b,.ptr bk 0,.ptr bq 0]) (h:=h) (P:=λr h2=>r=[]/\RI q ns c5 c8 b (b+7) tm v5 h2 (chG k q.vs.l (λl=>q.bd.sub ns (pvs k l)) n [0])/\h2.get (b-1)=Z (.dfr J)) bFY λs hs hh hd hr=>by
  have h0:=hs 0 _ rfl;have h1:=hs 1 _ rfl;have h2:=hs 2 _ rfl;have yc:AV.cells (.yld b)=Z [.yld b]:=rfl;have gk':(h.alloc (.cells [.yld b] J)).get bk=Z (.cells k.cells J):=by grind [am]
  refine rU _ _ _ ?_
  have nk:¬bk=b+1:=om;have nk2:¬bk=b+2:=om;have nk3:¬bk=b+3:=om;have nk4:¬bk=b+4:=om;have nk5:¬bk=b+5:=om;simp only[aKX,f121,V,seval, *];rw[aTV (n:=k.ps.l.length) (m:=k.ps.l.length) (by simp[V]) (by simp[V]) (ij _) om om,bBN]
  have fc:∀(l:List AV),AV.cells (.fn (.func 122) [] l)=Z [.fn (.func 122) [] l]:=λ_=>rfl;simp only[V,WF,Nat.add_assoc,aDS,sX,seval, *];obtain⟨H,hH⟩:∃H,(((((((((h.alloc (.cells [.yld b] J)).alloc (.cells (cr [0] k.ps.l.length) J)).alloc (.cells [.val (.slice Y 0 0)] J)).put (b+3) (Z (.cells [.own (b+2) 0 k.ps.l.length 1 (Z k.ps.l.length)] J))).alloc (.cells (pV y.nm).cells J)).alloc (.cells [.val (.slice Y 0 0)] J)).put (b+5) (Z (.cells [.own (b+4) 0 1 4 (Z 1)] J))).alloc (.cells [.val .nilFunc] J)).put (b+6) (Z (.cells [.fn (.func 122) [] [.ptr bq 0,.ptr (b+1) 0,.ptr (b+5) 0,.ptr bk 0,.ptr (b+3) 0,.ptr (b+6) 0]] J)))=H:=⟨_,rfl⟩;have Hn:H.next=b+7:=by rw[<-hH];show h.next+1+1+1+1+1+1=b+7;omega
  have Ht:ak H:=by rw[<-hH];exact ri.nt.alloc.alloc.alloc.put.alloc.alloc.put.alloc.put
  have n1:(h.alloc (.cells [.yld b] J)).next=b+2:=Sa;have n2:((h.alloc (.cells [.yld b] J)).alloc (.cells (cr [0] k.ps.l.length) J)).next=b+3:=Sa;have n3:(((h.alloc (.cells [.yld b] J)).alloc (.cells (cr [0] k.ps.l.length) J)).alloc (.cells [.val (.slice Y 0 0)] J)).next=b+4:=Sa;have n4:((((h.alloc (.cells [.yld b] J)).alloc (.cells (cr [0] k.ps.l.length) J)).alloc (.cells [.val (.slice Y 0 0)] J)).put (b+3) (Z (.cells [.own (b+2) 0 k.ps.l.length 1 (Z k.ps.l.length)] J))).next=b+4:=Sa;have n5:(((((h.alloc (.cells [.yld b] J)).alloc (.cells (cr [0] k.ps.l.length) J)).alloc (.cells [.val (.slice Y 0 0)] J)).put (b+3) (Z (.cells [.own (b+2) 0 k.ps.l.length 1 (Z k.ps.l.length)] J))).alloc (.cells (pV y.nm).cells J)).next=b+5:=Sa;have n6:(((((((h.alloc (.cells [.yld b] J)).alloc (.cells (cr [0] k.ps.l.length) J)).alloc (.cells [.val (.slice Y 0 0)] J)).put (b+3) (Z (.cells [.own (b+2) 0 k.ps.l.length 1 (Z k.ps.l.length)] J))).alloc (.cells (pV y.nm).cells J)).alloc (.cells [.val (.slice Y 0 0)] J)).put (b+5) (Z (.cells [.own (b+4) 0 1 4 (Z 1)] J))).next=b+6:=Sa;have Hg:∀x,H.get x=if b+6=x then Z (.cells [.fn (.func 122) [] [.ptr bq 0,.ptr (b+1) 0,.ptr (b+5) 0,.ptr bk 0,.ptr (b+3) 0,.ptr (b+6) 0]] J) else if b+5=x then Z (.cells [.own (b+4) 0 1 4 (Z 1)] J) else if b+4=x then Z (.cells (pV y.nm).cells J) else if b+3=x then Z (.cells [.own (b+2) 0 k.ps.l.length 1 (Z k.ps.l.length)] J) else if b+2=x then Z (.cells (cr [0] k.ps.l.length) J) else if b+1=x then Z (.cells [.yld b] J) else h.get x:=λx=>by
   rw[<-hH];simp only[AH.aO,AH.aS,n1,n2,n4,n5,n6,hnx]
   grind
  have g1:H.get (b+1)=Z (.cells [.yld b] J):=Gr;have g2:H.get (b+2)=Z (.cells (cr [0] k.ps.l.length) J):=Gr;have g3:H.get (b+3)=Z (.cells [.own (b+2) 0 k.ps.l.length 1 (Z k.ps.l.length)] J):=Gr;have g4:H.get (b+4)=Z (.cells (pV y.nm).cells J):=Gr;have g5:H.get (b+5)=Z (.cells [.own (b+4) 0 1 4 (Z 1)] J):=Gr;have g6:H.get (b+6)=Z (.cells [.fn (.func 122) [] [.ptr bq 0,.ptr (b+1) 0,.ptr (b+5) 0,.ptr bk 0,.ptr (b+3) 0,.ptr (b+6) 0]] J):=Gr;have gl:∀x,x<=b->H.get x=h.get x:=λx hx=>by rw[Hg,if_neg om,if_neg om,if_neg om,if_neg om,if_neg om,if_neg om]
  have ri':RI q ns c5 c8 b (b+7) tm v5 H []:=ri.raise om om Ht gl;obtain⟨w8,f1,f2⟩:=ri'.r8;have hpv:pvs k [0]=[pV y.nm]:=by grind [pvs,Sh]
  have ci':CI q k c8 bq bk b H [0]:=by
   refine⟨lq,lk,l8,l8k,om,g1,g2,g3,g6,?_,?_,?_,b+4,[],Z 1,g5,?_,?_,⟨0,rfl⟩,.inr ⟨rfl,rfl,rfl⟩,.inl rfl,om,λv8 ev hv=>?_⟩
   ·grind
   ·grind
   ·grind
   ·grind [Pr.bG]
   ·grind
   ·rw[f1] at ev;cases ev;have:=(f2.ids _ hv).1;omega
  obtain⟨H',rc,ri2,ci2,_⟩:=Ep hb hns om hk0 hK n hn [0] H [] Gr de ri' ci' Gr;refine gt (by simp only[V];subst hH;exact rc) ?_
  simp only[V,hd];exact⟨_,rfl,_,⟨rfl,ri2,ci2.gd⟩,rfl⟩
 refine⟨h2,uB (eJ (g:=121) rf) (h1:=h) rfl ?_ ha,hp⟩;rfl
theorem Hl{E:Env}{h:AH}{b:Nat}(hg:h.get b=Z (.dfr J)):cL E [.mark b] h=Z (h.put b (Z (.dfr U))):=by
 grind [cL]
theorem aNA{E:Env}{g:Opd}{ps ps3:List Nat}{asg body asg3 body3:Code}{M M3 f:Nat}{s:St}{Q:Ex->St->Prop}{a bb:List AV}{v:AV}{h3:AH}{tm3:Tr AV}{st:LSt}{e:Ex}(hr:s.round=Y)(hg:s.eval g=Z (.fn (.func f) a bb))
  (hc:aE E (.f f) (a++(.yld (s.h.next+1)::bb)) ((s.h.alloc (.dfr J)).alloc (.loop s.tm ps asg body M .ready)) v h3) (hb:h3.get (s.h.next+1)=Z (.loop tm3 ps3 asg3 body3 M3 st))
  (hst:(st=.ready/\e=.normal)\/st=.done e)
  (hQ:Q e {s with h:=h3.put (s.h.next+1) (Z (.loop tm3 ps3 asg3 body3 M3 .gone)),defers:=.mark s.h.next::s.defers}):Run E (.range g ps asg body M) s Q:=by
 refine⟨_,_,(Ev.mono hc λn p=>?_:Ev λn=>exec E (n+1) (.range g ps asg body M) s=Z (e,_)).step,hQ⟩;have hn:(s.h.alloc (.dfr J)).next=s.h.next+1:=rfl;simp[exec, *]
 grind
theorem aHV{g:Nat}{l:List AV}{a:ax}{t:AV}(hs:hY g=J)(hf:aR ib g=Z a)(hl:∀v∈l,Tree v)
  (H:∀s:St,(∀i v,(bg l 0 .nil).get i=Z v->s.eval (.t i)=Z v)->s.h=.empty->s.defers=[]->s.round=Y->wp E1 a.body s λe s=>(e=.normal\/e=.ret)/\∃h',cL E1 s.defers s.h=Z h'/\∃r,ay E1.aY (s.toH h') a.res=Z [r]/\∃n,n<1000/\Rep h' 0 h'.next n r t) (h:AH):aE E1 (.f g) l h t h:=by
 obtain⟨r,h',⟨v,rfl,n,hn,hr⟩,hrun⟩:=tQ (g:=g) (l:=l) (h:=.empty) (a:=a) (P:=λr h'=>∃v,r=[v]/\∃n,n<1000/\Rep h' 0 h'.next n v t) hf λs h1 h2 h3 h4=>(rU _ _ _ (H s h1 h2 h3 h4)).mono λe s' ⟨k1,h',k2,r,k3,k4⟩=>⟨k1,h',k2,[r],⟨r,rfl,k4⟩,k3⟩;exact U235
theorem Kv(q:Qu)(k:Ho)(h:AH):aE E1 (.f 83) [.agg q.cells,.agg k.cells] h (.fn (.func 121) [] [.ptr (h.next+1) 0,.ptr h.next 0]) ((h.alloc (.cells q.cells J)).alloc (.cells k.cells J)):=by
 obtain⟨r,h',⟨rfl,rfl⟩,ha⟩:=tQ (g:=83) (l:=[.agg q.cells,.agg k.cells]) (h:=h) (P:=λr h'=>r=[.fn (.func 121) [] [.ptr (h.next+1) 0,.ptr h.next 0]]/\h'=(h.alloc (.cells q.cells J)).alloc (.cells k.cells J)) bMC λs hs hh hd hrd=>by
  have h0:=hs 0 _ rfl;have h1:=hs 1 _ rfl;refine rU _ _ _ ?_
  simp only[aVY,f83,V,seval, *];exact⟨_,rfl,_,⟨rfl,rfl⟩,rfl⟩
 exact Es rf ha
theorem Ph(q:Qu)(k:Ho)(hV:q.vs.l.length<2^20):∀(r:List Vr) (i:Nat) (s:St) (v5:AV) (ns:List ByteArray),q.vs.l.drop i=r->i<=q.vs.l.length->ns.length=i->aV s.h 3 ns.length 1 v5 (ns.flatMap bV)->3<=s.h.next->ak s.h->s.h.get 0=Z (.cells q.cells J)->s.h.get 1=Z (.cells k.cells J)->s.h.get 2=Z (.cells [v5] J)->
  s.eval (.t 2)=Z (.ptr 0 0)->s.eval (.t 3)=Z (.ptr 1 0)->s.eval (.t 5)=Z (.ptr 2 0)->s.eval (.t 34)=Z (q.vs.A Vr.cells)->s.eval (.t 35)=Z (vI (q.vs.l.length:Nat))->s.eval (.t 36)=Z (vI (i:Nat))->s.defers=[]->s.round=Y->
  Run E1 Ug s λe s'=>e=.exit 0/\s'.defers=[]/\s'.round=Y/\s'.eval (.t 2)=Z (.ptr 0 0)/\s'.eval (.t 3)=Z (.ptr 1 0)/\s'.eval (.t 5)=Z (.ptr 2 0)/\ak s'.h/\3<=s'.h.next/\s'.h.get 0=Z (.cells q.cells J)/\s'.h.get 1=Z (.cells k.cells J)/\∃v5,s'.h.get 2=Z (.cells [v5] J)/\aV s'.h 3 (ns++r.map Vr.nm).length 1 v5 ((ns++r.map Vr.nm).flatMap bV)
 | [],i,s,v5,ns,hd,hi,hn,r5,n3,nt,g0,g1,g2,h2,h3,h5,h34,h35,h36,hf,hr=>by
  have hl:=ca hd hi;subst hl;apply az (rfl:Ug=.loop pS);simp[pS,V,h2,h3,h5,h35,h36,hf,hr,St.rd_set]
  grind
 |x::r,i,s,v5,ns,hd,hi,hn,r5,n3,nt,g0,g1,g2,h2,h3,h5,h34,h35,h36,hf,hr=>by
  have hl:=cz hd;have hlt:=rj hl;have w1:=U204;have hqx:aX 2 (q.vs.A Vr.cells) i=Z (.bD (x.cells++r.flatMap Vr.cells)):=q.vs.at Vr.len hd;have hx:x.cells=[vS x.nm,vS x.so]:=rfl;have t2:∀l:List AV,takeN (Z 2) (vS x.nm:: vS x.so::l)=Z (.agg [vS x.nm,vS x.so]):=λl=>rfl;have e2:¬2=s.h.next:=om;have e2':¬s.h.next=2:=om;have hst:∀h b (u w:AV),stK h b 2 0 [vS x.nm,vS x.so] (Z (.cells [u,w] J))=Z (h.put b (Z (.cells [vS x.nm,vS x.so] J))):=λh b u w=>cy rfl rfl;apply az (rfl:Ug=.loop pS);simp only[pS,V,WF,jj,seval, *];refine sk (k:=ns.length) (m:=1) (lo:=3) (v:=v5) (x:=.own (s.h.next+1) 0 1 1 (Z 1)) (cs:=ns.flatMap bV) (new:=bV x.nm) ?_ ?_ ?_ de rfl (λc hc=>by rw[jb.1 hc];exact aj.val _) (uh om de) ?_ ?_ ?_
  ·simp[V];refine r5.to (by show s.h.next<=s.h.next+1+1;omega) λy _ y2=>?_
   rw[am (by show y<s.h.next+1;omega),bc om,am y2]
  ·simp[V];omega
  ·refine kl (rw':=J) ?_ rfl;simp[V];rfl
  ·simp[V]
  ·simp[V]
  intro h2' r2 n2 o2 nt2 gn2;simp[V] at n2 o2 r2 nt2 gn2;have no:2∉ids v5:=λhy=>by have:=(r5.ids 2 hy).1;omega
  have o2':∀y,y<3->h2'.get y=s.h.get y:=λy hy=>by
   rw[o2 y om (λhv=>by have:=(r5.ids y hv).1;omega)]
   grind
  have e5:h2'.get 2=Z (.cells [v5] J):=Gr;simp only[V,WF,h5,h36,w1,e5,seval];refine(Ph q k hV r (i+1) _ (.own (s.h.next+2) 0 (ns.length+1) 1 Y) (ns++[x.nm]) (ba hd) om Gr ?_ ?_ ?_ ?_ ?_ ?_ ?_ ?_ ?_ ?_ ?_ ?_ ?_ ?_).mono ?_
  all_goals try simp only[V,↓reduceIte,rA,reduceCtorEq,h2,h3,h5,h34,h35,hf]
  ·rw[jh,List.flatMap_append,List.flatMap_cons,List.flatMap_nil,jm];exact r2.to (ij _) λy y1 _=>bc om
  ·omega
  ·exact(nt2 nt.alloc.put.alloc).put
  ·grind
  ·grind
  ·exact hr
  grind
theorem aOF{h:AH}{d:Bool}(k:ak h):ak (h.alloc (.dfr d)):=λc x t n e=>by
 rw[AH.aS] at e;split at e
 ·cases e
 ·exact k c x t n e
theorem aOE{h:AH}{tm:Tr AV}{ps:List Nat}{a d:Code}{M:Nat}{st:LSt}(k:ak h):ak (h.alloc (.loop tm ps a d M st)):=λc x t n e=>by
 rw[AH.aS] at e;split at e
 ·cases e
 ·exact k c x t n e
theorem aPJ{q:Qu}{k:Ho}{ns:List ByteArray}{c:Nat}{v5:AV}{s:St}(hb:q.bd.nodes<2^29)(hns:ns.length<2^20)(hk0:0<k.ps.l.length)(hK:k.ps.l.length<=4)(n:Nat)(hn:n<=3)(hv:1+n=q.vs.l.length)(hc:3<=c)(hnx:s.h.next=c+3)(nt:ak s.h)(g0:s.h.get 0=Z (.cells q.cells J))(g2:s.h.get 2=Z (.cells [v5] J))(r5:Rep s.h 3 c 1 v5 ((⟨ns,ai,Y⟩:Vl ByteArray).A bV))(gc:s.h.get c=Z (.cells [.val (.slice Y 0 0)] J))(gq:s.h.get (c+1)=Z (.cells q.cells J))(gk:s.h.get (c+2)=Z (.cells k.cells J))
  (h2:s.tm.get 2=Z (.ptr 0 0)) (h5:s.tm.get 5=Z (.ptr 2 0)) (h8:s.tm.get 8=Z (.ptr c 0)) (h48:s.eval (.t 48)=Z (.fn (.func 121) [] [.ptr (c+2) 0,.ptr (c+1) 0])) (hd:s.defers=[]) (hr:s.round=Y):
  Run E1 Ue s λe s'=>e=.normal/\s'.defers=[.mark (c+3)]/\s'.h.get (c+3)=Z (.dfr J)/\s'.eval (.t 8)=Z (.ptr c 0)/\∃v8,s'.h.get c=Z (.cells [v8] J)/\aV s'.h (c+5) (chG k q.vs.l (λl=>q.bd.sub ns (pvs k l)) n [0]).length 4 v8 (Pr.aG (chG k q.vs.l (λl=>q.bd.sub ns (pvs k l)) n [0])):=by
 obtain⟨H,hH⟩:∃H,(s.h.alloc (.dfr J)).alloc (.loop s.tm [49] jI iJ 61 .ready)=H:=⟨_,rfl⟩;have m1:(s.h.alloc (.dfr J)).next=c+4:=Sa;have Hn:H.next=c+5:=by rw[<-hH];show s.h.next+1+1=_;omega
 have Hg:∀x,x<c+3->H.get x=s.h.get x:=by grind [am]
 have Hd:H.get (c+3)=Z (.dfr J):=by grind [am,co]
 have Hb:H.get (c+4)=Z (.loop s.tm [49] jI iJ 61 .ready):=by grind [co]
 have Ht:ak H:=by grind [aOE,aOF]
 have ri:RI q ns 2 c (c+4) (c+4+1) s.tm v5 H []:=by
  refine⟨h2,h5,h8,de,om,om,om,om,Ht,?_,?_,?_,Hb,.val (.slice Y 0 0),?_,aV.nil⟩
  ·grind
  ·grind
  ·exact td (λx hx=>Hg x (by have:=tJ r5 x hx;omega)) r5
  grind
 obtain⟨h3,rc,ri3,gd3⟩:=Gf hb hns hk0 hK n hn hv (bq:=c+1) (bk:=c+2) ri Hn om om om om Gr Gr Hd;obtain⟨v8,e8,r8⟩:=ri3.r8;have gb3:=ri3.gb;refine aNA (ps:=[49]) (asg:=jI) (body:=iJ) (M:=61) (v:=.tup []) (h3:=h3) (e:=.normal) hr h48 ?_ (by rw[hnx];exact gb3) (.inl ⟨rfl,rfl⟩) ⟨rfl,?_,?_,h8,v8,?_,?_⟩
 ·grind
 ·grind
 ·grind [bc]
 ·grind [bc]
 ·refine aV.toB (r8.low om) (ij _) λx hx=>?_
  show(h3.put _ _).get _=_;have:=(r8.ids x hx).1
  grind [bc]
def lP(q:Qu)(k:Ho):List Pr:=match q.vs.l,k.ps.l with
 | [],_=>[]
 |_,[]=>[]
 |u::us,y::_=>bif aP u.so y.so then chG k q.vs.l (λl=>q.bd.sub (q.vs.l.map Vr.nm) (pvs k l)) us.length [0] else []
theorem Zu(q:Qu)(k:Ho)(hK:k.ps.l.length<=4)(hb:q.bd.nodes<2^29)(hV:q.vs.l.length<=4)(h:AH):aE E1 (.f 45) [.agg q.cells,.agg k.cells] h ((⟨lP q k,ai,Y⟩:Vl Pr).A Pr.cells) h:=by
 have c0:=U278;have c1:=U279;have q6:=U282;have k2:=U274;have kq:=U284;have kk:=U285;have d0:decide (((0:Nat):Int)=0)=J:=rfl;unfold lP;cases hq:q.vs.l with
 |nil=>
  refine aHV rf Uf (sE (Tree.qu q) (Tree.ho k)) (λs hs hh hd hr=>?_) h;have h0:=hs 0 _ rfl;have h1:=hs 1 _ rfl;have lq:q.vs.l.length=0:=Gr;simp[px,f45,V, *];refine pb rfl ?_
  simp only[qZ,X0,X1,X3,X4,V,c0,an Vl.ids,Vl.ids,lq,kq,kk,d0,hd,seval];exact U294
 |cons u us=>
  have lq:=U287;have hux:=U288;cases hk:k.ps.l with
  |nil=>
   refine aHV rf Uf (sE (Tree.qu q) (Tree.ho k)) (λs hs hh hd hr=>?_) h;have h0:=hs 0 _ rfl;have h1:=hs 1 _ rfl;have lk:k.ps.l.length=0:=Gr;simp[px,f45,V, *];refine pb rfl ?_
   simp only[qZ,X0,X1,X3,X4,V,c0,c1,an Vl.ids,Vl.ids,lq,lk,kq,kk,d0,hd,seval];exact U294
  |cons y ys=>
   have lk:=U289;have hky:=U290;cases hs1:aP u.so y.so with
   |false=>
    refine aHV rf Uf (sE (Tree.qu q) (Tree.ho k)) (λs hs hh hd hr=>?_) h;have h0:=hs 0 _ rfl;have h1:=hs 1 _ rfl;simp only[px,f45,V,h0,h1,hh,seval];refine pb rfl ?_
    simp only[qZ,X0,X1,X3,X4,V,c0,c1,an Vl.ids,Vl.ids,lq,lk,kq,kk,hux,hky,hs1,hd,seval];exact U294
   |true=>
    refine aHV rf Uf (sE (Tree.qu q) (Tree.ho k)) (λs hs hh hd hr=>?_) h;have h0:=hs 0 _ rfl;have h1:=hs 1 _ rfl;simp only[px,f45,V,h0,h1,hh,seval];refine pb rfl ?_
    simp only[qZ,X0,X1,X3,X4,V,c0,c1,an Vl.ids,Vl.ids,lq,lk,kq,kk,hux,hky,hs1,seval];refine(Ph q k om q.vs.l 0 _ (.val (.slice Y 0 0)) [] rfl (il _) rfl aV.nil ?_ ?_ ?_ ?_ ?_ ?_ ?_ ?_ ?_ ?_ ?_ ?_ ?_).mono ?_
    all_goals try simp only[V,↓reduceIte,rA,rB,reduceCtorEq,hd]
    ·decide
    ·exact ak.empty.alloc.alloc.alloc
    ·rfl
    ·grind [St.rd_set,St.rd_toH]
    rintro e s1 ⟨rfl,d1,r1,e2,e3,e5,nt,n3,g0,g1,v5,g2,r5⟩;rw[ju] at r5;have wd:∀(s:St) Q,wp E1 Ue s Q=Run E1 Ue s Q:=λ_ _=>rfl;have l0:0<s1.h.next:=om;have l1:1<s1.h.next:=om;have ne0:¬0=s1.h.next:=om;have ne1:¬1=s1.h.next:=om;simp only[V,WF,seval, *];have rc:=Kv q k (s1.h.alloc (.cells [.val (.slice Y 0 0)] J));refine gt (v:=.fn (.func 121) [] [.ptr (s1.h.next+1+1) 0,.ptr (s1.h.next+1) 0]) (h':=((s1.h.alloc (.cells [.val (.slice Y 0 0)] J)).alloc (.cells q.cells J)).alloc (.cells k.cells J)) (by simp[V];exact rc) ?_
    simp only[V,wd];have hrep:Rep s1.h 3 s1.h.next 1 v5 ((⟨q.vs.l.map Vr.nm,ai,Y⟩:Vl ByteArray).A bV):=by
     have:=r5.rep;rw[show((⟨q.vs.l.map Vr.nm,ai,Y⟩:Vl ByteArray).A bV)=fE _ _ from(uQ rfl).symm];exact this
    have hl4:q.vs.l.length=us.length+1:=Gr;refine(aPJ (q:=q) (k:=k) (ns:=q.vs.l.map Vr.nm) (c:=s1.h.next) (v5:=v5) hb Gr Gr hK us.length om om n3 ?_ ?_ ?_ ?_ ?_ ?_ ?_ ?_ ?_ ?_ ?_ ?_ ?_ ?_).mono ?_
    all_goals try simp only[V,↓reduceIte,rA,reduceCtorEq,d1,g0,g2]
    ·exact nt.alloc.alloc.alloc
    ·grind
    ·grind
    ·refine td (λx hx=>?_) hrep;have:=(r5.ids x hx).2.1;rw[am (by show x<s1.h.next+1+1;omega),am (by show x<s1.h.next+1;omega),am this]
    ·grind
    ·grind
    ·exact e2
    ·exact e5
    ·grind [St.rd_set,St.rd_toH]
    rintro e s2 ⟨rfl,d2,gd2,e8,v8,g8,r8⟩;simp only[V, *];have:=r8.rep;refine⟨_,Hl gd2,_,rfl,1,de,?_⟩;rw[hq] at r8;have h3:=(r8.low (il _)).rep;rw[show(⟨chG k (u::us) (λl=>q.bd.sub ((u::us).map Vr.nm) (pvs k l)) us.length [0],ai,Y⟩:Vl Pr).A Pr.cells=fE _ _ from Gh.symm];exact td (λx hx=>bc (by have:=(r8.ids x hx).1;omega)) h3
theorem bDH{h:AH}{a:AV}{b o:Nat}:cG h [a,.ptr b o]=Y:=by
 have e2:ar h aU (.ptr b o)=Y:=rfl
 grind [cG]
theorem aTX{h:AH}{a:AV}{g b o:Nat}:cG h [a,.fn (.func g) [] [.ptr b o]]=Y:=by
 have e2:ar h aU (.fn (.func g) [] [.ptr b o])=Y:=rfl
 grind [cG]
theorem aES(p x:Pr)(hx:x.nodes<2^61)(b:Nat)(h:AH)(g:h.get b=Z (.cells p.cells J))(hb:b<h.next):aE E1 (.f 47) [x.av,.ptr b 0] h (Vb (x.same p)) (h.alloc (.cells x.cells J)):=by
 obtain⟨r,h',⟨rfl,rfl⟩,ha⟩:=tQ (g:=47) (l:=[x.av,.ptr b 0]) (h:=h) (P:=λr h'=>r=[Vb (x.same p)]/\h'=h.alloc (.cells x.cells J)) bMX λs hs hh hd hrd=>by
  have h0:=hs 0 _ rfl;have h1:=hs 1 _ rfl;have nb:¬b=h.next:=om;have tp:=U295;have tx:takeN (Z 4) x.cells=Z x.av:=cf x.len;refine rU _ _ _ ?_
  simp only[aXM,f47,V,ac (uU x hx p),seval, *];exact⟨_,rfl,_,⟨rfl,rfl⟩,rfl⟩
 exact uB (eJ (g:=47) rf) rfl bDH ha
theorem Oy(p:Pr)(out:List Pr)(hN:out.length<2^60)(hs:∀q∈out,q.nodes<2^61){b lo:Nat}{v:AV}:∀(r:List Pr) (i:Nat) (s:St),out.drop i=r->i<=out.length->aV s.h lo out.length 4 v (Pr.aG out)->b<s.h.next->s.h.get b=Z (.cells p.cells J)->
  s.eval (.t 0)=Z v->s.eval (.t 1)=Z (.fn (.func 47) [] [.ptr b 0])->s.eval (.t 7)=Z (vI (out.length:Nat))->s.eval (.t 8)=Z (vI (i:Nat))->s.defers=[]->
  Run E1 Tu s λe s'=>s'.defers=[]/\s.h.next<=s'.h.next/\(∀y,y<s.h.next->s'.h.get y=s.h.get y)/\((dy p r=U/\e=.exit 0)\/(dy p r=J/\e=.ret/\∃j:Nat,j<2^60/\s'.eval (.t 4)=Z (vI (j:Nat))))
 | [],i,s,hd,hi,hr,hlo,g,h0,h1,h7,h8,hf=>by
  have hl:=ca hd hi;subst hl;apply az (rfl:Tu=.loop qD);simp only[qD,V,tE,dy, *]
  grind
 |x::r,i,s,hd,hi,hr,hlo,g,h0,h1,h7,h8,hf=>by
  have hl:=cz hd;have hlt:=rj hl;have w1:=U204;have hx:=hs x (jp (i:=i) Gr);obtain⟨_,_,⟨q,_⟩|⟨B,B1,B2,B3,rfl,gB⟩⟩:=id hr
  ·omega
  have hix:aX 4 (.own B 0 out.length 4 Y) i=Z (.ptr B (0+i*4)):=wt hl;have hcf:cfB (Z (.cells (Pr.aG out) J)) (i*4)=Z (x.cells++Pr.aG r):=by
   have hle:ii (i*4) (Pr.aG out).length=J:=Nat.ble_eq.mpr Gr;simp[cfB,hle,uZ,hd,Pr.aG]
  have tx:takeN (Z 4) (x.cells++Pr.aG r)=Z x.av:=Bp x _;have rc:=aES p x hx b s.h g hlo;apply az (rfl:Tu=.loop qD);simp only[qD,V,rA, *];refine gt (by simp only[V];exact rc) ?_
  have hn:s.h.next<(s.h.alloc (.cells x.cells J)).next:=Sp;rw[dy];cases hc:x.same p with
  |true=>
   simp only[V,rA,reduceCtorEq,hf]
   grind
  |false=>
   simp only[V,rA, *];refine(Oy p out hN hs (b:=b) (lo:=lo) (v:=.own B 0 out.length 4 Y) r (i+1) _ (ba hd) om ?_ ?_ ?_ ?_ ?_ ?_ ?_ ?_).mono ?_
   all_goals try simp only[V,↓reduceIte,rA,reduceCtorEq,h0,h1,h7,hf]
   ·exact hr.to (j5 _) λy _ y2=>am y2
   ·omega
   ·grind
   grind
theorem Tf(p:Pr)(out:List Pr)(hN:out.length<2^60)(hs:∀q∈out,q.nodes<2^61){b lo:Nat}{v:AV}(h:AH)(hr:aV h lo out.length 4 v (Pr.aG out))(hlo:b<h.next)(g:h.get b=Z (.cells p.cells J)):
  ∃h' z,aE E1 (.f 84) [v,.fn (.func 47) [] [.ptr b 0]] h (vI z) h'/\decide (0<=z)=dy p out/\h.next<=h'.next/\∀y,y<h.next->h'.get y=h.get y:=by
 obtain⟨r,h',⟨z,rfl,k1,k2,k3⟩,ha⟩:=tQ (g:=84) (l:=[v,.fn (.func 47) [] [.ptr b 0]]) (h:=h) (P:=λr h'=>∃z,r=[vI z]/\decide (0<=z)=dy p out/\h.next<=h'.next/\∀y,y<h.next->h'.get y=h.get y) bMB λs hs' hh hd hrd=>by
  have h0:=hs' 0 _ rfl;have h1:=hs' 1 _ rfl;refine rU _ _ _ ?_
  simp[aVX,f84,V,h0,hr.len];refine(Oy p out hN hs (b:=b) (lo:=lo) (v:=v) out 0 _ rfl (il _) ?_ ?_ ?_ ?_ ?_ ?_ ?_ ?_).mono ?_
  all_goals try simp only[V,↓reduceIte,rA,reduceCtorEq,h0,h1,hh,hd]
  ·exact hr
  ·grind
  ·exact g
  ·rfl
  rintro e s2 ⟨d2,n2,o2,⟨q1,rfl⟩|⟨q1,rfl,j,j1,j2⟩⟩
  ·simp only[V,WF,d2];exact⟨_,rfl,_,⟨-1,rfl,Gr,n2,o2⟩,rfl⟩
  ·simp only[V,d2,j2];exact⟨_,rfl,_,⟨j,rfl,Gr,n2,o2⟩,rfl⟩
 exact⟨h',z,uB (eJ (g:=84) rf) rfl aTX ha,k1,k2,k3⟩
theorem Ge(p:Pr)(out:List Pr)(hN:out.length<2^60)(hs:∀q∈out,q.nodes<2^61){b lo:Nat}{v:AV}(h:AH)(hr:aV h lo out.length 4 v (Pr.aG out))(hlo:b<h.next)(g:h.get b=Z (.cells p.cells J)):
  ∃h',aE E1 (.f 46) [v,.fn (.func 47) [] [.ptr b 0]] h (Vb (dy p out)) h'/\h.next<=h'.next/\∀y,y<h.next->h'.get y=h.get y:=by
 obtain⟨h2,z,rc,k1,k2,k3⟩:=Tf p out hN hs h hr hlo g;obtain⟨r,h',⟨rfl,rfl⟩,ha⟩:=tQ (g:=46) (l:=[v,.fn (.func 47) [] [.ptr b 0]]) (h:=h) (P:=λr h'=>r=[Vb (dy p out)]/\h'=h2) bMY λs hs' hh hd hrd=>by
  have h0:=hs' 0 _ rfl;have h1:=hs' 1 _ rfl;refine rU _ _ _ ?_
  simp[aXN,f46,V, *];refine gt (by simp only[V,hh];exact rc) ?_
  simp only[V,hd];exact⟨_,rfl,_,⟨by rw[<-k1],rfl⟩,rfl⟩
 exact⟨_,uB (eJ (g:=46) rf) rfl aTX ha,k2,k3⟩
theorem xZ(x:Vl Pr)(hx:∀q∈x.l,q.nodes<2^61)(hN:x.l.length<2^61){lo:Nat}:∀(r:List Pr) (i:Nat) (s:St) (v:AV) (out:List Pr),x.l.drop i=r->i<=x.l.length->aV s.h lo out.length 4 v (Pr.aG out)->lo<=s.h.next->(∀q∈out,q.nodes<2^61)->out.length<=100->
  s.eval (.t 5)=Z v->s.eval (.t 18)=Z (x.A Pr.cells)->s.eval (.t 19)=Z (vI (x.l.length:Nat))->s.eval (.t 20)=Z (vI (i:Nat))->s.defers=[]->
  Run E1 Us s λe s'=>e=.exit 2/\s'.defers=[]/\(∃v',s'.eval (.t 5)=Z v'/\aV s'.h lo (fw out r).length 4 v' (Pr.aG (fw out r)))/\s.h.next<=s'.h.next/\(∀y,y<lo->s'.h.get y=s.h.get y)/\(∀q∈fw out r,q.nodes<2^61)/\(fw out r).length<=100/\∀j,j<13->j≠5->j≠7->j≠9->s'.eval (.t j)=s.eval (.t j)
 | [],i,s,v,out,hd,hi,hr,hlo,hs,hl1,h5,h18,h19,h20,hf=>by
  have hl:=ca hd hi;subst hl;apply az (rfl:Us=.loop nD);simp only[nD,V,rA,h5,h19,h20,hf,tE,fw]
  grind
 |k::r,i,s,v,out,hd,hi,hr,hlo,hs,hl1,h5,h18,h19,h20,hf=>by
  have hl:=cz hd;have hlt:=rj hl;have w1:=U204;have hln:=hr.len;have hkn:k.nodes<2^61:=by grind [ip]
  have hst:∀h b,stK h b 4 0 k.cells (Z (.cells [vI 0,vS ⟨#[]⟩,vI 0,.val (.slice Y 0 0)] J))=Z (h.put b (Z (.cells k.cells J))):=λh b=>cy rfl k.len;apply az (rfl:Us=.loop nD);rw[fw];cases hh:decide (((out.length:Nat):Int)<100) with
  |false=>
   simp only[nD,V,rA,WF,x.at Pr.len hd, *];refine(xZ x hx hN (lo:=lo) r (i+1) _ v out (ba hd) om ?_ ?_ hs hl1 ?_ ?_ ?_ ?_ ?_).mono ?_
   all_goals try simp only[V,↓reduceIte,rA,h5,h18,h19,hf]
   ·exact U296
   ·omega
   rintro e s2 ⟨rfl,d2,e2,n2,o2,q2,l2,t2⟩;refine⟨rfl,d2,e2,om,λy hy=>?_,q2,l2,λj hj hj2 hj7 hj9=>?_⟩
   ·grind
   ·rw[t2 j hj hj2 hj7 hj9]
    repeat rw[if_neg om]
  |true=>
   have hh':=of_decide_eq_true hh;have gB:((s.h.alloc (.cells [vI 0,vS ⟨#[]⟩,vI 0,.val (.slice Y 0 0)] J)).put s.h.next (Z (.cells k.cells J))).get s.h.next=Z (.cells k.cells J):=lA;have hr1:aV ((s.h.alloc (.cells [vI 0,vS ⟨#[]⟩,vI 0,.val (.slice Y 0 0)] J)).put s.h.next (Z (.cells k.cells J))) lo out.length 4 v (Pr.aG out):=hr.to (j5 _) λy _ y2=>by grind [bc,am]
   obtain⟨h1,rc,n1,o1⟩:=Ge k out om hs _ hr1 (je s.h.next) gB;simp only[nD,V,rA,WF,x.at Pr.len hd, *];refine gt (by simp[V];exact rc) ?_
   simp[V] at n1 o1;have hr2:aV h1 lo out.length 4 v (Pr.aG out):=hr1.to Sa λy _ y2=>by
    have y2:y<s.h.next+1:=y2;rw[o1 y om];simp[V]
   have oo:∀y,y<s.h.next->h1.get y=s.h.get y:=Gr;have g9:h1.get s.h.next=Z (.cells k.cells J):=by
    grind
   have tk:takeN (Z 4) k.cells=Z k.av:=cf k.len;cases hz:dy k out with
   |true=>
    simp only[V,rA, *];refine(xZ x hx hN (lo:=lo) r (i+1) _ v out (ba hd) om ?_ ?_ hs hl1 ?_ ?_ ?_ ?_ ?_).mono ?_
    all_goals try simp only[V,↓reduceIte,rA,h5,h18,h19,hf]
    ·grind
    ·omega
    rintro e s2 ⟨rfl,d2,e2,n2,o2,q2,l2,t2⟩
    try simp only[V,↓reduceIte,rA,rB,rC,reduceCtorEq,rD,rE,rF] at n2 o2
    refine⟨rfl,d2,e2,om,λy hy=>?_,q2,l2,λj hj hj2 hj7 hj9=>?_⟩
    ·grind
    ·rw[t2 j hj hj2 hj7 hj9]
     try simp only[V,↓reduceIte,rA,rB,rC,reduceCtorEq,rD,rE,rF]
     repeat rw[if_neg om]
   |false=>
    simp only[V,rA,WF,sX,Pr.av, *];refine uo (k:=out.length) (m:=1) (lo:=lo) (v:=v) (x:=.own h1.next 0 1 4 (Z 1)) (cs:=Pr.aG out) (new:=k.cells) ?_ ?_ ?_ de (by rw[k.len]) k.leaves (lR om de) ?_ ?_ ?_
    ·simp[V];exact hr2.to (j5 _) λy _ y2=>by rw[am y2]
    ·simp[V];omega
    ·refine kl (rw':=J) ?_ (by rw[k.len])
     simp[V]
    ·simp[V]
    ·simp[V]
    intro h2 r2 n2 o2;simp[V] at n2 o2 r2;simp only[V,rA, *];refine(xZ x hx hN (lo:=lo) r (i+1) _ (.own (h1.next+1) 0 (out.length+1) 4 Y) (out++[k]) (ba hd) om ?_ ?_ (λq hq=>?_) Gr ?_ ?_ ?_ ?_ ?_).mono ?_
    ·simp[V]
     grind [pl]
    ·simp[V];omega
    ·grind
    all_goals try simp only[V,rA, *]
    rintro e s2 ⟨rfl,d2,e2,n3,o3,q3,l3,t3⟩
    try simp only[V,↓reduceIte,rA,rB,rC,reduceCtorEq,rD,rE,rF] at n3 o3 t3
    refine⟨rfl,d2,e2,om,λy hy=>?_,q3,l3,λj hj hj2 hj7 hj9=>?_⟩
    ·rw[o3 y hy,o2 y om (λhv=>by have:=(hr.ids y hv).1;omega)]
     grind
    ·rw[t3 j hj hj2 hj7 hj9]
     repeat rw[if_neg om]
theorem Pp(w:Vl Qu)(k:Ho)(G:Qu->Vl Pr)(hN:w.l.length<2^61){lo:Nat}(hlo0:0<lo):∀(r:List Qu) (i:Nat) (s:St) (v:AV) (out:List Pr),w.l.drop i=r->i<=w.l.length->(∀q∈r,(∀h,aE E1 (.f 45) [.agg q.cells,.agg k.cells] h ((G q).A Pr.cells) h)/\(G q).l.length<2^61/\∀p∈(G q).l,p.nodes<2^61)->
  aV s.h lo out.length 4 v (Pr.aG out)->lo<=s.h.next->(∀q∈out,q.nodes<2^61)->out.length<=100->s.h.get 0=Z (.cells k.cells J)->
  s.eval (.t 3)=Z (.ptr 0 0)->s.eval (.t 5)=Z v->s.eval (.t 10)=Z (w.A Qu.cells)->s.eval (.t 11)=Z (vI (w.l.length:Nat))->s.eval (.t 12)=Z (vI (i:Nat))->s.defers=[]->
  Run E1 Ur s λe s'=>e=.exit 0/\s'.defers=[]/\∃v',s'.eval (.t 5)=Z v'/\aV s'.h lo (gh G out r).length 4 v' (Pr.aG (gh G out r))
 | [],i,s,v,out,hd,hi,hc,hr,hlo,hs,hl1,g0,h3,h5,h10,h11,h12,hf=>by
  have hl:=ca hd hi;subst hl;apply az (rfl:Ur=.loop qM);simp only[qM,V,tE,gh,seval, *]
  grind
 |q::r,i,s,v,out,hd,hi,hc,hr,hlo,hs,hl1,g0,h3,h5,h10,h11,h12,hf=>by
  have hl:=cz hd;have hlt:=rj hl;have w1:=U204;obtain⟨c1,c2,c3⟩:=hc q ip;have hst:∀h b,stK h b 6 0 q.cells (Z (.cells [vS ⟨#[]⟩,.val (.slice Y 0 0),vI 0,vS ⟨#[]⟩,vI 0,.val (.slice Y 0 0)] J))=Z (h.put b (Z (.cells q.cells J))):=λh b=>cy rfl q.len;have tk:=U274;have tq:=U282;have n0:=U297;have n0':¬s.h.next=0:=om;apply az (rfl:Ur=.loop qM);rw[gh];simp only[qM,V,WF,w.at Qu.len hd,Xd,ac c1,seval, *];refine(xZ (G q) c3 c2 (lo:=lo) (G q).l 0 _ v out rfl (il _) ?_ ?_ hs hl1 ?_ ?_ ?_ ?_ ?_).mono ?_
  all_goals try simp only[V,↓reduceIte,rA,h5,hf]
  ·exact U296
  ·omega
  ·rfl
  rintro e s2 ⟨rfl,d2,⟨v2,e5,r2⟩,n2,o2,q2,l2,t2⟩
  try simp only[V,↓reduceIte,rA,rB,rC,reduceCtorEq,rD,rE,rF] at n2 o2 t2
  have x3:s2.eval (.t 3)=Z (.ptr 0 0):=Gr;have x10:s2.eval (.t 10)=Z (w.A Qu.cells):=Gr;have x11:s2.eval (.t 11)=Z (vI (w.l.length:Nat)):=Gr;have x12:s2.eval (.t 12)=Z (vI (i:Nat)):=Gr;simp only[V,WB, *];refine(Pp w k G hN (lo:=lo) hlo0 r (i+1) _ v2 _ (ba hd) om (λq' hq'=>hc q' (iy _ hq')) ?_ ?_ q2 l2 ?_ ?_ ?_ ?_ ?_ ?_ ?_)
  all_goals try simp only[V,↓reduceIte,rA,x3,x10,x11,e5,d2]
  ·exact r2
  ·omega
  grind
theorem aHH(w:Vl Qu)(k:Ho)(G:Qu->Vl Pr)(hN:w.l.length<2^61)(hc:∀q∈w.l,(∀h,aE E1 (.f 45) [.agg q.cells,.agg k.cells] h ((G q).A Pr.cells) h)/\(G q).l.length<2^61/\∀p∈(G q).l,p.nodes<2^61)(h:AH):
  aE E1 (.f 26) [w.A Qu.cells,.agg k.cells] h ((⟨gh G [] w.l,ai,Y⟩:Vl Pr).A Pr.cells) h:=by
 refine sf rf bNL (sE Tree.vl (Tree.ho k)) (λs hs hh hd hr=>?_) h;have h0:=hs 0 _ rfl;have h1:=hs 1 _ rfl;simp[aYG,f26,V, *];refine(Pp w k G hN (lo:=1) de w.l 0 _ (.val (.slice Y 0 0)) [] rfl (il _) hc aV.nil ?_ (λq hq=>by cases hq) de ?_ ?_ ?_ ?_ ?_ ?_ ?_).mono ?_
 all_goals try simp only[V,↓reduceIte,rA,hd]
 ·decide
 ·rfl
 exact U122
set_option maxHeartbeats 1000000
mutual
theorem aCW(l:List ByteArray)(bys:List Pr):∀p:Pr,(p.sub l bys).cp=(p.gi l bys).cp
 |.mk o s n ks _ _=>by
  rw[Pr.sub,Pr.gi];cases dx o s l bys with
  |none=>simp[Pr.cp,aHL l bys ks]
  |some q=>exact aLH q
theorem aHL(l:List ByteArray)(bys:List Pr):∀ks:List Pr,Pr.cpL (Pr.subL l bys ks)=Pr.cpL (Pr.jA l bys ks)
 | []=>rfl
 |k::r=>by simp[Pr.subL,Pr.jA,Pr.cpL,aCW l bys k,aHL l bys r]
end
theorem Nx{o:Int}{s:ByteArray}{l:List ByteArray}{bys:List Pr}{q:Pr}(h:dx o s l bys=Z q):q∈bys:=by
 unfold dx at h;cases hd:decide (o=3) with
 |false=>grind
 |true=>
  rw[hd,cond_true] at h;cases hf:fnd s l<;>grind
theorem Lq(l:List ByteArray)(bys:List Pr)(p:Pr):(p.sub l bys).nodes=(p.gi l bys).nodes:=by grind [zY,aCW]
mutual
theorem Gz(l:List ByteArray)(bys:List Pr)(hb:∀q∈bys,q.nodes=1):∀p:Pr,(p.gi l bys).nodes<=p.nodes
 |.mk o s n ks _ _=>by
  rw[Pr.gi];cases h:dx o s l bys with
  |none=>
   have:=Dj l bys hb ks
   grind [Pr.nodes]
  |some q=>
   grind [Nx,Pr.nodes]
theorem Dj(l:List ByteArray)(bys:List Pr)(hb:∀q∈bys,q.nodes=1):∀ks:List Pr,Pr.aI (Pr.jA l bys ks)<=Pr.aI ks
 | []=>ij _
 |k::r=>by
  have h1:=Gz l bys hb k;have h2:=Dj l bys hb r
  grind [Pr.jA,Pr.aI]
end
theorem aLP{F F':List Nat->List Pr}{f:Pr->Pr}(hF:∀l,(F l).map f=F' l)(so:ByteArray)(l:List Nat):∀(r:List Vr) (i:Nat),(chR F so l i r).map f=chR F' so l i r
 | [],_=>rfl
 |v::r,i=>by
  rw[chR,chR,List.map_append,aLP hF so l r (i+1)]
  grind
theorem aLR{k:Ho}{vs:List Vr}{G:List Nat->Pr}{f:Pr->Pr}:∀(n:Nat) (l:List Nat),(chG k vs G n l).map f=chG k vs (λl=>f (G l)) n l
 |0,l=>rfl
 |n+1,l=>by rw[chG,chG];exact aLP (aLR n) _ _ _ _
theorem aLO{F:List Nat->List Pr}{P:Pr->Prop}(hF:∀l,∀p∈F l,P p)(so:ByteArray)(l:List Nat):∀(r:List Vr) (i:Nat),∀p∈chR F so l i r,P p
 | [],_,p,hp=>by cases hp
 |v::r,i,p,hp=>by
  rw[chR] at hp;rcases jv.1 hp with hp|hp
  ·grind
  ·exact aLO hF so l r (i+1) p hp
theorem aLQ{k:Ho}{vs:List Vr}{G:List Nat->Pr}{P:Pr->Prop}(hG:∀l,P (G l)):∀(n:Nat) (l:List Nat),∀p∈chG k vs G n l,P p
 |0,l,p,hp=>by rw[jb.1 hp];grind
 |n+1,l,p,hp=>aLO (aLQ hG n) _ _ _ _ p (by rw[chG] at hp;exact hp)
theorem Te(q:Qu)(k:Ho):(lP q k).map Pr.cp=(mN q k).map Pr.cp:=by
 unfold lP mN;cases hq:q.vs.l with
 |nil=>rfl
 |cons u us=>
  cases k.ps.l with
  |nil=>rfl
  |cons y ys=>
   cases hs:aP u.so y.so<;>simp_all [bIK,aLR,aCW]
theorem bCK(k:Ho)(l:List Nat):∀p∈pvs k l,p.nodes=1:=λp hp=>by
 obtain⟨j,_,rfl⟩:=js.1 hp;rfl
theorem xA(q:Qu)(k:Ho):∀p∈lP q k,p.nodes<=q.bd.nodes:=by
 unfold lP;cases q.vs.l with
 |nil=>grind
 |cons u us=>
  cases k.ps.l with
  |nil=>grind
  |cons y ys=>
   cases hs:aP u.so y.so with
   |false=>grind
   |true=>
    intro p hp;simp only[hs,cond_true] at hp;exact aLQ (P:=λp=>p.nodes<=q.bd.nodes) (λl=>by grind [Lq,Gz,bCK]) _ _ p hp
theorem Zd{l l':List Pr}{n:Nat}(h:l.map Pr.cp=l'.map Pr.cp)(hn:∀p∈l,p.nodes<=n):∀p∈l',p.nodes<=n:=λp hp=>by
 grind [List.mem_map_of_mem,zY]
theorem Ed(q:Qu)(k:Ho):∀p∈mN q k,p.nodes<=q.bd.nodes:=Zd (Te q k) (xA q k)
theorem Oe(q:Qu)(k:Ho)(hK:k.ps.l.length<=4)(hV:q.vs.l.length<=4):(lP q k).length<=64:=by
 unfold lP;cases hq:q.vs.l with
 |nil=>grind
 |cons u us=>
  cases k.ps.l with
  |nil=>grind
  |cons y ys=>
   cases hs:aP u.so y.so with
   |false=>grind
   |true=>
    simp only[hs,cond_true];exact jg (We hK _ _) (B5 de (by grind:us.length<=3))
theorem aOV(q:Qu)(k:Ho)(hK:k.ps.l.length<=4)(hV:q.vs.l.length<=4):(mN q k).length<=64:=by
 have:=congrArg A7 (Te q k)
 grind [Oe]
theorem aIJ{x x':Pr}(hx:x.cp=x'.cp):∀{l l':List Pr},l.map Pr.cp=l'.map Pr.cp->dy x l=dy x' l'
 | [],[],_=>rfl
 | [],_::_,h=>by simp at h
 |_::_,[],h=>by simp at h
 |a::r,b::r',h=>by
  simp at h;rw[dy,dy,aIJ hx h.2,vy h.1 hx]
theorem Wn:∀{l l' out out':List Pr},l.map Pr.cp=l'.map Pr.cp->out.map Pr.cp=out'.map Pr.cp->(fw out l).map Pr.cp=(fw out' l').map Pr.cp
 | [],[],_,_,_,ho=>ho
 | [],_::_,_,_,h,_=>by simp at h
 |_::_,[],_,_,h,_=>by simp at h
 |a::r,b::r',out,out',h,ho=>by
  simp at h;have hl:out.length=out'.length:=by
   have:=congrArg A7 ho
   grind
  rw[fw,fw,aIJ h.1 ho,hl];cases (decide (((out'.length:Nat):Int)<100)&& !dy b out') with
  |true=>exact Wn h.2 Gr
  |false=>exact Wn h.2 ho
theorem aMA{G G':Qu->Vl Pr}:∀{r:List Qu} {out out':List Pr},(∀q∈r,(G q).l.map Pr.cp=(G' q).l.map Pr.cp)->out.map Pr.cp=out'.map Pr.cp->(gh G out r).map Pr.cp=(gh G' out' r).map Pr.cp
 | [],_,_,_,ho=>ho
 |q::r,out,out',hG,ho=>by
  rw[gh,gh];exact aMA (r:=r) (λq' hq'=>hG q' (iy _ hq')) (Wn (hG q ip) ho)
theorem Lm{P:Pr->Prop}:∀{l out:List Pr},(∀p∈l,P p)->(∀p∈out,P p)->∀p∈fw out l,P p
 | [],_,_,ho,p,hp=>ho p hp
 |a::r,out,hl,ho,p,hp=>by
  rw[fw] at hp;cases hc:(decide (((out.length:Nat):Int)<100)&& !dy a out) with
  |true=>
   rw[hc] at hp;refine Lm (λp hp=>hl p (iy _ hp)) (λp hp=>?_) p hp
   grind
  |false=>
   rw[hc] at hp;exact Lm (λp hp=>hl p (iy _ hp)) ho p hp
theorem Lo:∀{l out:List Pr},out.length<=100->(fw out l).length<=100
 | [],_,h=>h
 |a::r,out,h=>by
  rw[fw];cases hc:(decide (((out.length:Nat):Int)<100)&& !dy a out) with
  |true=>
   rw[im] at hc;have:=of_decide_eq_true hc.1;exact Lo Gr
  |false=>exact Lo h
theorem Lk{P:Pr->Prop}{G:Qu->Vl Pr}:∀{r:List Qu} {out:List Pr},(∀q∈r,∀p∈(G q).l,P p)->(∀p∈out,P p)->∀p∈gh G out r,P p
 | [],_,_,ho,p,hp=>ho p hp
 |q::r,out,hG,ho,p,hp=>Lk (r:=r) (out:=fw out (G q).l) (λq' hq'=>hG q' (iy _ hq')) (Lm (hG q ip) ho) p hp
theorem Ll{G:Qu->Vl Pr}:∀{r:List Qu} {out:List Pr},out.length<=100->(gh G out r).length<=100
 | [],_,h=>h
 |q::r,out,h=>Ll (r:=r) (out:=fw out (G q).l) (Lo h)
theorem aSI{l l':List Pr}(h:l.map Pr.cp=l'.map Pr.cp):qe l l'=J:=by
 have hl:l.length=l'.length:=by
  have:=congrArg A7 h
  grind
 simp_all [qe,yk,Gs]
structure SmB (H:Hn) (L:Vl Qu):Prop where
 ks:H.hs.l.length<=3
 kp:∀k∈H.hs.l,k.ps.l.length<=4
 qs:L.l.length<=4
 qn:∀q∈L.l,q.bd.nodes<=12/\q.vs.l.length<=4
open Classical in
noncomputable def capR (q:Qu) (k:Ho):Option Nat:=if h:k.ps.l.length<=4/\q.bd.nodes<2^29/\q.vs.l.length<=4 then(Zt q k h.1 h.2.1 h.2.2).choose else Y
theorem bGP{q:Qu}{k:Ho}(h:k.ps.l.length<=4/\q.bd.nodes<2^29/\q.vs.l.length<=4):∀h,aE E1 (.f 49) [.agg q.cells,.agg k.cells] h ((⟨mN q k,ai,capR q k⟩:Vl Pr).A Pr.cells) h:=by
 unfold capR
 grind
noncomputable def gR (L:Vl Qu) (k:Ho):Vl Pr:=⟨gh (λq=>⟨mN q k,ai,capR q k⟩) [] L.l,ai,Y⟩
noncomputable def gP (L:Vl Qu) (k:Ho):Vl Pr:=⟨gh (λq=>⟨lP q k,ai,Y⟩) [] L.l,ai,Y⟩
theorem aUR{H:Hn}{L:Vl Qu}(b:SmB H L)(k:Ho):(gR L k).l.length<=100/\∀p∈(gR L k).l,p.nodes<=12:=
 ⟨Ll (il _),Lk (λq hq p hp=>jg (Ed q k p hp) (b.qn q hq).1) λp hp=>by cases hp⟩
theorem bLG{H:Hn}{L:Vl Qu}(b:SmB H L)(k:Ho):(gP L k).l.length<=100/\∀p∈(gP L k).l,p.nodes<=12:=
 ⟨Ll (il _),Lk (λq hq p hp=>jg (xA q k p hp) (b.qn q hq).1) λp hp=>by cases hp⟩
theorem bJV{H:Hn}{L:Vl Qu}(b:SmB H L)(h:AH):aE E1 (.f 6) [.agg H.cells,L.A Qu.cells] h ((⟨H.hs.l.map (gP L),ai,Y⟩:Vl (Vl Pr)).A lsA) h:=
 Xi H (gP L) Vl.leaf.tree (by have:=b.ks;omega) (λk hk h=>aHH L k (λq=>⟨lP q k,ai,Y⟩) (by have:=b.qs;omega) (λq hq=>⟨λh=>Zu q k (b.kp k hk) (by have:=(b.qn q hq).1;omega) (b.qn q hq).2 h,by
  have:=Oe q k (b.kp k hk) (b.qn q hq).2
  grind,λp hp=>by
  have:=xA q k p hp;have:=(b.qn q hq).1;omega⟩) h) h
theorem aSA{H:Hn}{L:Vl Qu}(b:SmB H L)(h:AH):aE E1 (.f 7) [.agg H.cells,L.A Qu.cells] h ((⟨H.hs.l.map (gR L),ai,Y⟩:Vl (Vl Pr)).A lsA) h:=
 Xh H (gR L) Vl.leaf.tree (by have:=b.ks;omega) (λk hk h=>Yj L k (λq=>⟨mN q k,ai,capR q k⟩) (by have:=b.qs;omega) (λq hq=>⟨bGP ⟨b.kp k hk,by have:=(b.qn q hq).1;omega,(b.qn q hq).2⟩,by
  have:=aOV q k (b.kp k hk) (b.qn q hq).2
  grind,λp hp=>by
  have:=Ed q k p hp;have:=(b.qn q hq).1;omega⟩) h) h
theorem Je{l:List Ho}{G:Ho->Vl Pr}{P:List Pr->Prop}(h0:P [])(hG:∀k,P (G k).l)(i:Nat):P (cM (l.map G) i).l:=by
 grind [cM]
theorem vd{n:Nat}:∀{l:List Pr},(∀p∈l,p.nodes<=n)->Pr.aI l<=l.length*n
 | [],_=>il _
 |p::r,h=>by
  have h1:=vd λq hq=>h q (iy _ hq);have h2:=h p ip;have e:=U298
  grind [Nat.succ_mul]
theorem wU:∀(l:List Pr) (out o:Pr),jH out l=Z o->o.nodes<=out.nodes+Pr.aI l+l.length
 | [],out,o,h=>by
  grind [jH]
 |p::r,out,o,h=>by
  have en:=U298;rw[en,jf];rw[jH] at h;cases h1:p.same fPr with
  |true=>grind
  |false=>
   rw[h1,cond_false] at h;cases h2:p.eX with
   |true=>
    rw[h2,cond_true] at h;have:=wU r out o h;omega
   |false=>
    rw[h2,cond_false] at h;cases h3:out.eX with
    |true=>
     rw[h3,cond_true] at h;have:=wU r p o h;omega
    |false=>
     rw[h3,cond_false] at h;have:=wU r (out.pair p) o h
     grind [yI]
theorem yX(l:List Pr):(bw l).nodes<=1+Pr.aI l+l.length:=by
 unfold bw;cases ha:jH tPr l with
 |none=>show 1<=_;omega
 |some o=>exact wU l tPr o ha
structure Fw (z:Vl (Vl Pr)):Prop where
 n:z.l.length<2^61
 f:∀i,(cM z.l i).l.length<=100/\∀p∈(cM z.l i).l,p.nodes<=12
theorem aEW:Fw ⟨[],ai,Y⟩:=⟨Gr,λi=>⟨by
 simp[cM],λp hp=>by
 grind [cM]⟩⟩
theorem aUU{H:Hn}{L:Vl Qu}(b:SmB H L):Fw ⟨H.hs.l.map (gR L),ai,Y⟩:=⟨by
 have:=b.ks
 grind,λi=>Je (P:=λl=>l.length<=100/\∀p∈l,p.nodes<=12) ⟨il _,λp hp=>by cases hp⟩ (λk=>aUR b k) i⟩
theorem Fw.and{z:Vl (Vl Pr)}(f:Fw z)(i:Nat)(h:AH):aE E1 (.f 31) [(cM z.l i).A Pr.cells] h (bw (cM z.l i).l).av h:=by
 obtain⟨h1,h2⟩:=f.f i;have:=vd h2
 grind [uP]
theorem Fw.pand{z:Vl (Vl Pr)}(f:Fw z)(i:Nat)(h:AH):aE E1 (.f 29) [(cM z.l i).A Pr.cells] h (qA (cM z.l i).l).av h:=by
 obtain⟨h1,h2⟩:=f.f i
 grind [Yr]
theorem Fw.same{z:Vl (Vl Pr)}(f:Fw z):∀(l:List Ho) (i:Nat),samS (dD qA z.l l i) (dD bw z.l l i)
 | [],_=>trivial
 |k::r,i=>by
  have hc:(qA (cM z.l i).l).cp=(bw (cM z.l i).l).cp:=bHC rfl;refine⟨Ha _,(vD _ _).2 hc,?_,f.same r (i+1)⟩;obtain⟨h1,h2⟩:=f.f i;have:=vd h2
  grind [yX,zY]
theorem Hj{z:Vl (Vl Pr)}(f:Fw z):∀(l:List Ho) (i:Nat),∀s∈dD bw z.l l i,s.p.nodes<=2000
 | [],_,s,hs=>by cases hs
 |k::r,i,s,hs=>by
  rcases List.mem_cons.1 hs with rfl|hs
  ·obtain⟨h1,h2⟩:=f.f i;have:=vd h2
   grind [yX]
  ·exact Hj f r (i+1) s hs
theorem aDB{H:Hn}{L:Vl Qu}(b:SmB H L){z:Vl (Vl Pr)}(f:Fw z)(h:AH):aE E1 (.f 11) [.agg H.cells,z.A lsA] h ((⟨dD bw z.l H.hs.l 0,ai,Y⟩:Vl So).A So.cells) h:=Xl H z bw f.n (by have:=b.ks;omega) f.and h
theorem aSD{H:Hn}{L:Vl Qu}(b:SmB H L){z:Vl (Vl Pr)}(f:Fw z)(h:AH):aE E1 (.f 10) [.agg H.cells,z.A lsA] h ((⟨dD qA z.l H.hs.l 0,ai,Y⟩:Vl So).A So.cells) h:=Xm H z qA f.n (by have:=b.ks;omega) f.pand h
theorem bHK{H:Hn}{L:Vl Qu}(b:SmB H L){z:Vl (Vl Pr)}(f:Fw z)(h:AH):aE E1 (.f 9) [(⟨dD qA z.l H.hs.l 0,ai,Y⟩:Vl So).A So.cells,(⟨dD bw z.l H.hs.l 0,ai,Y⟩:Vl So).A So.cells] h (Vb J) h:=
 aDE _ _ (by have:=b.ks;grind [uw]) (by grind [uw]) (f.same _ _) h
theorem bOA{H:Hn}{L:Vl Qu}(b:SmB H L)(h:AH):aE E1 (.f 8) [(⟨H.hs.l.map (gP L),ai,Y⟩:Vl (Vl Pr)).A lsA,(⟨H.hs.l.map (gR L),ai,Y⟩:Vl (Vl Pr)).A lsA] h (Vb J) h:=by
 refine aDF _ _ H.hs.l.length (A4 _) (A4 _) (by have:=b.ks;omega) (λi=>?_) (λi=>?_) (λi hi=>?_) h
 ·have:=Je (l:=H.hs.l) (P:=λl=>l.length<=100/\∀p∈l,p.nodes<=12) ⟨il _,λp hp=>by cases hp⟩ (λk=>bLG b k) i
  grind
 ·have:=Je (l:=H.hs.l) (P:=λl=>l.length<=100/\∀p∈l,p.nodes<=12) ⟨il _,λp hp=>by cases hp⟩ (λk=>aUR b k) i
  grind
 ·refine aSI ?_
  show(cM (H.hs.l.map (gP L)) i).l.map Pr.cp=(cM (H.hs.l.map (gR L)) i).l.map Pr.cp;unfold cM;rw[Av,Av];cases H.hs.l[i]? with
  |none=>rfl
  |some k=>exact aMA (λq _=>Te q k) rfl
end Go.Proofs.YtmbabhlmdhghdaaGreatDoor
