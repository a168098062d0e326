/- VSml VBkid VBdt VBody VBod VClp VEqn VClo VClr -/
import Derived.Test.YtmbabhlmdhghdaaGreatDoorN8
set_option linter.all false
open Nat renaming reduceEqDiff->rA, reduceAdd->rB, reduceMul->rC
open Int renaming reduceEq->rD, reduceLT->rE, reduceLE->rF
open Option renaming some->Z, none->Y
open Bool renaming true->J, false->U
open Bool renaming and_eq_true->im
open List renaming all_eq_true->j3, length_cons->jf, mem_append->jv, mem_cons_of_mem->iy, mem_cons_self->ip, mem_nil_iff->jd, mem_of_mem_drop->jp
open Nat renaming le_refl->ij, le_succ->j5, lt_succ_self->je, mul_le_mul_left->Bg, zero_le->il
namespace Go.Proofs.YtmbabhlmdhghdaaGreatDoor
open Go Go.AM
set_option maxHeartbeats 8000000
set_option maxRecDepth 10000
structure K4 (s:St) (H:Hn) (L:Vl Qu):Prop where
 n:1<=s.h.next
 g:s.h.get 0=Z (.cells H.cells J)
 t1:s.eval (.t 1)=Z (L.A Qu.cells)
 t2:s.eval (.t 2)=Z (.ptr 0 0)
 d:s.defers=[]
def Out4(e:Ex)(s':St):Prop:=e=.ret/\s'.defers=[]/\s'.eval (.t 4)=Z (Vb U)
theorem Bq{n:Nat}{cs l:List AV}(h:cs.length=n):takeN (Z n) (cs++l)=Z (.agg cs):=by
 have:Nat.ble n (cs++l).length=J:=Sa;rw[takeN,this,cond_true]
 grind
theorem Pd{H:Hn}{L:Vl Qu}(hN:H.hs.l.length<2^60):∀(r:List Ho) (i:Nat) (s:St),H.hs.l.drop i=r->i<=H.hs.l.length->K4 s H L->s.eval (.t 46)=Z (H.hs.A Ho.cells)->s.eval (.t 47)=Z (vI (H.hs.l.length:Nat))->s.eval (.t 48)=Z (vI (i:Nat))->
  Run E1 aIY s λe s'=>(e=.exit 0/\K4 s' H L/\∀k∈r,k.ps.l.length<=4)\/Out4 e s'
 | [],i,s,hd,hi,K,u46,u47,u48=>by
  have hl':=ca hd hi;subst hl';obtain⟨n,g,u1,u2,hf⟩:=K;apply az (rfl:aIY=.loop Pg);simp only[Pg,V,tE, *];refine .inl ⟨⟨n,g,?_,?_,?_⟩,λk hk=>by cases hk⟩
  all_goals simp[V, *]
 |k::r,i,s,hd,hi,K,u46,u47,u48=>by
  have hl:=cz hd;have hlt:=rj hl;have w1:=U204;have hix:=H.hs.at Ho.len hd;obtain⟨n,g,u1,u2,hf⟩:=K;have tk:takeN (Z 2) (k.cells++r.flatMap Ho.cells)=Z (.agg k.cells):=rfl;have hst:∀(h:AH) b (u w:AV),stK h b 2 0 k.cells (Z (.cells [u,w] J))=Z (h.put b (Z (.cells k.cells J))):=λh b u w=>cy rfl k.len;have c1:=U279;have n0:=U297;apply az (rfl:aIY=.loop Pg);cases h4:decide ((4:Int)<(k.ps.l.length:Nat)) with
  |true=>
   simp only[Pg,V,WF,seval, *];exact U374
  |false=>
   simp only[Pg,V,WF,seval, *];refine(Pd (H:=H) (L:=L) hN r (i+1) _ (ba hd) om ⟨?_,?_,?_,?_,?_⟩ ?_ ?_ ?_).mono ?_
   all_goals try simp only[V,↓reduceIte,rA,n0,g,u1,u2,u46,u47,hf]
   ·omega
   grind
theorem Pc{H:Hn}{L:Vl Qu}(hN:L.l.length<2^60)(hn:∀q∈L.l,q.bd.nodes<2^61):∀(r:List Qu) (i:Nat) (s:St),L.l.drop i=r->i<=L.l.length->K4 s H L->s.eval (.t 57)=Z (L.A Qu.cells)->s.eval (.t 58)=Z (vI (L.l.length:Nat))->s.eval (.t 59)=Z (vI (i:Nat))->
  Run E1 aIX s λe s'=>(e=.exit 2/\K4 s' H L/\∀q∈r,q.bd.nodes<=12/\q.vs.l.length<=4)\/Out4 e s'
 | [],i,s,hd,hi,K,u46,u47,u48=>by
  have hl':=ca hd hi;subst hl';obtain⟨n,g,u1,u2,hf⟩:=K;apply az (rfl:aIX=.loop Pf);simp only[Pf,V,tE, *];refine .inl ⟨⟨n,g,?_,?_,?_⟩,λk hk=>by cases hk⟩
  all_goals simp[V, *]
 |q::r,i,s,hd,hi,K,u46,u47,u48=>by
  have hl:=cz hd;have hlt:=rj hl;have w1:=U204;have hix:=L.at Qu.len hd;have hc:=sg q.bd (hn q (jp (i:=i) Gr));obtain⟨n,g,u1,u2,hf⟩:=K;have tk:takeN (Z 6) (q.cells++r.flatMap Qu.cells)=Z (.agg q.cells):=Bq q.len;have hst:∀(h:AH) b (a0 a1 a2 a3 a4 a5:AV),stK h b 6 0 q.cells (Z (.cells [a0,a1,a2,a3,a4,a5] J))=Z (h.put b (Z (.cells q.cells J))):=λh b _ _ _ _ _ _=>cy rfl q.len;have c1:=U278;have c2:cfB (Z (.cells q.cells J)) 2=Z q.bd.cells:=by
   rfl
  have tb:takeN (Z 4) q.bd.cells=Z q.bd.av:=cf q.bd.len;have n0:=U297;apply az (rfl:aIX=.loop Pf);cases h12:decide ((12:Int)<(q.bd.nodes:Nat)) with
  |true=>
   exact U140
  |false=>
   cases h4:decide ((4:Int)<(q.vs.l.length:Nat)) with
   |true=>
    exact U140
   |false=>
    simp only[Pf,V,WF,ac hc,seval, *];refine(Pc (H:=H) (L:=L) hN hn r (i+1) _ (ba hd) om ⟨?_,?_,?_,?_,?_⟩ ?_ ?_ ?_).mono ?_
    all_goals try simp only[V,↓reduceIte,rA,n0,g,u1,u2,u46,u47,hf]
    ·omega
    grind
theorem Pb{H:Hn}{L:Vl Qu}{S:Vl So}(hN:S.l.length<2^60)(hn:∀q∈S.l,q.p.nodes<2^61):∀(r:List So) (i:Nat) (s:St),S.l.drop i=r->i<=S.l.length->K4 s H L->s.eval (.t 9)=Z (S.A So.cells)->s.eval (.t 79)=Z (S.A So.cells)->s.eval (.t 80)=Z (vI (S.l.length:Nat))->s.eval (.t 81)=Z (vI (i:Nat))->
  Run E1 aIW s λe s'=>(e=.exit 4/\K4 s' H L/\s'.eval (.t 9)=Z (S.A So.cells)/\∀q∈r,q.p.nodes<=60)\/Out4 e s'
 | [],i,s,hd,hi,K,u9,u46,u47,u48=>by
  have hl':=ca hd hi;subst hl';obtain⟨n,g,u1,u2,hf⟩:=K;apply az (rfl:aIW=.loop Pe);simp only[Pe,V,u47,u48,tE,seval];refine .inl ⟨⟨n,g,?_,?_,?_⟩,?_,λk hk=>by cases hk⟩
  all_goals simp[V, *]
 |q::r,i,s,hd,hi,K,u9,u46,u47,u48=>by
  have hl:=cz hd;have hlt:=rj hl;have w1:=U204;have hix:=S.at So.len hd;have hc:=sg q.p (hn q (jp (i:=i) Gr));obtain⟨n,g,u1,u2,hf⟩:=K;have tk:takeN (Z 5) (q.cells++r.flatMap So.cells)=Z (.agg q.cells):=Bq q.len;have hst:∀(h:AH) b (a0 a1 a2 a3 a4:AV),stK h b 5 0 q.cells (Z (.cells [a0,a1,a2,a3,a4] J))=Z (h.put b (Z (.cells q.cells J))):=λh b _ _ _ _ _=>cy rfl q.len;have c1:cfB (Z (.cells q.cells J)) 1=Z q.p.cells:=by
   rfl
  have tb:takeN (Z 4) q.p.cells=Z q.p.av:=cf q.p.len;have n0:=U297;apply az (rfl:aIW=.loop Pe);cases h60:decide ((60:Int)<(q.p.nodes:Nat)) with
  |true=>
   simp only[Pe,V,WF,u46,u47,u48,hlt,hix,tk,hst,c1,tb,ac hc,h60,seval];exact U374
  |false=>
   simp only[Pe,V,WF,ac hc,seval, *];refine(Pb (H:=H) (L:=L) (S:=S) hN hn r (i+1) _ (ba hd) om ⟨?_,?_,?_,?_,?_⟩ ?_ ?_ ?_ ?_).mono ?_
   all_goals try simp only[V,↓reduceIte,rA,n0,g,u1,u2,u9,u46,u47,hf]
   ·omega
   grind
theorem Pa{w:Vl Pr}(hN:w.l.length<2^60)(hn:∀q∈w.l,q.nodes<2^61):∀(r:List Pr) (i:Nat) (s:St),w.l.drop i=r->i<=w.l.length->s.defers=[]->s.eval (.t 120)=Z (w.A Pr.cells)->s.eval (.t 121)=Z (vI (w.l.length:Nat))->s.eval (.t 122)=Z (vI (i:Nat))->
  Run E1 aIV s λe s'=>(e=.exit 8/\s'.defers=[]/\s.h.next<=s'.h.next/\(∀y,y<s.h.next->s'.h.get y=s.h.get y)/\(∀j,j<122->j≠15->s'.eval (.t j)=s.eval (.t j))/\∀q∈r,q.nodes<=20/\q.depth<=5)\/Out4 e s'
 | [],i,s,hd,hi,hf,u46,u47,u48=>by
  have hl':=ca hd hi;subst hl';apply az (rfl:aIV=.loop qO);simp only[qO,V,u47,u48,tE]
  grind
 |q::r,i,s,hd,hi,hf,u46,u47,u48=>by
  have hl:=cz hd;have hlt:=rj hl;have w1:=U204;have hix:=w.at Pr.len hd;have hq:=hn q (jp (i:=i) Gr);have hc:=sg q hq;have hc2:=uG q hq;have hst:∀(h:AH) b (a0 a1 a2 a3:AV),stK h b 4 0 q.cells (Z (.cells [a0,a1,a2,a3] J))=Z (h.put b (Z (.cells q.cells J))):=λh b _ _ _ _=>cy rfl q.len;have tb:takeN (Z 4) q.cells=Z q.av:=cf q.len;apply az (rfl:aIV=.loop qO);cases h20:decide ((20:Int)<(q.nodes:Nat)) with
  |true=>
   simp only[qO,V,WF,u46,u47,u48,hlt,hix,hst,tb,Pr.av,ac hc,h20,seval];exact U374
  |false=>
   cases h5:decide ((5:Int)<(q.depth:Nat)) with
   |true=>
    simp only[qO,V,WF,u46,u47,u48,hlt,hix,hst,tb,Pr.av,ac hc,ac hc2,h20,h5,seval];exact U374
   |false=>
    simp only[qO,V,WF,Pr.av,ac hc,ac hc2,seval, *];refine(Pa (w:=w) hN hn r (i+1) _ (ba hd) om ?_ ?_ ?_ ?_).mono ?_
    all_goals try simp only[V,seval, *]
    rintro e s' (⟨rfl,d',n',g',k',h⟩|h)
    ·refine .inl ⟨rfl,d',om,λy hy=>?_,λj hj h15=>?_,λx hx=>?_⟩
     ·grind
     ·rw[k' j hj h15]
      repeat rw[if_neg om]
     grind
    grind
structure jW (fs:List Ln) (bs:List Pr):Prop where
 f:∀x∈fs,x.ts.l.length<=24
 b:∀q∈bs,okT q/\q.nodes<=1000000
def jR(e:Evr)(p:Pr):Prop:=∀(b:Nat) (fs:List Ln) (bs:List Pr) (h:AH),EvB e->jW fs bs->fs.length+p.nodes<2^26->bs.length+p.nodes<2^26->bX h b e fs bs->
 ∃(q:Pr) (h':AH) (fs':List Ln) (bs':List Pr),aE E1 (.f 62) [.ptr b 0,p.av] h q.av h'/\bL b h h'/\bX h' b e fs' bs'/\jW fs' bs'/\fs'.length<=fs.length+p.nodes/\bs'.length<=bs.length+p.nodes/\q.nodes<=12*p.nodes
theorem bX.lt{h:AH}{b:Nat}{e:Evr}{fs:List Ln}{bs:List Pr}(k:bX h b e fs bs):∀y,y=b\/y∈aq h b->y<h.next:=λy hy=>by
 obtain⟨_,vF,vB,lg,wr,a⟩:=k;rcases hy with rfl|q
 ·exact a.lt
 ·exact U50
theorem bX.oD{h h':AH}{b:Nat}(g:h'.get b=h.get b):aq h' b=aq h b:=by
 grind [aq]
theorem aCR{h:AH}{lo k es:Nat}{v:AV}{cs:List AV}(r:aV h lo k es v cs):∃h1,gA v h=(fE k cs,h1)/\h1.next=h.next/\(∀x,x∉ids v->h1.get x=h.get x)/\(ak h->ak h1):=by
 obtain⟨h1,e1,e2,e3,e4⟩:=tP r;rcases id r with⟨_,_,⟨rfl,rfl⟩|⟨b,b1,b2,b3,rfl,gb⟩⟩
 ·exact⟨h,rfl,rfl,λ_ _=>rfl,λk=>k⟩
 ·refine⟨h1,?_,e2,e3,λnt=>Zy (by grind [sV]) nt⟩
  have hf:dg (.own b 0 k es Y)=U:=rfl
  simp_all [gA]
theorem aAJ(w:Vl Pr)(hw:w.l.length<2^26){b:Nat}{e:Evr}(hV:EvB e){h0:AH}(hb:b<h0.next):∀(r:List Pr) (i:Nat) (fs:List Ln) (bs:List Pr) (out:List Pr) (v:AV) (s:St),w.l.drop i=r->i<=w.l.length->(∀p∈r,jR e p)->jW fs bs->fs.length+Pr.aI r<2^26->bs.length+Pr.aI r<2^26->
  bX s.h b e fs bs->bL b h0 s.h->out.length=i->aV s.h h0.next i 4 v (Pr.aG out)->(∀y∈ids v,y∉aq s.h b)->
  s.eval (.t 0)=Z (.ptr b 0)->s.eval (.t 1)=Z (w.A Pr.cells)->s.eval (.t 5)=Z v->s.eval (.t 6)=Z (vI (i:Nat))->s.defers=[]->
  Run E1 Tn s λe' s'=>e'=.exit 0/\s'.defers=[]/\∃fs' bs' out' v',s'.eval (.t 5)=Z v'/\bL b h0 s'.h/\bX s'.h b e fs' bs'/\jW fs' bs'/\fs'.length<=fs.length+Pr.aI r/\bs'.length<=bs.length+Pr.aI r/\
   out'.length=w.l.length/\Pr.aI out'<=Pr.aI out+12*Pr.aI r/\aV s'.h h0.next w.l.length 4 v' (Pr.aG out')/\(∀y∈ids v',y∉aq s'.h b)
 | [],i,fs,bs,out,v,s,hd,hi,hk,kB,lf,lb,k,st,ho,rv,dj,u0,u1,u5,u6,hf=>by
  have hl:=ca hd hi;subst hl;apply az (rfl:Tn=.loop qv);simp only[qv,V,u1,u5,u6,hf,tE,seval]
  grind
 |p::r,i,fs,bs,out,v,s,hd,hi,hk,kB,lf,lb,k,st,ho,rv,dj,u0,u1,u5,u6,hf=>by
  have hl:=cz hd;have hlt:=rj hl;rw[Pr.aI] at lf lb;have w1:=U204;have hix:=w.at Pr.len hd;obtain⟨q,h1,fs1,bs1,rc,s1,k1,kB1,f1,b1,nq⟩:=hk p ip b fs bs s.h hV kB om om k;have n0:=st.nx;have n1:=s1.nx;have ids_v:∀y∈ids v,h0.next<=y/\y<s.h.next/\y∉aq h1 b:=λy hy=>⟨(rv.ids y hy).1,(rv.ids y hy).2.1,λq=>by
   rcases s1.ow y q with q|q
   ·grind
   ·have:=(rv.ids y hy).2.1;omega⟩
  have rv1:aV h1 h0.next i 4 v (Pr.aG out):=rv.toB n1 λy hy=>s1.fr y (rv.ids y hy).2.1 Gr (dj y hy);apply az (rfl:Tn=.loop qv);simp only[qv,V,seval, *];refine gt (by simp[V];exact rc) ?_
  simp[V,WF,Pr.av,sX];refine sk (k:=i) (m:=1) (lo:=h0.next) (v:=v) (x:=.own h1.next 0 1 4 (Z 1)) (cs:=Pr.aG out) (new:=q.cells) ?_ ?_ ?_ de (by rw[q.len]) q.leaves (lR om de) ?_ ?_ ?_
  ·simp[V];exact rv1.to (j5 _) λy _ y2=>am y2
  ·simp[V];omega
  ·refine kl (rw':=J) ?_ (by rw[q.len])
   simp[V]
  ·simp[V]
  ·simp[V]
  intro h2 rv2 n2 o2 t2 gn2;simp[V] at rv2 n2 o2 t2 gn2;have nt2:=t2 k1.1.alloc;have fr:∀z,z<h1.next->z∉ids v->h2.get z=h1.get z:=Gr;obtain⟨st2,k2⟩:=k1.step (h'':=h2) (st.trans s1) om nt2 (λy hy=>by
   have yl:y<h1.next:=by
    rcases hy with q|q
    ·omega
    ·exact k1.lt y q
   grind)
  have e2:aq h2 b=aq h1 b:=bX.oD (fr b (k1.lt b (.inl rfl)) λq=>by grind)
  simp only[V,seval, *];refine(aAJ w hw hV hb r (i+1) fs1 bs1 (out++[q]) (.own (h1.next+1) 0 (i+1) 4 Y) _ (ba hd) om (λp hp=>hk p (iy _ hp)) kB1 om om ?_ ?_ Gr ?_ ?_ ?_ ?_ ?_ ?_ ?_).mono ?_
  all_goals try simp only[V,↓reduceIte,rA,reduceCtorEq,u0,u1,hf]
  ·exact k2
  ·grind
  ·grind [pl]
  ·intro y hy;simp[ids] at hy;rw[e2];intro q;have:=k1.lt y (.inr q);omega
  rintro e' s2 ⟨rfl,d2,fs',bs',out',v',e5,p1,p2,p3,p4,p5,p6,p7,p8,p9⟩;refine⟨rfl,d2,fs',bs',out',v',e5,p1,p2,p3,?_,?_,p6,?_,p8,p9⟩<;>grind [Pr.aI,tz]
theorem Ec(w:Vl Pr)(hw:w.l.length<2^26){e:Evr}(hk:∀p∈w.l,jR e p){b:Nat}(hV:EvB e){fs:List Ln}{bs:List Pr}{h:AH}(kB:jW fs bs)(lf:fs.length+Pr.aI w.l<2^26)(lb:bs.length+Pr.aI w.l<2^26)(k:bX h b e fs bs):
  ∃(q:Vl Pr) (h':AH) (fs':List Ln) (bs':List Pr),aE E1 (.f 91) [.ptr b 0,w.A Pr.cells] h (q.A Pr.cells) h'/\bL b h h'/\bX h' b e fs' bs'/\jW fs' bs'/\fs'.length<=fs.length+Pr.aI w.l/\bs'.length<=bs.length+Pr.aI w.l/\Pr.aI q.l<=12*Pr.aI w.l:=by
 obtain⟨r,h',⟨out,v,fs',bs',rfl,p1,p2,p3,p4,p5,p6,p7,p8⟩,ha⟩:=tQ (g:=91) (l:=[.ptr b 0,w.A Pr.cells]) (h:=h) (P:=λr h'=>∃(out:List Pr) (v:AV) (fs':List Ln) (bs':List Pr),r=[v]/\bL b h h'/\bX h' b e fs' bs'/\jW fs' bs'/\fs'.length<=fs.length+Pr.aI w.l/\bs'.length<=bs.length+Pr.aI w.l/\Pr.aI out<=12*Pr.aI w.l/\aV h' h.next out.length 4 v (Pr.aG out)/\(∀y∈ids v,y∉aq h' b)) bLR λs hs hh hd hr=>by
  have h0:=hs 0 _ rfl;have h1:=hs 1 _ rfl;have hb:=k.lt b (.inl rfl);refine rU _ _ _ ?_
  simp only[aVN,f91,V];refine(aAJ w hw hV hb w.l 0 fs bs [] (.val (.slice Y 0 0)) _ rfl (il _) hk kB lf lb ?_ ?_ rfl ?_ ?_ ?_ ?_ ?_ ?_ ?_).mono ?_
  all_goals try simp only[V,↓reduceIte,rA,reduceCtorEq,h0,h1,hh,hd]
  ·exact k
  ·exact bL.refl
  ·exact U375
  ·exact λy hy=>by cases hy
  ·rfl
  rintro e' s2 ⟨rfl,d2,fs',bs',out',v',e5,p1,p2,p3,p4,p5,p6,p7,p8,p9⟩;simp only[V,WF, *];refine⟨_,rfl,_,⟨out',v',fs',bs',rfl,p1,p2,p3,p4,p5,?_,?_,p9⟩,rfl⟩<;>grind [Pr.aI]
 obtain⟨h1,t1,t2,t3,t4⟩:=aCR p7;have hv:fE out.length (Pr.aG out)=(⟨out,ai,Y⟩:Vl Pr).A Pr.cells:=by rw[Pr.bG];rfl
 have rc:=La (E:=E1) (eJ (g:=91) rf) rfl Gk ha;have e1:gA (bQ [v]) h'=(fE out.length (Pr.aG out),h1):=t1;rw[e1] at rc;simp[hv] at rc;obtain⟨q1,q2⟩:=p2.step (h'':=h1) p1 om (t4 p2.1) (λy hy=>t3 y λq=>by
  have:=(p7.ids y q).1;rcases hy with hy|rfl|hy
  ·omega
  ·have:=k.lt y (.inl rfl);omega
  grind)
 exact⟨⟨out,ai,Y⟩,h1,fs',bs',rc,q1,q2,p3,p4,p5,p6⟩
def hdP:List Pr->Pr
 |k::_=>k
 | []=>zPr
mutual
def bdT(Vx:Evr):Pr->Prop
 |.mk o nm n ks nl cap=>okT (.mk o nm n ks nl cap)/\(o=2\/o=3\/o=4\/((14<=o/\o<=18)/\bdTL Vx ks)\/((o=10\/o=11)/\ks.length=2/\(aP (ofS Vx (hdP ks)).1 dS=J->bdTL Vx ks))\/((o=12\/o=13)/\ks.length=2))
def bdTL(Vx:Evr):List Pr->Prop
 | []=>True
 |k::r=>bdT Vx k/\bdTL Vx r
end
theorem Lj{Vx:Evr}:∀{l:List Pr},bdTL Vx l->∀k∈l,bdT Vx k
 | [],_,k,hk=>by cases hk
 |p::r,h,k,hk=>by
  rcases U201 with rfl|hk
  ·exact h.1
  ·exact Lj h.2 k hk
theorem bdT.ok{Vx:Evr}{p:Pr}(h:bdT Vx p):okT p:=by cases p;exact h.1
mutual
def noH:Pr->Prop
 |.mk o _ _ ks _ _=>o≠5/\noHL ks
def noHL:List Pr->Prop
 | []=>True
 |k::r=>noH k/\noHL r
end
theorem Zf:∀{l:List Pr},noHL l->∀k∈l,noH k
 | [],_,k,hk=>by cases hk
 |p::r,h,k,hk=>by
  rcases U201 with rfl|hk
  ·exact h.1
  ·exact Zf h.2 k hk
theorem noH.kid{p:Pr}(h:noH p):∀k∈p.ks,noH k:=by cases p;exact Zf h.2
mutual
theorem aHT:∀(p:Pr) (L:List Pr),rin 5 p L=[]->L=[]/\noH p
 |.mk o s n ks a b,L,h=>by
  rw[rin] at h;cases hc:(decide (o=5)&& !dy (.mk o s n ks a b) (ej 5 ks L)) with
  |true=>
   simp_all
  |false=>
   rw[hc,cond_false] at h;obtain⟨h1,h2⟩:=Yc ks L h;refine⟨h1,λho=>?_,h2⟩;rw[h,decide_eq_true ho] at hc;cases hc
theorem Yc:∀(l:List Pr) (L:List Pr),ej 5 l L=[]->L=[]/\noHL l
 | [],L,h=>⟨h,trivial⟩
 |k::r,L,h=>by
  rw[ej] at h;obtain⟨h1,h2⟩:=Yc r _ h;obtain⟨h3,h4⟩:=aHT k L h1;exact⟨h3,h4,h2⟩
end
mutual
theorem aHU(op:Int)(P:Pr->Prop)(hP:∀p,P p->∀k∈p.ks,P k):∀(p:Pr) (L:List Pr),P p->∀q∈rin op p L,q∈L\/(q.op=op/\P q)
 |.mk o s n ks a b,L,h,q,hq=>by
  have hk:=Yd op P hP ks L (hP _ h);rw[rin] at hq;cases hc:(decide (o=op)&& !dy (.mk o s n ks a b) (ej op ks L)) with
  |true=>
   rw[hc,cond_true] at hq;rcases jv.1 hq with hq|hq
   ·grind
   ·rw[List.mem_singleton.1 hq];rw[im] at hc;exact .inr ⟨of_decide_eq_true hc.1,h⟩
  |false=>
   grind
theorem Yd(op:Int)(P:Pr->Prop)(hP:∀p,P p->∀k∈p.ks,P k):∀(l:List Pr) (L:List Pr),(∀k∈l,P k)->∀q∈ej op l L,q∈L\/(q.op=op/\P q)
 | [],L,_,q,hq=>.inl hq
 |k::r,L,h,q,hq=>by
  rw[ej] at hq;rcases Yd op P hP r _ (λk hk=>h k (iy _ hk)) q hq with hq|hq
  ·exact aHU op P hP k L (h k ip) q hq
  grind
end
mutual
theorem aHS(op:Int):∀(p:Pr) (L:List Pr),Pr.aI (rin op p L)<=Pr.aI L+p.nodes*p.depth
 |.mk o s n ks a b,L=>by
  have h:=Yb op ks L;have e1:=U299;have e2:(Pr.mk o s n ks a b).depth=Pr.dU ks+1:=rfl;rw[e1,e2,Nat.mul_succ,Nat.add_mul,Nat.one_mul];rw[rin];cases (decide (o=op)&& !dy (.mk o s n ks a b) (ej op ks L)) with
  |true=>
   rw[cond_true,tz,e1];omega
  |false=>
   grind
theorem Yb(op:Int):∀(l:List Pr) (L:List Pr),Pr.aI (ej op l L)<=Pr.aI L+Pr.aI l*Pr.dU l
 | [],L=>Nat.le_add_right _ _
 |k::r,L=>by
  have h1:=Yb op r (rin op k L);have h2:=aHS op k L;rw[ej];have e1:=U300;have e2:=U202;rw[e1,e2,Nat.add_mul];have h3:k.nodes*k.depth<=k.nodes*max k.depth (Pr.dU r):=Bg _ (Nat.le_max_left _ _);have h4:Pr.aI r*Pr.dU r<=Pr.aI r*max k.depth (Pr.dU r):=Bg _ (Nat.le_max_right _ _);omega
end
structure Ws (Vx:Evr) (p:Pr):Prop where
 n:p.nodes<=400
 d:p.depth<=40
 c:chk Nb p=0
 s:(p.sor Vx).2=0
theorem aBT{N:Pr->Int}:∀{l:List Pr},jX N l=0->∀k∈l,chk N k=0
 | [],_,k,hk=>by cases hk
 |p::r,h,k,hk=>by
  rw[jX] at h;split at h
  ·rename_i h0;rcases U201 with rfl|hk
   ·exact h0
   ·exact aBT h k hk
  grind
theorem Ri(Vx:Evr):∀{l:List Pr},(Pr.fA Vx l).2=0->(∀k∈l,(k.sor Vx).2=0)/\(Pr.fA Vx l).1=l.map λk=>(k.sor Vx).1
 | [],_=>⟨λk hk=>(by cases hk),rfl⟩
 |k::r,h=>by
  rw[Pr.fA] at h⊢
  cases h1:decide ((k.sor Vx).2=0) with
  |false=>
   grind
  |true=>
   rw[h1] at h;rw[cond_true] at h⊢
   cases h2:decide ((Pr.fA Vx r).2=0) with
   |false=>
    grind
   |true=>
    obtain⟨a,b⟩:=Ri Vx (of_decide_eq_true h2)
    grind
theorem Ws.sL{Vx:Evr}{p:Pr}(h:Ws Vx p):(Pr.fA Vx p.ks).2=0/\p.sor Vx=mJ Vx p.op p.nm (p.ks.map λk=>(k.sor Vx).1):=by
 have:=h.s;rw[aDA] at this;have h2:(Pr.fA Vx p.ks).2=0:=by
  grind
 simp_all [aDA,Ri]
theorem sn:∀{l:List Pr},∀k∈l,k.nodes<=Pr.aI l/\k.depth<=Pr.dU l
 | [],k,hk=>by cases hk
 |p::r,k,hk=>by
  have e1:=U298;have e2:Pr.dU (p::r)=max p.depth (Pr.dU r):=rfl;rw[e1,e2];rcases U201 with rfl|hk
  ·grind
  ·have:=sn k hk
   grind
theorem Ws.kid{Vx:Evr}{p:Pr}(h:Ws Vx p):∀k∈p.ks,Ws Vx k:=λk hk=>by
 have hs:=(Ri Vx h.sL.1).1 k hk;obtain⟨n,d,c,s⟩:=h;obtain⟨o,nm,i,ks,nl,cap⟩:=p;have e1:(Pr.mk o nm i ks nl cap).nodes=1+Pr.aI ks:=rfl;have e2:(Pr.mk o nm i ks nl cap).depth=Pr.dU ks+1:=rfl;have:=sn (l:=ks) k hk;rw[chk] at c;split at c
 ·exact⟨om,om,aBT c k hk,hs⟩
 grind
theorem Ws.of{Vx:Evr}{p:Pr}(h:Ws Vx p):ofS Vx p=p.sor Vx:=by
 have:ckS Nb p=0:=by
  unfold ckS;have:=h.n;have:=h.d;rw[if_neg om,if_neg om,h.c]
 simp_all [ofS]
theorem Ws.ok{Vx:Evr}{p:Pr}(h:Ws Vx p):okT p:=aLN p h.c
theorem aCH{x:ByteArray}:∀{l:List ByteArray},nM x l=J->∀k∈l,aP k x=J
 | [],_,k,hk=>by cases hk
 |a::r,h,k,hk=>by
  rw[nM,im] at h;rcases U201 with rfl|hk
  ·grind
  ·exact aCH h.2 k hk
theorem Zs:aP jE dS=U:=by decide
mutual
theorem aLW{Vx:Evr}:∀p:Pr,Ws Vx p->noH p->aP (p.sor Vx).1 dS=J->bdT Vx p
 |.mk o nm n ks nl cap,h,hn,hb=>by
  have hok:=h.ok;have one:=hok.one;have hs:=h.s;obtain⟨h1,h2⟩:=h.sL;have hk:=h.kid;have o1:1<=o:=one.o1;have o2:o<=18:=one.o2;have k2:6<=o->o≠9->o≠14->ks.length=2:=one.k2;have n5:o≠5:=hn.1;have L:=bAA (Vx:=Vx) ks hk hn.2;rw[h2] at hb hs;have hb:aP (mJ Vx o nm (ks.map λk=>(k.sor Vx).1)).1 dS=J:=hb;have hs:(mJ Vx o nm (ks.map λk=>(k.sor Vx).1)).2=0:=hs
  by_cases q1:o=1
  ·subst q1;exact absurd hb (by rw[show(mJ Vx 1 nm (ks.map λk=>(k.sor Vx).1)).1=jE from rfl,Zs];decide)
  by_cases q2:o=2
  ·exact⟨hok,.inl q2⟩
  by_cases q3:o=3
  ·exact⟨hok,.inr (.inl q3)⟩
  by_cases q4:o=4
  ·exact⟨hok,.inr (.inr (.inl q4))⟩
  have er:mJ Vx o nm (ks.map λk=>(k.sor Vx).1)=jF o (ks.map λk=>(k.sor Vx).1):=by
   grind [mJ]
  rw[er] at hb hs;unfold jF at hb hs
  by_cases q6:o=6\/o=7\/o=8\/o=9
  ·have ea:argS o=Z jE:=by unfold argS;grind
   have eb:resS o=jE:=by simp_all [resS]
   rw[ea] at hb hs;simp[eb] at hb hs;cases hq:nM jE (ks.map λk=>(k.sor Vx).1) with
   |true=>rw[hq,cond_true] at hb;rw[show((jE,(0:Int)).1)=jE from rfl,Zs] at hb;cases hb
   |false=>grind
  by_cases q10:o=10\/o=11
  ·have ea:argS o=Y:=by unfold argS;grind
   rw[ea] at hb hs;simp only at hb hs;have hl:=k2 om om om;refine⟨hok,.inr (.inr (.inr (.inr (.inl ⟨q10,hl,λhq=>?_⟩))))⟩;cases hq2:eq2S (ks.map λk=>(k.sor Vx).1) with
   |false=>grind
   |true=>
    match ks,hl,hq2,hk,hq,L with
    | [k1,k3],_,hq2,hk,hq,L=>
     have w1:=hk k1 ip;have hq:aP (ofS Vx k1).1 dS=J:=hq;rw[w1.of] at hq;have hq2:aP (k1.sor Vx).1 (k3.sor Vx).1=J:=hq2;refine L λk hkm=>?_
     rcases List.mem_cons.1 hkm with rfl|hkm<;>grind [wc]
  by_cases q12:o=12\/o=13
  ·exact⟨hok,.inr (.inr (.inr (.inr (.inr ⟨q12,k2 om om om⟩))))⟩
  have ea:argS o=Z dS:=by simp_all [argS]
  rw[ea] at hs;simp only at hs;cases hq:nM dS (ks.map λk=>(k.sor Vx).1) with
  |false=>grind
  |true=>exact⟨hok,.inr (.inr (.inr (.inl ⟨om,L λk hkm=>aCH hq _ (List.mem_map.2 ⟨k,hkm,rfl⟩)⟩)))⟩
theorem bAA{Vx:Evr}:∀l:List Pr,(∀k∈l,Ws Vx k)->noHL l->(∀k∈l,aP (k.sor Vx).1 dS=J)->bdTL Vx l
 | [],_,_,_=>trivial
 |k::r,h1,h2,h3=>⟨aLW k (h1 k ip) h2.1 (h3 k ip),bAA r (λq hq=>h1 q (iy _ hq)) h2.2 λq hq=>h3 q (iy _ hq)⟩
end
theorem bGR{Vx:Evr}{p:Pr}(h:pq Vx p=0)(hz:p.same zPr=U):Ws Vx p/\aP (p.sor Vx).1 dS=J:=by
 unfold pq at h;rw[hz,cond_false] at h;have h2:(ofS Vx p).2=0/\aP (ofS Vx p).1 dS=J:=by
  grind
 obtain⟨h2,h4⟩:=h2;unfold ofS at h2 h4
 by_cases q:ckS Nb p=0
 ·rw[decide_eq_true q,cond_true] at h2 h4;obtain⟨_,a,b,c⟩:=aZJ q;exact⟨⟨a,b,c,h2⟩,h4⟩
 grind
theorem Xx{h:AH}{lo k es:Nat}{v:AV}{cs:List AV}(r:aV h lo k es v cs):(ids v).length<=1:=by
 rcases id r with⟨_,_,⟨rfl,rfl⟩|⟨b,b1,b2,b3,rfl,gb⟩⟩
 ·exact il _
 ·exact ij _
theorem uA{s:St}{X:List XR}{dst:Option Nat}{rd fr:List Nat}{f:Nat}{l:List AV}{b:Nat}{e:Evr}{fs:List Ln}{bs:List Pr}{Q:AV->List Ln->List Pr->Prop}{kk:XR->St->Prop}(k:bX s.h b e fs bs)(hr:dc s rd=[b])
  (hc:∀h,bX h b e fs bs->∃v h1 fs' bs',aE E1 (.f f) l h v h1/\bL b h h1/\bX h1 b e fs' bs'/\Q v fs' bs')
  (hfr:∀n,cS X (.turn (b::aq s.h b) (b::aq s.h b) s.h.next n []) fr)
  (hk:∀v h' fs' bs',Q v fs' bs'->bL b s.h h'->bX h' b e fs' bs'->kk (.turn (b::aq s.h b) (b::aq s.h b) s.h.next h'.next []) ((s.toH h').put dst v)):lQ E1 s rd fr X dst (.f f) l kk:=by
 obtain⟨nt,vF,vB,lg,wr,a⟩:=id k;have lt:=k.lt;have leaf:∀y∈aq s.h b,aq s.h y=[]:=λy hy=>by
  exact U141
 refine Oh (B:=b::aq s.h b) (kp:=[]) (P:=λv h1=>∃fs' bs',bX h1 b e fs' bs'/\Q v fs' bs'/\∀y∈aq h1 b,y∈aq s.h b\/s.h.next<=y) (λx hx=>?_) (λx hx y hy=>?_) (λx hx=>?_) (λF f1 f2 x hx=>?_) ?_ nt (λh hn hg hnt=>?_) hfr (λv h1 h' p n1 n2 g1 g2 nt'=>?_)
 ·grind
 ·grind
 ·grind
 ·grind
 ·exact U51
 ·have kh:bX h b e fs bs:=⟨hnt,vF,vB,lg,wr,a.to om λy hy=>hg y (by
   grind)⟩
  have ei:aq h b=aq s.h b:=by grind [bX.oD]
  obtain⟨v,h1,fs',bs',rc,st,k1,q⟩:=hc h kh;refine⟨v,h1,rc,by have:=st.nx;omega,k1.1,fs',bs',k1,q,λy hy=>?_⟩
  have:=st.ow y hy
  grind
 ·obtain⟨fs',bs',k1,q,ow⟩:=p;have lt1:=k1.lt;have gs:=U376;have k':bX h' b e fs' bs':=by
   obtain⟨_,vF,vB,lg,wr,a1⟩:=k1;exact⟨nt',vF,vB,lg,wr,a1.to om gs⟩
  have ei:=U377;have st:bL b s.h h':=⟨om,λy y1 y2 y3=>g2 y y1 (λm=>by
   grind),λy hy=>by grind⟩
  grind
structure StepW (b d:Nat) (h h':AH):Prop where
 nx:h.next<=h'.next
 fr:∀y,y<h.next->y≠b->y≠d->y∉aq h b->h'.get y=h.get y
 ow:∀y∈aq h' b,y∈aq h b\/h.next<=y
theorem bL.w{b d:Nat}{h H H':AH}(k:bL b h H)(w:StepW b d H H')(hd:h.next<=d):bL b h H':=by
 have n1:=k.nx;refine⟨Nat.le_trans k.nx w.nx,λy y1 y2 y3=>?_,λy hy=>?_⟩
 ·rw[w.fr y om y2 om (λq=>by
   rcases k.ow y q with q|q<;>grind),k.fr y y1 y2 y3]
 ·rcases w.ow y hy with q|q
  ·exact k.ow y q
  grind
theorem bL.put{b d:Nat}{e:Evr}{fs:List Ln}{bs:List Pr}{h h':AH}{cs:List AV}(k:bL b h h')(a:bX h' b e fs bs)(hd:d<h.next)(db:d≠b)(di:d∉aq h b):StepW b d h (h'.put d (Z (.cells cs J)))/\bX (h'.put d (Z (.cells cs J))) b e fs bs:=by
 have n1:=k.nx;have di':d∉aq h' b:=λq=>by
  rcases k.ow d q with q|q<;>grind
 have ei:aq (h'.put d (Z (.cells cs J))) b=aq h' b:=bX.oD (bc (Ne.symm db));obtain⟨nt,vF,vB,lg,wr,a1⟩:=a;refine⟨⟨n1,λy y1 y2 y3 y4=>by rw[bc y3,k.fr y y1 y2 y4],λy hy=>by rw[ei] at hy;exact k.ow y hy⟩,nt.put,vF,vB,lg,wr,a1.to (ij _) λy hy=>bc ?_⟩
 grind
theorem Pr.kidsV(p:Pr):∃w:Vl Pr,w.l=p.ks/\w.A Pr.cells=p.kids:=by
 obtain⟨o,nm,n,ks,nl,cap⟩:=p;refine⟨⟨ks,nl,cap⟩,rfl,?_⟩;show cV (ks.flatMap Pr.cells) ks.length nl cap=cV (Pr.aG ks) ks.length nl cap;rw[Pr.bG]
theorem Zi(o n:Int)(w:Vl Pr):(Pr.mk o ⟨#[]⟩ n w.l w.nl w.cap).cells=[vI o,vS ⟨#[]⟩,vI n,w.A Pr.cells]:=by
 show [vI o,vS ⟨#[]⟩,vI n,cV (Pr.aG w.l) w.l.length w.nl w.cap]=_;rw[Pr.bG];rfl
structure BodyH (s:St) (b:Nat) (e:Evr) (fs:List Ln) (bs:List Pr) (p:Pr) (c d:Nat):Prop where
 eV:EvB e
 B:jW fs bs
 lf:fs.length+p.nodes<2^26
 lb:bs.length+p.nodes<2^26
 k:bX s.h b e fs bs
 hc:c<s.h.next
 gc:s.h.get c=Z (.cells p.cells J)
 cb:c≠b
 ci:c∉aq s.h b
 hd:d<s.h.next
 gd:∃z,s.h.get d=Z (.cells z J)/\z.length=4/\aQ z=[]
 db:d≠b
 di:d∉aq s.h b
 cd:c≠d
 t0:s.eval (.t 0)=Z (.ptr b 0)
 t3:s.eval (.t 3)=Z (.ptr c 0)
def BodyP(s:St)(b:Nat)(e:Evr)(fs:List Ln)(bs:List Pr)(p:Pr)(d:Nat)(s':St):Prop:=
 s'.defers=s.defers/\(∃(q:Pr) (fs':List Ln) (bs':List Pr),s'.h.get d=Z (.cells q.cells J)/\StepW b d s.h s'.h/\bX s'.h b e fs' bs'/\jW fs' bs'/\fs'.length<=fs.length+p.nodes/\bs'.length<=bs.length+p.nodes/\q.nodes+1<=12*p.nodes)/\∀j,j<8->s'.eval (.t j)=s.eval (.t j)
theorem aFV{s:St}{b:Nat}{e:Evr}{fs:List Ln}{bs:List Pr}(p:Pr){c d:Nat}(H:BodyH s b e fs bs p c d)(h4:s.eval (.t 4)=Z (.ptr d 0))(hK:∀k∈p.ks,jR e k):Run E1 aWS s λe' s'=>e'=.normal/\BodyP s b e fs bs p d s':=by
 obtain⟨hV,kB,lf,lb,k,hc,gc,cb,ci,hd,⟨z,gd,lz,iz⟩,db,di,cd,h0,h3⟩:=H;have en:=U378;have nl:=rl p.ks;obtain⟨w,wl,wA⟩:=Pr.kidsV p;have a0:=U332;have a3:cfB (Z (.cells p.cells J)) 3=Z [w.A Pr.cells]:=by rw[wA,Pr.bS];rfl
 have t0:=U335;have iw:=U379;have kc:=U371;obtain⟨_,vF,vB,lg,wr,a⟩:=id k;have kb:=U342;refine pb rfl ?_
 simp[aWO,X0,X1,X2,X3,X4,V,h0,h3,gc,a0,a3,t0,kc,kb,an iw];refine rY (sK (j:=25) de (v:=.ptr b 0) (by simp[V]) (λe=>by cases e)) ?_
 refine uA (b:=b) (e:=e) (fs:=fs) (bs:=bs) (Q:=λv fs' bs'=>∃q:Vl Pr,v=q.A Pr.cells/\jW fs' bs'/\fs'.length<=fs.length+Pr.aI p.ks/\bs'.length<=bs.length+Pr.aI p.ks/\Pr.aI q.l<=12*Pr.aI p.ks) ?_ ?_ (λh kh=>?_) ?_ ?_
 ·exact U52
 ·simp[X3,V,iw]
 ·obtain⟨q,h',fs',bs',rc,s1,k1,kB1,f1,b1,nq⟩:=Ec w Gr (e:=e) Gr (b:=b) hV kB Gr Gr kh
  grind
 ·intro n;simp[X3,X4,V]
  grind
 ·rintro v h' fs' bs' ⟨q,rfl,kB1,f1,b1,nq⟩ st k';simp[V] at st k';obtain⟨r1,r2⟩:=st.put (cs:=(Pr.mk p.op ⟨#[]⟩ 0 q.l q.nl q.cap).cells) k' hd db di;have gd':h'.get d=Z (.cells z J):=by rw[st.fr d hd db di,gd]
  have iq:ids (q.A Pr.cells)=[]:=Vl.ids;have kd:∀o,aN h' (Z (.ptr d o))=J:=λo=>bm (by have:=st.nx;omega) gd' iz
  simp[X0,X1,X3,V,WF,h4,an iq,gd'];rw[<-Zi p.op 0 q,cy lz (Pr.len _)];simp[V];refine⟨rfl,⟨_,fs',bs',lA,r1,r2,kB1,om,om,?_⟩,λj hj=>?_⟩
  ·show 1+Pr.aI q.l+1<=_;omega
  ·simp[V]
   grind
theorem Kc{s:St}{b:Nat}{e:Evr}{fs:List Ln}{bs:List Pr}(p:Pr){c d:Nat}(H:BodyH s b e fs bs p c d)(h4:s.eval (.t 5)=Z (.ptr d 0))(hl:p.ks.length=2)(hK:∀k∈p.ks,okT k)(hn:p.nodes<=1000000):Run E1 aWR s λe' s'=>e'=.normal/\BodyP s b e fs bs p d s':=by
 obtain⟨hV,kB,lf,lb,k,hc,gc,cb,ci,hd,⟨z,gd,lz,iz⟩,db,di,cd,h0,h3⟩:=H;have en:=U378;obtain⟨k0,r0,hk0⟩:=re (l:=p.ks) (j:=0) om;obtain⟨k1,r1,hk1⟩:=re (l:=p.ks) (j:=1) om;have hix0:=sY hk0;have hix1:=sY hk1;have m0:=U380;have m1:k1∈p.ks:=Gr;have b0:=(sn k0 m0).1;have b1:=(sn k1 m1).1;have kids0:=U255;have a3:=U331;have kc:=U371;obtain⟨_,vF,vB,lg,wr,a⟩:=id k;have kb:=U342;refine pb rfl ?_
 simp[aWN,X0,X1,X2,X3,X4,V,an kids0,an k0.ah,an k1.ah, *];refine rY (sK (j:=47) de (v:=.ptr b 0) (by simp[V]) (λe=>by cases e)) ?_
 refine uA (b:=b) (e:=e) (fs:=fs) (bs:=bs) (Q:=λv fs' bs'=>∃y:Ln,v=.agg y.cells/\y.ts.l.length<=24/\fs'=fs/\bs'=bs) ?_ ?_ (λh kh=>?_) ?_ ?_
 ·exact U52
 ·simp[X3,V,k0.ah,k1.ah]
 ·exact U53
 ·intro n;simp[X3,X4]
 ·rintro v h' fs' bs' ⟨y,rfl,ly,rfl,rfl⟩ st k';simp[V] at st k';obtain⟨_,vF',vB',lg',wr',a'⟩:=id k';have kb':=U381;simp[X0,X2,X3,V,kb',an y.ah];refine rY (sK (j:=46) de (v:=.ptr b 0) (by simp[V]) (λe=>by cases e)) ?_
  refine uA (b:=b) (e:=e) (fs:=fs') (bs:=bs') (Q:=λv fs2 bs2=>∃q:Pr,v=q.av/\fs2.length<=fs'.length+1/\(∀f∈fs2,f.ts.l.length<=24)/\q.nodes<=8/\bs2=bs') ?_ ?_ (λh kh=>?_) ?_ ?_
  ·exact U54
  ·simp[X3,V,y.ah]
  ·obtain⟨q,h2,fs2,rc,s1,k2,f2,l2,nq⟩:=Dh y ly om kB.f kh
   grind
  ·intro n;simp[X3]
  ·exact U55
theorem aFU{s:St}{b:Nat}{e:Evr}{fs:List Ln}{bs:List Pr}(p:Pr){c d:Nat}(H:BodyH s b e fs bs p c d)(h4:s.eval (.t 4)=Z (.ptr d 0))(hl:p.ks.length=2)(hK:∀k∈p.ks,okT k)(hn:p.nodes<=1000000):Run E1 aWQ s λe' s'=>e'=.normal/\BodyP s b e fs bs p d s':=by
 obtain⟨hV,kB,lf,lb,k,hc,gc,cb,ci,hd,⟨z,gd,lz,iz⟩,db,di,cd,h0,h3⟩:=H;have en:=U378;obtain⟨k0,r0,hk0⟩:=re (l:=p.ks) (j:=0) om;obtain⟨k1,r1,hk1⟩:=re (l:=p.ks) (j:=1) om;have hix0:=sY hk0;have hix1:=sY hk1;have m0:=U380;have m1:k1∈p.ks:=Gr;have b0:=(sn k0 m0).1;have b1:=(sn k1 m1).1;have kids0:=U255;have a3:=U331;have kc:=U371;obtain⟨_,vF,vB,lg,wr,a⟩:=id k;have kb:=U342;refine pb rfl ?_
 simp[aWM,X0,X1,X2,X3,X4,V,an kids0,an k0.ah,an k1.ah, *];refine rY (sK (j:=68) de (v:=.ptr b 0) (by simp[V]) (λe=>by cases e)) ?_
 refine uA (b:=b) (e:=e) (fs:=fs) (bs:=bs) (Q:=λv fs' bs'=>∃y:Ln,v=.agg y.cells/\y.ts.l.length<=24/\fs'=fs/\bs'=bs) ?_ ?_ (λh kh=>?_) ?_ ?_
 ·exact U52
 ·simp[X3,V,k0.ah,k1.ah]
 ·exact U53
 ·intro n;simp[X3,X4]
 ·rintro v h' fs' bs' ⟨y,rfl,ly,rfl,rfl⟩ st k';simp[V] at st k';obtain⟨_,vF',vB',lg',wr',a'⟩:=id k';have kb':=U381;simp[X0,X2,X3,V,kb',an y.ah];refine rY (sK (j:=67) de (v:=.ptr b 0) (by simp[V]) (λe=>by cases e)) ?_
  refine uA (b:=b) (e:=e) (fs:=fs') (bs:=bs') (Q:=λv fs2 bs2=>∃q:Pr,v=q.av/\fs2.length<=fs'.length+1/\(∀f∈fs2,f.ts.l.length<=24)/\q.nodes<=8/\bs2=bs') ?_ ?_ (λh kh=>?_) ?_ ?_
  ·exact U54
  ·simp[X3,V,y.ah]
  ·obtain⟨q,h2,fs2,rc,s1,k2,f2,l2,nq,_⟩:=w6 y ly om kB.f kh
   grind
  ·intro n;simp[X3]
  ·exact U55
theorem aFT{s:St}{b:Nat}{e:Evr}{fs:List Ln}{bs:List Pr}(p:Pr){c d:Nat}(H:BodyH s b e fs bs p c d)(h4:s.eval (.t 4)=Z (.ptr d 0))(hl:p.ks.length=2)(hK:∀k∈p.ks,okT k)(hn:p.nodes<=1000000):Run E1 aWP s λe' s'=>e'=.normal/\BodyP s b e fs bs p d s':=by
 obtain⟨hV,kB,lf,lb,k,hc,gc,cb,ci,hd,⟨z,gd,lz,iz⟩,db,di,cd,h0,h3⟩:=H;have en:=U378;obtain⟨k0,r0,hk0⟩:=re (l:=p.ks) (j:=0) om;obtain⟨k1,r1,hk1⟩:=re (l:=p.ks) (j:=1) om;have hix0:=sY hk0;have hix1:=sY hk1;have m0:=U380;have m1:k1∈p.ks:=Gr;have b0:=(sn k0 m0).1;have b1:=(sn k1 m1).1;have kids0:=U255;have a3:=U331;have kc:=U371;obtain⟨_,vF,vB,lg,wr,a⟩:=id k;have kb:=U342;refine pb rfl ?_
 simp[aWL,X0,X1,X2,X3,X4,V,an kids0,an k0.ah,an k1.ah, *];refine rY (sK (j:=80) de (v:=.ptr b 0) (by simp[V]) (λe=>by cases e)) ?_
 refine uA (b:=b) (e:=e) (fs:=fs) (bs:=bs) (Q:=λv fs' bs'=>∃y:Ln,v=.agg y.cells/\y.ts.l.length<=24/\fs'=fs/\bs'=bs) ?_ ?_ (λh kh=>?_) ?_ ?_
 ·exact U52
 ·simp[X3,V,k0.ah,k1.ah]
 ·exact U53
 ·intro n;simp[X3,X4]
 ·rintro v h' fs' bs' ⟨y,rfl,ly,rfl,rfl⟩ st k';simp[V] at st k';obtain⟨_,vF',vB',lg',wr',a'⟩:=id k';have kb':=U381;simp[X0,X2,X3,V,kb',an y.ah];refine rY (sK (j:=79) de (v:=.ptr b 0) (by simp[V]) (λe=>by cases e)) ?_
  refine uA (b:=b) (e:=e) (fs:=fs') (bs:=bs') (Q:=λv fs2 bs2=>∃q:Pr,v=q.av/\fs2.length<=fs'.length+1/\(∀f∈fs2,f.ts.l.length<=24)/\q.nodes<=8/\bs2=bs') ?_ ?_ (λh kh=>?_) ?_ ?_
  ·exact U54
  ·simp[X3,V,y.ah]
  ·obtain⟨q,h2,fs2,rc,s1,k2,f2,l2,nq⟩:=Zn y ly om kB.f kh
   grind
  ·intro n;simp[X3]
  ·exact U55
theorem aQG(e:Evr)(p:Pr)(hb:bdT e p)(hn:p.nodes<=1000000)(hK:∀k∈p.ks,bdT e k->jR e k):jR e p:=by
 intro b fs bs h hV kB lf lb k;have hok:=hb.ok;obtain⟨r,h',⟨q,fs',bs',rfl,p1,p2,p3,p4,p5,p6⟩,ha⟩:=tQ (g:=62) (l:=[.ptr b 0,p.av]) (h:=h) (P:=λr h'=>∃(q:Pr) (fs':List Ln) (bs':List Pr),r=[q.av]/\bL b h h'/\bX h' b e fs' bs'/\jW fs' bs'/\fs'.length<=fs.length+p.nodes/\bs'.length<=bs.length+p.nodes/\q.nodes<=12*p.nodes) bMJ λs hs hh hd hr=>by
  have h0:=hs 0 _ rfl;have h1:=hs 1 _ rfl;have en:=U378;have nl:=rl p.ks;have lt:=k.lt;have tp:=U295;have t0:=U335;have z4:=U260;obtain⟨H,hH⟩:∃H,(h.alloc (.cells p.cells J)).alloc (.cells [vI 0,vS ⟨#[]⟩,vI 0,.val (.slice Y 0 0)] J)=H:=⟨_,rfl⟩;have Hn:H.next=h.next+2:=by rw[<-hH];rfl
  have H0:H.get h.next=Z (.cells p.cells J):=by rw[<-hH,am Sp];exact co
  have H1:H.get (h.next+1)=Z (.cells [vI 0,vS ⟨#[]⟩,vI 0,.val (.slice Y 0 0)] J):=by rw[<-hH];exact co (h:=h.alloc (.cells p.cells J))
  have Hg:∀y,y<h.next->H.get y=h.get y:=λy hy=>by rw[<-hH,am (by show y<h.next+1;omega),am hy]
  have Ht:ak H:=by rw[<-hH];exact k.1.alloc.alloc
  have lb0:=lt b (.inl rfl);obtain⟨sH,kH⟩:=k.step (h'':=H) bL.refl om Ht (λy hy=>Hg y (by
   grind))
  have eH:aq H b=aq h b:=bX.oD (Hg b lb0);have nin:∀y,h.next<=y->y≠b/\y∉aq H b:=Gr;have fin:∀(G:AH) (q:Pr) (fs':List Ln) (bs':List Pr),G.get (h.next+1)=Z (.cells q.cells J)->bL b h G->bX G b e fs' bs'->jW fs' bs'->fs'.length<=fs.length+p.nodes->bs'.length<=bs.length+p.nodes->q.nodes<=12*p.nodes->∃h',cL E1 [] G=Z h'/\∃r,(∃(q:Pr) (fs':List Ln) (bs':List Pr),r=[.agg q.cells]/\bL b h h'/\bX h' b e fs' bs'/\jW fs' bs'/\fs'.length<=fs.length+p.nodes/\bs'.length<=bs.length+p.nodes/\q.nodes<=12*p.nodes)/\mQ ((cfB (h'.get (h.next+1)) 0).bind (takeN (Z 4))) (Z [])=Z r:=λG q fs' bs' g s k kb l1 l2 l3=>
   ⟨G,rfl,_,⟨q,fs',bs',rfl,s,k,kb,l1,l2,l3⟩,by rw[g,Er,Option.bind_some,cf q.len];rfl⟩
  have BH:∀(s':St),s'.h=H->s'.eval (.t 0)=Z (.ptr b 0)->s'.eval (.t 3)=Z (.ptr h.next 0)->BodyH s' b e fs bs p h.next (h.next+1):=λs' e1 e2 e3=>by
   refine⟨hV,kB,lf,lb,Gr,Gr,Gr,(nin _ (ij _)).1,Gr,Gr,⟨_,by rw[e1];exact H1,rfl,rfl⟩,(nin _ om).1,Gr,om,e2,e3⟩
  have okk:∀k∈p.ks,okT k:=hok.kid;have bd:=hb;refine rU _ _ _ ?_
  by_cases q2:p.op=2
  ·have d2:decide (p.op=2)=J:=by grind
   simp only[fJ,f62,V,WF,h1,hh,hd,hH,H0,H1,tp,t0,d2,cy z4 (Pr.len _),Pr.av,seval];obtain⟨r1,r2⟩:=(bL.refl (b:=b) (h:=H)).put (d:=h.next+1) (cs:=p.cells) kH om (nin _ om).1 (nin _ om).2;exact fin _ p fs bs lA (sH.w r1 om) r2 kB om om om
  have d2:=U228
  by_cases q34:p.op=3\/p.op=4
  ·obtain⟨q,h1',fs1,bs1,rc,s1,k1,f1,l1,b1,nq⟩:=Re p hok hn om kB.f om (λq hq=>by have:=(kB.b q hq).2;omega) kH
   have g1:h1'.get (h.next+1)=Z (.cells [vI 0,vS ⟨#[]⟩,vI 0,.val (.slice Y 0 0)] J):=by rw[s1.fr _ om (nin _ om).1 (nin _ om).2,H1]
   obtain⟨r1,r2⟩:=s1.put (d:=h.next+1) (cs:=q.cells) k1 om (nin _ om).1 (nin _ om).2;have kB1:jW fs1 bs1:=⟨l1,λx hx=>by
    rcases b1 with rfl|rfl
    ·exact kB.b x hx
    ·rcases U291 with hx|hx
     ·exact kB.b x hx
     grind⟩
   have lb1:bs1.length<=bs.length+p.nodes:=by
    grind
   have dd:decide (p.op=3)=J\/(decide (p.op=3)=U/\decide (p.op=4)=J):=by
    grind
   rcases dd with d3|⟨d3,d4⟩
   ·simp only[fJ,f62,V,h0,h1,hh,hH,H0,tp,t0,d2,d3,Pr.av,seval];exact U142
   ·simp only[fJ,f62,V,h0,h1,hh,hH,H0,tp,t0,d2,d3,d4,Pr.av,seval];exact U142
  have d3:=U336;have d4:decide (p.op=4)=U:=Gr;have bd:((14<=p.op/\p.op<=18)/\bdTL e p.ks)\/((p.op=10\/p.op=11)/\p.ks.length=2/\(aP (ofS e (hdP p.ks)).1 dS=J->bdTL e p.ks))\/((p.op=12\/p.op=13)/\p.ks.length=2):=by
   obtain⟨o,nm,n,ks,nl,cap⟩:=p;rcases hb.2 with q|q|q|q
   ·exact absurd q q2
   ·exact absurd q λq=>q34 (.inl q)
   ·exact absurd q λq=>q34 (.inr q)
   ·exact q
  rcases bd with⟨⟨o14,o18⟩,bk⟩|⟨o10,l2,bk⟩|⟨o12,l2⟩
  ·have hk:∀k∈p.ks,jR e k:=by grind [Lj]
   have dd:p.op=14\/p.op=15\/p.op=16\/p.op=17\/p.op=18:=om;rcases dd with dd|dd|dd|dd|dd
   ·have x14:decide (p.op=14)=decide ((14:Int)=14):=by rw[dd]
    have x15:decide (p.op=15)=decide ((14:Int)=15):=by rw[dd]
    have x16:decide (p.op=16)=decide ((14:Int)=16):=by rw[dd]
    have x17:decide (p.op=17)=decide ((14:Int)=17):=by rw[dd]
    have x18:decide (p.op=18)=decide ((14:Int)=18):=by rw[dd]
    simp only[fJ,f62,V,h1,hh,hH,H0,t0,d2,d3,d4,x14,Pr.av,seval];exact U143
   ·have x14:decide (p.op=14)=decide ((15:Int)=14):=by rw[dd]
    have x15:decide (p.op=15)=decide ((15:Int)=15):=by rw[dd]
    have x16:decide (p.op=16)=decide ((15:Int)=16):=by rw[dd]
    have x17:decide (p.op=17)=decide ((15:Int)=17):=by rw[dd]
    have x18:decide (p.op=18)=decide ((15:Int)=18):=by rw[dd]
    simp only[fJ,f62,V,h1,hh,hH,H0,t0,d2,d3,d4,x14,x15,Pr.av,seval];exact U143
   ·have x14:decide (p.op=14)=decide ((16:Int)=14):=by rw[dd]
    have x15:decide (p.op=15)=decide ((16:Int)=15):=by rw[dd]
    have x16:decide (p.op=16)=decide ((16:Int)=16):=by rw[dd]
    have x17:decide (p.op=17)=decide ((16:Int)=17):=by rw[dd]
    have x18:decide (p.op=18)=decide ((16:Int)=18):=by rw[dd]
    simp only[fJ,f62,V,h1,hh,hH,H0,t0,d2,d3,d4,x14,x15,x16,Pr.av,seval];exact U143
   ·have x14:decide (p.op=14)=decide ((17:Int)=14):=by rw[dd]
    have x15:decide (p.op=15)=decide ((17:Int)=15):=by rw[dd]
    have x16:decide (p.op=16)=decide ((17:Int)=16):=by rw[dd]
    have x17:decide (p.op=17)=decide ((17:Int)=17):=by rw[dd]
    have x18:decide (p.op=18)=decide ((17:Int)=18):=by rw[dd]
    simp only[fJ,f62,V,h1,hh,hH,H0,t0,d2,d3,d4,x14,x15,x16,x17,Pr.av,seval];exact U143
   ·have x14:decide (p.op=14)=decide ((18:Int)=14):=by rw[dd]
    have x15:decide (p.op=15)=decide ((18:Int)=15):=by rw[dd]
    have x16:decide (p.op=16)=decide ((18:Int)=16):=by rw[dd]
    have x17:decide (p.op=17)=decide ((18:Int)=17):=by rw[dd]
    have x18:decide (p.op=18)=decide ((18:Int)=18):=by rw[dd]
    simp only[fJ,f62,V,h1,hh,hH,H0,t0,d2,d3,d4,x14,x15,x16,x17,x18,Pr.av,seval];exact U143
  ·obtain⟨k0,r0,hk0⟩:=re (l:=p.ks) (j:=0) om;have hix0:=sY hk0;have m0:=U380;have b0:=(sn k0 m0).1;have hd0:hdP p.ks=k0:=by rw[show p.ks=k0::r0 from hk0];rfl
   rw[hd0] at bk;have a3:=U331;obtain⟨w,wl,wA⟩:=Pr.kidsV p;have x14:decide (p.op=14)=U:=Gr;have x15:decide (p.op=15)=U:=Gr;have x16:decide (p.op=16)=U:=Gr;have x17:decide (p.op=17)=U:=Gr;have x18:decide (p.op=18)=U:=Gr;obtain⟨G,hG⟩:∃G,(H.alloc (.cells [vI 0,vS ⟨#[]⟩,vI 0,.val (.slice Y 0 0)] J)).put (h.next+2) (Z (.cells [vI 0,vS ⟨#[]⟩,vI 0,.val (.slice Y 0 0)] J))=G:=⟨_,rfl⟩;have Gn:G.next=h.next+3:=by rw[<-hG];show H.next+1=_;omega
   have Gl:∀y,y<h.next+2->G.get y=H.get y:=by grind [bc,am]
   have G2:G.get (h.next+2)=Z (.cells [vI 0,vS ⟨#[]⟩,vI 0,.val (.slice Y 0 0)] J):=by grind [lA]
   have G0:G.get h.next=Z (.cells p.cells J):=Gr;have Gt:ak G:=by rw[<-hG];exact Ht.alloc.put
   obtain⟨sG,kG⟩:=kH.step (h'':=G) sH om Gt (λy hy=>Gl y (by
    grind))
   have eG:aq G b=aq h b:=by grind [bX.oD]
   have ninG:∀y,h.next<=y->y≠b/\y∉aq G b:=Gr;obtain⟨h1',rc,s1,k1⟩:=Xj k0 om hV kG;have n1:=s1.nx;have g1:∀y,h.next<=y->y<h.next+3->h1'.get y=G.get y:=λy y1 y2=>s1.fr y om (ninG y y1).1 (ninG y y1).2;have nin1:∀y,h.next<=y->y<h.next+3->y≠b/\y∉aq h1' b:=λy y1 y2=>⟨om,λq=>by
    rcases s1.ow y q with q|q<;>grind⟩
   have g10:h1'.get h.next=Z (.cells p.cells J):=Gr;have g11:h1'.get (h.next+1)=Z (.cells [vI 0,vS ⟨#[]⟩,vI 0,.val (.slice Y 0 0)] J):=Gr;have g12:h1'.get (h.next+2)=Z (.cells [vI 0,vS ⟨#[]⟩,vI 0,.val (.slice Y 0 0)] J):=Gr;have s01:=sG.trans s1;have eqfin:∀(F:AH) (q:Pr) (fs':List Ln) (bs':List Pr),F.get (h.next+1)=Z (.cells [vI 0,vS ⟨#[]⟩,vI 0,.val (.slice Y 0 0)] J)->bL b h F->bX F b e fs' bs'->h.next+3<=F.next->(∀y,h.next<=y->y<h.next+3->y∉aq F b)->
     (bL b h (F.put (h.next+1) (Z (.cells q.cells J)))/\bX (F.put (h.next+1) (Z (.cells q.cells J))) b e fs' bs')/\∃(q2:Pr) (h3:AH),q2.nodes=1+q.nodes/\aE E1 (.f 95) [vI 14,.own F.next 0 1 4 (Z 1)] (F.alloc (.cells q.cells J)) q2.av h3/\h3.get (h.next+1)=Z (.cells [vI 0,vS ⟨#[]⟩,vI 0,.val (.slice Y 0 0)] J)/\
      bL b h (h3.put (h.next+1) (Z (.cells q2.cells J)))/\bX (h3.put (h.next+1) (Z (.cells q2.cells J))) b e fs' bs':=λF q fs' bs' gF sF kF nF iF=>by
    have ltF:=kF.lt;refine⟨kF.step sF (ij _) kF.1.put (λy hy=>bc ?_),?_⟩
    ·grind
    ·have sq:Pr.aG [q]=q.cells:=by grind [Pr.aG]
     obtain⟨q2,h3,nq2,rc3,n3,g3,t3⟩:=th 14 (bn.made (h:=F.alloc (.cells q.cells J)) (lo:=0) (b:=F.next) (k:=[q].length) (es:=4) (cs:=Pr.aG [q]) sO (pj [q]) (il _) (je _) (by grind [co]))
     have gg:∀y,y<F.next->h3.get y=F.get y:=by grind [ids,am]
     refine⟨q2,h3,by simp_all [Pr.aI],rc3,Gr,kF.step sF Sa (t3 kF.1.alloc).put (λy hy=>?_)⟩
     have yl:y<F.next:=by
      grind
     rw[bc ?_,gg y yl]
     grind
   have dd:(decide (p.op=10)=J/\decide (p.op=11)=U)\/(decide (p.op=10)=U/\decide (p.op=11)=J):=by
    grind
   have pA:∀(z0 z1 z2 z3:AV) (q:Pr),dV [z0,z1,z2,z3] 0 4 q.cells=Z q.cells:=λ_ _ _ _ q=>sX;have hnN:∀x:Nat,x+1+1=x+2:=λ_=>rfl;have sB:=U254;cases hq:aP (ofS e k0).1 dS with
   |true=>
    have hq':aP (ofS e k0).1 ⟨#[66,111,111,108]⟩=J:=hq;have hk:∀k∈w.l,jR e k:=by grind [Lj]
    obtain⟨q,h2',fs',bs',rc2,s2,k2,kB2,f2,b2,nq⟩:=Ec w Gr hk hV kB Gr Gr k1;rw[wl] at f2 b2 nq;rw[wA] at rc2;have n2:=s2.nx;have g20:h2'.get (h.next+2)=Z (.cells [vI 0,vS ⟨#[]⟩,vI 0,.val (.slice Y 0 0)] J):=by rw[s2.fr _ om (nin1 _ om om).1 (nin1 _ om om).2,g12]
    obtain⟨Q,hQ,nQ⟩:∃Q:Pr,Q.cells=[vI 18,vS ⟨#[]⟩,vI 0,q.A Pr.cells]/\Q.nodes=1+Pr.aI q.l:=⟨Pr.mk 18 ⟨#[]⟩ 0 q.l q.nl q.cap,Zi 18 0 q,rfl⟩;obtain⟨w2,k3⟩:=s2.put (d:=h.next+2) (cs:=Q.cells) k2 om (nin1 _ om om).1 (nin1 _ om om).2;obtain⟨F,hF⟩:∃F,h2'.put (h.next+2) (Z (.cells Q.cells J))=F:=⟨_,rfl⟩;rw[hF] at w2 k3;have Fn:F.next=h2'.next:=by rw[<-hF];rfl
    have F2:F.get (h.next+2)=Z (.cells Q.cells J):=by grind [lA]
    have stB:stK h2' (h.next+2) 4 0 [vI 18,vS ⟨#[]⟩,vI 0,q.A Pr.cells] (Z (.cells [vI 0,vS ⟨#[]⟩,vI 0,.val (.slice Y 0 0)] J))=Z F:=by grind [cy]
    have F1:F.get (h.next+1)=Z (.cells [vI 0,vS ⟨#[]⟩,vI 0,.val (.slice Y 0 0)] J):=by rw[w2.fr _ om (nin1 _ om om).1 om (nin1 _ om om).2,g11]
    have F0:F.get h.next=Z (.cells p.cells J):=by rw[w2.fr _ om (nin1 _ om om).1 om (nin1 _ om om).2,g10]
    have sF:=s01.w w2 om;obtain⟨⟨e1,e2⟩,q2,h3,nq2,rc3,e3,e4,e5⟩:=eqfin F Q fs' bs' F1 sF k3 om (λy y1 y2 q=>by
     rcases w2.ow y q with q|q<;>grind)
    have tF:=U382;rcases dd with⟨x10,x11⟩|⟨x10,x11⟩
    ·simp only[fJ,f62,V,WF,h0,h1,hh,hH,H0,t0,d2,d3,d4,x14,x15,x16,x17,x18,x10,a3,hix0,Pr.av,Hn,hnN,hG,G0,seval];refine gt (by simp[V];exact rc) ?_
     simp only[V,h0,hq',g10,seval];refine gt (by simp[V];exact rc2) ?_
     simp only[V,WF,g20,stB,seval];simp only[V,WF,F0,F1,F2,x11,hd,seval];exact fin _ Q fs' bs' lA e1 e2 kB2 om om om
    ·simp only[fJ,f62,V,WF,h0,h1,hh,hH,H0,t0,d2,d3,d4,x14,x15,x16,x17,x18,x10,x11,a3,hix0,Pr.av,Hn,hnN,hG,G0,seval];refine gt (by simp[V];exact rc) ?_
     simp only[V,h0,hq',g10,seval];refine gt (by simp[V];exact rc2) ?_
     simp only[V,WF,g20,stB,seval];simp only[V,WF,F0,F2,x11,pA,seval];refine gt (by simp[V];exact rc3) ?_
     simp only[V,WF,e3,hd,seval];exact fin _ q2 fs' bs' lA e4 e5 kB2 om om om
   |false=>
    have hq':aP (ofS e k0).1 ⟨#[66,111,111,108]⟩=U:=hq;have BH1:∀(s':St),s'.h=h1'->s'.eval (.t 0)=Z (.ptr b 0)->s'.eval (.t 3)=Z (.ptr h.next 0)->BodyH s' b e fs bs p h.next (h.next+2):=λs' e1 e2 e3=>by
     refine⟨hV,kB,lf,lb,Gr,Gr,Gr,(nin1 _ (ij _) om).1,Gr,Gr,⟨_,by rw[e1];exact g12,rfl,rfl⟩,(nin1 _ om om).1,Gr,om,e2,e3⟩
    have run1:∀(s1 s2:St),s1.h=h1'->s1.defers=[]->s1.eval (.t 3)=Z (.ptr h.next 0)->s1.eval (.t 4)=Z (.ptr (h.next+1) 0)->s1.eval (.t 5)=Z (.ptr (h.next+2) 0)->BodyP s1 b e fs bs p (h.next+2) s2->s2.defers=[]/\s2.eval (.t 3)=Z (.ptr h.next 0)/\s2.eval (.t 4)=Z (.ptr (h.next+1) 0)/\s2.eval (.t 5)=Z (.ptr (h.next+2) 0)/\∃(Q:Pr) (fs':List Ln) (bs':List Pr),jW fs' bs'/\fs'.length<=fs.length+p.nodes/\bs'.length<=bs.length+p.nodes/\Q.nodes+1<=12*p.nodes/\s2.h.get h.next=Z (.cells p.cells J)/\
      s2.h.get (h.next+1)=Z (.cells [vI 0,vS ⟨#[]⟩,vI 0,.val (.slice Y 0 0)] J)/\s2.h.get (h.next+2)=Z (.cells Q.cells J)/\bL b h (s2.h.put (h.next+1) (Z (.cells Q.cells J)))/\bX (s2.h.put (h.next+1) (Z (.cells Q.cells J))) b e fs' bs'/\
      ∃(q2:Pr) (h3:AH),q2.nodes=1+Q.nodes/\aE E1 (.f 95) [vI 14,.own s2.h.next 0 1 4 (Z 1)] (s2.h.alloc (.cells Q.cells J)) q2.av h3/\h3.get (h.next+1)=Z (.cells [vI 0,vS ⟨#[]⟩,vI 0,.val (.slice Y 0 0)] J)/\
       bL b h (h3.put (h.next+1) (Z (.cells q2.cells J)))/\bX (h3.put (h.next+1) (Z (.cells q2.cells J))) b e fs' bs':=λs1 s2 e1 e2 e3 e4 e5 P=>by
     obtain⟨x1,⟨Q,fs',bs',g1,w2,k2,kB1,f1,b1,nq⟩,ev⟩:=P;rw[e1] at w2;have n2:=w2.nx;refine⟨Gr,Gr,Gr,Gr,Q,fs',bs',kB1,f1,b1,nq,?_⟩;have F1:s2.h.get (h.next+1)=Z (.cells [vI 0,vS ⟨#[]⟩,vI 0,.val (.slice Y 0 0)] J):=by rw[w2.fr _ om (nin1 _ om om).1 om (nin1 _ om om).2,g11]
     have F0:s2.h.get h.next=Z (.cells p.cells J):=by rw[w2.fr _ om (nin1 _ om om).1 om (nin1 _ om om).2,g10]
     have sF:=s01.w w2 om;obtain⟨⟨y1,y2⟩,q2,h3,nq2,rc3,y3,y4,y5⟩:=eqfin s2.h Q fs' bs' F1 sF k2 om (λy y1 y2 q=>by
      rcases w2.ow y q with q|q<;>grind)
     grind
    rcases dd with⟨x10,x11⟩|⟨x10,x11⟩
    ·simp only[fJ,f62,V,WF,h0,h1,hh,hH,H0,t0,d2,d3,d4,x14,x15,x16,x17,x18,x10,a3,hix0,Pr.av,Hn,hnN,hG,G0,seval];refine gt (by simp[V];exact rc) ?_
     simp only[V,hq'];refine(Kc p (BH1 _ ?_ ?_ ?_) ?_ l2 okk hn).mono ?_
     all_goals try simp only[V,↓reduceIte,rA,reduceCtorEq,h0]
     rintro e' s2 ⟨rfl,P⟩;obtain⟨x1,u3,u4,u5,Q,fs',bs',kB2,f2,b2,nQ,F0,F1,F2,e1,e2,q2,h3,nq2,rc3,e3,e4,e5⟩:=run1 _ s2 rf (by simp[V,hd]) (by simp[V]) (by simp[V]) (by simp[V]) P
     have tF:=U382;simp only[V,WF,u3,u4,u5,x1,F0,F1,F2,tF,t0,x11,cy z4 (Pr.len _),seval];exact fin _ Q fs' bs' lA e1 e2 kB2 om om om
    ·simp only[fJ,f62,V,WF,h0,h1,hh,hH,H0,t0,d2,d3,d4,x14,x15,x16,x17,x18,x10,x11,a3,hix0,Pr.av,Hn,hnN,hG,G0,seval];refine gt (by simp[V];exact rc) ?_
     simp only[V,hq'];refine(Kc p (BH1 _ ?_ ?_ ?_) ?_ l2 okk hn).mono ?_
     all_goals try simp only[V,↓reduceIte,rA,reduceCtorEq,h0]
     rintro e' s2 ⟨rfl,P⟩;obtain⟨x1,u3,u4,u5,Q,fs',bs',kB2,f2,b2,nQ,F0,F1,F2,e1,e2,q2,h3,nq2,rc3,e3,e4,e5⟩:=run1 _ s2 rf (by simp[V,hd]) (by simp[V]) (by simp[V]) (by simp[V]) P
     have tF:=U382;simp only[V,WF,u3,u5,F0,F2,x11,pA,seval];refine gt (by simp[V];exact rc3) ?_
     simp only[V,WF,u4,x1,e3,seval];exact fin _ q2 fs' bs' lA e4 e5 kB2 om om om
  ·have dd:decide (p.op=13)=J\/(decide (p.op=13)=U):=by grind
   have x14:decide (p.op=14)=U:=Gr;have x15:decide (p.op=15)=U:=Gr;have x16:decide (p.op=16)=U:=Gr;have x17:decide (p.op=17)=U:=Gr;have x18:decide (p.op=18)=U:=Gr;have x10:decide (p.op=10)=U:=Gr;have x11:decide (p.op=11)=U:=Gr;rcases dd with x13|x13
   ·simp only[fJ,f62,V,h1,hh,hH,H0,t0,d2,d3,d4,x14,x15,x16,x17,x18,x10,x11,x13,Pr.av,seval];refine(aFU p (BH _ ?_ ?_ ?_) ?_ l2 okk hn).mono ?_
    all_goals try simp only[V,↓reduceIte,rA,reduceCtorEq,h0]
    exact U144
   ·simp only[fJ,f62,V,h1,hh,hH,H0,t0,d2,d3,d4,x14,x15,x16,x17,x18,x10,x11,x13,Pr.av,seval];refine(aFT p (BH _ ?_ ?_ ?_) ?_ l2 okk hn).mono ?_
    all_goals try simp only[V,↓reduceIte,rA,reduceCtorEq,h0]
    exact U144
 exact⟨q,h',fs',bs',uO (eJ (g:=62) rf) (Tree.pr q) ha,p1,p2,p3,p4,p5,p6⟩
mutual
theorem xP(e:Evr):∀p:Pr,bdT e p->p.nodes<=1000000->jR e p
 |.mk o nm n ks nl cap,h,hn=>by
  have en:(Pr.mk o nm n ks nl cap).nodes=1+Pr.aI ks:=rfl;exact aQG e _ h hn (Bo e ks om)
theorem Bo(e:Evr):∀l:List Pr,Pr.aI l<=1000000->∀k∈l,bdT e k->jR e k
 | [],_,k,hk=>by cases hk
 |p::r,hn,k,hk=>by
  have en:=U298;intro hb;rcases U201 with e1|hk
  ·rw[e1] at hb⊢
   exact xP e p hb om
  ·exact Bo e r om k hk hb
end
noncomputable def eqOp (Vx:Evr) (a:Pr):Int:=bif decide ((ofS Vx a).2=0)&&aP (ofS Vx a).1 dS then 18 else 10
def EqP(Vx:Evr)(a b q:Pr):Prop:=∃nl cap,q=.mk (eqOp Vx a) ⟨#[]⟩ 0 [a,b] nl cap
theorem EqP.nodes{Vx:Evr}{a b q:Pr}(h:EqP Vx a b q):q.nodes=1+(a.nodes+b.nodes):=by
 obtain⟨nl,cap,rfl⟩:=h;rfl
theorem Sr{o:Int}{a b:Pr}{nl:Option (Option Addr×Nat)}{cap:Option Nat}(h1:6<=o)(h2:o<=18)(ha:okT a)(hb:okT b):okT (.mk o ⟨#[]⟩ 0 [a,b] nl cap):=by
 refine⟨⟨by show 1<=o;omega,h2,λq=>il _,λq=>?_,λ_=>j5 1,λ_ _ _=>rfl⟩,ha,hb,trivial⟩
 rfl
theorem EqP.bd{Vx:Evr}{a b q:Pr}(h:EqP Vx a b q)(wa:Ws Vx a)(wb:Ws Vx b)(hs:aP (a.sor Vx).1 dS=J->bdT Vx a/\bdT Vx b):bdT Vx q:=by
 obtain⟨nl,cap,rfl⟩:=h;have e1:(ofS Vx a)=a.sor Vx:=wa.of;have e2:=wa.s;cases hq:aP (a.sor Vx).1 dS with
 |true=>
  have eo:eqOp Vx a=18:=by grind [eqOp]
  rw[eo];exact⟨Sr de de wa.ok wb.ok,.inr (.inr (.inr (.inl ⟨de,(hs hq).1,(hs hq).2,trivial⟩)))⟩
 |false=>
  have eo:eqOp Vx a=10:=by grind [eqOp]
  rw[eo];refine⟨Sr de de wa.ok wb.ok,.inr (.inr (.inr (.inr (.inl ⟨.inl rfl,rfl,λh=>?_⟩))))⟩;have h:aP (ofS Vx a).1 dS=J:=h
  grind
theorem bJU{Vx:Evr}:bdT Vx tPr:=⟨⟨⟨de,de,(λq=>il _),(λq=>(by cases q)),(λq=>(by exact absurd q de)),(λq=>(by exact absurd q de))⟩,trivial⟩,.inl rfl⟩
theorem bLI{Vx:Evr}:bdT Vx fPr:=⟨⟨⟨de,de,(λq=>il _),(λq=>(by cases q)),(λq=>(by exact absurd q de)),(λq=>(by exact absurd q de))⟩,trivial⟩,.inl rfl⟩
theorem Gu{Vx:Evr}:∀(l:List Pr) (out o:Pr),bdT Vx out->(∀p∈l,bdT Vx p)->jH out l=Z o->bdT Vx o/\o.nodes<=out.nodes+Pr.aI l+l.length
 | [],out,o,ho,_,h=>by
  grind [jH]
 |p::r,out,o,ho,hl,h=>by
  have hp:=hl p ip;have hr:∀q∈r,bdT Vx q:=Gr;have en:=U298;rw[en,jf];rw[jH] at h;cases h1:p.same fPr with
  |true=>grind
  |false=>
   rw[h1,cond_false] at h;cases h2:p.eX with
   |true=>
    rw[h2,cond_true] at h;obtain⟨a,b⟩:=Gu r out o ho hr h
    grind
   |false=>
    rw[h2,cond_false] at h;cases h3:out.eX with
    |true=>
     rw[h3,cond_true] at h;obtain⟨a,b⟩:=Gu r p o hp hr h
     grind
    |false=>
     rw[h3,cond_false] at h;obtain⟨a,b⟩:=Gu r (out.pair p) o ⟨Sr de de ho.ok hp.ok,.inr (.inr (.inr (.inl ⟨de,ho,hp,trivial⟩)))⟩ hr h
     grind [yI]
theorem bHD{Vx:Evr}{l:List Pr}(h:∀p∈l,bdT Vx p):bdT Vx (bw l)/\(bw l).nodes<=1+Pr.aI l+l.length:=by
 unfold bw;cases ha:jH tPr l with
 |none=>exact⟨bLI,by show 1<=_;omega⟩
 |some o=>exact Gu l tPr o bJU h ha
def impP(a b:Pr):Pr:=.mk 17 ⟨#[]⟩ 0 [a,b] Y (Z 2)
theorem aEN{a b:Pr}:(impP a b).nodes=1+(a.nodes+b.nodes):=by rfl
theorem bDT{Vx:Evr}{a b:Pr}(ha:bdT Vx a)(hb:bdT Vx b):bdT Vx (impP a b):=⟨Sr de de ha.ok hb.ok,.inr (.inr (.inr (.inl ⟨de,ha,hb,trivial⟩)))⟩
structure ApP (Vx:Evr) (a:Pr):Prop where
 w:Ws Vx a
 n:noH a
 o:a.op=4
theorem ApP.bd{Vx:Evr}{a:Pr}(h:ApP Vx a):bdT Vx a:=by
 have:=h.o;have hok:=h.w.ok;cases a;exact⟨hok,.inr (.inr (.inl this))⟩
theorem bGX{Vx:Evr}{p:Pr}(w:Ws Vx p)(n:noH p):(∀a∈rin 4 p [],ApP Vx a)/\(rin 4 p []).length<=400/\Pr.aI (rin 4 p [])<=16000:=by
 refine⟨λa ha=>?_,?_,?_⟩
 ·rcases aHU 4 (λq=>Ws Vx q/\noH q) (λq h k hk=>⟨h.1.kid k hk,h.2.kid k hk⟩) p [] ⟨w,n⟩ a ha with q|⟨q1,q2,q3⟩
  ·cases q
  ·exact⟨q2,q3,q1⟩
 ·have:=Ru 4 p [];have:=w.n
  grind
 ·have h1:=aHS 4 p [];have h2:p.nodes*p.depth<=400*40:=Nat.mul_le_mul w.n w.d
  grind [Pr.aI]
structure SameL (Vx:Evr) (A B same:List Pr):Prop where
 e:∀q∈same,∃x∈A,∃y∈B,EqP Vx x y q/\aP (ofS Vx x).1 (ofS Vx y).1=J
theorem SameL.bd{Vx:Evr}{a b:Pr}{same:List Pr}(ha:ApP Vx a)(hb:ApP Vx b)(h:∀q∈same,∃x∈a.ks,∃y∈b.ks,EqP Vx x y q/\aP (ofS Vx x).1 (ofS Vx y).1=J):∀q∈same,bdT Vx q:=λq hq=>by
 obtain⟨x,hx,y,hy,e,s⟩:=h q hq;have wx:=ha.w.kid x hx;have wy:=hb.w.kid y hy;rw[wx.of,wy.of] at s;refine e.bd wx wy λhb'=>⟨aLW x wx (ha.n.kid x hx) hb',aLW y wy (hb.n.kid y hy) ?_⟩
 grind [wc]
theorem bLC{Vx:Evr}{a b q:Pr}{same:List Pr}(ha:ApP Vx a)(hb:ApP Vx b)(hl:a.ks.length=b.ks.length)(h:∀q∈same,∃x∈a.ks,∃y∈b.ks,EqP Vx x y q/\aP (ofS Vx x).1 (ofS Vx y).1=J)(hn:Pr.aI same<=Pr.aI a.ks+Pr.aI b.ks+a.ks.length)(hsl:same.length<=a.ks.length)(e:EqP Vx a b q):
  bdT Vx (impP (bw same) q)/\(impP (bw same) q).nodes<=4*a.nodes+2*b.nodes:=by
 obtain⟨k1,k2⟩:=bHD (SameL.bd ha hb h);have k3:=e.bd ha.w hb.w λ_=>⟨ha.bd,hb.bd⟩;refine⟨bDT k1 k3,?_⟩;have e1:a.nodes=1+Pr.aI a.ks:=by cases a;rfl
 have e2:b.nodes=1+Pr.aI b.ks:=by cases b;rfl
 have:=rl a.ks;rw[aEN,e.nodes];omega
set_option maxHeartbeats 4000000
theorem Ql(Vx:Evr)(hV:EvB Vx)(a b:Pr)(hb:a.nodes<2^61):∃q:Pr,EqP Vx a b q/\∀h,aE E1 (.f 97) [.agg Vx.cells,a.av,b.av] h q.av h:=by
 have hc:=tf Vx hV a hb;obtain⟨t,⟨q,rfl,hq⟩,hr⟩:=tI (g:=97) (l:=[.agg Vx.cells,a.av,b.av]) (P:=λt=>∃q:Pr,t=q.av/\EqP Vx a b q) rf bLL (yy (Tree.agg λc hc=>by
  simp[Evr.cells] at hc;rcases hc with rfl|rfl|rfl<;>exact Vl.leaf) (Tree.pr a) (Tree.pr b)) λs hs hh hd hr=>by
  have h0:=hs 0 _ rfl;have h1:=hs 1 _ rfl;have h2:=hs 2 _ rfl;have ta:=U383;have tb:=U384;have tV:=U385;have p1:∀z0 z1 z2 z3 z4 z5 z6 z7:AV,dV [z0,z1,z2,z3,z4,z5,z6,z7] 0 4 a.cells=Z (a.cells++[z4,z5,z6,z7]):=λ_ _ _ _ _ _ _ _=>Hz a.len;have p2:∀z4 z5 z6 z7:AV,dV (a.cells++[z4,z5,z6,z7]) 4 4 b.cells=Z (a.cells++b.cells):=λ_ _ _ _=>Hy a.len b.len;have hst:=U337;have hc:∀h,aE E1 (.f 88) [.agg Vx.cells,a.av] h (.tup [vS ((ofS Vx a).1),vI ((ofS Vx a).2)]) h:=hc;have cab:a.cells++b.cells=Pr.aG [a,b]:=by grind [Pr.aG]
  have fin:∀(h:AH) (o:Int),eqOp Vx a=o->h.get 4=Z (.cells (Pr.aG [a,b]) J)->4<h.next->∃rs,Z [AV.agg [vI o,vS ⟨#[]⟩,vI 0,.own 4 0 2 4 (Z 2)]]=Z rs/\∃t n,n<1000/\Rep h 0 h.next n (bQ rs) t/\∃q:Pr,t=q.av/\EqP Vx a b q:=λh o ho g n=>by
   have rx:bn h 0 [a,b].length 4 (.own 4 0 2 4 (Z 2)) ([a,b].flatMap Pr.cells):=by
    rw[<-Pr.bG];exact bn.made (k:=2) sO (pj [a,b]) (il _) n g
   obtain⟨w,hw,hl⟩:=vE rx;have r1:=rx.rep;rw[hw] at r1;have e:[AV.val (.int .i64 o),vS ⟨#[]⟩,vI 0,w.A Pr.cells]=(Pr.mk o ⟨#[]⟩ 0 w.l w.nl w.cap).cells:=by
    exact U134
   have r2:=Rep.agg (h:=h) (lo:=0) (hi:=h.next) (n:=1) (ps:=[(vI o,vI o),(vS ⟨#[]⟩,vS ⟨#[]⟩),(vI 0,vI 0),(.own 4 0 2 4 (Z 2),w.A Pr.cells)]) (λp hp=>by
    simp[jd] at hp;rcases hp with rfl|rfl|rfl|rfl<;>grind [Rep.leaf,aj.val])
   exact⟨_,rfl,_,2,de,r2,Pr.mk o ⟨#[]⟩ 0 w.l w.nl w.cap,Gr,w.nl,w.cap,Gr⟩
  cases hq:(decide ((ofS Vx a).2=0)&&aP (ofS Vx a).1 ⟨#[66,111,111,108]⟩) with
  |true=>
   have eo:eqOp Vx a=18:=by unfold eqOp;rw[show dS=⟨#[66,111,111,108]⟩ from rfl,hq];rfl
   rw[im] at hq;simp only[Tl,f97,V,WF,h0,h1,h2,hh,hd,ta,tb,tV,Pr.av,ac hc,hq.1,hq.2,p1,p2,hst,seval];exact fin _ 18 eo (by grind [AH.aO,AH.aS,tG,xG]) (show(4:Nat)<5 by decide)
  |false=>
   have eo:eqOp Vx a=10:=by unfold eqOp;rw[show dS=⟨#[66,111,111,108]⟩ from rfl,hq];rfl
   cases h2':decide ((ofS Vx a).2=0) with
   |false=>
    simp only[Tl,f97,V,WF,h0,h1,h2,hh,hd,ta,tb,tV,Pr.av,ac hc,h2',p1,p2,hst,seval];exact U386
   |true=>
    rw[h2',Bool.true_and] at hq;simp only[Tl,f97,V,WF,h0,h1,h2,hh,hd,ta,tb,tV,Pr.av,ac hc,h2',hq,p1,p2,hst,seval];exact U386
 grind
def iM(h:AH)(v:AV)(L:List Pr):Prop:=(L=[]/\v=.val (.slice Y 0 0))\/∃(B:Nat) (ps:List (AV×AV)),v=.own B 0 L.length 4 Y/\1<=B/\B<h.next/\0<L.length/\h.get B=Z (.cells (ps.map (·.1)) J)/\ps.map (·.2)=Pr.aG L/\∀p∈ps,Rep h 1 B 1 p.1 p.2
theorem aSV{h:AH}{lo hi:Nat}{v t:AV}(r:Rep h lo hi 1 v t):∀x∈ids v,x<hi:=λx hx=>(vZ r x hx).1
theorem Li{h:AH}{lo B n:Nat}(hn:B<=n):∀{ps:List (AV×AV)},(∀p∈ps,Rep h lo B 1 p.1 p.2)->below n (aQ (ps.map (·.1)))=J
 | [],_=>rfl
 |p::r,h=>by
  have h1:=Li hn λq hq=>h q (iy _ hq);have h2:=h p ip;have e:aQ ((p::r).map (·.1))=ids p.1++aQ (r.map (·.1)):=rfl;rw[e];refine j3.2 λx hx=>?_
  rcases U291 with q|q
  ·exact Nat.blt_eq.mpr (Nat.lt_of_lt_of_le (aSV h2 x q) hn)
  ·exact j3.1 h1 x q
theorem iM.nice{h:AH}{v:AV}{L:List Pr}(r:iM h v L):bp h (Z v)=J:=by
 rcases r with⟨_,rfl⟩|⟨B,ps,rfl,h1,h2,_,g,_,hp⟩
 ·rfl
 ·have e1:Nat.blt B h.next=J:=by simp_all
  have e2:=Li (Nat.le_of_lt h2) hp
  grind [bp,lN,ids]
theorem iM.ids{h:AH}{v:AV}{L:List Pr}(r:iM h v L):∀y∈AM.ids v,1<=y/\y<h.next:=λy hy=>by
 rcases r with⟨_,rfl⟩|⟨B,ps,rfl,h1,h2,_,g,_,hp⟩<;>grind [AM.ids]
theorem iM.to{h h':AH}{v:AV}{L:List Pr}{m:Nat}(r:iM h v L)(hm:∀y∈AM.ids v,y<m)(hn:m<=h'.next)(g:∀y,1<=y->y<m->h'.get y=h.get y):iM h' v L:=by
 rcases r with q|⟨B,ps,rfl,h1,h2,h3,gB,e,hp⟩
 ·exact .inl q
 ·have hB:B<m:=by grind [AM.ids]
  exact .inr ⟨B,ps,rfl,h1,om,h3,Gr,e,λp hp'=>Rep.to (ij _) (ij _) (λb b1 b2 cs rw gb=>⟨rw,Gr⟩) (ij _) (hp p hp')⟩
theorem bRU{ps:List (AV×AV)}{L:List Pr}(e:ps.map (·.2)=Pr.aG L):ps.length=L.length*4:=by
 have:=congrArg List.length e
 grind [pj]
theorem aCC{E:Env}{s:St}{K:St->Prop}{r:List aW}{dst:Option Nat}{a d c m:Nat}{v:AV}{L:List Pr}{q:Pr}{ps:List (AV×AV)}(hr:iM s.h v L)(hm:∀y∈ids v,y<m)(hm1:1<=m)(gc:s.h.get c=Z (.cells (ps.map (·.1)) J))(hc:c<s.h.next)(e:ps.map (·.2)=q.cells)(hp:∀p∈ps,Rep s.h m s.h.next 1 p.1 p.2)
  (hok:cW (L.length+1) 56=J) (ha:s.eval (.t a)=Z v) (hx:s.eval (.t d)=Z (.own c 0 1 4 (Z 1)))
  (kk:∀h',iM h' (.own s.h.next 0 (L.length+1) 4 Y) (L++[q])->h'.next=s.h.next+1->(∀y,y<s.h.next->y∉ids v->h'.get y=s.h.get y)->(ak s.h->ak h')->AM.wpOps E r ((s.toH h').put dst (.own s.h.next 0 (L.length+1) 4 Y)) K):AM.wpOps E (⟨dst,Y,.append 4 56 (.t a) (.t d)⟩::r) s K:=by
 have l4:(ps.map (·.1)).length=1*4:=by
  have:=congrArg List.length e;rw[List.length_map,q.len] at this
  grind
 have he:au s.h 4 (.own c 0 1 4 (Z 1))=Z (ps.map (·.1),1):=kl gc l4;rcases id hr with⟨rfl,rfl⟩|⟨B,qs,rfl,h1,h2,h3,gB,eB,hq⟩
 ·have ea:bN s 4 56 (.t a) (.t d)=Z (.own s.h.next 0 (0+1) 4 Y,s.toH (s.h.alloc (.cells (ps.map (·.1)) J))):=by
   have hok:cW 1 56=J:=hok;simp only[bN,show Nat.beq 1 0=U from rfl,cond_false,cond_true,Nat.zero_add, *];rfl
  rw[tX,ea];refine kk (s.h.alloc (.cells (ps.map (·.1)) J)) (.inr ⟨s.h.next,ps,rfl,?_,je _,Gr,co,?_,λp hp'=>?_⟩) rfl (λy hy _=>am hy) (λnt=>nt.alloc)
  ·grind
  ·grind [Pr.aG]
  ·exact Rep.to om (ij _) (λb b1 b2 cs rw gb=>⟨rw,by grind [am]⟩) (ij _) (hp p hp')
 ·have hBm:B<m:=by simp_all [ids]
  have lq:=bRU eB;rw[aCE ha hx gB he de Gr hok];have nB:∀y,y≠B->y<s.h.next->((s.h.put B Y).alloc (.cells (qs.map (·.1)++ps.map (·.1)) J)).get y=s.h.get y:=λy hy hn=>by
   exact(am (h:=s.h.put B Y) hn).trans (bc hy)
  refine kk _ (.inr ⟨s.h.next,qs++ps,Gr,om,je _,Gr,?_,?_,λp hp'=>?_⟩) rfl (λy hy hv=>nB y (λe=>hv (by grind [ids])) hy) (λnt=>nt.drop.alloc)
  ·rw[List.map_append];exact co (h:=s.h.put B Y)
  ·grind [pl]
  ·rcases jv.1 hp' with hp'|hp'
   ·exact Rep.to (ij _) om (λb b1 b2 cs rw gb=>⟨rw,Gr⟩) (ij _) (hq p hp')
   ·exact Rep.to om (ij _) (λb b1 b2 cs rw gb=>⟨rw,Gr⟩) (ij _) (hp p hp')
theorem Evr.aQ(Vx:Evr):aQ Vx.cells=[]:=by
 show ids _++(ids _++(ids _++[]))=[]
 grind [Vl.ids]
structure ClH (s:St) (Vx:Evr) (w:Vl Pr) (C:Nat) (a b:Pr):Prop where
 nt:ak s.h
 n:C+2<=s.h.next
 c:0<C
 g0:s.h.get 0=Z (.cells Vx.cells J)
 gC:s.h.get C=Z (.cells a.cells J)
 gD:s.h.get (C+1)=Z (.cells b.cells J)
 t1:s.eval (.t 1)=Z (w.A Pr.cells)
 t2:s.eval (.t 2)=Z (.ptr 0 0)
 t8:s.eval (.t 8)=Z (.ptr C 0)
 t9:s.eval (.t 9)=Z (.ptr (C+1) 0)
 d:s.defers=[]
theorem yQ{Vx:Evr}(hV:EvB Vx){w:Vl Pr}{a b:Pr}(ha:ApP Vx a)(hb:ApP Vx b)(hl:a.ks.length=b.ks.length){C:Nat}:∀(ra rb:List Pr) (i:Nat) (same:List Pr) (v:AV) (m:Bool) (s:St),a.ks.drop i=ra->b.ks.drop i=rb->i<=a.ks.length->ClH s Vx w C a b->same.length=i->aV s.h (C+2) i 4 v (Pr.aG same)->
  (m=J->∀q∈same,∃x∈a.ks,∃y∈b.ks,EqP Vx x y q/\aP (ofS Vx x).1 (ofS Vx y).1=J)->
  s.eval (.t 10)=Z v->s.eval (.t 11)=Z (Vb m)->s.eval (.t 12)=Z (vI (i:Nat))->
  Run E1 Tw s λe' s'=>e'=.exit 4/\ClH s' Vx w C a b/\(∀j,j<10->s'.eval (.t j)=s.eval (.t j))/\(∀y,y<C+2->s'.h.get y=s.h.get y)/\∃same' v' m',s'.eval (.t 10)=Z v'/\s'.eval (.t 11)=Z (Vb m')/\aV s'.h (C+2) same'.length 4 v' (Pr.aG same')/\same'.length=a.ks.length/\
   Pr.aI same'<=Pr.aI same+Pr.aI ra+Pr.aI rb+ra.length/\(m'=J->∀q∈same',∃x∈a.ks,∃y∈b.ks,EqP Vx x y q/\aP (ofS Vx x).1 (ofS Vx y).1=J)
 | [],rb,i,same,v,m,s,hda,hdb,hi,H,ho,rv,hm,u10,u11,u12=>by
  have hl':=ca hda hi;subst hl';obtain⟨nt,n,c,g0,gC,gD,u1,u2,u8,u9,hd⟩:=id H;have a3:=U387;apply az (rfl:Tw=.loop rQ);simp only[rQ,V,u8,u10,u11,u12,gC,tE,seval];refine⟨⟨nt,n,c,g0,gC,gD,?_,?_,?_,?_,?_⟩,λj hj=>?_,λy hy=>trivial,same,v,m,rfl,rfl,Gr,ho,om,hm⟩
  all_goals try simp only[V,↓reduceIte,rA,u1,u2,u8,u9,hd]
  grind
 |x::ra,[],i,same,v,m,s,hda,hdb,hi,H,ho,rv,hm,u10,u11,u12=>by
  grind [List.drop_eq_nil_iff]
 |x::ra,y::rb,i,same,v,m,s,hda,hdb,hi,H,ho,rv,hm,u10,u11,u12=>by
  have hla:=cz hda;have hlt:=rj hla;have w1:IntKind.i64.wrap ((i:Int)+1)=((i+1:Nat):Int):=sP (n:=i+1) (by have:=ha.w.n;have e1:a.nodes=1+Pr.aI a.ks:=(by cases a;rfl);grind [rl])
  obtain⟨nt,n,c,g0,gC,gD,u1,u2,u8,u9,hd⟩:=id H;have a3:=U387;have b3:cfB (Z (.cells b.cells J)) 3=Z [b.kids]:=by rw[Pr.bS];rfl
  have v0:=U388;have tV:=U385;have mx:x∈a.ks:=by grind [ip]
  have my:y∈b.ks:=by grind [ip]
  have wx:=ha.w.kid x mx;have wy:=hb.w.kid y my;have hix:=sY hda;have hiy:=sY hdb;have hcx:∀h,aE E1 (.f 88) [.agg Vx.cells,x.av] h (.tup [vS ((ofS Vx x).1),vI ((ofS Vx x).2)]) h:=tf Vx hV x (by have:=wx.n;omega)
  have hcy:∀h,aE E1 (.f 88) [.agg Vx.cells,y.av] h (.tup [vS ((ofS Vx y).1),vI ((ofS Vx y).2)]) h:=tf Vx hV y (by have:=wy.n;omega)
  obtain⟨q,hq,hce⟩:=Ql Vx hV x y (by have:=wx.n;omega)
  have kids0:ids a.kids=[]:=by cases a;exact vk
  have kids1:ids b.kids=[]:=by cases b;exact vk
  have k0:=U389;have kC:=U390;have kD:=U391;have iV:=U392;have iT:∀(z:ByteArray) (o:Int),ids (.tup [vS z,vI o])=[]:=λ_ _=>rfl;have kv:=bz rv.x.nice;have ns:=λz=>(rv.to (h':=s.h.alloc z) (j5 _) λy _ y2=>am y2).x.nice;apply az (rfl:Tw=.loop rQ);simp only[rQ,aWJ,V,u8,u12,gC,hlt,seval];refine pb rfl ?_
  simp only[aWD,X0,X1,X2,X3,X4,V,u2,u8,u12,g0,v0,tV,gC,a3,hix,k0,kC,an kids0,an iV,ge iV,an x.ah,ge x.ah,ee hcx,an (iT _ _),aWI,seval];refine pb rfl ?_
  simp only[aWC,X0,X1,X2,X3,X4,V,u2,u9,u11,u12,g0,v0,tV,gD,b3,hiy,k0,kD,an kids1,an iV,ge iV,an y.ah,ge y.ah,ee hcy,an (iT _ _),aWH,seval];have hm2:(m&&aP (ofS Vx x).1 (ofS Vx y).1)=J->∀q'∈same++[q],∃x∈a.ks,∃y∈b.ks,EqP Vx x y q'/\aP (ofS Vx x).1 (ofS Vx y).1=J:=Gr;cases m with
  |true=>
   simp only[V,seval];refine pb rfl ?_
   simp only[aFR,X0,X1,X2,X3,X4,V,WF,u2,u8,u9,u10,u12,g0,v0,tV,gC,a3,hix,gD,b3,hiy,k0,kC,kD,kv,ns,an kids0,an kids1,an iV,ge iV,an x.ah,ge x.ah,an y.ah,ge y.ah,ee hce,Pr.av,an q.ah,Pr.bM,sX,seval];refine sk (k:=i) (m:=1) (lo:=C+2) (v:=v) (x:=.own s.h.next 0 1 4 (Z 1)) (cs:=Pr.aG same) (new:=q.cells) ?_ ?_ ?_ de (by rw[q.len]) q.leaves (lR (by have:=ha.w.n;have e1:a.nodes=1+Pr.aI a.ks:=(by cases a;rfl);grind [rl]) de) ?_ ?_ ?_
   ·exact U46
   ·simp[V];omega
   ·refine kl (rw':=J) ?_ (by rw[q.len])
    simp[V]
   ·simp[V]
   ·simp[V]
   intro h2 rv2 n2 o2 t2 gn2;simp[V] at rv2 n2 o2 t2 gn2;have nt2:=t2 nt.alloc;have fr:∀z,z<C+2->h2.get z=s.h.get z:=λz hz=>by
    exact U127
   have kO:=bz rv2.x.nice;simp only[X0,X3,V,u12,w1,seval];refine(yQ (w:=w) hV ha hb hl ra rb (i+1) (same++[q]) (.own (s.h.next+1) 0 (i+1) 4 Y) (J&&aP (ofS Vx x).1 (ofS Vx y).1) _ (ba hda) (ba hdb) om ⟨?_,?_,c,?_,?_,?_,?_,?_,?_,?_,?_⟩ Gr ?_ hm2 ?_ ?_ ?_).mono ?_
   all_goals try simp only[V,↓reduceIte,rA,u1,u2,u8,u9,hd]
   ·grind
   ·omega
   ·grind
   ·grind
   ·grind
   ·grind [pl]
   exact U145
  |false=>
   simp only[V,seval];refine pb rfl ?_
   simp only[aFR,X0,X1,X2,X3,X4,V,WF,u2,u8,u9,u10,u12,g0,v0,tV,gC,a3,hix,gD,b3,hiy,k0,kC,kD,kv,ns,an kids0,an kids1,an iV,ge iV,an x.ah,ge x.ah,an y.ah,ge y.ah,ee hce,Pr.av,an q.ah,Pr.bM,sX,seval];refine sk (k:=i) (m:=1) (lo:=C+2) (v:=v) (x:=.own s.h.next 0 1 4 (Z 1)) (cs:=Pr.aG same) (new:=q.cells) ?_ ?_ ?_ de (by rw[q.len]) q.leaves (lR (by have:=ha.w.n;have e1:a.nodes=1+Pr.aI a.ks:=(by cases a;rfl);grind [rl]) de) ?_ ?_ ?_
   ·exact U46
   ·simp[V];omega
   ·refine kl (rw':=J) ?_ (by rw[q.len])
    simp[V]
   ·simp[V]
   ·simp[V]
   intro h2 rv2 n2 o2 t2 gn2;simp[V] at rv2 n2 o2 t2 gn2;have nt2:=t2 nt.alloc;have fr:∀z,z<C+2->h2.get z=s.h.get z:=λz hz=>by
    exact U127
   have kO:=bz rv2.x.nice;simp only[X0,X3,V,u12,w1,seval];refine(yQ (w:=w) hV ha hb hl ra rb (i+1) (same++[q]) (.own (s.h.next+1) 0 (i+1) 4 Y) (U&&aP (ofS Vx x).1 (ofS Vx y).1) _ (ba hda) (ba hdb) om ⟨?_,?_,c,?_,?_,?_,?_,?_,?_,?_,?_⟩ Gr ?_ hm2 ?_ ?_ ?_).mono ?_
   all_goals try simp only[V,↓reduceIte,rA,u1,u2,u8,u9,hd]
   ·grind
   ·omega
   ·grind
   ·grind
   ·grind
   ·grind [pl]
   exact U145
theorem aEO{x y:Pr}:(impP x y).cells=[vI 17,vS ⟨#[]⟩,vI 0,.imm (x.cells++y.cells) 2 (Z 2)]:=by
 show [vI 17,vS ⟨#[]⟩,vI 0,AV.imm (x.cells++(y.cells++[])) 2 (Z 2)]=_
 grind
theorem Zv{G:AH}{vo:AV}{out:List Pr}{x y:Pr}{m:Nat}(ro:iM G vo out)(hm:∀z∈ids vo,z<m)(hn:m<=G.next)(h1:1<=m):
  aN (G.alloc (.cells (x.cells++y.cells) J)) (Z (.agg [vI 17,vS ⟨#[]⟩,vI 0,.own G.next 0 2 4 (Z 2)]))=J/\
  aN ((G.alloc (.cells (x.cells++y.cells) J)).alloc (.cells [vI 17,vS ⟨#[]⟩,vI 0,.own G.next 0 2 4 (Z 2)] J)) (Z (.own (G.next+1) 0 1 4 (Z 1)))=J/\
  bp ((G.alloc (.cells (x.cells++y.cells) J)).alloc (.cells [vI 17,vS ⟨#[]⟩,vI 0,.own G.next 0 2 4 (Z 2)] J)) (Z vo)=J/\
  iM ((G.alloc (.cells (x.cells++y.cells) J)).alloc (.cells [vI 17,vS ⟨#[]⟩,vI 0,.own G.next 0 2 4 (Z 2)] J)) vo out/\
  ∃ps:List (AV×AV),ps.map (·.1)=[vI 17,vS ⟨#[]⟩,vI 0,.own G.next 0 2 4 (Z 2)]/\ps.map (·.2)=(impP x y).cells/\∀p∈ps,Rep ((G.alloc (.cells (x.cells++y.cells) J)).alloc (.cells [vI 17,vS ⟨#[]⟩,vI 0,.own G.next 0 2 4 (Z 2)] J)) m (G.next+2) 1 p.1 p.2:=by
 have cab:x.cells++y.cells=Pr.aG [x,y]:=by grind [Pr.aG]
 have rp:iM ((G.alloc (.cells (x.cells++y.cells) J)).alloc (.cells [vI 17,vS ⟨#[]⟩,vI 0,.own G.next 0 2 4 (Z 2)] J)) vo out:=ro.to (m:=m) hm (by show m<=G.next+1+1;omega) λz z1 z2=>by
  rw[am (show z<G.next+1 by omega),am om]
 have g1:((G.alloc (.cells (x.cells++y.cells) J)).alloc (.cells [vI 17,vS ⟨#[]⟩,vI 0,.own G.next 0 2 4 (Z 2)] J)).get G.next=Z (.cells (x.cells++y.cells) J):=by
  rw[am (show G.next<G.next+1 by omega)]
  exact co
 refine⟨?_,?_,rp.nice,rp,[(vI 17,vI 17),(vS ⟨#[]⟩,vS ⟨#[]⟩),(vI 0,vI 0),(.own G.next 0 2 4 (Z 2),.imm (x.cells++y.cells) 2 (Z 2))],rfl,aEO.symm,λp hp=>?_⟩
 ·have:=yN (h:=G) (cs:=x.cells++y.cells) (rw:=J) (o:=0) (n:=2) (e:=4) (c:=Z 2) (by grind [ms,Pr.bM])
  exact this
 ·have:=rg (h:=(G.alloc (.cells (x.cells++y.cells) J)).alloc (.cells [vI 17,vS ⟨#[]⟩,vI 0,.own G.next 0 2 4 (Z 2)] J)) (b:=G.next+1) (o:=0) (je _) (co (h:=G.alloc (.cells (x.cells++y.cells) J))) (by
   show(Nat.blt G.next (G.next+1+1)&&J)=J;rw[Nat.blt_eq.mpr om];rfl)
  exact this
 ·simp[jd] at hp;rcases hp with rfl|rfl|rfl|rfl
  ·exact U183
  ·exact U183
  ·exact U183
  ·have rx:bn ((G.alloc (.cells (x.cells++y.cells) J)).alloc (.cells [vI 17,vS ⟨#[]⟩,vI 0,.own G.next 0 2 4 (Z 2)] J)) m 2 4 (.own G.next 0 2 4 (Z 2)) (x.cells++y.cells):=by
    rw[cab] at g1⊢
    exact bn.made (k:=2) sO (pj [x,y]) hn (show G.next<G.next+1+1 by omega) g1
   exact rx.rep
theorem aFS{Vx:Evr}(hV:EvB Vx){w:Vl Pr}{a b:Pr}(ha:ApP Vx a)(hb:ApP Vx b){C:Nat}{s:St}(H:ClH s Vx w C a b){vo v:AV}{out same:List Pr}(ro:iM s.h vo out)(hvo:∀y∈ids vo,y<C)(rv:aV s.h (C+2) same.length 4 v (Pr.aG same))(hsl:same.length<2^20)(hsn:∀p∈same,p.nodes<2^30)(hst:Pr.aI same<2^60)(hol:out.length<2^29)
  (u5:s.eval (.t 5)=Z vo) (u10:s.eval (.t 10)=Z v):Run E1 aWG s λe' s'=>e'=.normal/\s'.defers=[]/\ak s'.h/\s.h.next<=s'.h.next/\(∀j,j<8->j≠5->s'.eval (.t j)=s.eval (.t j))/\s'.h.get 0=Z (.cells Vx.cells J)/\∃q vo',EqP Vx a b q/\s'.eval (.t 5)=Z vo'/\iM s'.h vo' (out++[impP (bw same) q]):=by
 obtain⟨nt,n,c,g0,gC,gD,u1,u2,u8,u9,hd⟩:=id H;have v0:=U388;have tV:=U385;have ta:=U383;have tb:=U384;have iV:=U392;obtain⟨q,hq,hce⟩:=Ql Vx hV a b (by have:=ha.w.n;omega)
 have kvo:=bz ro.nice;have p1:∀z0 z1 z2 z3 z4 z5 z6 z7:AV,dV [z0,z1,z2,z3,z4,z5,z6,z7] 0 4 (bw same).cells=Z ((bw same).cells++[z4,z5,z6,z7]):=by grind [Hz,Pr.len]
 have p2:∀z4 z5 z6 z7:AV,dV ((bw same).cells++[z4,z5,z6,z7]) 4 4 q.cells=Z ((bw same).cells++q.cells):=by grind [Hy,Pr.len]
 have ic:aQ ((bw same).cells++q.cells)=[]:=by grind [ms,Pr.bM]
 have pA:∀z0 z1 z2 z3 w0 w1 w2 w3:AV,dV [z0,z1,z2,z3] 0 4 [w0,w1,w2,w3]=Z [w0,w1,w2,w3]:=λ_ _ _ _ _ _ _ _=>rfl;rcases id rv with⟨lf,hlen,⟨e0,rfl⟩|⟨B,B1,B2,B3,rfl,gB⟩⟩
 ·have es:same=[]:=by grind
  have hand:∀h,aE E1 (.f 31) [.val (.slice Y 0 0)] h (bw same).av h:=λh=>by
   have:=uP ⟨same,ai,Y⟩ Gr hsn hst h;rw[es] at this⊢
   exact this
  have k0:=U389;have kC:=U390;have kD:=U391;have inil:ids (.val (.slice Y 0 0))=[]:=rfl;refine pb rfl ?_
  simp only[aFQ,X0,X1,X2,X3,X4,V,WF,u2,u5,u8,u9,u10,g0,v0,tV,gC,gD,ta,tb,k0,kC,kD,kvo,an inil,ge inil,an iV,ge iV,an a.ah,ge a.ah,an b.ah,ge b.ah,ee hand,ee hce,Pr.av,an (bw same).ah,an q.ah,p1,p2,pA,ic,seval];obtain⟨x1,x2,x3,x4,ps,y1,y2,y3⟩:=Zv (x:=bw same) (y:=q) ro (m:=C+2) (λz hz=>by grind) om om
  refine⟨x1,x2,x3,?_⟩;refine aCC (c:=s.h.next+1) (m:=C+2) (v:=vo) (L:=out) (q:=impP (bw same) q) (ps:=ps) ?_ (λz hz=>by grind) om ?_ ?_ y2 ?_ (lR om de) ?_ ?_ ?_
  all_goals try simp only[V,↓reduceIte,rA]
  ·exact x4
  ·rw[y1]
  ·omega
  ·exact y3
  intro h2 rp n2 o2 t2;have kO:=bz rp.nice;simp only[X0,X3,V,hd];refine⟨t2 nt.alloc.alloc,om,λj hj hj5=>?_,?_,q,_,hq,rfl,rp⟩
  ·repeat rw[if_neg om]
  ·rw[o2 0 om (λq=>by have:=(ro.ids 0 q).1;omega)]
   grind
 ·obtain⟨w',hw',hl'⟩:=vE (h:=s.h) (lo:=C+2) (es:=4) (v:=.own B 0 same.length 4 Y) (l:=same) (f:=Pr.cells) (by rw[<-Pr.bG];exact rv.x)
  rw[<-Pr.bG] at hw';have hand:∀h,aE E1 (.f 31) ([]++iA (.own B 0 same.length 4 Y) same.length (Pr.aG same)::[]) h (bw same).av h:=by grind [uP]
  have k0:=U389;have kB:aN s.h (Z (.own B 0 same.length 4 Y))=J:=bz rv.x.nice;refine pb rfl ?_
  simp only[aFQ,X0,X1,X2,X3,X4,V,seval, *];refine rY (sK (j:=114) de (v:=.own B 0 same.length 4 Y) (by simp[V]) (λe=>by cases e)) ?_
  refine vm (xs:=[]) (ys:=[]) (w:=.own B 0 same.length 4 Y) (lo:=C+2) (k:=same.length) (es:=4) (cs:=Pr.aG same) (t:=(bw same).av) (by simpa-implicitDefEqProofs only[V,↓reduceIte,rA,rB,rC,reduceCtorEq,rD,rE,rF] using rv.x) (eJ (g:=31) rf) (λv hv=>by cases hv) (λv hv=>by cases hv) ?_ (by simpa-implicitDefEqProofs only[V,↓reduceIte,rA,rB,rC,reduceCtorEq,rD,rE,rF] using nt) (aj.imm _ _ _).tree hand ?_ ?_
  ·simp[X3,V]
  ·simp[X3,X4]
  intro h' n' g' nt';simp[V] at n' g' nt';have lo:∀z,z<C+2->h'.get z=s.h.get z:=by grind [ids]
  have g0':h'.get 0=Z (.cells Vx.cells J):=Gr;have gC':h'.get C=Z (.cells a.cells J):=Gr;have gD':h'.get (C+1)=Z (.cells b.cells J):=Gr;have k0':∀o,aN h' (Z (.ptr 0 o))=J:=λo=>bm om g0' Vx.aQ;have kC':∀o,aN h' (Z (.ptr C o))=J:=λo=>bm om gC' a.bM;have kD':∀o,aN h' (Z (.ptr (C+1) o))=J:=λo=>bm om gD' b.bM;have ro':iM h' vo out:=ro.to (m:=C+2) (λz hz=>by grind) om λz _ z2=>lo z z2
  have nB0:¬0=B:=om;have nB1:¬C=B:=om;have nB2:¬C+1=B:=om;have nN:∀z,z<s.h.next->¬(s.h.next<=z/\z<s.h.next):=Gr;simp only[X0,X1,X2,X3,X4,V,WF,u2,u8,u9,g0',v0,tV,gC',gD',ta,tb,k0',kC',kD',an iV,ge iV,an a.ah,ge a.ah,an b.ah,ge b.ah,ee hce,Pr.av,an (bw same).ah,an q.ah,p1,p2,pA,ic,seval];obtain⟨x1,x2,x3,x4,ps,y1,y2,y3⟩:=Zv (x:=bw same) (y:=q) ro' (m:=C+2) (λz hz=>by grind) om om
  refine⟨⟨om,om⟩,⟨om,om⟩,⟨om,om⟩,x1,⟨bz x3,x2⟩,x3,?_⟩;refine aCC (c:=h'.next+1) (m:=C+2) (v:=vo) (L:=out) (q:=impP (bw same) q) (ps:=ps) ?_ (λz hz=>by grind) om ?_ ?_ y2 ?_ (lR om de) ?_ ?_ ?_
  all_goals try simp only[V,↓reduceIte,rA]
  ·exact x4
  ·rw[y1]
  ·omega
  ·exact y3
  intro h2 rp n2 o2 t2;have kO:=bz rp.nice;simp only[X0,X3,V,hd];refine⟨t2 nt'.alloc.alloc,om,λj hj hj5=>?_,?_,q,_,hq,rfl,rp⟩
  ·repeat rw[if_neg om]
  ·rw[o2 0 om (λq=>by have:=(ro'.ids 0 q).1;omega)]
   grind
structure ClG (s:St) (Vx:Evr) (w:Vl Pr) (i:Nat):Prop where
 nt:ak s.h
 n:1<=s.h.next
 g0:s.h.get 0=Z (.cells Vx.cells J)
 t1:s.eval (.t 1)=Z (w.A Pr.cells)
 t2:s.eval (.t 2)=Z (.ptr 0 0)
 t6:s.eval (.t 6)=Z (vI (i:Nat))
 d:s.defers=[]
structure ClR (Vx:Evr) (h:AH) (vo:AV) (out:List Pr) (m:Nat):Prop where
 r:iM h vo out
 b:∀c∈out,bdT Vx c/\c.nodes<=2400
 m:Pr.aI out<=m
theorem Kb{Vx:Evr}(hV:EvB Vx){w:Vl Pr}(hw:w.l.length<=400){a:Pr}{ra:List Pr}{i:Nat}(hai:w.l.drop i=a::ra)(ha:ApP Vx a):∀(r:List Pr) (j:Nat) (out:List Pr) (vo:AV) (M:Nat) (s:St),w.l.drop j=r->j<=w.l.length->(∀x∈r,ApP Vx x)->ClG s Vx w i->ClR Vx s.h vo out M->M+(4*a.nodes*r.length+2*Pr.aI r)<2^28->
  s.eval (.t 5)=Z vo->s.eval (.t 7)=Z (vI (j:Nat))->
  Run E1 rO s λe' s'=>e'=.exit 2/\ClG s' Vx w i/\∃out' vo',s'.eval (.t 5)=Z vo'/\ClR Vx s'.h vo' out' (M+(4*a.nodes*r.length+2*Pr.aI r))
 | [],j,out,vo,M,s,hd,hj,hr,H,R,hM,u5,u7=>by
  have hl':=ca hd hj;subst hl';obtain⟨nt,n,g0,u1,u2,u6,hf⟩:=id H;apply az (rfl:rO=.loop qg);simp only[qg,V,tE,seval, *];refine⟨⟨nt,n,g0,?_,?_,?_,?_⟩,out,vo,rfl,R.r,R.b,by have:=R.m;omega⟩
  all_goals try simp[V, *]
 |b::r,j,out,vo,M,s,hd,hj,hr,H,R,hM,u5,u7=>by
  have hlj:=cz hd;have hltj:=rj hlj;have hb:=hr b ip;have w1:=U323;obtain⟨nt,n,g0,u1,u2,u6,hf⟩:=id H;have iw:=U379;have hixa:=w.at Pr.len hai;have hixb:=w.at Pr.len hd;have a0:∀p:Pr,cfB (Z (.cells p.cells J)) 0=Z p.cells:=λp=>by rfl
  have a1:∀p:Pr,cfB (Z (.cells p.cells J)) 1=Z [vS p.nm,vI p.n,p.kids]:=λp=>by rw[Pr.bS];rfl
  have a3:∀p:Pr,cfB (Z (.cells p.cells J)) 3=Z [p.kids]:=λp=>by rw[Pr.bS];rfl
  have t0:∀p:Pr,takeN Y p.cells=Z (vI p.op):=λp=>by rw[Pr.bS];rfl
  have tp:∀p:Pr,takeN (Z 4) p.cells=Z p.av:=λp=>cf p.len;have oa:decide (a.op=4)=J:=decide_eq_true ha.o;have ob:decide (b.op=4)=J:=decide_eq_true hb.o;have z4:=U260;have nn:¬s.h.next=s.h.next+1:=om;have nn2:¬s.h.next+1=s.h.next:=om;have iz:aQ [AV.val (.int .i64 0),vS ⟨#[]⟩,vI 0,.val (.slice Y 0 0)]=[]:=rfl;obtain⟨G,hG⟩:∃G,(((s.h.alloc (.cells [AV.val (.int .i64 0),vS ⟨#[]⟩,vI 0,.val (.slice Y 0 0)] J)).alloc (.cells [AV.val (.int .i64 0),vS ⟨#[]⟩,vI 0,.val (.slice Y 0 0)] J)).put s.h.next (Z (.cells a.cells J))).put (s.h.next+1) (Z (.cells b.cells J))=G:=⟨_,rfl⟩;have Gn:G.next=s.h.next+2:=by rw[<-hG];rfl
  have Gt:ak G:=by rw[<-hG];exact nt.alloc.alloc.put.put
  have GC:G.get s.h.next=Z (.cells a.cells J):=by grind [bc,lA]
  have GD:G.get (s.h.next+1)=Z (.cells b.cells J):=by grind [lA]
  have Gl:∀y,y<s.h.next->G.get y=s.h.get y:=λy hy=>by rw[<-hG,bc om,bc om,am (show y<s.h.next+1 by omega),am hy]
  have RG:iM G vo out:=R.r.to (m:=s.h.next) (λy hy=>(R.r.ids y hy).2) om λy _ hy=>Gl y hy;have enL:Pr.aI (b::r)=b.nodes+Pr.aI r:=rfl;have e4:4*a.nodes*(b::r).length=4*a.nodes*r.length+4*a.nodes:=by rfl
  rw[enL,e4] at hM;have next:∀(s2:St) (out2:List Pr) (vo2:AV),ClG s2 Vx w i->ClR Vx s2.h vo2 out2 (M+(4*a.nodes+2*b.nodes))->s2.eval (.t 5)=Z vo2->s2.eval (.t 7)=Z (vI ((j+1:Nat):Int))->Run E1 rO s2 λe' s'=>e'=.exit 2/\ClG s' Vx w i/\∃out' vo',s'.eval (.t 5)=Z vo'/\ClR Vx s'.h vo' out' (M+(4*a.nodes*(b::r).length+2*Pr.aI (b::r))):=λs2 out2 vo2 h1 h2 h3 h4=>by
   refine(Kb hV hw hai ha r (j+1) out2 vo2 (M+(4*a.nodes+2*b.nodes)) s2 (ba hd) om (λx hx=>hr x (iy _ hx)) h1 h2 om h3 h4).mono ?_
   rintro e' s' ⟨q1,q2,out',vo',q3,q4⟩;exact⟨q1,q2,out',vo',q3,q4.r,q4.b,by have:=q4.m;grind⟩
  have R2:ClR Vx G vo out (M+(4*a.nodes+2*b.nodes)):=⟨RG,R.b,by have:=R.m;omega⟩
  apply az (rfl:rO=.loop qg);simp only[qg,aWK,V,u1,u7,hltj,seval];refine pb rfl ?_
  simp only[aWE,X0,X1,X2,X3,X4,V,WF,u1,u6,u7,hixa,hixb,an iw,an a.ah,cy z4 (Pr.len _),iz,nn,nn2,hG,not_false_eq_true,a0,t0,GC,GD,oa,seval];simp only[V,GC,GD,ob,seval];cases hs:aP a.nm b.nm with
  |false=>
   simp only[V,WF,u7,w1,seval];exact U146
  |true=>
   simp only[V,GC,GD,seval]
   by_cases hl:a.ks.length=b.ks.length
   ·have dl:decide ((a.ks.length:Int)=(b.ks.length:Nat))=J:=by grind
    simp only[V,dl];refine(yQ (w:=w) (C:=s.h.next) hV ha hb hl a.ks b.ks 0 [] (.val (.slice Y 0 0)) J _ rfl rfl (il _) ⟨?_,?_,?_,?_,?_,?_,?_,?_,?_,?_,?_⟩ rfl ?_ ?_ ?_ ?_ ?_).mono ?_
    all_goals try simp only[V,↓reduceIte,rA,u1,u2,hf]
    ·exact Gt
    ·omega
    ·omega
    ·grind
    ·exact GC
    ·exact GD
    ·exact U375
    ·grind
    ·rfl
    rintro e' s2 ⟨rfl,H2,ev,o2,same,v2,m2,e10,e11,r2,l2,n2,f2⟩;obtain⟨nt2,nn2',c2,g02,gC2,gD2,y1,y2,y8,y9,yd⟩:=id H2;have e5:s2.eval (.t 5)=Z vo:=Gr;have e6:=U275;have e7:s2.eval (.t 7)=Z (vI (j:Nat)):=Gr;have R3:iM s2.h vo out:=RG.to (m:=s.h.next) (λy hy=>(R.r.ids y hy).2) om λy _ hy=>by
     grind
    have ea:a.nodes=1+Pr.aI a.ks:=by cases a;rfl
    have eb:b.nodes=1+Pr.aI b.ks:=by cases b;rfl
    have la:=rl a.ks;have wa:=ha.w.n;have wb:=hb.w.n;rw[Pr.aI] at n2;cases m2 with
    |false=>
     simp only[V,WF,e11,e7,w1,seval];refine next _ out vo ⟨?_,?_,?_,?_,?_,?_,?_⟩ ?_ ?_ ?_
     all_goals try simp only[V,↓reduceIte,rA,y1,y2,e5,e6,yd]
     ·grind
     ·omega
     ·grind
     ·exact⟨R3,R.b,by have:=R.m;omega⟩
    |true=>
     simp only[V,WF,e11];have ol:=rl out;have omq:=R.m;refine(aFS (Vx:=Vx) (w:=w) (a:=a) (b:=b) (C:=s.h.next) (vo:=vo) (v:=v2) (out:=out) (same:=same) hV ha hb ⟨?_,?_,?_,?_,?_,?_,?_,?_,?_,?_,?_⟩ ?_ (λy hy=>(R.r.ids y hy).2) ?_ om (λp hp=>by have:=(sn p hp).1;omega) om om ?_ ?_).mono ?_
     all_goals try simp only[V,↓reduceIte,rA,y1,y2,y8,y9,e5,e10,yd]
     ·grind
     ·grind
     ·exact c2
     ·grind
     ·grind
     ·grind
     ·exact R3
     ·exact r2
     rintro e' s3 ⟨rfl,zd,zt,zn,ev3,z0,q,vo3,hq,z5,rp3⟩;have z1:s3.eval (.t 1)=Z (w.A Pr.cells):=Gr;have z2:s3.eval (.t 2)=Z (.ptr 0 0):=Gr;have z6:s3.eval (.t 6)=Z (vI (i:Nat)):=Gr;have z7:s3.eval (.t 7)=Z (vI (j:Nat)):=Gr;obtain⟨k1,k2⟩:=bLC ha hb hl (f2 rfl) om om hq;simp only[V,z7,w1];refine next _ (out++[impP (bw same) q]) vo3 ⟨?_,?_,?_,?_,?_,?_,?_⟩ ?_ ?_ ?_
     all_goals try simp only[V,↓reduceIte,rA,z1,z2,z5,z6,zd]
     ·exact zt
     ·grind
     ·exact z0
     ·refine⟨rp3,λc hc=>?_,by grind [tz]⟩
      rcases U292 with hc|hc
      ·exact R.b c hc
      grind
   ·have dl:decide ((a.ks.length:Int)=(b.ks.length:Nat))=U:=by grind
    simp only[V,WF,dl,u7,w1,seval];exact U146
theorem Kp:∀{l r:List Pr} {i:Nat},l.drop i=r->Pr.aI r<=Pr.aI l
 |l,r,0,h=>Gr
 | [],r,i+1,h=>Gr
 |a::l,r,i+1,h=>by
  have:=Kp (l:=l) (i:=i) h;have e:Pr.aI (a::l)=a.nodes+Pr.aI l:=rfl;omega
theorem iM.rep{h:AH}{v:AV}{L:List Pr}(r:iM h v L):∃w:Vl Pr,w.l=L/\Rep h 0 h.next 2 v (w.A Pr.cells):=by
 rcases r with⟨rfl,rfl⟩|⟨B,ps,rfl,h1,h2,h3,g,e,hp⟩
 ·exact⟨⟨[],ai,Y⟩,rfl,Rep.leaf (aj.val _)⟩
 ·refine⟨⟨L,Y,Y⟩,rfl,?_⟩;have lp:=bRU e;have e1:(⟨L,Y,Y⟩:Vl Pr).A Pr.cells=.imm (ps.map (·.2)) L.length Y:=by
   rw[e,Pr.bG];rfl
  rw[e1];exact Rep.own (il _) h2 g lp λp hp'=>Rep.to (il _) (Nat.le_of_lt h2) (λb _ _ cs rw gb=>⟨rw,gb⟩) (ij _) (hp p hp')
theorem Ka{Vx:Evr}(hV:EvB Vx){w:Vl Pr}(hw:w.l.length<=400)(hn:Pr.aI w.l<=16000)(hA:∀x∈w.l,ApP Vx x):∀(r:List Pr) (i:Nat) (out:List Pr) (vo:AV) (M:Nat) (s:St),w.l.drop i=r->i<=w.l.length->ClG s Vx w i->ClR Vx s.h vo out M->M+(1600*Pr.aI r+32000*r.length)<2^27->
  s.eval (.t 5)=Z vo->Run E1 Tv s λe' s'=>e'=.exit 0/\s'.defers=[]/\∃out' vo',s'.eval (.t 5)=Z vo'/\ClR Vx s'.h vo' out' (M+(1600*Pr.aI r+32000*r.length))
 | [],i,out,vo,M,s,hd,hj,H,R,hM,u5=>by
  have hl':=ca hd hj;subst hl';obtain⟨nt,n,g0,u1,u2,u6,hf⟩:=id H;apply az (rfl:Tv=.loop qt);simp only[qt,V,tE,seval, *];exact⟨out,vo,rfl,R.r,R.b,by have:=R.m;omega⟩
 |a::r,i,out,vo,M,s,hd,hj,H,R,hM,u5=>by
  have hlj:=cz hd;have hltj:=rj hlj;have ha:=hA a (jp (i:=i) Gr);have w1:=U204;obtain⟨nt,n,g0,u1,u2,u6,hf⟩:=id H;have enL:Pr.aI (a::r)=a.nodes+Pr.aI r:=rfl;have dn:Pr.aI (w.l.drop (i+1))<=16000:=by
   rw[ba hd];have:=Kp hd;omega
  rw[enL,jf] at hM;have dr:=ba hd;have b1:4*a.nodes*r.length<=1600*a.nodes:=by
   have h1:r.length<=400:=by
    grind
   have:=Bg (4*a.nodes) h1;omega
  rw[dr] at dn;apply az (rfl:Tv=.loop qt);simp only[qt,V,u1,u6,hltj,w1,seval];refine(Kb (Vx:=Vx) (w:=w) (i:=i) hV hw hd ha r (i+1) out vo M _ dr om (λx hx=>hA x (jp (i:=i) Gr)) ⟨?_,?_,?_,?_,?_,?_,?_⟩ ?_ om ?_ ?_).mono ?_
  all_goals try simp only[V,↓reduceIte,rA,u1,u2,u5,u6,hf]
  ·exact nt
  ·exact n
  ·exact g0
  ·exact R
  rintro e' s2 ⟨rfl,H2,out2,vo2,e5,R2⟩;obtain⟨nt2,n2,g02,y1,y2,y6,yf⟩:=id H2;simp only[V,WF,y6,w1];refine(Ka (Vx:=Vx) (w:=w) hV hw hn hA r (i+1) out2 vo2 (M+(4*a.nodes*r.length+2*Pr.aI r)) _ dr om ⟨?_,?_,?_,?_,?_,?_,?_⟩ ?_ om ?_).mono ?_
  all_goals try simp only[V,↓reduceIte,rA,y1,y2,e5,yf]
  ·grind
  ·exact n2
  ·grind
  ·exact R2
  rintro e' s3 ⟨rfl,x1,out3,vo3,x2,x3⟩;exact⟨rfl,x1,out3,vo3,x2,x3.r,x3.b,by have:=x3.m;grind⟩
theorem Kt{Vx:Evr}(hV:EvB Vx)(w:Vl Pr)(hw:w.l.length<=400)(hn:Pr.aI w.l<=16000)(hA:∀x∈w.l,ApP Vx x):∃q:Vl Pr,(∀c∈q.l,bdT Vx c/\c.nodes<=2400)/\Pr.aI q.l<=40000000/\∀h,aE E1 (.f 63) [.agg Vx.cells,w.A Pr.cells] h (q.A Pr.cells) h:=by
 obtain⟨t,⟨q,rfl,h1,h2⟩,hr⟩:=tI (g:=63) (l:=[.agg Vx.cells,w.A Pr.cells]) (P:=λt=>∃q:Vl Pr,t=q.A Pr.cells/\(∀c∈q.l,bdT Vx c/\c.nodes<=2400)/\Pr.aI q.l<=40000000) rf bMI (sE (Tree.agg λc hc=>by
  simp[Evr.cells] at hc;rcases hc with rfl|rfl|rfl<;>exact Vl.leaf) Vl.leaf.tree) λs hs hh hd hr=>by
  have h0:=hs 0 _ rfl;have h1:=hs 1 _ rfl;simp[aWF,f63,V, *];refine(Ka (Vx:=Vx) (w:=w) hV hw hn hA w.l 0 [] (.val (.slice Y 0 0)) 0 _ rfl (il _) ⟨?_,?_,?_,?_,?_,?_,?_⟩ ?_ om ?_).mono ?_
  all_goals try simp only[V,↓reduceIte,rA,h1,hd]
  ·exact ak.empty.alloc
  ·grind
  ·rfl
  ·exact⟨.inl ⟨rfl,rfl⟩,(λc hc=>by cases hc),ij _⟩
  rintro e' s2 ⟨rfl,d2,out,vo,e5,R⟩;obtain⟨q,hq,rq⟩:=R.r.rep;have ll:w.l.length*32000<=400*32000:=Gr;simp only[V,WF, *];refine⟨_,rfl,_,2,de,rq,q,rfl,by rw[hq];exact R.b,by have:=R.m;grind⟩
 grind
end Go.Proofs.YtmbabhlmdhghdaaGreatDoor
