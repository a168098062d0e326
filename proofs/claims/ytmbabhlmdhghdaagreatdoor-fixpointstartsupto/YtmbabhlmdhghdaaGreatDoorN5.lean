/- VAnd VPand VLawA VSols VStart VSall VSamc VSams VSamt VAmong VRall -/
import Derived.Test.YtmbabhlmdhghdaaGreatDoorN4
set_option linter.all false
open Nat renaming reduceEqDiff->rA, reduceAdd->rB, reduceMul->rC
open Int renaming reduceEq->rD, reduceLT->rE, reduceLE->rF
open Option renaming some->Z, none->Y
open Bool renaming true->J, false->U
open List renaming all_cons->j9, all_eq_true->j3, all_nil->jc, append_nil->jm, cons_append->jj, drop_succ_cons->An, drop_zero->A9, length_cons->jf, length_map->A4, map_cons->jk, mem_cons->jl, mem_cons_of_mem->iy, mem_cons_self->ip, mem_map->js, take_length->Ah, take_succ_cons->Ar
open Nat renaming le_refl->ij, le_succ->j5, zero_le->il
namespace Go.Proofs.YtmbabhlmdhghdaaGreatDoor
open Go Go.AM
set_option maxHeartbeats 4000000
theorem aQD{E:Env}{g:Nat}{v t r:AV}{h:AH}{lo hi n:Nat}(hs:E.shared.get g=Y)(hR:Rep h lo hi n v t)(hn:n<aU)(ht:Tree t)(hf:dg r=J)(hc:∀h,aE E (.f g) [t] h r h):aE E (.f g) [v] h r h:=
 ut (xs:=[]) (ys:=[]) hs (λv hv=>by cases hv) (λv hv=>by cases hv) ht rfl (wn n aU hn v t h _ hR (Fz.refl _)) hf hc
def Pr.pair(a b:Pr):Pr:=.mk 15 ⟨#[]⟩ 0 [a,b] Y (Z 2)
def jH(out:Pr):List Pr->Option Pr
 | []=>Z out
 |p::r=>bif p.same fPr then Y else bif p.eX then jH out r else bif out.eX then jH p r else jH (out.pair p) r
def bw(l:List Pr):Pr:=(jH tPr l).getD fPr
structure HA (h:AH) (n:Nat) (out:Pr):Prop where
 m:2<=h.next
 z:∃z,h.get 0=Z (.cells z J)/\z.length=4
 o:∃ps:List (AV×AV),h.get 1=Z (.cells (ps.map (·.1)) J)/\ps.length=4/\ps.map (·.2)=out.cells/\∀q∈ps,Rep h 2 h.next n q.1 q.2
theorem yI(a b:Pr):(a.pair b).nodes=1+(a.nodes+b.nodes):=by rfl
theorem Hz{z0 z1 z2 z3 z4 z5 z6 z7:AV}:∀{c:List AV},c.length=4->dV [z0,z1,z2,z3,z4,z5,z6,z7] 0 4 c=Z (c++[z4,z5,z6,z7])
 | [_,_,_,_],_=>rfl
theorem Hy{z4 z5 z6 z7:AV}:∀{c d:List AV},c.length=4->d.length=4->dV (c++[z4,z5,z6,z7]) 4 4 d=Z (c++d)
 | [_,_,_,_],[_,_,_,_],_,_=>rfl
theorem Hr{h:AH}{lo hi n:Nat}(p:Pr):∀q∈p.cells.map (λv=>(v,v)),Rep h lo hi (n+1) q.1 q.2:=λq hq=>by
 obtain⟨v,hv,rfl⟩:=js.1 hq;exact Rep.leaf (p.leaves v hv)
theorem bGI:∀l:List AV,(l.map λv=>(v,v)).map (·.1)=l
 | []=>rfl
 |v::l=>by simp only[jk,bGI l]
theorem bGH:∀l:List AV,(l.map λv=>(v,v)).map (·.2)=l
 | []=>rfl
 |v::l=>by simp only[jk,bGH l]
theorem HA.leaf{h:AH}(p:Pr)(m:2<=h.next)(z:∃z,h.get 0=Z (.cells z J)/\z.length=4)(g:h.get 1=Z (.cells p.cells J)):HA h 1 p:=
 ⟨m,z,p.cells.map λv=>(v,v),by rw[bGI,g],by rw[A4,p.len],bGH _,Hr (n:=0) p⟩
theorem HA.pair{h:AH}{n:Nat}{out p:Pr}{ps:List (AV×AV)}(m:2<=h.next)(z:∃z,h.get 0=Z (.cells z J)/\z.length=4)(lp:ps.length=4)(e2:ps.map (·.2)=out.cells)(hq:∀q∈ps,Rep h 2 h.next n q.1 q.2):
  HA ((h.alloc (.cells (ps.map (·.1)++p.cells) J)).put 1 (Z (.cells [vI 15,vS ⟨#[]⟩,vI 0,.own h.next 0 2 4 (Z 2)] J))) (n+2) (out.pair p):=by
 obtain⟨y,gy,ly⟩:=z;have nx:((h.alloc (.cells (ps.map (·.1)++p.cells) J)).put 1 (Z (.cells [vI 15,vS ⟨#[]⟩,vI 0,.own h.next 0 2 4 (Z 2)] J))).next=h.next+1:=rfl;refine⟨Gr,⟨y,by grind [bc,am],ly⟩,[(vI 15,vI 15),(vS ⟨#[]⟩,vS ⟨#[]⟩),(vI 0,vI 0),(.own h.next 0 2 4 (Z 2),.imm (out.cells++p.cells) 2 (Z 2))],lA,rfl,?_,λq hm=>?_⟩
 ·simp[Pr.pair,Pr.cells,Pr.aG,cV]
 ·have leaf:∀v:Value,Rep ((h.alloc (.cells (ps.map (·.1)++p.cells) J)).put 1 (Z (.cells [vI 15,vS ⟨#[]⟩,vI 0,.own h.next 0 2 4 (Z 2)] J))) 2 (h.next+1) (n+2) (.val v) (.val v):=by grind [Rep.leaf,aj.val]
  rw[nx];simp[List.mem_nil_iff] at hm;rcases hm with rfl|rfl|rfl|rfl
  ·grind
  ·grind
  ·grind
  ·have:=Rep.own (h:=(h.alloc (.cells (ps.map (·.1)++p.cells) J)).put 1 (Z (.cells [vI 15,vS ⟨#[]⟩,vI 0,.own h.next 0 2 4 (Z 2)] J))) (lo:=2) (hi:=h.next+1) (n:=n+1) (b:=h.next) (k:=2) (es:=4) (cap:=Z 2) (rw:=J) (ps:=ps++p.cells.map λv=>(v,v)) m om (by
    grind [bc,co,bGI]) (by rw[List.length_append,A4,lp,p.len]) (λq hq'=>by
    rcases List.mem_append.1 hq' with hq'|hq'
    ·exact Rep.to (ij _) (j5 _) (λb b1 b2 cs rw g=>⟨rw,by grind [bc,am]⟩) (j5 _) (hq q hq')
    grind [Hr])
   grind [bGH]
theorem aGI{s:St}{p:Pr}{C:Nat}(hb:p.nodes<2^61)(hC:C<s.h.next)(gC:s.h.get C=Z (.cells p.cells J))(h5:s.eval (.t 5)=Z (.ptr C 0)):
  Run E1 aXW s λe s'=>e=.normal/\s'.h=s.h/\s'.defers=s.defers/\s'.eval (.t 15)=Z (Vb (p.same fPr))/\∀j,j<13->s'.eval (.t j)=s.eval (.t j):=by
 have nC:=U256;have nm:ids p.av=[]:=p.ah;have nf:=U257;refine yo (ops:=aGH) rfl ?_
 simp only[aGH,iC,pf,j9,jc,V,me nm,pv nm,seval, *];exact U114
theorem zR(w:Vl Pr)(hN:w.l.length<2^27):∀(r:List Pr) (i:Nat) (s:St) (out:Pr) (n:Nat),w.l.drop i=r->i<=w.l.length->(∀p∈r,p.nodes<2^30)->out.nodes+Pr.aI r+2*r.length<2^61->HA s.h n out->n+2*r.length<900000000->
  s.eval (.t 2)=Z (.ptr 0 0)->s.eval (.t 3)=Z (.ptr 1 0)->s.eval (.t 7)=Z (w.A Pr.cells)->s.eval (.t 8)=Z (vI (w.l.length:Nat))->s.eval (.t 9)=Z (vI (i:Nat))->s.defers=[]->
  Run E1 Um s λe s'=>s'.defers=[]/\((∃o n',e=.exit 0/\jH out r=Z o/\HA s'.h n' o/\n'<=n+2*r.length/\s'.eval (.t 2)=Z (.ptr 0 0)/\s'.eval (.t 3)=Z (.ptr 1 0))\/(e=.ret/\jH out r=Y/\s'.h.get 0=Z (.cells fPr.cells J)/\s'.eval (.t 2)=Z (.ptr 0 0)))
 | [],i,s,out,n,hd,hi,hp,hB,H,hn,h2,h3,h7,h8,h9,hf=>by
  have hl:=ca hd hi;subst hl;apply az (rfl:Um=.loop qW);simp only[qW,V,tE,seval, *];exact .inl ⟨out,n,rfl,H,om⟩
 |p::r,i,s,out,n,hd,hi,hp,hB,H,hn,h2,h3,h7,h8,h9,hf=>by
  have hl:=cz hd;have hlt:=rj hl;have w1:=U204;have hpn:p.nodes<2^30:=Gr;rw[Pr.aI] at hB;rw[jf] at hB hn;obtain⟨z,gz,lz⟩:=H.z;obtain⟨ps,gc,lp,e2,hR⟩:=H.o;have lc:=U258;have hm:=H.m;have hix:=w.at Pr.len hd;apply az (rfl:Um=.loop qW);simp only[qW,V,WF,seval, *];refine(aGI (p:=p) (C:=s.h.next) om ?_ ?_ ?_).mono ?_
  all_goals try simp only[V]
  ·grind
  rintro e s1 ⟨rfl,eh,d1,t15,k1⟩
  try simp[hf] at eh d1
  have n1:s1.h.next=s.h.next+1:=by simp[*]
  have o1:∀y,y<s.h.next->s1.h.get y=s.h.get y:=by grind [bc,am]
  have g0:s1.h.get 0=Z (.cells z J):=Gr;have g1:s1.h.get 1=Z (.cells (ps.map (·.1)) J):=Gr;have gC:=U259;have hR1:∀q∈ps,Rep s1.h 2 s1.h.next n q.1 q.2:=λq hq=>Rep.to (ij _) om (λb b1 b2 cs rw g=>⟨rw,Gr⟩) (ij _) (hR q hq);have H1:HA s1.h n out:=⟨om,⟨z,g0,lz⟩,ps,g1,lp,e2,hR1⟩;have u2:s1.eval (.t 2)=Z (.ptr 0 0):=Gr;have u3:s1.eval (.t 3)=Z (.ptr 1 0):=Gr;have u5:s1.eval (.t 5)=Z (.ptr s.h.next 0):=Gr;have u7:s1.eval (.t 7)=Z (w.A Pr.cells):=Gr;have u8:s1.eval (.t 8)=Z (vI (w.l.length:Nat)):=Gr;have u9:s1.eval (.t 9)=Z (vI (i:Nat)):=Gr;rw[jH];cases hq:p.same fPr with
  |true=>
   rw[hq] at t15;simp[V,WF,t15,ac wJ,u2,g0,cy lz fPr.len,d1]
  |false=>
   rw[hq] at t15;simp only[V,ac (ug p om), *];cases hv:p.eX with
   |true=>
    simp only[V,WF,seval, *];refine(zR w hN r (i+1) _ out n (ba hd) om (λq hq=>hp q (iy _ hq)) om ?_ om ?_ ?_ ?_ ?_ ?_ ?_).mono ?_
    all_goals try simp only[V,↓reduceIte,rA,u2,u3,u7,u8,d1]
    ·exact H1
    grind
   |false=>
    have hRa:Rep s1.h 2 s1.h.next (n+1) (.agg (ps.map (·.1))) out.av:=by
     grind [Rep.agg]
    have hvo:aE E1 (.f 56) [.agg (ps.map (·.1))] s1.h (Vb out.eX) s1.h:=aQD (eJ (g:=56) rf) hRa (Nat.lt_trans (show n+1<900000000 by omega) de) (Tree.pr out) rfl (ug out om)
    simp only[V,u3,g1,cf lc,seval];refine gt (by simp only[V];exact hvo) ?_
    have e1n:(1=s1.h.next)=False:=Gr;cases ho:out.eX with
    |true=>
     simp only[V,WF,u3,u5,gC,g1,cy lc p.len,u9,w1,seval];refine(zR w hN r (i+1) _ p 1 (ba hd) om (λq hq=>hp q (iy _ hq)) om ?_ om ?_ ?_ ?_ ?_ ?_ ?_).mono ?_
     all_goals try simp only[V,↓reduceIte,rA,u2,u3,u7,u8,d1]
     ·exact HA.leaf p (by show 2<=s1.h.next;omega) ⟨z,by grind [bc],lz⟩ lA
     grind
    |false=>
     simp only[V,WF,u3,u5,gC,g1,cf lc,Hz lc,Hy lc p.len,u9,w1,e1n,cy lc (show([AV.val (.int .i64 15),vS ⟨#[]⟩,vI 0,.own s1.h.next 0 2 4 (Z 2)]).length=4 from rfl),seval];refine(zR w hN r (i+1) _ (out.pair p) (n+2) (ba hd) om (λq hq=>hp q (iy _ hq)) (by grind [yI]) ?_ om ?_ ?_ ?_ ?_ ?_ ?_).mono ?_
     all_goals try simp only[V,↓reduceIte,rA,u2,u3,u7,u8,d1]
     ·exact HA.pair om ⟨z,g0,lz⟩ lp e2 hR1
     grind
theorem aDQ{g:Nat}{l:List AV}{a:ax}{t:AV}(hs:hY g=J)(hf:aR Tryz.prog g=Z a)(hl:∀v∈l,Tree v)
  (H:∀s:St,(∀i v,(bg l 0 .nil).get i=Z v->s.eval (.t i)=Z v)->s.h=.empty->s.defers=[]->s.round=Y->wp E1 a.body s λe s=>(e=.normal\/e=.ret)/\s.defers=[]/\∃r,ay E1.aY s a.res=Z [r]/\∃n,n<aU/\Rep s.h 0 s.h.next n r t) (h:AH):
  aE E1 (.f g) l h t h:=by
 obtain⟨v,h',⟨n,hn,hr⟩,hrun⟩:=yS (g:=g) (l:=l) (h:=.empty) (a:=a) (λv h'=>∃n,n<aU/\Rep h' 0 h'.next n v t) hf λs h1 h2 h3 h4=>(rU _ _ _ (H s h1 h2 h3 h4)).mono λe s' ⟨k1,k2,r,k3,k4⟩=>⟨k1,k2,[r],k3,k4⟩
 grind [Lb,eJ,vH]
theorem uP(w:Vl Pr)(hN:w.l.length<2^27)(hp:∀p∈w.l,p.nodes<2^30)(hB:Pr.aI w.l<2^60)(h:AH):aE E1 (.f 31) [w.A Pr.cells] h (bw w.l).av h:=by
 refine aDQ rf bNG (qr Vl.leaf.tree) (λs hs hh hd hr=>?_) h;have h0:=hs 0 _ rfl;have hz4:=U260;simp[aXV,f31,V,WF,ac tu, *];have hH:HA (((AH.empty.alloc (.cells [AV.val (.int .i64 0),vS ⟨#[]⟩,vI 0,.val (.slice Y 0 0)] J)).alloc (.cells [AV.val (.int .i64 0),vS ⟨#[]⟩,vI 0,.val (.slice Y 0 0)] J)).put 1 (Z (.cells tPr.cells J))) 1 tPr:=
  HA.leaf tPr de ⟨_,rfl,rfl⟩ lA
 refine(zR w hN w.l 0 _ tPr 1 rfl (il _) hp ?_ ?_ ?_ ?_ ?_ ?_ ?_ ?_ ?_).mono ?_
 all_goals try simp only[V,↓reduceIte,rA,hd]
 ·show 1+0+Pr.aI w.l+2*w.l.length<_;omega
 ·exact hH
 ·omega
 ·rfl
 rintro e s1 ⟨d1,⟨o,n',rfl,e2,H,e4,e5,e6⟩|⟨rfl,e2,e3,e0⟩⟩
 ·obtain⟨z,gz,lz⟩:=H.z;obtain⟨ps,gc,lp,e8,hR⟩:=H.o;have lc:=U258;have hm:=H.m;simp only[V,WF,cf lc,cy lz lc,seval, *];have hb:n'+1<aU:=Nat.lt_trans (show n'+1<900000000 by omega) de
  refine⟨_,rfl,n'+1,hb,?_⟩;have:=Rep.agg (h:=s1.h.put 0 (Z (.cells (ps.map (·.1)) J))) (lo:=0) (hi:=s1.h.next) (ps:=ps) (n:=n') λq hq=>Rep.to (il _) (ij _) (λb b1 b2 cs rw g=>⟨rw,by grind [bc]⟩) (ij _) (hR q hq)
  grind [bw]
 ·simp only[V, *];rw[bw,e2];exact U244
theorem bCI{h:AH}{lo hi n:Nat}{v t:AV}(r:Rep h lo hi n v t):∀x∈ids v,lo<=x/\x<hi:=λx hx=>by
 obtain⟨l,e,k,_⟩:=aSS n v t r;rw[e] at hx;obtain⟨p,hp,rfl⟩:=js.1 hx;cases k p hp<;>grind
theorem Ye{h:AH}{lo hi n:Nat}{ps:List (AV×AV)}(r:∀q∈ps,Rep h lo hi n q.1 q.2):∀x∈aQ (ps.map (·.1)),lo<=x/\x<hi:=by
 have:=bCI (Rep.agg r)
 grind [ids]
theorem aGL{s:St}{p:Pr}{C n:Nat}{ps:List (AV×AV)}(hb:p.nodes<2^29)(lp:ps.length=4)(hR:∀q∈ps,Rep s.h 2 s.h.next n q.1 q.2)(h2:2<=s.h.next)(g1:s.h.get 1=Z (.cells (ps.map (·.1)) J))(hC:C<s.h.next)(gC:s.h.get C=Z (.cells p.cells J))(h3:s.eval (.t 3)=Z (.ptr 1 0))(h6:s.eval (.t 6)=Z (.ptr C 0)):
  Run E1 aXY s λe s'=>e=.normal/\s'.h=(s.h.alloc (.cells (ps.map (·.1)++p.cp.cells) J)).put 1 (Z (.cells [vI 15,vS ⟨#[]⟩,vI 0,.own s.h.next 0 2 4 (Z 2)] J))/\s'.defers=s.defers/\∀j,j<26->s'.eval (.t j)=s.eval (.t j):=by
 have lc:=U258;have hbl:below s.h.next (aQ (ps.map (·.1)))=J:=j3.2 λx hx=>Nat.blt_eq.mpr (Ye hR x hx).2;have n1:∀o,bp s.h (Z (.ptr 1 o))=J:=by grind [ve]
 have nC:=U256;have o1:∀o,eZ [1,C] (Z (.ptr 1 o))=J:=by simp[yv,b9]
 have oC:∀o,eZ [1,C] (Z (.ptr C o))=J:=by simp[yv,b9]
 have hcp:=uT p hb;refine vY (pre:=qf.take 5) rfl λK0 hK=>?_
 show b6 E1 (qf.take 3++(qf.take 5).drop 3) [] s _;refine w7 (R:=[1,C]) _ [] s rfl (λx hx=>by cases hx) (λr hr'=>by
  grind) ?_
 simp only[qf,Ar,List.take_zero,An,A9,eU,pf,j9,jc,dF,V,cf lc,cf p.len,me p.ah,pv p.ah,seval, *];refine⟨_,hcp,λ_ done hdl hdm=>?_⟩;have hdl:done.length=3:=hdl;have ho:s.h.next≠1:=om;refine Wk (v:=.agg (ps.map (·.1))) (w:=p.cp.av) (cs:=ps.map (·.1)++p.cp.cells) ?_ ?_ ?_ ?_ ?_ (λj hj=>by cases hj) ?_
 ·simp[V]
 ·simp[V]
 ·simp[V]
  try exact hbl
 ·simp[V,p.cp.ah]
  try rfl
 ·simp[V,WF,Hz lc,Hy lc p.cp.len]
 refine Ib (v:=.agg [vI 15,vS ⟨#[]⟩,vI 0,.own s.h.next 0 2 4 (Z 2)]) rfl rfl ?_ ?_ (λi hi=>by cases hi) ?_
 ·have nO:bp (s.h.alloc (.cells (ps.map (·.1)++p.cp.cells) J)) (Z (.own s.h.next 0 2 4 (Z 2)))=J:=by
   have x1:Nat.blt s.h.next (s.h.alloc (.cells (ps.map (·.1)++p.cp.cells) J)).next=J:=Sp;have x2:below (s.h.alloc (.cells (ps.map (·.1)++p.cp.cells) J)).next (aQ (ps.map (·.1)++p.cp.cells))=J:=by
    rw[ms,p.cp.bM,jm];exact j3.2 λx hx=>Nat.blt_eq.mpr (Nat.lt_succ_of_lt (Ye hR x hx).2)
   grind [bp,lN,ids,co]
  simp[V];exact nO
 ·simp[V,WF,aL]
  try rfl
 refine xH (hK _ ?_);have g1':(s.h.alloc (.cells (ps.map (·.1)++p.cp.cells) J)).get 1=Z (.cells (ps.map (·.1)) J):=by grind [am]
 simp[V,WF,cy lc (show([AV.val (.int .i64 15),vS ⟨#[]⟩,vI 0,.own s.h.next 0 2 4 (Z 2)]).length=4 from rfl), *]
 grind
theorem aGM{s:St}{p:Pr}{C:Nat}(hb:p.nodes<2^61)(hC:C<s.h.next)(gC:s.h.get C=Z (.cells p.cells J))(h6:s.eval (.t 6)=Z (.ptr C 0)):
  Run E1 aXZ s λe s'=>e=.normal/\s'.h=s.h/\s'.defers=s.defers/\s'.eval (.t 19)=Z (Vb (p.same fPr))/\∀j,j<19->s'.eval (.t j)=s.eval (.t j):=by
 have nC:=U256;have nm:ids p.av=[]:=p.ah;have nf:=U257;have vb:=U248;refine yo (ops:=aGK) rfl ?_
 simp only[aGK,iC,pf,j9,jc,V,me nm,pv nm,seval, *];refine⟨_,aLK,?_⟩;simp only[V,me nf,pv nf];refine⟨_,uU p hb fPr,?_⟩;simp[me (vb _)]
 grind
def rL:Bool->Pr->List Pr->Option Pr
 |_,out,[]=>Z out
 |a,out,p::r=>bif p.eX then rL a out r else bif p.same fPr then Y else bif a then rL J (out.pair p.cp) r else rL J p.cp r
def qA(l:List Pr):Pr:=(rL U tPr l).getD fPr
mutual
theorem zY:∀p:Pr,p.cp.nodes=p.nodes
 |.mk o s n ks _ _=>by simp only[Pr.cp,Pr.nodes,Qn ks]
theorem Qn:∀l:List Pr,Pr.aI (Pr.cpL l)=Pr.aI l
 | []=>rfl
 |p::r=>by simp[Pr.cpL,Pr.aI,zY p,Qn r]
end
theorem zU(w:Vl Pr)(hN:w.l.length<2^20):∀(r:List Pr) (i:Nat) (s:St) (a:Bool) (out:Pr) (n:Nat),w.l.drop i=r->i<=w.l.length->(∀p∈r,p.nodes<2^29)->HA s.h n out->n+2*r.length<100000000->0<n->
  s.eval (.t 2)=Z (.ptr 0 0)->s.eval (.t 3)=Z (.ptr 1 0)->s.eval (.t 4)=Z (Vb a)->s.eval (.t 8)=Z (w.A Pr.cells)->s.eval (.t 9)=Z (vI (w.l.length:Nat))->s.eval (.t 10)=Z (vI (i:Nat))->s.defers=[]->
  Run E1 ph s λe s'=>s'.defers=[]/\((∃o n',e=.exit 0/\rL a out r=Z o/\HA s'.h n' o/\n'<=n+2*r.length/\s'.eval (.t 2)=Z (.ptr 0 0)/\s'.eval (.t 3)=Z (.ptr 1 0))\/(e=.ret/\rL a out r=Y/\s'.h.get 0=Z (.cells fPr.cells J)/\s'.eval (.t 2)=Z (.ptr 0 0)))
 | [],i,s,a,out,n,hd,hi,hp,H,hn,hn0,h2,h3,h4,h8,h9,h10,hf=>by
  have hl:=ca hd hi;subst hl;apply az (rfl:ph=.loop lU);simp only[lU,V,tE,seval, *];exact .inl ⟨out,n,rfl,H,om⟩
 |p::r,i,s,a,out,n,hd,hi,hp,H,hn,hn0,h2,h3,h4,h8,h9,h10,hf=>by
  have hl:=cz hd;have hlt:=rj hl;have w1:=U204;have hpn:p.nodes<2^29:=Gr;rw[jf] at hn;obtain⟨z,gz,lz⟩:=H.z;obtain⟨ps,gc,lp,e2,hR⟩:=H.o;have lc:=U258;have hm:=H.m;have hix:=w.at Pr.len hd;have o0:∀y,y<s.h.next->((s.h.alloc (.cells [AV.val (.int .i64 0),vS ⟨#[]⟩,vI 0,.val (.slice Y 0 0)] J)).put s.h.next (Z (.cells p.cells J))).get y=s.h.get y:=by grind [bc,am]
  have H0:HA ((s.h.alloc (.cells [AV.val (.int .i64 0),vS ⟨#[]⟩,vI 0,.val (.slice Y 0 0)] J)).put s.h.next (Z (.cells p.cells J))) n out:=
   ⟨by show 2<=s.h.next+1;omega,⟨z,Gr,lz⟩,ps,Gr,lp,e2,λq hq=>Rep.to (ij _) (j5 _) (λb b1 b2 cs rw g=>⟨rw,Gr⟩) (ij _) (hR q hq)⟩
  rw[rL];cases hv:p.eX with
  |true=>
   apply az (rfl:ph=.loop lU);have hvd:=Di p om;rw[hv] at hvd;simp only[lU,V,WF,ac hvd,seval, *];refine(zU w hN r (i+1) _ a out n (ba hd) om (λq hq=>hp q (iy _ hq)) ?_ om hn0 ?_ ?_ ?_ ?_ ?_ ?_ ?_).mono ?_
   all_goals try simp only[V,↓reduceIte,rA,h2,h3,h4,h8,h9,hf]
   ·exact H0
   grind
  |false=>
   apply az (rfl:ph=.loop lU);have hvd:=Di p om;rw[hv] at hvd;simp only[lU,V,WF,ac hvd,seval, *];refine(aGM (p:=p) (C:=s.h.next) om ?_ ?_ ?_).mono ?_
   all_goals try simp only[V,seval]
   ·grind
   rintro e s1 ⟨rfl,eh,d1,t19,k1⟩
   try simp[hf] at eh d1
   have H1:HA s1.h n out:=Gr;obtain⟨z,gz1,lz1⟩:=H1.z;obtain⟨ps1,gc1,lp1,e21,hR1⟩:=H1.o;have hm1:=H1.m;have lc1:(ps1.map (·.1)).length=4:=Gr;have gC:=U259;have hCn:s.h.next<s1.h.next:=Sa;have u2:s1.eval (.t 2)=Z (.ptr 0 0):=Gr;have u3:s1.eval (.t 3)=Z (.ptr 1 0):=Gr;have u4:s1.eval (.t 4)=Z (Vb a):=Gr;have u6:s1.eval (.t 6)=Z (.ptr s.h.next 0):=Gr;have u8:s1.eval (.t 8)=Z (w.A Pr.cells):=Gr;have u9:s1.eval (.t 9)=Z (vI (w.l.length:Nat)):=Gr;have u10:s1.eval (.t 10)=Z (vI (i:Nat)):=Gr;cases hq:p.same fPr with
   |true=>
    rw[hq] at t19;simp[V,WF,t19,ac aLK,u2,gz1,cy lz1 fPr.len,d1]
   |false=>
    rw[hq] at t19;cases a with
    |false=>
     simp only[V,WF,t19,u3,u4,u6,gC,gc1,cf p.len,ac (uT p hpn),cy lc1 p.cp.len,u10,w1,seval];refine(zU w hN r (i+1) _ J p.cp 1 (ba hd) om (λq hq=>hp q (iy _ hq)) ?_ om de ?_ ?_ ?_ ?_ ?_ ?_ ?_).mono ?_
     all_goals try simp only[V,↓reduceIte,rA,u2,u3,u8,u9,d1]
     ·exact HA.leaf p.cp Sa ⟨z,by grind [bc],lz1⟩ lA
     grind
    |true=>
     simp only[V, *];refine(aGL (p:=p) (C:=s.h.next) (n:=n) (ps:=ps1) hpn lp1 ?_ ?_ ?_ ?_ ?_ ?_ ?_).mono ?_
     all_goals try simp only[V,↓reduceIte,rA,u3,u6,gC,gc1]
     ·grind
     ·grind
     ·grind
     rintro e s3 ⟨rfl,eh3,d3,k3⟩
     try simp[d1] at eh3 d3
     have v10:s3.eval (.t 10)=Z (vI (i:Nat)):=Gr;have v2:s3.eval (.t 2)=Z (.ptr 0 0):=Gr;have v3:s3.eval (.t 3)=Z (.ptr 1 0):=Gr;have v4:s3.eval (.t 4)=Z (Vb J):=Gr;have v8:s3.eval (.t 8)=Z (w.A Pr.cells):=Gr;have v9:s3.eval (.t 9)=Z (vI (w.l.length:Nat)):=Gr;simp only[V, *];refine(zU w hN r (i+1) _ J (out.pair p.cp) (n+2) (ba hd) om (λq hq=>hp q (iy _ hq)) ?_ om om ?_ ?_ ?_ ?_ ?_ ?_ ?_).mono ?_
     all_goals try simp only[V,↓reduceIte,rA,v2,v3,v4,v8,v9,d3]
     ·rw[eh3];exact HA.pair hm1 ⟨z,gz1,lz1⟩ lp1 e21 hR1
     grind
theorem Yr(w:Vl Pr)(hN:w.l.length<2^20)(hp:∀p∈w.l,p.nodes<2^29)(h:AH):aE E1 (.f 29) [w.A Pr.cells] h (qA w.l).av h:=by
 refine aDQ rf bNI (qr Vl.leaf.tree) (λs hs hh hd hr=>?_) h;have h0:=hs 0 _ rfl;have hz4:=U260;simp[aXX,f29,V,WF,ac aLJ, *];have hH:HA (((AH.empty.alloc (.cells [AV.val (.int .i64 0),vS ⟨#[]⟩,vI 0,.val (.slice Y 0 0)] J)).alloc (.cells [AV.val (.int .i64 0),vS ⟨#[]⟩,vI 0,.val (.slice Y 0 0)] J)).put 1 (Z (.cells tPr.cells J))) 1 tPr:=
  HA.leaf tPr de ⟨_,rfl,rfl⟩ lA
 refine(zU w hN w.l 0 _ U tPr 1 rfl (il _) hp ?_ ?_ de ?_ ?_ ?_ ?_ ?_ ?_ ?_).mono ?_
 all_goals try simp only[V,↓reduceIte,rA,hd]
 ·exact hH
 ·omega
 ·rfl
 rintro e s1 ⟨d1,⟨o,n',rfl,e2,H,e4,e5,e6⟩|⟨rfl,e2,e3,e0⟩⟩
 ·obtain⟨z,gz,lz⟩:=H.z;obtain⟨ps,gc,lp,e8,hR⟩:=H.o;have lc:=U258;have hm:=H.m;simp only[V,WF,cf lc,cy lz lc,seval, *];have hb:n'+1<aU:=Nat.lt_trans (show n'+1<100000000 by omega) de
  refine⟨_,rfl,n'+1,hb,?_⟩;have:=Rep.agg (h:=s1.h.put 0 (Z (.cells (ps.map (·.1)) J))) (lo:=0) (hi:=s1.h.next) (ps:=ps) (n:=n') λq hq=>Rep.to (il _) (ij _) (λb b1 b2 cs rw g=>⟨rw,by grind [bc]⟩) (ij _) (hR q hq)
  grind [qA]
 ·simp only[V, *];rw[qA,e2];exact U244
set_option maxHeartbeats 400000
theorem aMT{a b:ByteArray}:aP a b=J↔a=b:=⟨wc,λh=>by grind [Ha]⟩
mutual
theorem vD:∀p q:Pr,p.same q=J↔p.cp=q.cp
 |.mk o s n ks _ _,.mk o' s' n' ks' _ _=>by
  simp[Pr.same,Pr.op,Pr.nm,Pr.n,Pr.ks,Pr.cp,aMT];constructor
  ·rintro⟨h1,h2,h3,h4,h5⟩;exact⟨of_decide_eq_true h1,h2,of_decide_eq_true h3,(yk ks ks' (of_decide_eq_true h4)).1 h5⟩
  ·rintro⟨h1,h2,h3,h4⟩;have hl:ks.length=ks'.length:=by
    have:=congrArg List.length h4
    grind [Gs]
   exact⟨decide_eq_true h1,h2,decide_eq_true h3,decide_eq_true hl,(yk ks ks' hl).2 h4⟩
theorem yk:∀l l':List Pr,l.length=l'.length->(Pr.eP l l'=J↔Pr.cpL l=Pr.cpL l')
 | [],[],_=>by grind [Pr.eP]
 | [],_::_,h=>by simp at h
 |_::_,[],h=>by simp at h
 |a::r,b::r',h=>by
  simp[Pr.eP,Pr.cpL];exact and_congr (vD a b) (yk r r' Gr)
end
theorem vy{p p' q q':Pr}(h:p.cp=p'.cp)(h':q.cp=q'.cp):p.same q=p'.same q':=by
 rw[Bool.eq_iff_iff,vD,vD,h,h']
theorem aCP{p p':Pr}(h:p.cp=p'.cp):p.eX=p'.eX:=by
 rw[Pr.eX,Pr.eX,vy h rfl,vy h rfl]
mutual
theorem aLH:∀p:Pr,p.cp.cp=p.cp
 |.mk o s n ks _ _=>by simp only[Pr.cp,aLI ks]
theorem aLI:∀l:List Pr,Pr.cpL (Pr.cpL l)=Pr.cpL l
 | []=>rfl
 |p::r=>by simp[Pr.cpL,aLH p,aLI r]
end
theorem aCO{p:Pr}(h:p.eX=J):p.same fPr=U:=by
 rw[Bool.eq_false_iff];intro hf;have hf:=(vD _ _).1 hf;rw[Pr.eX,Bool.or_eq_true,vD,vD,hf] at h;rcases h with h|h
 ·have:=congrArg Pr.op h;exact absurd this de
 ·have:=congrArg Pr.n h;exact absurd this de
theorem bCR{a b a' b':Pr}(h:a.cp=a'.cp)(h':b.cp=b'.cp):(a.pair b).cp=(a'.pair b').cp:=by
 grind [Pr.pair,Pr.cp,Pr.cpL]
theorem xd:∀(l l':List Pr) (a:Bool) (out out':Pr),l.map Pr.cp=l'.map Pr.cp->out.cp=out'.cp->a= !out'.eX->(rL a out l).map Pr.cp=(jH out' l').map Pr.cp
 | [],[],a,out,out',_,h,_=>by grind [rL,jH]
 | [],_::_,_,_,_,h,_,_=>by simp at h
 |_::_,[],_,_,_,h,_,_=>by simp at h
 |p::r,p'::r',a,out,out',h,ho,ha=>by
  simp at h;obtain⟨hp,hr⟩:=h;have hv:=aCP hp;rw[rL,jH];cases h1:p.eX with
  |true=>
   rw[h1] at hv;rw[aCO hv.symm,<-hv];exact xd r r' a out out' hr ho ha
  |false=>
   rw[h1] at hv;rw[<-vy hp rfl,<-hv];cases h2:p.same fPr with
   |true=>rfl
   |false=>
    cases h3:out'.eX with
    |true=>
     rw[h3] at ha;subst ha;exact xd r r' J p.cp p' hr (by rw[aLH,hp]) Gr
    |false=>
     rw[h3] at ha;subst ha;exact xd r r' J (out.pair p.cp) (out'.pair p') hr (bCR ho (by rw[aLH,hp])) rf
theorem bHC{l l':List Pr}(h:l.map Pr.cp=l'.map Pr.cp):(qA l).cp=(bw l').cp:=by
 have:=xd l l' U tPr tPr h rfl de;rw[qA,bw];cases h1:rL U tPr l with
 |none=>
  rw[h1] at this;cases h2:jH tPr l'<;>grind
 |some x=>
  rw[h1] at this;cases h2:jH tPr l'<;>grind
def lsA(x:Vl Pr):List AV:=[x.A Pr.cells]
theorem Gm(x:Vl Pr):(lsA x).length=1:=rfl
def cM(l:List (Vl Pr))(i:Nat):Vl Pr:=l[i]?.getD ⟨[],ai,Y⟩
theorem Zl(z:Vl (Vl Pr))(hN:z.l.length<2^61)(i:Nat)(h:AH):aE E1 (.f 30) [z.A lsA,vI (i:Nat)] h ((cM z.l i).A Pr.cells) h:=by
 refine sf rf bNH (sE Tree.vl (Tree.val _)) (λs hs hh hd hr=>?_) h;have h0:=hs 0 _ rfl;have h1:=hs 1 _ rfl;rcases Nat.lt_or_ge i z.l.length with hi|hi
 ·have hq:z.l.drop i=z.l[i]::z.l.drop (i+1):=by simp
  have he:cM z.l i=z.l[i]:=by grind [cM]
  rw[he];simp only[aGJ,f30,V,rj hi,z.at Gm hq,lsA,jj,seval, *];exact⟨_,rfl,1,de,Rep.leaf Vl.leaf⟩
 ·have he:cM z.l i=⟨[],ai,Y⟩:=by grind [cM]
  have hlt:decide ((i:Int)<(z.l.length:Nat))=U:=Gr;rw[he];simp only[aGJ,f30,V,seval, *];exact⟨_,rfl,1,de,Rep.leaf (aj.val _)⟩
theorem Zk(z:Vl (Vl Pr))(hN:z.l.length<2^61)(i:Nat)(h:AH):aE E1 (.f 32) [z.A lsA,vI (i:Nat)] h ((cM z.l i).A Pr.cells) h:=by
 refine sf rf bNF (sE Tree.vl (Tree.val _)) (λs hs hh hd hr=>?_) h;have h0:=hs 0 _ rfl;have h1:=hs 1 _ rfl;rcases Nat.lt_or_ge i z.l.length with hi|hi
 ·have hq:z.l.drop i=z.l[i]::z.l.drop (i+1):=by simp
  have he:cM z.l i=z.l[i]:=by grind [cM]
  rw[he];simp only[aGG,f32,V,rj hi,z.at Gm hq,lsA,jj,seval, *];exact⟨_,rfl,1,de,Rep.leaf Vl.leaf⟩
 ·have he:cM z.l i=⟨[],ai,Y⟩:=by grind [cM]
  have hlt:decide ((i:Int)<(z.l.length:Nat))=U:=Gr;rw[he];simp only[aGG,f32,V,seval, *];exact⟨_,rfl,1,de,Rep.leaf (aj.val _)⟩
theorem bHM{b c d e x:AV}{l:List AV}(h:l.length=4):dV [x,b,c,d,e] 1 4 l=Z (x::l):=by
 match l,h with
 | [_,_,_,_],_=>rfl
theorem aGQ{s:St}{k:Ho}{B lo n i:Nat}{v a1:AV}{cs:List AV}{x:Vl Pr}{q:Pr}(hr:aV s.h lo n 5 v cs)(hlo:lo<=s.h.next)(hB:B<s.h.next)(gB:s.h.get B=Z (.cells k.cells J))(i1:ids a1=[])(hn:n<2^29)
  (c1:∀h,aE E1 (.f 30) [a1,vI (i:Nat)] h (x.A Pr.cells) h) (c2:∀h,aE E1 (.f 29) [x.A Pr.cells] h q.av h)
  (h1:s.eval (.t 1)=Z a1) (h5:s.eval (.t 5)=Z v) (h6:s.eval (.t 6)=Z (vI (i:Nat))) (h7:s.eval (.t 7)=Z (.ptr B 0)):
  Run E1 aYZ s λe s'=>e=.normal/\(∃v',s'.eval (.t 5)=Z v'/\aV s'.h lo (n+1) 5 v' (cs++So.cells ⟨k.nm,q⟩))/\s.h.next<=s'.h.next/\(∀y,y<s.h.next->y∉ids v->s'.h.get y=s.h.get y)/\s'.defers=s.defers/\∀j,j<16->j≠5->s'.eval (.t j)=s.eval (.t j):=by
 have nB:=U261;have oB:=U246;have vi:=U262;have vs:∀n,ids (AV.val (.string n))=[]:=λ_=>rfl;have cl:=U263;have bM:=U264;have ll:=U265;have lf:∀c∈So.cells ⟨k.nm,q⟩,aj c:=λc hc=>by
  exact U115
 refine vY (pre:=qY.take 10) (d:=⟨⟨Z 5,Y,.mv (.t 25)⟩,[25],[]⟩) rfl λK0 hK=>?_
 show b6 E1 (qY.take 8++(qY.take 10).drop 8) [] s _;refine w7 (R:=[B]) _ [] s rfl (λx hx=>by cases hx) (λr hr'=>by
  grind) ?_
 simp only[qY,Ar,List.take_zero,An,A9,eU,pf,j9,jc,dF,V,↓reduceIte,rA,WF,h1,h5,h6,h7,gB,nB,oB,hr.nice,me i1,pv i1,me (vi _),pv (vi _),me (vs _)];refine⟨_,c1,?_⟩;simp only[V,me Vl.ids,pv Vl.ids];refine⟨_,c2,?_⟩;simp only[V,WF,me q.ah,bHM q.len];intro _ done hdl hdm;have hdl:done.length=8:=hdl;refine xO (v:=.agg (So.cells ⟨k.nm,q⟩)) (cs:=So.cells ⟨k.nm,q⟩) ?_ (by rw[bM];rfl) ?_ (λj hj=>?_) ?_
 ·simp only[V,↓reduceIte]
  try rfl
 ·exact Co (v:=.agg (So.cells ⟨k.nm,q⟩)) (by simp only[V,↓reduceIte];try rfl) rfl ll rfl
 ·grind
 exact U153
theorem aGP{s:St}{k:Ho}{B lo n i:Nat}{v a1:AV}{cs:List AV}{x:Vl Pr}{q:Pr}(hr:aV s.h lo n 5 v cs)(hlo:lo<=s.h.next)(hB:B<s.h.next)(gB:s.h.get B=Z (.cells k.cells J))(i1:ids a1=[])(hn:n<2^29)
  (c1:∀h,aE E1 (.f 32) [a1,vI (i:Nat)] h (x.A Pr.cells) h) (c2:∀h,aE E1 (.f 31) [x.A Pr.cells] h q.av h)
  (h1:s.eval (.t 1)=Z a1) (h5:s.eval (.t 5)=Z v) (h6:s.eval (.t 6)=Z (vI (i:Nat))) (h7:s.eval (.t 7)=Z (.ptr B 0)):
  Run E1 aYX s λe s'=>e=.normal/\(∃v',s'.eval (.t 5)=Z v'/\aV s'.h lo (n+1) 5 v' (cs++So.cells ⟨k.nm,q⟩))/\s.h.next<=s'.h.next/\(∀y,y<s.h.next->y∉ids v->s'.h.get y=s.h.get y)/\s'.defers=s.defers/\∀j,j<16->j≠5->s'.eval (.t j)=s.eval (.t j):=by
 have nB:=U261;have oB:=U246;have vi:=U262;have vs:∀n,ids (AV.val (.string n))=[]:=λ_=>rfl;have cl:=U263;have bM:=U264;have ll:=U265;have lf:∀c∈So.cells ⟨k.nm,q⟩,aj c:=λc hc=>by
  exact U115
 refine vY (pre:=qq.take 10) (d:=⟨⟨Z 5,Y,.mv (.t 25)⟩,[25],[]⟩) rfl λK0 hK=>?_
 show b6 E1 (qq.take 8++(qq.take 10).drop 8) [] s _;refine w7 (R:=[B]) _ [] s rfl (λx hx=>by cases hx) (λr hr'=>by
  grind) ?_
 simp only[qq,Ar,List.take_zero,An,A9,eU,pf,j9,jc,dF,V,↓reduceIte,rA,WF,h1,h5,h6,h7,gB,nB,oB,hr.nice,me i1,pv i1,me (vi _),pv (vi _),me (vs _)];refine⟨_,c1,?_⟩;simp only[V,me Vl.ids,pv Vl.ids];refine⟨_,c2,?_⟩;simp only[V,WF,me q.ah,bHM q.len];intro _ done hdl hdm;have hdl:done.length=8:=hdl;refine xO (v:=.agg (So.cells ⟨k.nm,q⟩)) (cs:=So.cells ⟨k.nm,q⟩) ?_ (by rw[bM];rfl) ?_ (λj hj=>?_) ?_
 ·simp only[V,↓reduceIte]
  try rfl
 ·exact Co (v:=.agg (So.cells ⟨k.nm,q⟩)) (by simp only[V,↓reduceIte];try rfl) rfl ll rfl
 ·grind
 exact U153
def dD(F:List Pr->Pr)(z:List (Vl Pr)):List Ho->Nat->List So
 | [],_=>[]
 |k::r,i=>⟨k.nm,F (cM z i).l⟩::dD F z r (i+1)
theorem uw(F:List Pr->Pr)(z:List (Vl Pr)):∀(r:List Ho) (i:Nat),(dD F z r i).length=r.length
 | [],_=>rfl
 |_::r,i=>by rw[dD,jf,uw F z r (i+1),jf]
theorem aBG(w:Vl Ho)(z:Vl (Vl Pr))(F:List Pr->Pr)(hz:z.l.length<2^61)(hN:w.l.length<2^29)(hc:∀i h,aE E1 (.f 29) [(cM z.l i).A Pr.cells] h (F (cM z.l i).l).av h){lo:Nat}:∀(r:List Ho) (i:Nat) (s:St) (v:AV) (L:List So),w.l.drop i=r->i<=w.l.length->L.length=i->aV s.h lo i 5 v (L.flatMap So.cells)->lo<=s.h.next->
  s.eval (.t 1)=Z (z.A lsA)->s.eval (.t 5)=Z v->s.eval (.t 9)=Z (w.A Ho.cells)->s.eval (.t 10)=Z (vI (w.l.length:Nat))->s.eval (.t 11)=Z (vI (i:Nat))->s.defers=[]->
  Run E1 Vw s λe s'=>e=.exit 0/\s'.defers=[]/\∃v',s'.eval (.t 5)=Z v'/\aV s'.h lo w.l.length 5 v' ((L++dD F z.l r i).flatMap So.cells)
 | [],i,s,v,L,hd,hi,hL,hr,hlo,h1,h5,h9,h10,h11,hf=>by
  have hl:=ca hd hi;subst hl;apply az (rfl:Vw=.loop rH);simp only[rH,V,↓reduceIte,rA,h5,h10,h11,hf,tE];refine⟨v,rfl,?_⟩
  grind [dD]
 |k::r,i,s,v,L,hd,hi,hL,hr,hlo,h1,h5,h9,h10,h11,hf=>by
  have hl:=cz hd;have hlt:=rj hl;have w1:=U204;apply az (rfl:Vw=.loop rH);simp only[rH,V,↓reduceIte,rA,WF,h9,h10,h11,hlt,w.at Ho.len hd,vC];refine(aGQ (k:=k) (B:=s.h.next) (lo:=lo) (n:=i) (i:=i) (v:=v) (a1:=z.A lsA) (cs:=L.flatMap So.cells) (x:=cM z.l i) (q:=F (cM z.l i).l) ?_ ?_ ?_ ?_ Vl.ids om (Zl z hz i) (hc i) ?_ ?_ ?_ ?_).mono ?_
  ·exact U30
  ·exact U31
  ·exact U31
  ·exact U33
  ·simp only[V,↓reduceIte,rA,h1]
  ·simp only[V,↓reduceIte,rA,h5]
  ·exact U33
  ·exact U29
  rintro e s1 ⟨rfl,⟨v1,e5,r1⟩,n1,o1,d1,k1⟩;simp only[V] at n1;have u1:=U266;have u9:=U267;have u10:=U268;have u11:=U269;have d1:s1.defers=[]:=by rw[d1];simp only[V,hf]
  simp only[V,↓reduceIte,u11,w1];refine(aBG w z F hz hN hc (lo:=lo) r (i+1) _ v1 (L++[⟨k.nm,F (cM z.l i).l⟩]) (ba hd) om Gr ?_ ?_ ?_ ?_ ?_ ?_ ?_ ?_).mono ?_
  ·exact U32
  ·exact U31
  all_goals try simp only[V,↓reduceIte,rA,u1,e5,u9,u10,d1]
  rintro e s2 ⟨rfl,d2,v2,e2,r2⟩;refine⟨rfl,d2,v2,e2,?_⟩
  grind [dD]
theorem Xm(H:Hn)(z:Vl (Vl Pr))(F:List Pr->Pr)(hz:z.l.length<2^61)(hN:H.hs.l.length<2^29)(hc:∀i h,aE E1 (.f 29) [(cM z.l i).A Pr.cells] h (F (cM z.l i).l).av h)(h:AH):
  aE E1 (.f 10) [.agg H.cells,z.A lsA] h ((⟨dD F z.l H.hs.l 0,ai,Y⟩:Vl So).A So.cells) h:=by
 refine sf rf bNU (sE (Tree.hn H) Tree.vl) (λs hs hh hd hr=>?_) h;have h0:=hs 0 _ rfl;have h1:=hs 1 _ rfl;simp[aYY,f10,V, *];refine(aBG H.hs z F hz hN hc (lo:=0) H.hs.l 0 _ (.val (.slice Y 0 0)) [] rfl (il _) rfl aV.nil ?_ ?_ ?_ ?_ ?_ ?_ ?_).mono ?_
 ·omega
 all_goals try simp only[V,↓reduceIte,rA,h1,hd]
 ·rfl
 exact U117
theorem aBF(w:Vl Ho)(z:Vl (Vl Pr))(F:List Pr->Pr)(hz:z.l.length<2^61)(hN:w.l.length<2^29)(hc:∀i h,aE E1 (.f 31) [(cM z.l i).A Pr.cells] h (F (cM z.l i).l).av h){lo:Nat}:∀(r:List Ho) (i:Nat) (s:St) (v:AV) (L:List So),w.l.drop i=r->i<=w.l.length->L.length=i->aV s.h lo i 5 v (L.flatMap So.cells)->lo<=s.h.next->
  s.eval (.t 1)=Z (z.A lsA)->s.eval (.t 5)=Z v->s.eval (.t 9)=Z (w.A Ho.cells)->s.eval (.t 10)=Z (vI (w.l.length:Nat))->s.eval (.t 11)=Z (vI (i:Nat))->s.defers=[]->
  Run E1 Vv s λe s'=>e=.exit 0/\s'.defers=[]/\∃v',s'.eval (.t 5)=Z v'/\aV s'.h lo w.l.length 5 v' ((L++dD F z.l r i).flatMap So.cells)
 | [],i,s,v,L,hd,hi,hL,hr,hlo,h1,h5,h9,h10,h11,hf=>by
  have hl:=ca hd hi;subst hl;apply az (rfl:Vv=.loop qK);simp only[qK,V,↓reduceIte,rA,h5,h10,h11,hf,tE];refine⟨v,rfl,?_⟩
  grind [dD]
 |k::r,i,s,v,L,hd,hi,hL,hr,hlo,h1,h5,h9,h10,h11,hf=>by
  have hl:=cz hd;have hlt:=rj hl;have w1:=U204;apply az (rfl:Vv=.loop qK);simp only[qK,V,↓reduceIte,rA,WF,h9,h10,h11,hlt,w.at Ho.len hd,vC];refine(aGP (k:=k) (B:=s.h.next) (lo:=lo) (n:=i) (i:=i) (v:=v) (a1:=z.A lsA) (cs:=L.flatMap So.cells) (x:=cM z.l i) (q:=F (cM z.l i).l) ?_ ?_ ?_ ?_ Vl.ids om (Zk z hz i) (hc i) ?_ ?_ ?_ ?_).mono ?_
  ·exact U30
  ·exact U31
  ·exact U31
  ·exact U33
  ·simp only[V,↓reduceIte,rA,h1]
  ·simp only[V,↓reduceIte,rA,h5]
  ·exact U33
  ·exact U29
  rintro e s1 ⟨rfl,⟨v1,e5,r1⟩,n1,o1,d1,k1⟩;simp only[V] at n1;have u1:=U266;have u9:=U267;have u10:=U268;have u11:=U269;have d1:s1.defers=[]:=by rw[d1];simp only[V,hf]
  simp only[V,↓reduceIte,u11,w1];refine(aBF w z F hz hN hc (lo:=lo) r (i+1) _ v1 (L++[⟨k.nm,F (cM z.l i).l⟩]) (ba hd) om Gr ?_ ?_ ?_ ?_ ?_ ?_ ?_ ?_).mono ?_
  ·exact U32
  ·exact U31
  all_goals try simp only[V,↓reduceIte,rA,u1,e5,u9,u10,d1]
  rintro e s2 ⟨rfl,d2,v2,e2,r2⟩;refine⟨rfl,d2,v2,e2,?_⟩
  grind [dD]
theorem Xl(H:Hn)(z:Vl (Vl Pr))(F:List Pr->Pr)(hz:z.l.length<2^61)(hN:H.hs.l.length<2^29)(hc:∀i h,aE E1 (.f 31) [(cM z.l i).A Pr.cells] h (F (cM z.l i).l).av h)(h:AH):
  aE E1 (.f 11) [.agg H.cells,z.A lsA] h ((⟨dD F z.l H.hs.l 0,ai,Y⟩:Vl So).A So.cells) h:=by
 refine sf rf bNT (sE (Tree.hn H) Tree.vl) (λs hs hh hd hr=>?_) h;have h0:=hs 0 _ rfl;have h1:=hs 1 _ rfl;simp[aYW,f11,V, *];refine(aBF H.hs z F hz hN hc (lo:=0) H.hs.l 0 _ (.val (.slice Y 0 0)) [] rfl (il _) rfl aV.nil ?_ ?_ ?_ ?_ ?_ ?_ ?_).mono ?_
 ·omega
 all_goals try simp only[V,↓reduceIte,rA,h1,hd]
 ·rfl
 exact U117
theorem aIS(w:Vl Ho)(G:Ho->Vl Pr){a1:AV}(hN:w.l.length<2^29){lo:Nat}:∀(r:List Ho) (i:Nat) (s:St) (v:AV),w.l.drop i=r->i<=w.l.length->(∀k∈r,∀h,aE E1 (.f 26) [a1,.agg k.cells] h ((G k).A Pr.cells) h)->aV s.h lo i 1 v (((w.l.take i).map G).flatMap lsA)->lo<=s.h.next->
  s.eval (.t 1)=Z a1->s.eval (.t 5)=Z v->s.eval (.t 9)=Z (w.A Ho.cells)->s.eval (.t 10)=Z (vI (w.l.length:Nat))->s.eval (.t 11)=Z (vI (i:Nat))->s.defers=[]->
  Run E1 aIT s λe s'=>e=.exit 0/\s'.defers=[]/\∃v',s'.eval (.t 5)=Z v'/\aV s'.h lo w.l.length 1 v' ((w.l.map G).flatMap lsA)
 | [],i,s,v,hd,hi,hc,hr,hlo,h1,h5,h9,h10,h11,hf=>by
  have hl:=ca hd hi;subst hl;rw[Ah] at hr;apply az (rfl:aIT=.loop aAP);simp only[aAP,V,↓reduceIte,rA,h5,h10,h11,hf,tE]
  grind
 |k::r,i,s,v,hd,hi,hc,hr,hlo,h1,h5,h9,h10,h11,hf=>by
  have hl:=cz hd;have hlt:=rj hl;have w1:=U204;have hcell:((G k).A Pr.cells).cells=Z [(G k).A Pr.cells]:=by
   exact U118
  have snoc:((w.l.take (i+1)).map G).flatMap lsA=((w.l.take i).map G).flatMap lsA++[(G k).A Pr.cells]:=by
   exact U119
  apply az (rfl:aIT=.loop aAP);simp only[aAP,V,↓reduceIte,rA,WF,h1,h5,h9,h10,h11,hlt,w.at Ho.len hd,vC,ac (hc k ip),hcell];refine uo (k:=i) (m:=1) (lo:=lo) (v:=v) (x:=.own (s.h.next+1) 0 1 1 (Z 1)) (cs:=((w.l.take i).map G).flatMap lsA) (new:=[(G k).A Pr.cells]) ?_ ?_ ?_ de rfl (λc hc=>by grind [Vl.leaf]) (lR om de) ?_ ?_ ?_
  ·exact U37
  ·exact U31
  ·refine kl (rw':=J) ?_ rfl;exact U33
  ·exact U29
  ·exact U33
  intro h2' r2 n2 o2;simp only[V] at n2 o2 r2;simp only[V,↓reduceIte,rA,h11,w1];refine(aIS w G hN (lo:=lo) r (i+1) _ (.own (s.h.next+1+1) 0 (i+1) 1 Y) (ba hd) om (λk' hk'=>hc k' (iy _ hk')) ?_ ?_ ?_ ?_ ?_ ?_ ?_ ?_).mono λe s' h=>h
  ·exact U32
  ·exact U31
  all_goals try simp only[V,↓reduceIte,rA,h1,h9,h10,hf]
theorem Xi(H:Hn)(G:Ho->Vl Pr){a1:AV}(t1:Tree a1)(hN:H.hs.l.length<2^29)(hc:∀k∈H.hs.l,∀h,aE E1 (.f 26) [a1,.agg k.cells] h ((G k).A Pr.cells) h)(h:AH):
  aE E1 (.f 6) [.agg H.cells,a1] h ((⟨H.hs.l.map G,ai,Y⟩:Vl (Vl Pr)).A lsA) h:=by
 refine sf rf bSC (sE (Tree.hn H) t1) (λs hs hh hd hr=>?_) h;have h0:=hs 0 _ rfl;have h1:=hs 1 _ rfl;simp[bIA,f6,V, *];refine(aIS H.hs G hN (lo:=0) H.hs.l 0 _ (.val (.slice Y 0 0)) rfl (il _) hc aV.nil ?_ ?_ ?_ ?_ ?_ ?_ ?_).mono ?_
 ·omega
 all_goals try simp only[V,↓reduceIte,rA,h1,hd]
 ·rfl
 exact U120
theorem aIQ(w:Vl Ho)(G:Ho->Vl Pr){a1:AV}(hN:w.l.length<2^29){lo:Nat}:∀(r:List Ho) (i:Nat) (s:St) (v:AV),w.l.drop i=r->i<=w.l.length->(∀k∈r,∀h,aE E1 (.f 27) [a1,.agg k.cells] h ((G k).A Pr.cells) h)->aV s.h lo i 1 v (((w.l.take i).map G).flatMap lsA)->lo<=s.h.next->
  s.eval (.t 1)=Z a1->s.eval (.t 5)=Z v->s.eval (.t 9)=Z (w.A Ho.cells)->s.eval (.t 10)=Z (vI (w.l.length:Nat))->s.eval (.t 11)=Z (vI (i:Nat))->s.defers=[]->
  Run E1 aIR s λe s'=>e=.exit 0/\s'.defers=[]/\∃v',s'.eval (.t 5)=Z v'/\aV s'.h lo w.l.length 1 v' ((w.l.map G).flatMap lsA)
 | [],i,s,v,hd,hi,hc,hr,hlo,h1,h5,h9,h10,h11,hf=>by
  have hl:=ca hd hi;subst hl;rw[Ah] at hr;apply az (rfl:aIR=.loop aAO);simp only[aAO,V,↓reduceIte,rA,h5,h10,h11,hf,tE]
  grind
 |k::r,i,s,v,hd,hi,hc,hr,hlo,h1,h5,h9,h10,h11,hf=>by
  have hl:=cz hd;have hlt:=rj hl;have w1:=U204;have hcell:((G k).A Pr.cells).cells=Z [(G k).A Pr.cells]:=by
   exact U118
  have snoc:((w.l.take (i+1)).map G).flatMap lsA=((w.l.take i).map G).flatMap lsA++[(G k).A Pr.cells]:=by
   exact U119
  apply az (rfl:aIR=.loop aAO);simp only[aAO,V,↓reduceIte,rA,WF,h1,h5,h9,h10,h11,hlt,w.at Ho.len hd,vC,ac (hc k ip),hcell];refine uo (k:=i) (m:=1) (lo:=lo) (v:=v) (x:=.own (s.h.next+1) 0 1 1 (Z 1)) (cs:=((w.l.take i).map G).flatMap lsA) (new:=[(G k).A Pr.cells]) ?_ ?_ ?_ de rfl (λc hc=>by grind [Vl.leaf]) (lR om de) ?_ ?_ ?_
  ·exact U37
  ·exact U31
  ·refine kl (rw':=J) ?_ rfl;exact U33
  ·exact U29
  ·exact U33
  intro h2' r2 n2 o2;simp only[V] at n2 o2 r2;simp only[V,↓reduceIte,rA,h11,w1];refine(aIQ w G hN (lo:=lo) r (i+1) _ (.own (s.h.next+1+1) 0 (i+1) 1 Y) (ba hd) om (λk' hk'=>hc k' (iy _ hk')) ?_ ?_ ?_ ?_ ?_ ?_ ?_ ?_).mono λe s' h=>h
  ·exact U32
  ·exact U31
  all_goals try simp only[V,↓reduceIte,rA,h1,h9,h10,hf]
theorem Xh(H:Hn)(G:Ho->Vl Pr){a1:AV}(t1:Tree a1)(hN:H.hs.l.length<2^29)(hc:∀k∈H.hs.l,∀h,aE E1 (.f 27) [a1,.agg k.cells] h ((G k).A Pr.cells) h)(h:AH):
  aE E1 (.f 7) [.agg H.cells,a1] h ((⟨H.hs.l.map G,ai,Y⟩:Vl (Vl Pr)).A lsA) h:=by
 refine sf rf bSB (sE (Tree.hn H) t1) (λs hs hh hd hr=>?_) h;have h0:=hs 0 _ rfl;have h1:=hs 1 _ rfl;simp[bHZ,f7,V, *];refine(aIQ H.hs G hN (lo:=0) H.hs.l 0 _ (.val (.slice Y 0 0)) rfl (il _) hc aV.nil ?_ ?_ ?_ ?_ ?_ ?_ ?_).mono ?_
 ·omega
 all_goals try simp only[V,↓reduceIte,rA,h1,hd]
 ·rfl
 exact U120
def qe(l l':List Pr):Bool:=decide (l.length=l'.length)&&Pr.eP l l'
theorem aYB{s:St}{w u:Vl Pr}{i:Nat}{k k':Pr}{r r':List Pr}{x:Bool}(h1:w.l.drop i=k::r)(h2:u.l.drop i=k'::r')(hc:∀h,aE E1 (.f 21) [k.av,k'.av] h (Vb x) h)
  (e0:s.eval (.t 0)=Z (w.A Pr.cells)) (e1:s.eval (.t 1)=Z (u.A Pr.cells)) (e5:s.eval (.t 5)=Z (vI (i:Nat))):
  Run E1 aYC s λe s'=>e=.normal/\s'.h=s.h/\s'.defers=s.defers/\s'.eval (.t 25)=Z (Vb (!x))/\∀j,j<16->s'.eval (.t j)=s.eval (.t j):=by
 have vi:=U249;have nl:=U270;refine tY (R:=[]) rfl (λr hr'=>by grind) ?_
 simp[aYA,eU,pf,dF,V,me Vl.ids,uW Vl.ids,me k.ah,pv k.ah,me k'.ah,pv k'.ah,w.at Pr.len h1,u.at Pr.len h2,tC,te,show∀l,eZ [] (Z (AV.bD l))=J from λ_=>rfl,uW (vi _), *];refine⟨_,hc,?_⟩;simp[V,te];intro j hj
 repeat rw[if_neg om]
theorem aAU(w u:Vl Pr)(hN:w.l.length<2^61)(hl:w.l.length=u.l.length):∀(r r':List Pr) (i:Nat) (s:St),w.l.drop i=r->u.l.drop i=r'->i<=w.l.length->(∀k∈r,k.nodes<2^61)->
  s.eval (.t 0)=Z (w.A Pr.cells)->s.eval (.t 1)=Z (u.A Pr.cells)->s.eval (.t 12)=Z (vI (w.l.length:Nat))->s.eval (.t 13)=Z (vI (i:Nat))->s.defers=[]->
  Run E1 Un s λe s'=>s'.defers=[]/\((Pr.eP r r'=J/\e=.exit 0)\/(Pr.eP r r'=U/\e=.ret/\s'.eval (.t 4)=Z (Vb U)))
 | [],r',i,s,hr,hr',hi,hc,h0,h1,h12,h13,hd=>by
  have hl:=ca hr hi;subst hl;apply az (rfl:Un=.loop pY);simp[pY,V,Pr.eP, *]
 |k::r,[],i,s,hr,hr',hi,hc,h0,h1,h12,h13,hd=>by
  grind [ca]
 |k::r,k'::r',i,s,hr,hr',hi,hc,h0,h1,h12,h13,hd=>by
  have hlt:=rj (cz hr);have hll:=cz hr;have w1:=U204;apply az (rfl:Un=.loop pY);simp only[pY,V,h12,h13,hlt,seval];refine(aYB hr hr' (sR k (hc k ip) k') ?_ ?_ ?_).mono ?_
  ·simp[V,h0]
  ·simp[V,h1]
  ·simp[V]
  rintro e s1 ⟨rfl,x1,x2,x7,kk⟩;simp[V,hd] at x2;have u0:s1.eval (.t 0)=Z (w.A Pr.cells):=by rw[kk 0 de];simp[V,h0]
  have u1:s1.eval (.t 1)=Z (u.A Pr.cells):=by rw[kk 1 de];simp[V,h1]
  have u12:=U271;have u13:=U272;rw[Pr.eP];cases hs:k.same k' with
  |false=>
   rw[hs] at x7;simp[V, *]
  |true=>
   rw[hs] at x7;simp only[V, *];refine aAU w u hN hl r r' (i+1) _ (ba hr) (ba hr') om (λk0 h0=>hc k0 (iy _ h0)) ?_ ?_ ?_ ?_ ?_
   all_goals simp only[V,↓reduceIte,rA,reduceCtorEq,u0,u1,u12,x2]
theorem Xt(w u:Vl Pr)(hN:w.l.length<2^61)(hU:u.l.length<2^61)(hc:∀k∈w.l,k.nodes<2^61)(h:AH):aE E1 (.f 28) [w.A Pr.cells,u.A Pr.cells] h (Vb (qe w.l u.l)) h:=by
 refine s5 rf bNJ (sE Tree.vl Tree.vl) rfl (Tree.val _) (λs hs hh hd hr=>?_) h;have h0:=hs 0 _ rfl;have h1:=hs 1 _ rfl
 by_cases hl:w.l.length=u.l.length
 ·have hne:decide (((w.l.length:Nat):Int)=(u.l.length:Nat))=J:=by grind
  have hle:decide (w.l.length=u.l.length)=J:=Gr;simp[aGN,f28,qe,V,h0,h1,hne,hle];refine(aAU w u hN hl w.l u.l 0 _ rfl rfl (il _) hc ?_ ?_ ?_ ?_ ?_).mono ?_
  all_goals try simp only[V,↓reduceIte,rA,reduceCtorEq,h0,h1,hd]
  ·rfl
  rintro e s1 ⟨d1,⟨q1,rfl⟩|⟨q1,rfl,q2⟩⟩
  ·simp[V, *]
  ·simp[V, *]
 ·have hne:decide (((w.l.length:Nat):Int)=(u.l.length:Nat))=U:=by grind
  have hle:decide (w.l.length=u.l.length)=U:=Gr;simp[aGN,f28,qe,V, *]
theorem aIO(z z':Vl (Vl Pr))(n:Nat)(hl:z.l.length=n)(hl':z'.l.length=n)(hn:n<2^61)(hz:∀i,(cM z.l i).l.length<2^61/\∀k∈(cM z.l i).l,k.nodes<2^61)(hz':∀i,(cM z'.l i).l.length<2^61)(hs:∀i,i<n->qe (cM z.l i).l (cM z'.l i).l=J):∀(m i:Nat) (s:St),i+m=n->
  s.eval (.t 0)=Z (z.A lsA)->s.eval (.t 1)=Z (z'.A lsA)->s.eval (.t 12)=Z (vI (n:Nat))->s.eval (.t 13)=Z (vI (i:Nat))->s.defers=[]->
  Run E1 aIP s λe s'=>s'.defers=[]/\e=.exit 0
 |0,i,s,hm,h0,h1,h12,h13,hd=>by
  have hm:i=n:=om;subst hm;apply az (rfl:aIP=.loop aAK);simp[aAK,V, *]
 |m+1,i,s,hm,h0,h1,h12,h13,hd=>by
  have hi:i<n:=om;have hlt:=rj hi;have w1:=U204;have hq:z.l.drop i=z.l[i]::z.l.drop (i+1):=Sp;have hq':z'.l.drop i=z'.l[i]::z'.l.drop (i+1):=Sp;have e:z.l[i]=cM z.l i:=by grind [cM]
  have e':z'.l[i]=cM z'.l i:=by grind [cM]
  rw[e] at hq;rw[e'] at hq';have hc:=Xt (cM z.l i) (cM z'.l i) (hz i).1 (hz' i) (hz i).2;rw[hs i hi] at hc;have i1:aX 1 (z.A lsA) i=Z (.bD ((cM z.l i).A Pr.cells::(z.l.drop (i+1)).flatMap lsA)):=z.at Gm hq;have i2:aX 1 (z'.A lsA) i=Z (.bD ((cM z'.l i).A Pr.cells::(z'.l.drop (i+1)).flatMap lsA)):=z'.at Gm hq';apply az (rfl:aIP=.loop aAK);simp only[aAK,V,ac hc,seval, *];refine aIO z z' n hl hl' hn hz hz' hs m (i+1) _ om ?_ ?_ ?_ ?_ ?_
  all_goals simp only[V,↓reduceIte,rA,reduceCtorEq,h0,h1,h12,hd]
theorem aDF(z z':Vl (Vl Pr))(n:Nat)(hl:z.l.length=n)(hl':z'.l.length=n)(hn:n<2^61)(hz:∀i,(cM z.l i).l.length<2^61/\∀k∈(cM z.l i).l,k.nodes<2^61)(hz':∀i,(cM z'.l i).l.length<2^61)(hs:∀i,i<n->qe (cM z.l i).l (cM z'.l i).l=J)(h:AH):
  aE E1 (.f 8) [z.A lsA,z'.A lsA] h (Vb J) h:=by
 refine s5 rf bSA (sE Tree.vl Tree.vl) rfl (Tree.val _) (λs hs' hh hd hr=>?_) h;have h0:=hs' 0 _ rfl;have h1:=hs' 1 _ rfl;simp only[bHY,f8,V,seval, *];refine(aIO z z' n hl hl' hn hz hz' hs n 0 _ om ?_ ?_ ?_ ?_ ?_).mono ?_
 all_goals try simp only[V,↓reduceIte,rA,reduceCtorEq,h0,h1,hd]
 ·grind
 ·rfl
 rintro e s1 ⟨d1,rfl⟩;simp[V,d1]
theorem bEF{s:St}{w u:Vl So}{i:Nat}{k k':So}{r r':List So}(h1:w.l.drop i=k::r)(h2:u.l.drop i=k'::r')(hn:aP k.nm k'.nm=J)(hc:∀h,aE E1 (.f 21) [k.p.av,k'.p.av] h (Vb J) h)
  (e0:s.eval (.t 0)=Z (w.A So.cells)) (e1:s.eval (.t 1)=Z (u.A So.cells)) (e5:s.eval (.t 5)=Z (vI (i:Nat))):
  Run E1 bHX s λe s'=>e=.normal/\s'.h=s.h/\s'.defers=s.defers/\s'.eval (.t 40)=Z (Vb U)/\∀j,j<16->s'.eval (.t j)=s.eval (.t j):=by
 have vi:=U249;have nl:=U270;refine yo (ops:=aVA) rfl ?_
 simp only[aVA,iC,pf,Jp,aUS,aUT,j9,jc,V,me Vl.ids,me k.p.ah,pv k.p.ah,me k'.p.ah,pv k'.p.ah,w.at So.len h1,u.at So.len h2,tC,te,Nv,Bool.and_self,seval, *];refine⟨_,hc,?_⟩;simp[V,te];intro j hj
 repeat rw[if_neg om]
def samS:List So->List So->Prop
 | [],[]=>True
 |k::r,k'::r'=>aP k.nm k'.nm=J/\k.p.same k'.p=J/\k.p.nodes<2^61/\samS r r'
 |_,_=>False
theorem aIM(w u:Vl So)(hN:w.l.length<2^61):∀(r r':List So) (i:Nat) (s:St),w.l.drop i=r->u.l.drop i=r'->i<=w.l.length->samS r r'->
  s.eval (.t 0)=Z (w.A So.cells)->s.eval (.t 1)=Z (u.A So.cells)->s.eval (.t 12)=Z (vI (w.l.length:Nat))->s.eval (.t 13)=Z (vI (i:Nat))->s.defers=[]->
  Run E1 aIN s λe s'=>s'.defers=[]/\e=.exit 0
 | [],_,i,s,hr,hr',hi,hc,h0,h1,h12,h13,hd=>by
  have hl:=ca hr hi;subst hl;apply az (rfl:aIN=.loop aAI);simp[aAI,V, *]
 |k::r,[],i,s,hr,hr',hi,hc,h0,h1,h12,h13,hd=>hc.elim
 |k::r,k'::r',i,s,hr,hr',hi,hc,h0,h1,h12,h13,hd=>by
  have hlt:=rj (cz hr);have hll:=cz hr;have w1:=U204;obtain⟨c1,c2,c3,c4⟩:=hc;have hs:=sR k.p c3 k'.p;rw[c2] at hs;apply az (rfl:aIN=.loop aAI);simp only[aAI,V,seval, *];refine(bEF hr hr' c1 hs ?_ ?_ ?_).mono ?_
  ·simp[V,h0]
  ·simp[V,h1]
  ·simp[V]
  rintro e s1 ⟨rfl,x1,x2,x7,kk⟩;simp[V,hd] at x2;have u0:s1.eval (.t 0)=Z (w.A So.cells):=by rw[kk 0 de];simp[V,h0]
  have u1:s1.eval (.t 1)=Z (u.A So.cells):=by rw[kk 1 de];simp[V,h1]
  have u12:=U271;have u13:=U272;simp only[V, *];refine aIM w u hN r r' (i+1) _ (ba hr) (ba hr') om c4 ?_ ?_ ?_ ?_ ?_
  all_goals simp only[V,↓reduceIte,rA,reduceCtorEq,u0,u1,u12,x2]
theorem aDE(w u:Vl So)(hN:w.l.length<2^61)(hl:w.l.length=u.l.length)(hc:samS w.l u.l)(h:AH):aE E1 (.f 9) [w.A So.cells,u.A So.cells] h (Vb J) h:=by
 refine s5 rf bRZ (sE Tree.vl Tree.vl) rfl (Tree.val _) (λs hs hh hd hr=>?_) h;have h0:=hs 0 _ rfl;have h1:=hs 1 _ rfl;have hne:decide (((w.l.length:Nat):Int)=(u.l.length:Nat))=J:=Gr;simp[bHW,f9,V,h0,h1,hne];refine(aIM w u hN w.l u.l 0 _ rfl rfl (il _) hc ?_ ?_ ?_ ?_ ?_).mono ?_
 all_goals try simp only[V,↓reduceIte,rA,reduceCtorEq,h0,h1,hd]
 ·rfl
 rintro e s1 ⟨d1,rfl⟩;simp[V,d1]
theorem aXK{s:St}{w:Vl Pr}{p:Pr}{i:Nat}{k:Pr}{r:List Pr}{x:Bool}(h1:w.l.drop i=k::r)(hc:∀h,aE E1 (.f 21) [k.av,p.av] h (Vb x) h)
  (hn:0<s.h.next) (g0:s.h.get 0=Z (.cells p.cells J)) (e0:s.eval (.t 0)=Z (w.A Pr.cells)) (e3:s.eval (.t 3)=Z (.ptr 0 0)) (e5:s.eval (.t 5)=Z (vI (i:Nat))):
  Run E1 aXL s λe s'=>e=.normal/\s'.h=s.h/\s'.defers=s.defers/\s'.eval (.t 17)=Z (Vb x)/\∀j,j<12->s'.eval (.t j)=s.eval (.t j):=by
 have vi:=U249;have n0:∀o,bp s.h (Z (.ptr 0 o))=J:=λo=>ve hn g0 (by rw[p.bM];rfl)
 have o0:=U273;refine tY (R:=[0]) rfl (λr hr'=>by
  grind) ?_
 simp only[aXI,eU,pf,j9,jc,dF,V,me Vl.ids,uW Vl.ids,me k.ah,pv k.ah,me p.ah,pv p.ah,w.at Pr.len h1,tC,te,show∀l,eZ [0] (Z (AV.bD l))=J from λ_=>rfl,uW (vi _),seval, *];refine⟨_,hc,?_⟩
 grind
theorem aAQ(p:Pr)(w:Vl Pr)(hw:∀q∈w.l,q.nodes<2^61)(hN:w.l.length<2^61):∀(r:List Pr) (i:Nat) (s:St),w.l.drop i=r->i<=w.l.length->0<s.h.next->s.h.get 0=Z (.cells p.cells J)->
  s.eval (.t 0)=Z (w.A Pr.cells)->s.eval (.t 3)=Z (.ptr 0 0)->s.eval (.t 5)=Z (vI (i:Nat))->s.defers=[]->
  Run E1 Uc s λe s'=>s'.defers=[]/\((dy p r=U/\e=.exit 0)\/(dy p r=J/\e=.ret/\s'.eval (.t 4)=Z (Vb J)))
 | [],i,s,hd,hi,hn,g0,h0,h3,h5,hf=>by
  have hl:=ca hd hi;subst hl;apply az (rfl:Uc=.loop qh);simp[qh,V,dy, *]
 |k::r,i,s,hd,hi,hn,g0,h0,h3,h5,hf=>by
  have hl:=cz hd;have hlt:=rj hl;have w1:=U204;have hs:=sR k (hw k (List.mem_of_mem_drop (i:=i) Gr)) p;apply az (rfl:Uc=.loop qh);rw[dy];simp only[qh,V,seval, *];refine(aXK (p:=p) hd hs ?_ ?_ ?_ ?_ ?_).mono ?_
  all_goals try simp only[V,h0,h3,h5,g0,seval]
  ·exact hn
  rintro e s1 ⟨rfl,x1,x2,x7,kk⟩
  try simp[hf] at x1 x2
  have u0:s1.eval (.t 0)=Z (w.A Pr.cells):=Gr;have u3:s1.eval (.t 3)=Z (.ptr 0 0):=Gr;have u5:s1.eval (.t 5)=Z (vI (i:Nat)):=Gr;cases hc:k.same p with
  |true=>
   rw[hc] at x7;simp[V, *]
  |false=>
   rw[hc] at x7;simp only[V, *];refine aAQ p w hw hN r (i+1) _ (ba hd) om ?_ ?_ ?_ ?_ ?_ ?_
   ·simp[V,x1];exact hn
   ·simp[V, *]
   all_goals simp only[V,↓reduceIte,rA,reduceCtorEq,u0,u3,x2]
theorem Wm(w:Vl Pr)(p:Pr)(hw:∀q∈w.l,q.nodes<2^61)(hN:w.l.length<2^61)(h:AH):aE E1 (.f 50) [w.A Pr.cells,p.av] h (Vb (dy p w.l)) h:=by
 refine s5 rf bMU (sE Tree.vl (Tree.pr p)) rfl (Tree.val _) (λs hs hh hd hr=>?_) h;have h0:=hs 0 _ rfl;have h1:=hs 1 _ rfl;simp[aXJ,f50,V, *];refine(aAQ p w hw hN w.l 0 _ rfl (il _) ?_ ?_ ?_ ?_ ?_ ?_).mono ?_
 ·simp only[V];decide
 ·rfl
 ·simp[V,h0]
 ·simp[V]
 ·exact U34
 ·simp[V,hd]
 rintro e s1 ⟨d1,⟨q,rfl⟩|⟨q,rfl,q2⟩⟩
 ·simp[V, *]
 ·simp[V, *]
def fw(out:List Pr):List Pr->List Pr
 | []=>out
 |x::r=>bif decide (((out.length:Nat):Int)<100)&& !dy x out then fw (out++[x]) r else fw out r
theorem Cs(x:Vl Pr)(hx:∀q∈x.l,q.nodes<2^61)(hN:x.l.length<2^61){lo:Nat}:∀(r:List Pr) (i:Nat) (s:St) (v:AV) (out:List Pr),x.l.drop i=r->i<=x.l.length->aV s.h lo out.length 4 v (Pr.aG out)->lo<=s.h.next->(∀q∈out,q.nodes<2^61)->out.length<=100->
  s.eval (.t 5)=Z v->s.eval (.t 7)=Z (x.A Pr.cells)->s.eval (.t 8)=Z (vI (i:Nat))->s.defers=[]->
  Run E1 Up s λe s'=>e=.exit 2/\s'.defers=[]/\(∃v',s'.eval (.t 5)=Z v'/\aV s'.h lo (fw out r).length 4 v' (Pr.aG (fw out r)))/\s.h.next<=s'.h.next/\(∀y,y<lo->s'.h.get y=s.h.get y)/\(∀q∈fw out r,q.nodes<2^61)/\(fw out r).length<=100/\∀j,j<8->j≠5->s'.eval (.t j)=s.eval (.t j)
 | [],i,s,v,out,hd,hi,hr,hlo,hs,hl1,h5,h7,h8,hf=>by
  have hl:=ca hd hi;subst hl;apply az (rfl:Up=.loop nW);simp only[nW,V,rA,h5,h7,h8,hf,tE,fw]
  grind
 |k::r,i,s,v,out,hd,hi,hr,hlo,hs,hl1,h5,h7,h8,hf=>by
  have hl:=cz hd;have hlt:=rj hl;have w1:=U204;have hln:=hr.len;have hkn:k.nodes<2^61:=by grind [ip]
  apply az (rfl:Up=.loop nW);rw[fw];cases hh:decide (((out.length:Nat):Int)<100) with
  |false=>
   simp only[nW,V,rA, *];exact U121
  |true=>
   have hh':=of_decide_eq_true hh;obtain⟨h2',f1,f2,f3,f4⟩:=tP hr;have hcall:aE E1 (.f 50) [v,k.av] s.h (Vb (dy k out)) s.h:=ut (xs:=[]) (ys:=[k.av]) rf (λv hv=>by cases hv) (qr (Tree.pr k)) tT.tree f1 f4 rfl (λh0=>by
    rw[Pr.bG,uQ rfl];exact Wm ⟨out,ai,Y⟩ k hs Gr h0)
   simp only[nW,V,rA,x.at Pr.len hd, *];refine gt (by simp[V];exact hcall) ?_
   cases hz:dy k out with
   |true=>
    simp only[V,rA, *];exact U121
   |false=>
    simp only[V,rA,WF,x.at Pr.len hd,sX, *];refine uo (k:=out.length) (m:=1) (lo:=lo) (v:=v) (x:=.own s.h.next 0 1 4 (Z 1)) (cs:=Pr.aG out) (new:=k.cells) ?_ ?_ ?_ de (by rw[k.len]) k.leaves (lR om de) ?_ ?_ ?_
    ·simp[V];exact hr.to (j5 _) λy _ y2=>by rw[am y2]
    ·simp[V];omega
    ·refine kl (rw':=J) ?_ (by rw[k.len])
     simp[V]
    ·simp[V]
    ·simp[V]
    intro h2 r2 n2 o2;simp[V] at n2 o2 r2;simp only[V,rA, *];refine(Cs x hx hN (lo:=lo) r (i+1) _ (.own (s.h.next+1) 0 (out.length+1) 4 Y) (out++[k]) (ba hd) om ?_ ?_ (λq hq=>?_) Gr ?_ ?_ ?_ ?_).mono ?_
    ·simp[V]
     grind [pl]
    ·simp[V];omega
    ·grind
    all_goals try simp only[V,rA, *]
    rintro e s2 ⟨rfl,d2,e2,n3,o3,q3,l3,t3⟩
    try simp only[V,↓reduceIte,rA,rB,rC,reduceCtorEq,rD,rE,rF] at n3 o3 t3
    refine⟨rfl,d2,e2,om,λy hy=>?_,q3,l3,λj hj hj2=>?_⟩
    ·rw[o3 y hy,o2 y om (λhv=>by have:=(hr.ids y hv).1;omega)]
     grind
    ·rw[t3 j hj hj2]
     repeat rw[if_neg om]
structure Qu where
 nm:ByteArray
 vs:Vl Vr
 bd:Pr
def Qu.cells(q:Qu):List AV:=vS q.nm::q.vs.A Vr.cells::q.bd.cells
theorem Qu.len(q:Qu):q.cells.length=6:=by rw[Qu.cells,jf,jf,q.bd.len]
theorem Qu.leaves(q:Qu):∀v∈q.cells,aj v:=λv hv=>by
 rcases jl.1 hv with rfl|hv
 ·exact U181
 ·rcases jl.1 hv with rfl|hv
  ·exact Vl.leaf
  ·exact q.bd.leaves v hv
theorem Qu.bM(q:Qu):aQ q.cells=[]:=by simp only[Qu.cells,aQ,AM.ids,Vl.ids,q.bd.bM,jm]
theorem Qu.ah(q:Qu):ids (.agg q.cells)=[]:=by show aQ q.cells=[];exact q.bM
theorem Tree.qu(q:Qu):Tree (.agg q.cells):=Tree.agg q.leaves
theorem Xd{q:Qu}{l:List AV}:takeN (Z 6) (q.cells++l)=Z (.agg q.cells):=tv q.len
theorem Ho.ah(k:Ho):ids (.agg k.cells)=[]:=by grind [Ho.cells,aQ,ids,Vl.ids]
theorem aGO{s:St}{w:Vl Qu}{q:Qu}{k:Ho}{x:Vl Pr}{i:Nat}{r:List Qu}(h1:w.l.drop i=q::r)(hc:∀h,aE E1 (.f 49) [.agg q.cells,.agg k.cells] h (x.A Pr.cells) h)
  (hn:0<s.h.next) (g0:s.h.get 0=Z (.cells k.cells J)) (e0:s.eval (.t 0)=Z (w.A Qu.cells)) (e3:s.eval (.t 3)=Z (.ptr 0 0)) (e6:s.eval (.t 6)=Z (vI (i:Nat))):
  Run E1 aYF s λe s'=>e=.normal/\s'.h=s.h/\s'.defers=s.defers/\s'.eval (.t 7)=Z (x.A Pr.cells)/\∀j,j<15->j≠7->s'.eval (.t j)=s.eval (.t j):=by
 have vi:=U249;have ik:aQ k.cells=[]:=k.ah;have n0:∀o,bp s.h (Z (.ptr 0 o))=J:=λo=>ve hn g0 (by rw[ik];rfl)
 have o0:=U273;have tk:=U274;refine tY (R:=[0]) rfl (λr hr'=>by
  grind) ?_
 simp only[aYD,eU,pf,j9,jc,dF,V,me Vl.ids,uW Vl.ids,me q.ah,pv q.ah,me k.ah,pv k.ah,w.at Qu.len h1,Xd,tC,te,show∀l,eZ [0] (Z (AV.bD l))=J from λ_=>rfl,uW (vi _),seval, *];refine⟨_,hc,?_⟩;simp only[V,me Vl.ids]
 grind
def gh(G:Qu->Vl Pr):List Pr->List Qu->List Pr
 |out,[]=>out
 |out,q::r=>gh G (fw out (G q).l) r
theorem Pn(w:Vl Qu)(k:Ho)(G:Qu->Vl Pr)(hN:w.l.length<2^61){lo:Nat}(hlo0:0<lo):∀(r:List Qu) (i:Nat) (s:St) (v:AV) (out:List Pr),w.l.drop i=r->i<=w.l.length->(∀q∈r,(∀h,aE E1 (.f 49) [.agg q.cells,.agg k.cells] h ((G q).A Pr.cells) h)/\(G q).l.length<2^61/\∀p∈(G q).l,p.nodes<2^61)->
  aV s.h lo out.length 4 v (Pr.aG out)->lo<=s.h.next->(∀q∈out,q.nodes<2^61)->out.length<=100->s.h.get 0=Z (.cells k.cells J)->
  s.eval (.t 0)=Z (w.A Qu.cells)->s.eval (.t 3)=Z (.ptr 0 0)->s.eval (.t 5)=Z v->s.eval (.t 6)=Z (vI (i:Nat))->s.defers=[]->
  Run E1 Uo s λe s'=>e=.exit 0/\s'.defers=[]/\∃v',s'.eval (.t 5)=Z v'/\aV s'.h lo (gh G out r).length 4 v' (Pr.aG (gh G out r))
 | [],i,s,v,out,hd,hi,hc,hr,hlo,hs,hl1,g0,h0,h3,h5,h6,hf=>by
  have hl:=ca hd hi;subst hl;apply az (rfl:Uo=.loop pz);simp only[pz,V,tE,gh,seval, *]
  grind
 |q::r,i,s,v,out,hd,hi,hc,hr,hlo,hs,hl1,g0,h0,h3,h5,h6,hf=>by
  have hl:=cz hd;have hlt:=rj hl;have w1:=U204;obtain⟨c1,c2,c3⟩:=hc q ip;apply az (rfl:Uo=.loop pz);rw[gh];simp only[pz,V,seval, *];refine(aGO (k:=k) (x:=G q) hd c1 ?_ ?_ ?_ ?_ ?_).mono ?_
  all_goals try simp only[V,h0,h3,h6,g0,seval]
  ·omega
  rintro e s1 ⟨rfl,eh,d1,e7,k1⟩
  try simp[hf] at eh d1
  have u0:s1.eval (.t 0)=Z (w.A Qu.cells):=Gr;have u3:s1.eval (.t 3)=Z (.ptr 0 0):=Gr;have u5:s1.eval (.t 5)=Z v:=Gr;have u6:s1.eval (.t 6)=Z (vI (i:Nat)):=Gr;have rr:aV s1.h lo out.length 4 v (Pr.aG out):=Gr;simp[V];refine(Cs (G q) c3 c2 (lo:=lo) (G q).l 0 _ v out rfl (il _) ?_ ?_ hs hl1 ?_ ?_ ?_ ?_).mono ?_
  all_goals try simp only[V,↓reduceIte,rA,u5,e7,d1]
  ·exact rr
  ·grind
  ·rfl
  rintro e s2 ⟨rfl,d2,⟨v2,e5,r2⟩,n2,o2,q2,l2,t2⟩
  try simp only[V,↓reduceIte,rA,rB,rC,reduceCtorEq,rD,rE,rF] at n2 o2 t2
  have x0:s2.eval (.t 0)=Z (w.A Qu.cells):=Gr;have x3:s2.eval (.t 3)=Z (.ptr 0 0):=Gr;have x6:=U275;simp only[V,WB, *];refine(Pn w k G hN (lo:=lo) hlo0 r (i+1) _ v2 _ (ba hd) om (λq' hq'=>hc q' (iy _ hq')) ?_ ?_ q2 l2 ?_ ?_ ?_ ?_ ?_ ?_)
  all_goals try simp only[V,↓reduceIte,rA,reduceCtorEq,x0,x3,e5,d2]
  ·exact r2
  ·grind
  grind
theorem Yj(w:Vl Qu)(k:Ho)(G:Qu->Vl Pr)(hN:w.l.length<2^61)(hc:∀q∈w.l,(∀h,aE E1 (.f 49) [.agg q.cells,.agg k.cells] h ((G q).A Pr.cells) h)/\(G q).l.length<2^61/\∀p∈(G q).l,p.nodes<2^61)(h:AH):
  aE E1 (.f 27) [w.A Qu.cells,.agg k.cells] h ((⟨gh G [] w.l,ai,Y⟩:Vl Pr).A Pr.cells) h:=by
 refine sf rf bNK (sE Tree.vl (Tree.ho k)) (λs hs hh hd hr=>?_) h;have h0:=hs 0 _ rfl;have h1:=hs 1 _ rfl;simp[aYE,f27,V, *];refine(Pn w k G hN (lo:=1) de w.l 0 _ (.val (.slice Y 0 0)) [] rfl (il _) hc aV.nil ?_ (λq hq=>by cases hq) de ?_ ?_ ?_ ?_ ?_ ?_).mono ?_
 all_goals try simp only[V,↓reduceIte,rA,reduceCtorEq,h0,hd]
 ·decide
 ·rfl
 exact U122
end Go.Proofs.YtmbabhlmdhghdaaGreatDoor
