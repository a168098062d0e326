/- VDec VOkp VNm VFlt VOne VTerm VLf VAsk VZro VMost VDif VSrt VVal VValb -/
import Derived.Test.YtmbabhlmdhghdaaGreatDoorN7
set_option linter.all false
open Nat renaming reduceEqDiff->rA, reduceAdd->rB, reduceMul->rC
open Int renaming reduceEq->rD, reduceLT->rE, reduceLE->rF
open Option renaming some->Z, none->Y
open Bool renaming true->J, false->U
open List renaming all_eq_true->j3, flatMap_cons->Ag, length_append->jh, mem_cons_of_mem->iy, mem_cons_self->ip, mem_nil_iff->jd, mem_of_mem_drop->jp
open Nat renaming blt_eq->j8, le_refl->ij, le_succ->j5, le_trans->jg, lt_succ_self->je, zero_le->il
open Option renaming bind_some->jn
namespace Go.Proofs.YtmbabhlmdhghdaaGreatDoor
open Go Go.AM
set_option maxHeartbeats 4000000
set_option maxRecDepth 10000
def oO(a b:ByteArray):ByteArray:=⟨(a.data.toList++b.data.toList).toArray⟩
theorem tD(a b:ByteArray):(oO a b).size=a.size+b.size:=by
 show(a.data.toList++b.data.toList).toArray.size=a.data.size+b.data.size;simp
theorem ub{P:Program}{t:TypeId}{g:Bool}{a b:ByteArray}(h:a.size+b.size<=2^60):dM P .add t g (vS a) (vS b)=Z (vS (oO a b)):=by
 have:Nat.ble (a.size+b.size) (2^60)=J:=Sa;simp only[dM,m7,this,cond_true,Option.map_some];rfl
def strP(n:Nat)(t:AV):Prop:=∃b:ByteArray,t=vS b/\b.size<=n
theorem aZH:∀n:Nat,n<10->∃b:ByteArray,b.size<=1/\eE (vS ⟨#[48,49,50,51,52,53,54,55,56,57]⟩) (Z n) (Z (n+1))=Z (vS b):=λn hn=>by
 have:n=0\/n=1\/n=2\/n=3\/n=4\/n=5\/n=6\/n=7\/n=8\/n=9:=om;rcases this with rfl|rfl|rfl|rfl|rfl|rfl|rfl|rfl|rfl|rfl<;>exact⟨_,de,rfl⟩
theorem tW:∀(k n:Nat),n<10^(k+1)->n<10^19->k<=20->∃b:ByteArray,b.size<=k+1/\∀h,aE E1 (.f 135) [vI (n:Nat)] h (vS b) h
 |k,n,hk,hn,hkb=>by
  by_cases h10:n<10
  ·obtain⟨b,hb,hs⟩:=aZH n h10;obtain⟨t,⟨c,rfl,hc⟩,hr⟩:=tI (g:=135) (l:=[vI (n:Nat)]) (P:=strP (k+1)) rf Gq (qr (Tree.val _)) λs hs' hh hd hr=>by
    have h0:=hs' 0 _ rfl;have d1:decide ((n:Int)<0)=U:=by rfl
    have d2:decide ((n:Int)<10)=J:=Gr;have w1:IntKind.i64.wrap ((n:Int)+1)=((n+1:Nat):Int):=by grind [sP]
    simp only[mW,f135,V,seval, *];exact⟨_,rfl,_,0,de,Rep.leaf (aj.val _),b,rfl,om⟩
   grind
  ·match k,hk,hkb with
   |0,hk,hkb=>omega
   |k+1,hk,hkb=>
    have hq:n/10<10^(k+1):=Gr;obtain⟨b1,l1,c1⟩:=tW k (n/10) hq om om;obtain⟨b2,l2,c2⟩:=tW 0 (n%10) om om om;obtain⟨t,⟨c,rfl,hc⟩,hr⟩:=tI (g:=135) (l:=[vI (n:Nat)]) (P:=strP (k+1+1)) rf Gq (qr (Tree.val _)) λs hs' hh hd hr=>by
     have h0:=hs' 0 _ rfl;have d1:decide ((n:Int)<0)=U:=by rfl
     have d2:decide ((n:Int)<10)=U:=Gr;have q1:∀(P:Program) (t:TypeId) (g:Bool),dM P .quo t g (vI (n:Nat)) (vI 10)=Z (vI ((n/10:Nat):Int)):=λP t g=>by
      rw[Nh de];have:(n:Int).tdiv 10=((n/10:Nat):Int):=rfl
      grind [sP]
     have q2:∀(P:Program) (t:TypeId) (g:Bool),dM P .rem t g (vI (n:Nat)) (vI 10)=Z (vI ((n%10:Nat):Int)):=by grind [aRG]
     simp only[mW,f135,V,ac c1,ac c2,ub (show b1.size+b2.size<=2^60 by omega),seval, *]
     exact U330
    grind
theorem En(n:Int)(h1: -9223372036854775808<=n)(h2:n<9223372036854775808):∃b:ByteArray,b.size<=30/\∀h,aE E1 (.f 135) [vI n] h (vS b) h:=by
 by_cases hn:0<=n
 ·obtain⟨m,rfl⟩:=Int.eq_ofNat_of_zero_le hn;obtain⟨b,hb,hr⟩:=tW 18 m Gr om de
  grind
 ·obtain⟨m,hm⟩:∃m:Nat,n= -(m:Int):=⟨n.natAbs,om⟩;subst hm;have hs1:(⟨#[45]⟩:ByteArray).size=1:=rfl;have d1:decide (-(m:Int)<0)=J:=Gr
  by_cases h10:m<10
  ·obtain⟨b,hb,hr0⟩:=tW 0 m om om de;obtain⟨t,⟨c,rfl,hc⟩,hr⟩:=tI (g:=135) (l:=[vI (-(m:Int))]) (P:=strP 30) rf Gq (qr (Tree.val _)) λs hs' hh hd hr=>by
    have h0:=hs' 0 _ rfl;have d2:decide (-10< -(m:Int))=J:=Gr;have w1:IntKind.i64.wrap (0- -(m:Int))=((m:Nat):Int):=by
     grind [sP]
    simp only[mW,f135,V,ac hr0,ub (show(⟨#[45]⟩:ByteArray).size+b.size<=2^60 by omega),seval, *]
    exact U330
   grind
  ·obtain⟨b1,l1,c1⟩:=tW 18 (m/10) Gr om de;obtain⟨b2,l2,c2⟩:=tW 0 (m%10) om om de;obtain⟨t,⟨c,rfl,hc⟩,hr⟩:=tI (g:=135) (l:=[vI (-(m:Int))]) (P:=strP 30) rf Gq (qr (Tree.val _)) λs hs' hh hd hr=>by
    have h0:=hs' 0 _ rfl;have d2:decide (-10< -(m:Int))=U:=Gr;have q1:∀(P:Program) (t:TypeId) (g:Bool),dM P .quo t g (vI (-(m:Int))) (vI 10)=Z (vI (-((m/10:Nat):Int))):=λP t g=>by
     rw[Nh de,Int.neg_tdiv];have:(m:Int).tdiv 10=((m/10:Nat):Int):=rfl
     grind [IntWalk.i64_in]
    have q2:∀(P:Program) (t:TypeId) (g:Bool),dM P .rem t g (vI (-(m:Int))) (vI 10)=Z (vI (-((m%10:Nat):Int))):=by grind [aRG]
    have w1:∀j:Nat,j<2^62->IntKind.i64.wrap (0- -(j:Int))=(j:Int):=by grind [sP]
    simp only[mW,f135,V,↓reduceIte,rA,reduceCtorEq,h0,hh,hd,d1,d2,q1,q2,w1 _ (show m/10<2^62 by omega),w1 _ (show m%10<2^62 by omega),ac c1,ac c2,ub (show(⟨#[45]⟩:ByteArray).size+b1.size<=2^60 by omega),ub (show(oO ⟨#[45]⟩ b1).size+b2.size<=2^60 by grind [tD])]
    exact U330
   grind
theorem aCI{p:Pr}{z:Int}(h:∀h,aE E1 (.f 204) [p.av] h (vI z) h):Nb p=z:=by
 have:=((aMB p .empty).det (h .empty)).1
 grind
structure okOne (p:Pr):Prop where
 o1:1<=p.op
 o2:p.op<=18
 s:p.op=3\/p.op=4\/p.op=5->p.nm.size<=120
 n:p.op=1->inB p.n=J
 k:6<=p.op->1<=p.ks.length
 k2:6<=p.op->p.op≠9->p.op≠14->p.ks.length=2
theorem aDX{z l1 l2 b ok:Bool}(h:nvS z l1 l2 b ok=0):b=J\/ok=J:=by
 cases z<;>cases l1<;>cases l2<;>cases b<;>cases ok<;>first|exact .inl rfl|exact .inr rfl|cases h
theorem bDD{num e z l r m:Bool}(h:cu num e z l r m=0):r=J:=U8
theorem yB{a b:ByteArray}(h:aP a b=J):a.size=b.size:=by rw[wc h]
theorem Cw{b:ByteArray}(h:jC b=0):b.size<=120:=by
 unfold jC at h;cases hb:coreB b with
 |false=>grind
 |true=>
  unfold coreB at hb
  grind
theorem bOT(p:Pr)(h:Nb p=0):okOne p:=by
 by_cases ho:p.op<1\/18<p.op
 ·have:=aCI (Du p ho)
  grind
 ·by_cases hn:isNamed p
  ·refine⟨om,om,λq=>?_,λq=>by grind [isNamed],λq=>by grind [isNamed],λq=>by grind [isNamed]⟩
   rcases hn with k|k|k
   ·have:=aCI (aHZ p k);rw[this] at h;rcases aDX h with q|q
    ·simp_all [Cw]
    ·rw[yB q];decide
   ·have:=aCI (aHY p k);rw[this] at h;rcases aDX h with q|q
    ·simp_all [Cw]
    ·rcases Bool.or_eq_true _ _▸q with q|q
     ·rw[yB q];decide
     ·rw[yB q];decide
   ·have:=aCI (aHX p k);rw[this] at h;rcases aDX h with q|q<;>simp_all [Cw]
  ·obtain⟨a1,a2,a3,a4,a5⟩:=bIQ hn h;refine⟨a1,a2,λq=>absurd q hn,λq=>?_,λq=>?_,λq q1 q2=>a5 ⟨q,q1,q2⟩⟩
   ·have:=aCI (wu p q)
    grind [bDD]
   grind
mutual
def okT:Pr->Prop
 |.mk o nm n ks nl cap=>okOne (.mk o nm n ks nl cap)/\okTL ks
def okTL:List Pr->Prop
 | []=>True
 |k::r=>okT k/\okTL r
end
mutual
theorem aLN:∀p:Pr,chk Nb p=0->okT p
 |.mk o nm n ks nl cap,h=>by
  rw[chk] at h;split at h
  ·rename_i h0;exact⟨bOT _ h0,aBS ks h⟩
  grind
theorem aBS:∀l:List Pr,jX Nb l=0->okTL l
 | [],_=>trivial
 |k::r,h=>by
  rw[jX] at h;split at h
  ·rename_i h0;exact⟨aLN k h0,aBS r h⟩
  grind
end
theorem okT.one{p:Pr}(h:okT p):okOne p:=by cases p;exact h.1
theorem Zc:∀{l:List Pr},okTL l->∀k∈l,okT k
 | [],_,k,hk=>by cases hk
 |p::r,h,k,hk=>by
  rcases U201 with rfl|hk
  ·exact h.1
  ·exact Zc h.2 k hk
theorem okT.kid{p:Pr}(h:okT p):∀k∈p.ks,okT k:=by cases p;exact Zc h.2
theorem bHT{a0 a1 a2 a3 a4 a5 a6 a7 a8 a9 a10 a11 a12 x:AV}:dV [a0,a1,a2,a3,a4,a5,a6,a7,a8,a9,a10,a11,a12] 4 1 [x]=Z [a0,a1,a2,a3,x,a5,a6,a7,a8,a9,a10,a11,a12]:=rfl
theorem bHS{a0 a1 a2 a3 a4 a5 a6 a7 a8 a9 a10 a11 a12 x:AV}:dV [a0,a1,a2,a3,a4,a5,a6,a7,a8,a9,a10,a11,a12] 5 1 [x]=Z [a0,a1,a2,a3,a4,x,a6,a7,a8,a9,a10,a11,a12]:=rfl
theorem bHR{a0 a1 a2 a3 a4 a5 a6 a7 a8 a9 a10 a11 a12 x:AV}:dV [a0,a1,a2,a3,a4,a5,a6,a7,a8,a9,a10,a11,a12] 6 1 [x]=Z [a0,a1,a2,a3,a4,a5,x,a7,a8,a9,a10,a11,a12]:=rfl
theorem bHQ{a0 a1 a2 a3 a4 a5 a6 a7 a8 a9 a10 a11 a12 x:AV}:dV [a0,a1,a2,a3,a4,a5,a6,a7,a8,a9,a10,a11,a12] 7 1 [x]=Z [a0,a1,a2,a3,a4,a5,a6,x,a8,a9,a10,a11,a12]:=rfl
theorem bHP{a0 a1 a2 a3 a4 a5 a6 a7 a8 a9 a10 a11 a12 x:AV}:dV [a0,a1,a2,a3,a4,a5,a6,a7,a8,a9,a10,a11,a12] 8 1 [x]=Z [a0,a1,a2,a3,a4,a5,a6,a7,x,a9,a10,a11,a12]:=rfl
theorem bHO{a0 a1 a2 a3 a4 a5 a6 a7 a8 a9 a10 a11 a12 x:AV}:dV [a0,a1,a2,a3,a4,a5,a6,a7,a8,a9,a10,a11,a12] 9 1 [x]=Z [a0,a1,a2,a3,a4,a5,a6,a7,a8,x,a10,a11,a12]:=rfl
theorem aTA{a0 a1 a2 a3 a4 a5 a6 a7 a8 a9 a10 a11 a12 x:AV}:dV [a0,a1,a2,a3,a4,a5,a6,a7,a8,a9,a10,a11,a12] 10 1 [x]=Z [a0,a1,a2,a3,a4,a5,a6,a7,a8,a9,x,a11,a12]:=rfl
theorem aSZ{a0 a1 a2 a3 a4 a5 a6 a7 a8 a9 a10 a11 a12 x:AV}:dV [a0,a1,a2,a3,a4,a5,a6,a7,a8,a9,a10,a11,a12] 11 1 [x]=Z [a0,a1,a2,a3,a4,a5,a6,a7,a8,a9,a10,x,a12]:=rfl
theorem aSY{a0 a1 a2 a3 a4 a5 a6 a7 a8 a9 a10 a11 a12 x:AV}:dV [a0,a1,a2,a3,a4,a5,a6,a7,a8,a9,a10,a11,a12] 12 1 [x]=Z [a0,a1,a2,a3,a4,a5,a6,a7,a8,a9,a10,a11,x]:=rfl
def signs:List AV:=[vS ⟨#[43]⟩,vS ⟨#[45]⟩,vS ⟨#[42]⟩,vS ⟨#[45]⟩,vS ⟨#[61]⟩,vS ⟨#[33,61]⟩,vS ⟨#[60]⟩,vS ⟨#[60,61]⟩,vS ⟨#[33]⟩,vS ⟨#[38]⟩,vS ⟨#[124]⟩,vS ⟨#[61,62]⟩,vS ⟨#[60,61,62]⟩]
theorem aSH:∀m:Nat,m<13->∃(b:ByteArray) (r:List AV),b.size<=3/\cfB (Z (.cells signs J)) m=Z (vS b::r):=λm hm=>by
 have:m=0\/m=1\/m=2\/m=3\/m=4\/m=5\/m=6\/m=7\/m=8\/m=9\/m=10\/m=11\/m=12:=om;rcases this with rfl|rfl|rfl|rfl|rfl|rfl|rfl|rfl|rfl|rfl|rfl|rfl|rfl<;>exact⟨_,_,de,rfl⟩
theorem Rk(n:Int)(h1:1<=n)(h2:n<=18):∃b:ByteArray,b.size<=3/\∀h,aE E1 (.f 167) [vI n] h (vS b) h:=by
 obtain⟨t,⟨c,rfl,hc⟩,hr⟩:=tI (g:=167) (l:=[vI n]) (P:=strP 3) rf bEV (qr (Tree.val _)) λs hs hh hd hr=>by
  have h0:=hs 0 _ rfl;have hL:∀(rw:Bool),Blk.cells [vS ⟨#[43]⟩,vS ⟨#[45]⟩,vS ⟨#[42]⟩,vS ⟨#[45]⟩,vS ⟨#[61]⟩,vS ⟨#[33,61]⟩,vS ⟨#[60]⟩,vS ⟨#[60,61]⟩,vS ⟨#[33]⟩,vS ⟨#[38]⟩,vS ⟨#[124]⟩,vS ⟨#[61,62]⟩,vS ⟨#[60,61,62]⟩] rw=.cells signs rw:=λ_=>rfl;have d2:decide (18<n)=U:=Gr
  by_cases h6:n<6
  ·have d1:decide (n<6)=J:=by grind
   simp only[Uy,f167,V,WF,h0,hh,hd,d1,bHT,bHS,bHR,bHQ,bHP,bHO,aTA,aSZ,aSY,seval];exact⟨_,rfl,_,0,de,Rep.leaf (aj.val _),_,rfl,de⟩
  ·have d1:decide (n<6)=U:=by grind
   obtain⟨m,rfl⟩:∃m:Nat,n=(m:Int)+6:=⟨(n-6).toNat,om⟩;have w:IntKind.i64.wrap ((m:Int)+6-6)=(m:Nat):=by
    grind [sP]
   obtain⟨b,r,hb,hc⟩:=aSH m om;have hix:aX 1 (.own 0 0 13 1 (Z 13)) m=Z (.ptr 0 (0+m*1)):=wt om;simp only[Uy,f167,V,WF,Nat.mul_one,bHT,bHS,bHR,bHQ,bHP,bHO,aTA,aSZ,aSY,seval, *];exact⟨_,rfl,_,0,de,Rep.leaf (aj.val _),_,rfl,hb⟩
 grind
def NmOk(k:Pr):Prop:=∃b:ByteArray,b.size+1<=200*k.nodes/\∀h,aE E1 (.f 136) [k.av] h (vS b) h
theorem vq(p:Pr)(M:Nat)(hM:M<=2^59)(hN:p.ks.length<2^59):∀(r:List Pr) (i:Nat) (s:St) (acc:ByteArray),p.ks.drop i=r->i<=p.ks.length->(∀k∈r,NmOk k)->acc.size+200*Pr.aI r<=M->s.h.get 0=Z (.cells p.cells J)->
  s.eval (.t 1)=Z (.ptr 0 0)->s.eval (.t 3)=Z (vS acc)->s.eval (.t 4)=Z (vI (i:Nat))->s.defers=[]->
  Run E1 oX s λe s'=>e=.exit 1/\s'.defers=[]/\∃acc:ByteArray,s'.eval (.t 3)=Z (vS acc)/\acc.size<=M
 | [],i,s,acc,hd,hi,hk,hm,g0,h1,h3,h4,hf=>by
  have hl:=ca hd hi;subst hl;have c3:=U331;apply az (rfl:oX=.loop kw);simp only[kw,V,tE,seval, *]
  grind
 |k::r,i,s,acc,hd,hi,hk,hm,g0,h1,h3,h4,hf=>by
  have hl:=cz hd;have hlt:=rj hl;have w1:=U204;have c3:=U331;have hix:=sY hd;obtain⟨b,hb,hc⟩:=hk k ip;rw[Pr.aI] at hm;have hs1:(⟨#[44]⟩:ByteArray).size=1:=rfl;apply az (rfl:oX=.loop kw)
  by_cases h0:0<i
  ·have d1:decide (0<(i:Int))=J:=by grind
   simp only[kw,V,↓reduceIte,rA,h1,h3,h4,g0,c3,hlt,d1,hix,ac hc,ub (show acc.size+(⟨#[44]⟩:ByteArray).size<=2^60 by omega),ub (show(oO acc ⟨#[44]⟩).size+b.size<=2^60 by grind [tD]),w1]
   refine vq p M hM hN r (i+1) _ (oO (oO acc ⟨#[44]⟩) b) (ba hd) om (λk' hk'=>hk k' (iy _ hk')) (by grind [tD]) ?_ ?_ ?_ ?_ ?_
   all_goals try simp[V, *]
  ·have d1:decide (0<(i:Int))=U:=by grind
   simp only[kw,V,ac hc,ub (show acc.size+b.size<=2^60 by omega),seval, *]
   refine vq p M hM hN r (i+1) _ (oO acc b) (ba hd) om (λk' hk'=>hk k' (iy _ hk')) (by grind [tD]) ?_ ?_ ?_ ?_ ?_
   all_goals try simp only[V,↓reduceIte,rA,h1,hf,g0]
theorem aOI(p:Pr)(ho:okOne p)(hn:p.nodes=1+Pr.aI p.ks)(hb:p.nodes<=1000000)(hN:p.ks.length<2^59)(hk:∀k∈p.ks,NmOk k):NmOk p:=by
 obtain⟨b0,l0,c0⟩:=Rk p.op ho.o1 ho.o2;obtain⟨t,⟨c,rfl,hc⟩,hr⟩:=tI (g:=136) (l:=[p.av]) (P:=strP (200*p.nodes-1)) rf bFH (qr (Tree.pr p)) λs hs hh hd hr=>by
  have h0:=hs 0 _ rfl;have a0:=U332;have a1:=U333;have a2:=U334;have t0:=U335;have hs1:(⟨#[40]⟩:ByteArray).size=1:=rfl;have hs2:(⟨#[41]⟩:ByteArray).size=1:=rfl;have hs3:(⟨#[63]⟩:ByteArray).size=1:=rfl;have hp:=ho.s
  by_cases q1:p.op=1
  ·have hin:=uj.1 (ho.n q1);obtain⟨b,hb,hcd⟩:=En p.n om om;have d1:decide (p.op=1)=J:=Gr;simp only[gm,f136,V,h0,hh,hd,a0,a2,t0,ac c0,d1,ac hcd,seval];exact⟨_,rfl,_,0,de,Rep.leaf (aj.val _),_,rfl,om⟩
  have d1:=U227
  by_cases q2:p.op=2
  ·have d2:decide (p.op=2)=J:=by grind
   by_cases hn1:p.n=1
   ·have dn:decide (p.n=1)=J:=by grind
    simp only[gm,f136,V,h0,hh,hd,a0,a2,t0,ac c0,d1,d2,dn,seval];exact⟨_,rfl,_,0,de,Rep.leaf (aj.val _),_,rfl,by show 4<=_;omega⟩
   ·have dn:decide (p.n=1)=U:=by grind
    simp only[gm,f136,V,h0,hh,hd,a0,a2,t0,ac c0,d1,d2,dn,seval];exact⟨_,rfl,_,0,de,Rep.leaf (aj.val _),_,rfl,by show 5<=_;omega⟩
  have d2:=U228
  by_cases q3:p.op=3
  ·have d3:decide (p.op=3)=J:=by grind
   have:=hp (.inl q3);simp only[gm,f136,V,h0,hh,hd,a0,a1,t0,ac c0,d1,d2,d3,seval];exact⟨_,rfl,_,0,de,Rep.leaf (aj.val _),_,rfl,om⟩
  have d3:=U336
  by_cases q4:p.op=4
  ·have d4:decide (p.op=4)=J:=by grind
   have:=hp (.inr (.inl q4));simp[gm,f136,V,h0,hh,a0,a1,t0,ac c0,d1,d2,d3,d4,ub (show p.nm.size+(⟨#[40]⟩:ByteArray).size<=2^60 by omega)]
   refine(vq p (122+200*Pr.aI p.ks) om hN p.ks 0 _ (oO p.nm ⟨#[40]⟩) rfl (il _) hk (by grind [tD]) ?_ ?_ ?_ ?_ ?_).mono ?_
   all_goals try simp only[V,↓reduceIte,rA,hd]
   ·rfl
   exact U132
  have d4:decide (p.op=4)=U:=Gr
  by_cases q5:p.op=5
  ·have d5:decide (p.op=5)=J:=by grind
   have:=hp (.inr (.inr q5));simp only[gm,f136,V,↓reduceIte,rA,h0,hh,a0,a1,t0,ac c0,d1,d2,d3,d4,d5,ub (show(⟨#[63]⟩:ByteArray).size+p.nm.size<=2^60 by omega),ub (show(oO ⟨#[63]⟩ p.nm).size+(⟨#[40]⟩:ByteArray).size<=2^60 by grind [tD])]
   refine(vq p (122+200*Pr.aI p.ks) om hN p.ks 0 _ (oO (oO ⟨#[63]⟩ p.nm) ⟨#[40]⟩) rfl (il _) hk (by grind [tD]) ?_ ?_ ?_ ?_ ?_).mono ?_
   all_goals try simp only[V,↓reduceIte,rA,hd]
   ·rfl
   exact U132
  have d5:decide (p.op=5)=U:=Gr;simp[gm,f136,V,h0,hh,a0,t0,ac c0,d1,d2,d3,d4,d5,ub (show b0.size+(⟨#[40]⟩:ByteArray).size<=2^60 by omega)]
  refine(vq p (122+200*Pr.aI p.ks) om hN p.ks 0 _ (oO b0 ⟨#[40]⟩) rfl (il _) hk (by grind [tD]) ?_ ?_ ?_ ?_ ?_).mono ?_
  all_goals try simp only[V,↓reduceIte,rA,hd]
  ·rfl
  exact U132
 have h1:1<=p.nodes:=om;exact⟨c,om,hr⟩
theorem aOD:∀p:Pr,1<=p.nodes
 |.mk _ _ _ ks _ _=>by show 1<=1+Pr.aI ks;omega
theorem yM:∀l:List Pr,l.length<=Pr.aI l
 | []=>ij _
 |p::r=>by
  have:=aOD p;have:=yM r
  grind [Pr.aI]
mutual
theorem yx:∀p:Pr,okT p->p.nodes<=1000000->NmOk p
 |.mk o s n ks nl cap,h,hb=>by
  have hb':1+Pr.aI ks<=1000000:=hb;exact aOI (.mk o s n ks nl cap) h.1 rfl hb (by have:=yM ks;show ks.length<_;omega) (xp ks h.2 om)
theorem xp:∀l:List Pr,okTL l->Pr.aI l<=1000000->∀k∈l,NmOk k
 | [],_,_,k,hk=>by cases hk
 |p::r,h,hb,k,hk=>by
  have hb':p.nodes+Pr.aI r<=1000000:=hb;rcases U201 with e|hk
  ·rw[e];exact yx p h.1 om
  ·exact xp r h.2 om k hk
end
theorem Lh{h:AH}{lo k es:Nat}{a b c:Value}{v:AV}{cs:List AV}(r:bn h lo k es v cs):below h.next (aQ [.val a,.val b,.val c,v])=J:=by
 have:aQ [.val a,.val b,.val c,v]=ids v:=by grind [aQ,ids]
 rw[this];exact r.below
structure tmOne (p:Pr):Prop where
 k1:p.op=9->1<=p.ks.length
 k2:p.op=6\/p.op=7\/p.op=8->2<=p.ks.length
mutual
def tmT:Pr->Prop
 |.mk o nm n ks nl cap=>tmOne (.mk o nm n ks nl cap)/\tmTL ks
def tmTL:List Pr->Prop
 | []=>True
 |k::r=>tmT k/\tmTL r
end
theorem Nj:∀{l:List Pr} {p:Pr},tmTL l->tmT p->tmTL (l++[p])
 | [],p,_,h=>⟨h,trivial⟩
 |k::r,p,h,h'=>⟨h.1,Nj h.2 h'⟩
theorem tz:∀{l:List Pr} {p:Pr},Pr.aI (l++[p])=Pr.aI l+p.nodes
 | [],p=>by grind [Pr.aI]
 |k::r,p=>by simp[Pr.aI,tz (l:=r)];omega
def FlOk(p:Pr):Prop:=∃q:Pr,(tmT q/\q.nodes<=p.nodes)/\∀h,aE E1 (.f 102) [p.av] h q.av h
theorem Qj(p:Pr)(hN:p.ks.length<2^29):∀(r:List Pr) (i:Nat) (s:St) (v:AV) (out:List Pr),p.ks.drop i=r->i<=p.ks.length->(∀k∈r,FlOk k)->out.length=i->tmTL out->Pr.aI out+Pr.aI r<=Pr.aI p.ks->aV s.h 3 out.length 4 v (Pr.aG out)->3<=s.h.next->ak s.h->s.h.get 0=Z (.cells p.cells J)->(∃z,s.h.get 1=Z (.cells z J)/\z.length=4)->s.h.get 2=Z (.cells [vI p.op,vS p.nm,vI p.n,v] J)->
  s.eval (.t 1)=Z (.ptr 0 0)->s.eval (.t 2)=Z (.ptr 1 0)->s.eval (.t 3)=Z (.ptr 2 0)->s.eval (.t 4)=Z (vI (i:Nat))->s.defers=[]->
  Run E1 oz s λe s'=>e=.exit 0/\s'.defers=[]/\s'.eval (.t 2)=Z (.ptr 1 0)/\s'.eval (.t 3)=Z (.ptr 2 0)/\3<=s'.h.next/\(∃z,s'.h.get 1=Z (.cells z J)/\z.length=4)/\∃v out,s'.h.get 2=Z (.cells [vI p.op,vS p.nm,vI p.n,v] J)/\out.length=p.ks.length/\tmTL out/\aV s'.h 3 out.length 4 v (Pr.aG out)/\Pr.aI out<=Pr.aI p.ks
 | [],i,s,v,out,hd,hi,hk,hl',tt,hno,rv,hn,nt,g0,g1,g2,h1,h2,h3,h4,hf=>by
  have hl:=ca hd hi;subst hl;have c3:=U331;apply az (rfl:oz=.loop lh);simp only[lh,V,h1,h2,h3,h4,hf,g0,tE,seval]
  grind
 |k::r,i,s,v,out,hd,hi,hk,hl',tt,hno,rv,hn,nt,g0,g1,g2,h1,h2,h3,h4,hf=>by
  have hl:=cz hd;have hlt:=rj hl;have w1:=U204;have c3:=U331;have c3':∀w:AV,cfB (Z (.cells [vI p.op,vS p.nm,vI p.n,w] J)) 3=Z [w]:=λ_=>rfl;have hix:=sY hd;obtain⟨q,⟨tq,nq⟩,hc⟩:=hk k ip;have kids0:=U255;have k0:∀o,aN s.h (Z (.ptr 0 o))=J:=λo=>bm om g0 p.bM;have kv:=bz rv.x.nice;have k2:∀o,aN s.h (Z (.ptr 2 o))=J:=λo=>rg om g2 (Lh rv.x);have ns:=λx=>(rv.to (h':=s.h.alloc x) (j5 _) λy _ y2=>am y2).x.nice;apply az (rfl:oz=.loop lh);simp only[lh,aLA,V,seval, *];refine pb rfl ?_
  simp only[aKZ,X0,X1,X2,X3,X4,V,WF,an kids0,an k.ah,ge k.ah,ee hc,an q.ah,Pr.bM,sX,Pr.av,seval, *];refine sk (k:=out.length) (m:=1) (lo:=3) (v:=v) (x:=.own s.h.next 0 1 4 (Z 1)) (cs:=Pr.aG out) (new:=q.cells) ?_ ?_ ?_ de (by rw[q.len]) q.leaves (lR om de) ?_ ?_ ?_
  ·exact U46
  ·simp[V];omega
  ·refine kl (rw':=J) ?_ (by rw[q.len])
   simp[V]
  ·simp[V]
  ·simp[V]
  intro h2' rv2 n2 o2 t2 gn2;simp[V] at rv2 n2 o2 t2 gn2;have nt2:=t2 nt.alloc;have fr:∀z,z<3->h2'.get z=s.h.get z:=λz hz=>by
   exact U127
  have gg2:h2'.get 2=Z (.cells [vI p.op,vS p.nm,vI p.n,v] J):=Gr;have kO:=bz rv2.x.nice;have kc:∀o,aN h2' (Z (.ptr 2 o))=J:=λo=>rg om gg2 (tn (Lh rv.x) om);have hst:∀(h:AH) (w:AV),stK h 2 1 3 [w] (Z (.cells [vI p.op,vS p.nm,vI p.n,v] J))=Z (h.put 2 (Z (.cells [vI p.op,vS p.nm,vI p.n,w] J))):=λ_ _=>rfl;simp only[X0,X1,X3,X4,V,WF,h3,h4,gg2,kc,hst,w1,seval];refine(Qj p hN r (i+1) _ (.own (s.h.next+1) 0 (out.length+1) 4 Y) (out++[q]) (ba hd) om (λk' hk'=>hk k' (iy _ hk')) Gr (Nj tt tq) (by grind [tz,Pr.aI]) ?_ ?_ ?_ ?_ ?_ ?_ ?_ ?_ ?_ ?_ ?_)
  all_goals try simp only[V,↓reduceIte,rA,reduceCtorEq,h1,h2,h3,hf]
  ·rw[pl,jh];exact rv2.to (ij _) λz z1 _=>bc om
  ·omega
  ·exact nt2.put
  ·grind
  grind
theorem aPG(p:Pr)(ho:okOne p)(hno:p.nodes=1+Pr.aI p.ks)(hN:p.ks.length<2^29)(hnm:NmOk p)(hk:∀k∈p.ks,FlOk k):FlOk p:=by
 obtain⟨b,hb,hc⟩:=hnm;obtain⟨t,⟨q,rfl,hq⟩,hr⟩:=tI (g:=102) (l:=[p.av]) (P:=λt=>∃q:Pr,t=q.av/\(tmT q/\q.nodes<=p.nodes)) rf bGA (qr (Tree.pr p)) λs hs hh hd hr=>by
  have h0:=hs 0 _ rfl;have a0:=U332;have a1:=U333;have a2:=U334;have t0:=U335;have t4:=U295;have hst:=U337
  by_cases q4:p.op=4
  ·have d4:decide (p.op=4)=J:=by grind
   simp only[Vy,f102,V,WF,h0,hh,hd,a0,t0,t4,d4,ac hc,hst,seval];exact⟨_,rfl,_,2,de,Rz (lo:=0) (l:=[]) aV.nil rfl,Pr.mk 3 b 0 [] ai Y,rfl,⟨⟨λq=>(by cases q),λq=>(by rcases q with q|q|q<;>cases q)⟩,trivial⟩,by rw[hno];show 1+0<=_;omega⟩
  ·have d4:decide (p.op=4)=U:=by grind
   simp[Vy,f102,V,WF,h0,hh,d4];refine(Qj p hN p.ks 0 _ (.val (.slice Y 0 0)) [] rfl (il _) hk rfl trivial (by grind [Pr.aI]) aV.nil ?_ ?_ ?_ ?_ ?_ ?_ ?_ ?_ ?_ ?_).mono ?_
   all_goals try simp only[V,↓reduceIte,rA,rB,reduceCtorEq,hd]
   ·decide
   ·exact U307
   ·grind
   ·rfl
   rintro e s1 ⟨rfl,d1,e2,e3,n1,⟨z,g1,lz⟩,v,out,g2,lo,tt,rv,no⟩;have hst2:∀(h:AH) (x1 x2 x3 x4:AV),stK h 1 4 0 [x1,x2,x3,x4] (Z (.cells z J))=Z (h.put 1 (Z (.cells [x1,x2,x3,x4] J))):=λh _ _ _ _=>cy lz rfl;simp only[V,WF,e2,e3,g1,g2,d1,hst2,seval];exact⟨_,rfl,_,2,de,Rz (rv.to (h':=s1.h.put 1 (Z (.cells [vI p.op,vS p.nm,vI p.n,v] J))) (ij _) λz z1 _=>bc om) rfl,Pr.mk p.op p.nm p.n out ai Y,rfl,⟨⟨λq=>(by show 1<=out.length;have:=ho.k (by have:p.op=9:=q;omega);omega),λq=>(by show 2<=out.length;have q:p.op=6\/p.op=7\/p.op=8:=q;have:=ho.k2 om om om;omega)⟩,tt⟩,by rw[hno];show 1+Pr.aI out<=_;omega⟩
 exact⟨q,hq,hr⟩
mutual
theorem uk:∀p:Pr,okT p->p.nodes<=1000000->FlOk p
 |.mk o s n ks nl cap,h,hb=>by
  have hb':1+Pr.aI ks<=1000000:=hb;exact aPG (.mk o s n ks nl cap) h.1 rfl (by have:=yM ks;show ks.length<_;omega) (yx _ h hb) (xu ks h.2 om)
theorem xu:∀l:List Pr,okTL l->Pr.aI l<=1000000->∀k∈l,FlOk k
 | [],_,_,k,hk=>by cases hk
 |p::r,h,hb,k,hk=>by
  have hb':p.nodes+Pr.aI r<=1000000:=hb;rcases U201 with e|hk
  ·rw[e];exact uk p h.1 om
  ·exact xu r h.2 om k hk
end
theorem uf(b:Bool)(h:AH):aE E1 (.f 98) [Vb b] h (Pr.mk 2 ⟨#[]⟩ (bif b then 1 else 0) [] ai Y).av h:=by
 refine sf rf bLK (qr (Tree.val _)) (λs hs hh hd hr=>?_) h;have h0:=hs 0 _ rfl;have hst:=U337;cases b with
 |true=>
  exact U133
 |false=>
  exact U133
theorem bCH{h:AH}{lo:Nat}{v:AV}{out:List Tm}{k:Int}(r:bn h lo out.length 2 v (out.flatMap Tm.cells)):∃y:Ln,Rep h 0 h.next 2 (.agg [v,vI k]) (.agg y.cells)/\y.ts.l=out:=by
 have r1:=U312;obtain⟨w,hw,hwl⟩:∃w:Vl Tm,iA v out.length (out.flatMap Tm.cells)=w.A Tm.cells/\w.l=out:=by
  obtain⟨cap,e|e⟩:=Gg r rfl
  ·grind
  ·exact U45
 have r2:=Rep.agg (h:=h) (lo:=0) (hi:=h.next) (n:=1) (ps:=[(v,iA v out.length (out.flatMap Tm.cells)),(vI k,vI k)]) (λp hp=>by
  simp[jd] at hp;rcases hp with rfl|rfl<;>grind [Rep.leaf,aj.val])
 exact⟨⟨w,k⟩,by grind [Ln.cells],hwl⟩
theorem yJ(p:Pr)(ho:okT p)(hb:p.nodes<=1000000)(c k:Int):∃y:Ln,y.ts.l.length<=24/\∀h,aE E1 (.f 66) [p.av,vI c,vI k] h (.agg y.cells) h:=by
 obtain⟨q,_,hc⟩:=uk p ho hb;obtain⟨t,⟨y,rfl,hy⟩,hr⟩:=tI (g:=66) (l:=[p.av,vI c,vI k]) (P:=λt=>∃y:Ln,t=.agg y.cells/\y.ts.l.length<=24) rf bMF (yy (Tree.pr p) (Tree.val _) (Tree.val _)) λs hs hh hd hr=>by
  have h0:=hs 0 _ rfl;have h1:=hs 1 _ rfl;have h2:=hs 2 _ rfl;have t4:=U295;have hst:=U338;simp[aWA,f66,V,ac hc, *];have qc:ids (AV.agg q.cells)=[]:=q.ah;rw[aUZ (cs:=q.cells) (v:=vS q.nm) (by simp[V]) (by rw[q.len];decide) (by rw[Pr.bS];rfl)]
  simp only[V,WF,yG,sW,seval, *];obtain⟨y,r2,hy⟩:=bCH (k:=k) (bn.made (h:=((((AH.empty.alloc (.cells p.cells J)).alloc (.cells [.val (.slice Y 0 0),vI 0] J)).alloc (.cells [vS q.nm,vI c] J)).put 1 (Z (.cells [.own 2 0 1 2 (Z 1),vI k] J)))) (lo:=0) (b:=2) (k:=[(⟨q.nm,c⟩:Tm)].length) (es:=2) (cs:=[(⟨q.nm,c⟩:Tm)].flatMap Tm.cells) (λv hv=>Tm.leaves ⟨q.nm,c⟩ v hv) rfl (il _) (je 2) (by rw[bc de];exact co (h:=(AH.empty.alloc (.cells p.cells J)).alloc (.cells [.val (.slice Y 0 0),vI 0] J))))
  exact⟨_,rfl,_,2,de,r2,y,rfl,Gr⟩
 grind
set_option maxHeartbeats 8000000
def TmOk(p:Pr):Prop:=∃t,lnP t/\∀h,aE E1 (.f 130) [p.av] h t h
theorem vQ{t:AV}(h:lnP t):∃(y:Ln) (b:Bool),t=.tup [.agg y.cells,Vb b]/\y.ts.l.length<=24:=h
theorem yq{h:AH}(y:Ln)(b:Bool)(hy:y.ts.l.length<=24):∃t n,n<1000/\Rep h 0 h.next n (.tup [.agg y.cells,Vb b]) t/\lnP t:=by
 have r2:=Rep.tup (h:=h) (lo:=0) (hi:=h.next) (n:=1) (ps:=[(.agg y.cells,.agg y.cells),(Vb b,Vb b)]) (λp hp=>by
  simp[jd] at hp;rcases hp with rfl|rfl
  ·exact sJ y.leaves
  ·exact Rep.leaf (aj.val _))
 exact⟨_,2,de,r2,y,b,rfl,hy⟩
theorem aCT(p:Pr)(ho:tmOne p)(hk:∀k∈p.ks,TmOk k):TmOk p:=by
 refine tI rf bFM (qr (Tree.pr p)) λs hs hh hd hr=>?_
 have h0:=hs 0 _ rfl;have a0:=U332;have a1:=U333;have a2:=U334;have a3:=U331;have t0:=U335;have hst:=U338;have hstL:∀(h:AH) b (u w:AV) (y:Ln),stK h b 2 0 y.cells (Z (.cells [u,w] J))=Z (h.put b (Z (.cells y.cells J))):=λh b u w y=>cy rfl y.len;have tL:∀y:Ln,takeN (Z 2) y.cells=Z (.agg y.cells):=λy=>cf y.len;have fin:∀(h:AH) (q:Int) (b:Bool),∃rs,Z [AV.agg [.val (.slice Y 0 0),vI q],Vb b]=Z rs/\∃t n,n<1000/\Rep h 0 h.next n (bQ rs) t/\lnP t:=λh q b=>⟨_,rfl,yq ⟨⟨[],ai,Y⟩,q⟩ b (il _)⟩
 by_cases q1:p.op=1
 ·have d1:decide (p.op=1)=J:=by grind
  obtain⟨z,_,hck⟩:=sU ⟨⟨[],ai,Y⟩,p.n⟩;have hck:∀h,aE E1 (.f 129) [.agg [.val (.slice Y 0 0),vI p.n]] h (vI z) h:=hck;have ix:ids (.agg [.val (.slice Y 0 0),vI p.n])=[]:=rfl;simp[eN,f130,aKL,V,WF,h0,hh,d1,hst];refine pb rfl ?_
  simp only[aKI,X0,X1,X2,X3,X4,V,WF,sW,an ix,ge ix,ee hck,seval, *];refine⟨bm (show(2:Nat)<3 from by decide) lA rfl,bm (show(2:Nat)<3 from by decide) lA rfl,bm (cs:=[.val (.slice Y 0 0),vI 0]) (rw:=J) (show(1:Nat)<3 from by decide) (by simp[AH.aO,AH.aS,xG]) rfl,?_⟩
  exact U329
 have d1:=U227
 by_cases q3:p.op=3
 ·have d3:decide (p.op=3)=J:=by grind
  simp[eN,f130,V,WF,h0,hh,a0,a1,t0,aKK,d1,d3,hst,yG];refine pb rfl ?_
  obtain⟨H,hH⟩:∃H,((((AH.empty.alloc (.cells p.cells J)).alloc (.cells [.val (.slice Y 0 0),vI 0] J)).alloc (.cells [vS p.nm,vI 1] J)).alloc (.cells [.val (.slice Y 0 0),vI 0] J)).put 3 (Z (.cells [.own 2 0 1 2 (Z 1),vI 0] J))=H:=⟨_,rfl⟩;have Hn:H.next=4:=by rw[<-hH];rfl
  have H3:H.get 3=Z (.cells [.own 2 0 1 2 (Z 1),vI 0] J):=by grind [lA]
  have H2:H.get 2=Z (.cells [vS p.nm,vI 1] J):=by grind [AH.aO,AH.aS,tG,xG]
  have H1:=U339;have Ht:ak H:=by rw[<-hH];exact ak.empty.alloc.alloc.alloc.alloc.put
  have lf2:∀c∈[AV.val (.string p.nm),vI 1],aj c:=Tm.leaves ⟨p.nm,1⟩;have k3:∀o,aN H (Z (.ptr 3 o))=J:=λo=>rg om H3 (by simp_all [aQ,ids,below])
  have kA:∀h:AH,2<h.next->(∃rw,h.get 2=Z (.cells [vS p.nm,vI 1] rw))->aN h (Z (.agg [.own 2 0 1 2 (Z 1),vI 0]))=J:=λh q1 ⟨rw,q2⟩=>by
   have e:ids (AV.agg [.own 2 0 1 2 (Z 1),vI 0])=[2]:=rfl;have k:=uL (o:=0) (n:=1) (e:=2) (c:=Z 1) q1 q2 rfl;simp only[aN,fK,e] at k⊢
   exact k
  obtain⟨z,_,hck⟩:=sU ⟨⟨[⟨p.nm,1⟩],Y,Z 1⟩,0⟩;have hck:∀h,aE E1 (.f 129) ([]++[.agg [.imm [vS p.nm,vI 1] 1 (Z 1),vI 0]]) h (vI z) h:=hck;have tr:Tree (.agg [.imm [vS p.nm,vI 1] 1 (Z 1),vI 0]):=Tree.ln ⟨⟨[⟨p.nm,1⟩],Y,Z 1⟩,0⟩;simp[aKH,X0,X1,X2,X3,X4,V,hH,H3,k3,sW,kA H om ⟨J,H2⟩];refine rY (sK (j:=33) de (v:=.agg [.own 2 0 1 2 (Z 1),vI 0]) (by simp[V]) (λe=>by cases e)) ?_
  refine aEQ (xs:=[]) (ys:=[]) (rw:=J) (by show 2<H.next;omega) H2 lf2 rfl (aj.val _) (eJ (g:=129) rf) (λv hv=>by cases hv) (λv hv=>by cases hv) ?_ Ht tr hck ?_ ?_
  ·simp[X3,V];rfl
  ·simp[X3,X4]
  intro h' n1 gx gb nt;have n1:h'.next=4:=by rw[n1];exact Hn
  have g1':h'.get 1=Z (.cells [.val (.slice Y 0 0),vI 0] J):=by rw[gx 1 de];exact H1
  have k1':∀o,aN h' (Z (.ptr 1 o))=J:=λo=>bm om g1' rfl;simp only[X0,X1,X2,X3,X4,V,WF,k1',kA h' om gb,g1',hst,hd,sW,seval];obtain⟨rw',gb⟩:=gb;have gb2:(h'.put 1 (Z (.cells [.own 2 0 1 2 (Z 1),vI 0] J))).get 2=Z (.cells [vS p.nm,vI 1] rw'):=by grind [bc]
  have r1:=Rep.own (h:=h'.put 1 (Z (.cells [.own 2 0 1 2 (Z 1),vI 0] J))) (lo:=0) (hi:=h'.next) (n:=0) (b:=2) (k:=1) (es:=2) (cap:=Z 1) (rw:=rw') (ps:=[(vS p.nm,vS p.nm),(vI 1,vI 1)]) (il _) om gb2 rfl (λq hq=>by
   simp[jd] at hq;rcases hq with rfl|rfl<;>exact⟨aj.val _,rfl⟩)
  have r2:=Rep.agg (h:=h'.put 1 (Z (.cells [.own 2 0 1 2 (Z 1),vI 0] J))) (lo:=0) (hi:=h'.next) (n:=1) (ps:=[(.own 2 0 1 2 (Z 1),.imm [vS p.nm,vI 1] 1 (Z 1)),(vI 0,vI 0)]) (λq hq=>by
   simp[jd] at hq;rcases hq with rfl|rfl<;>grind [Rep.leaf,aj.val])
  have r3:=Rep.tup (h:=h'.put 1 (Z (.cells [.own 2 0 1 2 (Z 1),vI 0] J))) (lo:=0) (hi:=h'.next) (n:=2) (ps:=[(.agg [.own 2 0 1 2 (Z 1),vI 0],.agg [.imm [vS p.nm,vI 1] 1 (Z 1),vI 0]),(Vb (decide (z=0)),Vb (decide (z=0)))]) (λq hq=>by
   simp[jd] at hq;rcases hq with rfl|rfl<;>grind [Rep.leaf,aj.val])
  exact⟨_,rfl,_,3,de,r3,⟨⟨[⟨p.nm,1⟩],Y,Z 1⟩,0⟩,_,rfl,Gr⟩
 have d3:=U336
 by_cases q9:p.op=9
 ·have d9:decide (p.op=9)=J:=by grind
  obtain⟨k0,r0,hk0⟩:=re (l:=p.ks) (j:=0) (ho.k1 q9);have hix:=sY hk0;obtain⟨t,ht,hc⟩:=hk k0 (jp (i:=0) Gr);obtain⟨y,b,rfl,hy⟩:=vQ ht;obtain⟨t2,ht2,hc2⟩:=vM y (-1);obtain⟨y2,b2,rfl,hy2⟩:=vQ ht2;cases b with
  |false=>
   simp[eN,f130,V,WF,ac hc, *];exact U329
  |true=>
   simp only[eN,f130,V,WF,ac hc,ac hc2,seval, *];exact⟨_,rfl,yq y2 b2 hy2⟩
 have d9:decide (p.op=9)=U:=Gr
 by_cases q8:p.op=8
 ·have d8:decide (p.op=8)=J:=by grind
  have hl2:=ho.k2 (.inr (.inr q8));obtain⟨k0,r0,hk0⟩:=re (l:=p.ks) (j:=0) om;obtain⟨k1,r1,hk1⟩:=re (l:=p.ks) (j:=1) om;have hix0:aX 4 p.kids 0=Z (.bD (vI k0.op:: vS k0.nm:: vI k0.n::k0.kids::Pr.aG r0)):=by rw[sY hk0,Pr.bS];rfl
  have hix1:=sY hk1;have hfa:bu 2 (.bD (vI k0.op:: vS k0.nm:: vI k0.n::k0.kids::Pr.aG r0))=Z (.bD (vI k0.n::k0.kids::Pr.aG r0)):=rfl;obtain⟨t,ht,hc⟩:=hk k1 (jp (i:=1) Gr);obtain⟨y,b,rfl,hy⟩:=vQ ht;obtain⟨t2,ht2,hc2⟩:=vM y k0.n;obtain⟨y2,b2,rfl,hy2⟩:=vQ ht2;cases b with
  |false=>
   simp[eN,f130,V,WF,ac hc, *];exact U329
  |true=>
   simp[eN,f130,V,WF,h0,hh,a0,a3,t0,d1,d3,d9,d8,hix1,ac hc,hstL,aKJ];refine pb rfl ?_
   obtain⟨H,hH⟩:∃H,(((AH.empty.alloc (.cells p.cells J)).alloc (.cells [.val (.slice Y 0 0),vI 0] J)).alloc (.cells [.val (.slice Y 0 0),vI 0] J)).put 2 (Z (.cells y.cells J))=H:=⟨_,rfl⟩;have Hn:H.next=3:=by rw[<-hH];rfl
   have H2:H.get 2=Z (.cells y.cells J):=by grind [lA]
   have H1:=U339;have H0:H.get 0=Z (.cells p.cells J):=by grind [AH.aO,AH.aS,tG,xG]
   have kk0:∀o,aN H (Z (.ptr 0 o))=J:=λo=>bm om H0 p.bM;have kk1:=U316;have kk2:∀o,aN H (Z (.ptr 2 o))=J:=λo=>bm om H2 y.bM;have kids0:=U255;have tp:ids (.tup [.agg y2.cells,Vb b2])=[]:=by show ids (.agg y2.cells)++(ids (Vb b2)++[])=[];rw[y2.ah];rfl
   simp only[aKG,X0,X1,X2,X3,X4,V,WF,hH,H0,H1,H2,a3,kk0,kk1,kk2,an kids0,an y.ah,ge y.ah,hix0,hfa,tL,ee hc2,an tp,an y2.ah,hstL,hd,seval];exact⟨_,rfl,yq y2 b2 hy2⟩
 have d8:decide (p.op=8)=U:=Gr
 by_cases q67:p.op=6\/p.op=7
 ·have hl2:=ho.k2 Gr;obtain⟨k0,r0,hk0⟩:=re (l:=p.ks) (j:=0) om;obtain⟨k1,r1,hk1⟩:=re (l:=p.ks) (j:=1) om;have hix0:=sY hk0;have hix1:=sY hk1;obtain⟨t,ht,hc⟩:=hk k0 (jp (i:=0) Gr);obtain⟨y,b,rfl,hy⟩:=vQ ht;obtain⟨t1,ht1,hc1⟩:=hk k1 (jp (i:=1) Gr);obtain⟨y1,b1,rfl,hy1⟩:=vQ ht1;obtain⟨t2,ht2,hc2⟩:=vM y1 (-1);obtain⟨y2,b2,rfl,hy2⟩:=vQ ht2;obtain⟨t3,ht3,hc3⟩:=Ew y y1;obtain⟨y3,b3,rfl,hy3⟩:=vQ ht3;obtain⟨t4,ht4,hc4⟩:=Ew y y2;obtain⟨y4,b4,rfl,hy4⟩:=vQ ht4;have hsL2:∀(h:AH) b (y z:Ln),stK h b 2 0 y.cells (Z (.cells z.cells J))=Z (h.put b (Z (.cells y.cells J))):=λh b y z=>cy z.len y.len;have dq:(decide (p.op=6)=J)\/(decide (p.op=6)=U/\decide (p.op=7)=J):=by
   grind
  have dq2:decide (p.op=6)=J->decide (p.op=7)=U:=Gr;rcases dq with d6|⟨d6,d7⟩
  ·have d7:=dq2 d6;cases b1 with
   |false=>
    cases b<;>
    ·exact U47
   |true=>
    cases b with
    |false=>
     simp only[eN,f130,V,WF,ac hc,ac hc1,sW,seval, *];exact U329
    |true=>
     simp only[eN,f130,V,WF,ac hc,ac hc1,ac hc3,seval, *];exact⟨_,rfl,yq y3 b3 hy3⟩
  ·cases b1 with
   |false=>
    cases b<;>
    ·exact U47
   |true=>
    cases b2 with
    |false=>
     cases b<;>
     ·simp only[eN,f130,V,WF,ac hc,ac hc1,sW,ac hc2,seval, *];exact U329
    |true=>
     cases b with
     |false=>
      simp only[eN,f130,V,WF,ac hc,ac hc1,sW,ac hc2,seval, *];exact U329
     |true=>
      simp only[eN,f130,V,WF,ac hc,ac hc1,ac hc2,ac hc4,seval, *];exact⟨_,rfl,yq y4 b4 hy4⟩
 have d6:decide (p.op=6)=U:=Gr;have d7:decide (p.op=7)=U:=Gr;simp only[eN,f130,V,WF,sW,seval, *];exact U329
mutual
theorem xg:∀p:Pr,tmT p->TmOk p
 |.mk o s n ks nl cap,h=>aCT (.mk o s n ks nl cap) h.1 (wZ ks h.2)
theorem wZ:∀l:List Pr,tmTL l->∀k∈l,TmOk k
 | [],_,k,hk=>by cases hk
 |p::r,h,k,hk=>by
  rcases U201 with e|hk
  ·rw[e];exact xg p h.1
  ·exact wZ r h.2 k hk
end
theorem Dv(o:Int)(w:Vl Pr)(h:AH):aE E1 (.f 95) [vI o,w.A Pr.cells] h (Pr.mk o ⟨#[]⟩ 0 w.l w.nl w.cap).av h:=by
 refine sf rf bLN (sE (Tree.val _) Tree.vl) (λs hs hh hd hr=>?_) h;have h0:=hs 0 _ rfl;have h1:=hs 1 _ rfl;have hst:=U337;have hcv:AV.cells (w.A Pr.cells)=Z [w.A Pr.cells]:=by
  unfold Vl.A cV;cases (w.nl.isSome&&Nat.beq w.l.length 0)<;>rfl
 have e:[AV.val (.int .i64 o),vS ⟨#[]⟩,vI 0,w.A Pr.cells]=(Pr.mk o ⟨#[]⟩ 0 w.l w.nl w.cap).cells:=by
  exact U134
 simp only[aVG,f95,V,WF,h0,h1,hh,hd,seval];rw[e];exact⟨_,rfl,1,de,sJ (Pr.leaves _)⟩
theorem vE{α:Type}{f:α->List AV}{l:List α}{h:AH}{lo es:Nat}{v:AV}(r:bn h lo l.length es v (l.flatMap f)):∃w:Vl α,iA v l.length (l.flatMap f)=w.A f/\w.l=l:=by
 obtain⟨cap,e|e⟩:=Gg r rfl
 ·grind
 ·have:l=[]:=by grind
  subst this;rcases r with⟨_,_,⟨_,rfl⟩|⟨_,_,_,q,_⟩⟩|⟨_,_,b,_,_,rfl,_⟩
  ·exact⟨⟨[],ai,Y⟩,rfl,rfl⟩
  ·grind
  ·exact⟨⟨[],Y,Z 0⟩,rfl,rfl⟩
theorem Zy{h h':AH}(z:Fz h h')(k:ak h):ak h':=λc x t n e=>by
 rcases z.2 c with q|⟨cs,rw',q1,q2⟩
 ·rw[q] at e;exact k c x t n e
 grind
theorem th(o:Int){h:AH}{lo:Nat}{v:AV}{l:List Pr}(r:bn h lo l.length 4 v (Pr.aG l)):∃(q:Pr) (h2:AH),q.nodes=1+Pr.aI l/\aE E1 (.f 95) [vI o,v] h q.av h2/\h2.next=h.next/\(∀x,x∉ids v->h2.get x=h.get x)/\(ak h->ak h2):=by
 have r':bn h lo l.length 4 v (l.flatMap Pr.cells):=by grind [Pr.bG]
 obtain⟨w,hw,hl⟩:=vE r';obtain⟨h1,e1,e2,e3,e4⟩:=xD r';rw[hw] at e4;obtain⟨h2,c,e⟩:=vA (xs:=[vI o]) (ys:=[]) (eJ (g:=95) rf) (qr (Tree.val _)) (λv hv=>by cases hv) Vl.leaf.tree e1 e4 (Dv o w)
 refine⟨Pr.mk o ⟨#[]⟩ 0 w.l w.nl w.cap,h2,by rw[hl];rfl,c,?_,?_,?_⟩
 ·grind
 ·grind
 ·rcases e with rfl|rfl<;>grind [Zy,sV]
def prP(n:Nat)(t:AV):Prop:=∃q:Pr,t=q.av/\q.nodes<=n
theorem si(o n:Int)(h1: -9223372036854775808<=n)(h2:n<9223372036854775808):∃q:Pr,q.nodes<=3/\∀h,aE E1 (.f 101) [vI o,vI n] h q.av h:=by
 obtain⟨b,hb,hc⟩:=En n h1 h2;obtain⟨t,⟨q,rfl,hq⟩,hr⟩:=tI (g:=101) (l:=[vI o,vI n]) (P:=prP 3) rf bGB (sE (Tree.val _) (Tree.val _)) λs hs hh hd hr=>by
  have h0:=hs 0 _ rfl;have h1:=hs 1 _ rfl;have p1:∀z0 z1 z2 z3 z4 z5 z6 z7 a b c d:AV,dV [z0,z1,z2,z3,z4,z5,z6,z7] 0 4 [a,b,c,d]=Z [a,b,c,d,z4,z5,z6,z7]:=λ_ _ _ _ _ _ _ _ _ _ _ _=>rfl;have p2:∀z0 z1 z2 z3 z4 z5 z6 z7 a b c d:AV,dV [z0,z1,z2,z3,z4,z5,z6,z7] 4 4 [a,b,c,d]=Z [z0,z1,z2,z3,a,b,c,d]:=λ_ _ _ _ _ _ _ _ _ _ _ _=>rfl;simp[aLB,f101,V,WF,ac hc, *];have pc:(Pr.aG [Pr.mk 3 b 0 [] ai Y,Pr.mk 1 ⟨#[]⟩ 0 [] ai Y])=[vI 3,vS b,vI 0,.val (.slice Y 0 0),vI 1,vS ⟨#[]⟩,vI 0,.val (.slice Y 0 0)]:=rfl;obtain⟨H,hH⟩:∃H,(AH.empty.alloc (.cells [vI 0,vS ⟨#[]⟩,vI 0,.val (.slice Y 0 0)] J)).alloc (.cells [vI 3,vS b,vI 0,.val (.slice Y 0 0),vI 1,vS ⟨#[]⟩,vI 0,.val (.slice Y 0 0)] J)=H:=⟨_,rfl⟩;have Hn:H.next=2:=by rw[<-hH];rfl
  have H1:H.get 1=Z (.cells (Pr.aG [Pr.mk 3 b 0 [] ai Y,Pr.mk 1 ⟨#[]⟩ 0 [] ai Y]) J):=by grind [AH.aS,tG]
  have H0:H.get 0=Z (.cells [vI 0,vS ⟨#[]⟩,vI 0,.val (.slice Y 0 0)] J):=by grind [AH.aS,tG]
  obtain⟨q,h2,nq,rc,n2,g2,_⟩:=th o (bn.made (h:=H) (lo:=0) (b:=1) (k:=[Pr.mk 3 b 0 [] ai Y,Pr.mk 1 ⟨#[]⟩ 0 [] ai Y].length) (es:=4) (cs:=Pr.aG [Pr.mk 3 b 0 [] ai Y,Pr.mk 1 ⟨#[]⟩ 0 [] ai Y]) sO rfl (il _) om H1);have g0:h2.get 0=Z (.cells [vI 0,vS ⟨#[]⟩,vI 0,.val (.slice Y 0 0)] J):=by grind [ids]
  have hst:∀(h:AH),stK h 0 4 0 q.cells (Z (.cells [vI 0,vS ⟨#[]⟩,vI 0,.val (.slice Y 0 0)] J))=Z (h.put 0 (Z (.cells q.cells J))):=λh=>cy rfl q.len;rw[hH];refine gt (by simp only[V];exact rc) ?_
  simp only[V,WF,g0,hd,seval];exact⟨_,rfl,_,1,de,sJ q.leaves,q,rfl,by rw[nq];show 3<=3;decide⟩
 grind
structure gY (h:AH) (b:Nat) (e:Evr) (fs:List Ln) (bs:List Pr) (vF vB:AV) (lg wr:Bool):Prop where
 lt:b<h.next
 g:h.get b=Z (.cells [e.vs.A Vr.cells,e.sy.A Sm.cells,e.hs.A Ho.cells,vF,vB,Vb lg,Vb wr] J)
 rF:aV h (b+1) fs.length 2 vF (fs.flatMap Ln.cells)
 rB:aV h (b+1) bs.length 4 vB (Pr.aG bs)
 dj:∀y∈ids vF,y∉ids vB
def bX(h:AH)(b:Nat)(e:Evr)(fs:List Ln)(bs:List Pr):Prop:=ak h/\∃vF vB lg wr,gY h b e fs bs vF vB lg wr
theorem gY.at{h:AH}{b:Nat}{e:Evr}{fs:List Ln}{bs:List Pr}{vF vB:AV}{lg wr:Bool}(k:gY h b e fs bs vF vB lg wr):aq h b=ids vF++ids vB:=by
 unfold aq;rw[k.g];simp[hE,aQ,ids,Vl.ids]
structure bL (b:Nat) (h h':AH):Prop where
 nx:h.next<=h'.next
 fr:∀y,y<h.next->y≠b->y∉aq h b->h'.get y=h.get y
 ow:∀y∈aq h' b,y∈aq h b\/h.next<=y
theorem bL.refl{b:Nat}{h:AH}:bL b h h:=⟨ij _,λ_ _ _ _=>rfl,λy hy=>.inl hy⟩
theorem bL.trans{b:Nat}{h h' h'':AH}(k:bL b h h')(k':bL b h' h''):bL b h h'':=by
 refine⟨jg k.nx k'.nx,λy y1 y2 y3=>?_,λy hy=>?_⟩
 ·have:=k.nx;rw[k'.fr y om y2 (λq=>by
   rcases k.ow y q with q|q<;>grind),k.fr y y1 y2 y3]
 ·rcases k'.ow y hy with q|q
  ·exact k.ow y q
  ·have:=k.nx
   grind
theorem gY.to{h h':AH}{b:Nat}{e:Evr}{fs:List Ln}{bs:List Pr}{vF vB:AV}{lg wr:Bool}(k:gY h b e fs bs vF vB lg wr)(hn:h.next<=h'.next)(g:∀y,y=b\/y∈aq h b->h'.get y=h.get y):gY h' b e fs bs vF vB lg wr:=by
 have a:=k.at;refine⟨Nat.lt_of_lt_of_le k.lt hn,by rw[g b (.inl rfl)];exact k.g,k.rF.toB hn λy hy=>g y (.inr ?_),k.rB.toB hn λy hy=>g y (.inr ?_),k.dj⟩<;>grind
theorem gY.alloc{h:AH}{b:Nat}{e:Evr}{fs:List Ln}{bs:List Pr}{vF vB:AV}{lg wr:Bool}{x:Blk}(k:gY h b e fs bs vF vB lg wr):gY (h.alloc x) b e fs bs vF vB lg wr:=by
 refine k.to (j5 _) λy hy=>am ?_
 rcases hy with rfl|hy
 ·exact k.lt
 ·rw[k.at] at hy;rcases U340 with q|q
  ·exact(k.rF.ids y q).2.1
  ·exact(k.rB.ids y q).2.1
theorem gY.known{h:AH}{b o:Nat}{e:Evr}{fs:List Ln}{bs:List Pr}{vF vB:AV}{lg wr:Bool}(k:gY h b e fs bs vF vB lg wr):aN h (Z (.ptr b o))=J:=by
 refine rg k.lt k.g ?_
 have:=k.at;unfold aq at this;rw[k.g] at this;have e1:aQ [e.vs.A Vr.cells,e.sy.A Sm.cells,e.hs.A Ho.cells,vF,vB,Vb lg,Vb wr]=ids vF++ids vB:=this;rw[e1];refine j3.2 λx hx=>j8.mpr ?_
 rcases U291 with q|q
 ·exact(k.rF.ids x q).2.1
 ·exact(k.rB.ids x q).2.1
theorem Qk(x:Ln){b:Nat}{e:Evr}{fs:List Ln}{bs:List Pr}{vF vB:AV}{lg wr:Bool}(hF:fs.length<2^28)(hfs:∀f∈fs,f.ts.l.length<=24):∀(r:List Ln) (i c:Nat) (s:St),fs.drop i=r->i<=fs.length->gY s.h b e fs bs vF vB lg wr->c<s.h.next->s.h.get c=Z (.cells x.cells J)->
  s.eval (.t 0)=Z (.ptr b 0)->s.eval (.t 3)=Z (.ptr c 0)->s.eval (.t 5)=Z (vI (i:Nat))->s.defers=[]->
  Run E1 oT s λe s'=>s'.h=s.h/\s'.defers=[]/\s'.eval (.t 0)=Z (.ptr b 0)/\s'.eval (.t 3)=Z (.ptr c 0)/\(e=.exit 0\/(e=.ret/\∃j:Nat,j<fs.length/\s'.eval (.t 4)=Z (vI (j:Nat))))
 | [],i,c,s,hd,hi,a,hc,gc,h0,h3,h5,hf=>by
  have hl:=ca hd hi;subst hl;have c3:=U341;apply az (rfl:oT=.loop mC);simp[mC,V,a.g,a.rF.len, *]
 |f::r,i,c,s,hd,hi,a,hc,gc,h0,h3,h5,hf=>by
  have hl:=cz hd;have hlt:=rj hl;have w1:=U204;have c3:=U341;obtain⟨z,hz⟩:=Rl f x (by grind [ip])
  have kq:=U342;have kx:∀o,aN s.h (Z (.ptr c o))=J:=λo=>bm hc gc x.bM;have kv:=bz a.rF.x.nice;obtain⟨lf,hlen,⟨q,_⟩|⟨B,B1,B2,B3,rfl,gB⟩⟩:=id a.rF
  ·omega
  have kB:=U343;have hix:aX 2 (.own B 0 fs.length 2 Y) i=Z (.ptr B (0+i*2)):=wt hl;have hdrop:(fs.flatMap Ln.cells).drop (i*2)=(fs.drop i).flatMap Ln.cells:=by
   have:∀(l:List Ln) (i:Nat),(l.flatMap Ln.cells).drop (i*2)=(l.drop i).flatMap Ln.cells:=by
    intro l
    induction l with
    |nil=>grind
    |cons y l ih=>
     intro i;cases i with
     |zero=>rfl
     |succ i=>
      rw[Ag,List.drop_succ_cons,<-ih i];have:(i+1)*2=y.cells.length+i*2:=by rw[y.len];omega
      simp_all
   grind
  have hcf:cfB (Z (.cells (fs.flatMap Ln.cells) J)) (i*2)=Z (f.cells++r.flatMap Ln.cells):=by
   have hle:Nat.ble (i*2) (fs.flatMap Ln.cells).length=J:=Nat.ble_eq.mpr om;simp only[cfB,hle,cond_true,hdrop,hd,Ag]
  have tx:=U308;have x0:=U344;apply az (rfl:oT=.loop mC);simp only[mC,aLF,V,a.g,wF,seval, *];refine pb rfl ?_
  simp[aLD,X0,X1,X3,X4,V,a.g,aRQ,ac hz, *];cases z with
  |true=>
   simp only[V,seval, *]
   grind
  |false=>
   simp only[V,seval, *];refine(Qk x hF hfs r (i+1) c _ (ba hd) om (by simpa only[St.h_set] using a) (by grind [St.h_set]) ?_ ?_ ?_ ?_ ?_).mono ?_
   all_goals try simp only[V,seval, *]
   grind
theorem Gk{h:AH}{b o:Nat}{l:List AV}:cG h (.ptr b o::l)=Y:=by
 rfl
def eO(b:Nat)(h h':AH):Prop:=∀(c0 c1 c2 c3 v:AV) (l:List AV),h.get b=Z (.cells (c0::c1::c2::c3::v::l) J)->∃d3 l',h'.get b=Z (.cells (c0::c1::c2::d3::v::l') J)
theorem eO.of{b:Nat}{h h':AH}(e:h'.get b=h.get b):eO b h h':=λc0 c1 c2 c3 v l g=>⟨c3,l,by rw[e,g]⟩
theorem eO.trans{b:Nat}{h h' h'':AH}(k:eO b h h')(k':eO b h' h''):eO b h h'':=λc0 c1 c2 c3 v l g=>by
 obtain⟨d3,l',g'⟩:=k c0 c1 c2 c3 v l g;exact k' _ _ _ _ _ _ g'
theorem vR(x:Ln)(hx:x.ts.l.length<=24){b:Nat}{e:Evr}{fs:List Ln}{bs:List Pr}{h:AH}(hF:fs.length<2^27)(hfs:∀f∈fs,f.ts.l.length<=24)(k:bX h b e fs bs):
  ∃(z:Int) (h':AH) (fs':List Ln),aE E1 (.f 100) [.ptr b 0,.agg x.cells] h (vI z) h'/\bL b h h'/\bX h' b e fs' bs/\fs'.length<=fs.length+1/\(∀f∈fs',f.ts.l.length<=24)/\0<=z/\z<2^28/\eO b h h':=by
 obtain⟨nt,vF,vB,lg,wr,a⟩:=k;obtain⟨r,h',⟨z,fs',rfl,p1,p2,p3,p4,p5,p6,p7⟩,ha⟩:=tQ (g:=100) (l:=[.ptr b 0,.agg x.cells]) (h:=h) (P:=λr h'=>∃(z:Int) (fs':List Ln),r=[vI z]/\bL b h h'/\bX h' b e fs' bs/\fs'.length<=fs.length+1/\(∀f∈fs',f.ts.l.length<=24)/\0<=z/\z<2^28/\eO b h h') bGC λs hs hh hd hr=>by
  have h0:=hs 0 _ rfl;have h1:=hs 1 _ rfl;have a1:gY (h.alloc (.cells x.cells J)) b e fs bs vF vB lg wr:=a.alloc;have lt:=a.lt;have st1:bL b h (h.alloc (.cells x.cells J)):=⟨j5 _,λy hy _ _=>am hy,λy hy=>.inl (by rw[a1.at] at hy;rw[a.at];exact hy)⟩
  refine rU _ _ _ ?_
  simp only[aLE,f100,V, *];refine(Qk x om hfs fs 0 h.next _ rfl (il _) (by simpa-implicitDefEqProofs only[V,↓reduceIte,rA,rB,rC,reduceCtorEq,rD,rE,rF] using a1) ?_ ?_ ?_ ?_ ?_ ?_).mono ?_
  all_goals try simp only[V,↓reduceIte,rA,reduceCtorEq,h0,hd]
  ·grind
  ·rfl
  rintro e1 s1 ⟨eh,d1,e0,e3,rfl|⟨rfl,j,hj,e4⟩⟩
  ·have eh:s1.h=h.alloc (.cells x.cells J):=eh;have a2:gY s1.h b e fs bs vF vB lg wr:=Gr;have gx:s1.h.get h.next=Z (.cells x.cells J):=by grind [co]
   have n1:s1.h.next=h.next+1:=by simp[*]
   have c3:∀(u w:AV) (lg wr:Bool),cfB (Z (.cells [e.vs.A Vr.cells,e.sy.A Sm.cells,e.hs.A Ho.cells,u,w,Vb lg,Vb wr] J)) 3=Z [u,w,Vb lg,Vb wr]:=λ_ _ _ _=>rfl;have x0:=U344;have tx:=U308;have kq:∀o,aN s1.h (Z (.ptr b o))=J:=λo=>a2.known;have kx:∀o,aN s1.h (Z (.ptr h.next o))=J:=λo=>bm om gx x.bM;have kv:=bz a2.rF.x.nice;have ns:=λy=>(a2.alloc (x:=y)).rF.x.nice;have pL:∀(a b:AV),dV [a,b] 0 2 x.cells=Z x.cells:=λa b=>by
    rfl
   refine pb rfl ?_
   simp only[aLC,X0,X1,X2,X3,X4,V,↓reduceIte,rA,reduceCtorEq,WF,e0,e3,a2.g,c3,kq,kx,kv,ns,gx,tx,x0,an x.ah,x.bM,pL];refine sk (k:=fs.length) (m:=1) (lo:=b+1) (v:=vF) (x:=.own s1.h.next 0 1 2 (Z 1)) (cs:=fs.flatMap Ln.cells) (new:=x.cells) ?_ ?_ ?_ de x.len x.leaves (lR om de) ?_ ?_ ?_
   ·simp[V];exact a2.rF.to (j5 _) λy _ y2=>am y2
   ·simp[V];omega
   ·refine kl (rw':=J) ?_ x.len;simp[V]
   ·simp[V]
   ·simp[V]
   intro h2 rv2 n2 o2 t2 gn2;simp[V] at rv2 n2 o2 t2 gn2;have nt2:=t2 (by rw[eh];exact nt.alloc.alloc)
   have fr:∀z,z<s1.h.next->z∉ids vF->h2.get z=s1.h.get z:=Gr;have nb:b∉ids vF:=λq=>by have:=(a2.rF.ids b q).1;omega
   have gb:h2.get b=Z (.cells [e.vs.A Vr.cells,e.sy.A Sm.cells,e.hs.A Ho.cells,vF,vB,Vb lg,Vb wr] J):=by rw[fr b om nb,a2.g]
   have rB2:aV h2 (b+1) bs.length 4 vB (Pr.aG bs):=a2.rB.toB om λy hy=>fr y (a2.rB.ids y hy).2.1 (λq=>a2.dj y q hy);have kO:=bz rv2.x.nice;have kb:∀o,aN h2 (Z (.ptr b o))=J:=λo=>rg om gb (by
    have e1:=U345;rw[e1];refine j3.2 λy hy=>j8.mpr ?_
    rcases U340 with q|q
    ·have:=(a2.rF.ids y q).2.1;omega
    ·have:=(a2.rB.ids y q).2.1;omega)
   have hs3:∀(H:AH) (u w z:AV) (l1 w1:Bool),stK H b 1 3 [z] (Z (.cells [e.vs.A Vr.cells,e.sy.A Sm.cells,e.hs.A Ho.cells,u,w,Vb l1,Vb w1] J))=Z (H.put b (Z (.cells [e.vs.A Vr.cells,e.sy.A Sm.cells,e.hs.A Ho.cells,z,w,Vb l1,Vb w1] J))):=λ_ _ _ _ _ _=>rfl;have hs5:∀(H:AH) (u w z:AV) (l1 w1:Bool),stK H b 1 5 [z] (Z (.cells [e.vs.A Vr.cells,e.sy.A Sm.cells,e.hs.A Ho.cells,u,w,Vb l1,Vb w1] J))=Z (H.put b (Z (.cells [e.vs.A Vr.cells,e.sy.A Sm.cells,e.hs.A Ho.cells,u,w,z,Vb w1] J))):=λ_ _ _ _ _ _=>rfl;have post:∀(H:AH) (l1:Bool),H.next=h2.next->ak H->H.get b=Z (.cells [e.vs.A Vr.cells,e.sy.A Sm.cells,e.hs.A Ho.cells,.own (s1.h.next+1) 0 (fs.length+1) 2 Y,vB,Vb l1,Vb wr] J)->(∀y,y≠b->H.get y=h2.get y)->bL b h H/\bX H b e (fs++[x]) bs:=λH l1 hn ntH gH oH=>by
    have aH:gY H b e (fs++[x]) bs (.own (s1.h.next+1) 0 (fs.length+1) 2 Y) vB l1 wr:=by
     refine⟨om,gH,?_,rB2.toB om λy hy=>oH y (by have:=(rB2.ids y hy).1;omega),λy hy hy2=>?_⟩
     ·rw[jh,List.flatMap_append,Ag,List.flatMap_nil,List.append_nil];exact rv2.toB om λy hy=>oH y (by have:=(rv2.ids y hy).1;omega)
     ·simp[ids] at hy;have:=(a2.rB.ids y hy2).2.1;omega
    refine⟨⟨om,λy y1 y2 y3=>?_,λy hy=>?_⟩,ntH,_,_,_,_,aH⟩
    ·rw[a.at] at y3
     grind [am]
    ·rw[aH.at] at hy;rw[a.at]
     grind [ids]
   have hlen:∀f∈fs++[x],f.ts.l.length<=24:=Gr;have wl:IntKind.i64.wrap (((fs.length+1:Nat):Int)-1)=((fs.length:Nat):Int):=by
    grind [sP]
   have sB:∀{H:AH} {l1:Bool},H.get b=Z (.cells [e.vs.A Vr.cells,e.sy.A Sm.cells,e.hs.A Ho.cells,.own (s1.h.next+1) 0 (fs.length+1) 2 Y,vB,Vb l1,Vb wr] J)->eO b h H:=λgH c0 c1 c2 c3 v l g=>by
    rw[a.g] at g
    grind
   by_cases h40:40<fs.length+1
   ·have d40:decide (40<((fs.length+1:Nat):Int))=J:=by grind
    simp only[X0,X1,X3,X4,V,↓reduceIte,rA,reduceCtorEq,WF,e0,gb,c3,kb,hs3,hs5,wF,d40,wl,d1];obtain⟨q1,q2⟩:=post ((h2.put b (Z (.cells [e.vs.A Vr.cells,e.sy.A Sm.cells,e.hs.A Ho.cells,.own (s1.h.next+1) 0 (fs.length+1) 2 Y,vB,Vb lg,Vb wr] J))).put b (Z (.cells [e.vs.A Vr.cells,e.sy.A Sm.cells,e.hs.A Ho.cells,.own (s1.h.next+1) 0 (fs.length+1) 2 Y,vB,Vb J,Vb wr] J))) J rfl nt2.put.put lA (λy hy=>by grind [bc])
    exact U346
   ·have d40:decide (40<((fs.length+1:Nat):Int))=U:=by grind
    simp only[X0,X1,X3,X4,V,↓reduceIte,rA,reduceCtorEq,WF,e0,gb,c3,kb,hs3,wF,d40,wl,d1];obtain⟨q1,q2⟩:=post (h2.put b (Z (.cells [e.vs.A Vr.cells,e.sy.A Sm.cells,e.hs.A Ho.cells,.own (s1.h.next+1) 0 (fs.length+1) 2 Y,vB,Vb lg,Vb wr] J))) lg rfl nt2.put lA (λy hy=>bc hy);exact U346
  ·have eh:s1.h=h.alloc (.cells x.cells J):=eh;simp only[V, *];exact⟨_,rfl,_,⟨j,fs,rfl,st1,⟨nt.alloc,vF,vB,lg,wr,a1⟩,j5 _,hfs,om,om,eO.of (am lt)⟩,rfl⟩
 exact⟨z,h',fs',uB (eJ (g:=100) rf) rfl Gk ha,p1,p2,p3,p4,p5,p6,p7⟩
theorem Xb{v:AV}{h:AH}(t:Tree v):gA v h=(v,h):=by
 unfold gA;cases dg v with
 |true=>rfl
 |false=>
  have e1:=sm (h:=h) (qr t);simp at e1;have e2:=s9 (h:=h) (qr t);simp[cG] at e2
  grind
theorem uO{g:Nat}{l:List AV}{h h':AH}{r:AV}{b o:Nat}(hs:E1.shared.get g=Y)(t:Tree r)
  (a:Ev λn=>bh E1 (exec E1 n) g (.ptr b o::l) h=Z (r,h')):aE E1 (.f g) (.ptr b o::l) h r h':=uB hs rfl Gk a (Xb t)
theorem bX.step{h h' h'':AH}{b:Nat}{e:Evr}{fs:List Ln}{bs:List Pr}(k:bX h' b e fs bs)(s:bL b h h')(hn:h'.next<=h''.next)(nt:ak h'')(g:∀y,y<h.next\/y=b\/y∈aq h' b->h''.get y=h'.get y):bL b h h''/\bX h'' b e fs bs:=by
 obtain⟨_,vF,vB,lg,wr,a⟩:=k;have a2:gY h'' b e fs bs vF vB lg wr:=a.to hn λy hy=>g y (.inr hy);refine⟨⟨jg s.nx hn,λy y1 y2 y3=>by rw[g y (.inl y1),s.fr y y1 y2 y3],λy hy=>?_⟩,nt,vF,vB,lg,wr,a2⟩
 rw[a2.at,<-a.at] at hy;exact s.ow y hy
theorem Er{q:Pr}{rw:Bool}:cfB (Z (.cells q.cells rw)) 0=Z q.cells:=by rfl
theorem Dh(x:Ln)(hx:x.ts.l.length<=24){b:Nat}{e:Evr}{fs:List Ln}{bs:List Pr}{h:AH}(hF:fs.length<2^27)(hfs:∀f∈fs,f.ts.l.length<=24)(k:bX h b e fs bs):
  ∃(q:Pr) (h':AH) (fs':List Ln),aE E1 (.f 93) [.ptr b 0,.agg x.cells] h q.av h'/\bL b h h'/\bX h' b e fs' bs/\fs'.length<=fs.length+1/\(∀f∈fs',f.ts.l.length<=24)/\q.nodes<=3:=by
 obtain⟨r,h',⟨q,fs',rfl,p1,p2,p3,p4,p5⟩,ha⟩:=tQ (g:=93) (l:=[.ptr b 0,.agg x.cells]) (h:=h) (P:=λr h'=>∃(q:Pr) (fs':List Ln),r=[q.av]/\bL b h h'/\bX h' b e fs' bs/\fs'.length<=fs.length+1/\(∀f∈fs',f.ts.l.length<=24)/\q.nodes<=3) bLP λs hs hh hd hr=>by
  have h0:=hs 0 _ rfl;have h1:=hs 1 _ rfl;have c0:=U301;have c1:=U303;have nn:=U347;have tx:=U308;have x0:=U344;have z4:=U260;have lt:=k.2.choose_spec.choose_spec.choose_spec.choose_spec.lt;have st0:=U348;refine rU _ _ _ ?_
  by_cases hl:x.ts.l.length=0
  ·have dl:=U327;simp only[aFF,f93,V,WF,ac (uf _),Pr.av,seval, *];obtain⟨p1,p2⟩:=k.step (h'':=((h.alloc (.cells x.cells J)).alloc (.cells [vI 0,vS ⟨#[]⟩,vI 0,.val (.slice Y 0 0)] J)).put (h.next+1) (Z (.cells (Pr.mk 2 ⟨#[]⟩ (bif decide (x.k=0) then 1 else 0) [] ai Y).cells J))) st0 (jg (j5 _) (j5 _)) k.1.alloc.alloc.put (λy hy=>by
    have:y<h.next:=by
     exact U135
    rw[bc om,am (by show y<h.next+1;omega),am this])
   refine⟨_,rfl,_,⟨Pr.mk 2 ⟨#[]⟩ (bif decide (x.k=0) then 1 else 0) [] ai Y,fs,rfl,p1,p2,j5 _,hfs,by show 1<=3;decide⟩,?_⟩
   exact U136
  ·have dl:=U328;obtain⟨t,⟨y,z,rfl,hy⟩,hfm⟩:=xE x;have hfm':=U349;have ty:=U325;have y0:=U350;have hst:=U351;obtain⟨H,hH⟩:=U352;have lo:∀y,y<h.next\/y=b\/y∈aq h b->y<h.next:=λy hy=>by
    exact U135
   have Hn:=U353;have Ht:=U354;have Hg:=U355;have H1:=U356;obtain⟨p1,p2⟩:=k.step (h'':=H) st0 om Ht (λy hy=>Hg y (lo y hy));obtain⟨z2,h2,fs2,rc,s2,k2,l2,f2,z21,z22,_⟩:=vR y hy hF hfs p2;obtain⟨q,nq,hlf⟩:=si 10 z2 om om;have e1:=U357;have nA:=U358;have g2:h2.get (h.next+1)=Z (.cells [vI 0,vS ⟨#[]⟩,vI 0,.val (.slice Y 0 0)] J):=by
    exact U137
   simp only[aFF,f93,V,WF,h0,h1,hh,c0,dl,nn,sW,ac hfm',hst,y0,ty,seval];have hH':=U359;rw[hH'];refine gt (by simp only[V];exact rc) ?_
   simp only[V,WF,ac hlf,Pr.av,seval, *];have nA2:∀y,y<h.next\/y=b\/y∈aq h2 b->y≠h.next+1:=λy hy=>by
    rcases hy with q|rfl|q
    ·omega
    ·omega
    ·rcases s2.ow y q with q|q<;>grind
   obtain⟨r1,r2⟩:=k2.step (h'':=h2.put (h.next+1) (Z (.cells q.cells J))) (p1.trans s2) (ij _) k2.1.put (λy hy=>bc (nA2 y hy));refine⟨_,rfl,_,⟨q,fs2,rfl,r1,r2,l2,f2,nq⟩,?_⟩;exact U136
 exact⟨q,h',fs',uO (eJ (g:=93) rf) (Tree.pr q) ha,p1,p2,p3,p4,p5⟩
theorem w6(x:Ln)(hx:x.ts.l.length<=24){b:Nat}{e:Evr}{fs:List Ln}{bs:List Pr}{h:AH}(hF:fs.length<2^27)(hfs:∀f∈fs,f.ts.l.length<=24)(k:bX h b e fs bs):
  ∃(q:Pr) (h':AH) (fs':List Ln),aE E1 (.f 65) [.ptr b 0,.agg x.cells] h q.av h'/\bL b h h'/\bX h' b e fs' bs/\fs'.length<=fs.length+1/\(∀f∈fs',f.ts.l.length<=24)/\q.nodes<=8/\eO b h h':=by
 obtain⟨r,h',⟨q,fs',rfl,p1,p2,p3,p4,p5,p6⟩,ha⟩:=tQ (g:=65) (l:=[.ptr b 0,.agg x.cells]) (h:=h) (P:=λr h'=>∃(q:Pr) (fs':List Ln),r=[q.av]/\bL b h h'/\bX h' b e fs' bs/\fs'.length<=fs.length+1/\(∀f∈fs',f.ts.l.length<=24)/\q.nodes<=8/\eO b h h') bMG λs hs hh hd hr=>by
  have h0:=hs 0 _ rfl;have h1:=hs 1 _ rfl;have c0:=U301;have c1:=U303;have nn:=U347;have tx:=U308;have x0:=U344;have z4:=U260;have lt:=k.2.choose_spec.choose_spec.choose_spec.choose_spec.lt;have st0:=U348;refine rU _ _ _ ?_
  by_cases hl:x.ts.l.length=0
  ·have dl:=U327;simp only[aFP,f65,V,WF,ac (uf _),Pr.av,seval, *];obtain⟨p1,p2⟩:=k.step (h'':=((h.alloc (.cells x.cells J)).alloc (.cells [vI 0,vS ⟨#[]⟩,vI 0,.val (.slice Y 0 0)] J)).put (h.next+1) (Z (.cells (Pr.mk 2 ⟨#[]⟩ (bif decide (x.k<=0) then 1 else 0) [] ai Y).cells J))) st0 (jg (j5 _) (j5 _)) k.1.alloc.alloc.put (λy hy=>by
    have:y<h.next:=by
     exact U135
    rw[bc om,am (by show y<h.next+1;omega),am this])
   refine⟨_,rfl,_,⟨Pr.mk 2 ⟨#[]⟩ (bif decide (x.k<=0) then 1 else 0) [] ai Y,fs,rfl,p1,p2,j5 _,hfs,by show 1<=8;decide,eO.of (by rw[bc om,am (by show b<h.next+1;omega),am lt])⟩,?_⟩
   exact U136
  ·have dl:=U328;obtain⟨t,⟨y,z,rfl,hy⟩,hfm⟩:=xE x;have hfm':=U349;have ty:=U325;have y0:=U350;have hst:=U351;obtain⟨H,hH⟩:=U352;have lo:∀y,y<h.next\/y=b\/y∈aq h b->y<h.next:=λy hy=>by
    exact U135
   have Hn:=U353;have Ht:=U354;have Hg:=U355;have H1:=U356;obtain⟨p1,p2⟩:=k.step (h'':=H) st0 om Ht (λy hy=>Hg y (lo y hy));obtain⟨z2,h2,fs2,rc,s2,k2,l2,f2,z21,z22,sB⟩:=vR y hy hF hfs p2;obtain⟨q,nq,hlf⟩:=si 10 z2 om om;have e1:=U357;have nA:=U358;have g2:h2.get (h.next+1)=Z (.cells [vI 0,vS ⟨#[]⟩,vI 0,.val (.slice Y 0 0)] J):=by
    exact U137
   simp only[aFP,f65,V,WF,h0,h1,hh,c0,dl,nn,sW,ac hfm',hst,y0,ty,seval];have hH':=U359;have lo2:∀y,y<h.next\/y=b\/y∈aq h2 b->y≠h.next+1/\y<h2.next:=λy hy=>by
    have:=s2.nx;rcases hy with q|rfl|q
    ·omega
    ·omega
    ·exact U49
   rw[hH'];refine gt (by simp only[V];exact rc) ?_
   by_cases z1:z=1
   ·have d1:decide (z=1)=J:=by grind
    obtain⟨q,nq,hlf⟩:=si 13 z2 om om;simp only[V,WF,ac hlf,Pr.av,seval, *];obtain⟨r1,r2⟩:=k2.step (h'':=h2.put (h.next+1) (Z (.cells q.cells J))) (p1.trans s2) (ij _) k2.1.put (λy hy=>bc (lo2 y hy).1);refine⟨_,rfl,_,⟨q,fs2,rfl,r1,r2,l2,f2,om,(eO.of (Hg b lt)).trans (sB.trans (eO.of (bc om)))⟩,?_⟩;exact U136
   ·have d1:decide (z=1)=U:=by grind
    obtain⟨q1,nq1,hlf⟩:=si 13 z2 om om;obtain⟨q3,nq3,hlf3⟩:=si 10 z2 om om;have s1:Pr.aG [q1]=q1.cells:=by grind [Pr.aG]
    obtain⟨q2,h3,nq2,rc3,n3,g3,t3⟩:=th 14 (bn.made (h:=h2.alloc (.cells q1.cells J)) (lo:=0) (b:=h2.next) (k:=[q1].length) (es:=4) (cs:=Pr.aG [q1]) sO (pj [q1]) (il _) (je _) (by grind [co]))
    have s3:Pr.aG [q2,q3]=q2.cells++q3.cells:=by grind [Pr.aG]
    obtain⟨q4,h4,nq4,rc4,n4,g4,t4⟩:=th 16 (bn.made (h:=h3.alloc (.cells (q2.cells++q3.cells) J)) (lo:=0) (b:=h3.next) (k:=[q2,q3].length) (es:=4) (cs:=Pr.aG [q2,q3]) sO (pj [q2,q3]) (il _) (je _) (by grind [co]))
    have n3:=U360;have n4:h4.next=h2.next+2:=Sa;have gg:=U361;have hlt:=s2.nx;have g44:=U362;have pA:=U363;have pB:∀z0 z1 z2 z3 z4 z5 z6 z7:AV,dV [z0,z1,z2,z3,z4,z5,z6,z7] 0 4 q2.cells=Z (q2.cells++[z4,z5,z6,z7]):=λ_ _ _ _ _ _ _ _=>Hz q2.len;have pC:∀z4 z5 z6 z7:AV,dV (q2.cells++[z4,z5,z6,z7]) 4 4 q3.cells=Z (q2.cells++q3.cells):=λ_ _ _ _=>Hy q2.len q3.len;simp only[V,WF,ac hlf,Pr.av,seval, *];refine gt (by simp only[V];exact rc3) ?_
    simp only[V,WF,ac hlf3,pB,pC,Pr.av,seval];refine gt (by simp only[V];exact rc4) ?_
    simp only[V,WF,seval, *];obtain⟨r1,r2⟩:=k2.step (h'':=h4.put (h.next+1) (Z (.cells q4.cells J))) (p1.trans s2) Sa (t4 (t3 k2.1.alloc).alloc).put (λy hy=>by grind [bc])
    refine⟨_,rfl,_,⟨q4,fs2,rfl,r1,r2,l2,f2,by grind [Pr.aI],(eO.of (Hg b lt)).trans (sB.trans (eO.of (by grind [bc])))⟩,?_⟩
    exact U136
 exact⟨q,h',fs',uO (eJ (g:=65) rf) (Tree.pr q) ha,p1,p2,p3,p4,p5,p6⟩
theorem Zn(x:Ln)(hx:x.ts.l.length<=24){b:Nat}{e:Evr}{fs:List Ln}{bs:List Pr}{h:AH}(hF:fs.length<2^27)(hfs:∀f∈fs,f.ts.l.length<=24)(k:bX h b e fs bs):
  ∃(q:Pr) (h':AH) (fs':List Ln),aE E1 (.f 96) [.ptr b 0,.agg x.cells] h q.av h'/\bL b h h'/\bX h' b e fs' bs/\fs'.length<=fs.length+1/\(∀f∈fs',f.ts.l.length<=24)/\q.nodes<=8:=by
 obtain⟨r,h',⟨q,fs',rfl,p1,p2,p3,p4,p5⟩,ha⟩:=tQ (g:=96) (l:=[.ptr b 0,.agg x.cells]) (h:=h) (P:=λr h'=>∃(q:Pr) (fs':List Ln),r=[q.av]/\bL b h h'/\bX h' b e fs' bs/\fs'.length<=fs.length+1/\(∀f∈fs',f.ts.l.length<=24)/\q.nodes<=8) bLM λs hs hh hd hr=>by
  have h0:=hs 0 _ rfl;have h1:=hs 1 _ rfl;have c0:=U301;have c1:=U303;have nn:=U347;have tx:=U308;have x0:=U344;have z4:=U260;have lt:=k.2.choose_spec.choose_spec.choose_spec.choose_spec.lt;have st0:=U348;refine rU _ _ _ ?_
  by_cases hl:x.ts.l.length=0
  ·have dl:=U327;simp only[aFE,f96,V,WF,ac (uf _),Pr.av,seval, *];obtain⟨p1,p2⟩:=k.step (h'':=((h.alloc (.cells x.cells J)).alloc (.cells [vI 0,vS ⟨#[]⟩,vI 0,.val (.slice Y 0 0)] J)).put (h.next+1) (Z (.cells (Pr.mk 2 ⟨#[]⟩ (bif decide (x.k<0) then 1 else 0) [] ai Y).cells J))) st0 (jg (j5 _) (j5 _)) k.1.alloc.alloc.put (λy hy=>by
    have:y<h.next:=by
     exact U135
    rw[bc om,am (by show y<h.next+1;omega),am this])
   refine⟨_,rfl,_,⟨Pr.mk 2 ⟨#[]⟩ (bif decide (x.k<0) then 1 else 0) [] ai Y,fs,rfl,p1,p2,j5 _,hfs,by show 1<=8;decide⟩,?_⟩
   exact U136
  ·have dl:=U328;obtain⟨t,⟨y,z,rfl,hy⟩,hfm⟩:=xE x;have hfm':=U349;have ty:=U325;have y0:=U350;have hst:=U351;obtain⟨H,hH⟩:=U352;have lo:∀y,y<h.next\/y=b\/y∈aq h b->y<h.next:=λy hy=>by
    exact U135
   have Hn:=U353;have Ht:=U354;have Hg:=U355;have H1:=U356;obtain⟨p1,p2⟩:=k.step (h'':=H) st0 om Ht (λy hy=>Hg y (lo y hy));obtain⟨z2,h2,fs2,rc,s2,k2,l2,f2,z21,z22,_⟩:=vR y hy hF hfs p2;obtain⟨q,nq,hlf⟩:=si 10 z2 om om;have e1:=U357;have nA:=U358;have g2:h2.get (h.next+1)=Z (.cells [vI 0,vS ⟨#[]⟩,vI 0,.val (.slice Y 0 0)] J):=by
    exact U137
   simp only[aFE,f96,V,WF,h0,h1,hh,c0,dl,nn,sW,ac hfm',hst,y0,ty,seval];have hH':=U359;have lo2:∀y,y<h.next\/y=b\/y∈aq h2 b->y≠h.next+1/\y<h2.next:=λy hy=>by
    have:=s2.nx;rcases hy with q|rfl|q
    ·omega
    ·omega
    ·exact U49
   rw[hH'];refine gt (by simp only[V];exact rc) ?_
   obtain⟨q1,nq1,hlf⟩:=si 13 z2 om om;obtain⟨q3,nq3,hlf3⟩:=si 10 z2 om om;have hlt:=s2.nx
   by_cases z1:z=1
   ·have d1:decide (z=1)=J:=by grind
    have s1:Pr.aG [q3]=q3.cells:=by grind [Pr.aG]
    obtain⟨q2,h3,nq2,rc3,n3,g3,t3⟩:=th 14 (bn.made (h:=h2.alloc (.cells q3.cells J)) (lo:=0) (b:=h2.next) (k:=[q3].length) (es:=4) (cs:=Pr.aG [q3]) sO (pj [q3]) (il _) (je _) (by grind [co]))
    have s3:=U364;obtain⟨q4,h4,nq4,rc4,n4,g4,t4⟩:=th 15 (bn.made (h:=h3.alloc (.cells (q1.cells++q2.cells) J)) (lo:=0) (b:=h3.next) (k:=[q1,q2].length) (es:=4) (cs:=Pr.aG [q1,q2]) sO (pj [q1,q2]) (il _) (je _) (by grind [co]))
    have n3:=U360;have n4:h4.next=h2.next+2:=Sa;have gg:=U361;have g44:=U362;have pA:∀z0 z1 z2 z3:AV,dV [z0,z1,z2,z3] 0 4 q3.cells=Z q3.cells:=λ_ _ _ _=>sX;have pB:=U365;have pC:=U366;simp only[V,WF,d1,ac hlf,ac hlf3,pA,Pr.av,seval];refine gt (by simp only[V];exact rc3) ?_
    simp only[V,WF,pB,pC,Pr.av,seval];refine gt (by simp only[V];exact rc4) ?_
    simp only[V,WF,seval, *];obtain⟨r1,r2⟩:=k2.step (h'':=h4.put (h.next+1) (Z (.cells q4.cells J))) (p1.trans s2) Sa (t4 (t3 k2.1.alloc).alloc).put (λy hy=>by grind [bc])
    refine⟨_,rfl,_,⟨q4,fs2,rfl,r1,r2,l2,f2,by grind [Pr.aI]⟩,?_⟩
    exact U136
   ·have d1:decide (z=1)=U:=by grind
    have s1:Pr.aG [q1]=q1.cells:=by grind [Pr.aG]
    obtain⟨q2,h3,nq2,rc3,n3,g3,t3⟩:=th 14 (bn.made (h:=h2.alloc (.cells q1.cells J)) (lo:=0) (b:=h2.next) (k:=[q1].length) (es:=4) (cs:=Pr.aG [q1]) sO (pj [q1]) (il _) (je _) (by grind [co]))
    have n3:=U360;have gg:∀y,y<h2.next->h3.get y=h2.get y:=by grind [ids,am]
    have g44:h3.get (h.next+1)=Z (.cells [vI 0,vS ⟨#[]⟩,vI 0,.val (.slice Y 0 0)] J):=Gr;have pA:=U363;simp only[V,WF,ac hlf,Pr.av,seval, *];refine gt (by simp only[V];exact rc3) ?_
    simp only[V,WF,seval, *];obtain⟨r1,r2⟩:=k2.step (h'':=h3.put (h.next+1) (Z (.cells q2.cells J))) (p1.trans s2) Sa (t3 k2.1.alloc).put (λy hy=>by grind [bc])
    refine⟨_,rfl,_,⟨q2,fs2,rfl,r1,r2,l2,f2,by grind [Pr.aI]⟩,?_⟩
    exact U136
 exact⟨q,h',fs',uO (eJ (g:=96) rf) (Tree.pr q) ha,p1,p2,p3,p4,p5⟩
theorem aBM(p p':Pr)(hp:okT p)(hp':okT p')(hb:p.nodes<=1000000)(hb':p'.nodes<=1000000){b:Nat}{e:Evr}{fs:List Ln}{bs:List Pr}{h:AH}(k:bX h b e fs bs):
  ∃(y:Ln) (h':AH),aE E1 (.f 94) [.ptr b 0,p.av,p'.av] h (.agg y.cells) h'/\bL b h h'/\bX h' b e fs bs/\y.ts.l.length<=24:=by
 obtain⟨qa,⟨ta,na⟩,hfa⟩:=uk p hp hb;obtain⟨qb,⟨tb,nb⟩,hfb⟩:=uk p' hp' hb';obtain⟨r,h',⟨y,rfl,p1,p2,p3⟩,ha⟩:=tQ (g:=94) (l:=[.ptr b 0,p.av,p'.av]) (h:=h) (P:=λr h'=>∃(y:Ln),r=[.agg y.cells]/\bL b h h'/\bX h' b e fs bs/\y.ts.l.length<=24) bLO λs hs hh hd hr=>by
  have h0:=hs 0 _ rfl;have h1:=hs 1 _ rfl;have h2:=hs 2 _ rfl;have t1:=U295;have t2:takeN (Z 4) p'.cells=Z p'.av:=cf p'.len;obtain⟨H,hH⟩:∃H,((h.alloc (.cells p.cells J)).alloc (.cells p'.cells J)).alloc (.cells [.val (.slice Y 0 0),vI 0] J)=H:=⟨_,rfl⟩;have Hn:=U353;have Ht:ak H:=by rw[<-hH];exact k.1.alloc.alloc.alloc
  have H0:H.get h.next=Z (.cells p.cells J):=by rw[<-hH,am (by show h.next<h.next+1+1;omega),am Sp];exact co
  have H1:H.get (h.next+1)=Z (.cells p'.cells J):=by rw[<-hH,am Sp];exact co (h:=h.alloc (.cells p.cells J))
  have H2:H.get (h.next+2)=Z (.cells [.val (.slice Y 0 0),vI 0] J):=by rw[<-hH];exact co (h:=(h.alloc (.cells p.cells J)).alloc (.cells p'.cells J))
  have k0:∀o,aN H (Z (.ptr h.next o))=J:=λo=>bm om H0 p.bM;have k1:∀o,aN H (Z (.ptr (h.next+1) o))=J:=λo=>bm om H1 p'.bM;have pB:∀z0 z1 z2 z3 z4 z5 z6 z7:AV,dV [z0,z1,z2,z3,z4,z5,z6,z7] 0 4 qa.cells=Z (qa.cells++[z4,z5,z6,z7]):=λ_ _ _ _ _ _ _ _=>Hz qa.len;have pC:∀z4 z5 z6 z7:AV,dV (qa.cells++[z4,z5,z6,z7]) 4 4 qb.cells=Z (qa.cells++qb.cells):=λ_ _ _ _=>Hy qa.len qb.len;have idsAB:aQ (qa.cells++qb.cells)=[]:=by rw[ms,qa.bM,qb.bM];rfl
  refine rU _ _ _ ?_
  simp[aVI,f94,aVJ,V, *];refine pb rfl ?_
  simp[aVH,X0,X1,X2,X3,X4,V,WF,Nat.add_assoc,H0,H1,t1,t2,k0,k1,an p.ah,ge p.ah,an p'.ah,ge p'.ah,ee hfa,ee hfb,Pr.av,an qa.ah,an qb.ah,pB,pC,idsAB];have cab:qa.cells++qb.cells=Pr.aG [qa,qb]:=by grind [Pr.aG]
  have tq:Tree (Pr.mk 7 ⟨#[]⟩ 0 [qa,qb] Y (Z 2)).av:=Tree.pr _;have hN:∀h,aE E1 (.f 95) ([vI 7]++[.imm (qa.cells++qb.cells) 2 (Z 2)]) h (Pr.mk 7 ⟨#[]⟩ 0 [qa,qb] Y (Z 2)).av h:=λh=>by
   have:=Dv 7 ⟨[qa,qb],Y,Z 2⟩ h;have e1:(⟨[qa,qb],Y,Z 2⟩:Vl Pr).A Pr.cells=.imm (qa.cells++qb.cells) 2 (Z 2):=by
    show AV.imm ([qa,qb].flatMap Pr.cells) 2 (Z 2)=_
    grind
   grind
  have tm7:tmT (Pr.mk 7 ⟨#[]⟩ 0 [qa,qb] Y (Z 2)):=⟨⟨λq=>(by cases q),λ_=>ij 2⟩,ta,tb,trivial⟩
  obtain⟨t,ht,hct⟩:=xg _ tm7;obtain⟨y,bb,rfl,hy⟩:=vQ ht;have rx:bn (H.alloc (.cells (qa.cells++qb.cells) J)) 0 2 4 (.own H.next 0 2 4 (Z 2)) (qa.cells++qb.cells):=bn.made (k:=2) (by grind [sO]) (by grind [pj]) (il _) (je _) co
  refine rY (sK (j:=14) de (v:=.own H.next 0 2 4 (Z 2)) (by simp[V]) (λe=>by cases e)) ?_
  refine vm (xs:=[vI 7]) (ys:=[]) (w:=.own H.next 0 2 4 (Z 2)) (lo:=0) (k:=2) (es:=4) (cs:=qa.cells++qb.cells) (t:=(Pr.mk 7 ⟨#[]⟩ 0 [qa,qb] Y (Z 2)).av) rx (eJ (g:=95) rf) (qr (Tree.val _)) (λv hv=>by cases hv) ?_ Ht.alloc (aj.imm _ _ _).tree hN ?_ ?_
  ·simp[X3,V]
  ·simp[X3]
  intro h5 n5 g5 t5;have i7:ids (AV.agg (Pr.mk 7 ⟨#[]⟩ 0 [qa,qb] Y (Z 2)).cells)=[]:=Pr.ah _;have iT:ids (.tup [.agg y.cells,Vb bb])=[]:=by show ids (.agg y.cells)++(ids (Vb bb)++[])=[];rw[y.ah];rfl
  have hstL:=U351;simp[X0,X1,X2,X3,X4,V,WF,Pr.av,an i7,ge i7,ee hct,an iT,an y.ah,hstL];have n5:h5.next=h.next+4:=by have:h5.next=H.next+1:=n5;omega
  have g5:∀y,y<h.next+3->h5.get y=H.get y:=λy hy=>by
   rw[g5 y (by grind [ids])]
   exact am om
  have Hg:∀y,y<h.next->H.get y=h.get y:=λy hy=>by rw[<-hH,am (by show y<h.next+1+1;omega),am (by show y<h.next+1;omega),am hy]
  have kk:=k;obtain⟨nt0,vF,vB,lg,wr,a⟩:=kk;have lt:=a.lt;have lo:∀y,y<h.next\/y=b\/y∈aq h b->y<h.next:=λy hy=>by
   rcases hy with q|rfl|q
   ·exact q
   ·exact lt
   ·exact U50
  obtain⟨H6,hH6⟩:∃H6,(h5.alloc (.cells [.val (.slice Y 0 0),vI 0] J)).put h5.next (Z (.cells y.cells J))=H6:=⟨_,rfl⟩;have n6:H6.next=h.next+5:=by rw[<-hH6];show h5.next+1=_;omega
  have t6:ak H6:=by rw[<-hH6];exact t5.alloc.put
  have g6:∀y,y<h.next+3->H6.get y=H.get y:=by grind [bc,am]
  have k7:aN (h5.alloc (.cells [.val (.slice Y 0 0),vI 0] J)) (Z (.ptr h5.next 0))=J:=bm (je _) co rfl;have c62:H6.get (h.next+2)=Z (.cells [.val (.slice Y 0 0),vI 0] J):=Gr;have c6n:H6.get h5.next=Z (.cells y.cells J):=by grind [lA]
  have y0:=U350;have ty:=U325;refine⟨k7,?_⟩;rw[hH6];cases bb with
  |true=>
   simp[V,WF,c6n,c62,ty,hstL,hd];obtain⟨p1,p2⟩:=k.step (h'':=H6.put (h.next+2) (Z (.cells y.cells J))) bL.refl Sa t6.put (λz hz=>by
    grind [bc])
   exact⟨_,rfl,_,⟨y,rfl,p1,p2,hy⟩,by rw[lA,y0,jn,ty];rfl⟩
  |false=>
   have gb:H6.get b=Z (.cells [e.vs.A Vr.cells,e.sy.A Sm.cells,e.hs.A Ho.cells,vF,vB,Vb lg,Vb wr] J):=by rw[g6 b om,Hg b lt,a.g]
   have hs6:=U367;have hs0:=U309;have nb2:¬h.next+2=b:=om;have nb3:¬b=h.next+2:=om;simp[V,WF, *];obtain⟨H7,hH7⟩:∃H7,(H6.put b (Z (.cells [e.vs.A Vr.cells,e.sy.A Sm.cells,e.hs.A Ho.cells,vF,vB,Vb lg,Vb J] J))).put (h.next+2) (Z (.cells [.val (.slice Y 0 0),vI 0] J))=H7:=⟨_,rfl⟩;have n7:H7.next=h.next+5:=by rw[<-hH7];exact n6
   have t7:ak H7:=by rw[<-hH7];exact t6.put.put
   have g7b:=U368;have g7:∀z,z<h.next->z≠b->H7.get z=h.get z:=by grind [bc]
   have a7:=U369;rw[hH7];refine⟨_,rfl,_,⟨⟨⟨[],ai,Y⟩,0⟩,rfl,⟨om,λz z1 z2 _=>g7 z z1 z2,λz hz=>.inl (by rw[a7.at] at hz;rw[a.at];exact hz)⟩,⟨t7,_,_,_,_,a7⟩,il _⟩,?_⟩
   have c72:H7.get (h.next+2)=Z (.cells [.val (.slice Y 0 0),vI 0] J):=by grind [lA]
   rw[c72];rfl
 exact⟨y,h',uO (eJ (g:=94) rf) (Tree.ln y) ha,p1,p2,p3⟩
theorem Xj(p:Pr)(hb:p.nodes<2^61){b:Nat}{e:Evr}{fs:List Ln}{bs:List Pr}{h:AH}(hV:EvB e)(k:bX h b e fs bs):
  ∃h':AH,aE E1 (.f 92) [.ptr b 0,p.av] h (vS ((ofS e p).1)) h'/\bL b h h'/\bX h' b e fs bs:=by
 obtain⟨r,h',⟨rfl,p1,p2⟩,ha⟩:=tQ (g:=92) (l:=[.ptr b 0,p.av]) (h:=h) (P:=λr h'=>r=[vS ((ofS e p).1)]/\bL b h h'/\bX h' b e fs bs) bLQ λs hs hh hd hr=>by
  have h0:=hs 0 _ rfl;have h1:=hs 1 _ rfl;have kk:=k;obtain⟨nt0,vF,vB,lg,wr,a⟩:=kk;have lt:=a.lt;have a1:gY (h.alloc (.cells p.cells J)) b e fs bs vF vB lg wr:=a.alloc;have kq:∀o,aN (h.alloc (.cells p.cells J)) (Z (.ptr b o))=J:=λo=>a1.known;have kp:∀o,aN (h.alloc (.cells p.cells J)) (Z (.ptr h.next o))=J:=λo=>bm (je _) co p.bM;have c0:∀(u w:AV) (l1 w1:Bool),cfB (Z (.cells [e.vs.A Vr.cells,e.sy.A Sm.cells,e.hs.A Ho.cells,u,w,Vb l1,Vb w1] J)) 0=Z [e.vs.A Vr.cells,e.sy.A Sm.cells,e.hs.A Ho.cells,u,w,Vb l1,Vb w1]:=λ_ _ _ _=>rfl;have t3:∀(u v w:AV) (l:List AV),takeN (Z 3) (u::v::w::l)=Z (.agg [u,v,w]):=λ_ _ _ _=>rfl;have tp:=U295;have hc:∀h,aE E1 (.f 88) [.agg [e.vs.A Vr.cells,e.sy.A Sm.cells,e.hs.A Ho.cells],p.av] h (.tup [vS ((ofS e p).1),vI ((ofS e p).2)]) h:=tf e hV p hb;have ie:ids (.agg [e.vs.A Vr.cells,e.sy.A Sm.cells,e.hs.A Ho.cells])=[]:=by show ids _++(ids _++(ids _++[]))=[];grind [Vl.ids]
  have it:ids (.tup [vS ((ofS e p).1),vI ((ofS e p).2)])=[]:=rfl;have gb:=a1.g;refine rU _ _ _ ?_
  simp[aVL,f92,aVM,V, *];refine pb rfl ?_
  simp only[aVK,X0,X1,X2,X3,X4,V,an ie,ge ie,an p.ah,ge p.ah,ee hc,an it,seval, *];refine⟨_,rfl,_,⟨rfl,⟨j5 _,λy hy _ _=>am hy,λy hy=>.inl (by rw[a1.at] at hy;rw[a.at];exact hy)⟩,nt0.alloc,vF,vB,lg,wr,a1⟩,rfl⟩
 exact⟨h',uB (eJ (g:=92) rf) rfl Gk ha,p1,p2⟩
theorem Jy(p:Pr){b:Nat}{e:Evr}{fs:List Ln}{bs:List Pr}{vF vB:AV}{lg wr:Bool}(hB:bs.length<2^28)(hbs:∀q∈bs,q.nodes<2^61):∀(r:List Pr) (i c:Nat) (m:Bool) (s:St),bs.drop i=r->i<=bs.length->gY s.h b e fs bs vF vB lg wr->c<s.h.next->s.h.get c=Z (.cells p.cells J)->
  s.eval (.t 0)=Z (.ptr b 0)->s.eval (.t 3)=Z (.ptr c 0)->s.eval (.t 6)=Z (Vb m)->s.eval (.t 7)=Z (vI (i:Nat))->s.defers=[]->
  Run E1 To s λe s'=>s'.h=s.h/\s'.defers=[]/\e=.exit 0/\(∃m:Bool,s'.eval (.t 6)=Z (Vb m))/\∀j,j<6->s'.eval (.t j)=s.eval (.t j)
 | [],i,c,m,s,hd,hi,a,hc,gc,h0,h3,h6,h7,hf=>by
  have hl:=ca hd hi;subst hl;have c4:=U370;apply az (rfl:To=.loop ql);simp only[ql,V,a.g,a.rB.len,tE,seval, *]
  grind
 |f::r,i,c,m,s,hd,hi,a,hc,gc,h0,h3,h6,h7,hf=>by
  have hl:=cz hd;have hlt:=rj hl;have w1:=U204;have c4:=U370;have hz:=sR f (hbs f (jp (i:=i) Gr)) p;have kq:=U342;have kx:=U371;have kv:=bz a.rB.x.nice;obtain⟨lf,hlen,⟨q,_⟩|⟨B,B1,B2,B3,rfl,gB⟩⟩:=id a.rB
  ·omega
  have kB:=U343;have hix:=U372;have hcf:cfB (Z (.cells (Pr.aG bs) J)) (i*4)=Z (f.cells++Pr.aG r):=by
   exact U138
  have tp:=U295;apply az (rfl:To=.loop ql);simp only[ql,aVQ,V,a.g,wF,seval, *];refine pb rfl ?_
  cases m with
  |true=>
   simp only[aFG,X0,X1,X2,X3,X4,V,seval, *];refine(Jy p (b:=b) (e:=e) (fs:=fs) (vF:=vF) (vB:=.own B 0 bs.length 4 Y) (lg:=lg) (wr:=wr) hB hbs r (i+1) c J _ (ba hd) om ?_ ?_ ?_ ?_ ?_ ?_ ?_ ?_).mono ?_
   all_goals try simp only[V,↓reduceIte,rA,reduceCtorEq,h0,h3,hf,gc]
   ·exact a
   ·exact hc
   exact U139
  |false=>
   simp only[aFG,X0,X1,X2,X3,X4,V,a.g,an f.ah,ge f.ah,an p.ah,ge p.ah,ee hz,Pr.av,seval, *];refine(Jy p (b:=b) (e:=e) (fs:=fs) (vF:=vF) (vB:=.own B 0 bs.length 4 Y) (lg:=lg) (wr:=wr) hB hbs r (i+1) c (f.same p) _ (ba hd) om ?_ ?_ ?_ ?_ ?_ ?_ ?_ ?_).mono ?_
   all_goals try simp only[V,↓reduceIte,rA,reduceCtorEq,h0,h3,hf,gc]
   ·exact a
   ·exact hc
   exact U139
theorem aFI(p:Pr){b c:Nat}{e:Evr}{fs:List Ln}{bs:List Pr}{vF vB:AV}{lg wr:Bool}{s:St}(hB:bs.length<2^28)(a:gY s.h b e fs bs vF vB lg wr)(nt:ak s.h)(hc:c<s.h.next)(gc:s.h.get c=Z (.cells p.cells J))(h0:s.eval (.t 0)=Z (.ptr b 0))(h3:s.eval (.t 3)=Z (.ptr c 0)):
  Run E1 aVP s λe' s'=>e'=.normal/\s'.defers=s.defers/\bL b s.h s'.h/\bX s'.h b e fs (bs++[p])/\∀j,j<6->s'.eval (.t j)=s.eval (.t j):=by
 have c4:=U373;have kq:=U342;have kx:=U371;have kv:=bz a.rB.x.nice;have nv:=a.rB.x.nice;have ns:=λy=>(a.alloc (x:=y)).rB.x.nice;have tp:=U295;have gb:=a.g;refine pb rfl ?_
 simp[aVO,X0,X1,X2,X3,X4,V,WF,Pr.bM,a.rB.len,aCJ,sX,Pr.av, *];have lt:=a.lt;refine sk (k:=bs.length) (m:=1) (lo:=b+1) (v:=vB) (x:=.own s.h.next 0 1 4 (Z 1)) (cs:=Pr.aG bs) (new:=zPr.cells) ?_ ?_ ?_ de rf (Pr.leaves _) (lR om de) ?_ ?_ ?_
 ·simp[V];exact a.rB.to (j5 _) λy _ y2=>am y2
 ·simp[V];omega
 ·refine kl (rw':=J) ?_ rf;simp[V]
 ·simp[V]
 ·simp[V]
 intro h2 rv2 n2 o2 t2 g58;simp[V] at rv2 n2 o2 t2 g58;have nt2:=t2 nt.alloc;have fr:∀z,z<s.h.next->z∉ids vB->h2.get z=s.h.get z:=Gr;have nb:b∉ids vB:=λq=>by have:=(a.rB.ids b q).1;omega
 have gb2:h2.get b=Z (.cells [e.vs.A Vr.cells,e.sy.A Sm.cells,e.hs.A Ho.cells,vF,vB,Vb lg,Vb wr] J):=Gr;have kO:=bz rv2.x.nice;have kb:∀o,aN h2 (Z (.ptr b o))=J:=λo=>rg om gb2 (by
  have e1:=U345;rw[e1];refine j3.2 λy hy=>j8.mpr ?_
  rcases U340 with q|q
  ·have:=(a.rF.ids y q).2.1;omega
  ·have:=(a.rB.ids y q).2.1;omega)
 have hix:∀c,aX 4 (.own (s.h.next+1) 0 (bs.length+1) 4 c) bs.length=Z (.ptr (s.h.next+1) (0+bs.length*4)):=by simp[wt]
 have kB:∀o,aN h2 (Z (.ptr (s.h.next+1) o))=J:=λo=>bm om g58 (by rw[ms,rX a.rB.1,Pr.bM];rfl)
 have hst:∀(H:AH),stK H (s.h.next+1) 4 (bs.length*4) p.cells (Z (.cells (Pr.aG bs++zPr.cells) J))=Z (H.put (s.h.next+1) (Z (.cells (Pr.aG bs++p.cells) J))):=by grind [aHN,pj,Pr.len]
 have hs4:∀(H:AH) (u w z:AV) (l1 w1:Bool),stK H b 1 4 [z] (Z (.cells [e.vs.A Vr.cells,e.sy.A Sm.cells,e.hs.A Ho.cells,u,w,Vb l1,Vb w1] J))=Z (H.put b (Z (.cells [e.vs.A Vr.cells,e.sy.A Sm.cells,e.hs.A Ho.cells,u,z,Vb l1,Vb w1] J))):=λ_ _ _ _ _ _=>rfl;have nb1:¬b=s.h.next+1:=om;have nb2:¬s.h.next+1=b:=om;have lc:aQ (Pr.aG bs++p.cells)=[]:=by rw[ms,rX a.rB.1,Pr.bM];rfl
 simp only[X0,X1,X2,X3,X4,V,WF,hix,kB,kO,kb,g58,gb2,hst,hs4,nb1,lc,an p.ah,not_false_eq_true,seval];obtain⟨H,hH⟩:∃H,(h2.put (s.h.next+1) (Z (.cells (Pr.aG bs++p.cells) J))).put b (Z (.cells [e.vs.A Vr.cells,e.sy.A Sm.cells,e.hs.A Ho.cells,vF,.own (s.h.next+1) 0 (bs.length+1) 4 Y,Vb lg,Vb wr] J))=H:=⟨_,rfl⟩;have Hn:H.next=s.h.next+2:=by rw[<-hH];show h2.next=_;omega
 have Ht:ak H:=by rw[<-hH];exact nt2.put.put
 have Hb:H.get b=Z (.cells [e.vs.A Vr.cells,e.sy.A Sm.cells,e.hs.A Ho.cells,vF,.own (s.h.next+1) 0 (bs.length+1) 4 Y,Vb lg,Vb wr] J):=by grind [lA]
 have Ho:∀z,z<s.h.next->z≠b->z∉ids vB->H.get z=s.h.get z:=by grind [bc]
 have HB:H.get (s.h.next+1)=Z (.cells (Pr.aG bs++p.cells) J):=by grind [bc,lA]
 have aH:gY H b e fs (bs++[p]) vF (.own (s.h.next+1) 0 (bs.length+1) 4 Y) lg wr:=by
  refine⟨om,Hb,a.rF.toB om λy hy=>Ho y (a.rF.ids y hy).2.1 (by have:=(a.rF.ids y hy).1;omega) (a.dj y hy),?_,λy hy hy2=>?_⟩
  ·rw[jh,pl];refine⟨λc hc=>?_,by grind [pj,Pr.len],.inr ⟨s.h.next+1,om,om,Gr,rfl,HB⟩⟩
   rcases U292 with hc|hc
   ·exact a.rB.1 c hc
   grind [Pr.leaves]
  ·simp[ids] at hy2;have:=(a.rF.ids y hy).2.1;omega
 rw[hH];refine⟨⟨om,om⟩,⟨om,λy y1 y2 y3=>?_,λy hy=>?_⟩,⟨Ht,_,_,_,_,aH⟩,λj hj=>?_⟩
 ·rw[a.at] at y3
  grind
 ·rw[aH.at] at hy;rw[a.at]
  grind [ids]
 ·repeat rw[if_neg om]
theorem Re(p:Pr)(hp:okT p)(hn:p.nodes<=1000000){b:Nat}{e:Evr}{fs:List Ln}{bs:List Pr}{h:AH}(hF:fs.length<2^27)(hfs:∀f∈fs,f.ts.l.length<=24)(hB:bs.length<2^28)(hbs:∀q∈bs,q.nodes<2^61)(k:bX h b e fs bs):
  ∃(q:Pr) (h':AH) (fs':List Ln) (bs':List Pr),aE E1 (.f 90) [.ptr b 0,p.av] h q.av h'/\bL b h h'/\bX h' b e fs' bs'/\fs'.length<=fs.length+1/\(∀f∈fs',f.ts.l.length<=24)/\(bs'=bs\/bs'=bs++[p])/\q.nodes<=3:=by
 obtain⟨y,hy,h66⟩:=yJ p hp hn 1 (-1);obtain⟨z,_,hck⟩:=sU y;obtain⟨r,h',⟨q,fs',bs',rfl,p1,p2,p3,p4,p5,p6⟩,ha⟩:=tQ (g:=90) (l:=[.ptr b 0,p.av]) (h:=h) (P:=λr h'=>∃(q:Pr) (fs':List Ln) (bs':List Pr),r=[q.av]/\bL b h h'/\bX h' b e fs' bs'/\fs'.length<=fs.length+1/\(∀f∈fs',f.ts.l.length<=24)/\(bs'=bs\/bs'=bs++[p])/\q.nodes<=3) bLS λs hs hh hd hr=>by
  have h0:=hs 0 _ rfl;have h1:=hs 1 _ rfl;have tp:=U295;have ty:=U325;have y0:=U350;have hstL:=U351;have z4:=U260;have nn:=U347;refine rU _ _ _ ?_
  by_cases z0:z=0
  ·have dz:decide (z=0)=J:=by grind
   simp only[aFH,f90,V,WF,h1,hh,nn,tp,Pr.av,ac h66,ac hck,hstL,ty,y0,dz,seval];have kk:=k;obtain⟨nt0,vF,vB,lg,wr,a⟩:=kk;have lt:=a.lt;have lo:∀y,y<h.next\/y=b\/y∈aq h b->y<h.next:=λy hy=>by
    rcases hy with q|rfl|q
    ·exact q
    ·exact lt
    ·exact U50
   obtain⟨H,hH⟩:∃H,(((h.alloc (.cells p.cells J)).alloc (.cells [vI 0,vS ⟨#[]⟩,vI 0,.val (.slice Y 0 0)] J)).alloc (.cells [.val (.slice Y 0 0),vI 0] J)).put (h.next+1+1) (Z (.cells y.cells J))=H:=⟨_,rfl⟩;have Hn:=U353;have Ht:=U354;have Hg:=U355;have H0:H.get h.next=Z (.cells p.cells J):=by rw[<-hH,bc om,am (by show h.next<h.next+1+1;omega),am Sp];exact co
   have H1:H.get (h.next+1)=Z (.cells [vI 0,vS ⟨#[]⟩,vI 0,.val (.slice Y 0 0)] J):=by rw[<-hH,bc om,am Sp];exact co (h:=h.alloc (.cells p.cells J))
   have H2:H.get (h.next+2)=Z (.cells y.cells J):=by grind [lA]
   have aH:gY H b e fs bs vF vB lg wr:=a.to om λz hz=>Hg z (lo z (.inr hz));obtain⟨s1,k1⟩:=k.step (h'':=H) bL.refl om Ht (λz hz=>Hg z (lo z hz));have e1:=U357;have fin:∀(G:AH) (bs':List Pr),bL b H G->bX G b e fs bs'->∃(q:Pr) (h3:AH) (fs':List Ln),aE E1 (.f 93) [.ptr b 0,.agg y.cells] G q.av h3/\G.get (h.next+2)=Z (.cells y.cells J)/\h3.get (h.next+1)=Z (.cells [vI 0,vS ⟨#[]⟩,vI 0,.val (.slice Y 0 0)] J)/\bL b h (h3.put (h.next+1) (Z (.cells q.cells J)))/\bX (h3.put (h.next+1) (Z (.cells q.cells J))) b e fs' bs'/\fs'.length<=fs.length+1/\(∀f∈fs',f.ts.l.length<=24)/\q.nodes<=3:=λG bs' sG kG=>by
    have mine:∀z,h.next<=z->z<h.next+3->z≠b/\z∉aq H b:=Gr;have mineG:∀z,h.next<=z->z<h.next+3->z∉aq G b:=λz z1 z2 q=>by
     rcases sG.ow z q with q|q<;>grind
    have nG:=sG.nx;obtain⟨q,h3,fs',rc,s3,k3,l3,f3,nq⟩:=Dh y hy hF hfs kG;have g1:h3.get (h.next+1)=Z (.cells [vI 0,vS ⟨#[]⟩,vI 0,.val (.slice Y 0 0)] J):=by
     rw[s3.fr _ om (mine _ om om).1 (mineG _ om om),sG.fr _ om (mine _ om om).1 (mine _ om om).2,H1]
    have g2:G.get (h.next+2)=Z (.cells y.cells J):=by rw[sG.fr _ om (mine _ om om).1 (mine _ om om).2,H2]
    obtain⟨r1,r2⟩:=k3.step (h'':=h3.put (h.next+1) (Z (.cells q.cells J))) ((s1.trans sG).trans s3) (ij _) k3.1.put (λz hz=>bc (by
     rcases hz with q|rfl|q
     ·omega
     ·omega
     ·intro e;subst e;rcases s3.ow _ q with q|q<;>grind))
    grind
   rw[hH];refine(Jy p (b:=b) (e:=e) (fs:=fs) (vF:=vF) (vB:=vB) (lg:=lg) (wr:=wr) hB hbs bs 0 h.next U _ rfl (il _) ?_ ?_ ?_ ?_ ?_ ?_ ?_ ?_).mono ?_
   all_goals try simp only[V,↓reduceIte,rA,reduceCtorEq,h0,hd]
   ·exact aH
   ·omega
   ·exact H0
   ·rfl
   rintro e' s2 ⟨eh,d2,rfl,⟨m,e6⟩,ev⟩;have eh:s2.h=H:=eh;have u0:s2.eval (.t 0)=Z (.ptr b 0):=Gr;have u3:s2.eval (.t 3)=Z (.ptr h.next 0):=Gr;have u4:s2.eval (.t 4)=Z (.ptr (h.next+1) 0):=Gr;have u5:s2.eval (.t 5)=Z (.ptr (h.next+2) 0):=Gr;cases m with
   |true=>
    obtain⟨q,h3,fs',rc,g2,g1,r1,r2,l3,f3,nq⟩:=fin H bs bL.refl k1;simp only[V,WF,seval, *];refine gt (by simp only[V,eh];exact rc) ?_
    simp only[V,WF,seval, *];refine⟨_,rfl,_,⟨q,fs',bs,rfl,r1,r2,l3,f3,.inl rfl,nq⟩,?_⟩;exact U136
   |false=>
    simp only[V,WF,e6];refine(aFI p (b:=b) (c:=h.next) (e:=e) (fs:=fs) (bs:=bs) (vF:=vF) (vB:=vB) (lg:=lg) (wr:=wr) hB ?_ ?_ ?_ ?_ ?_ ?_).mono ?_
    all_goals try simp only[V,↓reduceIte,rA,reduceCtorEq,eh,u0,u3]
    ·exact aH
    ·exact Ht
    ·omega
    ·exact H0
    rintro e' s3 ⟨rfl,d3,sG,kG,ev3⟩
    try simp[d2] at d3 sG
    have v0:s3.eval (.t 0)=Z (.ptr b 0):=Gr;have v4:s3.eval (.t 4)=Z (.ptr (h.next+1) 0):=Gr;have v5:s3.eval (.t 5)=Z (.ptr (h.next+2) 0):=Gr;obtain⟨q,h3,fs',rc,g2,g1,r1,r2,l3,f3,nq⟩:=fin s3.h (bs++[p]) sG kG;simp only[V,seval, *];refine gt (by simp only[V];exact rc) ?_
    simp only[V,WF,seval, *];refine⟨_,rfl,_,⟨q,fs',bs++[p],rfl,r1,r2,l3,f3,.inr rfl,nq⟩,?_⟩;exact U136
  ·have dz:=U311;have kk:=k;obtain⟨nt0,vF,vB,lg,wr,a⟩:=kk;have lt:=a.lt;have gb:=a.g;have nb0:¬b=h.next:=om;have nb1:¬b=h.next+1:=om;have nb2:¬b=h.next+1+1:=om;have nb3:¬h.next+1=b:=om;have hs6:=U367;simp only[aFH,f90,V,WF,Pr.av,ac h66,ac hck,ac (uf U),seval, *];obtain⟨H7,hH7⟩:∃H7,(((((h.alloc (.cells p.cells J)).alloc (.cells [vI 0,vS ⟨#[]⟩,vI 0,.val (.slice Y 0 0)] J)).alloc (.cells [.val (.slice Y 0 0),vI 0] J)).put (h.next+1+1) (Z (.cells y.cells J))).put b (Z (.cells [e.vs.A Vr.cells,e.sy.A Sm.cells,e.hs.A Ho.cells,vF,vB,Vb lg,Vb J] J))).put (h.next+1) (Z (.cells (Pr.mk 2 ⟨#[]⟩ 0 [] ai Y).cells J))=H7:=⟨_,rfl⟩;have n7:H7.next=h.next+3:=by rw[<-hH7];rfl
   have t7:ak H7:=by rw[<-hH7];exact k.1.alloc.alloc.alloc.put.put.put
   have g7b:=U368;have g7:∀z,z<h.next->z≠b->H7.get z=h.get z:=λz hz hb=>by rw[<-hH7,bc om,bc hb,bc om,am (by show z<h.next+1+1;omega),am (by show z<h.next+1;omega),am hz]
   have a7:=U369;have c7:H7.get (h.next+1)=Z (.cells (Pr.mk 2 ⟨#[]⟩ 0 [] ai Y).cells J):=by grind [lA]
   rw[hH7];refine⟨_,rfl,_,⟨Pr.mk 2 ⟨#[]⟩ 0 [] ai Y,fs,bs,rfl,⟨om,λz z1 z2 _=>g7 z z1 z2,λz hz=>.inl (by rw[a7.at] at hz;rw[a.at];exact hz)⟩,⟨t7,_,_,_,_,a7⟩,j5 _,hfs,.inl rfl,by show 1<=3;decide⟩,?_⟩
   rw[c7,Er,jn,cf (Pr.len _)];rfl
 exact⟨q,h',fs',bs',uO (eJ (g:=90) rf) (Tree.pr q) ha,p1,p2,p3,p4,p5,p6⟩
end Go.Proofs.YtmbabhlmdhghdaaGreatDoor
