/- VRlook VRsorts VRof VTop VRbool VNest VFlat VRenv -/
import Derived.Test.YtmbabhlmdhghdaaGreatDoorN3
set_option linter.all false
open Nat renaming reduceEqDiff->rA, reduceAdd->rB, reduceMul->rC
open Int renaming reduceEq->rD, reduceLT->rE, reduceLE->rF
open Option renaming some->Z, none->Y
open Bool renaming true->J, false->U
open List renaming all_cons->j9, all_nil->jc, cons_append->jj, drop_eq_nil_iff->Az, mem_cons_of_mem->iy, mem_cons_self->ip, mem_nil_iff->jd, nil_append->ju
open Nat renaming zero_le->il
namespace Go.Proofs.YtmbabhlmdhghdaaGreatDoor
open Go Go.AM
set_option maxHeartbeats 4000000
theorem Px(Vx:Evr)(b:ByteArray)(hN:Vx.vs.l.length<2^61):∀(k:Nat) (s:St),k<=Vx.vs.l.length->s.h.get 0=Z (.cells Vx.cells J)->s.eval (.t 2)=Z (.ptr 0 0)->s.eval (.t 1)=Z (vS b)->s.eval (.t 6)=Z (vI ((k:Int)-1))->s.defers=[]->
  Run E1 oQ s λe s'=>s'.defers=[]/\((vlk b (Vx.vs.l.take k).reverse=Y/\e=.exit 0)\/(∃x,vlk b (Vx.vs.l.take k).reverse=Z x/\e=.ret/\s'.eval (.t 4)=Z (vS x)/\s'.eval (.t 5)=Z (Vb J)))
 |0,s,hk,g0,h2,h1,h6,hf=>by
  have c1:decide ((0:Int)<=((0:Nat):Int)-1)=U:=by rfl
  apply az (rfl:oQ=.loop lD);simp[lD,V,vlk, *]
 |k+1,s,hk,g0,h2,h1,h6,hf=>by
  have e6:(((k+1:Nat):Int)-1)=(k:Int):=om;rw[e6] at h6;have c1:decide ((0:Int)<=(k:Int))=J:=by rfl
  obtain⟨v,r,hd⟩:∃v r,Vx.vs.l.drop k=v::r:=⟨Vx.vs.l[k],Vx.vs.l.drop (k+1),List.drop_eq_getElem_cons om⟩;have w1:IntKind.i64.wrap ((k:Int)-1)=(k:Int)-1:=IntWalk.i64_in _ om;rw[aRM hd];apply az (rfl:oQ=.loop lD);cases hq:aP v.nm b with
  |true=>
   simp only[lD,V,Vx.vs.at Vr.len hd,vlk,seval, *]
   grind
  |false=>
   simp[lD,V,Vx.vs.at Vr.len hd,vlk, *];refine Px Vx b hN k _ om ?_ ?_ ?_ ?_ ?_
   all_goals simp only[V,↓reduceIte,rA,h2,h1,g0,hf]
theorem yn(Vx:Evr)(b:ByteArray)(hN:Vx.vs.l.length<2^61)(h:AH):aE E1 (.f 159) [.agg Vx.cells,vS b] h (.tup (optR (varS Vx.vs.l b))) h:=by
 have one:bQ (optR (varS Vx.vs.l b))=.tup (optR (varS Vx.vs.l b)):=by cases varS Vx.vs.l b<;>rfl
 have key:=Qx (g:=159) (l:=[.agg Vx.cells,vS b]) (rs:=optR (varS Vx.vs.l b)) bFE λs hs hh hd=>by
  have h0:=hs 0 _ rfl;have h1:=hs 1 _ rfl;simp[aJX,f159,V, *];have w1:IntKind.i64.wrap (((Vx.vs.l.length:Nat):Int)-1)=((Vx.vs.l.length:Nat):Int)-1:=IntWalk.i64_in _ om;refine(Px Vx b hN Vx.vs.l.length _ (Nat.le_refl _) ?_ ?_ ?_ ?_ ?_).mono ?_
  ·rfl
  ·simp[V]
  ·simp[V,h1]
  ·simp[V,w1]
  ·simp[V,hd]
  rw[List.take_length];rintro e s1 ⟨d1,⟨q,rfl⟩|⟨x,q,rfl,e4,e5⟩⟩
  ·simp[V,varS,optR, *]
  ·simp[V,varS,optR, *]
 rw[one] at key;exact eK rf rf (sE (Tree.ev Vx) (Tree.val _)) (aNQ _) (aNP _) key h
theorem Ps(Vx:Evr)(b:ByteArray)(hN:Vx.hs.l.length<2^61):∀(r:List Ho) (i:Nat) (s:St),Vx.hs.l.drop i=r->i<=Vx.hs.l.length->s.h.get 0=Z (.cells Vx.cells J)->
  s.h.get 1=Z (.cells [vS ⟨#[]⟩,.val (.slice Y 0 0)] J)->s.eval (.t 1)=Z (vS b)->s.eval (.t 2)=Z (.ptr 0 0)->s.eval (.t 4)=Z (.ptr 1 0)->s.eval (.t 6)=Z (vI (i:Nat))->s.defers=[]->
  Run E1 ou s λe s'=>s'.defers=[]/\s'.eval (.t 4)=Z (.ptr 1 0)/\((jY b r=Y/\e=.exit 0/\s'.h.get 1=Z (.cells [vS ⟨#[]⟩,.val (.slice Y 0 0)] J))\/(∃x,jY b r=Z x/\e=.ret/\s'.eval (.t 5)=Z (Vb J)/\s'.h.get 1=Z (.cells x.cells J)))
 | [],i,s,hd,hi,g0,g1,h1,h2,h4,h6,hf=>by
  have hl:=ca hd hi;subst hl;apply az (rfl:ou=.loop km);simp[km,V,jY, *]
 |k::r,i,s,hd,hi,g0,g1,h1,h2,h4,h6,hf=>by
  have hl:=cz hd;have hlt:=rj hl;have w1:=U204;apply az (rfl:ou=.loop km);cases hq:aP k.nm b with
  |true=>
   simp only[km,V,WF,Vx.hs.at Ho.len hd,vC,jY,seval, *]
   grind
  |false=>
   simp only[km,V,Vx.hs.at Ho.len hd,jY,seval, *];refine Ps Vx b hN r (i+1) _ (ba hd) om ?_ ?_ ?_ ?_ ?_ ?_ ?_
   all_goals simp only[V,↓reduceIte,rA,g0,g1,h1,h2,h4,hf]
theorem Ly(Vx:Evr)(b:ByteArray)(hN:Vx.hs.l.length<2^61)(h:AH):
  aE E1 (.f 207) [.agg Vx.cells,vS b] h (match jY b Vx.hs.l with
   |some x=>.tup [.agg x.cells,Vb J]
   |none=>.tup [.agg (Ho.mk ⟨#[]⟩ ⟨[],ai,Y⟩).cells,Vb U]) h:=by
 refine bHN rf bES (sE (Tree.ev Vx) (Tree.val _)) (λs hs hh hd hr=>?_) h;have h0:=hs 0 _ rfl;have h1:=hs 1 _ rfl;simp[aJJ,f207,V, *];refine(Ps Vx b hN Vx.hs.l 0 _ rfl (il _) ?_ ?_ ?_ ?_ ?_ ?_ ?_).mono ?_
 ·rfl
 ·simp[V]
 ·simp[V,h1]
 ·simp[V]
 ·simp[V]
 ·simp only[V];rfl
 ·simp[V,hd]
 rintro e s1 ⟨d1,e4,⟨q,rfl,g1⟩|⟨x,q,rfl,e5,g1⟩⟩
 ·simp only[V,WF,bJX,bJT,seval, *];exact⟨_,rfl,2,de,xS (b:=.val .nilFunc) (sJ (λv hv=>by
   simp[jd] at hv;rcases hv with rfl|rfl<;>exact aj.val _))⟩
 ·simp only[V, *];exact⟨_,rfl,2,de,xS (b:=.val .nilFunc) (sJ (λv hv=>by
   simp[Ho.cells] at hv;rcases hv with rfl|rfl<;>simp[aj.val,Vl.leaf]))⟩
theorem Pu(Vx:Evr)(b:ByteArray)(hN:Vx.sy.l.length<2^61):∀(r:List Sm) (i:Nat) (s:St),Vx.sy.l.drop i=r->i<=Vx.sy.l.length->s.h.get 0=Z (.cells Vx.cells J)->
  s.h.get 1=Z (.cells [vS ⟨#[]⟩,.val (.slice Y 0 0),vS ⟨#[]⟩] J)->s.eval (.t 1)=Z (vS b)->s.eval (.t 2)=Z (.ptr 0 0)->s.eval (.t 4)=Z (.ptr 1 0)->s.eval (.t 6)=Z (vI (i:Nat))->s.defers=[]->
  Run E1 oe s λe s'=>s'.defers=[]/\s'.eval (.t 4)=Z (.ptr 1 0)/\((smLk b r=Y/\e=.exit 0/\s'.h.get 1=Z (.cells [vS ⟨#[]⟩,.val (.slice Y 0 0),vS ⟨#[]⟩] J))\/(∃x,smLk b r=Z x/\e=.ret/\s'.eval (.t 5)=Z (Vb J)/\s'.h.get 1=Z (.cells x.cells J)))
 | [],i,s,hd,hi,g0,g1,h1,h2,h4,h6,hf=>by
  have hl:=ca hd hi;subst hl;apply az (rfl:oe=.loop lE);simp[lE,V,smLk, *]
 |k::r,i,s,hd,hi,g0,g1,h1,h2,h4,h6,hf=>by
  have hl:=cz hd;have hlt:=rj hl;have w1:=U204;apply az (rfl:oe=.loop lE);cases hq:aP k.nm b with
  |true=>
   simp only[lE,V,WF,Vx.sy.at Sm.len hd,Br,smLk,seval, *]
   grind
  |false=>
   simp only[lE,V,Vx.sy.at Sm.len hd,smLk,seval, *];refine Pu Vx b hN r (i+1) _ (ba hd) om ?_ ?_ ?_ ?_ ?_ ?_ ?_
   all_goals simp only[V,↓reduceIte,rA,g0,g1,h1,h2,h4,hf]
def rsym(sy:List Sm)(b:ByteArray):Option Sm:=bif aP b sTag then Z ⟨sTag,⟨[],ai,Y⟩,jE⟩ else bif aP b sVal then Z ⟨sVal,⟨[oI],Y,Z 1⟩,jE⟩ else smLk b sy
theorem aSO(sy:List Sm)(b:ByteArray):symS sy b=(rsym sy b).map λy=>(y.as.l,y.res):=by
 grind [symS,rsym]
theorem Lz(Vx:Evr)(b:ByteArray)(hN:Vx.sy.l.length<2^61)(h:AH):
  aE E1 (.f 205) [.agg Vx.cells,vS b] h (match rsym Vx.sy.l b with
   |some x=>.tup [.agg x.cells,Vb J]
   |none=>.tup [.agg (Sm.mk ⟨#[]⟩ ⟨[],ai,Y⟩ ⟨#[]⟩).cells,Vb U]) h:=by
 refine bHN rf bEU (sE (Tree.ev Vx) (Tree.val _)) (λs hs hh hd hr=>?_) h;have h0:=hs 0 _ rfl;have h1:=hs 1 _ rfl;have s1e:(⟨#[116,97,103]⟩:ByteArray)=sTag:=rfl;have s2e:(⟨#[118,97,108]⟩:ByteArray)=sVal:=rfl;unfold rsym;cases q1:aP b sTag with
 |true=>
  simp only[pE,f205,V,WF,aHO,aCU,seval, *];exact⟨_,rfl,2,de,xS (b:=.val .nilFunc) (sJ (λv hv=>by
   simp[jd] at hv;rcases hv with rfl|rfl|rfl<;>exact aj.val _))⟩
 |false=>cases q2:aP b sVal with
  |true=>
   simp only[pE,f205,V,WF,aHO,aCU,seval, *];refine⟨_,rfl,3,de,xS (b:=.val .nilFunc) (bCF (o:=0) ?_ ?_)⟩
   ·simp only[V,seval];rfl
   simp
  |false=>
   simp[pE,f205,V, *];refine(Pu Vx b hN Vx.sy.l 0 _ rfl (il _) ?_ ?_ ?_ ?_ ?_ ?_ ?_).mono ?_
   ·rfl
   ·simp[V]
   ·simp[V,h1]
   ·simp[V]
   ·simp[V]
   ·simp only[V];rfl
   ·simp[V,hd]
   rintro e s1 ⟨d1,e4,⟨q,rfl,g1⟩|⟨x,q,rfl,e5,g1⟩⟩
   ·simp only[V,WF,aHO,aCU,seval, *];exact⟨_,rfl,2,de,xS (b:=.val .nilFunc) (sJ (λv hv=>by
     simp[jd] at hv;rcases hv with rfl|rfl|rfl<;>exact aj.val _))⟩
   ·simp only[V, *];exact⟨_,rfl,2,de,xS (b:=.val .nilFunc) (sJ (λv hv=>by
     simp[Sm.cells] at hv;rcases hv with rfl|rfl|rfl<;>grind [aj.val,Vl.leaf]))⟩
theorem Pq(x:ByteArray)(w:Vl ByteArray)(hN:w.l.length<2^61):∀(r:List ByteArray) (i:Nat) (s:St),w.l.drop i=r->i<=w.l.length->s.eval (.t 0)=Z (w.A bV)->s.eval (.t 1)=Z (vS x)->s.eval (.t 5)=Z (vI (i:Nat))->s.defers=[]->
  Run E1 ot s λe s'=>s'.defers=[]/\((nM x r=J/\e=.exit 0)\/(nM x r=U/\e=.ret/\s'.eval (.t 4)=Z (Vb U)))
 | [],i,s,hr,hi,h0,h1,h5,hd=>by
  have hl:=ca hr hi;subst hl;apply az (rfl:ot=.loop kj);simp[kj,V,nM, *]
 |a::r,i,s,hr,hi,h0,h1,h5,hd=>by
  have hl:=cz hr;have hlt:=rj hl;have w1:=U204;apply az (rfl:ot=.loop kj);rw[nM];cases hq:aP a x with
  |false=>simp only[kj,V,w.at sz hr,Np,seval, *]
  |true=>
   simp only[kj,V,w.at sz hr,Np,seval, *];refine Pq x w hN r (i+1) _ (ba hr) om ?_ ?_ ?_ ?_
   all_goals simp only[V,↓reduceIte,rA,reduceCtorEq,h0,h1,hd]
theorem yt(x:ByteArray)(w:Vl ByteArray)(hN:w.l.length<2^61)(h:AH):aE E1 (.f 208) [w.A bV,vS x] h (Vb (nM x w.l)) h:=by
 refine s5 rf bER (sE Tree.vl (Tree.val _)) rfl (Tree.val _) (λs hs hh hd hr=>?_) h;have h0:=hs 0 _ rfl;have h1:=hs 1 _ rfl;simp[aJI,f208,V];refine(Pq x w hN w.l 0 _ rfl (il _) ?_ ?_ ?_ ?_).mono ?_
 all_goals try simp only[V,↓reduceIte,rA,reduceCtorEq,h0,h1,hd]
 ·rfl
 rintro e s1 ⟨d1,⟨q,rfl⟩|⟨q,rfl,q2⟩⟩
 ·simp[V, *]
 ·simp[V, *]
theorem aPK(w u:Vl ByteArray){i:Nat}{a b:ByteArray}{r t:List ByteArray}{s:St}(hw:w.l.drop i=a::r)(hu:u.l.drop i=b::t)
  (h0:s.eval (.t 0)=Z (w.A bV)) (h1:s.eval (.t 1)=Z (u.A bV)) (h5:s.eval (.t 5)=Z (vI (i:Nat))):
  Run E1 aJL s λe s'=>e=.normal/\s'.h=s.h/\s'.defers=s.defers/\s'.eval (.t 0)=s.eval (.t 0)/\s'.eval (.t 1)=s.eval (.t 1)/\s'.eval (.t 5)=s.eval (.t 5)/\s'.eval (.t 25)=Z (Vb (!aP a b)):=by
 have k0:=w.at sz hw;have k1:=u.at sz hu;have vi:=U249;refine tY (R:=[]) rfl (λr hr'=>by grind) ?_
 simp only[aJK,eU,pf,j9,jc,dF,V,↓reduceIte,rA,reduceCtorEq,h0,h1,h5,me Vl.ids,uW Vl.ids,k0,k1,tC,show∀l,eZ [] (Z (AV.bD l))=J from λ_=>rfl,bV,jj,ju,me (vi _),uW (vi _)]
theorem Pt(w u:Vl ByteArray)(hN:w.l.length<2^61)(hl:w.l.length=u.l.length):∀(r t:List ByteArray) (i:Nat) (s:St),w.l.drop i=r->u.l.drop i=t->i<=w.l.length->
  s.eval (.t 0)=Z (w.A bV)->s.eval (.t 1)=Z (u.A bV)->s.eval (.t 5)=Z (vI (i:Nat))->s.defers=[]->
  Run E1 oc s λe s'=>s'.defers=[]/\s'.h=s.h/\((eqNs r t=J/\e=.exit 0)\/(eqNs r t=U/\e=.ret/\s'.eval (.t 4)=Z (Vb U)))
 | [],t,i,s,hd,hu,hi,h0,h1,h5,hf=>by
  have hl':=ca hd hi;subst hl';apply az (rfl:oc=.loop mr);simp[mr,V,eqNs, *]
 |a::r,[],i,s,hd,hu,hi,h0,h1,h5,hf=>by
  grind [Az]
 |a::r,b::t,i,s,hd,hu,hi,h0,h1,h5,hf=>by
  have x1:=cz hd;have hlt:=rj x1;have w1:=U204;apply az (rfl:oc=.loop mr);simp only[mr,V,h0,h5,hlt,seval];refine Run.mono (aPK w u hd hu ?_ ?_ ?_) ?_
  ·simp[V,h0]
  ·simp[V,h1]
  ·simp[V];exact h5
  rintro e s1 ⟨rfl,e1,e2,e3,e4,e5,e6⟩;simp[V, *] at e1 e2 e3 e4 e5;cases q:aP a b with
  |false=>
   simp[V,eqNs, *]
  |true=>
   simp only[V,eqNs, *];refine(Pt w u hN hl r t (i+1) _ (ba hd) (ba hu) om ?_ ?_ ?_ ?_).mono ?_
   ·simp[V,e3]
   ·simp[V,e4]
   ·simp[V]
   ·simp[V,e2]
   intro e s2 h;simp[V,e1] at h;exact h
theorem Rm(w u:Vl ByteArray)(hN:w.l.length<2^61)(hU:u.l.length<2^61)(h:AH):aE E1 (.f 206) [w.A bV,u.A bV] h (Vb (sameN w.l u.l)) h:=by
 refine s5 rf bET (sE Vl.leaf.tree Vl.leaf.tree) rfl (Tree.val _) (λs hs hh hd hr=>?_) h;have h0:=hs 0 _ rfl;have h1:=hs 1 _ rfl;have q0:decide ((w.l.length:Int)=(u.l.length:Int))=decide (w.l.length=u.l.length):=Gr;cases q:decide (w.l.length=u.l.length) with
 |false=>
  simp[Ux,f206,V,sameN, *]
 |true=>
  simp[Ux,f206,V,sameN, *];refine(Pt w u hN (of_decide_eq_true q) w.l u.l 0 _ rfl rfl (il _) ?_ ?_ ?_ ?_).mono ?_
  ·simp[V,h0]
  ·simp[V,h1]
  ·simp only[V];rfl
  ·simp[V,hd]
  rintro e s1 ⟨d1,e1,⟨z,rfl⟩|⟨z,rfl,e3⟩⟩
  ·simp[V, *]
  ·simp only[V,reduceCtorEq,d1,z,e3]
theorem aBJ:∀(l r:List ByteArray),l.length=r.length->eqNs l r=eqS l r
 | [],[],_=>rfl
 |a::l,b::r,h=>by
  rw[eqNs,eqS,aBJ l r Gr]
 | [],_::_,h=>by cases h
 |_::_,[],h=>by cases h
theorem Sg(Vx:Evr)(b:ByteArray)(w:Vl ByteArray)(hN:Vx.sy.l.length<2^61)(hP:∀x∈Vx.sy.l,x.as.l.length<2^31)(hw:w.l.length<2^61)(h:AH):
  aE E1 (.f 160) [.agg Vx.cells,vS b,w.A bV] h (jN (appS Vx.sy.l b w.l)) h:=by
 have fc:=Lz Vx b hN;refine eK rf rf (yy (Tree.ev Vx) (Tree.val _) Vl.leaf.tree) rfl (vu _) (Qx (rs:=[vS ((appS Vx.sy.l b w.l).1),vI ((appS Vx.sy.l b w.l).2)]) bFD λs hs hh hd=>?_) h;have h0:=hs 0 _ rfl;have h1:=hs 1 _ rfl;have h2:=hs 2 _ rfl;have s1e:(⟨#[116,97,103]⟩:ByteArray)=sTag:=rfl;have s2e:=U253;unfold appS;rw[aSO];cases hx:rsym Vx.sy.l b with
 |none=>
  rw[hx] at fc;simp only[ko,f160,V,WF,ac fc,Br,seval, *];rfl
 |some y=>
  rw[hx] at fc;simp only[Option.map_some];cases ht:aP b sTag with
  |true=>
   have hy:y.res=jE:=by
    unfold rsym at hx
    grind
   rw[hy];cases hk:decide ((w.l.length:Int)=1) with
   |false=>
    simp[ko,f160,V,WF,ac fc,Br, *]
   |true=>
    obtain⟨k,hwk⟩:∃k,w.l=[k]:=by
     have:=of_decide_eq_true hk
     match hq:w.l,(show w.l.length=1 by omega) with
     | [k],_=>grind
    have ka:=w.at sz (i:=0) (k:=k) (r:=[]) Gr;have e1:hdS w.l=k:=by rw[hwk];rfl
    have e2:bV k++List.flatMap bV []=[vS k]:=rfl;rw[e1];rw[e2] at ka;obtain⟨a1,q1⟩:∃B,aP k ⟨#[73,110,116]⟩=B:=⟨_,rfl⟩;obtain⟨a2,q2⟩:∃B,aP k ⟨#[66,111,111,108]⟩=B:=⟨_,rfl⟩;obtain⟨a3,q3⟩:∃B,aP k ⟨#[67,101,108,108]⟩=B:=⟨_,rfl⟩;have q1':aP k jE=a1:=q1;have ep:plainS k=(a1||(a2||a3)):=by grind [plainS]
    rw[ep];cases a1<;>cases a2<;>cases a3<;>simp only[ko,f160,V,↓reduceIte,rA,reduceCtorEq,WF,h0,h1,h2,hh,hd,ac fc,Br,s1e,s2e,ht,hk,ka,q1',q2,q3]
  |false=>
   cases hk:decide ((w.l.length:Int)=(y.as.l.length:Nat)) with
   |false=>
    simp[ko,f160,V,WF,ac fc,Br, *]
   |true=>
    have hlen:w.l.length=y.as.l.length:=Gr;have hs:=Rm w y.as hw om;have es:sameN w.l y.as.l=eqS w.l y.as.l:=by simp_all [sameN,aBJ]
    rw[es] at hs;obtain⟨B,eb⟩:∃B,eqS w.l y.as.l=B:=⟨_,rfl⟩;rw[eb] at hs⊢
    cases B<;>simp only[ko,f160,V,↓reduceIte,rA,reduceCtorEq,WF,h0,h1,h2,hh,hd,ac fc,Br,s1e,ht,hk,ac hs]
theorem aPM(w:Vl ByteArray)(y:Ho){i:Nat}{a:ByteArray}{v:Vr}{r:List ByteArray}{t:List Vr}{s:St}(hw:w.l.drop i=a::r)(hy:y.ps.l.drop i=v::t)(hn:1<s.h.next)(g1:s.h.get 1=Z (.cells y.cells J))
  (h2:s.eval (.t 2)=Z (w.A bV)) (h8:s.eval (.t 8)=Z (.ptr 1 0)) (h10:s.eval (.t 10)=Z (vI (i:Nat))):
  Run E1 aJW s λe s'=>e=.normal/\s'.h=s.h/\s'.defers=s.defers/\s'.eval (.t 2)=s.eval (.t 2)/\s'.eval (.t 8)=s.eval (.t 8)/\s'.eval (.t 10)=s.eval (.t 10)/\s'.eval (.t 41)=Z (Vb (!aP a v.so)):=by
 have k0:=w.at sz hw;have k1:=y.ps.at Vr.len hy;have vi:=U249;have n1:∀o,bp s.h (Z (.ptr 1 o))=J:=λo=>ve hn g1 (by rw[y.bM];rfl)
 have o1:∀o,eZ [1] (Z (.ptr 1 o))=J:=by simp[yv,b9]
 refine tY (R:=[1]) rfl (λr hr'=>by grind) ?_
 simp only[aJV,eU,pf,j9,jc,dF,V,↓reduceIte,rA,h2,h8,h10,g1,n1,o1,me Vl.ids,uW Vl.ids,k0,k1,tC,show∀l,eZ [1] (Z (AV.bD l))=J from λ_=>rfl,bV,jj,ju,me (vi _),uW (vi _)]
theorem Pw(y:Ho)(w:Vl ByteArray)(hN:w.l.length<2^61)(hlen:w.l.length=y.ps.l.length):∀(r:List ByteArray) (q:List Vr) (i:Nat) (s:St),w.l.drop i=r->y.ps.l.drop i=q->i<=w.l.length->1<s.h.next->s.h.get 1=Z (.cells y.cells J)->
  s.eval (.t 8)=Z (.ptr 1 0)->s.eval (.t 2)=Z (w.A bV)->s.eval (.t 10)=Z (vI (i:Nat))->s.defers=[]->
  Run E1 oy s λe s'=>s'.defers=[]/\((eqS r (q.map Vr.so)=J/\e=.exit 0)\/(eqS r (q.map Vr.so)=U/\e=.ret/\s'.eval (.t 6)=Z (vS ⟨#[]⟩)/\s'.eval (.t 7)=Z (vI 11)))
 | [],q,i,s,hd,hq,hi,hn,g1,h8,h2,h10,hf=>by
  have hl:=ca hd hi;subst hl;apply az (rfl:oy=.loop mZ);simp[mZ,V,eqS, *]
 |k::r,q,i,s,hd,hq,hi,hn,g1,h8,h2,h10,hf=>by
  have hl:=cz hd;have hlt:=rj hl;have w1:=U204;obtain⟨a,q',rfl⟩:∃a q',q=a::q':=by
   cases q with
   |nil=>
    grind [Az]
   |cons a q'=>grind
  apply az (rfl:oy=.loop mZ);rw[List.map_cons,eqS];simp only[mZ,V,h2,h10,hlt,seval];refine Run.mono (aPM w y hd hq ?_ ?_ ?_ ?_ ?_) ?_
  ·simp[V];exact hn
  ·simp[V];exact g1
  ·simp[V,h2]
  ·simp[V,h8]
  ·simp[V]
   grind
  rintro e s1 ⟨rfl,e1,e2,e3,e4,e5,e6⟩;simp[V, *] at e1 e2 e3 e4 e5;cases hc:aP k a.so with
  |false=>simp[V, *]
  |true=>
   simp only[V, *];refine Pw y w hN hlen r q' (i+1) _ (ba hd) (ba hq) om ?_ ?_ ?_ ?_ ?_ ?_
   ·simp[V,e1];exact hn
   ·simp[V, *]
   ·simp[V,e4]
   ·simp[V,e3]
   ·simp[V]
   ·simp only[V,e2]
theorem Rw(Vx:Evr)(b:ByteArray)(w:Vl ByteArray)(hN:Vx.hs.l.length<2^61)(hw:w.l.length<2^61)(h:AH):
  aE E1 (.f 161) [.agg Vx.cells,vS b,w.A bV] h (jN (filS Vx.hs.l b w.l)) h:=by
 have fc:=Ly Vx b hN;refine eK rf rf (yy (Tree.ev Vx) (Tree.val _) Vl.leaf.tree) rfl (vu _) (Qx (rs:=[vS ((filS Vx.hs.l b w.l).1),vI ((filS Vx.hs.l b w.l).2)]) bFC λs hs hh hd=>?_) h;have h0:=hs 0 _ rfl;have h1:=hs 1 _ rfl;have h2:=hs 2 _ rfl;have s1e:=U254;unfold filS;cases hx:jY b Vx.hs.l with
 |none=>
  rw[hx] at fc;simp[oP,f161,V,WF,ac fc,vC, *]
 |some y=>
  rw[hx] at fc;simp only;cases hk:decide ((w.l.length:Int)=(y.ps.l.length:Nat)) with
  |false=>
   simp[oP,f161,V,WF,ac fc,vC, *]
  |true=>
   have hlen:w.l.length=y.ps.l.length:=Gr;simp[oP,f161,V,WF,h0,h1,h2,hh,ac fc,vC,s1e,hk];refine(Pw y w hw hlen w.l y.ps.l 0 _ rfl rfl (il _) ?_ ?_ ?_ ?_ ?_ ?_).mono ?_
   ·simp only[V,rB];decide
   ·simp[V]
   ·simp[V]
   ·simp[V,h2]
   ·simp only[V];rfl
   ·simp[V,hd]
   rintro e s1 ⟨d1,⟨q,rfl⟩|⟨q,rfl,e6,e7⟩⟩
   ·simp[V, *]
   ·simp only[V,reduceCtorEq,d1,e6,e7,q]
theorem aPL(w:Vl ByteArray){a b:ByteArray}{r:List ByteArray}{s:St}(hw:w.l=a::b::r)(h1:s.eval (.t 1)=Z (w.A bV)):
  Run E1 aJU s λe s'=>e=.normal/\s'.h=s.h/\s'.defers=s.defers/\s'.eval (.t 25)=Z (Vb (aP a b)):=by
 have k0:=w.at sz (i:=0) (k:=a) (r:=b::r) Gr;have k1:=w.at sz (i:=1) (k:=b) (r:=r) Gr;have vi:=U249;refine tY (R:=[]) rfl (λr hr'=>by grind) ?_
 simp only[aJT,eU,pf,j9,jc,dF,V,↓reduceIte,rA,h1,me Vl.ids,uW Vl.ids,k0,k1,tC,show∀l,eZ [] (Z (AV.bD l))=J from λ_=>rfl,bV,jj,ju,me (vi _)]
theorem Xz(op:Int)(w:Vl ByteArray)(hw:w.l.length<2^61)(hq2:op=10\/op=11->2<=w.l.length)(h:AH):
  aE E1 (.f 162) [vI op,w.A bV] h (jN (jF op w.l)) h:=by
 refine eK rf rf (sE (Tree.val _) Vl.leaf.tree) rfl (vu _) (Qx (rs:=[vS ((jF op w.l).1),vI ((jF op w.l).2)]) bFB λs hs hh hd=>?_) h;have h0:=hs 0 _ rfl;have h1:=hs 1 _ rfl;have s1e:=U254;have s2e:=U253;have cI:=yt jE w hw;have cB:=yt dS w hw;obtain⟨BI,eI⟩:∃B,nM jE w.l=B:=⟨_,rfl⟩;obtain⟨BB,eB⟩:∃B,nM dS w.l=B:=⟨_,rfl⟩;rw[eI] at cI;rw[eB] at cB
 by_cases c10:op=10\/op=11
 ·obtain⟨x,y,l,hxy⟩:∃x y l,w.l=x::y::l:=by
   match hq:w.l,hq2 c10 with
   |x::y::l,_=>grind
  have e2:eq2S w.l=aP x y:=by rw[hxy];rfl
  have er:jF op w.l=bif aP x y then(dS,0) else(⟨#[]⟩,11):=by rcases c10 with rfl|rfl<;>(rw[<-e2];rfl)
  rw[er];rcases c10 with rfl|rfl
  all_goals
   simp[mU,f162,V,h0];refine Run.mono (aPL w hxy ?_) ?_
   ·simp[V,h1]
   rintro e s1 ⟨rfl,e1,e2,e6⟩;simp[V,hd] at e2;obtain⟨B,eb⟩:∃B,aP x y=B:=⟨_,rfl⟩;rw[eb] at e6⊢
   cases B<;>simp[V, *]
 ·by_cases c6:op=6\/op=7\/op=8\/op=9
  ·have er:jF op w.l=bif BI then(jE,0) else(⟨#[]⟩,11):=by rcases c6 with rfl|rfl|rfl|rfl<;>(rw[<-eI];rfl)
   rw[er];rcases c6 with rfl|rfl|rfl|rfl<;>cases BI<;>simp[mU,f162,V,ac cI, *]
  ·by_cases c12:op=12\/op=13
   ·have er:jF op w.l=bif BI then(dS,0) else(⟨#[]⟩,11):=by rcases c12 with rfl|rfl<;>(rw[<-eI];rfl)
    rw[er];rcases c12 with rfl|rfl<;>cases BI<;>simp[mU,f162,V,ac cI, *]
   ·have er:jF op w.l=bif BB then(dS,0) else(⟨#[]⟩,11):=by
     simp_all [argS,resS,jF]
    have n6:decide (op=6)=U:=Gr;have n7:decide (op=7)=U:=Gr;have n8:decide (op=8)=U:=Gr;have n9:decide (op=9)=U:=Gr;have n10:decide (op=10)=U:=Gr;have n11:decide (op=11)=U:=Gr;have n12:decide (op=12)=U:=Gr;have n13:decide (op=13)=U:=Gr;rw[er];cases BB<;>simp[mU,f162,V,ac cB, *]
def ROk(Vx:Evr)(k:Pr):Prop:=∀h:AH,aE E1 (.f 127) [.agg Vx.cells,k.av] h (jN (k.sor Vx)) h
theorem aPN(Vx:Evr)(p:Pr){i:Nat}{k:Pr}{r:List Pr}{s:St}(hd:p.ks.drop i=k::r)(hk:ROk Vx k)(hn:1<s.h.next)(g0:s.h.get 0=Z (.cells Vx.cells J))(g1:s.h.get 1=Z (.cells p.cells J))
  (h2:s.eval (.t 2)=Z (.ptr 0 0)) (h3:s.eval (.t 3)=Z (.ptr 1 0)) (h7:s.eval (.t 7)=Z (vI (i:Nat))):
  Run E1 aKQ s λe s'=>e=.normal/\s'.h=s.h/\s'.defers=s.defers/\s'.eval (.t 2)=s.eval (.t 2)/\s'.eval (.t 3)=s.eval (.t 3)/\s'.eval (.t 6)=s.eval (.t 6)/\s'.eval (.t 7)=s.eval (.t 7)/\s'.eval (.t 8)=Z (vS ((k.sor Vx).1))/\s'.eval (.t 9)=Z (vI ((k.sor Vx).2)):=by
 have vi:=U249;have ei:ids (AV.agg Vx.cells)=[]:=Vx.bM;have ti:ids (jN (k.sor Vx))=[]:=rfl;have n0:∀o,bp s.h (Z (.ptr 0 o))=J:=λo=>ve om g0 (by rw[Vx.bM];rfl)
 have n1:∀o,bp s.h (Z (.ptr 1 o))=J:=λo=>ve hn g1 (by rw[p.bM];rfl)
 have o0:=U250;have o1:=U251;have ki:=U255;refine tY (R:=[0,1]) rfl (λr hr'=>by
  grind) ?_
 simp only[aKO,eU,pf,j9,jc,dF,V,me ki,me ei,pv ei,me k.ah,pv k.ah,wq p i k r hd,tC,te,show∀l,eZ [0,1] (Z (AV.bD l))=J from λ_=>rfl,uW (vi _),seval, *];refine⟨_,hk,?_⟩;simp[V,jN,te,me (show ids (AV.tup [vS ((k.sor Vx).1),vI ((k.sor Vx).2)])=[] from rfl)]
 grind
theorem Qg(Vx:Evr)(p:Pr){lo:Nat}(hlo1:1<lo)(hN:p.ks.length<2^29):∀(r:List Pr) (i:Nat) (s:St) (v:AV) (acc:List ByteArray),p.ks.drop i=r->i<=p.ks.length->acc.length=i->(∀k∈r,ROk Vx k)->aV s.h lo i 1 v (acc.flatMap bV)->lo<=s.h.next->
  s.h.get 0=Z (.cells Vx.cells J)->s.h.get 1=Z (.cells p.cells J)->s.eval (.t 2)=Z (.ptr 0 0)->s.eval (.t 3)=Z (.ptr 1 0)->s.eval (.t 6)=Z v->s.eval (.t 7)=Z (vI (i:Nat))->s.defers=[]->
  Run E1 oU s λe s'=>s'.defers=[]/\s.h.next<=s'.h.next/\(∀x,x<lo->s'.h.get x=s.h.get x)/\((∃v',(Pr.fA Vx r).2=0/\e=.exit 0/\aV s'.h lo (acc++(Pr.fA Vx r).1).length 1 v' ((acc++(Pr.fA Vx r).1).flatMap bV)/\s'.eval (.t 6)=Z v'/\s'.eval (.t 2)=Z (.ptr 0 0)/\s'.eval (.t 3)=Z (.ptr 1 0))\/
   ((Pr.fA Vx r).2≠0/\e=.ret/\s'.eval (.t 4)=Z (vS ⟨#[]⟩)/\s'.eval (.t 5)=Z (vI ((Pr.fA Vx r).2))))
 | [],i,s,v,acc,hd,hi,ha,hk,hr,hlo,g0,g1,h2,h3,h6,h7,hf=>by
  have hl:=ca hd hi;subst hl;apply az (rfl:oU=.loop mu);simp only[mu,V,↓reduceIte,rA,reduceCtorEq,h2,h3,h6,h7,g1,hf,tE,Pr.fA]
  grind
 |k::r,i,s,v,acc,hd,hi,ha,hk,hr,hlo,g0,g1,h2,h3,h6,h7,hf=>by
  have hl:=cz hd;have hlt:=rj hl;have w1:=U204;apply az (rfl:oU=.loop mu);simp only[mu,V,↓reduceIte,rA,h3,h7,g1,hlt];refine Run.mono (aPN Vx p hd (hk k ip) ?_ ?_ ?_ ?_ ?_ ?_) ?_
  ·exact U31
  ·simp only[V,g0]
  ·simp only[V,g1]
  ·simp only[V,↓reduceIte,rA,h2]
  ·simp only[V,↓reduceIte,rA,h3]
  ·simp only[V,↓reduceIte,rA];exact h7
  rintro e s1 ⟨rfl,e1,e2,e3,e4,e5,e6,e8,e9⟩;simp only[V,↓reduceIte,rA,h2,h3,h6,h7,hf] at e1 e2 e3 e4 e5 e6;cases he:decide ((k.sor Vx).2=0) with
  |false=>
   have eL:Pr.fA Vx (k::r)=([],(k.sor Vx).2):=by simp_all [Pr.fA]
   rw[eL];simp only[V,↓reduceIte,rA,reduceCtorEq,e1,e2,e9,he]
   grind
  |true=>
   simp only[V,↓reduceIte,rA,WF,e1,e5,e8,e9,he];refine bAE (k:=i) (m:=1) (lo:=lo) (v:=v) (x:=.own s.h.next 0 1 1 (Z 1)) (cs:=acc.flatMap bV) (new:=[vS ((k.sor Vx).1)]) ?_ ?_ ?_ rfl ?_ (lR om de) ?_ ?_ ?_
   ·simp only[V];exact hr.to Sp λx _ x2=>by rw[am x2]
   ·exact U31
   ·refine kl (rw':=J) ?_ rfl;exact U33
   ·grind [aj.val]
   ·exact U29
   ·exact U33
   intro v1 h2' r1 n2 o2;simp only[V] at n2 o2;simp only[V,↓reduceIte,rA,e6,w1];refine(Qg Vx p (lo:=lo) hlo1 hN r (i+1) _ v1 (acc++[(k.sor Vx).1]) (ba hd) om Gr (λk' hk'=>hk k' (iy _ hk')) ?_ ?_ ?_ ?_ ?_ ?_ ?_ ?_ ?_).mono ?_
   ·simp only[V];rw[List.flatMap_append];exact r1
   ·exact U31
   ·simp only[V];rw[o2 0 om (λhv=>by have:=(hr.ids 0 hv).1;omega),if_neg om,g0]
   ·simp only[V];rw[o2 1 om (λhv=>by have:=(hr.ids 1 hv).1;omega),if_neg om,g1]
   ·exact U65
   ·simp only[V,↓reduceIte,rA,e4]
   ·exact U29
   ·exact U33
   ·simp only[V,e2]
   rintro e s2 ⟨d2,m2,q2,H⟩;simp only[V] at m2 q2;refine⟨d2,om,λx hx=>?_,?_⟩
   ·rw[q2 x hx,o2 x om (λhv=>by have:=(hr.ids x hv).1;omega),if_neg om]
   have eL:Pr.fA Vx (k::r)=bif decide ((Pr.fA Vx r).2=0) then((k.sor Vx).1::(Pr.fA Vx r).1,0) else([],(Pr.fA Vx r).2):=by
    grind [Pr.fA]
   grind
theorem aSP(Vx:Evr)(hV:EvB Vx)(p:Pr)(hN:p.ks.length<2^29)(h2:p.op=10\/p.op=11->2<=p.ks.length)(hk:∀k∈p.ks,ROk Vx k):ROk Vx p:=λh=>by
 refine eK rf rf (sE (Tree.ev Vx) (Tree.pr p)) rfl (vu _) (Qx (rs:=[vS ((p.sor Vx).1),vI ((p.sor Vx).2)]) bFP λs hs hh hd=>?_) h;have h0:=hs 0 _ rfl;have h1:=hs 1 _ rfl;have s1e:=U254;have s2e:=U253;simp only[aKP,f127,V,↓reduceIte,rA,h0,h1,hh];refine(Qg Vx p (lo:=2) de hN p.ks 0 _ (.val (.slice Y 0 0)) [] rfl (il _) rfl hk aV.nil ?_ ?_ ?_ ?_ ?_ ?_ ?_ ?_).mono ?_
 ·simp only[V,rB];decide
 ·rfl
 ·exact U33
 ·exact U29
 ·exact U29
 ·exact U29
 ·exact U34
 ·simp only[V,hd]
 rintro e s1 ⟨d1,m1,o1,H⟩;simp only[V,rB] at m1 o1;rw[aDA];rcases H with⟨v1,z,rfl,r1,e6,e2,e3⟩|⟨z,rfl,e4,e5⟩
 ·rw[ju] at r1;have g0:s1.h.get 0=Z (.cells Vx.cells J):=Gr;have g1:s1.h.get 1=Z (.cells p.cells J):=Gr;have hlen:=Xk Vx p.ks z;obtain⟨h2'',f1,f2,f9999,f9999⟩:=tP r1;rw[decide_eq_true z,cond_true];generalize hL:(Pr.fA Vx p.ks).1=L at*;have hv:(fE L.length (L.flatMap bV))=(⟨L,ai,Y⟩:Vl ByteArray).A bV:=uQ rfl;rw[hv] at f9999;have cA:aE E1 (.f 160) [.agg Vx.cells,vS p.nm,v1] s1.h (jN (appS Vx.sy.l p.nm L)) s1.h:=ut (xs:=[.agg Vx.cells,vS p.nm]) (ys:=[]) rf (sE (Tree.ev Vx) (Tree.val _)) (λv hv=>by cases hv) Vl.leaf.tree f1 f9999 rfl (Sg Vx p.nm ⟨L,ai,Y⟩ hV.y hV.ya Gr)
  have cH:aE E1 (.f 161) [.agg Vx.cells,vS p.nm,v1] s1.h (jN (filS Vx.hs.l p.nm L)) s1.h:=ut (xs:=[.agg Vx.cells,vS p.nm]) (ys:=[]) rf (sE (Tree.ev Vx) (Tree.val _)) (λv hv=>by cases hv) Vl.leaf.tree f1 f9999 rfl (Rw Vx p.nm ⟨L,ai,Y⟩ hV.h Gr)
  have cO:aE E1 (.f 162) [vI p.op,v1] s1.h (jN (jF p.op L)) s1.h:=ut (xs:=[vI p.op]) (ys:=[]) rf (qr (Tree.val _)) (λv hv=>by cases hv) Vl.leaf.tree f1 f9999 rfl (Xz p.op ⟨L,ai,Y⟩ Gr (λq=>by grind))
  unfold mJ;cases c1:decide (p.op=1) with
  |true=>simp only[V,↓reduceIte,rA,reduceCtorEq,WF,d1,e3,g1,c1,s1e,s2e]
  |false=>cases c2:decide (p.op=2) with
   |true=>simp only[V,↓reduceIte,rA,reduceCtorEq,WF,d1,e3,g1,c1,c2,s1e,s2e]
   |false=>cases c3:decide (p.op=3) with
    |true=>
     cases hv:varS Vx.vs.l p.nm with
     |none=>simp only[V,↓reduceIte,rA,reduceCtorEq,WF,d1,e2,e3,g0,g1,c1,c2,c3,s1e,s2e,ac (yn Vx p.nm hV.v),hv,optR]
     |some x=>simp only[V,↓reduceIte,rA,reduceCtorEq,WF,d1,e2,e3,g0,g1,c1,c2,c3,s1e,s2e,ac (yn Vx p.nm hV.v),hv,optR]
    |false=>cases c4:decide (p.op=4) with
     |true=>
      simp only[V,↓reduceIte,rA,WF,e2,e3,e6,g0,g1,c1,c2,c3,c4,s1e,s2e];refine gt (v:=jN (appS Vx.sy.l p.nm L)) (h':=s1.h) ?_ ?_
      ·simp only[V];exact cA
      exact U67
     |false=>cases c5:decide (p.op=5) with
      |true=>
       simp only[V,↓reduceIte,rA,WF,e2,e3,e6,g0,g1,c1,c2,c3,c4,c5,s1e,s2e];refine gt (v:=jN (filS Vx.hs.l p.nm L)) (h':=s1.h) ?_ ?_
       ·simp only[V];exact cH
       exact U67
      |false=>
       simp only[V,↓reduceIte,rA,WF,e3,e6,g1,c1,c2,c3,c4,c5,s1e,s2e];refine gt (v:=jN (jF p.op L)) (h':=s1.h) ?_ ?_
       ·simp only[V];exact cO
       exact U67
 ·rw[decide_eq_false z];simp only[V,reduceCtorEq,d1,e4,e5]
mutual
theorem Dr(Vx:Evr)(hV:EvB Vx):∀(p:Pr),p.two=J->p.nodes<2^29->ROk Vx p
 |.mk o s n ks nl cap,ht,hb=>by
  have hb':=U237;have hk:=U198;simp[Pr.two] at ht;exact aSP Vx hV (.mk o s n ks nl cap) (by show ks.length<_;omega) (λq=>by
   have q:o=10\/o=11:=q;show 2<=ks.length
   grind) (yp Vx hV ks ht.2 om)
theorem yp(Vx:Evr)(hV:EvB Vx):∀(l:List Pr),Pr.twoL l=J->Pr.aI l<2^29->∀k∈l,ROk Vx k
 | [],_,_,k,hk=>by cases hk
 |p::r,ht,hb,k,hk=>by
  have hb':=U238;simp[Pr.twoL] at ht;rcases U201 with e|hk
  ·have:=Dr Vx hV p ht.1 om
   grind
  ·exact yp Vx hV r ht.2 om k hk
end
theorem Mz(p:Pr)(hb:p.nodes<2^61)(h:AH):aE E1 (.f 126) [p.av] h (vI (ckS Nb p)) h:=by
 refine eK rf rf (qr (Tree.pr p)) rfl (Tree.val _) (sQ bFQ λs hs hh hd=>?_) h;have h0:=hs 0 _ rfl
 by_cases z1:400<p.nodes
 ·have c1:decide (400<((p.nodes:Nat):Int))=J:=by grind
  have hv:ckS Nb p=7:=by simp_all [ckS]
  simp[pP,f126,V,ac (sg p hb), *]
 ·have c1:decide (400<((p.nodes:Nat):Int))=U:=by grind
  by_cases z2:40<p.depth
  ·have c2:decide (40<((p.depth:Nat):Int))=J:=by grind
   have hv:ckS Nb p=8:=by simp_all [ckS]
   simp[pP,f126,V,ac (sg p hb),ac (uG p hb), *]
  ·have c2:decide (40<((p.depth:Nat):Int))=U:=by grind
   have hv:ckS Nb p=chk Nb p:=by simp_all [ckS,if_neg]
   simp[pP,f126,V,ac (sg p hb),ac (uG p hb),ac (zO Nb aMB p hb), *]
theorem tf(Vx:Evr)(hV:EvB Vx)(p:Pr)(hb:p.nodes<2^61)(h:AH):aE E1 (.f 88) [.agg Vx.cells,p.av] h (jN (ofS Vx p)) h:=by
 refine eK rf rf (sE (Tree.ev Vx) (Tree.pr p)) rfl (vu _) (Qx (rs:=[vS ((ofS Vx p).1),vI ((ofS Vx p).2)]) bLU λs hs hh hd=>?_) h;have h0:=hs 0 _ rfl;have h1:=hs 1 _ rfl;have hk:=Mz p hb;unfold ofS;cases hc:decide (ckS Nb p=0) with
 |false=>simp[aFJ,f88,V,ac hk, *]
 |true=>
  obtain⟨q1,q2,q3,q4⟩:=aZJ (of_decide_eq_true hc);simp only[aFJ,f88,V,↓reduceIte,rA,reduceCtorEq,h0,h1,hh,hd,ac hk,hc,ac (Dr Vx hV p q1 om),jN]
theorem aMD(p:Pr):p.same zPr=(decide (p.op=0)&&aP p.nm ⟨#[]⟩&&decide (p.n=0)&&decide (((p.ks.length:Nat):Int)=0)):=by
 obtain⟨o,nm,n,ks,nl,cap⟩:=p;have e:decide (((ks.length:Nat):Int)=0)=decide (ks.length=0):=Gr;show(decide (o=0)&&(aP nm ⟨#[]⟩&&(decide (n=0)&&(decide (ks.length=0)&&Pr.eP ks []))))=(decide (o=0)&&aP nm ⟨#[]⟩&&decide (n=0)&&decide (((ks.length:Nat):Int)=0));simp[Pr.eP,Bool.and_assoc]
theorem uE(p:Pr)(h:AH):aE E1 (.f 61) [p.av] h (Vb (p.same zPr)) h:=by
 refine s5 rf bMK (qr (Tree.pr p)) rfl (Tree.val _) (λs hs hh hd hr=>?_) h;have h0:=hs 0 _ rfl;rw[aMD];obtain⟨a,qa⟩:∃B,decide (p.op=0)=B:=⟨_,rfl⟩;obtain⟨b,qb⟩:=U222;obtain⟨c,qc⟩:=U223;obtain⟨d,qd⟩:∃B,decide (((p.ks.length:Nat):Int)=0)=B:=⟨_,rfl⟩;rw[qa,qb,qc,qd];cases a<;>cases b<;>cases c<;>cases d<;>simp only[aWT,f61,V,↓reduceIte,rA,reduceCtorEq,h0,hh,hd,qa,qb,qc,qd]
theorem Se(Vx:Evr)(hV:EvB Vx)(p:Pr)(hb:p.nodes<2^61)(h:AH):aE E1 (.f 59) [.agg Vx.cells,p.av] h (vI (pq Vx p)) h:=by
 refine s5 rf bMM (sE (Tree.ev Vx) (Tree.pr p)) rfl (Tree.val _) (λs hs hh hd hr=>?_) h;have h0:=hs 0 _ rfl;have h1:=hs 1 _ rfl;have s1e:=U254;unfold pq;cases hz:p.same zPr with
 |true=>simp[pU,f59,V,ac (uE p), *]
 |false=>
  cases hc:decide ((ofS Vx p).2=0) with
  |false=>simp[pU,f59,V,ac (uE p),ac (tf Vx hV p hb),jN, *]
  |true=>
   have h00:=of_decide_eq_true hc;cases hq:aP (ofS Vx p).1 dS with
   |true=>simp[pU,f59,V,ac (uE p),ac (tf Vx hV p hb),jN, *]
   |false=>simp[pU,f59,V,ac (uE p),ac (tf Vx hV p hb),jN, *]
mutual
def Pr.nest:Pr->Nat
 |.mk o _ _ ks _ _=>Pr.eY ks+(bif decide (o=5) then 1 else 0)
def Pr.eY:List Pr->Nat
 | []=>0
 |k::r=>max k.nest (Pr.eY r)
end
mutual
theorem aEC:∀p:Pr,p.nest<=p.nodes
 |.mk o _ _ ks _ _=>by
  have:=wz ks;rw[Pr.nest,Pr.nodes]
  grind
theorem wz:∀l:List Pr,Pr.eY l<=Pr.aI l
 | []=>Nat.le_refl _
 |k::r=>by
  have:=aEC k;have:=wz r
  grind [Pr.eY,Pr.aI]
end
theorem aAT(p:Pr)(hN:p.ks.length<2^61):∀(r:List Pr) (i acc:Nat) (s:St),p.ks.drop i=r->i<=p.ks.length->(∀k∈r,∀h,aE E1 (.f 33) [k.av] h (vI (k.nest:Nat)) h)->s.h.get 0=Z (.cells p.cells J)->
  s.eval (.t 1)=Z (.ptr 0 0)->s.eval (.t 4)=Z (vI (i:Nat))->s.eval (.t 3)=Z (vI (acc:Nat))->s.defers=[]->
  Run E1 Ul s λe s'=>e=.exit 0/\s'.eval (.t 3)=Z (vI (max acc (Pr.eY r):Nat))/\s'.eval (.t 1)=Z (.ptr 0 0)/\s'.h=s.h/\s'.defers=[]
 | [],i,acc,s,hd,hi,ih,g0,h1,h4,h3,hf=>by
  have hl:=ca hd hi;subst hl;apply az (rfl:Ul=.loop pw);simp[pw,V,Pr.eY, *]
 |k::r,i,acc,s,hd,hi,ih,g0,h1,h4,h3,hf=>by
  have hl:=cz hd;have hlt:=rj hl;have w1:=U204;apply az (rfl:Ul=.loop pw);simp only[pw,V,wq p i k r hd,ac (ih k ip),seval, *];have hq:max acc (Pr.eY (k::r))=max (max acc k.nest) (Pr.eY r):=by
   have:Pr.eY (k::r)=max k.nest (Pr.eY r):=rfl;omega
  rw[hq];refine(aAT p hN r (i+1) (max acc k.nest) _ (ba hd) om (λk' hk=>ih k' (iy _ hk)) ?_ ?_ ?_ ?_ ?_).mono ?_
  ·simp[V,g0]
  ·simp[V,h1]
  ·simp[V]
  ·simp[V]
  ·simp[V,hf]
  rintro e s2 ⟨rfl,e3,e1,eh,d⟩;simp[V] at eh
  grind
theorem aOG(p:Pr)(hb:p.nodes<2^61)(ih:∀k∈p.ks,∀h,aE E1 (.f 33) [k.av] h (vI (k.nest:Nat)) h)(h:AH):aE E1 (.f 33) [p.av] h (vI ((Pr.eY p.ks+(bif decide (p.op=5) then 1 else 0):Nat):Int)) h:=by
 have hnk:1+Pr.aI p.ks<2^61:=by rw[<-p.pg];exact hb
 have hks:p.ks.length<=Pr.aI p.ks:=rl _;have hnl:=wz p.ks;refine s5 rf bNE (qr (Tree.pr p)) rfl (Tree.val _) (λs hs hh hd hr=>?_) h;have h0:=hs 0 _ rfl;simp only[aXU,f33,V, *];refine(aAT p om p.ks 0 0 _ rfl (il _) ih ?_ ?_ ?_ ?_ ?_).mono ?_
 ·rfl
 ·simp[V]
 ·exact U34
 ·simp only[V,rA];rfl
 ·simp[V,hd]
 rintro e s1 ⟨rfl,e3,e1,eh,d1⟩;have g0:s1.h.get 0=Z (.cells p.cells J):=by rw[eh];rfl
 rw[Nat.zero_max] at e3;have w1:IntKind.i64.wrap (((Pr.eY p.ks:Nat):Int)+1)=((Pr.eY p.ks+1:Nat):Int):=sP (n:=Pr.eY p.ks+1) om;cases ho:decide (p.op=5) with
 |true=>simp[V, *]
 |false=>simp[V, *]
mutual
theorem uX:∀p:Pr,p.nodes<2^61->∀h,aE E1 (.f 33) [p.av] h (vI (p.nest:Nat)) h
 |.mk o s n ks nl cap,hb,h=>by
  have hb':=U197;exact aOG (.mk o s n ks nl cap) hb (yw ks om) h
theorem yw:∀l:List Pr,Pr.aI l<2^61->∀k∈l,∀h,aE E1 (.f 33) [k.av] h (vI (k.nest:Nat)) h
 | [],_,k,hk,_=>by cases hk
 |p::r,hb,k,hk,h=>by
  have hb':=U242;rcases U201 with e|hk
  ·have:=uX p om h
   grind
  ·exact yw r om k hk h
end
def n2(p:Pr):Bool:= !decide ((2:Int)<(p.nest:Nat))
def mI:List Pr->Bool
 | []=>J
 |p::r=>n2 p&&mI r
def jT:List Cl->Bool
 | []=>J
 |c::r=>mI c.hy.l&&(n2 c.hd&&jT r)
theorem aZI{c:Cl}{l:List AV}:bu 1 (.bD (c.cells++l))=Z (.bD (c.hy.A Pr.cells::(c.hd.cells++[vI c.tag]++l))):=rfl
theorem bIJ{c:Cl}{l:List AV}:bu 2 (.bD (c.cells++l))=Z (.bD (c.hd.cells++([vI c.tag]++l))):=by
 rw[<-List.append_assoc];rfl
theorem Km(H:Hn)(c:Cl)(rest:List Cl)(j:Nat)(hc:H.cs.l.drop j=c::rest)(hN:c.hy.l.length<2^61)(hn:∀p∈c.hy.l,p.nodes<2^61):∀(r:List Pr) (i:Nat) (s:St),c.hy.l.drop i=r->i<=c.hy.l.length->s.h.get 0=Z (.cells H.cells J)->
  s.eval (.t 1)=Z (.ptr 0 0)->s.eval (.t 3)=Z (vI (j:Nat))->s.eval (.t 4)=Z (vI (i:Nat))->s.defers=[]->
  Run E1 Vq s λe s'=>s'.defers=[]/\s'.h=s.h/\s'.eval (.t 1)=Z (.ptr 0 0)/\s'.eval (.t 3)=Z (vI (j:Nat))/\((mI r=J/\e=.exit 2)\/(mI r=U/\e=.ret/\s'.eval (.t 2)=Z (Vb U)))
 | [],i,s,hd,hi,g0,h1,h3,h4,hf=>by
  have hl:=ca hd hi;subst hl;apply az (rfl:Vq=.loop ng);simp[ng,V,H.cs.at Cl.len hc,aZI,mI, *]
 |k::r,i,s,hd,hi,g0,h1,h3,h4,hf=>by
  have hl:=cz hd;have hlt:=rj hl;have hm:k∈c.hy.l:=by grind [ip]
  have w1:=U204;apply az (rfl:Vq=.loop ng);cases hq:decide ((2:Int)<(k.nest:Nat)) with
  |true=>simp only[ng,V,H.cs.at Cl.len hc,aZI,c.hy.at Pr.len hd,ac (uX k (hn k hm)),mI,n2,seval, *]
  |false=>
   simp only[ng,V,H.cs.at Cl.len hc,aZI,c.hy.at Pr.len hd,ac (uX k (hn k hm)),mI,n2,seval, *];refine(Km H c rest j hc hN hn r (i+1) _ (ba hd) om ?_ ?_ ?_ ?_ ?_).mono ?_
   ·simp[V,g0]
   ·simp[V,h1]
   ·simp[V,h3]
   ·simp[V]
   ·simp[V,hf]
   rintro e s1 ⟨a1,a2,a3,a4,a5⟩;simp[V] at a2
   grind
theorem Kl(H:Hn)(hN:H.cs.l.length<2^61)(hc:∀c∈H.cs.l,c.hy.l.length<2^61/\(∀p∈c.hy.l,p.nodes<2^61)/\c.hd.nodes<2^61):∀(r:List Cl) (i:Nat) (s:St),H.cs.l.drop i=r->i<=H.cs.l.length->s.h.get 0=Z (.cells H.cells J)->
  s.eval (.t 1)=Z (.ptr 0 0)->s.eval (.t 3)=Z (vI (i:Nat))->s.defers=[]->
  Run E1 Vp s λe s'=>s'.defers=[]/\((jT r=J/\e=.exit 0)\/(jT r=U/\e=.ret/\s'.eval (.t 2)=Z (Vb U)))
 | [],i,s,hd,hi,g0,h1,h3,hf=>by
  have hl:=ca hd hi;subst hl;apply az (rfl:Vp=.loop qL);simp[qL,V,jT, *]
 |c::r,i,s,hd,hi,g0,h1,h3,hf=>by
  have hl:=cz hd;have hlt:=rj hl;have hm:c∈H.cs.l:=by grind [ip]
  obtain⟨b1,b2,b3⟩:=hc c hm;have w1:=U204;apply az (rfl:Vp=.loop qL);simp only[qL,V,seval, *];refine(Km H c r i hd b1 b2 c.hy.l 0 _ rfl (il _) ?_ ?_ ?_ ?_ ?_).mono ?_
  ·simp[V,g0]
  ·simp[V,h1]
  ·simp[V,h3]
  ·simp only[V];rfl
  ·simp[V,hf]
  rintro e s1 ⟨d1,a2,a3,a4,⟨q,rfl⟩|⟨q,rfl,q2⟩⟩
  ·have k0:s1.h.get 0=Z (.cells H.cells J):=by rw[a2];simp[V,g0]
   cases hq:decide ((2:Int)<(c.hd.nest:Nat)) with
   |true=>simp[V,H.cs.at Cl.len hd,bIJ,ac (uX c.hd b3),jT,n2, *]
   |false=>
    simp only[V,WB,H.cs.at Cl.len hd,bIJ,ac (uX c.hd b3),jT,n2,seval, *];refine Kl H hN hc r (i+1) _ (ba hd) om ?_ ?_ ?_ ?_
    ·simp[V,k0]
    ·simp[V,a3]
    ·simp[V]
    ·simp[V,d1]
  ·simp only[V,reduceCtorEq,d1,q,q2,jT]
theorem aAE(H:Hn)(hN:H.cs.l.length<2^61)(hc:∀c∈H.cs.l,c.hy.l.length<2^61/\(∀p∈c.hy.l,p.nodes<2^61)/\c.hd.nodes<2^61)(h:AH):aE E1 (.f 12) [.agg H.cells] h (Vb (jT H.cs.l)) h:=by
 refine s5 rf bNS (qr (Tree.hn H)) rfl (Tree.val _) (λs hs hh hd hr=>?_) h;have h0:=hs 0 _ rfl;simp[aYV,f12,V, *];refine(Kl H hN hc H.cs.l 0 _ rfl (il _) ?_ ?_ ?_ ?_).mono ?_
 ·rfl
 ·simp[V]
 ·exact U34
 ·simp[V,hd]
 rintro e s1 ⟨d1,⟨q,rfl⟩|⟨q,rfl,q2⟩⟩
 ·simp[V, *]
 ·simp[V, *]
def clV(H:Hn)(c:Cl):Evr:=⟨c.vs,H.sy,H.hs⟩
theorem aGR(Vx:Evr):∀v∈Vx.cells,aj v:=λv hv=>by
 simp[Evr.cells] at hv;rcases hv with rfl|rfl|rfl<;>exact Vl.leaf
theorem Yg(H:Hn)(c:Cl)(h:AH):aE E1 (.f 17) [.agg H.cells,.agg c.cells] h (.agg (clV H c).cells) h:=by
 refine sf rf bNN (sE (Tree.hn H) (Tree.cl c)) (λs hs hh hd hr=>?_) h;have h0:=hs 0 _ rfl;have h1:=hs 1 _ rfl;simp[aYK,f17,V,WF,aHO, *];refine⟨_,rfl,1,de,?_⟩;exact sJ (aGR (clV H c))
theorem wJ(h:AH):aE E1 (.f 55) [] h fPr.av h:=by
 refine sf rf bMQ (λv hv=>by cases hv) (λs hs hh hd hr=>?_) h
 simp only[aXB,f55,V,WF,seval, *];exact U244
end Go.Proofs.YtmbabhlmdhghdaaGreatDoor
