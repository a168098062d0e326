/- TMent TRel TGroup TDelete TGroups -/
import Derived.Test.YtkmoeaplhnabcaaGreatDoorU0
import Derived.Test.YtkmoeaplhnabcaaGreatDoorN1
import Derived.Test.YtkmoeaplhnabcaaGreatDoorN3

set_option linter.all false
open Nat renaming reduceEqDiff → rA, reduceAdd → rB, reduceMul → rC
open Int renaming reduceEq → rD, reduceLT → rE, reduceLE → rF
open Option.some renaming injEq → sI
open Prod.mk renaming injEq → pI
open And renaming intro → i4
open Bool renaming and_eq_true → i9, and_self → ip, eq_iff_iff → Ba, false_or → Av, true_or → A2
open List renaming all_cons → j4, all_eq_true → iy, all_nil → j5, append_assoc → jh, append_nil → j6, drop_append_of_le_length → Cd, eq_nil_of_length_eq_zero → Ai, length_append → io, length_cons → im, length_drop → At, length_nil → jf, mem_append → jc, mem_append_left → Bm, mem_append_right → Ae, mem_cons → i8, mem_cons_of_mem → j0, mem_cons_self → il, mem_nil_iff → jb, mem_of_mem_drop → A4, mem_of_mem_eraseIdx → Cn, mem_singleton → ig, nil_append → iz, nodup_nil → Ao, not_mem_nil → Aw, replicate → jz, take_append_of_le_length → Br, take_of_length_le → jl, take_succ_cons → jm, take_zero → jv
open Nat renaming beq → i5, beq_refl → je, ble → i6, ble_eq → iu, blt → iq, blt_eq → j8, le_refl → i7, le_succ → jw, lt_succ_self → js, mul_one → jt, zero_add → jp, zero_le → ir
open Option renaming getD_some → jr
namespace Go.Proofs.YtkmoeaplhnabcaaGreatDoor
open Go Go.AM
set_option maxHeartbeats 4000000
variable [KR]
theorem fB{K K':St→Prop}(k:∀s,K s→K' s):∀(l:List DOp) (s:St),wpDr E1 l s K→wpDr E1 l s K'
 | [],s,h=>k s h
 |⟨⟨dst,g,op⟩,rd,fr⟩::r,s,h=>by
  simp only[wpDr] at h⊢
  refine⟨h.1,gX h.2 (fun h1=>?_) (fun h1=>fB k r _ h1)⟩;split at h1
  ·rename_i f l;refine⟨h1.1,?_⟩;have h2:=h1.2;cases he:evalAll s l with
   |none=>rw[he] at h2;exact h2.elim
   |some l'=>
    rw[he] at h2;simp only[aJ] at h2⊢
    obtain⟨v,hr,hk⟩:=h2;exact⟨v,hr,fB k r _ hk⟩
  ·exact dw (fun s1 q=>fB k r _ q) _ _ h1
theorem mb{ops pre:List DOp}{a x b c n:Nat}{z:List AV}{fr0 fr1:List Nat}{s:St}{Q:AM.Ex→St→Prop}(hl:lastSeq ops=some (pre++[⟨⟨some a,none,.alloc z⟩,[],fr0⟩,⟨⟨none,none,.store n (.t a) (.t x)⟩,[a,x],fr1⟩],⟨⟨some c,none,.mv (.t b)⟩,[b],[]⟩))
  (hc:calmAt 0 pre=true) (hz:z.length=n) (hzi:idsL z=[]) (hax:a≠x) (hf0:∀i∈fr0,i<pre.length) (hf1:∀i∈fr1,i<pre.length)
  (h:wpDr E1 pre s fun s1=>∃cs,s1.eval (.t x)=some (.agg cs)∧idsL cs=[]∧cs.length=n∧
   AM.wpOps E1 [⟨some c,none,.mv (.t b)⟩] (((s1.toH (s1.h.alloc (.cells z true))).put (some a) (.ptr s1.h.next 0)).toH ((s1.h.alloc (.cells z true)).put s1.h.next (some (.cells cs true)))) (Q .normal)):Run E1 (.draw ops) s Q:=by
 refine bT hl ?_
 refine cN pre [] s hc (fun x hx=>by cases hx) ?_
 refine fB (fun s1 k hh done' hd' hq=>?_) _ _ h;obtain⟨cs,hx,hcs,hcl,hk⟩:=k;have hd':done'.length=pre.length:=by rw[hd'];show 0+pre.length=_;omega
 refine vM (fun i hi=>by rw[hd'];exact hf0 i hi) ?_
 refine tM (b:=s1.h.next) (off:=0) (v:=.agg cs) (cs:=z) (l:=cs) (h':=(s1.h.alloc (.cells z true)).put s1.h.next (some (.cells cs true))) ?_ ?_ hcs rfl hax ?_ hzi ?_ ?_ ?_ ?_
 ·exact U36
 ·have q:(x=a)=False:=by simp;omega
  simp-implicitDefEqProofs only[V,↓reduceIte,q,hx]
 ·exact aO
 ·exact js _
 ·exact Jq aO hz hcl
 ·refine rZ (done:=done') (n:=s1.h.next) (fun x hx=>by rw[hh];exact hq x hx) (i7 _) fun i hi=>by rw[hd'];exact hf1 i hi
 ·exact bO hk
theorem fH{g:Nat}{l:List AV}{t:AV}(hs:E1.shared.get g=none)(h3:known3 g=true)(hk:KR.k g l=some t)(hl:∀v∈l,Tree v)(h:AH):RunCall E1 (.f g) l h t h:=by
 refine Ev.of fun n=>?_
 have hz:l.foldl (fun h v=>AM.freeze deepest v h) h=h:=az hl;have hn:E1.known g l=some t:=by
  show(bif known3 g then KR.k g l else none)=_;rw[h3];exact hk
 simp only[aZ,cD,hs,hz,bb hl,hn];cases isFlat t<;>rfl
structure KM (m:Md):Prop where
 ment:∀d∈m.ds.l,KR.k 69 [.agg m.cells,.agg d.cells]=some (nmD (freeS d.b) (mentD m d))
def sucM(m:Md)(x:ByteArray):List ByteArray:=match fndD x m.ds.l with
 |some d=>mentD m d
 |none=>[]
theorem oc{m:Md}{x y:ByteArray}(h:y∈sucM m x):kn m y=true:=by
 rw[sucM] at h;split at h
 ·have:=(List.mem_filter.1 h).2;simp only[Bool.not_or,i9,Bool.not_eq_true'] at this;rw[kn];cases q:fndD y m.ds.l with
  |none=>rw[q] at this;exact absurd this.2 (by simp)
  |some d=>rfl
 ·cases h
theorem kW{m:Md}{x y:ByteArray}(h:Rch (sucM m) x y):kn m y=true:=by
 obtain⟨z,hz⟩:=h.last;exact oc hz
def pushN:List ByteArray→List ByteArray×List ByteArray→List ByteArray×List ByteArray
 | [],w=>w
 |n::N,w=>bif memS n w.1 then pushN N w else pushN N (w.1++[n],w.2++[n])
theorem eA:∀(N:List ByteArray) (w:List ByteArray×List ByteArray),∃new,(pushN N w).1=w.1++new∧(pushN N w).2=w.2++new∧(∀z∈new,z∈N)∧(∀z∈N,z∈(pushN N w).1)∧(w.1.Nodup→(pushN N w).1.Nodup)∧new.length≤N.length
 | [],w=>⟨[],by rw[j6];rfl,by rw[j6];rfl,fun z hz=>hz,fun z hz=>(by cases hz),fun h=>h,i7 _⟩
 |n::N,w=>by
  rw[pushN];cases q:memS n w.1 with
  |true=>
   obtain⟨new,h1,h2,h3,h4,h5,h6⟩:=eA N w;refine⟨new,h1,h2,fun z hz=>j0 _ (h3 z hz),fun z hz=>?_,h5,by rw[im];omega⟩
   rcases i8.1 hz with e|hz
   ·rw[cond_true,h1,e];exact Bm _ (ay.1 q)
   ·exact h4 z hz
  |false=>
   obtain⟨new,h1,h2,h3,h4,h5,h6⟩:=eA N (w.1++[n],w.2++[n]);refine⟨n::new,by rw[cond_false,h1,jh];rfl,by rw[cond_false,h2,jh];rfl,fun z hz=>?_,fun z hz=>?_,fun hn=>?_,by rw[im,im];omega⟩
   ·rcases i8.1 hz with e|hz
    ·rw[e];exact il
    ·exact j0 _ (h3 z hz)
   ·rcases i8.1 hz with e|hz
    ·rw[cond_false,h1,e];exact Bm _ (Ae _ il)
    ·exact h4 z hz
   ·refine h5 ?_
    refine List.nodup_append.2 ⟨hn,List.nodup_cons.2 ⟨Aw,Ao⟩,fun a ha b hb e=>?_⟩;rw[ig.1 hb] at e;subst e;rw[ay.2 ha] at q;cases q
theorem iX{lo k:Nat}(hk:k<lo)(N:Vl ByteArray)(hN:N.l.length<2^28):∀(r:List ByteArray) (i:Nat) (F Q:List ByteArray) (s:St) (v:AV),N.l.drop i=r→i≤N.l.length→Q.length+r.length<2^29→Que s.h lo v Q→lo≤s.h.next→s.h.get k=some (mapB F)→
  s.eval (.t 29)=some (N.A strA)→s.eval (.t 30)=some (vI (N.l.length:Nat))→s.eval (.t 31)=some (vI (i:Nat))→s.eval (.t 5)=some (.mp k)→s.eval (.t 6)=some v→s.defers=[]→
  Run E1 ph s fun e s'=>e=.exit 2∧s'.defers=[]∧lo≤s'.h.next∧(∀y,y<lo→y≠k→s'.h.get y=s.h.get y)∧s'.h.get k=some (mapB (pushN r (F,Q)).1)∧s'.eval (.t 2)=s.eval (.t 2)∧s'.eval (.t 5)=some (.mp k)∧∃v',Que s'.h lo v' (pushN r (F,Q)).2∧s'.eval (.t 6)=some v'
 | [],i,F,Q,s,v,hd,hi,hA,hq,hlo,g1,h29,h30,h31,h5,h6,hf=>by
  have hl:=aK hd hi;subst hl;apply aC (rfl:ph=.loop iY);simp-implicitDefEqProofs only[iY,V,↓reduceIte,rA,h30,h31,h5,h6,hf,ba,pushN];exact⟨hlo,fun _ _ _=>trivial,g1,v,hq,rfl⟩
 |n::r,i,F,Q,s,v,hd,hi,hA,hq,hlo,g1,h29,h30,h31,h5,h6,hf=>by
  have hl:=aL hd;have hlt:=bY hl;have hA':Q.length+(r.length+1)<2^29:=hA;have w1:IntKind.i64.wrap ((i:Int)+1)=((i+1:Nat):Int):=aE (n:=i+1) om;apply aC (rfl:ph=.loop iY);cases hm:memS n F with
  |true=>
   simp-implicitDefEqProofs only[iY,V,↓reduceIte,rA,h29,h30,h31,h5,hlt,N.at aI hd,bS,lJ,eW,gP,g1,hm,w1,pushN];refine(iX hk N hN r (i+1) F Q _ v (aH hd) om om ?_ ?_ ?_ ?_ ?_ ?_ ?_ ?_ ?_).mono ?_
   all_goals try simp-implicitDefEqProofs only[V,↓reduceIte,rA,g1,h29,h30,h5,h6,hf]
   ·exact hq
   ·exact hlo
   rintro e s2 ⟨rfl,d2,n2,o0,o1,t2,t5,H⟩
   try simp-implicitDefEqProofs only[V,↓reduceIte,rA,rB,rC,reduceCtorEq,rD,rE,rF] at o0 t2
   exact⟨rfl,d2,n2,o0,o1,t2,t5,H⟩
  |false=>
   have ha:addS n F=F++[n]:=by rw[addS,hm];rfl
   simp-implicitDefEqProofs only[iY,V,↓reduceIte,rA,WF,h29,h30,h31,h5,h6,hlt,N.at aI hd,bS,lJ,eW,gP,Ii,vP,xy,g1,hm,pushN];refine Fp (lo:=lo) (v:=v) (x:=.own s.h.next 0 1 1 (some 1)) (Q:=Q) (y:=n) ?_ ?_ ?_ om ?_ ?_ ?_
   ·simp-implicitDefEqProofs only[V];exact hq.to (by show s.h.next≤s.h.next+1;omega) fun x x1 x2=>by rw[aB (by show x<s.h.next;omega),aP om]
   ·exact U34
   ·refine aq (rw':=true) ?_ rfl;exact U36
   ·exact U69
   ·exact U36
   intro v1 h1' q1 n1 o1;simp-implicitDefEqProofs only[V,ha] at n1 o1 q1;have o1':h1'.get k=some (mapB (F++[n])):=by rw[o1 k hk,if_neg om,if_pos rfl]
   simp-implicitDefEqProofs only[V,↓reduceIte,rA,h31,w1];refine(iX hk N hN r (i+1) (F++[n]) (Q++[n]) _ v1 (aH hd) om (by rw[io];show Q.length+1+r.length<_;omega) ?_ ?_ ?_ ?_ ?_ ?_ ?_ ?_ ?_).mono ?_
   all_goals try simp-implicitDefEqProofs only[V,↓reduceIte,rA,h29,h30,h5,hf]
   ·exact q1
   ·omega
   ·exact o1'
   rintro e s2 ⟨rfl,d2,n2,p0,p1,t2,t5,H⟩
   try simp-implicitDefEqProofs only[V,↓reduceIte,rA,rB,rC,reduceCtorEq,rD,rE,rF] at p0 t2
   refine⟨rfl,d2,n2,fun y hy hyk=>?_,p1,t2,t5,H⟩;rw[p0 y hy hyk,o1 y hy,if_neg om,if_neg hyk]
theorem uZ{m:Md}{a:ByteArray}{d:Df}(hfd:fndD a m.ds.l=some d)(hmn:m.ds.l.length<2^61){s:St}{Q':List ByteArray}{v:AV}{lo B:Nat}{Q:AM.Ex→St→Prop}(hq:Que s.h lo v (a::Q'))(hB:B<s.h.next)(gB:s.h.get B=some (.cells m.cells true))(h2:s.eval (.t 2)=some (.ptr B 0))(h6:s.eval (.t 6)=some v)
  (post:∀s',(∀j,j<7→s'.eval (.t j)=s.eval (.t j))→s'.eval (.t 7)=some (.ptr s.h.next 0)→s'.h=(s.h.alloc (.cells zDf true)).put s.h.next (some (.cells d.cells true))→s'.defers=s.defers→Q .normal s'):Run E1 Cs s Q:=by
 obtain⟨b,off,l,b1,b2,x1,x2⟩:=hq.hd;have e1:ansD a m.ds.l=.tup [.agg d.cells,vB true]:=by rw[ansD,hfd]
 have hcall:=fun h=>cL m a hmn h;have nB:niceT s.h (some (.ptr B 0))=true:=bt hB gB (by rw[m.ids0];rfl)
 have nb:niceT s.h (some (.ptr b off))=true:=by
  obtain⟨b',off',cap,cs,rfl,c1,c2,gb,gi,_,_,_⟩:=hq;have h0:iq 0 (a::Q').length=true:=j8.mpr (Nat.zero_lt_succ _);simp only[idxAddrSV,h0,je,ip,cond_true,Nat.zero_mul,Nat.add_zero,sI,AV.ptr.injEq] at x1;obtain⟨rfl,_⟩:=x1;exact bt c2 gb (by rw[gi];rfl)
 have ids2:ids (.agg m.cells)=[]:=by show idsL m.cells=[];exact m.ids0
 have ids3:ids (.tup [.agg d.cells,vB true])=[]:=by
  show idsL [.agg d.cells,vB true]=[];simp only[idsL,ids,d.ids0,j6]
 have vi:∀v,ids (AV.val v)=[]:=fun _=>rfl;refine mb (ops:=pg) (pre:=pg.take 8) (a:=7) (x:=23) (b:=24) (c:=8) (n:=25) (z:=zDf) (fr0:=[0,1,2,3,4,5,6,7]) (fr1:=[7]) rfl rfl rfl rfl de de de ?_
 simp-implicitDefEqProofs only[pg,jm,jv,wpDr,bZ,j4,j5,V,↓reduceIte,rA,h2,h6,gB,nB,nb,hq.nice,x1,x2,aM ids2,ak ids2,aM (vi _),ak (vi _),ip,sI];refine⟨.tup [.agg d.cells,vB true],fun h=>by have:=hcall h;rw[e1] at this;exact this,aM ids3,aM ids3,?_⟩
 simp-implicitDefEqProofs only[V,↓reduceIte,rA,aM ids3];refine⟨d.cells,rfl,d.ids0,d.len,?_⟩;refine post _ (fun j hj=>?_) ?_ rfl rfl
 ·have q:∀n,7≤n→(j=n)=False:=fun n hn=>by simp;omega
  simp-implicitDefEqProofs only[V,↓reduceIte,q 7 om,q 8 om,q 17 om,q 18 om,q 19 om,q 20 om,q 21 om,q 22 om,q 23 om,q 24 om]
 ·exact U36
theorem Ks(l l':List ByteArray):nmD l l'=Vl.A strA ⟨l',bif l.isEmpty then nilK else none,none⟩:=rfl
structure Wrk (m:Md) (x:ByteArray) (F Q:List ByteArray):Prop where
 nd:F.Nodup
 fr:∀z∈F,Rch (sucM m) x z
 q:∀z∈Q,z=x∨z∈F
 cl:∀z,(z=x∨z∈F)→z∉Q→∀y∈sucM m z,y∈F
theorem Wrk.next{m:Md}{x a:ByteArray}{F Q:List ByteArray}(w:Wrk m x F (a::Q)){d:Df}(hd:fndD a m.ds.l=some d):Wrk m x (pushN (mentD m d) (F,Q)).1 (pushN (mentD m d) (F,Q)).2:=by
 obtain⟨new,h1,h2,h3,h4,h5,h6⟩:=eA (mentD m d) (F,Q);have hs:sucM m a=mentD m d:=by rw[sucM,hd]
 have hax:a=x∨a∈F:=w.q a il;have hra:∀y∈mentD m d,Rch (sucM m) x y:=fun y hy=>by
  have hy:y∈sucM m a:=by rw[hs];exact hy
  rcases hax with rfl|h
  ·exact .one hy
  ·exact .step (w.fr a h) hy
 refine⟨h5 w.nd,fun z hz=>?_,fun z hz=>?_,fun z hz hq y hy=>?_⟩
 ·rw[h1] at hz;rcases jc.1 hz with h|h
  ·exact w.fr z h
  ·exact hra z (h3 z h)
 ·rw[h2] at hz;rw[h1];rcases jc.1 hz with h|h
  ·rcases w.q z (j0 _ h) with e|e
   ·exact .inl e
   ·exact .inr (Bm _ e)
  ·exact .inr (Ae _ h)
 ·by_cases hza:z=a
  ·subst hza;rw[hs] at hy;exact h4 y hy
  ·rw[h1] at hz⊢
   rw[h2] at hq;have hz':z=x∨z∈F:=by
    rcases hz with e|e
    ·exact .inl e
    ·rcases jc.1 e with e|e
     ·exact .inr e
     ·exact absurd (Ae _ e) hq
   exact Bm _ (w.cl z hz' (fun q=>by
    rcases i8.1 q with q|q
    ·exact hza q
    ·exact hq (Bm _ q)) y hy)
theorem Wrk.done{m:Md}{x:ByteArray}{F:List ByteArray}(w:Wrk m x F []):∀z,z∈F↔Rch (sucM m) x z:=fun z=>
 ⟨w.fr z,fun h=>h.closed (w.cl x (.inl rfl) Aw) fun y hy=>w.cl y (.inr hy) Aw⟩
theorem xW{m:Md}(hm:MdT m)(hK:KM m){x:ByteArray}{lo k B:Nat}(hk:k<lo)(hB:B<lo)(hBk:B≠k):∀(n:Nat) (F Q:List ByteArray) (s:St) (v:AV),Q.length+(nmM m).length≤n+F.length→Wrk m x F Q→(∀z∈Q,kn m z=true)→Q.length≤F.length+1→Que s.h lo v Q→lo≤s.h.next→s.h.get k=some (mapB F)→s.h.get B=some (.cells m.cells true)→s.eval (.t 2)=some (.ptr B 0)→s.eval (.t 5)=some (.mp k)→s.eval (.t 6)=some v→s.defers=[]→
  Run E1 mN s fun e s'=>e=.exit 0∧s'.defers=[]∧lo≤s'.h.next∧(∀y,y<lo→y≠k→s'.h.get y=s.h.get y)∧s'.eval (.t 5)=some (.mp k)∧∃F',s'.h.get k=some (mapB F')∧F'.Nodup∧∀z,z∈F'↔Rch (sucM m) x z:=by
 have hmn:=hm.n;have hDl:(nmM m).length=m.ds.l.length:=by rw[nmM,List.length_map]
 intro n
 induction n with
 |zero=>
  intro F Q s v hn w hkn hQF hq hlo gk gB h2 h5 h6 hf;have hFl:=bD w.nd fun z hz=>fX (kW (w.fr z hz));have hQ:Q=[]:=Ai om;subst hQ;have z0:decide (((0:Nat):Int)>0)=false:=rfl;apply aC (rfl:mN=.loop fh);simp-implicitDefEqProofs only[fh,V,↓reduceIte,rA,h5,h6,hf,hq.len,jf,z0];exact⟨hlo,fun _ _ _=>trivial,F,gk,w.nd,w.done⟩
 |succ n ih=>
  intro F Q s v hn w hkn hQF hq hlo gk gB h2 h5 h6 hf;have hFl:=bD w.nd fun z hz=>fX (kW (w.fr z hz));cases Q with
  |nil=>
   have z0:decide (((0:Nat):Int)>0)=false:=rfl;apply aC (rfl:mN=.loop fh);simp-implicitDefEqProofs only[fh,V,↓reduceIte,rA,h5,h6,hf,hq.len,jf,z0];exact⟨hlo,fun _ _ _=>trivial,F,gk,w.nd,w.done⟩
  |cons a Q=>
   have hka:=hkn a il;rw[kn] at hka;obtain⟨d,hfd⟩:=Option.isSome_iff_exists.1 hka;obtain⟨hdm,hdn⟩:=ee hfd;obtain⟨b1,b2⟩:=hm.b d hdm;have hml:=xF m d;have z1:decide ((((a::Q).length:Nat):Int)>0)=true:=decide_eq_true (by rw[im];omega)
   obtain⟨new,p1,p2,p3,p4,p5,p6⟩:=eA (mentD m d) (F,Q);have p1:(pushN (mentD m d) (F,Q)).1=F++new:=p1;have p2:(pushN (mentD m d) (F,Q)).2=Q++new:=p2;have lB:B<s.h.next:=by omega
   apply aC (rfl:mN=.loop fh);simp-implicitDefEqProofs only[fh,V,↓reduceIte,h6,hq.len,z1];refine uZ (lo:=lo) (v:=v) (B:=B) (Q':=Q) hfd om ?_ ?_ ?_ ?_ ?_ ?_
   ·simp-implicitDefEqProofs only[V];exact hq
   ·simp-implicitDefEqProofs only[V];exact lB
   ·exact U63
   ·exact U52
   ·exact U69
   intro s1 k1 t7 eh d1;simp-implicitDefEqProofs only[V] at t7 eh d1;have n1:s1.h.next=s.h.next+1:=by rw[eh];rfl
   have o1:∀y,y<s.h.next→s1.h.get y=s.h.get y:=fun y hy=>by rw[eh,aP om,aB hy]
   have gT:s1.h.get s.h.next=some (.cells d.cells true):=by rw[eh];exact bL
   have gB1:s1.h.get B=some (.cells m.cells true):=by rw[o1 B lB,gB]
   have hq1:Que s1.h lo v (a::Q):=hq.to om fun y _ y2=>o1 y y2;obtain⟨v',hsl,hq2⟩:=hq1.tl;have t2:s1.eval (.t 2)=some (.ptr B 0):=by rw[k1 2 de];simp-implicitDefEqProofs only[V,↓reduceIte,rA,h2]
   have t5:s1.eval (.t 5)=some (.mp k):=by rw[k1 5 de];simp-implicitDefEqProofs only[V,↓reduceIte,rA,h5]
   have t6:s1.eval (.t 6)=some v:=by rw[k1 6 de];simp-implicitDefEqProofs only[V,↓reduceIte,rA,h6]
   have h69:∀h,RunCall E1 (.f 69) [.agg m.cells,.agg d.cells] h (nmD (freeS d.b) (mentD m d)) h:=fH kr rfl (hK.ment d hdm) (dm (Tree.md m) (Tree.df d));simp-implicitDefEqProofs only[V,↓reduceIte,rA,t2,t6,t7,gB1,gT,hsl,aG h69];rw[Ks];simp-implicitDefEqProofs only[V];refine(iX hk ⟨mentD m d,bif (freeS d.b).isEmpty then nilK else none,none⟩ (by show(mentD m d).length<_;omega) (mentD m d) 0 F Q _ v' rfl (ir _) (by rw[im] at hQF;omega) ?_ ?_ ?_ ?_ ?_ ?_ ?_ ?_ ?_).mono ?_
   all_goals try simp-implicitDefEqProofs only[V,↓reduceIte,rA,t5,d1,hf]
   ·exact hq2
   ·omega
   ·rw[o1 k om,gk]
   ·rfl
   rintro e s2 ⟨rfl,d2,n2,o2,gk2,t2',t5',v2,hq3,t6'⟩
   try simp-implicitDefEqProofs only[V,↓reduceIte,rA,rB,rC,reduceCtorEq,rD,rE,rF] at o2 t2'
   simp-implicitDefEqProofs only[V,WF];have hw:=w.next hfd;rw[p1,p2] at hw;rw[p2] at hq3;rw[p1] at gk2;refine(ih (F++new) (Q++new) s2 v2 (by rw[io,io];rw[im] at hn;omega) hw (fun z hz=>?_) (by rw[io,io];rw[im] at hQF;omega) hq3 n2 gk2 (by rw[o2 B hB hBk,gB1]) (by rw[t2',t2]) t5' t6' d2).mono ?_
   ·rcases jc.1 hz with h|h
    ·exact hkn z (j0 _ h)
    ·have:z∈sucM m a:=by rw[sucM,hfd];exact p3 z h
     exact oc this
   ·rintro e s3 ⟨e1,d3,n3,o3,u5,H⟩;exact⟨e1,d3,n3,fun y hy hyk=>by rw[o3 y hy hyk,o2 y hy hyk,o1 y om],u5,H⟩
theorem kU{m:Md}(hm:MdT m)(hK:KM m){x:ByteArray}(hx:kn m x=true)(h:AH):∃h' F,RunCall E1 (.f 44) [.agg m.cells,vS x] h (.mp (h.next+1)) h'∧h.next+2≤h'.next∧(∀y,y<h.next→h'.get y=h.get y)∧h'.get (h.next+1)=some (mapB F)∧F.Nodup∧∀z,z∈F↔Rch (sucM m) x z:=by
 obtain⟨v',h',hrun,rfl,hP⟩:=d6 (g:=44) (l:=[.agg m.cells,vS x]) (h:=h) (fun v' h'=>v'=.mp (h.next+1)∧∃F,h.next+2≤h'.next∧(∀y,y<h.next→h'.get y=h.get y)∧h'.get (h.next+1)=some (mapB F)∧F.Nodup∧∀z,z∈F↔Rch (sucM m) x z) kr Mm fun s hs hh hd hrd=>by
  have h0:=hs 0 _ rfl;have h1:=hs 1 _ rfl;have c1:(h.next+1=h.next)=False:=by simp
  simp-implicitDefEqProofs only[Cr,f44,V,↓reduceIte,rA,WF,h0,h1,hh,vU];refine(xW hm hK (x:=x) (lo:=h.next+2) (k:=h.next+1) (B:=h.next) om om om (1+(nmM m).length) [] [x] _ (.own (h.next+2) 0 1 1 (some 1)) (by simp) ⟨Ao,fun z hz=>(by cases hz),fun z hz=>.inl (ig.1 hz),fun z hz hq=>?_⟩ ?_ (by simp) ?_ ?_ ?_ ?_ ?_ ?_ ?_ ?_).mono ?_
  ·rcases hz with e|e
   ·exact absurd (ig.2 e) hq
   ·cases e
  ·intro z hz;rw[ig.1 hz];exact hx
  all_goals try simp-implicitDefEqProofs only[V,↓reduceIte,rA,hd]
  ·exact Que.one (i7 _) (js _) aO
  ·omega
  ·rw[if_neg om];rfl
  ·rw[if_neg om,if_neg om]
  rintro e s1 ⟨rfl,d1,n1,o1,t5,F,gk,hF,hFm⟩
  try simp-implicitDefEqProofs only[V,↓reduceIte,rA,rB,rC,reduceCtorEq,rD,rE,rF] at o1
  simp-implicitDefEqProofs only[V,↓reduceIte,reduceCtorEq,WF,t5,d1];refine⟨_,rfl,rfl,F,n1,fun y hy=>?_,gk,hF,hFm⟩;rw[o1 y om om,if_neg om,if_neg om,if_neg om]
 obtain⟨F,p1,p2,p3,p4,p5⟩:=hP;exact⟨h',F,hrun,p1,p2,p3,p4,p5⟩
theorem oF{g:Nat}{b:List AV}{p:ByteArray→Bool}{h:AH}{W:List Nat}(pk:Pick g b p h W)(w:Vl ByteArray)(hN:w.l.length<2^60):∀(r:List ByteArray) (i:Nat) (s:St),w.l.drop i=r→i≤w.l.length→s.h=h→s.eval (.t 0)=some (w.A strA)→s.eval (.t 1)=some (.fn (.func g) [] b)→s.eval (.t 7)=some (vI (w.l.length:Nat))→s.eval (.t 8)=some (vI (i:Nat))→s.defers=[]→
  Run E1 ff s fun e s'=>s'.defers=[]∧s'.h=h∧((pix p r=none∧e=.exit 0)∨(∃j,pix p r=some j∧e=.ret∧s'.eval (.t 4)=some (vI ((i+j:Nat):Int))))
 | [],i,s,hd,hi,hh,h0,h1,h7,h8,hf=>by
  have hl:=aK hd hi;subst hl;apply aC (rfl:ff=.loop ei);exact U88
 |a::r,i,s,hd,hi,hh,h0,h1,h7,h8,hf=>by
  have hl:=aL hd;have hlt:=bY hl;have w1:IntKind.i64.wrap ((i:Int)+1)=((i+1:Nat):Int):=aE (n:=i+1) om;have hc:=pk.2 s.h (by rw[hh];exact i7 _) (fun x _=>by rw[hh]) a
  apply aC (rfl:ff=.loop ei);simp-implicitDefEqProofs only[ei,V,↓reduceIte,rA,reduceCtorEq,h0,h1,h7,h8,hh,hlt,w.at aI hd,bS,iz,List.cons_append];rw[hh] at hc;refine aW (by simp-implicitDefEqProofs only[V,hh];exact hc) ?_
  cases q:p a with
  |true=>
   simp-implicitDefEqProofs only[V,↓reduceIte,rA,reduceCtorEq,hf,pix,q];exact .inr ⟨0,rfl,rfl⟩
  |false=>
   simp-implicitDefEqProofs only[V,↓reduceIte,rA,h8,pix,q,w1];refine(oF pk w hN r (i+1) _ (aH hd) om ?_ ?_ ?_ ?_ ?_ ?_).mono ?_
   all_goals try simp-implicitDefEqProofs only[V,↓reduceIte,rA,reduceCtorEq,h0,h1,h7,hf]
   rintro e s1 ⟨d1,e1,⟨hn,rfl⟩|⟨j,hj,rfl,t4⟩⟩
   ·exact⟨d1,e1,.inl ⟨by rw[hn];rfl,rfl⟩⟩
   ·exact⟨d1,e1,.inr ⟨j+1,by rw[hj];rfl,rfl,by rw[t4];exact congrArg (fun n:Nat=>some (AV.val (.int .i64 (n:Int)))) om⟩⟩
theorem wn{g:Nat}{b:List AV}{p:ByteArray→Bool}{h:AH}{W:List Nat}(pk:Pick g b p h W)(w:Vl ByteArray)(hN:w.l.length<2^60):RunCall E1 (.f 70) [w.A strA,.fn (.func g) [] b] h (vI (pixI p w.l)) h:=by
 obtain⟨q,o,r0,hb⟩:=pk.1;obtain⟨v',h',hrun,rfl,rfl⟩:=dU (g:=70) (l:=[w.A strA,.fn (.func g) [] b]) (h:=h) (fun v' h'=>v'=vI (pixI p w.l)∧h'=h) kr zp (fun h=>ah (ae (by rw[hb];exact dI))) fun s hs hh hd hrd=>by
  have h0:=hs 0 _ rfl;have h1:=hs 1 _ rfl;simp-implicitDefEqProofs only[uS,f70,V,↓reduceIte,reduceCtorEq,h0];refine(oF pk w hN w.l 0 _ rfl (ir _) ?_ ?_ ?_ ?_ ?_ ?_).mono ?_
  all_goals try simp-implicitDefEqProofs only[V,↓reduceIte,rA,reduceCtorEq,h0,h1,hd,hh]
  all_goals try rfl
  rintro e s1 ⟨d1,e1,⟨hn,rfl⟩|⟨j,hj,rfl,t4⟩⟩
  ·exact U61
  ·exact U62
 exact hrun
theorem vY{p:ByteArray→Bool}:∀{l:List ByteArray},(pix p l).isSome=l.any p
 | []=>rfl
 |a::r=>by
  rw[pix,List.any_cons];cases p a with
  |true=>rfl
  |false=>simp only[cond_false,Option.isSome_map,Av];exact vY
theorem Ft(p:ByteArray→Bool)(l:List ByteArray):decide (pixI p l≥0)=l.any p:=by
 rw[←vY,pixI];cases pix p l with
 |none=>rfl
 |some i=>simp
theorem sq{g:Nat}{b:List AV}{p:ByteArray→Bool}{h:AH}{W:List Nat}(pk:Pick g b p h W)(w:Vl ByteArray)(hN:w.l.length<2^60):RunCall E1 (.f 45) [w.A strA,.fn (.func g) [] b] h (vB (w.l.any p)) h:=by
 obtain⟨q,o,r0,hb⟩:=pk.1;obtain⟨v',h',hrun,rfl,rfl⟩:=dU (g:=45) (l:=[w.A strA,.fn (.func g) [] b]) (h:=h) (fun v' h'=>v'=vB (w.l.any p)∧h'=h) kr Ml (fun h=>ah (ae (by rw[hb];exact dI))) fun s hs hh hd hrd=>by
  have h0:=hs 0 _ rfl;have h1:=hs 1 _ rfl;have hc:=wn pk w hN;simp-implicitDefEqProofs only[Cq,f45,V,↓reduceIte,rA,reduceCtorEq,h0,h1];refine aW (by simp-implicitDefEqProofs only[V,hh];exact hc) ?_
  simp-implicitDefEqProofs only[V,↓reduceIte,reduceCtorEq,hd,Ft,oneOrTup];exact⟨_,rfl,rfl⟩
 exact hrun
theorem Kk{h:AH}{C k:Nat}(F:List ByteArray)(gC:h.get C=some (.cells [.mp k] true))(gk:h.get k=some (mapB F)):Pick 46 [.ptr C 0] (fun x=>memS x F) h [C,k]:=by
 refine⟨⟨_,_,_,rfl⟩,fun h' hn ho x=>?_⟩;have gC':h'.get C=some (.cells [.mp k] true):=by rw[ho C (by simp),gC]
 have gk':h'.get k=some (mapB F):=by rw[ho k (by simp),gk]
 obtain⟨v',h2,hrun,rfl,rfl⟩:=dU (g:=46) (l:=[vS x,.ptr C 0]) (h:=h') (fun v' h2=>v'=vB (memS x F)∧h2=h') kr Mk (fun h=>ah (ae bQ)) fun s hs hh hd hrd=>by
  have h0:=hs 0 _ rfl;have h1:=hs 1 _ rfl;simp-implicitDefEqProofs only[Cp,f46,V,↓reduceIte,rA,reduceCtorEq,h0,h1,hh,hd,gC',gk',lJ,eW,gP];exact⟨_,rfl,rfl⟩
 exact hrun
open Classical in
noncomputable def rchB (m:Md) (a b:List ByteArray):Bool:=decide (∃s∈a,∃t∈b,Rch (sucM m) s t)
theorem cT{m:Md}{a b:List ByteArray}:rchB m a b=true↔∃s∈a,∃t∈b,Rch (sucM m) s t:=by simp only[rchB,decide_eq_true_eq]
theorem yP{m:Md}{b:List ByteArray}:rchB m [] b=false:=by
 cases h:rchB m [] b with
 |false=>rfl
 |true=>
  obtain⟨s,hs,_⟩:=cT.1 h;cases hs
theorem wk{m:Md}{x:ByteArray}{a b F:List ByteArray}(hF:∀z,z∈F↔Rch (sucM m) x z):rchB m (x::a) b=(b.any (fun y=>memS y F)||rchB m a b):=by
 rw[Ba,Bool.or_eq_true,cT,cT,List.any_eq_true];constructor
 ·rintro⟨s,hs,t,ht,hr⟩;rcases i8.1 hs with rfl|hs
  ·exact .inl ⟨t,ht,ay.2 ((hF t).2 hr)⟩
  ·exact .inr ⟨s,hs,t,ht,hr⟩
 ·rintro(⟨t,ht,hr⟩|⟨s,hs,t,ht,hr⟩)
  ·exact⟨x,il,t,ht,(hF t).1 (ay.1 hr)⟩
  ·exact⟨s,j0 _ hs,t,ht,hr⟩
theorem sZ{m:Md}(hm:MdT m)(hK:KM m)(a b:Vl ByteArray)(ha:a.l.length<2^60)(hb:b.l.length<2^60)(hkn:∀z∈a.l,kn m z=true):∀(r:List ByteArray) (i:Nat) (s:St),a.l.drop i=r→i≤a.l.length→0<s.h.next→s.h.get 0=some (.cells m.cells true)→s.eval (.t 2)=some (b.A strA)→s.eval (.t 3)=some (.ptr 0 0)→s.eval (.t 10)=some (a.A strA)→s.eval (.t 11)=some (vI (a.l.length:Nat))→s.eval (.t 12)=some (vI (i:Nat))→s.defers=[]→
  Run E1 pp s fun e s'=>s'.defers=[]∧((rchB m r b.l=false∧e=.exit 0)∨(rchB m r b.l=true∧e=.ret∧s'.eval (.t 6)=some (vB true)))
 | [],i,s,hd,hi,l0,g0,h2,h3,h10,h11,h12,hf=>by
  have hl:=aK hd hi;subst hl;apply aC (rfl:pp=.loop mQ);simp-implicitDefEqProofs only[mQ,V,↓reduceIte,rA,reduceCtorEq,h11,h12,hf,ba,yP]
 |x::r,i,s,hd,hi,l0,g0,h2,h3,h10,h11,h12,hf=>by
  have hl:=aL hd;have hlt:=bY hl;have w1:IntKind.i64.wrap ((i:Int)+1)=((i+1:Nat):Int):=aE (n:=i+1) om;have hkx:=hkn x (A4 (by rw[hd];exact il))
  obtain⟨h1',F,hc,n1,o1,gk,hF,hFm⟩:=kU hm hK hkx s.h;have c1:(s.h.next+1=h1'.next)=False:=by simp;omega
  have c0:(0=h1'.next)=False:=by simp;omega
  apply aC (rfl:pp=.loop mQ);simp-implicitDefEqProofs only[mQ,V,↓reduceIte,rA,h3,h10,h11,h12,hlt,a.at aI hd,bS,g0];refine aW (by simp-implicitDefEqProofs only[V];exact hc) ?_
  simp-implicitDefEqProofs only[V,↓reduceIte,rA,WF,h2,Ja];have pk:=Kk (h:=(h1'.alloc (.cells [.val (.map none)] true)).put h1'.next (some (.cells [.mp (s.h.next+1)] true))) (C:=h1'.next) (k:=s.h.next+1) F bL (by rw[aP om,aB om,gk])
  have hc2:=sq pk b hb;refine aW (by simp-implicitDefEqProofs only[V];exact hc2) ?_
  have hr:=wk (a:=r) (b:=b.l) hFm;cases q:b.l.any fun y=>memS y F with
  |true=>
   rw[q,A2] at hr;simp-implicitDefEqProofs only[V,↓reduceIte,reduceCtorEq,hf,hr]
  |false=>
   rw[q,Av] at hr;simp-implicitDefEqProofs only[V,↓reduceIte,rA,h12,w1];rw[hr];refine sZ hm hK a b ha hb hkn r (i+1) _ (aH hd) om ?_ ?_ ?_ ?_ ?_ ?_ ?_ ?_
   all_goals try simp-implicitDefEqProofs only[V,↓reduceIte,rA,h2,h3,h10,h11,hf]
   ·omega
   ·rw[if_neg om,if_neg om,o1 0 l0,g0]
theorem lO{m:Md}(hm:MdT m)(hK:KM m)(a b:Vl ByteArray)(ha:a.l.length<2^60)(hb:b.l.length<2^60)(hkn:∀z∈a.l,kn m z=true)(h:AH):RunCall E1 (.f 24) [.agg m.cells,a.A strA,b.A strA] h (vB (rchB m a.l b.l)) h:=by
 refine gJ kr My (fun v hv=>?_) rfl (Tree.val _) (fun s hs hh hd hr=>?_) h
 ·simp only[i8,jb,or_false] at hv;rcases hv with rfl|rfl|rfl
  ·exact Tree.md m
  ·exact Tree.vl
  ·exact Tree.vl
 have h0:=hs 0 _ rfl;have h1:=hs 1 _ rfl;have h2:=hs 2 _ rfl;simp-implicitDefEqProofs only[Dc,f24,V,↓reduceIte,rA,h0,h1,hh];refine(sZ hm hK a b ha hb hkn a.l 0 _ rfl (ir _) ?_ ?_ ?_ ?_ ?_ ?_ ?_ ?_).mono ?_
 all_goals try simp-implicitDefEqProofs only[V,↓reduceIte,rA,h2,hd]
 ·exact Nat.zero_lt_one
 ·rfl
 rintro e s1 ⟨d1,⟨q,rfl⟩|⟨q,rfl,t6⟩⟩
 ·exact U70
 ·simp-implicitDefEqProofs only[V,reduceCtorEq,d1,q,t6]
open Classical in
noncomputable def tog (m:Md) (a b:ByteArray):Bool:=decide (Rch (sucC m) a b∧Rch (sucC m) b a)
theorem dy{m:Md}{a b:ByteArray}:tog m a b=true↔Rch (sucC m) a b∧Rch (sucC m) b a:=by simp only[tog,decide_eq_true_eq]
def KReach(m:Md)(x:ByteArray):Prop:=∃L,ReachC m x L∧L.length<2^60∧KR.k 49 [.agg m.cells,vS x]=some (nmV L)
theorem iR{L:List ByteArray}{x:ByteArray}(hL:L.length<2^60)(h:AH):RunCall E1 (.f 48) [nmV L,vS x] h (vI (fndI x L)) h:=ef ⟨L,nilK,none⟩ x (by show L.length<_;omega) h
theorem tK{m:Md}{a b:ByteArray}(ka:KReach m a)(kb:KReach m b)(h:AH):RunCall E1 (.f 29) [.agg m.cells,vS a,vS b] h (vB (tog m a b)) h:=by
 obtain⟨La,ra,la,ka⟩:=ka;obtain⟨Lb,rb,lb,kb⟩:=kb;have hca:∀h,RunCall E1 (.f 49) [.agg m.cells,vS a] h (nmV La) h:=fH kr rfl ka (dm (Tree.md m) (Tree.val _));have hcb:∀h,RunCall E1 (.f 49) [.agg m.cells,vS b] h (nmV Lb) h:=fH kr rfl kb (dm (Tree.md m) (Tree.val _));have ht:tog m a b=(memS b La&&memS a Lb):=by
  rw[Ba,i9,dy,ay,ay,ra.mem,rb.mem]
 refine gJ kr Mv (fun v hv=>?_) rfl (Tree.val _) (fun s hs hh hd hr=>?_) h
 ·simp only[i8,jb,or_false] at hv;rcases hv with rfl|rfl|rfl
  ·exact Tree.md m
  ·exact Tree.val _
  ·exact Tree.val _
 have h0:=hs 0 _ rfl;have h1:=hs 1 _ rfl;have h2:=hs 2 _ rfl;rw[ht];cases q:memS b La with
 |false=>simp-implicitDefEqProofs only[ub,f29,V,↓reduceIte,rA,reduceCtorEq,h0,h1,h2,hh,hd,aG hca,aG (iR la),dr,q]
 |true=>simp-implicitDefEqProofs only[ub,f29,V,↓reduceIte,rA,reduceCtorEq,h0,h1,h2,hh,hd,aG hca,aG hcb,aG (iR la),aG (iR lb),dr,q]
noncomputable def inG (m:Md) (x:ByteArray) (d:Df):Bool:=strEq d.nm x||tog m x d.nm
noncomputable def grpD (m:Md) (x:ByteArray):List Df→List ByteArray
 | []=>[]
 |d::r=>bif inG m x d then d.nm::grpD m x r else grpD m x r
noncomputable def grp (m:Md) (x:ByteArray):List ByteArray:=grpD m x m.ds.l
theorem rX{m:Md}{x:ByteArray}:∀l:List Df,(grpD m x l).length≤l.length
 | []=>i7 _
 |d::r=>by
  have:=rX (m:=m) (x:=x) r;rw[grpD];cases inG m x d
  ·rw[cond_false,im];omega
  ·rw[cond_true,im,im];omega
def KAll(m:Md):Prop:=∀d∈m.ds.l,KReach m d.nm
theorem gl{m:Md}(hmn:m.ds.l.length<2^20){x:ByteArray}(kx:KReach m x)(kd:KAll m):∀(r:List Df) (i:Nat) (s:St) (acc:List ByteArray) (v:AV),m.ds.l.drop i=r→i≤m.ds.l.length→acc.length+r.length<2^22→RowC s.h 1 acc.length 1 v (acc.flatMap strA)→1≤s.h.next→s.h.get 0=some (.cells m.cells true)→s.eval (.t 1)=some (vS x)→s.eval (.t 2)=some (.ptr 0 0)→s.eval (.t 5)=some v→s.eval (.t 9)=some (m.ds.A Df.cells)→s.eval (.t 10)=some (vI (m.ds.l.length:Nat))→s.eval (.t 11)=some (vI (i:Nat))→s.defers=[]→
  Run E1 mR s fun e s'=>e=.exit 0∧s'.defers=[]∧∃v',s'.eval (.t 5)=some v'∧RowC s'.h 1 (acc++grpD m x r).length 1 v' ((acc++grpD m x r).flatMap strA)
 | [],i,s,acc,v,hd,hi,hA,hr,l1,g0,h1,h2,h5,h9,h10,h11,hf=>by
  have hl:=aK hd hi;subst hl;apply aC (rfl:mR=.loop fi);simp-implicitDefEqProofs only[fi,V,↓reduceIte,rA,h5,h10,h11,hf,ba,grpD,j6];exact⟨v,rfl,hr⟩
 |d::r,i,s,acc,v,hd,hi,hA,hr,l1,g0,h1,h2,h5,h9,h10,h11,hf=>by
  have hl:=aL hd;have hlt:=bY hl;have w1:IntKind.i64.wrap ((i:Int)+1)=((i+1:Nat):Int):=aE (n:=i+1) om;have hdm:d∈m.ds.l:=A4 (by rw[hd];exact il)
  have hct:=tK kx (kd d hdm);have c0:(0=s.h.next)=False:=by simp;omega
  rw[im] at hA;have hr1:RowC ((s.h.alloc (.cells zDf true)).put s.h.next (some (.cells d.cells true))) 1 acc.length 1 v (acc.flatMap strA):=hr.to (jw _) fun y y1 y2=>by rw[aP om,aB y2]
  have skip:inG m x d=false→∀s1:St,s1.h=(s.h.alloc (.cells zDf true)).put s.h.next (some (.cells d.cells true))→s1.eval (.t 1)=some (vS x)→s1.eval (.t 2)=some (.ptr 0 0)→s1.eval (.t 5)=some v→s1.eval (.t 9)=some (m.ds.A Df.cells)→s1.eval (.t 10)=some (vI (m.ds.l.length:Nat))→s1.eval (.t 11)=some (vI ((i+1:Nat):Int))→s1.defers=[]→
    Run E1 mR s1 fun e s'=>e=.exit 0∧s'.defers=[]∧∃v',s'.eval (.t 5)=some v'∧RowC s'.h 1 (acc++grpD m x (d::r)).length 1 v' ((acc++grpD m x (d::r)).flatMap strA):=fun q s1 eh e1 e2 e5 e9 e10 e11 d1=>by
   rw[grpD,q,cond_false];exact gl hmn kx kd r (i+1) s1 acc v (aH hd) om om (by rw[eh];exact hr1) (by rw[eh];show 1≤s.h.next+1;omega) (by rw[eh,aP om,aB om,g0]) e1 e2 e5 e9 e10 e11 d1
  apply aC (rfl:mR=.loop fi);cases q:inG m x d with
  |false=>
   have q0:=q;rw[inG,Bool.or_eq_false_iff] at q0;obtain⟨q1,q2⟩:=q0;simp-implicitDefEqProofs only[fi,V,↓reduceIte,rA,WF,h1,h2,h9,h10,h11,hlt,m.ds.at Df.len hd,be,da,q1,c0,g0,aG hct,q2,w1];refine skip q _ ?_ ?_ ?_ ?_ ?_ ?_ ?_ ?_
   all_goals simp-implicitDefEqProofs only[V,↓reduceIte,rA,h1,h2,h5,h9,h10,hf]
  |true=>
   have hq:strEq d.nm x=true∨(strEq d.nm x=false∧tog m x d.nm=true):=by
    rw[inG] at q;cases q1:strEq d.nm x with
    |true=>exact .inl rfl
    |false=>rw[q1,Av] at q;exact .inr ⟨rfl,q⟩
   have g01:((s.h.alloc (.cells zDf true)).put s.h.next (some (.cells d.cells true))).get 0=some (.cells m.cells true):=by rw[aP om,aB om,g0]
   have hb:(acc++[d.nm]).length=acc.length+1:=by rw[io];rfl
   rw[grpD,q,cond_true,show acc++d.nm::grpD m x r=(acc++[d.nm])++grpD m x r by rw[jh];rfl]
   rcases hq with q1|⟨q1,q2⟩
   ·simp-implicitDefEqProofs only[fi,V,↓reduceIte,rA,WF,h1,h5,h9,h10,h11,hlt,m.ds.at Df.len hd,be,da,q1];refine cO (k:=acc.length) (m:=1) (lo:=1) (v:=v) (x:=.own (s.h.next+1) 0 1 1 (some 1)) (cs:=acc.flatMap strA) (new:=[vS d.nm]) ?_ ?_ ?_ rfl ?_ (aS om de) ?_ ?_ ?_
    ·exact U71
    ·exact U34
    ·refine aq (rw':=true) ?_ rfl;exact U36
    ·exact fun c hc=>by rw[ig.1 hc];exact Leaf.val _
    ·exact U35
    ·exact U36
    intro v1 h1' r1 m1 o1;simp-implicitDefEqProofs only[V] at m1 o1 r1;simp-implicitDefEqProofs only[V,↓reduceIte,rA,h11,w1];refine gl hmn kx kd r (i+1) _ (acc++[d.nm]) v1 (aH hd) om om ?_ ?_ ?_ ?_ ?_ ?_ ?_ ?_ ?_ ?_
    all_goals try simp-implicitDefEqProofs only[V,↓reduceIte,rA,h1,h2,h9,h10,hf]
    ·exact U64
    ·omega
    ·exact U72
   ·simp-implicitDefEqProofs only[fi,V,↓reduceIte,rA,WF,h1,h2,h5,h9,h10,h11,hlt,m.ds.at Df.len hd,be,da,q1,c0,g0,aG hct,q2];refine cO (k:=acc.length) (m:=1) (lo:=1) (v:=v) (x:=.own (s.h.next+1) 0 1 1 (some 1)) (cs:=acc.flatMap strA) (new:=[vS d.nm]) ?_ ?_ ?_ rfl ?_ (aS om de) ?_ ?_ ?_
    ·exact U71
    ·exact U34
    ·refine aq (rw':=true) ?_ rfl;exact U36
    ·exact fun c hc=>by rw[ig.1 hc];exact Leaf.val _
    ·exact U35
    ·exact U36
    intro v1 h1' r1 m1 o1;simp-implicitDefEqProofs only[V] at m1 o1 r1;simp-implicitDefEqProofs only[V,↓reduceIte,rA,h11,w1];refine gl hmn kx kd r (i+1) _ (acc++[d.nm]) v1 (aH hd) om om ?_ ?_ ?_ ?_ ?_ ?_ ?_ ?_ ?_ ?_
    all_goals try simp-implicitDefEqProofs only[V,↓reduceIte,rA,h1,h2,h9,h10,hf]
    ·exact U64
    ·omega
    ·exact U72
theorem pS{m:Md}(hmn:m.ds.l.length<2^20){x:ByteArray}(kx:KReach m x)(kd:KAll m)(h:AH):RunCall E1 (.f 22) [.agg m.cells,vS x] h (nmV (grp m x)) h:=by
 refine jX kr Na (dm (Tree.md m) (Tree.val _)) (fun s hs hh hd hr=>?_) h;have h0:=hs 0 _ rfl;have h1:=hs 1 _ rfl;simp-implicitDefEqProofs only[De,f22,V,↓reduceIte,rA,h0,hh];refine(gl hmn kx kd m.ds.l 0 _ [] (.val (.slice none 0 0)) rfl (ir _) (by simp only[jf];omega) RowC.nil ?_ ?_ ?_ ?_ ?_ ?_ ?_ ?_ ?_).mono ?_
 all_goals try simp-implicitDefEqProofs only[V,↓reduceIte,rA,h1,hd]
 ·exact i7 _
 ·rfl
 rintro e s1 ⟨rfl,d1,v,t5,r1⟩;rw[iz] at r1;simp-implicitDefEqProofs only[V,↓reduceIte,reduceCtorEq,WB,t5,d1];exact⟨v,rfl,1,de,di r1⟩
def RowP(h:AH)(lo:Nat)(v:AV)(cs:List AV):Prop:=
 (∀c∈cs,Leaf c)∧((cs=[]∧v=.val (.slice none 0 0))∨∃b D,lo≤b∧b<h.next∧v=.own b 0 cs.length 1 none∧(∀c∈D,Leaf c)∧h.get b=some (.cells (cs++D) true))
theorem RowP.of{h:AH}{lo k:Nat}{v:AV}{cs:List AV}(r:RowC h lo k 1 v cs):RowP h lo v cs:=by
 obtain⟨h1,h2,⟨rfl,rfl⟩|⟨b,b1,b2,b3,rfl,b5⟩⟩:=r
 ·exact⟨h1,.inl ⟨Ai om,rfl⟩⟩
 ·exact⟨h1,.inr ⟨b,[],b1,b2,by rw[h2,jt],fun c hc=>(by cases hc),by rw[j6];exact b5⟩⟩
theorem RowP.len{h:AH}{lo:Nat}{v:AV}{cs:List AV}(r:RowP h lo v cs):lenV v=some (vI (cs.length:Nat)):=by
 obtain⟨_,⟨rfl,rfl⟩|⟨b,D,_,_,rfl,_,_⟩⟩:=r
 ·rfl
 ·rfl
theorem RowP.to{h h':AH}{lo:Nat}{v:AV}{cs:List AV}(r:RowP h lo v cs)(hn:h.next≤h'.next)(g:∀x∈ids v,h'.get x=h.get x):RowP h' lo v cs:=by
 obtain⟨h1,⟨rfl,rfl⟩|⟨b,D,b1,b2,rfl,b4,b5⟩⟩:=r
 ·exact⟨h1,.inl ⟨rfl,rfl⟩⟩
 ·exact⟨h1,.inr ⟨b,D,b1,om,rfl,b4,by rw[g b (by simp[ids]),b5]⟩⟩
theorem RowP.ids{h:AH}{lo:Nat}{v:AV}{cs:List AV}(r:RowP h lo v cs):∀x∈AM.ids v,lo≤x∧x<h.next:=by
 obtain⟨h1,⟨rfl,rfl⟩|⟨b,D,b1,b2,rfl,b4,b5⟩⟩:=r
 ·exact fun x hx=>by cases hx
 ·exact fun x hx=>by rw[AM.ids,ig] at hx;subst hx;exact⟨b1,b2⟩
theorem RowP.at{h:AH}{lo:Nat}{v:AV}{cs:List AV}(r:RowP h lo v cs){i:Nat}{c:AV}{t:List AV}(hd:cs.drop i=c::t):∃b t',idxAddrSV 1 v i=some (.ptr b i)∧cfB (h.get b) i=some (c::t'):=by
 have hi:=aL hd;obtain⟨h1,⟨rfl,rfl⟩|⟨b,D,b1,b2,rfl,b4,b5⟩⟩:=r
 ·simp at hi
 ·refine⟨b,t++D,gQ hi,?_⟩;have h1:i6 i (cs++D).length=true:=iu.mpr (by rw[io];omega)
  rw[b5];simp only[cfB,h1,cond_true];rw[Cd om,hd];rfl
theorem Tq{c:AV}{t:List AV}:takeN none (c::t)=some c:=rfl
theorem xH{cs:List AV}(h:∀c∈cs,Leaf c):idsL cs=[]:=bV h
theorem Oa{E:Env}{s:St}{K:St→Prop}{rest:List DOp}{done:List DRec}{bytes dst a d b k j m:Nat}{cs:List AV}(h2:s.eval (.t a)=some (.own b 0 k 1 none))(h3:s.eval (.t d)=some (.own b j m 1 none))(hb:b<s.h.next)(g:s.h.get b=some (.cells cs true))(hlf:∀c∈cs,Leaf c)(hk:k<cs.length)(hkm:k+m≤cs.length)(hj:j+m≤cs.length)(hok:okLen (k+m) bytes=true)
  (kk:∀rec h',h'.next=s.h.next→h'.get b=some (.cells (putAt cs k ((cs.drop j).take m)) true)→(∀y,y<s.h.next→y≠b→h'.get y=s.h.get y)→DrawTo E rest (done++[rec]) ((s.toH h').put (some dst) (.own b 0 (k+m) 1 none)) K):
  DrawTo E (⟨⟨some dst,none,.append 1 bytes (.t a) (.t d)⟩,[a,d],[]⟩::rest) done s K:=by
 generalize hvs:idsL (pickTm s.tm [a,d]).vals=vs;have pa:(pickTm s.tm [a,d]).get a=some (.own b 0 k 1 none):=cg il h2;have pd:(pickTm s.tm [a,d]).get d=some (.own b j m 1 none):=cg (j0 _ il) h3;have inv:b∈vs:=by rw[←hvs];exact cm (b9 pa) b (by simp[ids])
 have out:∀y∈vs,y=b:=fun y hy=>by
  rw[←hvs] at hy;obtain⟨i,hi,w,hw,hyw⟩:=dx hy;rcases i8.1 hi with rfl|hi
  ·rw[h2] at hw;cases hw
   simpa [ids] using hyw
  ·rw[ig.1 hi,h3] at hw;cases hw
   simpa [ids] using hyw
 have hb':iq b s.h.next=true:=j8.mpr hb;have hbel:below s.h.next vs=true:=iy.2 fun y hy=>by rw[out y hy];exact hb'
 have hkn:knownH s.h vs=true:=iy.2 fun y hy=>by
  rw[out y hy];simp only[hb',g,idsB,bV hlf];rfl
 have gr:(restrictH s.h vs).get b=some (.cells cs true):=by rw[aV inv,g]
 have hel:elemsOf (restrictH s.h vs) 1 (.own b j m 1 none)=some ((cs.drop j).take m,m):=by
  have q:i6 (j+m) cs.length=true:=iu.mpr om;simp only[elemsOf,je,cond_true,gr,jt,q]
 have hpz:m=0→putAt cs k ((cs.drop j).take m)=cs:=fun z=>by
  subst z;simp only[jv,putAt,jf,Nat.add_zero,j6,List.take_append_drop]
 have hap:∃h1:AH,appendA {tm:=pickTm s.tm [a,d],h:=restrictH s.h vs,defers:=[],round:=s.round} 1 bytes (.t a) (.t d)=some (.own b 0 (k+m) 1 none,{tm:=pickTm s.tm [a,d],h:=h1,defers:=[],round:=s.round})∧h1.next=s.h.next∧h1.get b=some (.cells (putAt cs k ((cs.drop j).take m)) true):=by
  rcases Nat.eq_zero_or_pos m with z|z
  ·refine⟨restrictH s.h vs,?_,rfl,by rw[hpz z,gr]⟩
   have q0:i5 m 0=true:=by rw[z];rfl
   simp only[appendA,St.eval,pa,pd,hel,q0,cond_true];rw[show k+m=k by omega]
  ·refine⟨(restrictH s.h vs).put b (some (.cells (putAt cs k ((cs.drop j).take m)) true)),?_,rfl,bL⟩;have q0:i5 m 0=false:=by
    cases hq:i5 m 0 with
    |false=>rfl
    |true=>have:=Nat.eq_of_beq_eq_true hq;omega
   have q1:i6 k cs.length=true:=iu.mpr om;have q2:iq k cs.length=true:=j8.mpr om;have q3:i6 (k+m) cs.length=true:=iu.mpr om;simp only[appendA,St.eval,pa,pd,hel,q0,cond_false,gr,je,jt,jp,q1,q2,q3,hok,ip,cond_true]
 obtain⟨h1,e1,e3,e4⟩:=hap;have hro:∀m',runOp E (aZ E (exec E m')) {tm:=pickTm s.tm [a,d],h:=restrictH s.h vs,defers:=[],round:=s.round} (.append 1 bytes (.t a) (.t d))=some (.own b 0 (k+m) 1 none,{tm:=pickTm s.tm [a,d],h:=h1,defers:=[],round:=s.round}):=fun m'=>e1;have htu:turned {tm:=pickTm s.tm [a,d],h:=restrictH s.h vs,defers:=[],round:=s.round} (.append 1 bytes (.t a) (.t d))=[b]:=by
  simp only[turned,idsO,St.eval,pa,ids]
 have hDb:below s.h.next [b]=true:=by simp only[below,j4,j5,hb',ip]
 have hble:i6 s.h.next h1.next=true:=iu.mpr om;have hst:Ev fun n=>stepDraw E (aZ E (exec E n)) ⟨⟨some dst,none,.append 1 bytes (.t a) (.t d)⟩,[a,d],[]⟩ (nearOf done []) s=some (.own b 0 (k+m) 1 none,⟨vs,[b],s.h.next,h1.next⟩,mergeH s.h [b] h1):=by
  refine Ev.of fun n=>?_
  simp only[stepDraw,wantedA,hvs,foot,hbel,hkn,ip,cond_true,hro,isCall,cond_false,htu,List.isEmpty_nil,hble,hDb]
 have hnx:(mergeH s.h [b] h1).next=h1.next:=rfl;refine aj (d:=⟨⟨some dst,none,.append 1 bytes (.t a) (.t d)⟩,[a,d],[]⟩) rfl hst (kk _ _ (by rw[hnx,e3]) ?_ fun y hy hyb=>?_)
 ·rw[ce om,if_neg om,if_pos il,e4]
 ·rw[ce om,if_neg om,if_neg (by simpa using hyb)]
theorem slice_mid{b n i:Nat}(hi:i<n):∃w,sliceA' 1 (.own b 0 n 1 none) (some i) (some (i+1)) (some n)=some w:=by
 have h1:i6 n n=true:=iu.mpr (i7 _);have h2:i6 (i+1) n=true:=iu.mpr om;have h3:i6 i (i+1)=true:=iu.mpr om;have e1:sliceB n n (some i) (some (i+1)) (some n)=some (i,i+1,n):=by simp only[sliceB,jr,h1,h2,h3,Option.isSome_some,Bool.or_true,ip,cond_true]
 refine⟨.own b (bif i5 n i then 0 else 0+i*1) (i+1-i) 1 (some (n-i)),?_⟩;simp only[sliceA',e1,h1,je,cond_true]
theorem tS{h:AH}{b n:Nat}{cs:List AV}(hn:0<n)(g:h.get b=some (.cells cs true))(hl:n≤cs.length):(sliceA' 1 (.own b 0 (n-1) 1 none) (some (n-1)) (some n) none).or (sliceW h 1 (.own b 0 (n-1) 1 none) (some (n-1)) (some n) none)=some (.own b (n-1) 1 1 none):=by
 have h1:i6 n (n-1)=false:=by
  cases hh:i6 n (n-1) with
  |false=>rfl
  |true=>have:=Nat.le_of_ble_eq_true hh;omega
 have h2:i6 (n-1) (n-1)=true:=iu.mpr (i7 _);have h3:iq (n-1) n=true:=j8.mpr om;have h4:i6 n cs.length=true:=iu.mpr om;have h5:iq 0 1=true:=rfl;have e1:sliceB (n-1) (n-1) (some (n-1)) (some n) none=none:=by simp only[sliceB,jr,Option.getD_none,h1,h2,Bool.and_false,Bool.false_and,cond_false]
 have e2:n-(n-1)=1:=by omega
 simp only[sliceA',e1,je,cond_true,Option.none_or,sliceW,g,jr,jt,jp,h3,h4,h5,ip,e2]
theorem sm{L D:List AV}{i:Nat}(hi:i<L.length):∃c,putAt (L++D) i (((L++D).drop (i+1)).take (L.length-(i+1)))=L.eraseIdx i++c::D:=by
 have h1:((L++D).drop (i+1)).take (L.length-(i+1))=L.drop (i+1):=by
  rw[Cd om,Br (by rw[At];omega),jl (by rw[At];omega)]
 have h2:(L++D).take i=L.take i:=Br om;have h3:∃c,(L++D).drop (i+(L.drop (i+1)).length)=c::D:=by
  have e:i+(L.drop (i+1)).length=L.length-1:=by rw[At];omega
  rw[e,Cd om];have:(L.drop (L.length-1)).length=1:=by rw[At];omega
  obtain⟨c,hc⟩:=List.length_eq_one_iff.1 this;exact⟨c,by rw[hc];rfl⟩
 obtain⟨c,hc⟩:=h3;refine⟨c,?_⟩;simp only[putAt];rw[h1,h2,hc,List.eraseIdx_eq_take_drop_succ]
theorem m8{h:AH}{lo i:Nat}{v:AV}{cs:List AV}(hr:RowP h lo v cs)(hi:i<cs.length)(hN:cs.length<2^28):∃v' h',RunCall E1 (.f 25) [v,vI (i:Nat),vI ((i+1:Nat):Int)] h v' h'∧RowP h' lo v' (cs.eraseIdx i)∧AM.ids v'=AM.ids v∧h'.next=h.next∧(∀x,x<h.next→x∉AM.ids v→h'.get x=h.get x):=by
 obtain⟨v',h',hrun,hP⟩:=d6 (g:=25) (l:=[v,vI (i:Nat),vI ((i+1:Nat):Int)]) (h:=h) (fun v' h'=>RowP h' lo v' (cs.eraseIdx i)∧AM.ids v'=AM.ids v∧h'.next=h.next∧(∀x,x<h.next→x∉AM.ids v→h'.get x=h.get x)) kr Mw fun s hs hh hd hrd=>by
  have h0:=hs 0 _ rfl;have h1:=hs 1 _ rfl;have h2:=hs 2 _ rfl;obtain⟨hlf,⟨rfl,_⟩|⟨b,D,b1,b2,rfl,b4,b5⟩⟩:=id hr
  ·simp at hi
  obtain⟨w,hw⟩:=slice_mid (b:=b) hi;have ne:decide (((i:Nat):Int)=((i+1:Nat):Int))=false:=decide_eq_false om;have hln:lenV (.own b 0 cs.length 1 none)=some (vI (cs.length:Nat)):=rfl;simp-implicitDefEqProofs only[Db,f25,V,↓reduceIte,rA,reduceCtorEq,h0,h1,h2,hh,hln,hw,ne];have nb:niceT h (some (.own b 0 cs.length 1 none))=true:=by
   have q:iq b h.next=true:=j8.mpr b2;simp only[niceT,niceV,AM.ids,j4,j5,q,b5,bV (show∀c∈cs++D,Leaf c from fun c hc=>(jc.1 hc).elim (hlf c) (b4 c))];rfl
  have nvi:∀v,AM.ids (AV.val v)=[]:=fun _=>rfl;have s1:=lD (B:=b) (n:=cs.length) (i:=i) om;have s2:=lF (B:=b) (n:=cs.length) (i:=i+1) om om;refine bT (ops:=mP) (pre:=mP.take 6++[⟨⟨some 26,none,.append 1 24 (.t 22) (.t 25)⟩,[22,25],[]⟩]) (d:=⟨⟨some 0,none,.mv (.t 26)⟩,[26],[]⟩) rfl ?_
  refine cN (mP.take 6) [] _ rfl (fun x hx=>by cases hx) ?_
  simp-implicitDefEqProofs only[mP,jm,jv,wpDr,bZ,j4,j5,V,↓reduceIte,rA,reduceCtorEq,h0,h1,h2,hh,nb,s1,s2,aM (nvi _),ip];intro _ done' hd' hq';have hll:(cs++D).length=cs.length+D.length:=io;refine Oa (bytes:=24) (b:=b) (k:=i) (j:=i+1) (m:=cs.length-(i+1)) (cs:=cs++D) ?_ ?_ ?_ ?_ (fun c hc=>(jc.1 hc).elim (hlf c) (b4 c)) om om om (aS om de) fun rec h1' n1 g1 o1=>bO ?_
  ·exact U36
  ·exact U36
  ·simp-implicitDefEqProofs only[V,hh];exact b2
  ·simp-implicitDefEqProofs only[V,hh];exact b5
  simp-implicitDefEqProofs only[V] at n1 o1;rw[hh] at n1 o1;obtain⟨c,hc⟩:=sm (D:=D) hi;rw[hc] at g1;have hlen1:(cs.eraseIdx i).length=cs.length-1:=by rw[List.length_eraseIdx,if_pos hi]
  have hil:i+(cs.length-(i+1))=cs.length-1:=by omega
  have hln1:lenV (.own b 0 (cs.length-1) 1 none)=some (vI ((cs.length-1:Nat):Int)):=rfl;have hlc:(cs.eraseIdx i++c::D).length=cs.length+D.length:=by rw[io,im,hlen1];omega
  have s3:=tS (h:=h1') (b:=b) (n:=cs.length) om g1 om;simp-implicitDefEqProofs only[V,↓reduceIte,rA,reduceCtorEq,hil,hln1,s3];refine ot (cap:=none) (b:=b) (off:=cs.length-1) (n:=1) (cs:=cs.eraseIdx i++c::D) ?_ de ?_ rfl om ?_
  ·exact U36
  ·simp-implicitDefEqProofs only[V,g1]
  simp-implicitDefEqProofs only[V,↓reduceIte,reduceCtorEq,hd];have hput:putAt (cs.eraseIdx i++c::D) (cs.length-1) (jz 1 [AV.val (.slice none 0 0)]).flatten=cs.eraseIdx i++(AV.val (.slice none 0 0)::D):=by
   have e1:(jz 1 [AV.val (.slice none 0 0)]).flatten=[AV.val (.slice none 0 0)]:=rfl;simp only[putAt,e1,im,jf,jp];rw[Br om,jl om,List.drop_append,List.drop_eq_nil_of_le om,iz];have e2:cs.length-1+1-(cs.eraseIdx i).length=1:=by rw[hlen1];omega
   rw[e2];simp
  refine⟨_,rfl,⟨fun x hx=>hlf x (Cn hx),.inr ⟨b,AV.val (.slice none 0 0)::D,b1,?_,?_,?_,?_⟩⟩,rfl,n1,fun x hx hxb=>?_⟩
  ·show b<h1'.next;omega
  ·rw[hlen1];rfl
  ·intro x hx;rcases i8.1 hx with rfl|hx
   ·exact Leaf.val _
   ·exact b4 x hx
  ·rw[bL,hput]
  ·have hxb:x≠b:=fun e=>hxb (by rw[e];simp[AM.ids])
   rw[if_neg hxb,o1 x hx hxb]
 exact⟨v',h',hrun,hP⟩
def gA(g:List ByteArray):List AV:=[nmV g]
theorem uF(g:List ByteArray):(gA g).length=1:=rfl
theorem gY(l:List (List ByteArray)):(l.flatMap gA).length=l.length:=by rw[bG uF,jt]
theorem vr{l r:List (List ByteArray)}{g:List ByteArray}{i:Nat}(h:l.drop i=g::r):(l.flatMap gA).drop i=nmV g::r.flatMap gA:=by
 have:=cI uF l i;rw[jt] at this;rw[this,h];rfl
theorem rY:∀(l:List (List ByteArray)) (i:Nat),(l.flatMap gA).eraseIdx i=(l.eraseIdx i).flatMap gA
 | [],i=>rfl
 |g::l,0=>rfl
 |g::l,i+1=>by
  show nmV g::(l.flatMap gA).eraseIdx i=_;rw[rY l i];rfl
noncomputable def hdG (m:Md) (d:Df):ByteArray:=(grp m d.nm).headD ⟨#[]⟩
noncomputable def opn (m:Md):Nat→List Df→List (List ByteArray)
 |_,[]=>[]
 |i,d::r=>bif decide (idxI (hdG m d) m.ds.l=((i:Nat):Int)) then grp m d.nm::opn m (i+1) r else opn m (i+1) r
theorem pF{m:Md}:∀(l:List Df) (i:Nat),(opn m i l).length≤l.length
 | [],_=>i7 _
 |d::r,i=>by
  have:=pF (m:=m) r (i+1);rw[opn];cases decide (idxI (hdG m d) m.ds.l=((i:Nat):Int))
  ·rw[cond_false,im];omega
  ·rw[cond_true,im,im];omega
noncomputable def wt (m:Md) (g:List ByteArray) (i:Nat):Nat→List (List ByteArray)→Bool
 |_,[]=>false
 |k,x::r=>(!decide (k=i)&&(rchB m g x&& !rchB m x g))||wt m g i (k+1) r
noncomputable def pickG (m:Md) (gs:List (List ByteArray)):Nat→List (List ByteArray)→Option (Nat×List ByteArray)
 |_,[]=>none
 |i,g::r=>bif wt m g i 0 gs then pickG m gs (i+1) r else some (i,g)
theorem qt{m:Md}{gs:List (List ByteArray)}:∀{l:List (List ByteArray)} {i j:Nat} {g:List ByteArray},pickG m gs i l=some (j,g)→i≤j∧j<i+l.length
 | [],i,j,g,h=>by simp[pickG] at h
 |x::l,i,j,g,h=>by
  rw[pickG] at h;cases q:wt m x i 0 gs with
  |true=>
   rw[q] at h;obtain⟨h1,h2⟩:=qt h;rw[im];omega
  |false=>
   rw[q] at h;simp only[cond_false,sI,pI] at h;rw[im];omega
noncomputable def runG (m:Md):Nat→List (List ByteArray)→List (List ByteArray)→List (List ByteArray)
 |0,_,out=>out
 |n+1,gs,out=>match pickG m gs 0 gs with
  |none=>out
  |some (i,g)=>runG m n (gs.eraseIdx i) (out++[g])
theorem qb{m:Md}:∀(n:Nat) (gs out:List (List ByteArray)),(runG m n gs out).length≤out.length+n
 |0,gs,out=>i7 _
 |n+1,gs,out=>by
  rw[runG];split
  ·omega
  ·rename_i i g _;have:=qb (m:=m) n (gs.eraseIdx i) (out++[g]);rw[io,List.length_singleton] at this;omega
noncomputable def grps (m:Md):List (List ByteArray):=runG m (opn m 0 m.ds.l).length (opn m 0 m.ds.l) []
def gsV(gs:List (List ByteArray)):AV:=(⟨gs,nilK,none⟩:Vl (List ByteArray)).A gA
theorem l4{m:Md}{d:Df}(h:d∈m.ds.l):∃a t,grp m d.nm=a::t:=by
 have:d.nm∈grp m d.nm:=by
  rw[grp];have key:∀l:List Df,d∈l→d.nm∈grpD m d.nm l:=fun l=>by
   induction l with
   |nil=>exact fun h=>(by cases h)
   |cons a r ih=>
    intro h;rw[grpD];rcases i8.1 h with rfl|h
    ·rw[inG,bA,A2,cond_true];exact il
    ·cases inG m d.nm a
     ·exact ih h
     ·exact j0 _ (ih h)
  exact key _ h
 cases q:grp m d.nm with
 |nil=>rw[q] at this;cases this
 |cons a t=>exact⟨a,t,rfl⟩
theorem xS{m:Md}(hmn:m.ds.l.length<2^20){a:ByteArray}{t:List ByteArray}{i:Nat}{s:St}(h1:s.eval (.t 1)=some (.ptr 0 0))(h5:s.eval (.t 5)=some (vI (i:Nat)))(h7:s.eval (.t 7)=some (nmV (a::t)))(l0:0<s.h.next)(g0:s.h.get 0=some (.cells m.cells true)):
  Run E1 Im s fun e s'=>e=.normal∧s'.h=s.h∧s'.defers=s.defers∧s'.eval (.t 31)=some (vB (decide (idxI a m.ds.l=((i:Nat):Int))))∧∀j,j<25→s'.eval (.t j)=s.eval (.t j):=by
 have hc:∀h,RunCall E1 (.f 23) [.agg m.cells,vS a] h (vI (idxI a m.ds.l)) h:=fun h=>gR m a om h;have n0:niceT s.h (some (.ptr 0 0))=true:=bt l0 g0 (by rw[m.ids0];rfl)
 have nm:ids (.agg m.cells)=[]:=by show idsL m.cells=[];exact m.ids0
 have nv:ids (nmV (a::t))=[]:=Vl.ids;have vi:∀v,ids (AV.val v)=[]:=fun _=>rfl;have ix:idxAddrSV 1 (nmV (a::t)) 0=some (.iptr (strA a++t.flatMap strA)):=Vl.at (v:=⟨a::t,nilK,none⟩) aI rfl;refine eP (ops:=zb) rfl ?_
 simp-implicitDefEqProofs only[zb,wpDr,bZ,j4,j5,V,↓reduceIte,rA,h1,h5,h7,n0,g0,ix,bS,aM nm,ak nm,aM nv,aM (vi _),ak (vi _),an,ip];refine⟨_,hc,?_⟩;simp-implicitDefEqProofs only[V,↓reduceIte,aM (vi _)];intro j hj;have q:∀n,25≤n→(j=n)=False:=fun n hn=>by simp;omega
 simp-implicitDefEqProofs only[↓reduceIte,q 25 om,q 26 om,q 27 om,q 28 om,q 29 om,q 30 om,q 31 om]
theorem mC{m:Md}(hmn:m.ds.l.length<2^20)(kd:KAll m):∀(r:List Df) (i:Nat) (s:St) (acc:List (List ByteArray)) (v:AV),m.ds.l.drop i=r→i≤m.ds.l.length→acc.length+r.length<2^22→RowC s.h 1 acc.length 1 v (acc.flatMap gA)→1≤s.h.next→s.h.get 0=some (.cells m.cells true)→s.eval (.t 1)=some (.ptr 0 0)→s.eval (.t 3)=some v→s.eval (.t 4)=some (.val (.slice none 0 0))→s.eval (.t 14)=some (m.ds.A Df.cells)→s.eval (.t 15)=some (vI (m.ds.l.length:Nat))→s.eval (.t 16)=some (vI (i:Nat))→s.defers=[]→
  Run E1 vy s fun e s'=>e=.exit 0∧s'.defers=[]∧1≤s'.h.next∧s'.h.get 0=some (.cells m.cells true)∧s'.eval (.t 1)=some (.ptr 0 0)∧s'.eval (.t 4)=some (.val (.slice none 0 0))∧∃v',s'.eval (.t 3)=some v'∧RowC s'.h 1 (acc++opn m i r).length 1 v' ((acc++opn m i r).flatMap gA)
 | [],i,s,acc,v,hd,hi,hA,hr,l1,g0,h1,h3,h4,h14,h15,h16,hf=>by
  have hl:=aK hd hi;subst hl;apply aC (rfl:vy=.loop sE);simp-implicitDefEqProofs only[sE,V,↓reduceIte,rA,h1,h3,h4,h15,h16,hf,ba,opn,j6];exact⟨l1,g0,v,rfl,hr⟩
 |d::r,i,s,acc,v,hd,hi,hA,hr,l1,g0,h1,h3,h4,h14,h15,h16,hf=>by
  have hl:=aL hd;have hlt:=bY hl;have w1:IntKind.i64.wrap ((i:Int)+1)=((i+1:Nat):Int):=aE (n:=i+1) om;have hdm:d∈m.ds.l:=A4 (by rw[hd];exact il)
  have hcg:=pS hmn (kd d hdm) kd;have c0:(0=s.h.next)=False:=by simp;omega
  rw[im] at hA;obtain⟨a,t,hgr⟩:=l4 hdm;have hh:hdG m d=a:=by rw[hdG,hgr];rfl
  have hr1:RowC ((s.h.alloc (.cells zDf true)).put s.h.next (some (.cells d.cells true))) 1 acc.length 1 v (acc.flatMap gA):=hr.to (jw _) fun y y1 y2=>by rw[aP om,aB y2]
  have g01:((s.h.alloc (.cells zDf true)).put s.h.next (some (.cells d.cells true))).get 0=some (.cells m.cells true):=by rw[aP om,aB om,g0]
  apply aC (rfl:vy=.loop sE);simp-implicitDefEqProofs only[sE,V,↓reduceIte,rA,WF,h1,h14,h15,h16,hlt,m.ds.at Df.len hd,be,da,c0,g0,aG hcg];refine(xS hmn (a:=a) (t:=t) (i:=i) ?_ ?_ ?_ ?_ ?_).mono ?_
  all_goals try simp-implicitDefEqProofs only[V,↓reduceIte,rA,h1,hgr]
  ·omega
  ·rw[if_neg om,if_neg om,g0]
  rintro e s1 ⟨rfl,eh,d1,t31,k1⟩;simp-implicitDefEqProofs only[hf] at eh d1;have u1:s1.eval (.t 1)=some (.ptr 0 0):=by rw[k1 1 de];simp-implicitDefEqProofs only[↓reduceIte,rA,h1]
  have u3:s1.eval (.t 3)=some v:=by rw[k1 3 de];simp-implicitDefEqProofs only[↓reduceIte,rA,h3]
  have u4:s1.eval (.t 4)=some (.val (.slice none 0 0)):=by rw[k1 4 de];simp-implicitDefEqProofs only[↓reduceIte,rA,h4]
  have u7:s1.eval (.t 7)=some (nmV (grp m d.nm)):=by rw[k1 7 de];simp-implicitDefEqProofs only[↓reduceIte,hgr]
  have u14:s1.eval (.t 14)=some (m.ds.A Df.cells):=by rw[k1 14 de];simp-implicitDefEqProofs only[↓reduceIte,rA,h14]
  have u15:s1.eval (.t 15)=some (vI (m.ds.l.length:Nat)):=by rw[k1 15 de];simp-implicitDefEqProofs only[↓reduceIte,rA,h15]
  have u16:s1.eval (.t 16)=some (vI (i:Nat)):=by rw[k1 16 de];simp-implicitDefEqProofs only[↓reduceIte,rA,h16]
  have hr2:RowC s1.h 1 acc.length 1 v (acc.flatMap gA):=by rw[eh];exact hr1
  have g02:s1.h.get 0=some (.cells m.cells true):=by rw[eh];exact g01
  have n2:s1.h.next=s.h.next+1:=by rw[eh];rfl
  rw[opn,hh];have cn:(nmV (grp m d.nm)).cells=some [nmV (grp m d.nm)]:=El;cases q:decide (idxI a m.ds.l=((i:Nat):Int)) with
  |false=>
   rw[q] at t31;simp-implicitDefEqProofs only[V,↓reduceIte,t31,u16,w1];refine mC hmn kd r (i+1) _ acc v (aH hd) om om ?_ ?_ ?_ ?_ ?_ ?_ ?_ ?_ ?_ ?_
   all_goals try simp-implicitDefEqProofs only[V,↓reduceIte,rA,u1,u3,u4,u14,u15,d1]
   ·exact hr2
   ·omega
   ·exact g02
  |true=>
   rw[q] at t31;simp-implicitDefEqProofs only[V,↓reduceIte,rA,WF,t31,u3,u7,cn];refine cO (k:=acc.length) (m:=1) (lo:=1) (v:=v) (x:=.own s1.h.next 0 1 1 (some 1)) (cs:=acc.flatMap gA) (new:=[nmV (grp m d.nm)]) ?_ ?_ ?_ rfl ?_ (aS (bytes:=24) om de) ?_ ?_ ?_
   ·exact U73
   ·exact U34
   ·refine aq (rw':=true) ?_ rfl;exact U36
   ·exact fun c hc=>by rw[ig.1 hc];exact Vl.leaf
   ·exact U36
   ·exact U36
   intro v1 h1' r1 m1 o1;simp-implicitDefEqProofs only[V] at m1 o1 r1;simp-implicitDefEqProofs only[V,↓reduceIte,rA,u16,w1];have hb:(acc++[grp m d.nm]).length=acc.length+1:=by rw[io];rfl
   rw[show acc++grp m d.nm::opn m (i+1) r=(acc++[grp m d.nm])++opn m (i+1) r by rw[jh];rfl]
   refine mC hmn kd r (i+1) _ (acc++[grp m d.nm]) v1 (aH hd) om om ?_ ?_ ?_ ?_ ?_ ?_ ?_ ?_ ?_ ?_
   all_goals try simp-implicitDefEqProofs only[V,↓reduceIte,rA,u1,u4,u14,u15,d1]
   ·exact U64
   ·omega
   ·rw[o1 0 om (fun q=>by have:=(hr2.ids 0 q).1;omega),if_neg om,g02]
def GOk(m:Md)(g:List ByteArray):Prop:=g.length<2^60∧∀z∈g,kn m z=true
theorem yN{m:Md}(hm:MdT m)(hK:KM m){a b:List ByteArray}(ha:GOk m a)(hb:GOk m b)(h:AH):RunCall E1 (.f 24) [.agg m.cells,nmV a,nmV b] h (vB (rchB m a b)) h:=
 lO hm hK ⟨a,nilK,none⟩ ⟨b,nilK,none⟩ ha.1 hb.1 ha.2 h
theorem Qq:i5 3 5=false:=rfl
theorem Qr:i5 3 4=false:=rfl
theorem Qv:i5 2 4=false:=rfl
theorem Qp:i5 4 3=false:=rfl
def WC:=i4 Qq (i4 Qr (i4 Qv Qp))
def L2P(s:St)(b:Bool)(e:AM.Ex)(s':St):Prop:=e=.exit 6∧s'.defers=[]∧s'.h=s.h∧s'.eval (.t 10)=some (vB b)∧s'.eval (.t 1)=s.eval (.t 1)∧s'.eval (.t 3)=s.eval (.t 3)∧s'.eval (.t 4)=s.eval (.t 4)∧s'.eval (.t 8)=s.eval (.t 8)∧s'.eval (.t 9)=s.eval (.t 9)∧s'.eval (.t 40)=s.eval (.t 40)∧s'.eval (.t 41)=s.eval (.t 41)∧s'.eval (.t 42)=s.eval (.t 42)
theorem sA{m:Md}(hm:MdT m)(hK:KM m){g:List ByteArray}{i:Nat}{gs:List (List ByteArray)}(hg:GOk m g)(hgs:∀x∈gs,GOk m x)(hN:gs.length<2^28)(hi:i<2^28){v:AV}:∀(r:List (List ByteArray)) (k:Nat) (s:St) (w:Bool),gs.drop k=r→k≤gs.length→RowP s.h 1 v (gs.flatMap gA)→0<s.h.next→s.h.get 0=some (.cells m.cells true)→s.eval (.t 1)=some (.ptr 0 0)→s.eval (.t 8)=some (vI (i:Nat))→s.eval (.t 9)=some (nmV g)→s.eval (.t 10)=some (vB w)→s.eval (.t 47)=some v→s.eval (.t 48)=some (vI (gs.length:Nat))→s.eval (.t 49)=some (vI (k:Nat))→s.defers=[]→
  Run E1 sB s (L2P s (w||wt m g i k r))
 | [],k,s,w,hd,hk,hr,l0,g0,h1,h8,h9,h10,h47,h48,h49,hf=>by
  have hl:=aK hd hk;subst hl;apply aC (rfl:sB=.loop kK);simp-implicitDefEqProofs only[kK,V,↓reduceIte,h48,h49,ba,wt];unfold L2P;simp-implicitDefEqProofs only[V,↓reduceIte,rA,h10,hf]
 |x::r,k,s,w,hd,hk,hr,l0,g0,h1,h8,h9,h10,h47,h48,h49,hf=>by
  have hl:=aL hd;have hlt:=bY hl;have w1:IntKind.i64.wrap ((k:Int)+1)=((k+1:Nat):Int):=aE (n:=k+1) om;have hx:GOk m x:=hgs x (A4 (by rw[hd];exact il))
  have c1:=yN hm hK hg hx;have c2:=yN hm hK hx hg;obtain⟨b,t',x1,x2⟩:=hr.at (vr hd);have go:∀(s1:St) (w':Bool),s1.h=s.h→s1.eval (.t 1)=s.eval (.t 1)→s1.eval (.t 3)=s.eval (.t 3)→s1.eval (.t 4)=s.eval (.t 4)→s1.eval (.t 8)=s.eval (.t 8)→s1.eval (.t 9)=s.eval (.t 9)→s1.eval (.t 40)=s.eval (.t 40)→s1.eval (.t 41)=s.eval (.t 41)→s1.eval (.t 42)=s.eval (.t 42)→s1.eval (.t 10)=some (vB w')→s1.eval (.t 47)=some v→s1.eval (.t 48)=some (vI (gs.length:Nat))→s1.eval (.t 49)=some (vI ((k+1:Nat):Int))→s1.defers=[]→(w'||wt m g i (k+1) r)=(w||wt m g i k (x::r))→
    Run E1 sB s1 (L2P s (w||wt m g i k (x::r))):=
   fun s1 w' eh e1 e3 e4 e8 e9 e40 e41 e42 e10 e47 e48 e49 d1 ew=>(sA hm hK hg hgs hN hi r (k+1) s1 w' (aH hd) om (by rw[eh];exact hr) (by rw[eh];exact l0) (by rw[eh];exact g0) (by rw[e1,h1]) (by rw[e8,h8]) (by rw[e9,h9]) e10 e47 e48 e49 d1).mono fun e s2 ⟨q1,q2,q3,q4,q5,q6,q7,q8,q9,q10,q11,q12⟩=>
    ⟨q1,q2,by rw[q3,eh],by rw[q4,ew],by rw[q5,e1],by rw[q6,e3],by rw[q7,e4],by rw[q8,e8],by rw[q9,e9],by rw[q10,e40],by rw[q11,e41],by rw[q12,e42]⟩
  apply aC (rfl:sB=.loop kK);cases w with
  |true=>
   have ett:(true||wt m g i k (x::r))=true:=rfl;simp-implicitDefEqProofs only[kK,V,↓reduceIte,rA,h10,h47,h48,h49,hlt,x1,x2,w1];refine go _ true ?_ ?_ ?_ ?_ ?_ ?_ ?_ ?_ ?_ ?_ ?_ ?_ ?_ ?_ rfl
   all_goals simp-implicitDefEqProofs only[V,↓reduceIte,rA,h1,h8,h9,h47,h48,hf]
  |false=>
   cases qk:decide (((k:Nat):Int)=((i:Nat):Int)) with
   |true=>
    have hki:decide (k=i)=true:=decide_eq_true (by have:=of_decide_eq_true qk;omega)
    simp-implicitDefEqProofs only[kK,V,↓reduceIte,rA,h8,h10,h47,h48,h49,hlt,x1,x2,w1,qk];refine go _ false ?_ ?_ ?_ ?_ ?_ ?_ ?_ ?_ ?_ ?_ ?_ ?_ ?_ ?_ (by rw[wt,hki];simp)
    all_goals simp-implicitDefEqProofs only[V,↓reduceIte,rA,h1,h8,h9,h47,h48,hf]
   |false=>
    have hki:decide (k=i)=false:=decide_eq_false (by have:=of_decide_eq_false qk;omega)
    cases q1:rchB m g x with
    |false=>
     simp-implicitDefEqProofs only[kK,V,↓reduceIte,rA,h1,h8,h9,h10,h47,h48,h49,hlt,x1,x2,w1,qk,g0,aG c1,q1];refine go _ false ?_ ?_ ?_ ?_ ?_ ?_ ?_ ?_ ?_ ?_ ?_ ?_ ?_ ?_ (by rw[wt,hki,q1];simp)
     all_goals simp-implicitDefEqProofs only[V,↓reduceIte,rA,h1,h8,h9,h47,h48,hf]
    |true=>
     simp-implicitDefEqProofs only[kK,V,↓reduceIte,rA,h1,h8,h9,h10,h47,h48,h49,hlt,x1,x2,w1,qk,g0,aG c1,q1,aG c2];refine go _ (!rchB m x g) ?_ ?_ ?_ ?_ ?_ ?_ ?_ ?_ ?_ ?_ ?_ ?_ ?_ ?_ (by rw[wt,hki,q1];simp)
     all_goals simp-implicitDefEqProofs only[V,↓reduceIte,rA,h1,h8,h9,h47,h48,hf]
structure TwoR (h:AH) (m:Md) (v u:AV) (gs out:List (List ByteArray)):Prop where
 g:h.get 0=some (.cells m.cells true)
 n:0<h.next
 p:RowP h 1 v (gs.flatMap gA)
 c:RowC h 1 out.length 1 u (out.flatMap gA)
 d:∀x∈ids v,x∉ids u
theorem rp{m:Md}(hm:MdT m)(hK:KM m){gs out:List (List ByteArray)}(hgs:∀x∈gs,GOk m x)(hN:gs.length<2^26)(hO:out.length<2^26){v u:AV}:∀(r:List (List ByteArray)) (i:Nat) (s:St),gs.drop i=r→i≤gs.length→TwoR s.h m v u gs out→s.eval (.t 1)=some (.ptr 0 0)→s.eval (.t 3)=some v→s.eval (.t 4)=some u→s.eval (.t 40)=some v→s.eval (.t 41)=some (vI (gs.length:Nat))→s.eval (.t 42)=some (vI (i:Nat))→s.defers=[]→
  Run E1 vx s fun e s'=>s'.defers=[]∧s'.eval (.t 1)=some (.ptr 0 0)∧((pickG m gs i r=none∧e=.exit 4∧s'.h=s.h∧s'.eval (.t 4)=some u)∨∃j g v' u',pickG m gs i r=some (j,g)∧e=.exit 3∧s'.eval (.t 3)=some v'∧s'.eval (.t 4)=some u'∧TwoR s'.h m v' u' (gs.eraseIdx j) (out++[g]))
 | [],i,s,hd,hi,hT,h1,h3,h4,h40,h41,h42,hf=>by
  have hl:=aK hd hi;subst hl;apply aC (rfl:vx=.loop sD);simp-implicitDefEqProofs only[sD,V,↓reduceIte,rA,reduceCtorEq,h1,h3,h4,h41,h42,hf,ba,pickG]
 |g::r,i,s,hd,hi,hT,h1,h3,h4,h40,h41,h42,hf=>by
  have hl:=aL hd;have hlt:=bY hl;have w1:IntKind.i64.wrap ((i:Int)+1)=((i+1:Nat):Int):=aE (n:=i+1) om;have hg:GOk m g:=hgs g (A4 (by rw[hd];exact il))
  obtain⟨b,t',x1,x2⟩:=hT.p.at (vr hd);have hlen:=hT.p.len;rw[gY] at hlen;apply aC (rfl:vx=.loop sD);simp-implicitDefEqProofs only[sD,V,↓reduceIte,rA,h3,h40,h41,h42,hlt,x1,x2,hlen];refine(sA hm hK (g:=g) (i:=i) hg hgs om om (v:=v) gs 0 _ false rfl (ir _) ?_ ?_ ?_ ?_ ?_ ?_ ?_ ?_ ?_ ?_ ?_).mono ?_
  all_goals try simp-implicitDefEqProofs only[V,↓reduceIte,rA,h1,hf]
  ·exact hT.p
  ·exact hT.n
  ·exact hT.g
  ·rfl
  rintro e s1 ⟨rfl,d1,eh,t10,e1,e3,e4,e8,e9,e40,e41,e42⟩;simp-implicitDefEqProofs only[V,↓reduceIte,rA,h1,h3,h4,h40,h41,h42] at eh e1 e3 e4 e8 e9 e40 e41 e42;rw[pickG];cases q:wt m g i 0 gs with
  |true=>
   rw[q] at t10;simp-implicitDefEqProofs only[V,↓reduceIte,rA,WF,t10,e42,w1];refine(rp hm hK hgs hN hO (v:=v) (u:=u) r (i+1) _ (aH hd) om ?_ ?_ ?_ ?_ ?_ ?_ ?_ ?_).mono ?_
   all_goals try simp-implicitDefEqProofs only[V,↓reduceIte,rA,e1,e3,e4,e40,e41,d1]
   ·rw[eh];exact hT
   rintro e s2 ⟨d2,u1,H⟩;simp-implicitDefEqProofs only[eh] at H;exact⟨d2,u1,H⟩
  |false=>
   rw[q] at t10;have cn:(nmV g).cells=some [nmV g]:=El;simp-implicitDefEqProofs only[V,↓reduceIte,rA,reduceCtorEq,WF,t10,e4,e9,cn];have hC:RowC s1.h 1 out.length 1 u (out.flatMap gA):=by rw[eh];exact hT.c
   have hP:RowP s1.h 1 v (gs.flatMap gA):=by rw[eh];exact hT.p
   have n1:s1.h.next=s.h.next:=by rw[eh]
   have hn0:=hT.n;refine qM (k:=out.length) (m:=1) (lo:=1) (v:=u) (x:=.own s1.h.next 0 1 1 (some 1)) (cs:=out.flatMap gA) (new:=[nmV g]) ?_ ?_ ?_ de rfl ?_ (aS (bytes:=24) om de) ?_ ?_ ?_
   ·simp-implicitDefEqProofs only[V];exact hC.to (jw _) fun y _ y2=>aB y2
   ·exact U34
   ·refine aq (rw':=true) ?_ rfl;exact U36
   ·exact fun c hc=>by rw[ig.1 hc];exact Vl.leaf
   ·exact U36
   ·exact U36
   intro h2 r2 m2 o2 _;simp-implicitDefEqProofs only[V] at m2 o2 r2;have m2:s1.h.next+1≤h2.next:=m2;have o2':∀y,y<s1.h.next→y∉ids u→h2.get y=s1.h.get y:=fun y hy hu=>by rw[o2 y om hu,if_neg om]
   have hP2:RowP h2 1 v (gs.flatMap gA):=hP.to om fun x hx=>o2' x (hP.ids x hx).2 (hT.d x hx);obtain⟨v',h3',hc3,hP3,eids,n3,o3⟩:=m8 (i:=i) hP2 (by rw[gY];exact hl) (by rw[gY];omega)
   simp-implicitDefEqProofs only[V,↓reduceIte,rA,e3,e8,w1];refine aW (by simp-implicitDefEqProofs only[V];exact hc3) ?_
   simp-implicitDefEqProofs only[V,↓reduceIte,rA,WC,d1,e1];refine .inr ⟨i,g,v',_,rfl,rfl,rfl,?_⟩;have hvu:∀x∈ids v,x≠s1.h.next+1:=fun x hx=>by have:=(hP.ids x hx).2;omega
   refine⟨?_,om,by rw[←rY];exact hP3,?_,fun x hx=>?_⟩
   ·have h0u:0∉ids u:=fun q=>by have:=(hC.ids 0 q).1;omega
    have h0v:0∉ids v:=fun q=>by have:=(hP.ids 0 q).1;omega
    rw[o3 0 om h0v,o2' 0 om h0u,eh];exact hT.g
   ·rw[io,List.flatMap_append];refine r2.toB om fun x hx=>o3 x ?_ ?_
    ·have:=(r2.ids x hx).2.1;exact this
    ·intro q;simp only[ids,ig] at hx;have:=hvu x q;rw[hx] at this;exact this rfl
   ·rw[eids] at hx;simp only[ids,ig];exact hvu x hx
theorem zc{m:Md}(hm:MdT m)(hK:KM m):∀(n:Nat) (gs out:List (List ByteArray)) (v u:AV) (s:St),gs.length=n→(∀x∈gs,GOk m x)→out.length+gs.length<2^26→TwoR s.h m v u gs out→s.eval (.t 1)=some (.ptr 0 0)→s.eval (.t 3)=some v→s.eval (.t 4)=some u→s.defers=[]→
  Run E1 vw s fun e s'=>e=.exit 2∧s'.defers=[]∧∃u',s'.eval (.t 4)=some u'∧RowC s'.h 1 (runG m n gs out).length 1 u' ((runG m n gs out).flatMap gA):=by
 intro n
 induction n with
 |zero=>
  intro gs out v u s hn hgs hN hT h1 h3 h4 hf;have:gs=[]:=Ai hn;subst this;have hlen:=hT.p.len;rw[gY] at hlen;have z0:decide (((0:Nat):Int)>0)=false:=rfl;apply aC (rfl:vw=.loop sC);simp-implicitDefEqProofs only[sC,V,↓reduceIte,rA,h3,h4,hf,hlen,jf,z0];exact⟨u,rfl,hT.c⟩
 |succ n ih=>
  intro gs out v u s hn hgs hN hT h1 h3 h4 hf;have hlen:=hT.p.len;rw[gY] at hlen;have z1:decide ((gs.length:Int)>0)=true:=decide_eq_true om;apply aC (rfl:vw=.loop sC);simp-implicitDefEqProofs only[sC,V,↓reduceIte,rA,h3,hlen,z1];refine(rp hm hK (out:=out) hgs om om (v:=v) (u:=u) gs 0 _ rfl (ir _) ?_ ?_ ?_ ?_ ?_ ?_ ?_ ?_).mono ?_
  all_goals try simp-implicitDefEqProofs only[V,↓reduceIte,rA,h1,h3,h4,hf]
  ·exact hT
  ·rfl
  rintro e s1 ⟨d1,u1,⟨q,rfl,eh,t4⟩|⟨j,g,v',u',q,rfl,t3,t4,hT'⟩⟩
  ·try simp-implicitDefEqProofs only[V,↓reduceIte,rA,rB,rC,reduceCtorEq,rD,rE,rF] at eh
   simp-implicitDefEqProofs only[V,WF,d1,t4];refine⟨u,rfl,?_⟩;rw[runG,q,eh];exact hT.c
  ·simp-implicitDefEqProofs only[V,WF,WC];have hj:=qt q;have hle:(gs.eraseIdx j).length=n:=by rw[List.length_eraseIdx,if_pos om];omega
   have:=ih (gs.eraseIdx j) (out++[g]) v' u' s1 hle (fun x hx=>hgs x (Cn hx)) (by rw[io,hle];show out.length+1+n<_;omega) hT' u1 t3 t4 d1
   rw[runG,q];exact this
theorem yX{m:Md}(hmn:m.ds.l.length<2^20)(kd:∀d∈m.ds.l,kn m d.nm=true):∀(l:List Df) (i:Nat),(∀d∈l,d∈m.ds.l)→∀x∈opn m i l,GOk m x
 | [],i,h,x,hx=>by cases hx
 |d::r,i,h,x,hx=>by
  rw[opn] at hx;have ih:=yX hmn kd r (i+1) (fun y hy=>h y (j0 _ hy)) x;cases q:decide (idxI (hdG m d) m.ds.l=((i:Nat):Int)) with
  |false=>rw[q] at hx;exact ih hx
  |true=>
   rw[q] at hx;rcases i8.1 hx with rfl|hx
   ·have hl:=rX (m:=m) (x:=d.nm) m.ds.l;refine⟨by rw[grp];omega,?_⟩
    have key:∀l:List Df,(∀d∈l,d∈m.ds.l)→∀z∈grpD m d.nm l,kn m z=true:=fun l=>by
     induction l with
     |nil=>exact fun _ z hz=>by cases hz
     |cons a r ih=>
      intro ha z hz;rw[grpD] at hz;have ih:=ih (fun y hy=>ha y (j0 _ hy)) z;cases q:inG m d.nm a with
      |false=>rw[q] at hz;exact ih hz
      |true=>
       rw[q] at hz;rcases i8.1 hz with rfl|hz
       ·exact kd a (ha a il)
       ·exact ih hz
    exact key m.ds.l fun y hy=>hy
   ·exact ih hx
theorem vm{m:Md}{d:Df}(h:d∈m.ds.l):kn m d.nm=true:=by
 rw[kn];have key:∀l:List Df,d∈l→(fndD d.nm l).isSome=true:=fun l=>by
  induction l with
  |nil=>exact fun h=>by cases h
  |cons a r ih=>
   intro h;rw[fndD];cases q:strEq a.nm d.nm with
   |true=>rfl
   |false=>
    rcases i8.1 h with rfl|h
    ·rw[bA] at q;cases q
    ·exact ih h
 exact key _ h
theorem pR{m:Md}(hm:MdT m)(hK:KM m)(kd:KAll m)(h:AH):RunCall E1 (.f 7) [.agg m.cells] h (gsV (grps m)) h:=by
 have hmn:=hm.n;refine jX kr Sf (iM (Tree.md m)) (fun s hs hh hd hr=>?_) h;have h0:=hs 0 _ rfl;simp-implicitDefEqProofs only[Il,f7,V,↓reduceIte,rA,h0,hh];refine(mC hmn kd m.ds.l 0 _ [] (.val (.slice none 0 0)) rfl (ir _) (by simp only[jf];omega) RowC.nil ?_ ?_ ?_ ?_ ?_ ?_ ?_ ?_ ?_).mono ?_
 all_goals try simp-implicitDefEqProofs only[V,↓reduceIte,rA,hd]
 ·exact i7 _
 ·rfl
 rintro e s1 ⟨rfl,d1,n1,g1,u1,u4,v,u3,r1⟩;rw[iz] at r1;have hol:=pF (m:=m) m.ds.l 0;simp-implicitDefEqProofs only[V,WF];refine(zc hm hK (opn m 0 m.ds.l).length (opn m 0 m.ds.l) [] v (.val (.slice none 0 0)) _ rfl (yX hmn (fun d hd=>vm hd) m.ds.l 0 fun d hd=>hd) (by simp only[jf];omega) ⟨g1,n1,RowP.of r1,RowC.nil,fun x _ q=>by cases q⟩ u1 u3 u4 d1).mono ?_
 rintro e s2 ⟨rfl,d2,u',t4,r2⟩;simp-implicitDefEqProofs only[V,↓reduceIte,reduceCtorEq,WF,t4,d2];refine⟨u',rfl,1,de,?_⟩;have r2:RowC s2.h 1 (grps m).length 1 u' ((grps m).flatMap gA):=r2;have:=(r2.low (ir 1)).rep;rw[show(bif i5 (grps m).length 0 then AV.val (.slice none 0 0) else .imm ((grps m).flatMap gA) (grps m).length none)=rowT (grps m).length ((grps m).flatMap gA) from rfl,kV rfl] at this;exact this
end Go.Proofs.YtkmoeaplhnabcaaGreatDoor
