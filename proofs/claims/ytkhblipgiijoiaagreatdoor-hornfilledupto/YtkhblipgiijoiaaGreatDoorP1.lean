/- A part of the proof about filled horn systems: ZPlaw. -/
import Derived.Test.YtkhblipgiijoiaaGreatDoorU0
import Derived.Test.YtkhblipgiijoiaaGreatDoorR8

set_option linter.all false
open Option.some renaming injEq → sI
namespace Go.Proofs.YtkhblipgiijoiaaGreatDoor
open Go Go.AM
set_option maxHeartbeats 1000000
theorem je(p:Pr):chk Na p=0↔Na p=0∧chkL Na p.ks=0:=by
 obtain⟨o,s,n,ks,a,b⟩:=p
 simp only[chk]
 constructor
 ·intro h
  split at h
  ·rename_i q
   exact⟨q,h⟩
  ·rename_i q
   exact absurd h q
 ·rintro⟨h1,h2⟩
  rw[if_pos h1]
  exact h2
theorem eV(k:Pr)(r:List Pr):chkL Na (k::r)=0↔chk Na k=0∧chkL Na r=0:=by
 simp only[chkL]
 constructor
 ·intro h
  split at h
  ·rename_i q
   exact⟨q,h⟩
  ·rename_i q
   exact absurd h q
 ·rintro⟨h1,h2⟩
  rw[if_pos h1]
  exact h2
theorem yK:∀{l:List Pr} {k:Pr},chkL Na l=0→k∈l→chk Na k=0
 |p::r,k,h,hk=>by
  rw[eV] at h
  rcases List.mem_cons.1 hk with rfl|hk
  ·exact h.1
  ·exact yK h.2 hk
theorem nodeS_m{num e z l r m:Bool}(h:nodeS num e z l r m=0):m=true:=U11
theorem Na_kid0{p:Pr}(h:Na p=0)(ho:p.op=8):p.kid0=1:=by
 rw[aq (cM p ho)] at h
 exact of_decide_eq_true (nodeS_m h)
theorem Na_two8{p:Pr}(h:Na p=0)(ho:p.op=8):∃k r,p.ks=k::r∧k.op=1:=by
 have h1:=Na_kid0 h ho
 unfold Pr.kid0 at h1
 cases hk:p.ks with
 |nil=>rw[hk] at h1;cases h1
 |cons k r=>
  rw[hk] at h1
  exact⟨k,r,rfl,h1⟩
theorem Na_tPr:Na tPr=0:=by
 rw[aq (cN tPr rfl)]
 rfl
theorem chk_tPr:chk Na tPr=0:=(je _).2 ⟨Na_tPr,rfl⟩
theorem vg:∀l:List Pr,(Pr.cpL l).length=l.length
 | []=>rfl
 |k::r=>by simp only[Pr.cpL,List.length_cons,vg r]
theorem cp_op(p:Pr):p.cp.op=p.op:=by cases p;rfl
theorem cp_kid0(p:Pr):p.cp.kid0=p.kid0:=by
 obtain⟨o,s,n,ks,a,b⟩:=p
 cases ks with
 |nil=>rfl
 |cons k r=>exact cp_op k
theorem Na_cp(p:Pr):Na p.cp=Na p:=wD (by cases p;rfl) (by cases p;rfl) (by cases p;rfl) (by cases p;exact vg _) (fun _=>cp_kid0 p)
mutual
theorem chk_cp:∀p:Pr,chk Na p.cp=chk Na p
 |.mk o s n ks a b=>by
  have h1:=Na_cp (.mk o s n ks a b)
  have h2:=vo ks
  simp only[Pr.cp] at h1⊢
  simp only[chk,h1,h2]
theorem vo:∀l:List Pr,chkL Na (Pr.cpL l)=chkL Na l
 | []=>rfl
 |k::r=>by simp only[Pr.cpL,chkL,chk_cp k,vo r]
end
mutual
theorem wl:∀p:Pr,p.cp.plain=p.plain
 |.mk o s n ks a b=>by simp only[Pr.cp,Pr.plain,gD ks]
theorem gD:∀l:List Pr,Pr.plainL (Pr.cpL l)=Pr.plainL l
 | []=>rfl
 |k::r=>by simp only[Pr.cpL,Pr.plainL,wl k,gD r]
end
mutual
theorem wG:∀p:Pr,p.cp.whole=p.whole
 |.mk o s n ks a b=>by simp only[Pr.cp,Pr.whole,gD ks,rj ks]
theorem rj:∀l:List Pr,Pr.wholeL (Pr.cpL l)=Pr.wholeL l
 | []=>rfl
 |k::r=>by simp only[Pr.cpL,Pr.wholeL,wG k,rj r]
end
mutual
theorem sor_cp(Vx:Evr):∀p:Pr,p.cp.sor Vx=p.sor Vx
 |.mk o s n ks a b=>by simp only[Pr.cp,Pr.sor,mX Vx ks]
theorem mX(Vx:Evr):∀l:List Pr,Pr.sorL Vx (Pr.cpL l)=Pr.sorL Vx l
 | []=>rfl
 |k::r=>by simp only[Pr.cpL,Pr.sorL,sor_cp Vx k,mX Vx r]
end
mutual
theorem inn_nil:∀(p:Pr) (L:List Pr),inn 5 p L=[]→L=[]∧p.plain=true
 |.mk o s n ks a b,L,h=>by
  simp only[inn] at h
  cases hc:decide (o=5)&& !hasS (.mk o s n ks a b) (innL 5 ks L) with
  |true=>
   rw[hc] at h
   simp only[cond_true] at h
   exact absurd h (by simp)
  |false=>
   rw[hc] at h
   simp only[cond_false] at h
   obtain⟨h1,h2⟩:=xJ ks L h
   refine⟨h1,?_⟩
   rw[h] at hc
   simp only[hasS,Bool.not_false,Bool.and_true] at hc
   simp only[Pr.plain,hc,Bool.not_false,Bool.true_and,h2]
theorem xJ:∀(l L:List Pr),innL 5 l L=[]→L=[]∧Pr.plainL l=true
 | [],L,h=>⟨h,rfl⟩
 |k::r,L,h=>by
  simp only[innL] at h
  obtain⟨h1,h2⟩:=xJ r _ h
  obtain⟨h3,h4⟩:=inn_nil k L h1
  exact⟨h3,by simp only[Pr.plainL,h4,h2,Bool.and_self]⟩
end
theorem pM{p:Pr}(h:holesS p=[]):p.plain=true:=(inn_nil p [] h).2
theorem pN:∀{l:List Pr},l.flatMap holesS=[]→Pr.plainL l=true
 | [],_=>rfl
 |k::r,h=>by
  rw[List.flatMap_cons,List.append_eq_nil_iff] at h
  simp only[Pr.plainL,pM h.1,pN h.2,Bool.and_self]
theorem ii{p:Pr}(h:p.op=5→Pr.plainL p.ks=true)(k:p.op≠5→Pr.wholeL p.ks=true):p.whole=true:=by
 obtain⟨o,s,n,ks,a,b⟩:=p
 simp only[Pr.whole]
 by_cases ho:o=5
 ·rw[decide_eq_true ho]
  exact h ho
 ·rw[decide_eq_false ho]
  exact k ho
theorem sN{c:Pr}(h:okC c=true):c.whole=true:=by
 unfold okC at h
 rw[Bool.or_eq_true,Bool.and_eq_true] at h
 rcases h with⟨h1,h2⟩|h
 ·have h1:=of_decide_eq_true h1
  have h2:=of_decide_eq_true h2
  have:c.ks.flatMap holesS=[]:=List.eq_nil_of_length_eq_zero om
  exact ii (fun _=>pN this) (fun q=>absurd h1 q)
 ·have h:decide ((0:Int)<(((holesS c).length:Nat):Int))=false:=by simpa using h
  have:=of_decide_eq_false h
  have:holesS c=[]:=List.eq_nil_of_length_eq_zero om
  exact lG c (pM this)
theorem xU:∀{a b:List Pr},fitL (a++b)=true→fitL a=true∧fitL b=true
 | [],b,h=>⟨rfl,h⟩
 |c::a,b,h=>by
  simp only[List.cons_append,fitL,Bool.and_eq_true] at h
  obtain⟨h1,h2⟩:=xU h.2
  exact⟨by simp only[fitL,h.1,h1,Bool.and_self],h2⟩
theorem wb{p:Pr}(h:p.same zPr=true):p.op=0∧p.nm=⟨#[]⟩∧p.n=0∧p.ks=[]:=by
 obtain⟨o,s,n,ks,a,b⟩:=p
 simp only[Pr.same,Bool.and_eq_true] at h
 refine⟨of_decide_eq_true h.1,bx h.2.1,of_decide_eq_true h.2.2.1,?_⟩
 have:=of_decide_eq_true h.2.2.2.1
 exact List.eq_nil_of_length_eq_zero this
theorem same_tPr{p:Pr}(h:p.same tPr=true):p.op=2∧p.ks=[]:=by
 obtain⟨o,s,n,ks,a,b⟩:=p
 simp only[Pr.same,Bool.and_eq_true] at h
 refine⟨of_decide_eq_true h.1,?_⟩
 have:=of_decide_eq_true h.2.2.2.1
 exact List.eq_nil_of_length_eq_zero this
theorem yc{p:Pr}(h:p.void=true):p.whole=true:=by
 unfold Pr.void at h
 rw[Bool.or_eq_true] at h
 rcases h with h|h
 ·obtain⟨h1,_,_,h4⟩:=wb h
  exact ii (fun q=>by rw[h4];rfl) (fun _=>by rw[h4];rfl)
 ·obtain⟨h1,h4⟩:=same_tPr h
  exact ii (fun q=>by rw[h4];rfl) (fun _=>by rw[h4];rfl)
mutual
theorem sB:∀p:Pr,fitL p.spl=true→p.whole=true
 |.mk o s n ks a b,h=>by
  simp only[Pr.spl] at h
  cases hc:decide (o=15)&&decide (ks.length=2) with
  |true=>
   rw[hc] at h
   rw[Bool.and_eq_true] at hc
   have ho:=of_decide_eq_true hc.1
   exact ii (fun q=>by have q:o=5:=q;omega) (fun _=>nZ ks h)
  |false=>
   rw[hc] at h
   simp only[cond_false] at h
   cases hv:(Pr.mk o s n ks a b).void with
   |true=>exact yc hv
   |false=>
    rw[hv] at h
    simp only[cond_false,fitL,Bool.and_true] at h
    have:=sN h
    rwa [wG] at this
theorem nZ:∀l:List Pr,fitL (Pr.splL l)=true→Pr.wholeL l=true
 | [],_=>rfl
 |k::r,h=>by
  simp only[Pr.splL] at h
  obtain⟨h1,h2⟩:=xU h
  simp only[Pr.wholeL,sB k h1,nZ r h2,Bool.and_self]
end
theorem xT{Vx:Evr}{p:Pr}{l:List Pr}(h:fitsE Vx p l=0):boolS Vx p=0∧fitL l=true:=by
 unfold fitsE at h
 cases h1:decide (boolS Vx p=0) with
 |false=>
  rw[h1] at h
  exact absurd h (of_decide_eq_false h1)
 |true=>
  rw[h1] at h
  cases h2:fitL l with
  |false=>rw[h2] at h;cases h
  |true=>exact⟨of_decide_eq_true h1,rfl⟩
theorem hyE_ok{Vx:Evr}:∀{l:List Pr},hyE Vx l=0→∀p∈l,boolS Vx p=0∧p.whole=true
 |k::r,h,p,hp=>by
  simp only[hyE] at h
  cases h1:decide (fitsE Vx k k.spl=0) with
  |false=>
   rw[h1] at h
   exact absurd h (of_decide_eq_false h1)
  |true=>
   rw[h1] at h
   rcases List.mem_cons.1 hp with rfl|hp
   ·obtain⟨h2,h3⟩:=xT (of_decide_eq_true h1)
    exact⟨h2,sB _ h3⟩
   ·exact hyE_ok h p hp
theorem hd_ok{Vx:Evr}{p:Pr}(h:fitsE Vx p [p]=0):boolS Vx p=0∧p.whole=true:=by
 obtain⟨h1,h2⟩:=xT h
 simp only[fitL,Bool.and_true] at h2
 exact⟨h1,sN h2⟩
theorem gr(Vx:Evr)(p:Pr):boolS Vx p=0↔p.same zPr=true∨(ckS Na p=0∧p.sor Vx=(sBool,0)):=by
 unfold boolS ofS
 cases hz:p.same zPr with
 |true=>simp
 |false=>
  cases hc:decide (ckS Na p=0) with
  |false=>
   have hc:=of_decide_eq_false hc
   simp only[cond_false,decide_eq_false hc,Bool.false_and]
   constructor
   ·intro h
    exact absurd h hc
   ·rintro(h|h)
    ·cases h
    ·exact absurd h.1 hc
  |true=>
   have hc:=of_decide_eq_true hc
   simp only[cond_false,cond_true]
   obtain⟨a,b,e⟩:∃a b,p.sor Vx=(a,b):=⟨_,_,rfl⟩
   rw[e]
   constructor
   ·intro h
    refine .inr ⟨hc,?_⟩
    cases hb:decide (b=0) with
    |false=>
     rw[hb] at h
     exact absurd h (of_decide_eq_false hb)
    |true=>
     rw[hb] at h
     cases hs:strEq a sBool with
     |false=>rw[hs] at h;cases h
     |true=>rw[bx hs,of_decide_eq_true hb]
   ·rintro(h|⟨_,h⟩)
    ·cases h
    ·cases h
     rfl
theorem ck_iff{p:Pr}(h1:p.nodes≤400)(h2:p.depth≤40):ckS Na p=chk Na p:=by
 unfold ckS
 rw[if_neg om,if_neg om]
theorem sor_ok{Vx:Evr}{o n:Int}{s:ByteArray}{ks:List Pr}{a:Option (Option Addr×Nat)}{b:Option Nat}(h:((Pr.mk o s n ks a b).sor Vx).2=0):(Pr.sorL Vx ks).2=0∧(Pr.mk o s n ks a b).sor Vx=sortN Vx o s (Pr.sorL Vx ks).1:=by
 simp only[Pr.sor] at h⊢
 cases hc:decide ((Pr.sorL Vx ks).2=0) with
 |false=>
  rw[hc] at h
  exact absurd h (of_decide_eq_false hc)
 |true=>exact⟨of_decide_eq_true hc,rfl⟩
theorem sor_mk{Vx:Evr}{o n:Int}{s:ByteArray}{ks:List Pr}{a:Option (Option Addr×Nat)}{b:Option Nat}(h:(Pr.sorL Vx ks).2=0):(Pr.mk o s n ks a b).sor Vx=sortN Vx o s (Pr.sorL Vx ks).1:=by
 simp only[Pr.sor,decide_eq_true h,cond_true]
theorem mW{Vx:Evr}{k:Pr}{r:List Pr}(h:(Pr.sorL Vx (k::r)).2=0):(k.sor Vx).2=0∧(Pr.sorL Vx r).2=0∧Pr.sorL Vx (k::r)=((k.sor Vx).1::(Pr.sorL Vx r).1,0):=by
 simp only[Pr.sorL] at h⊢
 cases h1:decide ((k.sor Vx).2=0) with
 |false=>
  rw[h1] at h
  exact absurd h (of_decide_eq_false h1)
 |true=>
  rw[h1] at h
  simp only[cond_true] at h⊢
  cases h2:decide ((Pr.sorL Vx r).2=0) with
  |false=>
   rw[h2] at h
   exact absurd h (of_decide_eq_false h2)
  |true=>exact⟨of_decide_eq_true h1,of_decide_eq_true h2,rfl⟩
theorem sorL_mk{Vx:Evr}{k:Pr}{r:List Pr}(h1:(k.sor Vx).2=0)(h2:(Pr.sorL Vx r).2=0):Pr.sorL Vx (k::r)=((k.sor Vx).1::(Pr.sorL Vx r).1,0):=by
 simp only[Pr.sorL,decide_eq_true h1,decide_eq_true h2,cond_true]
theorem sorL_at{Vx:Evr}:∀{l:List Pr} {i:Nat} {k:Pr},(Pr.sorL Vx l).2=0→l[i]? =some k→(k.sor Vx).2=0∧(Pr.sorL Vx l).1[i]? =some (k.sor Vx).1
 |p::r,0,k,h,hk=>by
  obtain⟨h1,h2,h3⟩:=mW h
  simp only[List.getElem?_cons_zero,sI] at hk
  subst hk
  exact⟨h1,by rw[h3];rfl⟩
 |p::r,i+1,k,h,hk=>by
  obtain⟨h1,h2,h3⟩:=mW h
  simp only[List.getElem?_cons_succ] at hk
  obtain⟨h4,h5⟩:=sorL_at h2 hk
  exact⟨h4,by rw[h3];simpa only[List.getElem?_cons_succ] using h5⟩
theorem yp{Vx W:Evr}(h1:Vx.vs.l=W.vs.l)(h2:Vx.sy.l=W.sy.l)(h3:Vx.hs.l=W.hs.l)(o:Int)(s:ByteArray)(l:List ByteArray):sortN Vx o s l=sortN W o s l:=by
 unfold sortN
 rw[h1,h2,h3]
mutual
theorem wT{Vx W:Evr}(h1:Vx.vs.l=W.vs.l)(h2:Vx.sy.l=W.sy.l)(h3:Vx.hs.l=W.hs.l):∀p:Pr,p.sor Vx=p.sor W
 |.mk o s n ks a b=>by simp only[Pr.sor,sD h1 h2 h3 ks,yp h1 h2 h3]
theorem sD{Vx W:Evr}(h1:Vx.vs.l=W.vs.l)(h2:Vx.sy.l=W.sy.l)(h3:Vx.hs.l=W.hs.l):∀l:List Pr,Pr.sorL Vx l=Pr.sorL W l
 | []=>rfl
 |k::r=>by simp only[Pr.sorL,wT h1 h2 h3 k,sD h1 h2 h3 r]
end
def distS:List Vr→Prop
 | []=>True
 |v::r=>memS v.nm (nms r)=false∧distS r
theorem xE{b x:ByteArray}{l:List ByteArray}:memS b (addS x l)=(memS b l||strEq b x):=by
 unfold addS
 cases h:memS x l with
 |true=>
  simp only[cond_true]
  cases hb:strEq b x with
  |false=>rw[Bool.or_false]
  |true=>rw[bx hb,h];rfl
 |false=>
  simp only[cond_false]
  clear h
  induction l with
  |nil=>simp only[List.nil_append,memS,Bool.or_false,Bool.false_or]
  |cons y l ih=>simp only[List.cons_append,memS,ih,Bool.or_assoc]
theorem vE_step{seen:List ByteArray}{v:Vr}{r:List Vr}(h:vE seen (v::r)=0):memS v.nm seen=false∧vE (addS v.nm seen) r=0:=by
 simp only[vE] at h
 cases h1: !strEq v.nm sV&& !decide (coreA v.nm=0) with
 |true=>rw[h1] at h;cases h
 |false=>
  rw[h1] at h
  cases h2:memS v.nm seen with
  |true=>rw[h2] at h;cases h
  |false=>
   rw[h2] at h
   cases h3:decide (srtE v.so=0) with
   |true=>rw[h3] at h;exact⟨rfl,h⟩
   |false=>
    rw[h3] at h
    exact absurd h (of_decide_eq_false h3)
theorem vE_out:∀{l:List Vr} {seen:List ByteArray} {b:ByteArray},vE seen l=0→memS b seen=true→memS b (nms l)=false
 | [],_,_,_,_=>rfl
 |v::r,seen,b,h,hb=>by
  obtain⟨h1,h2⟩:=vE_step h
  have h3:memS b (nms r)=false:=vE_out h2 (by rw[xE,hb];rfl)
  have h4:strEq b v.nm=false:=by
   cases q:strEq b v.nm with
   |false=>rfl
   |true=>rw[bx q,h1] at hb;cases hb
  show(strEq b v.nm||memS b (nms r))=false
  rw[h3,h4]
  rfl
theorem vE_dist:∀{l:List Vr} {seen:List ByteArray},vE seen l=0→distS l
 | [],_,_=>trivial
 |v::r,seen,h=>by
  obtain⟨h1,h2⟩:=vE_step h
  exact⟨vE_out h2 (by rw[xE,eZ,Bool.or_true]),vE_dist h2⟩
theorem yd{l:List Vr}(h:varsE l=0):distS l:=by
 unfold varsE at h
 cases hc:decide ((24:Int)<(l.length:Nat)) with
 |true=>rw[hc] at h;cases h
 |false=>
  rw[hc] at h
  exact vE_dist h
theorem wJ{b:ByteArray}:∀{l:List Vr},memS b (nms l)=false→vlk b l=none
 | [],_=>rfl
 |v::r,h=>by
  have h:(strEq b v.nm||memS b (nms r))=false:=h
  rw[Bool.or_eq_false_iff] at h
  simp only[vlk,iJ v.nm b,h.1,cond_false,wJ h.2]
theorem vlk_app{b:ByteArray}:∀{l r:List Vr},vlk b (l++r)=(vlk b l).orElse fun _=>vlk b r
 | [],r=>rfl
 |v::l,r=>by
  simp only[List.cons_append,vlk]
  cases strEq v.nm b with
  |true=>rfl
  |false=>exact vlk_app
theorem vlk_rev{b:ByteArray}:∀{l:List Vr},distS l→vlk b l.reverse=vlk b l
 | [],_=>rfl
 |v::r,h=>by
  rw[List.reverse_cons,vlk_app,vlk_rev h.2]
  simp only[vlk]
  cases q:strEq v.nm b with
  |false=>cases vlk b r<;>rfl
  |true=>
   have:=bx q
   rw[wJ (by rw[←this];exact h.1)]
   rfl
theorem vlk_fnd{b t:ByteArray}:∀{l:List Vr},vlk b l=some t→∃i v,fnd b (nms l)=some i∧l[i]? =some v∧v.so=t
 |v::r,h=>by
  simp only[vlk] at h
  cases q:strEq v.nm b with
  |true=>
   rw[q] at h
   simp only[cond_true,sI] at h
   refine⟨0,v,?_,rfl,h⟩
   show(bif strEq b v.nm then some 0 else(fnd b (nms r)).map (· +1))=some 0
   rw[iJ,q]
   rfl
  |false=>
   rw[q] at h
   obtain⟨i,w,h1,h2,h3⟩:=vlk_fnd h
   refine⟨i+1,w,?_,h2,h3⟩
   show(bif strEq b v.nm then some 0 else(fnd b (nms r)).map (· +1))=some (i+1)
   rw[iJ,q,h1]
   rfl
theorem eqS_at:∀{a b:List ByteArray} {i:Nat} {u w:ByteArray},eqS a b=true→a[i]? =some u→b[i]? =some w→u=w
 |x::a,y::b,0,u,w,h,h1,h2=>by
  simp only[eqS,Bool.and_eq_true] at h
  simp only[List.getElem?_cons_zero,sI] at h1 h2
  rw[←h1,←h2,bx h.1]
 |x::a,y::b,i+1,u,w,h,h1,h2=>by
  simp only[eqS,Bool.and_eq_true] at h
  simp only[List.getElem?_cons_succ] at h1 h2
  exact eqS_at h.2 h1 h2
structure KidsOk (Vx:Evr) (x:Ho) (ks:List Pr):Prop where
 chk:chkL Na ks=0
 pl:Pr.plainL ks=true
 sor:(Pr.sorL Vx ks).2=0
 len:ks.length=x.ps.l.length
 eq:eqS (Pr.sorL Vx ks).1 (x.ps.l.map Vr.so)=true
 dist:distS x.ps.l
theorem nw:∀{l:List Pr} {k:Pr},Pr.plainL l=true→k∈l→k.plain=true
 |p::r,k,h,hk=>by
  simp only[Pr.plainL,Bool.and_eq_true] at h
  rcases List.mem_cons.1 hk with rfl|hk
  ·exact h.1
  ·exact nw h.2 hk
theorem wN(l:List ByteArray)(bys:List Pr):∀ks:List Pr,(Pr.subL l bys ks).length=ks.length
 | []=>rfl
 |k::r=>by simp only[Pr.subL,List.length_cons,wN l bys r]
theorem sub_op1{l:List ByteArray}{bys:List Pr}{k:Pr}(h:k.op=1):(k.sub l bys).op=1:=by
 obtain⟨o,s,n,ks,a,b⟩:=k
 have h:o=1:=h
 subst h
 rfl
mutual
theorem sub_ok(Vx:Evr)(H:Hn)(x:Ho)(hV:Vx.sy.l=H.sy.l)(bys:List Pr)(hk:KidsOk Vx x bys):∀q:Pr,chk Na q=0→(q.sor (evS H x)).2=0→chk Na (q.sub (nms x.ps.l) bys)=0∧(q.sub (nms x.ps.l) bys).sor Vx=q.sor (evS H x)∧(q.sub (nms x.ps.l) bys).plain=true
 |.mk o s n kk a b,hc,hs=>by
  obtain⟨c1,c2⟩:=(je _).1 hc
  have c2:chkL Na kk=0:=c2
  obtain⟨s1,s2⟩:=sor_ok hs
  rw[s2] at hs⊢
  by_cases h3:o=3
  ·subst h3
   have e:sortN (evS H x) 3 s (Pr.sorL (evS H x) kk).1=match varS x.ps.l s with|some t=>(t,0)|none=>(⟨#[]⟩,5):=rfl
   rw[e] at hs⊢
   cases hv:varS x.ps.l s with
   |none=>rw[hv] at hs;cases hs
   |some t=>
    have hv':vlk s x.ps.l=some t:=by
     rw[←vlk_rev hk.dist]
     exact hv
    obtain⟨i,v,f1,f2,f3⟩:=vlk_fnd hv'
    have hi:i<bys.length:=by
     rw[hk.len]
     rcases Nat.lt_or_ge i x.ps.l.length with q|q
     ·exact q
     ·rw[List.getElem?_eq_none q] at f2;cases f2
    have hb:bys[i]? =some bys[i]:=List.getElem?_eq_getElem hi
    have hp:pickS 3 s (nms x.ps.l) bys=some bys[i]:=by
     show(bif decide ((3:Int)=3) then(fnd s (nms x.ps.l)).bind (fun i=>bys[i]?) else none)=_
     rw[f1]
     exact hb
    have hm:bys[i]∈bys:=List.getElem_mem hi
    obtain⟨g1,g2⟩:=sorL_at hk.sor hb
    have g3:=eqS_at hk.eq g2 (by rw[List.getElem?_map,f2];rfl)
    simp only[Pr.sub,hp]
    refine⟨by rw[chk_cp];exact yK hk.chk hm,?_,by rw[wl];exact nw hk.pl hm⟩
    rw[sor_cp]
    obtain⟨u,w,e⟩:∃u w,bys[i].sor Vx=(u,w):=⟨_,_,rfl⟩
    rw[e] at g1 g3⊢
    rw[←f3,←g3]
    simp only at g1
    rw[g1]
  ·have hp:pickS o s (nms x.ps.l) bys=none:=by
    show(bif decide (o=3) then _ else none)=none
    rw[decide_eq_false h3]
    rfl
   obtain⟨i1,i2,i3⟩:=subL_ok Vx H x hV bys hk kk c2 s1
   have h5:o≠5:=fun q=>by
    subst q
    have e:sortN (evS H x) 5 s (Pr.sorL (evS H x) kk).1=(⟨#[]⟩,5):=rfl
    rw[e] at hs
    cases hs
   simp only[Pr.sub,hp]
   refine⟨(je _).2 ⟨?_,i1⟩,?_,?_⟩
   ·rw[←c1]
    refine wD rfl rfl rfl (wN _ _ kk) fun h8=>?_
    have h8:o=8:=h8
    obtain⟨k,r,e1,e2⟩:=Na_two8 c1 h8
    have e1:kk=k::r:=e1
    subst e1
    show(k.sub (nms x.ps.l) bys).op=k.op
    rw[sub_op1 e2,e2]
   ·rw[sor_mk (by rw[i2];exact s1),i2]
    unfold sortN
    rw[decide_eq_false h3,decide_eq_false h5]
    show(bif decide (o=1) then _ else bif decide (o=2) then _ else bif false then _ else bif decide (o=4) then appS Vx.sy.l s _ else _)=(bif decide (o=1) then _ else bif decide (o=2) then _ else bif false then _ else bif decide (o=4) then appS H.sy.l s _ else _)
    rw[hV]
    rfl
   ·simp only[Pr.plain,decide_eq_false h5,Bool.not_false,Bool.true_and,i3]
theorem subL_ok(Vx:Evr)(H:Hn)(x:Ho)(hV:Vx.sy.l=H.sy.l)(bys:List Pr)(hk:KidsOk Vx x bys):∀l:List Pr,chkL Na l=0→(Pr.sorL (evS H x) l).2=0→chkL Na (Pr.subL (nms x.ps.l) bys l)=0∧Pr.sorL Vx (Pr.subL (nms x.ps.l) bys l)=Pr.sorL (evS H x) l∧Pr.plainL (Pr.subL (nms x.ps.l) bys l)=true
 | [],_,_=>⟨rfl,rfl,rfl⟩
 |k::r,hc,hs=>by
  rw[eV] at hc
  obtain⟨s1,s2,s3⟩:=mW hs
  obtain⟨a1,a2,a3⟩:=sub_ok Vx H x hV bys hk k hc.1 s1
  obtain⟨b1,b2,b3⟩:=subL_ok Vx H x hV bys hk r hc.2 s2
  simp only[Pr.subL]
  refine⟨(eV _ _).2 ⟨a1,b1⟩,?_,by simp only[Pr.plainL,a3,b3,Bool.and_self]⟩
  rw[s3,sorL_mk (by rw[a2];exact s1) (by rw[b2];exact s2),a2,b2]
end
theorem hE_step{seen:List ByteArray}{x:Ho}{r:List Ho}(h:hE seen (x::r)=0):varsE x.ps.l=0∧hE (addS x.nm seen) r=0:=by
 simp only[hE] at h
 cases h1: !decide (coreA x.nm=0) with
 |true=>rw[h1] at h;cases h
 |false=>
  rw[h1] at h
  cases h2:memS x.nm seen with
  |true=>rw[h2] at h;cases h
  |false=>
   rw[h2] at h
   cases h3:decide (((x.ps.l.length:Nat):Int)=0) with
   |true=>rw[h3] at h;cases h
   |false=>
    rw[h3] at h
    cases h4:decide (varsE x.ps.l=0) with
    |true=>rw[h4] at h;exact⟨of_decide_eq_true h4,h⟩
    |false=>
     rw[h4] at h
     exact absurd h (of_decide_eq_false h4)
theorem hE_vars:∀{l:List Ho} {seen:List ByteArray},hE seen l=0→∀x∈l,varsE x.ps.l=0
 |y::r,seen,h,x,hx=>by
  obtain⟨h1,h2⟩:=hE_step h
  rcases List.mem_cons.1 hx with rfl|hx
  ·exact h1
  ·exact hE_vars h2 x hx
theorem xK{l:List Ho}(h:holesE l=0):∀x∈l,varsE x.ps.l=0:=by
 unfold holesE at h
 cases hc:decide ((40:Int)<(l.length:Nat)) with
 |true=>rw[hc] at h;cases h
 |false=>
  rw[hc] at h
  exact hE_vars h
def soLk(b:ByteArray):List So→Option So
 | []=>none
 |s::r=>bif strEq s.nm b then some s else soLk b r
theorem wV{b:ByteArray}:∀{l:List So} {x:So},soLk b l=some x→x∈l
 |h::r,x,e=>by
  simp only[soLk] at e
  cases q:strEq h.nm b with
  |true=>
   rw[q] at e
   simp only[cond_true,sI] at e
   rw[e]
   exact List.mem_cons_self
  |false=>
   rw[q] at e
   exact List.mem_cons_of_mem _ (wV e)
theorem pair_at{H:Hn}{b:ByteArray}{x:Ho}{y:So}:∀{hs:List Ho} {ss:List So},PairsOk H hs ss→eqfS hs ss=true→hoLk b hs=some x→soLk b ss=some y→boolS (evS H x) y.p=0
 |h::hs,s::ss,hp,he,h1,h2=>by
  simp only[eqfS,Bool.and_eq_true] at he
  have e:=bx he.1
  simp only[hoLk,soLk] at h1 h2
  rw[e] at h1
  cases q:strEq s.nm b with
  |true=>
   rw[q] at h1 h2
   simp only[cond_true,sI] at h1 h2
   subst h1;subst h2
   exact hp.1
  |false=>
   rw[q] at h1 h2
   exact pair_at hp.2 he.2 h1 h2
 | [],s::ss,hp,_,_,_=>hp.elim
 |hs,[],_,_,_,h2=>by cases h2
theorem xY(p sp:Pr):∀hs:List Ho,fillH p sp hs=(hoLk p.nm hs).map fun h=>sp.sub (nms h.ps.l) p.ks
 | []=>rfl
 |h::r=>by
  simp only[fillH,hoLk]
  cases strEq h.nm p.nm with
  |true=>rfl
  |false=>exact xY p sp r
theorem xX(hs:List Ho)(p:Pr):∀l:List So,fillO hs p l=(soLk p.nm l).map fun s=>bif s.p.same zPr then tPr else(fillH p s.p hs).getD tPr
 | []=>rfl
 |s::r=>by
  simp only[fillO,soLk]
  cases strEq s.nm p.nm with
  |true=>
   simp only[cond_true,Option.map_some]
   cases s.p.same zPr<;>rfl
  |false=>exact xX hs p r
theorem lR(hs:List Ho)(l:List So)(p:Pr):fillS hs l p=tPr∨∃y x,soLk p.nm l=some y∧hoLk p.nm hs=some x∧y.p.same zPr=false∧fillS hs l p=y.p.sub (nms x.ps.l) p.ks:=by
 unfold fillS
 rw[xX]
 cases h1:soLk p.nm l with
 |none=>exact .inl rfl
 |some y=>
  simp only[Option.map_some,Option.getD_some]
  cases h2:y.p.same zPr with
  |true=>exact .inl rfl
  |false=>
   rw[xY]
   cases h3:hoLk p.nm hs with
   |none=>exact .inl rfl
   |some x=>exact .inr ⟨y,x,rfl,rfl,h2,rfl⟩
theorem flL_len(hs:List Ho)(l:List So):∀ks:List Pr,(Pr.flL hs l ks).length=ks.length
 | []=>rfl
 |k::r=>by simp only[Pr.flL,List.length_cons,flL_len hs l r]
theorem fl_op(hs:List Ho)(l:List So){p:Pr}(h:p.op≠5):(p.fl hs l).op=p.op:=by
 obtain⟨o,s,n,ks,a,b⟩:=p
 have h:o≠5:=h
 simp only[Pr.fl,decide_eq_false h,cond_false]
 rfl
theorem filS_ok{hs:List Ho}{b:ByteArray}{ks:List ByteArray}(h:(filS hs b ks).2=0):∃x,hoLk b hs=some x∧ks.length=x.ps.l.length∧eqS ks (x.ps.l.map Vr.so)=true∧filS hs b ks=(sBool,0):=by
 unfold filS at h⊢
 cases hx:hoLk b hs with
 |none=>rw[hx] at h;cases h
 |some x=>
  rw[hx] at h
  simp only at h⊢
  cases h1:decide ((ks.length:Int)=(x.ps.l.length:Nat)) with
  |false=>rw[h1] at h;cases h
  |true=>
   rw[h1] at h
   have h1:=of_decide_eq_true h1
   cases h2:eqS ks (x.ps.l.map Vr.so) with
   |false=>rw[h2] at h;cases h
   |true=>exact⟨x,rfl,om,h2,rfl⟩
theorem tPr_sor(Vx:Evr):tPr.sor Vx=(sBool,0):=rfl
mutual
theorem fl_ok(Vx:Evr)(H:Hn)(S:Vl So)(hV:Vx.sy.l=H.sy.l)(hW:Vx.hs.l=H.hs.l)(hH:holesE H.hs.l=0)(hS:SolsOk H S):∀p:Pr,p.whole=true→chk Na p=0→(p.sor Vx).2=0→chk Na (p.fl H.hs.l S.l)=0∧(p.fl H.hs.l S.l).sor Vx=p.sor Vx∧(p.fl H.hs.l S.l).plain=true
 |.mk o s n ks a b,hw,hc,hs=>by
  obtain⟨c1,c2⟩:=(je _).1 hc
  have c2:chkL Na ks=0:=c2
  obtain⟨s1,s2⟩:=sor_ok hs
  rw[s2] at hs⊢
  by_cases h5:o=5
  ·subst h5
   have hpl:Pr.plainL ks=true:=hw
   have e:sortN Vx 5 s (Pr.sorL Vx ks).1=filS Vx.hs.l s (Pr.sorL Vx ks).1:=rfl
   rw[e] at hs⊢
   obtain⟨x,x1,x2,x3,x4⟩:=filS_ok hs
   rw[hW] at x1
   rw[x4]
   simp only[Pr.fl,decide_true,cond_true]
   rw[eT _ _ ks hpl]
   rcases lR H.hs.l S.l (Pr.mk 5 s n (Pr.cpL ks) nilK none) with q|⟨y,x',y1,y2,y3,q⟩
   ·rw[q]
    exact⟨chk_tPr,tPr_sor Vx,rfl⟩
   ·rw[q]
    have y2:hoLk s H.hs.l=some x':=y2
    rw[x1] at y2
    cases y2
    have hb:=pair_at hS.prs hS.nms x1 y1
    rcases(gr _ _).1 hb with z|⟨z1,z2⟩
    ·rw[z] at y3
     cases y3
    ·have hkk:KidsOk Vx x (Pr.cpL ks):=⟨by rw[vo];exact c2,by rw[gD];exact hpl,by rw[mX];exact s1,by rw[vg,←x2,nb Vx ks s1],by rw[mX];exact x3,yd (xK hH x (pO x1))⟩
     have:=sub_ok Vx H x hV (Pr.cpL ks) hkk y.p (ck_two z1).2.2.2 (by rw[z2])
     rw[z2] at this
     exact this
  ·have hwl:Pr.wholeL ks=true:=by
    simp only[Pr.whole,decide_eq_false h5,cond_false] at hw
    exact hw
   obtain⟨i1,i2,i3⟩:=flL_ok Vx H S hV hW hH hS ks hwl c2 s1
   simp only[Pr.fl,decide_eq_false h5,cond_false]
   refine⟨(je _).2 ⟨?_,i1⟩,?_,?_⟩
   ·rw[←c1]
    refine wD rfl rfl rfl (flL_len _ _ ks) fun h8=>?_
    have h8:o=8:=h8
    obtain⟨k,r,e1,e2⟩:=Na_two8 c1 h8
    have e1:ks=k::r:=e1
    subst e1
    show(k.fl H.hs.l S.l).op=k.op
    rw[fl_op _ _ om]
   ·rw[sor_mk (by rw[i2];exact s1),i2]
   ·simp only[Pr.plain,decide_eq_false h5,Bool.not_false,Bool.true_and,i3]
theorem flL_ok(Vx:Evr)(H:Hn)(S:Vl So)(hV:Vx.sy.l=H.sy.l)(hW:Vx.hs.l=H.hs.l)(hH:holesE H.hs.l=0)(hS:SolsOk H S):∀l:List Pr,Pr.wholeL l=true→chkL Na l=0→(Pr.sorL Vx l).2=0→chkL Na (Pr.flL H.hs.l S.l l)=0∧Pr.sorL Vx (Pr.flL H.hs.l S.l l)=Pr.sorL Vx l∧Pr.plainL (Pr.flL H.hs.l S.l l)=true
 | [],_,_,_=>⟨rfl,rfl,rfl⟩
 |k::r,hw,hc,hs=>by
  rw[eV] at hc
  simp only[Pr.wholeL,Bool.and_eq_true] at hw
  obtain⟨s1,s2,s3⟩:=mW hs
  obtain⟨a1,a2,a3⟩:=fl_ok Vx H S hV hW hH hS k hw.1 hc.1 s1
  obtain⟨b1,b2,b3⟩:=flL_ok Vx H S hV hW hH hS r hw.2 hc.2 s2
  simp only[Pr.flL]
  refine⟨(eV _ _).2 ⟨a1,b1⟩,?_,by simp only[Pr.plainL,a3,b3,Bool.and_self]⟩
  rw[s3,sorL_mk (by rw[a2];exact s1) (by rw[b2];exact s2),a2,b2]
end
theorem same_of{p:Pr}(h1:p.op=0)(h2:p.nm=⟨#[]⟩)(h3:p.n=0)(h4:p.ks=[]):p.same zPr=true:=by
 obtain⟨o,s,n,ks,a,b⟩:=p
 have h1:o=0:=h1
 have h2:s=⟨#[]⟩:=h2
 have h3:n=0:=h3
 have h4:ks=[]:=h4
 subst h1;subst h2;subst h3;subst h4
 rfl
theorem filled_ok{Vx W:Evr}{H:Hn}{S:Vl So}(hV:Vx.sy.l=H.sy.l)(hW:Vx.hs.l=H.hs.l)(w1:W.vs.l=Vx.vs.l)(w2:W.sy.l=Vx.sy.l)(w3:W.hs.l=Vx.hs.l)(hH:holesE H.hs.l=0)(hS:SolsOk H S){p:Pr}(hw:p.whole=true)(hb:boolS Vx p=0):
  (p.fl H.hs.l S.l).plain=true∧((p.fl H.hs.l S.l).nodes≤400→(p.fl H.hs.l S.l).depth≤40→boolS W (p.fl H.hs.l S.l)=0):=by
 rcases(gr _ _).1 hb with z|⟨z1,z2⟩
 ·obtain⟨z1,z2,z3,z4⟩:=wb z
  have e:p.fl H.hs.l S.l=.mk p.op p.nm p.n [] nilK none:=by
   obtain⟨o,s,n,ks,a,b⟩:=p
   have z1:o=0:=z1
   have z4:ks=[]:=z4
   subst z1;subst z4
   rfl
  rw[e]
  refine⟨?_,fun _ _=>(gr _ _).2 (.inl (same_of z1 z2 z3 rfl))⟩
  show(!decide (p.op=5)&&true)=true
  rw[z1]
  rfl
 ·obtain⟨a1,a2,a3⟩:=fl_ok Vx H S hV hW hH hS p hw (ck_two z1).2.2.2 (by rw[z2])
  refine⟨a3,fun h1 h2=>(gr _ _).2 (.inr ⟨by rw[ck_iff h1 h2];exact a1,?_⟩)⟩
  rw[wT w1 w2 w3,a2,z2]
mutual
theorem ru(l:List ByteArray)(bys:List Pr):∀q:Pr,(q.sub l bys).nodes≤q.nodes*(1+Pr.nodesL bys)
 |.mk o s n ks a b=>by
  have h:=nU l bys ks
  simp only[Pr.sub]
  have e:(Pr.mk o s n ks a b).nodes*(1+Pr.nodesL bys)=(1+Pr.nodesL bys)+Pr.nodesL ks*(1+Pr.nodesL bys):=by
   simp only[Pr.nodes,Nat.add_mul,Nat.one_mul]
  cases hp:pickS o s l bys with
  |some q=>
   have hm:q∈bys:=by
    unfold pickS at hp
    cases ho:decide (o=3) with
    |false=>rw[ho] at hp;cases hp
    |true=>
     rw[ho] at hp
     simp only[cond_true] at hp
     obtain⟨i,_,hi⟩:=Option.bind_eq_some_iff.1 hp
     exact List.mem_of_getElem? hi
   have:=cT hm
   simp only[oE]
   rw[e]
   omega
  |none=>
   rw[e]
   simp only[Pr.nodes]
   omega
theorem nU(l:List ByteArray)(bys:List Pr):∀ks:List Pr,Pr.nodesL (Pr.subL l bys ks)≤Pr.nodesL ks*(1+Pr.nodesL bys)
 | []=>by simp only[Pr.subL,Pr.nodesL];omega
 |k::r=>by
  have h1:=ru l bys k
  have h2:=nU l bys r
  simp only[Pr.subL,Pr.nodesL,Nat.add_mul]
  omega
end
mutual
theorem xQ(hs:List Ho)(S:List So)(hS:∀y∈S,y.p.nodes≤20):∀p:Pr,p.whole=true→(p.fl hs S).nodes≤20*p.nodes
 |.mk o s n ks a b,hw=>by
  by_cases h5:o=5
  ·subst h5
   have hpl:Pr.plainL ks=true:=hw
   simp only[Pr.fl,decide_true,cond_true]
   rw[eT _ _ ks hpl]
   rcases lR hs S (Pr.mk 5 s n (Pr.cpL ks) nilK none) with q|⟨y,x,y1,y2,y3,q⟩
   ·rw[q]
    show 1≤20*(1+Pr.nodesL ks)
    omega
   ·rw[q]
    have h1:=ru (nms x.ps.l) (Pr.cpL ks) y.p
    have h2:=hS y (wV y1)
    rw[gH] at h1
    show(y.p.sub (nms x.ps.l) (Pr.cpL ks)).nodes≤20*(1+Pr.nodesL ks)
    have h3:=Nat.mul_le_mul_right (1+Pr.nodesL ks) h2
    omega
  ·have hwl:Pr.wholeL ks=true:=by
    simp only[Pr.whole,decide_eq_false h5,cond_false] at hw
    exact hw
   have:=sZ hs S hS ks hwl
   simp only[Pr.fl,decide_eq_false h5,cond_false,Pr.nodes]
   omega
theorem sZ(hs:List Ho)(S:List So)(hS:∀y∈S,y.p.nodes≤20):∀l:List Pr,Pr.wholeL l=true→Pr.nodesL (Pr.flL hs S l)≤20*Pr.nodesL l
 | [],_=>by simp only[Pr.flL,Pr.nodesL];omega
 |k::r,hw=>by
  simp only[Pr.wholeL,Bool.and_eq_true] at hw
  have h1:=xQ hs S hS k hw.1
  have h2:=sZ hs S hS r hw.2
  simp only[Pr.flL,Pr.nodesL]
  omega
end
end Go.Proofs.YtkhblipgiijoiaaGreatDoor
