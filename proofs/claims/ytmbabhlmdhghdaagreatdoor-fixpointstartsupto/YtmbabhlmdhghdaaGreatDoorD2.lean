/- XDx XDy XDz XDu XDv XDt -/
import Derived.Test.YtmbabhlmdhghdaaGreatDoorD1
set_option linter.all false
open Option renaming some->Z, none->Y
open Bool renaming true->J, false->U
open And renaming intro->i9
open Bool renaming and_eq_true->im, and_self->ja, false_eq_true->A6
open List renaming all_cons->j9, all_eq_true->j3, all_nil->jc, drop_zero->A9, isEmpty_nil->Ay, length_append->jh, length_cons->jf, map_map->Ak, mem_append->jv, mem_cons->jl, mem_cons_of_mem->iy, mem_cons_self->ip, mem_singleton->jb, replicate->jr
open Nat renaming add_sub_cancel_left->Bl, beq->ig, ble->ii, blt->ir, blt_eq->j8, eq_of_beq_eq_true->iu, le_of_ble_eq_true->j6, le_refl->ij, le_succ->j5, lt_of_lt_of_le->jw, lt_succ_self->je, zero_add->jx
open Option renaming map_some->Ab
namespace Go.AM
variable {E:Env}{s:St}{K:St->Prop}
inductive XR where
 |sil
 |look (F:List Nat) (ld:Option (Nat×Nat×Nat))
 |made (n:Nat)
 |turn (F D:List Nat) (lo hi:Nat) (kp:List (Nat×Nat×Nat))
def XR.Of:XR->cC->Prop
 |.sil,c=>c.r.F=[]/\c.r.D=[]/\c.r.lo=c.r.hi
 |.look F ld,c=>(∀x∈c.r.F,x∈F)/\c.r.D=[]/\c.r.lo=c.r.hi/\c.ld=ld
 |.made n,c=>c.r.F=[]/\c.r.D=[]/\c.r.lo=n/\c.r.hi=n+1
 |.turn F D lo hi kp,c=>(∀x∈c.r.F,x∈F)/\(∀x∈c.r.D,x∈D)/\c.r.lo=lo/\c.r.hi=hi/\∀p∈kp,sameAt c.pre c.post p=J
def XR.ap:XR->XR->Prop
 |.sil,_=>True
 |.look ..,.sil=>True
 |.look ..,.look .. =>True
 |.look ..,.made _=>True
 |.look F ld,.turn _ D _ _ kp=>(∀x∈D,x∉F)\/∃p∈kp,ld=Z p
 |.made _,.sil=>True
 |.made n,.look F _=>∀x∈F,x≠n
 |.made _,.made _=>True
 |.made n,.turn F D _ _ _=>(∀x∈F,x≠n)/\∀x∈D,x≠n
 |.turn ..,.sil=>True
 |.turn _ D lo hi kp,.look F ld=>(∀x∈F,x∉D/\¬(lo<=x/\x<hi))\/∃p∈kp,ld=Z p
 |.turn ..,.made _=>True
 |.turn F D lo hi _,.turn F' D' _ _ _=>(∀x∈F',x∉D/\¬(lo<=x/\x<hi))/\∀x∈D',x∉D/\¬(lo<=x/\x<hi)/\x∉F
theorem aID{l:List Nat}{x:Nat}(h:x∉l):b9 l x=U:=by
 grind [sM]
theorem aSX{lo hi x:Nat}(h:¬(lo<=x/\x<hi)):(ii lo x&&ir x hi)=U:=by
 cases hq:(ii lo x&&ir x hi) with
 |false=>rfl
 |true=>
  rw[im] at hq;exact absurd ⟨j6 hq.1,j8.mp hq.2⟩ h
theorem aRL{r:ck}{l:List Nat}(h:∀x∈l,x∉r.D/\¬(r.lo<=x/\x<r.hi)):eT r l=U:=by
 grind [eT,List.any_eq_false,aID,aSX]
theorem bOM{D F:List Nat}(h:∀x∈D,x∉F):(D.any λx=>b9 F x)=U:=by
 grind [aID]
theorem s7{a b:cC}(h1:∀x∈b.r.F,x∉a.r.D/\¬(a.r.lo<=x/\x<a.r.hi))(h2:∀x∈b.r.D,x∉a.r.F)(h3:∀x∈b.r.D,x∉a.r.D/\¬(a.r.lo<=x/\x<a.r.hi)):du a b=J:=by
 simp_all [du,eS,aRL,bOM]
theorem bAH{a b:cC}{p:Nat×Nat×Nat}(h1:b.ld=Z p)(h2:sameAt a.pre a.post p=J):du a b=J:=by
 simp_all [du]
theorem bAI{a b:cC}{p:Nat×Nat×Nat}(h1:a.ld=Z p)(h2:sameAt b.pre b.post p=J):du a b=J:=by
 simp_all [du]
theorem XR.apart:∀{a b:XR} {c e:cC},a.ap b->a.Of c->b.Of e->du c e=J
 |.sil,b,c,e,_,⟨h1,h2,h3⟩,_=>s7 (λx _=>⟨Gr,om⟩) (λx _=>by grind) (λx _=>⟨Gr,om⟩)
 |.look F ld,.sil,c,e,_,_,⟨h1,h2,h3⟩=>s7 (λx hx=>by grind) (λx hx=>by grind) (λx hx=>by grind)
 |.look F ld,.look F' ld',c,e,_,⟨h1,h2,h3,h4⟩,⟨k1,k2,k3,k4⟩=>s7 (λx _=>⟨Gr,om⟩) (λx hx=>by grind) (λx hx=>by grind)
 |.look F ld,.made n,c,e,_,_,⟨h1,h2,h3,h4⟩=>s7 (λx hx=>by grind) (λx hx=>by grind) (λx hx=>by grind)
 |.look F ld,.turn F' D lo hi kp,c,e,h,⟨h1,h2,h3,h4⟩,⟨k1,k2,k3,k4,k5⟩=>by
  rcases h with h|⟨p,hp,e1⟩
  ·exact s7 (λx _=>⟨Gr,om⟩) (λx hx m=>h x (k2 x hx) (h1 x m)) (λx _=>⟨Gr,om⟩)
  grind [bAI]
 |.made n,.sil,c,e,_,_,⟨h1,h2,h3⟩=>s7 (λx hx=>by grind) (λx hx=>by grind) (λx hx=>by grind)
 |.made n,.look F ld,c,e,h,⟨h1,h2,h3,h4⟩,⟨k1,k2,k3,k4⟩=>s7 (λx hx=>⟨Gr,λq=>h x (k1 x hx) om⟩) (λx hx=>by grind) (λx hx=>by grind)
 |.made n,.made m,c,e,_,_,⟨h1,h2,h3,h4⟩=>s7 (λx hx=>by grind) (λx hx=>by grind) (λx hx=>by grind)
 |.made n,.turn F D lo hi kp,c,e,h,⟨h1,h2,h3,h4⟩,⟨k1,k2,k3,k4,k5⟩=>s7 (λx hx=>⟨Gr,λq=>h.1 x (k1 x hx) om⟩) (λx hx=>by grind) (λx hx=>⟨Gr,λq=>h.2 x (k2 x hx) om⟩)
 |.turn F D lo hi kp,.sil,c,e,_,_,⟨h1,h2,h3⟩=>s7 (λx hx=>by grind) (λx hx=>by grind) (λx hx=>by grind)
 |.turn F D lo hi kp,.look F' ld,c,e,h,⟨h1,h2,h3,h4,h5⟩,⟨k1,k2,k3,k4⟩=>by
  rcases h with h|⟨p,hp,e1⟩
  ·exact s7 (λx hx=>⟨λm=>(h x (k1 x hx)).1 (h2 x m),λq=>(h x (k1 x hx)).2 om⟩) (λx hx=>by grind) (λx hx=>by grind)
  grind [bAH]
 |.turn F D lo hi kp,.made m,c,e,_,_,⟨h1,h2,h3,h4⟩=>s7 (λx hx=>by grind) (λx hx=>by grind) (λx hx=>by grind)
 |.turn F D lo hi kp,.turn F' D' lo' hi' kp',c,e,h,⟨h1,h2,h3,h4,h5⟩,⟨k1,k2,k3,k4,k5⟩=>
  s7 (λx hx=>⟨λm=>(h.1 x (k1 x hx)).1 (h2 x m),λq=>(h.1 x (k1 x hx)).2 om⟩) (λx hx m=>(h.2 x (k2 x hx)).2.2 (h1 x m)) (λx hx=>⟨λm=>(h.2 x (k2 x hx)).1 (h2 x m),λq=>(h.2 x (k2 x hx)).2.1 om⟩)
def nthX:List XR->Nat->XR
 | [],_=>.sil
 |a::_,0=>a
 |_::r,n+1=>nthX r n
def cS(done:List XR)(b:XR):List Nat->Prop
 | []=>True
 |i::r=>(nthX done i).ap b/\cS done b r
inductive jG:List XR->List cC->Prop
 |nil:jG [] []
 |cons {a:XR} {c:cC} {l:List XR} {m:List cC}:a.Of c->jG l m->jG (a::l) (c::m)
theorem jG.len:∀{l:List XR} {m:List cC},jG l m->l.length=m.length
 |_,_,.nil=>rfl
 |_,_,.cons _ h=>by rw[jf,jf,h.len]
theorem jG.snoc{a:XR}{c:cC}:∀{l:List XR} {m:List cC},jG l m->a.Of c->jG (l++[a]) (m++[c])
 |_,_,.nil,h=>.cons h .nil
 |_,_,.cons k q,h=>.cons k (q.snoc h)
theorem jG.at:∀{l:List XR} {m:List cC},jG l m->∀i,i<m.length->∃c,m[i]? =Z c/\(nthX l i).Of c
 |_,_,.nil,i,h=>by cases h
 |_,_,.cons k q,0,h=>⟨_,rfl,k⟩
 |_,_,.cons k q,i+1,h=>by
  obtain⟨c,e,o⟩:=q.at i (Nat.lt_of_succ_lt_succ h);exact⟨c,Gr,o⟩
theorem tU{l:List XR}{m:List cC}(h:jG l m){b:XR}{e:cC}(hb:b.Of e):∀{fr:List Nat},(∀i∈fr,i<m.length)->cS l b fr->dL m e fr=J
 | [],_,_=>rfl
 |i::r,hl,hf=>by
  obtain⟨c,e1,o⟩:=h.at i (hl i ip);simp[dL,e1,XR.apart hf.1 o hb];exact tU h hb (λj hj=>hl j (iy _ hj)) hf.2
theorem wI{l:List XR}:∀{fr:List Nat},cS l .sil fr
 | []=>trivial
 |i::r=>⟨by cases nthX l i<;>trivial,wI⟩
theorem Ef{l:List XR}{n:Nat}:∀{fr:List Nat},cS l (.made n) fr
 | []=>trivial
 |i::r=>⟨by cases nthX l i<;>trivial,Ef⟩
def br(d:DOp)(r:List DOp):Bool:=(r.isEmpty&&d.free.isEmpty)||(pO d.o.op&&d.free.isEmpty&&match r with
 | [e]=>e.free.isEmpty
 |_=>U)
def runY(E:Env)(call:Cle->List AV->AH->Option (AV×AH)):List DOp->List cC->St->Option St
 | [],_,s=>Z s
 |d::r,done,s=>bif br d r then dT E call ((d::r).map (·.o)) s else
  match bC E call d (dv (done.map (·.r)) d.free) s with
  |some (v,rec,h)=>bif dL done ⟨rec,loadAt {tm:=aK s.tm d.reads,h:=s.h,defers:=[],round:=s.round} d.o.op,s.h,h⟩ d.free then
    runY E call r (done++[⟨rec,loadAt {tm:=aK s.tm d.reads,h:=s.h,defers:=[],round:=s.round} d.o.op,s.h,h⟩]) {s with tm:=putDst s.tm d.o.dst v,h} else Y
  |none=>Y
theorem Bu{E:Env}{call:Cle->List AV->AH->Option (AV×AH)}{d:DOp}{r:List DOp}{done:List cC}{s:St}:runY E call (d::r) done s=bif br d r then dT E call ((d::r).map (·.o)) s else
  match bC E call d (dv (done.map (·.r)) d.free) s with
  |some (v,rec,h)=>bif dL done ⟨rec,loadAt {tm:=aK s.tm d.reads,h:=s.h,defers:=[],round:=s.round} d.o.op,s.h,h⟩ d.free then
    runY E call r (done++[⟨rec,loadAt {tm:=aK s.tm d.reads,h:=s.h,defers:=[],round:=s.round} d.o.op,s.h,h⟩]) {s with tm:=putDst s.tm d.o.dst v,h} else Y
  |none=>Y:=rfl
theorem Ls{d:DOp}{r:List DOp}:cJ (d::r)=bif br d r then Z ([],d::r) else match cJ r with
  |some p=>Z (d::p.1,p.2)
  |none=>Y:=by
 match r with
 | []=>
  have e:br d []=d.free.isEmpty:=by simp[br]
  rw[e];show(match (match d.free.isEmpty with|true=>Z ([],d)|false=>(Y:Option (List DOp×DOp))) with|some (pre,d)=>Z (pre,[d])|none=>Y)=_;cases d.free.isEmpty<;>rfl
 | [x]=>
  have e:br d [x]=(pO d.o.op&&(d.free.isEmpty&&x.free.isEmpty)):=by simp[br,Bool.and_assoc]
  grind [cJ,fm,gI]
 |x::y::z=>
  have e:br d (x::y::z)=U:=by simp[br]
  rw[e];have e1:fm (d::x::y::z)=(fm (x::y::z)).map λp=>(d::p.1,p.2):=rfl;have e2:gI (d::x::y::z)=(gI (x::y::z)).map λp=>(d::p.1,p.2):=rfl
  grind [cJ]
theorem aHR{E:Env}{call:Cle->List AV->AH->Option (AV×AH)}:∀(ops:List DOp) (done:List cC) (s:St),runY E call ops done s=(match cJ ops with
  |some (pre,suf)=>match cg E call pre done s with
   |some s1=>dT E call (suf.map (·.o)) s1
   |none=>Y
  |none=>cg E call ops done s)
 | [],done,s=>rfl
 |d::r,done,s=>by
  rw[Bu,Ls];cases hq:br d r with
  |true=>rfl
  |false=>
   simp;cases hst:bC E call d (dv (done.map (·.r)) d.free) s with
   |none=>grind [cg]
   |some q=>
    obtain⟨v,rec,h⟩:=q;cases hf:dL done ⟨rec,loadAt {tm:=aK s.tm d.reads,h:=s.h,defers:=[],round:=s.round} d.o.op,s.h,h⟩ d.free with
    |false=>
     cases cJ r<;>simp_all [cg]
    |true=>
     have ih:=aHR (E:=E) (call:=call) r (done++[⟨rec,loadAt {tm:=aK s.tm d.reads,h:=s.h,defers:=[],round:=s.round} d.o.op,s.h,h⟩]) {s with tm:=putDst s.tm d.o.dst v,h};simp[hf];rw[ih];cases cJ r<;>simp_all [cg]
def kJ(E:Env)(ops:List DOp)(done:List cC)(s:St)(K:St->Prop):Prop:=∃s',Ev (λn=>runY E (bY E (exec E n)) ops done s=Z s')/\K s'
theorem aPU{done:List cC}(h:K s):kJ E [] done s K:=⟨s,Ev.of λ_=>rfl,h⟩
theorem aNB{ops:List DOp}{Q:Ex->St->Prop}(h:kJ E ops [] s (Q .normal)):Run E (.draw ops) s Q:=by
 obtain⟨s',x,y⟩:=h;refine⟨_,_,(x.mono λn p=>?_:Ev λn=>exec E (n+1) (.draw ops) s=Z (.normal,s')).step,y⟩
 grind [gS,exec,aHR]
theorem tR{d:DOp}{r:List DOp}{done:List cC}{v:AV}{rec:ck}{h:AH}(hl:br d r=U)
  (hf:dL done ⟨rec,loadAt {tm:=aK s.tm d.reads,h:=s.h,defers:=[],round:=s.round} d.o.op,s.h,h⟩ d.free=J)
  (hs:Ev λn=>bC E (bY E (exec E n)) d (dv (done.map (·.r)) d.free) s=Z (v,rec,h))
  (k:kJ E r (done++[⟨rec,loadAt {tm:=aK s.tm d.reads,h:=s.h,defers:=[],round:=s.round} d.o.op,s.h,h⟩]) ((s.toH h).put d.o.dst v) K):kJ E (d::r) done s K:=by
 obtain⟨s',x,y⟩:=k;refine⟨s',(hs.and x).mono λn ⟨a,b⟩=>?_,y⟩;rw[Bu,hl];simp[*];exact U106
theorem aGV{d:DOp}{r:List DOp}{done:List cC}(hl:br d r=J)(h:wpOps E ((d::r).map (·.o)) s K):kJ E (d::r) done s K:=by
 obtain⟨s',x,y⟩:=vU _ _ _ h;refine⟨s',x.mono λn p=>?_,y⟩
 grind [Bu]
def fK(h:AH)(v:AV):Bool:=(ids v).all λb=>ir b h.next&&match h.get b with
 |some k=>below h.next (hE k)
 |none=>J
def aN(h:AH):Option AV->Bool
 |some v=>fK h v
 |none=>J
theorem bz{h:AH}{o:Option AV}(k:bp h o=J):aN h o=J:=by
 cases o with
 |none=>rfl
 |some v=>
  refine j3.2 λb hb=>?_
  have:=j3.1 k b hb;rw[im] at this⊢
  refine⟨this.1,?_⟩;have h2:=this.2;split at h2
  ·rename_i cs rw hg;simp[hg];exact h2
  grind
theorem xW{h:AH}{l:List Nat}{tm:Tr AV}(hn:(l.all λt=>aN h (tm.get t))=J):below h.next (aQ (aK tm l).ag)=J/\fG h (aQ (aK tm l).ag)=J:=by
 have key:∀b∈aQ (aK tm l).ag,(ir b h.next&&match h.get b with|some k=>below h.next (hE k)|none=>J)=J:=by
  intro b hb;obtain⟨v,hv,hbv⟩:=Th hb;obtain⟨k,hk⟩:=vf hv;rw[sD] at hk;split at hk
  ·rename_i hkl;have:=j3.1 hn k hkl;rw[hk] at this;exact j3.1 this b hbv
  grind
 exact⟨j3.2 λb hb=>by grind,j3.2 λb hb=>key b hb⟩
def fU:Option AV->List Nat
 |some v=>ids v
 |none=>[]
def dc(s:St):List Nat->List Nat
 | []=>[]
 |t::r=>fU (s.eval (.t t))++dc s r
theorem zF{x:Nat}:∀{l:List Nat} {j:Nat} {v:AV},j∈l->s.eval (.t j)=Z v->x∈ids v->x∈dc s l
 |t::r,j,v,hj,hv,hx=>by
  rw[dc,jv];rcases jl.1 hj with rfl|hj
  ·rw[hv];exact .inl hx
  ·exact .inr (zF hj hv hx)
theorem Tg{l:List Nat}{x:Nat}(hx:x∈aQ (aK s.tm l).ag):x∈dc s l:=by
 grind [ye,zF]
theorem zE{x:Nat}:∀{l:List Nat},x∈dc s l->x∈aQ (aK s.tm l).ag:=by
 intro l;have:∀{m:List Nat},(∀j∈m,j∈l)->x∈dc s m->x∈aQ (aK s.tm l).ag:=by
  intro m
  induction m with
  |nil=>intro _ h;cases h
  |cons t r ih=>
   intro hm h;rw[dc,jv] at h;rcases h with h|h
   ·cases hv:s.eval (.t t) with
    |none=>rw[hv] at h;cases h
    |some v=>
     rw[hv] at h;exact xX (vG (xU (hm t ip) hv)) x h
   grind
 grind
theorem bCL{d:Option Nat}{v:AV}:(s.put d v).h=s.h:=by cases d<;>rfl
theorem Kz{d:DOp}{near:List Nat}{v:AV}(hc:bU d.reads d.o.op=J)(hg:fF d.reads d.o.guard=J)(hw:aw s d.o.guard=Z J)
  (hn:(d.reads.all λt=>aN s.h (s.tm.get t))=J) (ho:aL E cQ s d.o.op=Z (v,s)):
  Ev λn=>bC E (bY E (exec E n)) d near s=Z (v,⟨bf d.o.op (aQ (aK s.tm d.reads).ag),[],s.h.next,s.h.next⟩,s.h):=by
 refine Ev.of λn=>?_
 obtain⟨n1,n2⟩:=xW hn;exact U152
def fi(l:List Nat):AOp->Bool
 |.alloc _=>J
 |.box x=>dH l x
 |.buildSlice _ _ _ ps=>ps.all λp=>dH l p.2.2
 |.cP _ _ _ a b=>dH l a&&dH l b
 |_=>U
theorem aTY{l:List Nat}{op:AOp}{v:AV}{s1:St}(hc:fi l op=J)(h:aL E cQ s op=Z (v,s1)):
  ∃cs,s1=s.toH (s.h.alloc (.cells cs J))/\aL E cQ (seen s l []) op=Z (v,(seen s l []).toH ((aJ s.h []).alloc (.cells cs J))):=by
 cases op with
 |alloc z=>
  simp[aL] at h;exact⟨z,h.2.symm,by rw[<-h.1];rfl⟩
 |box x=>
  simp[fi] at hc;simp[aL,seen_eval hc] at h⊢
  cases he:(s.eval x).bind AV.cells with
  |none=>grind
  |some cs=>
   rw[he] at h;simp at h;exact⟨cs,h.2.symm,by rw[<-h.1];rfl⟩
 |buildSlice es n z ps=>
  rw[fi] at hc;simp[aL,vX hc] at h⊢
  cases he:fill s z ps with
  |none=>grind
  |some cs=>
   rw[he] at h;simp at h;exact⟨cs,h.2.symm,by rw[<-h.1];rfl⟩
 |cP es bytes z a b=>
  simp[fi] at hc;simp only[aL,seen_eval hc.1,seen_eval hc.2] at h⊢
  split at h
  ·rename_i n m hn hm;cases hb:(ii n m&&ii (m*bytes) cR&&ii m (2^40)) with
   |false=>grind
   |true=>
    rw[hb] at h;simp at h;refine⟨_,h.2.symm,?_⟩;rw[cond_true,<-h.1];rfl
  ·cases h
 |_=>simp only[fi,A6] at hc
theorem aEE{h:AH}{cs:List AV}:dw h [] ((aJ h []).alloc (.cells cs J))=h.alloc (.cells cs J):=by
 have e:((aJ h []).alloc (.cells cs J)).get h.next=Z (.cells cs J):=by
  rw[AH.aS];exact if_pos rfl
 show(⟨h.next+1,cx ((aJ h []).alloc (.cells cs J)) h.next (h.next+1-h.next) h.tr⟩:AH)=_;rw[Bl];simp[cx,e];rfl
theorem xV{l vs:List Nat}{op:AOp}{s':St}(h:fi l op=J):jL s' vs op=[]/\cZ s' op=[]/\dm op=U:=by
 cases op<;>first|exact⟨rfl,rfl,rfl⟩|(simp only[fi,A6] at h)
theorem aOK{d:DOp}{near:List Nat}{v:AV}{s1:St}(hc:fi d.reads d.o.op=J)(hg:fF d.reads d.o.guard=J)(hw:aw s d.o.guard=Z J)
  (hn:(d.reads.all λt=>aN s.h (s.tm.get t))=J) (ho:aL E cQ s d.o.op=Z (v,s1)):
  s1=s.toH s1.h/\s1.h.next=s.h.next+1/\Ev λn=>bC E (bY E (exec E n)) d near s=Z (v,⟨[],[],s.h.next,s.h.next+1⟩,s1.h):=by
 obtain⟨cs,rfl,hr⟩:=aTY hc ho;refine⟨rfl,rfl,Ev.of λn=>?_⟩;obtain⟨n1,_⟩:=xW hn;have hr:=vz (call:=bY E (exec E n)) hr;have hw':aw {tm:=aK s.tm d.reads,h:=s.h,defers:=[],round:=s.round} d.o.guard=Z J:=by
  exact U102
 have hb:=U185;obtain⟨_,_,m3⟩:=xV (vs:=[]) (s':=s) hc;have m1:=λvs s'=>(xV (vs:=vs) (s':=s') hc).1;have m2:=λs'=>(xV (vs:=[]) (s':=s') hc).2.1;have b0:below s.h.next []=J:=rfl;have k0:fG s.h []=J:=rfl;simp[seen] at hr;simp only[bC,ja,cond_true,cond_false,St.toH,Ay,aEE, *];rfl
theorem Hw{α:Type}{v:α}:∀(n k:Nat) (t:Tr α),t.get k=Z v->k<n->Tr.lV n t k (Z v)=t
 |0,k,t,_,h=>om
 |n+1,k,.nil,h,_=>by grind [Tr.get]
 |n+1,k,.nd l x r,h,hk=>by
  simp only[Tr.get] at h;simp[Tr.lV];cases h0:ig k 0 with
  |true=>grind
  |false=>
   rw[h0] at h;have hz:k≠0:=λe=>Sa;simp at h⊢
   cases h1:ig (k%2) 1 with
   |true=>rw[h1] at h;rw[cond_true] at h⊢;rw[Hw n (k/2) l h om]
   |false=>rw[h1] at h;rw[cond_false] at h⊢;rw[Hw n (k/2-1) r h om]
theorem aCX{d:DOp}{near:List Nat}{v:AV}{s1:St}{n a:Nat}{x:Opd}(hop:d.o.op=.store n (.t a) x)(ha:b9 d.reads a=J)(hx:dH d.reads x=J)(hg:fF d.reads d.o.guard=J)(hw:aw s d.o.guard=Z J)
  (hn:(d.reads.all λt=>aN s.h (s.tm.get t))=J) (ho:aL E cQ s d.o.op=Z (v,s1)):
  s1=s.toH s1.h/\s1.h.next=s.h.next/\∃b,fU (s.eval (.t a))=[b]/\Ev λn=>bC E (bY E (exec E n)) d near s=Z (v,⟨[b],[b],s.h.next,s.h.next⟩,s1.h):=by
 rw[hop] at ho;simp[aL] at ho;split at ho
 ·rename_i b off l e1 e2;split at ho
  ·rename_i cs e3;cases hb:(ig l.length n&&ii (off+n) cs.length) with
   |false=>grind
   |true=>
    rw[hb] at ho;simp at ho;obtain⟨rfl,rfl⟩:=ho;refine⟨rfl,rfl,b,by rw[e1];rfl,Ev.of λm=>?_⟩
    obtain⟨n1,n2⟩:=xW hn;have hw':aw {tm:=aK s.tm d.reads,h:=s.h,defers:=[],round:=s.round} d.o.guard=Z J:=by
     exact U102
    have mb:b∈aQ (aK s.tm d.reads).ag:=zE (zF (sM ha) e1 (by grind [ids]))
    have bl:ir b s.h.next=J:=j3.1 n1 b mb;have hkn:fG s.h [b]=J:=j3.2 λy hy=>by
     rw[jb.1 hy];exact j3.1 n2 b mb
    have p1:(aK s.tm d.reads).get a=Z (.ptr b off):=xU (sM ha) e1;have i1:∀h:AH,kL {tm:=aK s.tm d.reads,h:=h,defers:=[],round:=s.round} (.t a)=[b]:=by grind [kL,St.eval,ids]
    have e2':(St.eval {tm:=aK s.tm d.reads,h:=aJ s.h [b],defers:=[],round:=s.round} x).bind AV.cells=Z l:=by
     rw[<-e2];exact congrArg (·.bind AV.cells) (seen_eval (s:=s) (F:=[b]) hx)
    have e3':(aJ s.h [b]).get b=Z (.cells cs J):=by rw[Ry,e3]
    have hro:aL E (bY E (exec E m)) {tm:=aK s.tm d.reads,h:=aJ s.h [b],defers:=[],round:=s.round} (.store n (.t a) x)=Z (bJ,{tm:=aK s.tm d.reads,h:=(aJ s.h [b]).put b (Z (.cells (putAt cs off l) J)),defers:=[],round:=s.round}):=by
     have ea:St.eval {tm:=aK s.tm d.reads,h:=aJ s.h [b],defers:=[],round:=s.round} (.t a)=Z (.ptr b off):=p1;simp[aL, *]
    have hm:dw s.h [b] ((aJ s.h [b]).put b (Z (.cells (putAt cs off l) J)))=s.h.put b (Z (.cells (putAt cs off l) J)):=by
     have e:((aJ s.h [b]).put b (Z (.cells (putAt cs off l) J))).get b=Z (.cells (putAt cs off l) J):=by rw[AH.aO,if_pos rfl]
     show(⟨s.h.next,cx _ s.h.next (s.h.next-s.h.next) (s.h.tr.put b (((aJ s.h [b]).put b (Z (.cells (putAt cs off l) J))).get b))⟩:AH)=_;rw[Nat.sub_self,e];rfl
    have hble:ii s.h.next s.h.next=J:=Sp;have hbl1:below s.h.next [b]=J:=by grind [below]
    have hn2:((aJ s.h [b]).put b (Z (.cells (putAt cs off l) J))).next=s.h.next:=rfl;simp only[bC,jL,ja,cond_true,dm,cond_false,cZ,Ay, *]
  grind
 grind
inductive oN where
 |stay
 |make (x:Blk)
 |fill (b:Nat) (x:Blk)
 |move (b:Nat) (x:Blk)
def oN.act:oN->AH->AH
 |.stay,h=>h
 |.make x,h=>h.alloc x
 |.fill b x,h=>h.put b (Z x)
 |.move b x,h=>(h.put b Y).alloc x
def oA(nx:Nat)(blk:Option Blk)(es bytes:Nat)(new:List AV)(n:Nat)(a:AV):Option (AV×oN):=
 match a with
  |.val (.slice Y 0 0)=>bif ig n 0 then Z (a,.stay) else
    bif cW n bytes then Z (.own nx 0 n es Y,.make (.cells new J)) else Y
  |.imm cs k (Z c)=>bif ig n 0 then Z (a,.stay) else bif ir c (k+n)&&cW (k+n) bytes&&ii (k*es) cs.length then
    Z (.own nx 0 (k+n) es Y,.make (.cells (cs.take (k*es)++new) J)) else Y
  |.imm _ _ Y=>bif ig n 0 then Z (a,.stay) else Y
  |.own b off k es' cap=>bif ig n 0 then Z (a,.stay) else
   match blk with
   |some (.cells cs rw)=>bif ig es es'&&ii (off+k*es) cs.length&&cW (k+n) bytes then
    (match cap with
    |some c=>bif ii (k+n) c then
      (bif rw&&ii (off+(k+n)*es) cs.length then Z (.own b off (k+n) es cap,.fill b (.cells (putAt cs (off+k*es) new) J)) else Y)
     else Z (.own nx 0 (k+n) es Y,.make (.cells ((cs.drop off).take (k*es)++new) J))
    |none=>bif ir (off+k*es) cs.length&&ii (off+(k+n)*es) cs.length then
      (bif rw then Z (.own b off (k+n) es Y,.fill b (.cells (putAt cs (off+k*es) new) J)) else Y)
     else bif rw&&ig (off+k*es) cs.length then
      Z (.own nx 0 (k+n) es Y,.move b (.cells (cs.drop off++new) J)) else Y) else Y
   |_=>Y
  |_=>Y
def blkOf(h:AH)(a:AV):Option Blk:=match ids a with
 | [b]=>h.get b
 |_=>Y
def nL(h:AH)(es bytes:Nat)(a x:AV):Option (AV×oN):=match au h es x with
 |none=>Y
 |some p=>oA h.next (blkOf h a) es bytes p.1 p.2 a
theorem wQ{α β:Type}{f:α->β}{b:Bool}{x y:Option α}:(bif b then x else y).map f=bif b then x.map f else y.map f:=by grind
theorem wT{es bytes:Nat}{sl x:Opd}:bN s es bytes sl x=match s.eval sl,s.eval x with
  |some a,Z x=>(nL s.h es bytes a x).map λp=>(p.1,s.toH (p.2.act s.h))
  |_,_=>Y:=by
 cases h1:s.eval sl with
 |none=>grind [bN]
 |some a=>
  cases h2:s.eval x with
  |none=>grind [bN]
  |some x=>
   simp[bN,nL, *];cases au s.h es x with
   |none=>rfl
   |some p=>
    obtain⟨new,n⟩:=p;simp only;split
    ·simp[oA,wQ];rfl
    ·simp[oA,wQ];rfl
    ·simp[oA,wQ];rfl
    ·rename_i b off k es' cap;have hb:blkOf s.h (.own b off k es' cap)=s.h.get b:=rfl;simp[oA,wQ,hb];cases s.h.get b with
     |none=>rfl
     |some kk=>
      cases kk with
      |cells cs rw=>
       simp[wQ];cases cap with
       |none=>simp[wQ];rfl
       |some c=>simp[wQ];rfl
      |_=>rfl
    ·rename_i hA hB hC hD;unfold oA
     grind
theorem aPR{h h2:AH}{es:Nat}{x:AV}(g:∀y∈ids x,h2.get y=h.get y):au h2 es x=au h es x:=by
 cases x with
 |own b off n es' cap=>
  grind [au,ids]
 |val x=>
  exact U101
 |_=>rfl
theorem bAG{h h2:AH}{es bytes:Nat}{a x:AV}(hn:h2.next=h.next)(ga:∀y∈ids a,h2.get y=h.get y)(gx:∀y∈ids x,h2.get y=h.get y):nL h2 es bytes a x=nL h es bytes a x:=by
 grind [blkOf,nL,aPR]
def oN.on:oN->List Nat->Prop
 |.stay,_=>True
 |.make (.cells _ _),_=>True
 |.make _,_=>False
 |.fill b (.cells _ _),l=>l=[b]
 |.fill _ _,_=>False
 |.move b (.cells _ _),l=>l=[b]
 |.move _ _,_=>False
theorem aLZ{h:AH}{es bytes:Nat}{a x v:AV}{c:oN}(e:nL h es bytes a x=Z (v,c)):c.on (ids a):=by
 unfold nL at e;split at e
 ·cases e
 ·rename_i p _;have t1:=U188;have t2:=U189;unfold oA at e;split at e
  ·rcases t1 e with e|e
   ·cases e;trivial
   ·cases t2 e;trivial
  ·rcases t1 e with e|e
   ·cases e;trivial
   ·cases t2 e;trivial
  ·cases t2 e;trivial
  ·rename_i b off k es' cap;rcases t1 e with e|e
   ·cases e;trivial
   ·split at e
    ·have e:=t2 e;split at e
     ·rcases t1 e with e|e
      ·cases t2 e;rfl
      ·cases e;trivial
     ·rcases t1 e with e|e
      ·cases t2 e;rfl
      ·cases t2 e;rfl
    ·cases e
  ·cases e
theorem wN{F:AH}:∀(l:List Nat) (t:Tr Blk),(∀y∈l,F.get y=t.get y/\(t.get y).isSome=J)->eD F l t=t
 | [],t,_=>rfl
 |b::r,t,h=>by
  show(eD F r t).put b (F.get b)=t;rw[wN r t λy hy=>h y (iy _ hy)];obtain⟨h1,h2⟩:=h b ip;rw[h1];cases hg:t.get b with
  |none=>grind
  |some k=>exact Hw (b+1) b t hg (je b)
theorem aQM{h:AH}{vs l:List Nat}{c:oN}(hc:c.on l)(hl:∀y∈l,y∈vs/\y<h.next/\(h.get y).isSome=J):dw h l (c.act (aJ h vs))=c.act h/\h.next<=(c.act h).next/\(c.act (aJ h vs)).next=(c.act h).next:=by
 have g:∀y∈l,(aJ h vs).get y=h.tr.get y/\(h.tr.get y).isSome=J:=λy hy=>⟨mi (hl y hy).1,(hl y hy).2.2⟩;cases c with
 |stay=>
  refine⟨?_,ij _,rfl⟩;show(⟨h.next,cx _ h.next (h.next-h.next) (eD (aJ h vs) l h.tr)⟩:AH)=h;rw[wN l h.tr g,Nat.sub_self];rfl
 |make x=>
  refine⟨?_,j5 _,rfl⟩;have e:((aJ h vs).alloc x).get h.next=Z x:=by rw[AH.aS];exact if_pos rfl
  show(⟨h.next+1,cx ((aJ h vs).alloc x) h.next (h.next+1-h.next) (eD ((aJ h vs).alloc x) l h.tr)⟩:AH)=h.alloc x;rw[wN l h.tr λy hy=>⟨?_,(g y hy).2⟩,Bl]
  ·simp[cx,e];rfl
  ·rw[AH.aS,if_neg (by have:=(hl y hy).2.1;show¬y=h.next;omega)]
   grind
 |fill b x=>
  have hlb:l=[b]:=by cases x<;>first|exact hc|exact hc.elim
  subst hlb;refine⟨?_,ij _,rfl⟩;have e:((aJ h vs).put b (Z x)).get b=Z x:=by rw[AH.aO,if_pos rfl]
  show(⟨h.next,cx _ h.next (h.next-h.next) (h.tr.put b (((aJ h vs).put b (Z x)).get b))⟩:AH)=_;rw[Nat.sub_self,e];rfl
 |move b x=>
  have hlb:l=[b]:=by cases x<;>first|exact hc|exact hc.elim
  subst hlb;refine⟨?_,j5 _,rfl⟩;have hb:=(hl b ip).2.1;have e:(((aJ h vs).put b Y).alloc x).get h.next=Z x:=by rw[AH.aS];exact if_pos rfl
  have e2:(((aJ h vs).put b Y).alloc x).get b=Y:=by rw[AH.aS,if_neg (by show¬b=h.next;omega),AH.aO,if_pos rfl]
  show(⟨h.next+1,cx (((aJ h vs).put b Y).alloc x) h.next (h.next+1-h.next) (h.tr.put b ((((aJ h vs).put b Y).alloc x).get b))⟩:AH)=(h.put b Y).alloc x;rw[Bl,e2];simp[cx,e];rfl
theorem aCB{d:DOp}{near:List Nat}{v:AV}{s1:St}{es bytes a:Nat}{x:Opd}(hop:d.o.op=.append es bytes (.t a) x)(ha:b9 d.reads a=J)(hx:dH d.reads x=J)(hg:fF d.reads d.o.guard=J)(hw:aw s d.o.guard=Z J)
  (hn:(d.reads.all λt=>aN s.h (s.tm.get t))=J) (hna:bp s.h (s.eval (.t a))=J) (ho:aL E cQ s d.o.op=Z (v,s1)):
  s1=s.toH s1.h/\s.h.next<=s1.h.next/\Ev λn=>bC E (bY E (exec E n)) d near s=Z (v,⟨aQ (aK s.tm d.reads).ag,fU (s.eval (.t a)),s.h.next,s1.h.next⟩,s1.h):=by
 rw[hop] at ho;have ho:bN s es bytes (.t a) x=Z (v,s1):=ho;rw[wT] at ho;split at ho
 ·rename_i va vx e1 e2;cases hq:nL s.h es bytes va vx with
  |none=>grind
  |some p=>
   obtain⟨w,c⟩:=p;rw[hq] at ho;simp at ho;obtain⟨rfl,rfl⟩:=ho;obtain⟨n1,n2⟩:=xW hn;have inA:∀y∈ids va,y∈aQ (aK s.tm d.reads).ag:=λy hy=>zE (zF (sM ha) e1 hy);have inX:∀y∈ids vx,y∈aQ (aK s.tm d.reads).ag:=λy hy=>by
    cases x with
    |c w=>
     cases e2;have:ids vx=[]:=List.isEmpty_iff.1 hx
     grind
    |t i=>exact zE (zF (sM hx) e2 hy)
   have hla:∀y∈ids va,y∈aQ (aK s.tm d.reads).ag/\y<s.h.next/\(s.h.get y).isSome=J:=λy hy=>by
    refine⟨inA y hy,j8.mp (j3.1 n1 y (inA y hy)),?_⟩;rw[e1] at hna;have:=j3.1 hna y hy
    grind
   obtain⟨m1,m2,m3⟩:=aQM (h:=s.h) (vs:=aQ (aK s.tm d.reads).ag) (aLZ hq) hla;refine⟨rfl,m2,Ev.of λm=>?_⟩;have hw':aw {tm:=aK s.tm d.reads,h:=s.h,defers:=[],round:=s.round} d.o.guard=Z J:=by
    exact U102
   have hq':nL (aJ s.h (aQ (aK s.tm d.reads).ag)) es bytes va vx=Z (w,c):=by
    rw[<-hq];exact bAG rfl (λy hy=>mi (inA y hy)) (λy hy=>mi (inX y hy))
   have hro:aL E (bY E (exec E m)) {tm:=aK s.tm d.reads,h:=aJ s.h (aQ (aK s.tm d.reads).ag),defers:=[],round:=s.round} (.append es bytes (.t a) x)=Z (w,{tm:=aK s.tm d.reads,h:=c.act (aJ s.h (aQ (aK s.tm d.reads).ag)),defers:=[],round:=s.round}):=by
    have p1:St.eval {tm:=aK s.tm d.reads,h:=aJ s.h (aQ (aK s.tm d.reads).ag),defers:=[],round:=s.round} (.t a)=Z va:=xU (sM ha) e1;have p2:St.eval {tm:=aK s.tm d.reads,h:=aJ s.h (aQ (aK s.tm d.reads).ag),defers:=[],round:=s.round} x=Z vx:=by
     rw[<-e2];exact seen_eval (s:=s) (F:=aQ (aK s.tm d.reads).ag) hx
    show bN _ es bytes (.t a) x=_;rw[wT,p1,p2];simp only[hq',Ab];rfl
   have i1:∀h:AH,kL {tm:=aK s.tm d.reads,h:=h,defers:=[],round:=s.round} (.t a)=ids va:=by grind [xU,sM,kL,St.eval]
   have hble:ii s.h.next (c.act (aJ s.h (aQ (aK s.tm d.reads).ag))).next=J:=Sa;have hbl1:below s.h.next (ids va)=J:=j3.2 λy hy=>j8.mpr (hla y hy).2.1;have iv:fU (s.eval (.t a))=ids va:=by rw[e1];rfl
   have hn3:(s.toH (c.act s.h)).h.next=(c.act (aJ s.h (aQ (aK s.tm d.reads).ag))).next:=m3.symm;simp only[bC,hw',hop,n1,jL,n2,ja,cond_true,hro,dm,cond_false,cZ,i1,Ay,hble,hbl1,iv,hn3];rw[m1];rfl
 grind
end Go.AM
namespace Go.AM
variable {E:Env}{s:St}{K:St->Prop}
def aq(h:AH)(b:Nat):List Nat:=match h.get b with
 |some k=>hE k
 |none=>[]
def gG(h:AH)(seen:List Nat):List Nat->Nat
 | []=>0
 |b::r=>(bif b9 seen b then 0 else(aq h b).length)+gG h seen r
theorem aOJ{seen:List Nat}{a b:Nat}:b9 (a::seen) b=(ig b a||b9 seen b):=rfl
theorem aIE{l:List Nat}{x:Nat}(h:x∈l):b9 l x=J:=by
 grind [b9,Nat.beq_refl]
theorem aBP{h:AH}{seen:List Nat}{b:Nat}:∀B:List Nat,gG h (b::seen) B<=gG h seen B
 | []=>ij _
 |c::r=>by
  have ih:=aBP (h:=h) (seen:=seen) (b:=b) r;simp only[gG];exact U107
theorem Qo{h:AH}{seen:List Nat}{b:Nat}(hb:b9 seen b=U):∀{B:List Nat},b∈B->gG h (b::seen) B+(aq h b).length<=gG h seen B
 |c::r,hm=>by
  simp[gG];rcases jl.1 hm with rfl|hm
  ·have h2:b9 (b::seen) b=J:=by grind [aIE]
   have:=aBP (h:=h) (seen:=seen) (b:=b) r
   grind
  ·have ih:=Qo (h:=h) hb hm;exact U107
theorem aNF{h:AH}{n b:Nat}{L seen:List Nat}(hm:b9 seen b=J):reach h (n+1) (b::L) seen=reach h n L seen:=by simp_all [reach]
theorem aNG{h:AH}{n b:Nat}{L seen:List Nat}(hm:b9 seen b=U):reach h (n+1) (b::L) seen=reach h n (aq h b++L) (b::seen):=by
 simp[reach,hm];rfl
theorem Hs{h:AH}{B:List Nat}(hB:∀x∈B,∀y∈aq h x,y∈B):∀(n:Nat) (L seen:List Nat),(∀x∈L,x∈B)->(∀x∈seen,x∈B)->L.length+gG h seen B<=n->(∀x∈seen,∀y∈aq h x,y∈seen\/y∈L)->
  (∀x∈reach h n L seen,x∈B)/\(∀x∈seen,x∈reach h n L seen)/\(∀x∈L,x∈reach h n L seen)/\∀x∈reach h n L seen,∀y∈aq h x,y∈reach h n L seen
 |0,L,seen,hL,hs,hn,hc=>by
  have:L=[]:=Sa;subst this;exact⟨hs,λx hx=>hx,(λx hx=>by cases hx),λx hx y hy=>(hc x hx y hy).resolve_right (λq=>by cases q)⟩
 |n+1,[],seen,hL,hs,hn,hc=>⟨hs,λx hx=>hx,(λx hx=>by cases hx),λx hx y hy=>(hc x hx y hy).resolve_right (λq=>by cases q)⟩
 |n+1,b::L,seen,hL,hs,hn,hc=>by
  have hb:=hL b ip;cases hm:b9 seen b with
  |true=>
   rw[aNF hm];obtain⟨h1,h2,h3,h4⟩:=Hs hB n L seen (λx hx=>hL x (iy _ hx)) hs Gr (λx hx y hy=>by
    rcases hc x hx y hy with q|q
    ·grind
    ·rcases jl.1 q with rfl|q<;>grind [sM])
   refine⟨h1,h2,λx hx=>?_,h4⟩;rcases jl.1 hx with rfl|hx<;>grind [sM]
  |false=>
   rw[aNG hm];have hcost:=Qo (h:=h) hm hb;obtain⟨h1,h2,h3,h4⟩:=Hs hB n (aq h b++L) (b::seen) (λx hx=>by
    grind) (λx hx=>by
    grind) Gr (λx hx y hy=>by
    grind)
   grind
theorem wo{x:Option AV}:∀(n:Nat) (t:Tr AV) (k:Nat),(aQ (Tr.lV n t k x).ag).length<=(aQ t.ag).length+(fU x).length
 |0,t,k=>by grind [Tr.lV]
 |n+1,.nil,k=>by
  have h0:(aQ (Tr.ag (.nil:Tr AV))).length=0:=rfl;have i1:=wo (x:=x) n .nil (k/2);have i2:=wo (x:=x) n .nil (k/2-1);rw[Tr.lV];cases ig k 0 with
  |true=>
   cases x<;>simp[Tr.ag,aQ,fU]
  |false=>
   cases ig (k%2) 1<;>simp_all [Tr.ag]
 |n+1,.nd l v r,k=>by
  have i1:=wo (x:=x) n l (k/2);have i2:=wo (x:=x) n r (k/2-1);rw[Tr.lV];cases ig k 0 with
  |true=>
   simp only[cond_true,Tr.ag,ms,jh]
   grind [aQ,fU]
  |false=>
   cases ig (k%2) 1 with
   |true=>simp only[cond_true,cond_false,Tr.ag,ms,jh] at*;omega
   |false=>simp only[cond_false,Tr.ag,ms,jh] at*;omega
theorem Wy:∀l:List Nat,(aQ (aK s.tm l).ag).length<=(dc s l).length
 | []=>ij _
 |t::r=>by
  have ih:=Wy r;have:=wo (x:=s.tm.get t) (t+1) (aK s.tm r) t;rw[dc,jh];have e:s.eval (.t t)=s.tm.get t:=rfl;rw[e];show(aQ (Tr.lV (t+1) (aK s.tm r) t (s.tm.get t)).ag).length<=_;omega
theorem Og{d:DOp}{near:List Nat}{c:Cle}{l:List AV}{v:AV}{h1:AH}{F:List Nat}
  (hrun:∀call F,aL E call {tm:=aK s.tm d.reads,h:=aJ s.h F,defers:=[],round:=s.round} d.o.op=(call c l (aJ s.h F)).bind λ(v,h)=>Z (v,{tm:=aK s.tm d.reads,h,defers:=[],round:=s.round}))
  (hic:dm d.o.op=J) (hft:jL {tm:=aK s.tm d.reads,h:=s.h,defers:=[],round:=s.round} (aQ (aK s.tm d.reads).ag) d.o.op=F) (hg:fF d.reads d.o.guard=J) (hw:aw s d.o.guard=Z J)
  (hv:below s.h.next (aQ (aK s.tm d.reads).ag)=J) (hk:fG s.h F=J) (hc:aE E c l (aJ s.h F) v h1) (hn:s.h.next<=h1.next):
  ∃D,(∀x∈D,x∈F/\¬(x∈aQ (aK s.tm d.reads).ag/\eqB (s.h.get x) (h1.get x)=J))/\(∀x∈F,x∉D->h1.get x=s.h.get x)/\
   Ev λn=>bC E (bY E (exec E n)) d near s=Z (v,⟨F,D,s.h.next,h1.next⟩,dw s.h D h1):=by
 generalize hD:(F.filter λb=> !(b9 (aQ (aK s.tm d.reads).ag++near) b&&eqB (s.h.get b) (h1.get b)))=D;have hDF:∀x∈D,x∈F:=Gr;refine⟨D,λx hx=>⟨hDF x hx,λ⟨q1,q2⟩=>?_⟩,λx hx hd=>?_,?_⟩
 ·grind [aIE]
 ·cases hq:(b9 (aQ (aK s.tm d.reads).ag++near) x&&eqB (s.h.get x) (h1.get x)) with
  |true=>
   rw[im] at hq
   grind [aZE]
  |false=>grind
 ·have hw':aw {tm:=aK s.tm d.reads,h:=s.h,defers:=[],round:=s.round} d.o.guard=Z J:=by
   exact U102
  have hDb:below s.h.next D=J:=j3.2 λy hy=>by
   have:=j3.1 hk y (hDF y hy)
   grind
  have hble:ii s.h.next h1.next=J:=Sa;refine hc.mono λn p=>?_
  simp only[bC,hw',hft,hv,hk,ja,cond_true,hrun,p,Option.bind_some,hic,Ay,hble,hD,hDb]
def lQ(E:Env)(s:St)(rd fr:List Nat)(done:List XR)(dst:Option Nat)(c:Cle)(l:List AV)(k:XR->St->Prop):Prop:=
 ∃B W:List Nat,(∀x∈B,x<s.h.next)/\(∀x∈B,∀y∈aq s.h x,y∈B)/\(∀x∈dc s rd,x∈B)/\(dc s rd).length+gG s.h [] B<=1000000000/\ak s.h/\
  ∀F:List Nat,(∀x∈F,x∈B)->(∀x∈dc s rd,x∈F)->(∀x∈F,∀y∈aq s.h x,y∈F)->
   ∃v h1,aE E c l (aJ s.h F) v h1/\s.h.next<=h1.next/\(∀x∈F,x∉W->x∈dc s rd/\eqB (s.h.get x) (h1.get x)=J)/\
    ∀h':AH,h'.next=h1.next->(∀x,x∈F\/(s.h.next<=x/\x<h1.next)->h'.get x=h1.get x)->(∀x,x<s.h.next->x∉F->h'.get x=s.h.get x)->(∀x,h1.next<=x->h'.get x=s.h.get x)->
     ∃kp,(∀p∈kp,sameAt s.h h' p=J)/\cS done (.turn B W s.h.next h1.next kp) fr/\k (.turn B W s.h.next h1.next kp) ((s.toH h').put dst v)
def lK(E:Env)(s:St)(rd fr:List Nat)(done:List XR)(dst:Option Nat)(c:Cle)(l:List AV)(k:XR->St->Prop):Prop:=
 ((rd.all λt=>dG (s.eval (.t t)))=J->∃v,(∀h,aE E c l h v h)/\k .sil (s.put dst v))/\((rd.all λt=>dG (s.eval (.t t)))=U->lQ E s rd fr done dst c l k)
def cleV:Option AV->List AV->Option (Cle×List AV)
 |some (.yld b),l=>Z (.y b,l)
 |some (.fn (.func f) a b),l=>Z (.f f,a++l++b)
 |_,_=>Y
def wpX(E:Env):List DOp->List XR->St->(St->Prop)->Prop
 | [],_,s,K=>K s
 |⟨⟨dst,g,op⟩,rd,fr⟩::r,done,s,K=>bif br ⟨⟨dst,g,op⟩,rd,fr⟩ r then wpOps E (⟨dst,g,op⟩::r.map (·.o)) s K else
  (rd.all λt=>aN s.h (s.eval (.t t)))=J/\dY s g
   (match op with
   |.call f xs=>bB (aT s xs) λl=>lK E s rd fr done dst (.f f) l λx s'=>wpX E r (done++[x]) s' K
   |.dR x xs=>bB (aT s xs) λl=>bB (cleV (s.eval x) l) λp=>lK E s rd fr done dst p.1 p.2 λx s'=>wpX E r (done++[x]) s' K
   |.store n a x=>cS done (.turn (fU (s.eval a)) (fU (s.eval a)) s.h.next s.h.next []) fr/\wpOps E [⟨dst,Y,.store n a x⟩] s λs'=>wpX E r (done++[.turn (fU (s.eval a)) (fU (s.eval a)) s.h.next s.h.next []]) s' K
   |.append es b a x=>bp s.h (s.eval a)=J/\wpOps E [⟨dst,Y,.append es b a x⟩] s λs'=>cS done (.turn (dc s rd) (fU (s.eval a)) s.h.next s'.h.next []) fr/\wpX E r (done++[.turn (dc s rd) (fU (s.eval a)) s.h.next s'.h.next []]) s' K
   |.alloc z=>wpOps E [⟨dst,Y,.alloc z⟩] s λs'=>wpX E r (done++[.made s.h.next]) s' K
   |.box x=>wpOps E [⟨dst,Y,.box x⟩] s λs'=>wpX E r (done++[.made s.h.next]) s' K
   |.buildSlice a b z p=>wpOps E [⟨dst,Y,.buildSlice a b z p⟩] s λs'=>wpX E r (done++[.made s.h.next]) s' K
   |.cP a b z l c=>wpOps E [⟨dst,Y,.cP a b z l c⟩] s λs'=>wpX E r (done++[.made s.h.next]) s' K
   |op=>bif dF op then cS done (.look (dc s rd) (loadAt s op)) fr/\wpOps E [⟨dst,Y,op⟩] s λs'=>wpX E r (done++[.look (dc s rd) (loadAt s op)]) s' K
    else wpOps E [⟨dst,Y,op⟩] s λs'=>wpX E r (done++[.sil]) s' K)
   (wpX E r (done++[.sil]) (s.put dst bJ) K)
def kP(rd:List Nat):AOp->Bool
 |.call _ xs=>xs.all (dH rd)
 |.dR x xs=>dH rd x&&xs.all (dH rd)
 |.store _ (.t a) x=>b9 rd a&&dH rd x
 |.append _ _ (.t a) x=>b9 rd a&&dH rd x
 |op=>fi rd op||bU rd op
def okX:Nat->List DOp->Bool
 |_,[]=>J
 |i,d::r=>d.free.all (λj=>ir j i)&&(fF d.reads d.o.guard&&kP d.reads d.o.op)&&okX (i+1) r
theorem Gx{dst:Option Nat}{op:AOp}{K:St->Prop}(hc:dm op=U)(h:wpOps E [⟨dst,Y,op⟩] s K):∃v s1,aL E cQ s op=Z (v,s1)/\K ({s1 with round:=s.round}.put dst v):=by
 have hwo:wpOp E op s=λK=>bB (aL E cQ s op) λ(v,s')=>K v s':=by
  funext K
  cases op<;>first|rfl|grind [dm]
 simp only[wpOps,aw,lB,forall_const,hwo] at h;have h:=h.1;cases hr:aL E cQ s op with
 |none=>rw[hr] at h;exact h.elim
 |some vs=>
  obtain⟨v,s1⟩:=vs;rw[hr] at h;exact⟨v,s1,rfl,h⟩
theorem aDK{t:St}(ht:t=s.toH t.h):{t with round:=s.round}=s.toH t.h:=by
 rw[ht];rfl
theorem aSG{n:Nat}{ld:Option (Nat×Nat×Nat)}{a b:AH}:XR.Of .sil ⟨⟨[],[],n,n⟩,ld,a,b⟩:=⟨rfl,rfl,rfl⟩
theorem aOL{rd:List Nat}{op:AOp}(hc:bU rd op=J):loadAt {tm:=aK s.tm rd,h:=s.h,defers:=[],round:=s.round} op=loadAt s op:=by
 cases op with
 |load n x=>
  cases x<;>simp_all [bU,St.eval,sD,sM,loadAt]
 |_=>rfl
theorem Lc{d:DOp}{r:List DOp}{done:List cC}{X:List XR}{c:Cle}{l:List AV}{k:XR->St->Prop}(hX:jG X done)(hl:br d r=U)(hfr:∀i∈d.free,i<done.length)
  (hrun:∀call F,aL E call {tm:=aK s.tm d.reads,h:=aJ s.h F,defers:=[],round:=s.round} d.o.op=(call c l (aJ s.h F)).bind λ(v,h)=>Z (v,{tm:=aK s.tm d.reads,h,defers:=[],round:=s.round}))
  (hic:dm d.o.op=J) (hft:∀vs,jL {tm:=aK s.tm d.reads,h:=s.h,defers:=[],round:=s.round} vs d.o.op=bif vs.isEmpty then [] else kU s.h (reach s.h 1000000000 vs []))
  (hg:fF d.reads d.o.guard=J) (hw:aw s d.o.guard=Z J) (h:lK E s d.reads d.free X d.o.dst c l k)
  (nx:∀(x:XR) (s':St) (rc:cC),x.Of rc->k x s'->kJ E r (done++[rc]) s' K):kJ E (d::r) done s K:=by
 have h:((d.reads.all λt=>dG (s.eval (.t t)))=J/\∃v,(∀h,aE E c l h v h)/\k .sil (s.put d.o.dst v))\/lQ E s d.reads d.free X d.o.dst c l k:=by
  cases hq:(d.reads.all λt=>dG (s.eval (.t t))) with
  |true=>exact .inl ⟨rfl,h.1 hq⟩
  |false=>exact .inr (h.2 hq)
 rcases h with⟨hp,v,hr,hk⟩|⟨B,W,b1,b2,b3,b4,b5,h⟩
 ·have hv:aQ (aK s.tm d.reads).ag=[]:=Nw hp;have hf0:jL {tm:=aK s.tm d.reads,h:=s.h,defers:=[],round:=s.round} (aQ (aK s.tm d.reads).ag) d.o.op=[]:=Gr;obtain⟨D,d1,_,d3⟩:=Og (near:=dv (done.map (·.r)) d.free) hrun hic hf0 hg hw (by rw[hv];rfl) rfl (hr (aJ s.h [])) (ij _)
  have hD:D=[]:=by
   cases D<;>grind [ip]
  subst hD;have hm:dw s.h [] (aJ s.h [])=s.h:=by grind [yK]
  rw[hm] at d3;have ho:XR.Of .sil ⟨⟨[],[],s.h.next,(aJ s.h []).next⟩,loadAt {tm:=aK s.tm d.reads,h:=s.h,defers:=[],round:=s.round} d.o.op,s.h,s.h⟩:=⟨rfl,rfl,rfl⟩;exact tR hl (tU hX ho hfr wI) d3 (nx _ _ _ ho hk)
 ·generalize hF:reach s.h 1000000000 (aQ (aK s.tm d.reads).ag) []=F;have vb:∀x∈aQ (aK s.tm d.reads).ag,x∈B:=by grind [Tg]
  obtain⟨r1,_,r3,r4⟩:=Hs b2 1000000000 (aQ (aK s.tm d.reads).ag) [] vb (λx hx=>by cases hx) (by grind [Wy]) (λx hx=>by cases hx)
  rw[hF] at r1 r3 r4;have hfF:jL {tm:=aK s.tm d.reads,h:=s.h,defers:=[],round:=s.round} (aQ (aK s.tm d.reads).ag) d.o.op=F:=by
   rw[hft,bKV b5,hF];cases hv:aQ (aK s.tm d.reads).ag with
   |nil=>
    rw[hv] at hF;rw[<-hF];rfl
   |cons x y=>rfl
  have hbel:below s.h.next (aQ (aK s.tm d.reads).ag)=J:=j3.2 λx hx=>j8.mpr (b1 x (vb x hx));have hkn:fG s.h F=J:=j3.2 λx hx=>by
   rw[im];refine⟨j8.mpr (b1 x (r1 x hx)),?_⟩;have h2:=b2 x (r1 x hx);unfold aq at h2;split
   ·rename_i kk e;rw[e] at h2;exact j3.2 λy hy=>j8.mpr (b1 y (h2 y hy))
   ·rfl
  obtain⟨v,h1,c1,c2,c3,c4⟩:=h F r1 (λx hx=>r3 x (zE hx)) r4;obtain⟨D,d1,d2,d3⟩:=Og (near:=dv (done.map (·.r)) d.free) hrun hic hfF hg hw hbel hkn c1 c2;have hDW:∀x∈D,x∈W:=by grind [zE]
  obtain⟨kp,k1,k2,k3⟩:=c4 (dw s.h D h1) rfl (λx hx=>by
   rw[Ja c2]
   grind) (λx hx hxF=>by rw[Ja c2,if_neg om,if_neg λm=>hxF (d1 x m).1]) (λx hx=>by
   rw[Ja c2,if_neg om]
   grind)
  have ho:XR.Of (.turn B W s.h.next h1.next kp) ⟨⟨F,D,s.h.next,h1.next⟩,loadAt {tm:=aK s.tm d.reads,h:=s.h,defers:=[],round:=s.round} d.o.op,s.h,dw s.h D h1⟩:=⟨r1,hDW,rfl,rfl,k1⟩
  grind [tR,tU]
theorem Wq:∀(ops:List DOp) (done:List cC) (X:List XR) (s:St),okX done.length ops=J->jG X done->wpX E ops X s K->kJ E ops done s K
 | [],done,X,s,_,_,h=>aPU h
 |⟨⟨dst,g,op⟩,rd,fr⟩::r,done,X,s,hc,hX,h=>by
  simp only[okX,im] at hc;obtain⟨⟨hfr,hg,hop⟩,hcr⟩:=hc;have hf:=U182;have nx:∀(x:XR) (s':St) (rc:cC),x.Of rc->wpX E r (X++[x]) s' K->kJ E r (done++[rc]) s' K:=λx s' rc ho hk=>
   Wq r (done++[rc]) (X++[x]) s' Gr (hX.snoc ho) hk
  simp only[wpX] at h;cases hl:br ⟨⟨dst,g,op⟩,rd,fr⟩ r with
  |true=>
   simp_all [aGV]
  |false=>
   rw[hl] at h;simp only[cond_false] at h;obtain⟨hkn,h⟩:=h;simp only[dY] at h;cases hw:aw s g with
   |none=>rw[hw] at h;exact h.elim
   |some b=>
    rw[hw] at h;simp only[lB] at h;cases b with
    |false=>exact tR (d:=⟨⟨dst,g,op⟩,rd,fr⟩) hl (tU hX aSG hf wI) (Bs hg hw) (nx _ _ _ aSG (h.2 rfl))
    |true=>
     have h1:=h.1 rfl;clear h;have calm:∀(hcl:bU rd op=J),(bif dF op then cS X (.look (dc s rd) (loadAt s op)) fr/\wpOps E [⟨dst,Y,op⟩] s λs'=>wpX E r (X++[.look (dc s rd) (loadAt s op)]) s' K
       else wpOps E [⟨dst,Y,op⟩] s λs'=>wpX E r (X++[.sil]) s' K)->kJ E (⟨⟨dst,g,op⟩,rd,fr⟩::r) done s K:=λhcl h2=>by
      cases hft:dF op with
      |true=>
       rw[hft] at h2;simp only[cond_true] at h2;obtain⟨h3,h4⟩:=h2;obtain⟨v,s1,hr,hk⟩:=Gx (Dg hcl) h4;have hs:=(xL hcl hr).1;subst hs;have ho:XR.Of (.look (dc s1 rd) (loadAt s1 op)) ⟨⟨bf op (aQ (aK s1.tm rd).ag),[],s1.h.next,s1.h.next⟩,loadAt {tm:=aK s1.tm rd,h:=s1.h,defers:=[],round:=s1.round} op,s1.h,s1.h⟩:=⟨λx hx=>by
        grind [bf,Tg],rfl,rfl,aOL hcl⟩
       exact tR (d:=⟨⟨dst,g,op⟩,rd,fr⟩) hl (tU hX ho hf h3) (Kz (d:=⟨⟨dst,g,op⟩,rd,fr⟩) hcl hg hw hkn hr) (nx _ _ _ ho hk)
      |false=>
       rw[hft] at h2;simp only[cond_false] at h2;obtain⟨v,s1,hr,hk⟩:=Gx (Dg hcl) h2;have hs:=(xL hcl hr).1;subst hs;have e:bf op (aQ (aK s1.tm rd).ag)=[]:=by grind [bf]
       have ho:XR.Of .sil ⟨⟨bf op (aQ (aK s1.tm rd).ag),[],s1.h.next,s1.h.next⟩,loadAt {tm:=aK s1.tm rd,h:=s1.h,defers:=[],round:=s1.round} op,s1.h,s1.h⟩:=⟨e,rfl,rfl⟩;exact tR (d:=⟨⟨dst,g,op⟩,rd,fr⟩) hl (tU hX ho hf wI) (Kz (d:=⟨⟨dst,g,op⟩,rd,fr⟩) hcl hg hw hkn hr) (nx _ _ _ ho hk)
     have mk:∀(hmk:fi rd op=J),(wpOps E [⟨dst,Y,op⟩] s λs'=>wpX E r (X++[.made s.h.next]) s' K)->kJ E (⟨⟨dst,g,op⟩,rd,fr⟩::r) done s K:=λhmk h2=>by
      obtain⟨v,s1,hr,hk⟩:=Gx (xV (vs:=[]) (s':=s) hmk).2.2 h2;obtain⟨e1,e2,e3⟩:=aOK (E:=E) (d:=⟨⟨dst,g,op⟩,rd,fr⟩) (near:=dv (done.map (·.r)) fr) hmk hg hw hkn hr;have ho:XR.Of (.made s.h.next) ⟨⟨[],[],s.h.next,s.h.next+1⟩,loadAt {tm:=aK s.tm rd,h:=s.h,defers:=[],round:=s.round} op,s.h,s1.h⟩:=⟨rfl,rfl,rfl,rfl⟩;have hk':wpX E r (X++[.made s.h.next]) ((s.toH s1.h).put dst v) K:=by
       grind [aDK]
      exact tR (d:=⟨⟨dst,g,op⟩,rd,fr⟩) hl (tU hX ho hf Ef) e3 (nx _ _ _ ho hk')
     cases op with
     |call f xs=>
      simp only at h1;simp only[kP] at hop;cases he:aT s xs with
      |none=>rw[he] at h1;exact h1.elim
      |some l=>
       rw[he] at h1;simp only[lB] at h1;exact Lc (d:=⟨⟨dst,g,.call f xs⟩,rd,fr⟩) hX hl hf (λcall F=>by
        have:aT {tm:=aK s.tm rd,h:=aJ s.h F,defers:=[],round:=s.round} xs=Z l:=by rw[<-he];exact yj (s:=s) (F:=F) hop
        grind [aL]) rfl (λvs=>rfl) hg hw h1 nx
     |dR x xs=>
      simp only at h1;simp only[kP,im] at hop;cases he:aT s xs with
      |none=>rw[he] at h1;exact h1.elim
      |some l=>
       rw[he] at h1;simp only[lB] at h1;cases hq:cleV (s.eval x) l with
       |none=>rw[hq] at h1;exact h1.elim
       |some p=>
        obtain⟨c,l'⟩:=p;rw[hq] at h1;simp only[lB] at h1;refine Lc (d:=⟨⟨dst,g,.dR x xs⟩,rd,fr⟩) hX hl hf (λcall F=>?_) rfl (λvs=>rfl) hg hw h1 nx;have e1:aT {tm:=aK s.tm rd,h:=aJ s.h F,defers:=[],round:=s.round} xs=Z l:=by rw[<-he];exact yj (s:=s) (F:=F) hop.2
        have e2:St.eval {tm:=aK s.tm rd,h:=aJ s.h F,defers:=[],round:=s.round} x=s.eval x:=seen_eval (s:=s) (F:=F) hop.1;simp only[aL,e1,e2];unfold cleV at hq
        grind
     |store n a x=>
      cases a with
      |c w=>grind [kP,fi,bU]
      |t a=>
       simp only[kP,im] at hop;obtain⟨h3,h4⟩:=h1;obtain⟨v,s1,hr,hk⟩:=Gx rfl h4;obtain⟨e1,e2,b,e3,e4⟩:=aCX (E:=E) (d:=⟨⟨dst,g,.store n (.t a) x⟩,rd,fr⟩) (near:=dv (done.map (·.r)) fr) rfl hop.1 hop.2 hg hw hkn hr;rw[e3] at h3 hk;have ho:XR.Of (.turn [b] [b] s.h.next s.h.next []) ⟨⟨[b],[b],s.h.next,s.h.next⟩,loadAt {tm:=aK s.tm rd,h:=s.h,defers:=[],round:=s.round} (.store n (.t a) x),s.h,s1.h⟩:=⟨λx hx=>hx,λx hx=>hx,rfl,rfl,λp hp=>by cases hp⟩
       have hk':wpX E r (X++[.turn [b] [b] s.h.next s.h.next []]) ((s.toH s1.h).put dst v) K:=by
        grind [aDK]
       exact tR (d:=⟨⟨dst,g,.store n (.t a) x⟩,rd,fr⟩) hl (tU hX ho hf h3) e4 (nx _ _ _ ho hk')
     |append es bt a x=>
      cases a with
      |c w=>grind [kP,fi,bU]
      |t a=>
       simp only[kP,im] at hop;obtain⟨hna,h4⟩:=h1;obtain⟨v,s1,hr,h3,hk⟩:=Gx rfl h4;obtain⟨e1,e2,e4⟩:=aCB (E:=E) (d:=⟨⟨dst,g,.append es bt (.t a) x⟩,rd,fr⟩) (near:=dv (done.map (·.r)) fr) rfl hop.1 hop.2 hg hw hkn hna hr;have hnx:({s1 with round:=s.round}.put dst v).h.next=s1.h.next:=by rw[bCL]
       rw[hnx] at h3 hk;have ho:XR.Of (.turn (dc s rd) (fU (s.eval (.t a))) s.h.next s1.h.next []) ⟨⟨aQ (aK s.tm rd).ag,fU (s.eval (.t a)),s.h.next,s1.h.next⟩,loadAt {tm:=aK s.tm rd,h:=s.h,defers:=[],round:=s.round} (.append es bt (.t a) x),s.h,s1.h⟩:=⟨λx hx=>Tg hx,λx hx=>hx,rfl,rfl,λp hp=>by cases hp⟩
       have hk':wpX E r (X++[.turn (dc s rd) (fU (s.eval (.t a))) s.h.next s1.h.next []]) ((s.toH s1.h).put dst v) K:=by
        grind [aDK]
       exact tR (d:=⟨⟨dst,g,.append es bt (.t a) x⟩,rd,fr⟩) hl (tU hX ho hf h3) e4 (nx _ _ _ ho hk')
     |alloc z=>exact mk rfl h1
     |box x=>simp_all [kP,bU]
     |buildSlice a b z p=>simp_all [kP,bU]
     |cP a b z l c=>simp_all [kP,bU]
     |_=>exact calm (by simpa only[kP,fi,Bool.false_or] using hop) h1
theorem pb{ops:List DOp}{Q:Ex->St->Prop}(hc:okX 0 ops=J)(h:wpX E ops [] s (Q .normal)):Run E (.draw ops) s Q:=aNB (Wq ops [] [] s hc .nil h)
end Go.AM
namespace Go.AM
variable {E:Env}{s:St}{K:St->Prop}{r:List DOp}{X:List XR}{dst:Option Nat}{rd fr:List Nat}
def cX(E:Env)(r:List DOp)(X:List XR)(K:St->Prop)(s:St):Prop:=wpX E r X s K
theorem bST:cX E r X K s=wpX E r X s K:=rfl
def bW(s:St):List Nat->Prop
 | []=>True
 |t::l=>aN s.h (s.eval (.t t))=J/\bW s l
theorem bHH:((rd.all λt=>aN s.h (s.eval (.t t)))=J)=bW s rd:=by
 induction rd<;>simp_all [bW]
def allP(s:St):List Nat->Prop
 | []=>True
 |t::l=>dG (s.eval (.t t))=J/\allP s l
theorem bHG:((rd.all λt=>dG (s.eval (.t t)))=J)=allP s rd:=by
 induction rd<;>simp_all [allP]
def dO(E:Env)(dst:Option Nat)(op:AOp)(k:St->Prop)(s:St):Prop:=wpOps E [⟨dst,Y,op⟩] s k
theorem bCA{op:AOp}{k:St->Prop}:dO E dst op k s=wpOps E [⟨dst,Y,op⟩] s k:=rfl
def bZ(E:Env)(r:List DOp)(X:List XR)(dst:Option Nat)(K:St->Prop)(s:St):Prop:=wpX E r (X++[XR.sil]) (s.put dst bJ) K
theorem aSF:bZ E r X dst K s=wpX E r (X++[XR.sil]) (s.put dst bJ) K:=rfl
def gX(o:Option Bool)(a b:St->Prop)(s:St):Prop:=match o with
 |some J=>a s
 |some U=>b s
 |none=>False
theorem bVZ{a b:St->Prop}:gX (Z J) a b s=a s:=rfl
theorem bWA{a b:St->Prop}:gX (Z U) a b s=b s:=rfl
theorem tM{t:Nat}{b:Bool}{a c:St->Prop}:dY s (Z (t,b)) (a s) (c s)=gX (bO (s.eval (.t t)) b) a c s:=by
 rw[Jp];rfl
def cT(E:Env)(rd fr:List Nat)(X:List XR)(dst:Option Nat)(op:AOp)(r:List DOp)(K:St->Prop)(s:St):Prop:=
 cS X (.look (dc s rd) (loadAt s op)) fr/\wpOps E [⟨dst,Y,op⟩] s (cX E r (X++[.look (dc s rd) (loadAt s op)]) K)
theorem aUA{op:AOp}:cT E rd fr X dst op r K s=(cS X (.look (dc s rd) (loadAt s op)) fr/\wpOps E [⟨dst,Y,op⟩] s (cX E r (X++[.look (dc s rd) (loadAt s op)]) K)):=rfl
def fB(E:Env)(X:List XR)(dst:Option Nat)(op:AOp)(r:List DOp)(K:St->Prop)(s:St):Prop:=wpOps E [⟨dst,Y,op⟩] s (cX E r (X++[.made s.h.next]) K)
theorem aTZ{op:AOp}:fB E X dst op r K s=wpOps E [⟨dst,Y,op⟩] s (cX E r (X++[.made s.h.next]) K):=rfl
def mz(E:Env)(fr:List Nat)(X:List XR)(dst:Option Nat)(n:Nat)(a x:Opd)(r:List DOp)(K:St->Prop)(s:St):Prop:=
 cS X (.turn (fU (s.eval a)) (fU (s.eval a)) s.h.next s.h.next []) fr/\wpOps E [⟨dst,Y,.store n a x⟩] s (cX E r (X++[.turn (fU (s.eval a)) (fU (s.eval a)) s.h.next s.h.next []]) K)
theorem aMU{n:Nat}{a x:Opd}:mz E fr X dst n a x r K s=(cS X (.turn (fU (s.eval a)) (fU (s.eval a)) s.h.next s.h.next []) fr/\wpOps E [⟨dst,Y,.store n a x⟩] s (cX E r (X++[.turn (fU (s.eval a)) (fU (s.eval a)) s.h.next s.h.next []]) K)):=rfl
def behX(E:Env)(fr:List Nat)(X:List XR)(F D:List Nat)(n:Nat)(r:List DOp)(K:St->Prop)(s:St):Prop:=
 cS X (.turn F D n s.h.next []) fr/\wpX E r (X++[.turn F D n s.h.next []]) s K
theorem bGS{F D:List Nat}{n:Nat}:behX E fr X F D n r K s=(cS X (.turn F D n s.h.next []) fr/\wpX E r (X++[.turn F D n s.h.next []]) s K):=rfl
def appX(E:Env)(rd fr:List Nat)(X:List XR)(dst:Option Nat)(es b:Nat)(a x:Opd)(r:List DOp)(K:St->Prop)(s:St):Prop:=
 bp s.h (s.eval a)=J/\wpOps E [⟨dst,Y,.append es b a x⟩] s (behX E fr X (dc s rd) (fU (s.eval a)) s.h.next r K)
theorem bGZ{es b:Nat}{a x:Opd}:appX E rd fr X dst es b a x r K s=(bp s.h (s.eval a)=J/\wpOps E [⟨dst,Y,.append es b a x⟩] s (behX E fr X (dc s rd) (fU (s.eval a)) s.h.next r K)):=rfl
def nX(E:Env)(r:List DOp)(X:List XR)(K:St->Prop)(x:XR)(s:St):Prop:=wpX E r (X++[x]) s K
theorem bRQ{x:XR}:nX E r X K x s=wpX E r (X++[x]) s K:=rfl
def calX(E:Env)(rd fr:List Nat)(X:List XR)(dst:Option Nat)(r:List DOp)(K:St->Prop)(s:St)(f:Nat)(o:Option (List AV)):Prop:=bB o λl=>lK E s rd fr X dst (.f f) l (nX E r X K)
theorem aQE{f:Nat}{l:List AV}:calX E rd fr X dst r K s f (Z l)=lK E s rd fr X dst (.f f) l (nX E r X K):=rfl
def Qs(E:Env)(rd fr:List Nat)(X:List XR)(dst:Option Nat)(f:Nat)(xs:List Opd)(r:List DOp)(K:St->Prop)(s:St):Prop:=calX E rd fr X dst r K s f (aT s xs)
theorem aZU{f:Nat}{xs:List Opd}:Qs E rd fr X dst f xs r K s=calX E rd fr X dst r K s f (aT s xs):=rfl
def cavX(E:Env)(rd fr:List Nat)(X:List XR)(dst:Option Nat)(r:List DOp)(K:St->Prop)(s:St)(x:Option AV)(o:Option (List AV)):Prop:=bB o λl=>bB (cleV x l) λp=>lK E s rd fr X dst p.1 p.2 (nX E r X K)
theorem aZP{b:Nat}{l:List AV}:cavX E rd fr X dst r K s (Z (.yld b)) (Z l)=lK E s rd fr X dst (.y b) l (nX E r X K):=rfl
theorem bGO{f:Nat}{a b l:List AV}:cavX E rd fr X dst r K s (Z (.fn (.func f) a b)) (Z l)=lK E s rd fr X dst (.f f) (a++l++b) (nX E r X K):=rfl
def nP(E:Env)(rd fr:List Nat)(X:List XR)(dst:Option Nat)(x:Opd)(xs:List Opd)(r:List DOp)(K:St->Prop)(s:St):Prop:=cavX E rd fr X dst r K s (s.eval x) (aT s xs)
theorem aPZ{x:Opd}{xs:List Opd}:nP E rd fr X dst x xs r K s=cavX E rd fr X dst r K s (s.eval x) (aT s xs):=rfl
theorem ee{c:Cle}{l:List AV}{v:AV}{k:XR->St->Prop}(h:∀h,aE E c l h v h)(hp:allP s rd):lK E s rd fr X dst c l k=k .sil (s.put dst v):=by
 have hp':(rd.all λt=>dG (s.eval (.t t)))=J:=by grind [bHG]
 refine propext ⟨λq=>?_,λq=>⟨λ_=>⟨v,h,q⟩,(λe=>by grind)⟩⟩
 obtain⟨w,hw,hk⟩:=q.1 hp';have:=((hw .empty).det (h .empty)).1
 grind
theorem rY{c:Cle}{l:List AV}{k:XR->St->Prop}(hp:(rd.all λt=>dG (s.eval (.t t)))=U)(h:lQ E s rd fr X dst c l k):lK E s rd fr X dst c l k:=⟨(λe=>by grind),λ_=>h⟩
theorem bOW:wpX E [] X s K=K s:=rfl
theorem bIZ{o:aW}:wpX E [⟨o,rd,[]⟩] X s K=wpOps E [o] s K:=rfl
theorem mt{g:Option (Nat×Bool)}{op:AOp}(hc:pO op=U)(hl:(r.isEmpty&&fr.isEmpty)=U):br ⟨⟨dst,g,op⟩,rd,fr⟩ r=U:=by
 simp_all [br]
theorem bKA{g:Option (Nat×Bool)}{op:AOp}{a:Nat}{l:List Nat}:br ⟨⟨dst,g,op⟩,rd,a::l⟩ r=U:=by
 simp[br]
theorem bJZ{g:Option (Nat×Bool)}{op:AOp}{a b:DOp}{l:List DOp}:br ⟨⟨dst,g,op⟩,rd,fr⟩ (a::b::l)=U:=by
 simp[br]
theorem bJY{g:Option (Nat×Bool)}{op:AOp}{o:aW}{rd' l:List Nat}{a:Nat}:br ⟨⟨dst,g,op⟩,rd,fr⟩ [⟨o,rd',a::l⟩]=U:=by
 simp[br]
theorem aQU{g:Option (Nat×Bool)}{x:Opd}{xs:List Opd}{o:aW}{rd':List Nat}:wpX E [⟨⟨dst,g,.dR x xs⟩,rd,[]⟩,⟨o,rd',[]⟩] X s K=wpOps E [⟨dst,g,.dR x xs⟩,o] s K:=rfl
theorem rV{g:Option (Nat×Bool)}{op:AOp}{A:Prop}(hl:br ⟨⟨dst,g,op⟩,rd,fr⟩ r=U)(h:wpX E (⟨⟨dst,g,op⟩,rd,fr⟩::r) X s K=bif br ⟨⟨dst,g,op⟩,rd,fr⟩ r then wpOps E (⟨dst,g,op⟩::r.map (·.o)) s K else(rd.all λt=>aN s.h (s.eval (.t t)))=J/\dY s g A (bZ E r X dst K s)):
  wpX E (⟨⟨dst,g,op⟩,rd,fr⟩::r) X s K=(bW s rd/\dY s g A (bZ E r X dst K s)):=by
 grind [bHH]
theorem bTJ{x:Opd}(hl:(r.isEmpty&&fr.isEmpty)=U):wpX E (⟨⟨dst,Y,.mv x⟩,rd,fr⟩::r) X s K=(bW s rd/\dO E dst (.mv x) (cX E r (X++[XR.sil]) K) s):=by
 rw[rV (mt rfl hl) (A:=dO E dst (.mv x) (cX E r (X++[XR.sil]) K) s) rfl,pf]
theorem bTH{x:Opd}{tt:Nat}{bb:Bool}(hl:(r.isEmpty&&fr.isEmpty)=U):wpX E (⟨⟨dst,Z (tt,bb),.mv x⟩,rd,fr⟩::r) X s K=(bW s rd/\gX (bO (s.eval (.t tt)) bb) (dO E dst (.mv x) (cX E r (X++[XR.sil]) K)) (bZ E r X dst K) s):=by
 exact(rV (mt rfl hl) (A:=dO E dst (.mv x) (cX E r (X++[XR.sil]) K) s) rfl).trans (congrArg (And (bW s rd)) (tM (s:=s) (a:=dO E dst (.mv x) (cX E r (X++[XR.sil]) K)) (c:=bZ E r X dst K)))
theorem bIW{c a b:Opd}(hl:(r.isEmpty&&fr.isEmpty)=U):wpX E (⟨⟨dst,Y,.pick c a b⟩,rd,fr⟩::r) X s K=(bW s rd/\dO E dst (.pick c a b) (cX E r (X++[XR.sil]) K) s):=by
 rw[rV (mt rfl hl) (A:=dO E dst (.pick c a b) (cX E r (X++[XR.sil]) K) s) rfl,pf]
theorem bIR{c a b:Opd}{tt:Nat}{bb:Bool}(hl:(r.isEmpty&&fr.isEmpty)=U):wpX E (⟨⟨dst,Z (tt,bb),.pick c a b⟩,rd,fr⟩::r) X s K=(bW s rd/\gX (bO (s.eval (.t tt)) bb) (dO E dst (.pick c a b) (cX E r (X++[XR.sil]) K)) (bZ E r X dst K) s):=by
 exact(rV (mt rfl hl) (A:=dO E dst (.pick c a b) (cX E r (X++[XR.sil]) K) s) rfl).trans (congrArg (And (bW s rd)) (tM (s:=s) (a:=dO E dst (.pick c a b) (cX E r (X++[XR.sil]) K)) (c:=bZ E r X dst K)))
theorem bAV{z:List AV}{p:List (Nat×Nat×Opd)}(hl:(r.isEmpty&&fr.isEmpty)=U):wpX E (⟨⟨dst,Y,.build z p⟩,rd,fr⟩::r) X s K=(bW s rd/\dO E dst (.build z p) (cX E r (X++[XR.sil]) K) s):=by
 rw[rV (mt rfl hl) (A:=dO E dst (.build z p) (cX E r (X++[XR.sil]) K) s) rfl,pf]
theorem bAQ{z:List AV}{p:List (Nat×Nat×Opd)}{tt:Nat}{bb:Bool}(hl:(r.isEmpty&&fr.isEmpty)=U):wpX E (⟨⟨dst,Z (tt,bb),.build z p⟩,rd,fr⟩::r) X s K=(bW s rd/\gX (bO (s.eval (.t tt)) bb) (dO E dst (.build z p) (cX E r (X++[XR.sil]) K)) (bZ E r X dst K) s):=by
 exact(rV (mt rfl hl) (A:=dO E dst (.build z p) (cX E r (X++[XR.sil]) K) s) rfl).trans (congrArg (And (bW s rd)) (tM (s:=s) (a:=dO E dst (.build z p) (cX E r (X++[XR.sil]) K)) (c:=bZ E r X dst K)))
theorem bAT{x:Opd}(hl:(r.isEmpty&&fr.isEmpty)=U):wpX E (⟨⟨dst,Y,.cE x⟩,rd,fr⟩::r) X s K=(bW s rd/\dO E dst (.cE x) (cX E r (X++[XR.sil]) K) s):=by
 rw[rV (mt rfl hl) (A:=dO E dst (.cE x) (cX E r (X++[XR.sil]) K) s) rfl,pf]
theorem bAO{x:Opd}{tt:Nat}{bb:Bool}(hl:(r.isEmpty&&fr.isEmpty)=U):wpX E (⟨⟨dst,Z (tt,bb),.cE x⟩,rd,fr⟩::r) X s K=(bW s rd/\gX (bO (s.eval (.t tt)) bb) (dO E dst (.cE x) (cX E r (X++[XR.sil]) K)) (bZ E r X dst K) s):=by
 exact(rV (mt rfl hl) (A:=dO E dst (.cE x) (cX E r (X++[XR.sil]) K) s) rfl).trans (congrArg (And (bW s rd)) (tM (s:=s) (a:=dO E dst (.cE x) (cX E r (X++[XR.sil]) K)) (c:=bZ E r X dst K)))
theorem bOY{op:BinOp}{t:TypeId}{g:Bool}{x y:Opd}(hl:(r.isEmpty&&fr.isEmpty)=U):wpX E (⟨⟨dst,Y,.bin op t g x y⟩,rd,fr⟩::r) X s K=(bW s rd/\dO E dst (.bin op t g x y) (cX E r (X++[XR.sil]) K) s):=by
 rw[rV (mt rfl hl) (A:=dO E dst (.bin op t g x y) (cX E r (X++[XR.sil]) K) s) rfl,pf]
theorem bOV{op:BinOp}{t:TypeId}{g:Bool}{x y:Opd}{tt:Nat}{bb:Bool}(hl:(r.isEmpty&&fr.isEmpty)=U):wpX E (⟨⟨dst,Z (tt,bb),.bin op t g x y⟩,rd,fr⟩::r) X s K=(bW s rd/\gX (bO (s.eval (.t tt)) bb) (dO E dst (.bin op t g x y) (cX E r (X++[XR.sil]) K)) (bZ E r X dst K) s):=by
 exact(rV (mt rfl hl) (A:=dO E dst (.bin op t g x y) (cX E r (X++[XR.sil]) K) s) rfl).trans (congrArg (And (bW s rd)) (tM (s:=s) (a:=dO E dst (.bin op t g x y) (cX E r (X++[XR.sil]) K)) (c:=bZ E r X dst K)))
theorem bTI{op:UnOp}{x:Opd}(hl:(r.isEmpty&&fr.isEmpty)=U):wpX E (⟨⟨dst,Y,.un op x⟩,rd,fr⟩::r) X s K=(bW s rd/\dO E dst (.un op x) (cX E r (X++[XR.sil]) K) s):=by
 rw[rV (mt rfl hl) (A:=dO E dst (.un op x) (cX E r (X++[XR.sil]) K) s) rfl,pf]
theorem bTG{op:UnOp}{x:Opd}{tt:Nat}{bb:Bool}(hl:(r.isEmpty&&fr.isEmpty)=U):wpX E (⟨⟨dst,Z (tt,bb),.un op x⟩,rd,fr⟩::r) X s K=(bW s rd/\gX (bO (s.eval (.t tt)) bb) (dO E dst (.un op x) (cX E r (X++[XR.sil]) K)) (bZ E r X dst K) s):=by
 exact(rV (mt rfl hl) (A:=dO E dst (.un op x) (cX E r (X++[XR.sil]) K) s) rfl).trans (congrArg (And (bW s rd)) (tM (s:=s) (a:=dO E dst (.un op x) (cX E r (X++[XR.sil]) K)) (c:=bZ E r X dst K)))
theorem aMJ{i:Nat}{x:Opd}(hl:(r.isEmpty&&fr.isEmpty)=U):wpX E (⟨⟨dst,Y,.extract i x⟩,rd,fr⟩::r) X s K=(bW s rd/\dO E dst (.extract i x) (cX E r (X++[XR.sil]) K) s):=by
 rw[rV (mt rfl hl) (A:=dO E dst (.extract i x) (cX E r (X++[XR.sil]) K) s) rfl,pf]
theorem aMH{i:Nat}{x:Opd}{tt:Nat}{bb:Bool}(hl:(r.isEmpty&&fr.isEmpty)=U):wpX E (⟨⟨dst,Z (tt,bb),.extract i x⟩,rd,fr⟩::r) X s K=(bW s rd/\gX (bO (s.eval (.t tt)) bb) (dO E dst (.extract i x) (cX E r (X++[XR.sil]) K)) (bZ E r X dst K) s):=by
 exact(rV (mt rfl hl) (A:=dO E dst (.extract i x) (cX E r (X++[XR.sil]) K) s) rfl).trans (congrArg (And (bW s rd)) (tM (s:=s) (a:=dO E dst (.extract i x) (cX E r (X++[XR.sil]) K)) (c:=bZ E r X dst K)))
theorem Wp{i:Nat}{x:Opd}(hl:(r.isEmpty&&fr.isEmpty)=U):wpX E (⟨⟨dst,Y,.fieldAddr i x⟩,rd,fr⟩::r) X s K=(bW s rd/\dO E dst (.fieldAddr i x) (cX E r (X++[XR.sil]) K) s):=by
 rw[rV (mt rfl hl) (A:=dO E dst (.fieldAddr i x) (cX E r (X++[XR.sil]) K) s) rfl,pf]
theorem Wo{i:Nat}{x:Opd}{tt:Nat}{bb:Bool}(hl:(r.isEmpty&&fr.isEmpty)=U):wpX E (⟨⟨dst,Z (tt,bb),.fieldAddr i x⟩,rd,fr⟩::r) X s K=(bW s rd/\gX (bO (s.eval (.t tt)) bb) (dO E dst (.fieldAddr i x) (cX E r (X++[XR.sil]) K)) (bZ E r X dst K) s):=by
 exact(rV (mt rfl hl) (A:=dO E dst (.fieldAddr i x) (cX E r (X++[XR.sil]) K) s) rfl).trans (congrArg (And (bW s rd)) (tM (s:=s) (a:=dO E dst (.fieldAddr i x) (cX E r (X++[XR.sil]) K)) (c:=bZ E r X dst K)))
theorem aCL{i:Nat}{x y:Opd}(hl:(r.isEmpty&&fr.isEmpty)=U):wpX E (⟨⟨dst,Y,.bT i x y⟩,rd,fr⟩::r) X s K=(bW s rd/\dO E dst (.bT i x y) (cX E r (X++[XR.sil]) K) s):=by
 rw[rV (mt rfl hl) (A:=dO E dst (.bT i x y) (cX E r (X++[XR.sil]) K) s) rfl,pf]
theorem aCK{i:Nat}{x y:Opd}{tt:Nat}{bb:Bool}(hl:(r.isEmpty&&fr.isEmpty)=U):wpX E (⟨⟨dst,Z (tt,bb),.bT i x y⟩,rd,fr⟩::r) X s K=(bW s rd/\gX (bO (s.eval (.t tt)) bb) (dO E dst (.bT i x y) (cX E r (X++[XR.sil]) K)) (bZ E r X dst K) s):=by
 exact(rV (mt rfl hl) (A:=dO E dst (.bT i x y) (cX E r (X++[XR.sil]) K) s) rfl).trans (congrArg (And (bW s rd)) (tM (s:=s) (a:=dO E dst (.bT i x y) (cX E r (X++[XR.sil]) K)) (c:=bZ E r X dst K)))
theorem bIX{n:Option Nat}{x:Opd}(hl:(r.isEmpty&&fr.isEmpty)=U):wpX E (⟨⟨dst,Y,.load n x⟩,rd,fr⟩::r) X s K=(bW s rd/\cT E rd fr X dst (.load n x) r K s):=by
 rw[rV (mt rfl hl) (A:=cT E rd fr X dst (.load n x) r K s) rfl,pf]
theorem bIS{n:Option Nat}{x:Opd}{tt:Nat}{bb:Bool}(hl:(r.isEmpty&&fr.isEmpty)=U):wpX E (⟨⟨dst,Z (tt,bb),.load n x⟩,rd,fr⟩::r) X s K=(bW s rd/\gX (bO (s.eval (.t tt)) bb) (cT E rd fr X dst (.load n x) r K) (bZ E r X dst K) s):=by
 exact(rV (mt rfl hl) (A:=cT E rd fr X dst (.load n x) r K s) rfl).trans (congrArg (And (bW s rd)) (tM (s:=s) (a:=cT E rd fr X dst (.load n x) r K) (c:=bZ E r X dst K)))
theorem bIY{x:Opd}(hl:(r.isEmpty&&fr.isEmpty)=U):wpX E (⟨⟨dst,Y,.fI x⟩,rd,fr⟩::r) X s K=(bW s rd/\cT E rd fr X dst (.fI x) r K s):=by
 rw[rV (mt rfl hl) (A:=cT E rd fr X dst (.fI x) r K s) rfl,pf]
theorem bIT{x:Opd}{tt:Nat}{bb:Bool}(hl:(r.isEmpty&&fr.isEmpty)=U):wpX E (⟨⟨dst,Z (tt,bb),.fI x⟩,rd,fr⟩::r) X s K=(bW s rd/\gX (bO (s.eval (.t tt)) bb) (cT E rd fr X dst (.fI x) r K) (bZ E r X dst K) s):=by
 exact(rV (mt rfl hl) (A:=cT E rd fr X dst (.fI x) r K s) rfl).trans (congrArg (And (bW s rd)) (tM (s:=s) (a:=cT E rd fr X dst (.fI x) r K) (c:=bZ E r X dst K)))
theorem aQS{x:Opd}(hl:(r.isEmpty&&fr.isEmpty)=U):wpX E (⟨⟨dst,Y,.b7 x⟩,rd,fr⟩::r) X s K=(bW s rd/\cT E rd fr X dst (.b7 x) r K s):=by
 rw[rV (mt rfl hl) (A:=cT E rd fr X dst (.b7 x) r K s) rfl,pf]
theorem aQO{x:Opd}{tt:Nat}{bb:Bool}(hl:(r.isEmpty&&fr.isEmpty)=U):wpX E (⟨⟨dst,Z (tt,bb),.b7 x⟩,rd,fr⟩::r) X s K=(bW s rd/\gX (bO (s.eval (.t tt)) bb) (cT E rd fr X dst (.b7 x) r K) (bZ E r X dst K) s):=by
 exact(rV (mt rfl hl) (A:=cT E rd fr X dst (.b7 x) r K s) rfl).trans (congrArg (And (bW s rd)) (tM (s:=s) (a:=cT E rd fr X dst (.b7 x) r K) (c:=bZ E r X dst K)))
theorem bJA{k:IntKind}{x:Opd}(hl:(r.isEmpty&&fr.isEmpty)=U):wpX E (⟨⟨dst,Y,.conv k x⟩,rd,fr⟩::r) X s K=(bW s rd/\cT E rd fr X dst (.conv k x) r K s):=by
 rw[rV (mt rfl hl) (A:=cT E rd fr X dst (.conv k x) r K s) rfl,pf]
theorem bIU{k:IntKind}{x:Opd}{tt:Nat}{bb:Bool}(hl:(r.isEmpty&&fr.isEmpty)=U):wpX E (⟨⟨dst,Z (tt,bb),.conv k x⟩,rd,fr⟩::r) X s K=(bW s rd/\gX (bO (s.eval (.t tt)) bb) (cT E rd fr X dst (.conv k x) r K) (bZ E r X dst K) s):=by
 exact(rV (mt rfl hl) (A:=cT E rd fr X dst (.conv k x) r K s) rfl).trans (congrArg (And (bW s rd)) (tM (s:=s) (a:=cT E rd fr X dst (.conv k x) r K) (c:=bZ E r X dst K)))
theorem aQT{x y:Opd}(hl:(r.isEmpty&&fr.isEmpty)=U):wpX E (⟨⟨dst,Y,.bj x y⟩,rd,fr⟩::r) X s K=(bW s rd/\cT E rd fr X dst (.bj x y) r K s):=by
 rw[rV (mt rfl hl) (A:=cT E rd fr X dst (.bj x y) r K s) rfl,pf]
theorem aQP{x y:Opd}{tt:Nat}{bb:Bool}(hl:(r.isEmpty&&fr.isEmpty)=U):wpX E (⟨⟨dst,Z (tt,bb),.bj x y⟩,rd,fr⟩::r) X s K=(bW s rd/\gX (bO (s.eval (.t tt)) bb) (cT E rd fr X dst (.bj x y) r K) (bZ E r X dst K) s):=by
 exact(rV (mt rfl hl) (A:=cT E rd fr X dst (.bj x y) r K s) rfl).trans (congrArg (And (bW s rd)) (tM (s:=s) (a:=cT E rd fr X dst (.bj x y) r K) (c:=bZ E r X dst K)))
theorem aQR{e:Nat}{x:Opd}{l h m:Option Opd}(hl:(r.isEmpty&&fr.isEmpty)=U):wpX E (⟨⟨dst,Y,.dE e x l h m⟩,rd,fr⟩::r) X s K=(bW s rd/\cT E rd fr X dst (.dE e x l h m) r K s):=by
 rw[rV (mt rfl hl) (A:=cT E rd fr X dst (.dE e x l h m) r K s) rfl,pf]
theorem aQN{e:Nat}{x:Opd}{l h m:Option Opd}{tt:Nat}{bb:Bool}(hl:(r.isEmpty&&fr.isEmpty)=U):wpX E (⟨⟨dst,Z (tt,bb),.dE e x l h m⟩,rd,fr⟩::r) X s K=(bW s rd/\gX (bO (s.eval (.t tt)) bb) (cT E rd fr X dst (.dE e x l h m) r K) (bZ E r X dst K) s):=by
 exact(rV (mt rfl hl) (A:=cT E rd fr X dst (.dE e x l h m) r K s) rfl).trans (congrArg (And (bW s rd)) (tM (s:=s) (a:=cT E rd fr X dst (.dE e x l h m) r K) (c:=bZ E r X dst K)))
theorem Ra{x:Opd}(hl:(r.isEmpty&&fr.isEmpty)=U):wpX E (⟨⟨dst,Y,.bP x⟩,rd,fr⟩::r) X s K=(bW s rd/\cT E rd fr X dst (.bP x) r K s):=by
 rw[rV (mt rfl hl) (A:=cT E rd fr X dst (.bP x) r K s) rfl,pf]
theorem Qy{x:Opd}{tt:Nat}{bb:Bool}(hl:(r.isEmpty&&fr.isEmpty)=U):wpX E (⟨⟨dst,Z (tt,bb),.bP x⟩,rd,fr⟩::r) X s K=(bW s rd/\gX (bO (s.eval (.t tt)) bb) (cT E rd fr X dst (.bP x) r K) (bZ E r X dst K) s):=by
 exact(rV (mt rfl hl) (A:=cT E rd fr X dst (.bP x) r K s) rfl).trans (congrArg (And (bW s rd)) (tM (s:=s) (a:=cT E rd fr X dst (.bP x) r K) (c:=bZ E r X dst K)))
theorem bAW{z:List AV}(hl:(r.isEmpty&&fr.isEmpty)=U):wpX E (⟨⟨dst,Y,.alloc z⟩,rd,fr⟩::r) X s K=(bW s rd/\fB E X dst (.alloc z) r K s):=by
 rw[rV (mt rfl hl) (A:=fB E X dst (.alloc z) r K s) rfl,pf]
theorem bAR{z:List AV}{tt:Nat}{bb:Bool}(hl:(r.isEmpty&&fr.isEmpty)=U):wpX E (⟨⟨dst,Z (tt,bb),.alloc z⟩,rd,fr⟩::r) X s K=(bW s rd/\gX (bO (s.eval (.t tt)) bb) (fB E X dst (.alloc z) r K) (bZ E r X dst K) s):=by
 exact(rV (mt rfl hl) (A:=fB E X dst (.alloc z) r K s) rfl).trans (congrArg (And (bW s rd)) (tM (s:=s) (a:=fB E X dst (.alloc z) r K) (c:=bZ E r X dst K)))
theorem bOX{x:Opd}(hl:(r.isEmpty&&fr.isEmpty)=U):wpX E (⟨⟨dst,Y,.box x⟩,rd,fr⟩::r) X s K=(bW s rd/\fB E X dst (.box x) r K s):=by
 rw[rV (mt rfl hl) (A:=fB E X dst (.box x) r K s) rfl,pf]
theorem bOU{x:Opd}{tt:Nat}{bb:Bool}(hl:(r.isEmpty&&fr.isEmpty)=U):wpX E (⟨⟨dst,Z (tt,bb),.box x⟩,rd,fr⟩::r) X s K=(bW s rd/\gX (bO (s.eval (.t tt)) bb) (fB E X dst (.box x) r K) (bZ E r X dst K) s):=by
 exact(rV (mt rfl hl) (A:=fB E X dst (.box x) r K s) rfl).trans (congrArg (And (bW s rd)) (tM (s:=s) (a:=fB E X dst (.box x) r K) (c:=bZ E r X dst K)))
theorem Rb{a b:Nat}{z:List AV}{p:List (Nat×Nat×Opd)}(hl:(r.isEmpty&&fr.isEmpty)=U):wpX E (⟨⟨dst,Y,.buildSlice a b z p⟩,rd,fr⟩::r) X s K=(bW s rd/\fB E X dst (.buildSlice a b z p) r K s):=by
 rw[rV (mt rfl hl) (A:=fB E X dst (.buildSlice a b z p) r K s) rfl,pf]
theorem Qz{a b:Nat}{z:List AV}{p:List (Nat×Nat×Opd)}{tt:Nat}{bb:Bool}(hl:(r.isEmpty&&fr.isEmpty)=U):wpX E (⟨⟨dst,Z (tt,bb),.buildSlice a b z p⟩,rd,fr⟩::r) X s K=(bW s rd/\gX (bO (s.eval (.t tt)) bb) (fB E X dst (.buildSlice a b z p) r K) (bZ E r X dst K) s):=by
 exact(rV (mt rfl hl) (A:=fB E X dst (.buildSlice a b z p) r K s) rfl).trans (congrArg (And (bW s rd)) (tM (s:=s) (a:=fB E X dst (.buildSlice a b z p) r K) (c:=bZ E r X dst K)))
theorem aMI{a b:Nat}{z:List AV}{l c:Opd}(hl:(r.isEmpty&&fr.isEmpty)=U):wpX E (⟨⟨dst,Y,.cP a b z l c⟩,rd,fr⟩::r) X s K=(bW s rd/\fB E X dst (.cP a b z l c) r K s):=by
 rw[rV (mt rfl hl) (A:=fB E X dst (.cP a b z l c) r K s) rfl,pf]
theorem aMG{a b:Nat}{z:List AV}{l c:Opd}{tt:Nat}{bb:Bool}(hl:(r.isEmpty&&fr.isEmpty)=U):wpX E (⟨⟨dst,Z (tt,bb),.cP a b z l c⟩,rd,fr⟩::r) X s K=(bW s rd/\gX (bO (s.eval (.t tt)) bb) (fB E X dst (.cP a b z l c) r K) (bZ E r X dst K) s):=by
 exact(rV (mt rfl hl) (A:=fB E X dst (.cP a b z l c) r K s) rfl).trans (congrArg (And (bW s rd)) (tM (s:=s) (a:=fB E X dst (.cP a b z l c) r K) (c:=bZ E r X dst K)))
theorem bAS{n:Nat}{a x:Opd}(hl:(r.isEmpty&&fr.isEmpty)=U):wpX E (⟨⟨dst,Y,.store n a x⟩,rd,fr⟩::r) X s K=(bW s rd/\mz E fr X dst n a x r K s):=by
 rw[rV (mt rfl hl) (A:=mz E fr X dst n a x r K s) rfl,pf]
theorem bAN{n:Nat}{a x:Opd}{tt:Nat}{bb:Bool}(hl:(r.isEmpty&&fr.isEmpty)=U):wpX E (⟨⟨dst,Z (tt,bb),.store n a x⟩,rd,fr⟩::r) X s K=(bW s rd/\gX (bO (s.eval (.t tt)) bb) (mz E fr X dst n a x r K) (bZ E r X dst K) s):=by
 exact(rV (mt rfl hl) (A:=mz E fr X dst n a x r K s) rfl).trans (congrArg (And (bW s rd)) (tM (s:=s) (a:=mz E fr X dst n a x r K) (c:=bZ E r X dst K)))
theorem aQV{e b:Nat}{a x:Opd}(hl:(r.isEmpty&&fr.isEmpty)=U):wpX E (⟨⟨dst,Y,.append e b a x⟩,rd,fr⟩::r) X s K=(bW s rd/\appX E rd fr X dst e b a x r K s):=by
 rw[rV (mt rfl hl) (A:=appX E rd fr X dst e b a x r K s) rfl,pf]
theorem aQQ{e b:Nat}{a x:Opd}{tt:Nat}{bb:Bool}(hl:(r.isEmpty&&fr.isEmpty)=U):wpX E (⟨⟨dst,Z (tt,bb),.append e b a x⟩,rd,fr⟩::r) X s K=(bW s rd/\gX (bO (s.eval (.t tt)) bb) (appX E rd fr X dst e b a x r K) (bZ E r X dst K) s):=by
 exact(rV (mt rfl hl) (A:=appX E rd fr X dst e b a x r K s) rfl).trans (congrArg (And (bW s rd)) (tM (s:=s) (a:=appX E rd fr X dst e b a x r K) (c:=bZ E r X dst K)))
theorem bJB{f:Nat}{xs:List Opd}(hl:(r.isEmpty&&fr.isEmpty)=U):wpX E (⟨⟨dst,Y,.call f xs⟩,rd,fr⟩::r) X s K=(bW s rd/\Qs E rd fr X dst f xs r K s):=by
 rw[rV (mt rfl hl) (A:=Qs E rd fr X dst f xs r K s) rfl,pf]
theorem bIV{f:Nat}{xs:List Opd}{tt:Nat}{bb:Bool}(hl:(r.isEmpty&&fr.isEmpty)=U):wpX E (⟨⟨dst,Z (tt,bb),.call f xs⟩,rd,fr⟩::r) X s K=(bW s rd/\gX (bO (s.eval (.t tt)) bb) (Qs E rd fr X dst f xs r K) (bZ E r X dst K) s):=by
 exact(rV (mt rfl hl) (A:=Qs E rd fr X dst f xs r K s) rfl).trans (congrArg (And (bW s rd)) (tM (s:=s) (a:=Qs E rd fr X dst f xs r K) (c:=bZ E r X dst K)))
theorem bAU{x:Opd}{xs:List Opd}(hl:br ⟨⟨dst,Y,.dR x xs⟩,rd,fr⟩ r=U):wpX E (⟨⟨dst,Y,.dR x xs⟩,rd,fr⟩::r) X s K=(bW s rd/\nP E rd fr X dst x xs r K s):=by
 rw[rV hl (A:=nP E rd fr X dst x xs r K s) rfl,pf]
theorem bAP{x:Opd}{xs:List Opd}{tt:Nat}{bb:Bool}(hl:br ⟨⟨dst,Z (tt,bb),.dR x xs⟩,rd,fr⟩ r=U):wpX E (⟨⟨dst,Z (tt,bb),.dR x xs⟩,rd,fr⟩::r) X s K=(bW s rd/\gX (bO (s.eval (.t tt)) bb) (nP E rd fr X dst x xs r K) (bZ E r X dst K) s):=by
 exact(rV hl (A:=nP E rd fr X dst x xs r K s) rfl).trans (congrArg (And (bW s rd)) (tM (s:=s) (a:=nP E rd fr X dst x xs r K) (c:=bZ E r X dst K)))
theorem an{h:AH}{v:AV}(hi:ids v=[]):aN h (Z v)=J:=by grind [aN,fK]
theorem aOR{h:AH}{v:Value}:aN h (Z (.val v))=J:=rfl
theorem aOT{h:AH}{l:List AV}{n:Nat}{c:Option Nat}:aN h (Z (.imm l n c))=J:=rfl
theorem aEI{h:AH}{l:List AV}:aN h (Z (.bD l))=J:=rfl
theorem Zp{h:AH}:aN h (Z bJ)=J:=rfl
theorem bm{h:AH}{b o:Nat}{cs:List AV}{rw:Bool}(hb:b<h.next)(g:h.get b=Z (.cells cs rw))(hi:aQ cs=[]):aN h (Z (.ptr b o))=J:=U3
theorem uL{h:AH}{b o n e:Nat}{c:Option Nat}{cs:List AV}{rw:Bool}(hb:b<h.next)(g:h.get b=Z (.cells cs rw))(hi:aQ cs=[]):aN h (Z (.own b o n e c))=J:=U3
theorem Oa{h:AH}{cs:List AV}{rw:Bool}{o n e:Nat}{c:Option Nat}(hi:aQ cs=[]):bp (h.alloc (.cells cs rw)) (Z (.own h.next o n e c))=J:=by
 have:ir h.next (h.alloc (.cells cs rw)).next=J:=Sp;simp only[bp,lN,ids,j9,jc,co, *];rfl
theorem tn{n m:Nat}{l:List Nat}(h:below n l=J)(hm:n<=m):below m l=J:=j3.2 λx hx=>j8.mpr (jw (j8.mp (j3.1 h x hx)) hm)
theorem Zq{h h':AH}{v:AV}(k:aN h (Z v)=J)(hn:h.next<=h'.next)(g:∀b∈ids v,h'.get b=h.get b\/∃kk,h'.get b=Z kk/\hE kk=[]):aN h' (Z v)=J:=by
 refine j3.2 λb hb=>?_
 have:=j3.1 k b hb;rw[im] at this⊢
 refine⟨j8.mpr (jw (j8.mp this.1) hn),?_⟩;rcases g b hb with e|⟨kk,e,e2⟩
 ·grind [tn]
 ·rw[e];simp[e2];rfl
theorem Ea{h:AH}{x:Blk}{v:AV}(k:aN h (Z v)=J):aN (h.alloc x) (Z v)=J:=Zq k (j5 _) λb hb=>.inl (am (by
 have:=j3.1 k b hb
 simp_all))
theorem Ck{h:AH}{cs:List AV}{rw:Bool}{o:Nat}(hi:aQ cs=[]):aN (h.alloc (.cells cs rw)) (Z (.ptr h.next o))=J:=bm (je _) co hi
theorem yN{h:AH}{cs:List AV}{rw:Bool}{o n e:Nat}{c:Option Nat}(hi:aQ cs=[]):aN (h.alloc (.cells cs rw)) (Z (.own h.next o n e c))=J:=uL (je _) co hi
theorem aOS{h:AH}{b:Nat}{cs:List AV}{rw:Bool}{v:AV}(k:aN h (Z v)=J)(hi:aQ cs=[]):aN (h.put b (Z (.cells cs rw))) (Z v)=J:=Zq k (ij _) λc hc=>by
 by_cases e:c=b
 ·subst e;exact .inr ⟨.cells cs rw,by rw[AH.aO,if_pos rfl],hi⟩
 simp_all [AH.aO]
theorem Jr{X:List XR}{ld:Option (Nat×Nat×Nat)}:∀fr:List Nat,cS X (.look [] ld) fr
 | []=>trivial
 |i::l=>by
  refine⟨?_,Jr l⟩;cases nthX X i with
  |turn F D lo hi kp=>exact .inl λx hx=>by cases hx
  |made n=>exact λx hx=>by cases hx
  |_=>trivial
theorem aEZ{ld:Option (Nat×Nat×Nat)}:cS X (.look [] ld) fr=True:=propext ⟨λ_=>trivial,λ_=>Jr fr⟩
theorem aPE{b:XR}:cS X b []=True:=rfl
theorem aEY{b:XR}{i:Nat}:cS X b (i::fr)=((nthX X i).ap b/\cS X b fr):=rfl
theorem bRD{a:XR}:nthX (a::X) 0=a:=rfl
theorem bRC{a:XR}{n:Nat}:nthX (a::X) (n+1)=nthX X n:=rfl
theorem bAL:bW s []=True:=rfl
theorem aQJ{t:Nat}{l:List Nat}:bW s (t::l)=(aN s.h (s.eval (.t t))=J/\bW s l):=rfl
theorem bAK:allP s []=True:=rfl
theorem aQI{t:Nat}{l:List Nat}:allP s (t::l)=(dG (s.eval (.t t))=J/\allP s l):=rfl
theorem aUJ:dc s []=[]:=rfl
theorem aOZ{t:Nat}{l:List Nat}:dc s (t::l)=fU (s.eval (.t t))++dc s l:=rfl
theorem aOY{v:AV}:fU (Z v)=ids v:=rfl
theorem bDU{v:Value}:ids (.val v)=[]:=rfl
theorem bDX{l:List AV}{n:Nat}{c:Option Nat}:ids (.imm l n c)=[]:=rfl
theorem aUI{l:List AV}:ids (.bD l)=[]:=rfl
theorem bDV{b o:Nat}:ids (.ptr b o)=[b]:=rfl
theorem bDW{b o n e:Nat}{c:Option Nat}:ids (.own b o n e c)=[b]:=rfl
theorem aOX:ids bJ=[]:=rfl
theorem ge{v:AV}(hi:ids v=[]):dG (Z v)=J:=by grind [dG]
theorem bOL{b:XR}:XR.ap .sil b=True:=rfl
theorem bAJ:∀{a:XR},XR.ap a .sil=True
 |.sil=>rfl
 |.look .. =>rfl
 |.made _=>rfl
 |.turn .. =>rfl
theorem bTB{F F':List Nat}{l l':Option (Nat×Nat×Nat)}:XR.ap (.look F l) (.look F' l')=True:=rfl
theorem bTA{F F' D:List Nat}{l:Option (Nat×Nat×Nat)}{lo hi:Nat}{kp:List (Nat×Nat×Nat)}:XR.ap (.look F l) (.turn F' D lo hi kp)=((∀x∈D,x∉F)\/∃p∈kp,l=Z p):=rfl
theorem bSZ{F:List Nat}{l:Option (Nat×Nat×Nat)}{n:Nat}:XR.ap (.made n) (.look F l)= ∀x∈F,x≠n:=rfl
theorem bSY{F D:List Nat}{lo hi n:Nat}{kp:List (Nat×Nat×Nat)}:XR.ap (.made n) (.turn F D lo hi kp)=((∀x∈F,x≠n)/\∀x∈D,x≠n):=rfl
theorem bSX{F F' D:List Nat}{l:Option (Nat×Nat×Nat)}{lo hi:Nat}{kp:List (Nat×Nat×Nat)}:XR.ap (.turn F D lo hi kp) (.look F' l)=((∀x∈F',x∉D/\¬(lo<=x/\x<hi))\/∃p∈kp,l=Z p):=rfl
theorem bSW{F F' D D':List Nat}{lo hi lo' hi':Nat}{kp kp':List (Nat×Nat×Nat)}:XR.ap (.turn F D lo hi kp) (.turn F' D' lo' hi' kp')=((∀x∈F',x∉D/\¬(lo<=x/\x<hi))/\∀x∈D',x∉D/\¬(lo<=x/\x<hi)/\x∉F):=rfl
theorem all_nil{P:Nat->Prop}:(∀x∈([]:List Nat),P x)=True:=propext ⟨λ_=>trivial,λ_ x hx=>by cases hx⟩
theorem bHE{P:Nat->Prop}{a:Nat}:(∀x∈[a],P x)=P a:=propext ⟨λh=>h a ip,λh x hx=>by grind⟩
theorem bHF{P:Nat->Prop}{a:Nat}{l:List Nat}:(∀x∈a::l,P x)=(P a/\∀x∈l,P x):=propext ⟨λh=>⟨h a ip,λx hx=>h x (iy _ hx)⟩,λh x hx=>by
 grind⟩
def ldO(n:Option Nat):Option AV->Option (Nat×Nat×Nat)
 |some (.ptr b o)=>Z (b,o,eW n)
 |_=>Y
theorem bDL{n:Option Nat}{x:Opd}:loadAt s (.load n x)=ldO n (s.eval x):=by
 rfl
theorem bDM{x:Opd}:loadAt s (.fI x)=Y:=rfl
theorem aOO{x:Opd}:loadAt s (.b7 x)=Y:=rfl
theorem bDN{k:IntKind}{x:Opd}:loadAt s (.conv k x)=Y:=rfl
theorem aOP{x y:Opd}:loadAt s (.bj x y)=Y:=rfl
theorem aON{e:Nat}{x:Opd}{l h m:Option Opd}:loadAt s (.dE e x l h m)=Y:=rfl
theorem bDK{x:Opd}:loadAt s (.bP x)=Y:=rfl
theorem bDO{n:Option Nat}{b o:Nat}:ldO n (Z (.ptr b o))=Z (b,o,eW n):=rfl
theorem aUC{n:Option Nat}{l:List AV}:ldO n (Z (.bD l))=Y:=rfl
theorem bVQ:eW Y=1:=rfl
theorem bVP{k:Nat}:eW (Z k)=k:=rfl
theorem bWG{l:List XR}:[]++l=l:=rfl
theorem bWF{a:XR}{l m:List XR}:a::l++m=a::(l++m):=rfl
theorem bWJ{l:List Nat}:[]++l=l:=rfl
theorem bWI{a:Nat}{l m:List Nat}:a::l++m=a::(l++m):=rfl
theorem bWH{l:List Nat}:l++[]=l:=List.append_nil l
theorem bSG{d:DOp}{l:List DOp}:(d::l).isEmpty=U:=rfl
theorem bSH:([]:List DOp).isEmpty=J:=rfl
theorem bSI{d:Nat}{l:List Nat}:(d::l).isEmpty=U:=rfl
theorem bOP{P:Nat->Prop}{a:Nat}:(∀x,x=a->P x)=P a:=propext ⟨λh=>h a rfl,λh x e=>by grind⟩
theorem bNV{P:Nat×Nat×Nat->Prop}:(∃p,p∈([]:List (Nat×Nat×Nat))/\P p)=False:=propext ⟨(λ⟨p,h,_⟩=>by cases h),λh=>h.elim⟩
theorem bRS{x:Nat}:(x∈([]:List Nat))=False:=propext ⟨(λh=>by cases h),λh=>h.elim⟩
theorem bRR{x a:Nat}:(x∈[a])=(x=a):=propext jb
def X0:=i9 @aQU (i9 @bKA (i9 @bJZ (i9 @bJY (i9 @bOW (i9 @bIZ (i9 @bST (i9 @bCA (i9 @aSF (i9 @bVZ (i9 @bWA (i9 @aUA (i9 @aTZ (i9 @aMU (i9 @bGS (i9 @bGZ (i9 @bRQ (i9 @aQE (i9 @aZU (i9 @aZP (i9 @bGO (@aPZ)))))))))))))))))))))
def X1:=i9 @bTJ (i9 @bTH (i9 @bIW (i9 @bIR (i9 @bAV (i9 @bAQ (i9 @bAT (i9 @bAO (i9 @bOY (i9 @bOV (i9 @bTI (i9 @bTG (i9 @aMJ (i9 @aMH (i9 @Wp (i9 @Wo (i9 @aCL (i9 @aCK (i9 @bIX (i9 @bIS (i9 @bIY (i9 @bIT (i9 @aQS (i9 @aQO (i9 @bJA (@bIU)))))))))))))))))))))))))
def X2:=i9 @aQT (i9 @aQP (i9 @aQR (i9 @aQN (i9 @Ra (i9 @Qy (i9 @bAW (i9 @bAR (i9 @bOX (i9 @bOU (i9 @Rb (i9 @Qz (i9 @aMI (i9 @aMG (i9 @bAS (i9 @bAN (i9 @aQV (i9 @aQQ (i9 @bJB (i9 @bIV (i9 @bAU (@bAP)))))))))))))))))))))
def X3:=i9 @Oa (i9 @bDL (i9 @bDM (i9 @aOO (i9 @bDN (i9 @aOP (i9 @aON (i9 @bDK (i9 @bDO (i9 @aUC (i9 @bVQ (i9 @bVP (i9 @aOR (i9 @aOT (i9 @aEI (i9 @Zp (i9 @Ea (i9 @Ck (i9 @yN (i9 @aOS (i9 @aEZ (i9 @aPE (i9 @aEY (i9 @bRD (i9 @bRC (i9 @bAL (i9 @aQJ (i9 @bAK (i9 @aQI (i9 @aUJ (i9 @aOZ (i9 @aOY (i9 @bDU (i9 @bDX (i9 @aUI (i9 @bDV (i9 @bDW (i9 @aOX (i9 @Nv (i9 @aNN (i9 @aDR (@Yq)))))))))))))))))))))))))))))))))))))))))
def X4:=i9 @bNV (i9 @or_false (i9 @bOP (i9 @bOL (i9 @bAJ (i9 @bTB (i9 @bTA (i9 @bSZ (i9 @bSY (i9 @bSX (i9 @bSW (i9 @all_nil (i9 @bHE (i9 @bHF (i9 @bWG (i9 @bWF (i9 @bWJ (i9 @bWI (i9 @bWH (i9 @bSG (i9 @bSH (i9 @bSI (i9 @bRS (i9 @bRR (i9 @Bool.false_and (i9 @Bool.true_and (i9 @Bool.and_self (i9 @Nf (i9 @Ng (@Nd)))))))))))))))))))))))))))))
end Go.AM
namespace Go.AM
variable {E:Env}{s:St}{K:St->Prop}{X:List XR}{dst:Option Nat}{rd fr:List Nat}
theorem ur{h:AH}:∀{B:List Nat},(∀x∈B,aq h x=[])->gG h [] B=0
 | [],_=>rfl
 |b::r,k=>by
  rw[gG,k b ip,ur λx hx=>k x (iy _ hx)];rfl
theorem vm{f lo k es:Nat}{xs ys:List AV}{w t:AV}{cs:List AV}{kk:XR->St->Prop}(r:bn s.h lo k es w cs)(hs:E.shared.get f=Y)(hx:∀v∈xs,Tree v)(hy:∀v∈ys,Tree v)
  (h1:dc s rd=ids w) (ht:ak s.h) (htr:Tree (iA w k cs)) (hc:∀h,aE E (.f f) (xs++iA w k cs::ys) h t h) (hfr:cS X (.turn (ids w) (ids w) s.h.next s.h.next []) fr)
  (hk:∀h',h'.next=s.h.next->(∀x,x∉ids w->h'.get x=s.h.get x)->ak h'->kk (.turn (ids w) (ids w) s.h.next s.h.next []) ((s.toH h').put dst t)):lQ E s rd fr X dst (.f f) (xs++w::ys) kk:=by
 have la:∀x∈ids w,aq s.h x=[]:=λx hxw=>by
  obtain⟨_,_,g⟩:=r.ids x hxw;unfold aq;rw[g];exact rX r.leafs
 refine⟨ids w,ids w,λx hxw=>(r.ids x hxw).2.1,(λx hxw y hyx=>by grind),(λx hxr=>by grind),?_,ht,λF f1 f2 f3=>?_⟩
 ·rw[ur la,h1];rcases r.one with e|⟨b,e⟩<;>grind
 ·have r':bn (aJ s.h F) lo k es w cs:=r.toB (ij _) λy hyw=>mi (f2 y Gr);obtain⟨hz,e1,e2,e3,e4⟩:=xD r';obtain⟨h2,c,e⟩:=vA hs hx hy htr e1 e4 hc;have fz:Fz (aJ s.h F) h2:=by
   rcases e with rfl|rfl<;>grind [Fz.refl,sV]
  refine⟨t,h2,c,?_,λx hxF hxw=>absurd (f1 x hxF) hxw,λh' n1 g1 g2 g3=>⟨[],λp hp=>(by cases hp),?_,?_⟩⟩
  ·rw[fz.1];exact ij _
  ·have:h2.next=s.h.next:=fz.1
   grind
  ·have hn:h2.next=s.h.next:=fz.1;rw[hn] at n1 g1 g3⊢
   have gx:∀x,x∉ids w->h'.get x=s.h.get x:=Gr;refine hk h' n1 gx λb x tt nn eb=>?_
   by_cases q:b∈ids w
   ·have qF:b∈F:=by grind
    rw[g1 b (.inl qF)] at eb;rcases fz.2 b with e5|⟨cs',rw',e5,e6⟩
    ·rw[e5,mi qF] at eb;exact ht b x tt nn eb
    grind
   ·rw[gx b q] at eb;exact ht b x tt nn eb
theorem aCG{h:AH}{es bytes:Nat}{a x v:AV}{c:oN}(e:nL h es bytes a x=Z (v,c)):∀y∈ids v,y∈ids a\/y=h.next:=by
 unfold nL at e;split at e
 ·cases e
 ·rename_i p _;have t1:=U188;have t2:=U189;unfold oA at e;split at e
  ·exact U26
  ·exact U26
  ·grind
  ·rename_i b off k es' cap;rcases t1 e with e|e
   ·grind
   ·split at e
    ·have e:=t2 e;split at e
     ·rcases t1 e with e|e
      ·cases t2 e;exact λy hy=>.inl hy
      ·cases e;exact λy hy=>.inr (jb.1 hy)
     ·rcases t1 e with e|e
      ·cases t2 e;exact λy hy=>.inl hy
      ·cases t2 e;exact λy hy=>.inr (jb.1 hy)
    ·cases e
  ·cases e
theorem xb{r:List aW}{es bytes a d k m lo:Nat}{v x:AV}{cs new:List AV}(hr:bn s.h lo k es v cs)(hlo:lo<=s.h.next)(he:au s.h es x=Z (new,m))(hl:new.length=m*es)(hn:∀c∈new,aj c)(hok:cW (k+m) bytes=J)(ha:s.eval (.t a)=Z v)(hx:s.eval (.t d)=Z x)
  (kk:∀v' h',bn h' lo (k+m) es v' (cs++new)->s.h.next<=h'.next->(∀y,y<s.h.next->y∉ids v->h'.get y=s.h.get y)->(ak s.h->ak h')->(∀y∈ids v',y∈ids v\/s.h.next<=y)->wpOps E r ((s.toH h').put dst v') K):wpOps E (⟨dst,Y,.append es bytes (.t a) (.t d)⟩::r) s K:=by
 obtain⟨v',h',e,r',n',o',t'⟩:=bAF (bytes:=bytes) hr hlo he hl hn hok ha hx;rw[tX,e];refine kk v' h' r' n' o' t' λy hy=>?_
 rw[wT,ha,hx] at e;simp only at e;cases hq:nL s.h es bytes v x with
 |none=>grind
 |some p=>
  rw[hq] at e;simp at e;obtain⟨w,c⟩:=p;obtain⟨rfl,_⟩:=e
  grind [aCG]
theorem aQL{h:AH}{l:List Nat}{c:oN}(hc:c.on l)(k:ak h):ak (c.act h):=by
 cases c with
 |stay=>exact k
 |make x=>cases x<;>first|exact hc.elim|exact k.alloc
 |fill b x=>cases x<;>first|exact hc.elim|exact k.put
 |move b x=>cases x<;>first|exact hc.elim|exact k.drop.alloc
theorem bGY{r:List aW}{es bytes a d k m lo:Nat}{v x:AV}{cs new:List AV}(hr:aV s.h lo k es v cs)(hlo:lo<=s.h.next)(he:au s.h es x=Z (new,m))(hl:new.length=m*es)(hn:∀c∈new,aj c)(hok:cW (k+m) bytes=J)(ha:s.eval (.t a)=Z v)(hx:s.eval (.t d)=Z x)
  (kk:∀v' h',aV h' lo (k+m) es v' (cs++new)->s.h.next<=h'.next->(∀y,y<s.h.next->y∉ids v->h'.get y=s.h.get y)->(ak s.h->ak h')->(∀y∈ids v',y∈ids v\/s.h.next<=y)->wpOps E r ((s.toH h').put dst v') K):wpOps E (⟨dst,Y,.append es bytes (.t a) (.t d)⟩::r) s K:=by
 obtain⟨v',h',e,r',n',o'⟩:=Wl (bytes:=bytes) hr hlo he hl hn hok ha hx;rw[tX,e];rw[wT,ha,hx] at e;simp only at e;cases hq:nL s.h es bytes v x with
 |none=>grind
 |some p=>
  rw[hq] at e;simp at e;obtain⟨w,c⟩:=p;obtain⟨rfl,e2⟩:=e;have e3:h'=c.act s.h:=(congrArg St.h e2).symm;refine kk _ h' r' n' o' (λnt=>by rw[e3];exact aQL (aLZ hq) nt) λy hy=>?_
  grind [aCG]
theorem bn.rep{h:AH}{lo k es:Nat}{v:AV}{cs:List AV}(r:bn h lo k es v cs):Rep h lo h.next 1 v (iA v k cs):=by
 rcases r with r|⟨h1,h2,b,b1,b2,rfl,b5⟩
 ·have:=r.rep;obtain⟨_,_,⟨rfl,rfl⟩|⟨b,_,_,h3,rfl,_⟩⟩:=r
  ·exact this
  ·have e:ig k 0=U:=by
    grind [iu]
   rw[e] at this;exact this
 ·have e1:(cs.map λv=>(v,v)).map (·.1)=cs:=by rw[Ak];exact List.map_id _
  have e2:(cs.map λv=>(v,v)).map (·.2)=cs:=by rw[Ak];exact List.map_id _
  have:=Rep.own (h:=h) (lo:=lo) (hi:=h.next) (n:=0) (b:=b) (k:=k) (es:=es) (cap:=Z k) (rw:=J) (ps:=cs.map λv=>(v,v)) b1 b2 Gr Gr λp hp=>by
   obtain⟨c,hc,rfl⟩:=List.mem_map.1 hp
   grind [Rep.leaf]
  rw[e2] at this;exact this
theorem bn.ne{h:AH}{lo k es:Nat}{v:AV}{cs:List AV}(r:bn h lo k es v cs)(hk:0<k):AM.ids v≠ []:=by
 rcases r with⟨_,_,⟨rfl,_⟩|⟨b,_,_,_,rfl,_⟩⟩|⟨_,_,b,_,_,rfl,_⟩
 ·omega
 ·intro e;cases e
 ·intro e;cases e
theorem sK{j:Nat}{v:AV}(hj:j∈rd)(he:s.eval (.t j)=Z v)(hv:ids v≠ []):(rd.all λt=>dG (s.eval (.t t)))=U:=by
 grind [dG]
theorem aBX{g:Nat}{xs ys:List AV}{a a' b b' t:AV}{h:AH}{lo hi lo' hi' n m:Nat}(hs:E.shared.get g=Y)(hx:∀v∈xs,Tree v)(hy:∀v∈ys,Tree v)(ha:Tree a')(hb:Tree b')(ra:Rep h lo hi n a a')(rb:Rep h lo' hi' m b b')(hn:n<aU)(hm:m<aU)
  (hc:∀h,aE E (.f g) (xs++a'::b'::ys) h t h):∃h3,aE E (.f g) (xs++a::b::ys) h t h3/\Fz h h3:=by
 obtain⟨h1,e1⟩:∃h1,freeze aU a h=h1:=⟨_,rfl⟩;obtain⟨h2,e2⟩:∃h2,freeze aU b h1=h2:=⟨_,rfl⟩;have f1:Fz h h1:=by grind [sV]
 have f2:Fz h1 h2:=by grind [sV]
 have ma:ar h2 aU a=Z a':=by grind [wn]
 have mb:ar h2 aU b=Z b':=wn m aU hm b b' h1 h2 (rb.fz f1) (by grind [Fz.refl])
 have hf:(xs++a::b::ys).foldl (λh v=>freeze aU v h) h=h2:=by
  simp_all [sm]
 have hmt:∀{xs:List AV},(∀v∈xs,Tree v)->cG h2 (xs++a::b::ys)=Z (xs++a'::b'::ys):=by
  intro xs
  induction xs with
  |nil=>grind [cG,s9]
  |cons x r ih=>
   intro hx;have h1:ar h2 aU x=Z x:=(hx x ip).1 h2 999999998
   grind [cG]
 have hm1:=hmt hx;have hl':∀v∈xs++a'::b'::ys,Tree v:=Gr;refine⟨bif dg t then h else h2,(hc h2).mono λn p=>?_,?_⟩
 ·have p:fD E (bh E (exec E n)) g (xs++a'::b'::ys) h2=Z (t,h2):=p;show fD E (bh E (exec E n)) g (xs++a::b::ys) h=_;simp only[fD,hs,sm hl',s9 hl'] at p;simp[fD, *];revert p;cases E.known g (xs++a'::b'::ys) with
  |some r=>
   grind
  |none=>
   simp only;cases bh E (exec E n) g (xs++a'::b'::ys) .empty with
   |none=>grind
   |some q=>
    obtain⟨r,hc'⟩:=q;simp only;cases ar (freeze aU r hc') aU r<;>grind
 ·cases dg t
  ·exact f1.trans f2
  ·exact Fz.refl _
end Go.AM
namespace Go.AM
variable {E:Env}{s:St}{K:St->Prop}{X:List XR}{dst:Option Nat}{rd fr:List Nat}
theorem Lg{n:Nat}(h:0<n):ig n 0=U:=by
 grind [iu]
theorem aZZ{a b:Nat}(h:b<a):ii a b=U:=by
 cases hk:ii a b with
 |false=>rfl
 |true=>
  have:=j6 hk;omega
theorem aCF{r:List aW}{es bytes a d k n b c:Nat}{x:AV}{cs new:List AV}{rw:Bool}(ha:s.eval (.t a)=Z (.own b 0 k es (Z c)))(hx:s.eval (.t d)=Z x)(g:s.h.get b=Z (.cells cs rw))(he:au s.h es x=Z (new,n))(hn:0<n)(hc:c<k+n)(hl:k*es<=cs.length)(hok:cW (k+n) bytes=J):
  wpOps E (⟨dst,Y,.append es bytes (.t a) (.t d)⟩::r) s K=wpOps E r ((s.toH (s.h.alloc (.cells (cs.take (k*es)++new) J))).put dst (.own s.h.next 0 (k+n) es Y)) K:=by
 have e:bN s es bytes (.t a) (.t d)=Z (.own s.h.next 0 (k+n) es Y,s.toH (s.h.alloc (.cells (cs.take (k*es)++new) J))):=by
  have b1:=U184;have b2:ii (k*es) cs.length=J:=Sa;simp only[bN,Lg hn,cond_false,ja,cond_true,aZZ hc,A9,jx, *];rfl
 rw[tX,e];rfl
theorem bOJ{r:List aW}{es bytes a d k n b:Nat}{x:AV}{cs new:List AV}(ha:s.eval (.t a)=Z (.own b 0 k es Y))(hx:s.eval (.t d)=Z x)(g:s.h.get b=Z (.cells cs J))(he:au s.h es x=Z (new,n))(hn:0<n)(h1:k*es<cs.length)(h2:(k+n)*es<=cs.length)(hok:cW (k+n) bytes=J):
  wpOps E (⟨dst,Y,.append es bytes (.t a) (.t d)⟩::r) s K=wpOps E r ((s.toH (s.h.put b (Z (.cells (putAt cs (k*es) new) J)))).put dst (.own b 0 (k+n) es Y)) K:=by
 have e:bN s es bytes (.t a) (.t d)=Z (.own b 0 (k+n) es Y,s.toH (s.h.put b (Z (.cells (putAt cs (k*es) new) J)))):=by
  have b1:=U184;have b2:ii (k*es) cs.length=J:=Nat.ble_eq.mpr om;have b3:ir (k*es) cs.length=J:=Sa;have b4:ii ((k+n)*es) cs.length=J:=Sa;simp only[bN,Lg hn,cond_false,ja,cond_true,jx, *];rfl
 rw[tX,e];rfl
theorem aCE{r:List aW}{es bytes a d k n b:Nat}{x:AV}{cs new:List AV}(ha:s.eval (.t a)=Z (.own b 0 k es Y))(hx:s.eval (.t d)=Z x)(g:s.h.get b=Z (.cells cs J))(he:au s.h es x=Z (new,n))(hn:0<n)(h1:k*es=cs.length)(hok:cW (k+n) bytes=J):
  wpOps E (⟨dst,Y,.append es bytes (.t a) (.t d)⟩::r) s K=wpOps E r ((s.toH ((s.h.put b Y).alloc (.cells (cs++new) J))).put dst (.own s.h.next 0 (k+n) es Y)) K:=by
 have e:bN s es bytes (.t a) (.t d)=Z (.own s.h.next 0 (k+n) es Y,s.toH ((s.h.put b Y).alloc (.cells (cs++new) J))):=by
  have b1:=U184;have b2:ii (k*es) cs.length=J:=Sa;have b3:ir (k*es) cs.length=U:=aZZ om;have b4:ig (k*es) cs.length=J:=Sa;simp only[bN,ha,hx,he,Lg hn,cond_false,g,b1,b2,b3,b4,hok,ja,Bool.false_and,cond_true,A9,jx];rfl
 rw[tX,e];rfl
theorem vj{l:List AV}(h:∀c∈l,aj c):aQ l=[]:=rX h
theorem vZ{h:AH}{lo hi:Nat}{v t:AV}(r:Rep h lo hi 1 v t):∀x∈ids v,x<hi/\aq h x=[]:=by
 rcases r with⟨k,rfl⟩|⟨b,k,es,cap,rw,ps,rfl,h1,h2,g,hk,rfl,hp⟩|⟨ps,rfl,rfl,hp⟩|⟨ps,rfl,rfl,hp⟩
 ·intro x hx;rw[k.ids] at hx;cases hx
 ·intro x hx;rw[jb.1 hx];refine⟨h2,?_⟩;unfold aq;rw[g];exact vj λc hc=>by
   exact U108
 ·intro x hx;have:ids (.agg (ps.map (·.1)))=[]:=vj λc hc=>by
   exact U108
  grind
 ·intro x hx;have:ids (.tup (ps.map (·.1)))=[]:=vj λc hc=>by
   exact U108
  grind
theorem td{h h':AH}{lo hi:Nat}{v t:AV}(g:∀x∈ids v,h'.get x=h.get x)(r:Rep h lo hi 1 v t):Rep h' lo hi 1 v t:=by
 rcases r with⟨k,rfl⟩|⟨b,k,es,cap,rw,ps,rfl,h1,h2,gb,hk,rfl,hp⟩|⟨ps,rfl,rfl,hp⟩|⟨ps,rfl,rfl,hp⟩
 ·exact Rep.leaf k
 ·exact Rep.own h1 h2 (by rw[g b (by grind [ids]),gb]) hk hp
 ·exact Rep.agg hp
 ·exact Rep.tup hp
theorem aGW{h:AH}{B:List Nat}(k:∀x∈B,aq h x=[]):gG h [] B=0:=ur k
theorem aPA{f:Nat}{xs ys:List AV}{w1 w2 u1 u2 t:AV}{lo hi lo' hi':Nat}{kk:XR->St->Prop}(r1:Rep s.h lo hi 1 w1 u1)(r2:Rep s.h lo' hi' 1 w2 u2)(h1:hi<=s.h.next)(h2:hi'<=s.h.next)(hs:E.shared.get f=Y)(hx:∀v∈xs,Tree v)(hy:∀v∈ys,Tree v)
  (hr:∀x,x∈dc s rd↔x∈ids w1++ids w2) (hlen:(dc s rd).length<=1000) (ht:ak s.h) (hT1:Tree u1) (hT2:Tree u2) (hc:∀h,aE E (.f f) (xs++u1::u2::ys) h t h)
  (hfr:cS X (.turn (ids w1++ids w2) (ids w1++ids w2) s.h.next s.h.next []) fr)
  (hk:∀h',Fz s.h h'->(∀x,x∉ids w1->x∉ids w2->h'.get x=s.h.get x)->ak h'->kk (.turn (ids w1++ids w2) (ids w1++ids w2) s.h.next s.h.next []) ((s.toH h').put dst t)):lQ E s rd fr X dst (.f f) (xs++w1::w2::ys) kk:=by
 have la:∀x∈ids w1++ids w2,x<s.h.next/\aq s.h x=[]:=λx hxw=>by
  rcases jv.1 hxw with q|q
  ·have:=vZ r1 x q
   grind
  ·have:=vZ r2 x q
   grind
 refine⟨ids w1++ids w2,ids w1++ids w2,λx hxw=>(la x hxw).1,(λx hxw y hyx=>by grind),(λx hxr=>(hr x).1 hxr),?_,ht,λF f1 f2 f3=>?_⟩
 ·grind [aGW]
 ·have inF1:∀x∈ids w1,x∈F:=by grind
  have inF2:∀x∈ids w2,x∈F:=Gr;obtain⟨h3,c,fz⟩:=aBX (h:=aJ s.h F) hs hx hy hT1 hT2 (td (λx q=>mi (inF1 x q)) r1) (td (λx q=>mi (inF2 x q)) r2) de de hc;have hn3:h3.next=s.h.next:=fz.1;refine⟨t,h3,c,om,λx hxF hxw=>absurd (f1 x hxF) hxw,λh' n1 g1 g2 g3=>⟨[],(λp hp=>by cases hp),Gr,?_⟩⟩
  rw[hn3] at n1 g1 g3⊢
  have gx:∀x,x∉ids w1->x∉ids w2->h'.get x=s.h.get x:=Gr;have fzz:Fz s.h h':=⟨n1,λb=>by
   by_cases qF:b∈F
   ·rw[g1 b (.inl qF)];have:=fz.2 b
    grind [mi]
   grind⟩
  refine hk h' fzz gx λb x tt nn eb=>?_
  rcases fzz.2 b with e5|⟨cs',rw',e5,e6⟩
  ·rw[e5] at eb;exact ht b x tt nn eb
  grind
theorem tO{h:AH}{b o:Nat}{v:AV}{rw:Bool}(hb:b<h.next)(g:h.get b=Z (.cells [v] rw))(hv:below h.next (ids v)=J):aN h (Z (.ptr b o))=J:=by
 have h1:=U190
 grind [aQ,aN,fK,ids,hE]
theorem aDN{h:AH}{lo hi:Nat}{v t:AV}(r:Rep h lo hi 1 v t)(hh:hi<=h.next):below h.next (ids v)=J:=j3.2 λx hx=>j8.mpr (jw (vZ r x hx).1 hh)
theorem aDM{h:AH}{lo hi:Nat}{v t:AV}(r:Rep h lo hi 1 v t)(hh:hi<=h.next):aN h (Z v)=J:=by
 refine j3.2 λb hb=>?_
 obtain⟨h1,h2⟩:=vZ r b hb;have h1:ir b h.next=J:=j8.mpr om;rw[h1,Bool.true_and];unfold aq at h2;split
 ·rename_i k e;rw[e] at h2;simp only at h2;rw[h2];rfl
 ·rfl
theorem tJ{h:AH}{lo hi:Nat}{v t:AV}(r:Rep h lo hi 1 v t):∀x∈ids v,lo<=x/\x<hi:=λx hx=>by
 refine⟨?_,(vZ r x hx).1⟩;rcases r with⟨k,rfl⟩|⟨b,k,es,cap,rw,ps,rfl,h1,h2,g,hk,rfl,hp⟩|⟨ps,rfl,rfl,hp⟩|⟨ps,rfl,rfl,hp⟩
 ·rw[k.ids] at hx;cases hx
 ·rw[jb.1 hx];exact h1
 ·exact U27
 ·exact U28
theorem bLD{a b c:Nat}{u v w:AV}(h1:s.eval (.t a)=Z u)(h2:s.eval (.t b)=Z v)(h3:s.eval (.t c)=Z w):dc s [a,b,c]=ids u++(ids v++(ids w++[])):=by
 grind [dc,fU]
theorem Yf{h:AH}{lo hi:Nat}{v t:AV}(r:Rep h lo hi 1 v t):(ids v).length<=1:=by
 rcases r with⟨k,rfl⟩|⟨b,k,es,cap,rw,ps,rfl,h1,h2,g,hk,rfl,hp⟩|⟨ps,rfl,rfl,hp⟩|⟨ps,rfl,rfl,hp⟩
 ·rw[k.ids];grind
 ·exact ij _
 ·exact U27
 ·exact U28
theorem sk{r:List aW}{es bytes a d k m lo:Nat}{v x:AV}{cs new:List AV}(hr:aV s.h lo k es v cs)(hlo:lo<=s.h.next)(he:au s.h es x=Z (new,m))(hm:0<m)(hl:new.length=m*es)(hn:∀c∈new,aj c)(hok:cW (k+m) bytes=J)(ha:s.eval (.t a)=Z v)(hx:s.eval (.t d)=Z x)
  (kk:∀h',aV h' lo (k+m) es (.own s.h.next 0 (k+m) es Y) (cs++new)->h'.next=s.h.next+1->(∀y,y<s.h.next->y∉ids v->h'.get y=s.h.get y)->(ak s.h->ak h')->h'.get s.h.next=Z (.cells (cs++new) J)->wpOps E r ((s.toH h').put dst (.own s.h.next 0 (k+m) es Y)) K):wpOps E (⟨dst,Y,.append es bytes (.t a) (.t d)⟩::r) s K:=by
 obtain⟨p1,p2,p3,p4⟩:=Gi hr hlo hn hl hm;have e:=xc hr he hm hok ha hx (bytes:=bytes);rw[tX,e];refine kk (gj s.h v new) p2 p1 p3 ?_ (p2.ids _ (by grind [ids])).2.2
 intro nt;obtain⟨_,_,⟨rfl,rfl⟩|⟨b,_,_,_,rfl,b5⟩⟩:=hr
 ·exact nt.alloc
 ·simp[gj,b5];exact nt.drop.alloc
theorem wt{b off n es i:Nat}{cap:Option Nat}(h:i<n):aX es (.own b off n es cap) i=Z (.ptr b (off+i*es)):=by
 have h1:ir i n=J:=Sa;have h2:=U184;simp only[aX,h1,h2,ja,cond_true]
theorem ww{h:AH}{F:List Nat}(nt:ak h):ak (aJ h F):=λb x t n e=>by
 by_cases q:b∈F
 ·rw[mi q] at e;exact U191
 grind [wC]
theorem aPB{f B:Nat}{l cs:List AV}{rw:Bool}{P:AV->AH->Prop}{kk:XR->St->Prop}(hB:B<s.h.next)(gB:s.h.get B=Z (.cells cs rw))(iB:aQ cs=[])(hr:dc s rd=[B])(nt:ak s.h)
  (hc:∀h,h.next=s.h.next->h.get B=s.h.get B->ak h->∃v h1,aE E (.f f) l h v h1/\s.h.next<=h1.next/\h1.get B=h.get B/\ak h1/\P v h1) (hfr:∀n,cS X (.turn [B] [B] s.h.next n []) fr)
  (hk:∀v h1 h',P v h1->h'.next=h1.next->s.h.next<=h1.next->(∀x,s.h.next<=x->x<h1.next->h'.get x=h1.get x)->(∀x,x<s.h.next->h'.get x=s.h.get x)->ak h'->kk (.turn [B] [B] s.h.next h1.next []) ((s.toH h').put dst v)):lQ E s rd fr X dst (.f f) l kk:=by
 have la:∀x∈[B],aq s.h x=[]:=λx hx=>by
  rw[jb.1 hx];unfold aq;rw[gB];exact iB
 refine⟨[B],[B],λx hx=>by grind,(λx hx y hy=>by grind),(λx hx=>by grind),?_,nt,λF f1 f2 f3=>?_⟩
 ·grind [ur]
 ·have BF:B∈F:=by grind
  obtain⟨v,h1,c,n1,g1,nt1,p1⟩:=hc (aJ s.h F) rfl (mi BF) (ww nt);refine⟨v,h1,c,n1,λx hxF hxw=>absurd (f1 x hxF) hxw,λh' n2 e1 e2 e3=>⟨[],(λp hp=>by cases hp),hfr _,?_⟩⟩
  have go:∀x,x<s.h.next->h'.get x=s.h.get x:=by grind [mi]
  have gn:∀x,s.h.next<=x->x<h1.next->h'.get x=h1.get x:=Gr;refine hk v h1 h' p1 n2 n1 gn go λb x t n e=>?_
  by_cases q:b<s.h.next
  ·rw[go b q] at e;exact U191
  ·by_cases q2:b<h1.next
   ·rw[gn b om q2] at e;exact nt1 b x t n e
   ·rw[e3 b om] at e;exact U191
theorem aZQ{r:List aW}{b:Nat}{l:List AV}{v:AV}{h':AH}(h:aE E (.y b) l s.h v h')(k:wpOps E r ((s.toH h').put dst v) K):aHA E r s dst K (Z (.yld b)) (Z l):=⟨v,h',h,k⟩
theorem Zh{h:AH}{b o n e:Nat}{c:Option Nat}{cs:List AV}{rw:Bool}(hb:b<h.next)(g:h.get b=Z (.cells cs rw))(hi:aQ cs=[]):bp h (Z (.own b o n e c))=J:=by
 have:=U190;simp only[bp,lN,ids,j9,jc, *];rfl
theorem aTV{r:List aW}{es bytes n m:Nat}{z:List AV}{l c:Opd}(hl:(s.eval l).bind asN=Z n)(hc:(s.eval c).bind asN=Z m)(h1:n<=m)(h2:m*bytes<=2^40)(h3:m<=2^40):
  wpOps E (⟨dst,Y,.cP es bytes z l c⟩::r) s K=wpOps E r ((s.toH (s.h.alloc (.cells ((jr m z).flatten) J))).put dst (.own s.h.next 0 n es (Z m))) K:=by
 rw[wW (o:=Z (.own s.h.next 0 n es (Z m),s.h.alloc (.cells ((jr m z).flatten) J)))]
 ·rfl
 ·have e1:ii n m=J:=by simp_all
  have e2:ii (m*bytes) cR=J:=Nat.ble_eq.mpr h2;have e3:ii m (2^40)=J:=Sa;simp only[aL,ja,cond_true, *];rfl
 ·exact U177
end Go.AM
namespace Go.AM
variable {E:Env}{s:St}{K:St->Prop}{X:List XR}{dst:Option Nat}{rd fr:List Nat}
theorem aUZ{r:List aW}{off:Nat}{n:Option Nat}{x:Opd}{cs:List AV}{v:AV}(hx:s.eval x=Z (.agg cs))(ho:off<=cs.length)(ht:takeN n (cs.drop off)=Z v):wpOps E (⟨dst,Y,.field off n x⟩::r) s K=wpOps E r (s.put dst v) K:=by
 rw[sN (o:=Z v)]
 ·rfl
 ·have e1:ii off cs.length=J:=by simp_all
  simp only[aL,cond_true, *];rfl
 ·exact U177
theorem Zz{h:AH}{b k es:Nat}{cap:Option Nat}{u:AV}{cs:List AV}{rw:Bool}(lu:aj u)(g:h.get b=Z (.cells cs rw))(lf:∀c∈cs,aj c)(hl:cs.length=k*es):
  freeze aU (.agg [.own b 0 k es cap,u]) h=h.put b (Z (.cells cs U))/\ar (h.put b (Z (.cells cs U))) aU (.agg [.own b 0 k es cap,u])=Z (.agg [.imm cs k cap,u]):=by
 have key:∀n:Nat,freeze (n+3) (.agg [.own b 0 k es cap,u]) h=h.put b (Z (.cells cs U))/\ar (h.put b (Z (.cells cs U))) (n+3) (.agg [.own b 0 k es cap,u])=Z (.agg [.imm cs k cap,u]):=λn=>by
  have ht:=U187;have e1:freeze (n+2) (.own b 0 k es cap) h=h.put b (Z (.cells cs U)):=by
   rw[freeze]
   simp_all [Cn]
  have g2:=U178;have hle:=U179;have e2:ar (h.put b (Z (.cells cs U))) (n+2) (.own b 0 k es cap)=Z (.imm cs k cap):=by
   rw[ar.eq_def];simp only[g2,hle,cond_true,ht,Jd lf,Ab]
  refine⟨?_,?_⟩
  ·rw[freeze];simp;rw[e1,lu.2 _ (n+1)]
  ·rw[ar.eq_def];simp only[List.mapM_cons,List.mapM_nil];rw[e2,lu.1 _ (n+1)];rfl
 exact key 999999997
theorem aEQ{f b k es:Nat}{cap:Option Nat}{u t:AV}{xs ys cs:List AV}{rw:Bool}{kk:XR->St->Prop}(hb:b<s.h.next)(g:s.h.get b=Z (.cells cs rw))(lf:∀c∈cs,aj c)(hl:cs.length=k*es)(lu:aj u)(hs:E.shared.get f=Y)(hx:∀v∈xs,Tree v)(hy:∀v∈ys,Tree v)
  (h1:dc s rd=[b]) (ht:ak s.h) (htr:Tree (.agg [.imm cs k cap,u])) (hc:∀h,aE E (.f f) (xs++ .agg [.imm cs k cap,u]::ys) h t h) (hfr:cS X (.turn [b] [b] s.h.next s.h.next []) fr)
  (hk:∀h',h'.next=s.h.next->(∀x,x≠b->h'.get x=s.h.get x)->(∃rw,h'.get b=Z (.cells cs rw))->ak h'->kk (.turn [b] [b] s.h.next s.h.next []) ((s.toH h').put dst t)):lQ E s rd fr X dst (.f f) (xs++ .agg [.own b 0 k es cap,u]::ys) kk:=by
 have la:∀x∈[b],aq s.h x=[]:=λx hx=>by
  rw[jb.1 hx];unfold aq;rw[g];exact rX lf
 refine⟨[b],[b],λx hx=>by grind,(λx hxw y hyx=>by grind),(λx hxr=>by grind),?_,ht,λF f1 f2 f3=>?_⟩
 ·grind [ur]
 ·have bF:b∈F:=by grind
  have g':(aJ s.h F).get b=Z (.cells cs rw):=by rw[mi bF,g]
  obtain⟨e1,e4⟩:=Zz (cap:=cap) lu g' lf hl;obtain⟨h2,c,e⟩:=vA hs hx hy htr e1 e4 hc;have g2:∃rw,h2.get b=Z (.cells cs rw):=by
   rcases e with rfl|rfl
   ·grind
   ·exact⟨U,by rw[AH.aO,if_pos rfl]⟩
  have hn:h2.next=s.h.next:=by
   rcases e with rfl|rfl
   ·rfl
   ·rfl
  refine⟨t,h2,c,om,λx hxF hxw=>absurd (f1 x hxF) hxw,λh' n1 q1 q2 q3=>⟨[],λp hp=>(by cases hp),Gr,?_⟩⟩
  rw[hn] at n1 q1 q3⊢
  have gx:∀x,x≠b->h'.get x=s.h.get x:=Gr;obtain⟨rw',g2⟩:=g2;have gb:h'.get b=Z (.cells cs rw'):=Gr;refine hk h' n1 gx ⟨rw',gb⟩ λc x tt nn ec=>?_
  by_cases q:c=b
  ·grind
  ·rw[gx c q] at ec;exact ht c x tt nn ec
theorem Oh{f:Nat}{l:List AV}{B:List Nat}{kp:List (Nat×Nat×Nat)}{P:AV->AH->Prop}{kk:XR->St->Prop}(hB:∀x∈B,x<s.h.next)(hcl:∀x∈B,∀y∈aq s.h x,y∈B)(hin:∀x∈dc s rd,x∈B)
  (hall:∀F:List Nat,(∀x∈dc s rd,x∈F)->(∀x∈F,∀y∈aq s.h x,y∈F)->∀x∈B,x∈F) (hcost:(dc s rd).length+gG s.h [] B<=1000000000) (nt:ak s.h)
  (hc:∀h:AH,h.next=s.h.next->(∀x∈B,h.get x=s.h.get x)->ak h->∃v h1,aE E (.f f) l h v h1/\s.h.next<=h1.next/\ak h1/\P v h1) (hfr:∀n,cS X (.turn B B s.h.next n kp) fr)
  (hk:∀v h1 h',P v h1->h'.next=h1.next->s.h.next<=h1.next->(∀x,x∈B\/(s.h.next<=x/\x<h1.next)->h'.get x=h1.get x)->(∀x,x<s.h.next->x∉B->h'.get x=s.h.get x)->ak h'->(∀p∈kp,sameAt s.h h' p=J)/\kk (.turn B B s.h.next h1.next kp) ((s.toH h').put dst v)):lQ E s rd fr X dst (.f f) l kk:=by
 refine⟨B,B,hB,hcl,hin,hcost,nt,λF f1 f2 f3=>?_⟩;have FB:=hall F f2 f3;obtain⟨v,h1,c,n1,nt1,p1⟩:=hc (aJ s.h F) rfl (λx hx=>mi (FB x hx)) (ww nt);refine⟨v,h1,c,n1,λx hxF hxw=>absurd (f1 x hxF) hxw,λh' n2 e1 e2 e3=>?_⟩;have g1:∀x,x∈B\/(s.h.next<=x/\x<h1.next)->h'.get x=h1.get x:=Gr;have g2:∀x,x<s.h.next->x∉B->h'.get x=s.h.get x:=Gr;have nt':ak h':=λb x t n e=>by
  by_cases q:b∈B\/(s.h.next<=b/\b<h1.next)
  ·rw[g1 b q] at e;exact nt1 b x t n e
  ·by_cases q2:b<s.h.next
   ·rw[g2 b q2 λq3=>q (.inl q3)] at e;exact U191
   ·rw[e3 b (by
     grind)] at e
    exact U191
 grind
end Go.AM
