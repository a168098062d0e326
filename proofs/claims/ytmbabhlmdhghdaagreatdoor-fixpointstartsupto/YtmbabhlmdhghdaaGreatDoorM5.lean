/- XAmH -/
import Derived.Test.YtmbabhlmdhghdaaGreatDoorM4
set_option linter.all false
open Option renaming some->Z, none->Y
open Bool renaming true->J, false->U
open Bool renaming and_eq_true->im
open List renaming all_eq_true->j3, getElem?_eq_getElem->ji, getElem?_eq_some_iff->Au, mem_cons_of_mem->iy, mem_cons_self->ip
open Nat renaming eq_of_beq_eq_true->iu
namespace Go.AM
open Go
def mG(r:ck):Bool:=r.D.isEmpty&&Nat.beq r.lo r.hi
def freeFast(n:Nat)(N:List (Nat×cC))(b:cC)(free:List Nat):Bool:=(free.all λi=>Nat.blt i n)&&N.all λp=> !b9 free p.1||du p.2 b
def freeH(done:List cC)(n:Nat)(N:List (Nat×cC))(b:cC)(free:List Nat):Bool:=bif b.r.D.isEmpty then freeFast n N b free else dL done b free
theorem bHV{l:List Nat}{k:Nat}:b9 l k=J↔k∈l:=by
 rw[b9,List.any_eq_true];constructor
 ·rintro⟨x,h1,h2⟩;rw[iu h2];exact h1
 ·exact λh=>⟨k,h,Nat.beq_refl k⟩
theorem aGZ{a b:ck}(ha:mG a=J)(hb:b.D.isEmpty=J):eS a b=J:=by
 rw[mG,im,List.isEmpty_iff] at ha;rw[List.isEmpty_iff] at hb;obtain⟨h1,h2⟩:=ha;have h2:a.lo=a.hi:=iu h2;have ht:∀l,eT a l=U:=λl=>by
  rw[eT,List.any_eq_false];intro x _ h;rw[h1,h2] at h;simp at h;rcases h with h|h
  ·simp[b9] at h
  ·omega
 rw[eS,ht,ht,hb];rfl
theorem Eh{done:List cC}{b:cC}:∀{l:List Nat},dL done b l=J↔∀i∈l,∃a,done[i]? =Z a/\du a b=J
 | []=>by simp[dL]
 |i::r=>by
  rw[dL,im,Eh];constructor
  ·rintro⟨h1,h2⟩ j hj;rcases List.mem_cons.1 hj with rfl|hj
   ·cases q:done[j]? with
    |none=>rw[q] at h1;cases h1
    |some a=>rw[q] at h1;exact⟨a,rfl,h1⟩
   ·exact h2 j hj
  ·intro h;obtain⟨a,h1,h2⟩:=h i ip;rw[h1];exact⟨h2,λj hj=>h j (iy _ hj)⟩
structure InvH (done:List cC) (n:Nat) (N:List (Nat×cC)):Prop where
 len:n=done.length
 all:∀i a,done[i]? =Z a->mG a.r=J\/(i,a)∈N
 ok:∀p∈N,done[p.1]? =Z p.2
theorem aUV{done:List cC}{n:Nat}{N:List (Nat×cC)}(I:InvH done n N)(b:cC)(free:List Nat):freeH done n N b free=dL done b free:=by
 rw[freeH];cases hb:b.r.D.isEmpty with
 |false=>rfl
 |true=>
  rw[cond_true,Bool.eq_iff_iff,freeFast,im,j3,j3,Eh];constructor
  ·rintro⟨h1,h2⟩ i hi;have hl:i<done.length:=by rw[<-I.len];exact Nat.blt_eq.mp (h1 i hi)
   refine⟨done[i],ji hl,?_⟩;rcases I.all i done[i] (ji hl) with h|h
   ·rw[du,aGZ h hb,Bool.true_or]
   ·have:=h2 _ h;rw[Bool.or_eq_true,Bool.not_eq_true'] at this;rcases this with h3|h3
    ·have:b9 free i=J:=bHV.2 hi;rw[this] at h3;cases h3
    ·exact h3
  ·intro h;refine⟨λi hi=>?_,λp hp=>?_⟩
   ·obtain⟨a,h1,_⟩:=h i hi;rw[I.len];exact Nat.blt_eq.mpr (Au.1 h1).1
   ·cases q:b9 free p.1 with
    |false=>rfl
    |true=>
     obtain⟨a,h1,h2⟩:=h p.1 (bHV.1 q);rw[I.ok p hp] at h1;cases h1;exact h2
theorem InvH.add{done:List cC}{n:Nat}{N:List (Nat×cC)}(I:InvH done n N)(b:cC):InvH (done++[b]) (n+1) (bif mG b.r then N else(n,b)::N):=by
 refine⟨by rw[List.length_append,I.len];rfl,λi a h=>?_,λp hp=>?_⟩
 ·rw[List.getElem?_append] at h;split at h
  ·rcases I.all i a h with h1|h1
   ·exact .inl h1
   ·refine .inr ?_
    cases mG b.r
    ·exact iy _ h1
    ·exact h1
  ·rename_i hl;have hi:i=n:=by
    rw[I.len];cases k:i-done.length with
    |zero=>omega
    |succ k'=>rw[k] at h;simp at h
   subst hi;have:a=b:=by
    rw[<-I.len,Nat.sub_self] at h
    simpa using h.symm
   subst this;cases q:mG a.r with
   |true=>exact .inl rfl
   |false=>exact .inr ip
 ·have old:∀p∈N,(done++[b])[p.1]? =Z p.2:=λp hp=>by
   have h1:=I.ok p hp;rw[List.getElem?_append_left (Au.1 h1).1,h1]
  cases q:mG b.r with
  |true=>rw[q] at hp;exact old p hp
  |false=>
   rw[q] at hp;rcases U173 with rfl|hp
   ·show(done++[b])[n]? =Z b;rw[I.len];simp
   ·exact old p hp
def gT(E:Env)(call:Cle->List AV->AH->Option (AV×AH)):List DOp->List cC->Nat->List (Nat×cC)->St->Option St
 | [],_,_,_,s=>Z s
 |d::r,done,n,N,s=>match fb E call d (dv (done.map (·.r)) d.free) s with
  |some (v,rec,h)=>
   let b:cC:=⟨rec,loadAt {tm:=aK s.tm d.reads,h:=s.h,defers:=[],round:=s.round} d.o.op,s.h,h⟩
   bif freeH done n N b d.free then
    gT E call r (done++[b]) (n+1) (bif mG b.r then N else(n,b)::N) {s with tm:=putDst s.tm d.o.dst v,h} else Y
  |none=>Y
theorem Dp(E:Env)(call:Cle->List AV->AH->Option (AV×AH)):∀(l:List DOp) (done:List cC) (n:Nat) (N:List (Nat×cC)) (s:St),InvH done n N->gT E call l done n N s=gQ E call l done s
 | [],_,_,_,_,_=>rfl
 |d::r,done,n,N,s,I=>by
  rw[gT,gQ];cases fb E call d (dv (done.map (·.r)) d.free) s with
  |none=>rfl
  |some p=>
   obtain⟨v,rec,h⟩:=p;simp only;rw[aUV I,Dp E call r _ _ _ _ (I.add _)]
theorem bVY:InvH [] 0 []:=⟨rfl,λi a h=>by simp at h,λp hp=>by cases hp⟩
def jJ(E:Env)(call:Cle->List AV->AH->Option (AV×AH))(ops:List DOp)(s:St):Option St:=
 match cJ ops with
 |some (pre,suf)=>match gT E call pre [] 0 [] s with
  |some s1=>fT E call (suf.map (·.o)) s1
  |none=>Y
 |none=>gT E call ops [] 0 [] s
theorem Rs(E:Env)(call:Cle->List AV->AH->Option (AV×AH))(ops:List DOp)(s:St):jJ E call ops s=jB E call ops s:=by
 simp[jJ,jB,Dp E call _ _ _ _ _ bVY];rfl
def fp(E:Env):Nat->aF->St->Option (Ex×St)
 |0,_,_=>Y
 |n+1,c,s=>
  match c with
  |.skip=>Z (.normal,s)
  |.ret=>Z (.ret,s)
  |.exit id=>Z (.exit id,s)
  |.region ops=>(fT E (bY E (fp E n)) ops s).map λs=>(.normal,s)
  |.draw ops=>(jJ E (bY E (fp E n)) ops s).map λs=>(.normal,s)
  |.seq a b=>match fp E n a s with
   |some (.normal,s)=>fp E n b s
   |r=>r
  |.cond c a b=>match s.eval c with
   |some (.val (.bool J))=>fp E n a s
   |some (.val (.bool U))=>fp E n b s
   |_=>Y
  |.block id b=>match fp E n b s with
   |some (.exit i,s)=>Z (bif Nat.beq i id then .normal else .exit i,s)
   |r=>r
  |.loop b=>match fp E n b s with
   |some (.normal,s)=>fp E n (.loop b) s
   |r=>r
  |.range g ps asg body M=>
   match s.eval g with
   |some (.fn (.func f) a b)=>
    let sd:Option (AH×List ADef):=match s.round with
     |none=>Z (s.h.alloc (.dfr J),.mark s.h.next::s.defers)
     |some q=>match s.h.get q with
      |some (.loop ..)=>Z (s.h,s.defers)
      |_=>Y
    match sd with
    |none=>Y
    |some (h1,df)=>
     match bY E (fp E n) (.f f) (a++(.yld h1.next::b)) (h1.alloc (.loop s.tm ps asg body M .ready)) with
     |some (_,h3)=>match h3.get h1.next with
      |some (.loop tm3 ps3 asg3 body3 M3 st)=>
       let s':St:={s with h:=h3.put h1.next (Z (.loop tm3 ps3 asg3 body3 M3 .gone)),defers:=df}
       match st with
       |.ready=>Z (.normal,s')
       |.done e=>Z (e,s')
       |_=>Y
      |_=>Y
     |none=>Y
   |_=>Y
  |.bad _=>Y
theorem aZC(E:Env):∀(n:Nat) (c:aF) (s:St),fp E n c s=fY E n c s
 |0,_,_=>rfl
 |n+1,c,s=>by
  have ih:=U174;cases c<;>simp only[fp,fY,ih,Rs]<;>rfl
noncomputable def qJ (E:Env) (n f:Nat) (l:List AV):Option AV:=
 match bh E (fp E n) f l .empty with
 |some (r,hc)=>ar (freeze aU r hc) aU r
 |none=>Y
theorem Yo(E:Env)(n f:Nat)(l:List AV):qJ E n f l=lG E n f l:=by
 have:=U174;rw[qJ,lG,this];rfl
end Go.AM
