/- XAmH -/
import Derived.Test.YtkmoeaplhnabcaaGreatDoorM4

set_option linter.all false
open Bool renaming and_eq_true → i9, or_eq_true → Am
open List renaming all_eq_true → iy, getElem?_eq_getElem → jk, getElem?_eq_some_iff → A3, mem_cons → i8, mem_cons_of_mem → j0, mem_cons_self → il
open Nat renaming blt_eq → j8, eq_of_beq_eq_true → ij
namespace Go.AM
open Go
def calmR(r:DRec):Bool:=r.D.isEmpty&&Nat.beq r.lo r.hi
def freeFast(n:Nat)(N:List (Nat×CRec))(b:CRec)(free:List Nat):Bool:=(free.all fun i=>Nat.blt i n)&&N.all fun p=> !memN free p.1||apartC p.2 b
def freeH(done:List CRec)(n:Nat)(N:List (Nat×CRec))(b:CRec)(free:List Nat):Bool:=bif b.r.D.isEmpty then freeFast n N b free else freeOkC done b free
theorem Ik{l:List Nat}{k:Nat}:memN l k=true↔k∈l:=by
 rw[memN,List.any_eq_true];constructor
 ·rintro⟨x,h1,h2⟩;rw[ij h2];exact h1
 ·exact fun h=>⟨k,h,Nat.beq_refl k⟩
theorem vA{a b:DRec}(ha:calmR a=true)(hb:b.D.isEmpty=true):recApart a b=true:=by
 rw[calmR,i9,List.isEmpty_iff] at ha;rw[List.isEmpty_iff] at hb;obtain⟨h1,h2⟩:=ha;have h2:a.lo=a.hi:=ij h2;have ht:∀l,touches a l=false:=fun l=>by
  rw[touches,List.any_eq_false];intro x _ h;rw[h1,h2] at h;simp only[Am,i9,Nat.ble_eq,j8] at h;rcases h with h|h
  ·simp[memN] at h
  ·omega
 rw[recApart,ht,ht,hb];rfl
theorem kG{done:List CRec}{b:CRec}:∀{l:List Nat},freeOkC done b l=true↔∀i∈l,∃a,done[i]? =some a∧apartC a b=true
 | []=>by simp[freeOkC]
 |i::r=>by
  rw[freeOkC,i9,kG];constructor
  ·rintro⟨h1,h2⟩ j hj;rcases i8.1 hj with rfl|hj
   ·cases q:done[j]? with
    |none=>rw[q] at h1;cases h1
    |some a=>rw[q] at h1;exact⟨a,rfl,h1⟩
   ·exact h2 j hj
  ·intro h;obtain⟨a,h1,h2⟩:=h i il;rw[h1];exact⟨h2,fun j hj=>h j (j0 _ hj)⟩
structure InvH (done:List CRec) (n:Nat) (N:List (Nat×CRec)):Prop where
 len:n=done.length
 all:∀i a,done[i]? =some a→calmR a.r=true∨(i,a)∈N
 ok:∀p∈N,done[p.1]? =some p.2
theorem zN{done:List CRec}{n:Nat}{N:List (Nat×CRec)}(I:InvH done n N)(b:CRec)(free:List Nat):freeH done n N b free=freeOkC done b free:=by
 rw[freeH];cases hb:b.r.D.isEmpty with
 |false=>rfl
 |true=>
  rw[cond_true,Bool.eq_iff_iff,freeFast,i9,iy,iy,kG];constructor
  ·rintro⟨h1,h2⟩ i hi;have hl:i<done.length:=by rw[←I.len];exact j8.mp (h1 i hi)
   refine⟨done[i],jk hl,?_⟩;rcases I.all i done[i] (jk hl) with h|h
   ·rw[apartC,vA h hb,Bool.true_or]
   ·have:=h2 _ h;rw[Am,Bool.not_eq_true'] at this;rcases this with h3|h3
    ·have:memN free i=true:=Ik.2 hi;rw[this] at h3;cases h3
    ·exact h3
  ·intro h;refine⟨fun i hi=>?_,fun p hp=>?_⟩
   ·obtain⟨a,h1,_⟩:=h i hi;rw[I.len];exact j8.mpr (A3.1 h1).1
   ·cases q:memN free p.1 with
    |false=>rfl
    |true=>
     obtain⟨a,h1,h2⟩:=h p.1 (Ik.1 q);rw[I.ok p hp] at h1;cases h1;exact h2
theorem InvH.add{done:List CRec}{n:Nat}{N:List (Nat×CRec)}(I:InvH done n N)(b:CRec):InvH (done++[b]) (n+1) (bif calmR b.r then N else(n,b)::N):=by
 refine⟨by rw[List.length_append,I.len];rfl,fun i a h=>?_,fun p hp=>?_⟩
 ·rw[List.getElem?_append] at h;split at h
  ·rcases I.all i a h with h1|h1
   ·exact .inl h1
   ·refine .inr ?_
    cases calmR b.r
    ·exact j0 _ h1
    ·exact h1
  ·rename_i hl;have hi:i=n:=by
    rw[I.len];cases k:i-done.length with
    |zero=>omega
    |succ k'=>rw[k] at h;simp at h
   subst hi;have:a=b:=by
    rw[←I.len,Nat.sub_self] at h
    simpa using h.symm
   subst this;cases q:calmR a.r with
   |true=>exact .inl rfl
   |false=>exact .inr il
 ·have old:∀p∈N,(done++[b])[p.1]? =some p.2:=fun p hp=>by
   have h1:=I.ok p hp;rw[List.getElem?_append_left (A3.1 h1).1,h1]
  cases q:calmR b.r with
  |true=>rw[q] at hp;exact old p hp
  |false=>
   rw[q] at hp;rcases i8.1 hp with rfl|hp
   ·show(done++[b])[n]? =some b;rw[I.len];simp
   ·exact old p hp
def runDrawH(E:Env)(call:Cle→List AV→AH→Option (AV×AH)):List DOp→List CRec→Nat→List (Nat×CRec)→St→Option St
 | [],_,_,_,s=>some s
 |d::r,done,n,N,s=>match stepDrawF E call d (nearOf (done.map (·.r)) d.free) s with
  |some (v,rec,h)=>
   let b:CRec:=⟨rec,loadAt {tm:=pickTm s.tm d.reads,h:=s.h,defers:=[],round:=s.round} d.o.op,s.h,h⟩
   bif freeH done n N b d.free then
    runDrawH E call r (done++[b]) (n+1) (bif calmR b.r then N else(n,b)::N) {s with tm:=putDst s.tm d.o.dst v,h} else none
  |none=>none
theorem jU(E:Env)(call:Cle→List AV→AH→Option (AV×AH)):∀(l:List DOp) (done:List CRec) (n:Nat) (N:List (Nat×CRec)) (s:St),InvH done n N→runDrawH E call l done n N s=runDrawF E call l done s
 | [],_,_,_,_,_=>rfl
 |d::r,done,n,N,s,I=>by
  rw[runDrawH,runDrawF];cases stepDrawF E call d (nearOf (done.map (·.r)) d.free) s with
  |none=>rfl
  |some p=>
   obtain⟨v,rec,h⟩:=p;simp only;rw[zN I,jU E call r _ _ _ _ (I.add _)]
theorem Uy:InvH [] 0 []:=⟨rfl,fun i a h=>by simp at h,fun p hp=>by cases hp⟩
def runDrawXH(E:Env)(call:Cle→List AV→AH→Option (AV×AH))(ops:List DOp)(s:St):Option St:=
 match lastSeq ops with
 |some (pre,d)=>match runDrawH E call pre [] 0 [] s with
  |some s1=>runOpsF E call [d.o] s1
  |none=>none
 |none=>runDrawH E call ops [] 0 [] s
theorem oy(E:Env)(call:Cle→List AV→AH→Option (AV×AH))(ops:List DOp)(s:St):runDrawXH E call ops s=runDrawXF E call ops s:=by
 simp only[runDrawXH,runDrawXF,jU E call _ _ _ _ _ Uy];rfl
def execH(E:Env):Nat→ACode→St→Option (Ex×St)
 |0,_,_=>none
 |n+1,c,s=>
  match c with
  |.skip=>some (.normal,s)
  |.ret=>some (.ret,s)
  |.exit id=>some (.exit id,s)
  |.region ops=>(runOpsF E (aZ E (execH E n)) ops s).map fun s=>(.normal,s)
  |.draw ops=>(runDrawXH E (aZ E (execH E n)) ops s).map fun s=>(.normal,s)
  |.seq a b=>match execH E n a s with
   |some (.normal,s)=>execH E n b s
   |r=>r
  |.cond c a b=>match s.eval c with
   |some (.val (.bool true))=>execH E n a s
   |some (.val (.bool false))=>execH E n b s
   |_=>none
  |.block id b=>match execH E n b s with
   |some (.exit i,s)=>some (bif Nat.beq i id then .normal else .exit i,s)
   |r=>r
  |.loop b=>match execH E n b s with
   |some (.normal,s)=>execH E n (.loop b) s
   |r=>r
  |.range g ps asg body M=>
   match s.eval g with
   |some (.fn (.func f) a b)=>
    let sd:Option (AH×List ADef):=match s.round with
     |none=>some (s.h.alloc (.dfr true),.mark s.h.next::s.defers)
     |some q=>match s.h.get q with
      |some (.loop ..)=>some (s.h,s.defers)
      |_=>none
    match sd with
    |none=>none
    |some (h1,df)=>
     match aZ E (execH E n) (.f f) (a++(.yld h1.next::b)) (h1.alloc (.loop s.tm ps asg body M .ready)) with
     |some (_,h3)=>match h3.get h1.next with
      |some (.loop tm3 ps3 asg3 body3 M3 st)=>
       let s':St:={s with h:=h3.put h1.next (some (.loop tm3 ps3 asg3 body3 M3 .gone)),defers:=df}
       match st with
       |.ready=>some (.normal,s')
       |.done e=>some (e,s')
       |_=>none
      |_=>none
     |none=>none
   |_=>none
  |.bad _=>none
theorem si(E:Env):∀(n:Nat) (c:ACode) (s:St),execH E n c s=execF E n c s
 |0,_,_=>rfl
 |n+1,c,s=>by
  have ih:execH E n=execF E n:=funext fun c=>funext fun s=>si E n c s;cases c<;>simp only[execH,execF,ih,oy]<;>rfl
noncomputable def pureRunH (E:Env) (n f:Nat) (l:List AV):Option AV:=
 match enterA E (execH E n) f l .empty with
 |some (r,hc)=>toTree (freeze deepest r hc) deepest r
 |none=>none
theorem qp(E:Env)(n f:Nat)(l:List AV):pureRunH E n f l=pureRun E n f l:=by
 have:execH E n=execF E n:=funext fun c=>funext fun s=>si E n c s;rw[pureRunH,pureRun,this];rfl
end Go.AM
