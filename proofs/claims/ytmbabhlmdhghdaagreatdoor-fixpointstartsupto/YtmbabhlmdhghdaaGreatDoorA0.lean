/- VEnvOk -/
import Derived.Test.YtmbabhlmdhghdaaGreatDoorE1
import Derived.Test.YtmbabhlmdhghdaaGreatDoorM4
import Derived.RecoverIn
import Derived.RegionIn
import Derived.TacticsInMore
set_option linter.all false
open Option.some renaming injEq->sI
open Prod.mk renaming injEq->pI
open Option renaming some->Z, none->Y
open Bool renaming true->J, false->U
open Go.Proofs.Tryz renaming prog->ib
namespace Go.Proofs.YtmbabhlmdhghdaaGreatDoor
open Go Go.AM
theorem bLE(e:Value)(w:World):CallsDIn Fence.wide 0 ib 80 #[e] .returning w λen u w'=>en=.returned (.tuple #[])/\u=.returning/\w'=w:=by
 refine callsDIn_of_wpSIn Tryz.func80 rfl trivial λc₀ cs hu=>?_
 apply wpSIn_seq;apply wpSIn_region;simp[wpOpsSIn,go_sem,recoverD,hu,Tryz.ntmps80,Exit.thenS];refine wpSIn_of_wpIn rfl ?_
 apply wpIn_block;apply wpIn_seq;apply wpIn_region;simp[wpOpsIn,go_sem,Exit.then,Array.replicate];refine wpIn_cond (t:=J) (by simp[Act.eval]) ?_
 simp only[if_true];apply wpIn_region;simp[wpOpsIn,go_sem,Exit.inBlock,bodyPostS,results,Tryz.results80];cases c₀
 simp_all
theorem bDY:IdleOk ib E0:=by
 intro g n hg;have h80:g=80/\n=1:=by
  have hd:E0.idle.get g=if g=80 then Z 1 else(Tr.nil:Tr Nat).get g:=Tr.aO _ _ _ _
  rw[hd] at hg;split at hg
  ·rename_i e;cases hg;exact⟨e,rfl⟩
  ·cases hg
 obtain⟨rfl,rfl⟩:=h80;refine⟨⟨_,Tryz.func80,kr,rfl⟩,λag w hv=>?_⟩;obtain⟨e,rfl⟩:∃e,ag= #[e]:=by
  obtain⟨l⟩:=ag
  match l,hv with
  | [e],_=>exact⟨e,rfl⟩
 refine(bLE e w).mono ?_
 rintro en u w' ⟨rfl,rfl,rfl⟩;exact⟨⟨_,rfl⟩,rfl,Go.RowKit.Below.refl _ _⟩
theorem Ou:∀{l:List (TypeId×String×Nat)} {t:TypeId} {name:String} {g:Nat},findM t name l=Z g->(t,name,g)∈l
 |(t',n,f)::r,t,name,g,h=>by
  simp only[findM] at h;cases hb:(Nat.beq t t'&&name==n) with
  |true=>
   rw[hb] at h;simp only[cond_true,sI] at h;rw[Bool.and_eq_true] at hb;have h1:=Nat.eq_of_beq_eq_true hb.1;have h2:=eq_of_beq hb.2;subst h1;subst h2;subst h;exact List.mem_cons_self
  |false=>
   rw[hb] at h;exact List.mem_cons_of_mem _ (Ou h)
theorem bDG:ez ib E0:=by
 refine⟨λt name g h v w=>?_,λg x w h=>?_,λg e n w h hn=>?_⟩
 ·have hm:=Ou h;simp only[E0,List.mem_cons,List.mem_nil_iff,or_false,pI] at hm;rcases hm with⟨rfl,rfl,rfl⟩|⟨rfl,rfl,rfl⟩|⟨rfl,rfl,rfl⟩|⟨rfl,rfl,rfl⟩|⟨rfl,rfl,rfl⟩|⟨rfl,rfl,rfl⟩|⟨rfl,rfl,rfl⟩<;>exact⟨kr,kr⟩
 ·cases h
  kernel_rfl
 ·cases h;have ht:ib.underlying 304=Z (.slice 5):=kr;obtain⟨cs,h1,h2,h3⟩:=Lib.run_makeNoZero (P:=ib) (w:=w) #[3] 304 5 ht n hn;refine⟨cs,?_,h2⟩;have e:(callFunc 336 #[.int .i64 n]).run ib w=((Extern.BytealgMakeNoZero.makeNoZero #[3] #[304] #[.int .i64 n])>>=λv=>pure (Next.value v)).run ib w:=kr;rw[e,Sem.run_bind,h1];rfl
theorem Cu:lM ib E0:=⟨rfl,bDG,bDY,λg l r h=>(by cases h),kr⟩
end Go.Proofs.YtmbabhlmdhghdaaGreatDoor
