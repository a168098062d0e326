/- A part of the proof about filled horn systems: ZEnvOk. -/
import Derived.Test.YtkhblipgiijoiaaGreatDoorU0
import Derived.Test.YtkhblipgiijoiaaGreatDoorE1
import Derived.Test.YtkhblipgiijoiaaGreatDoorM4
import Derived.RecoverIn
import Derived.RegionIn
import Derived.TacticsInMore
import Derived.Below

set_option linter.all false
open Option.some renaming injEq → sI
open Prod.mk renaming injEq → pI
namespace Go.Proofs.YtkhblipgiijoiaaGreatDoor
open Go Go.AM
theorem idle124(e:Value)(w:World):CallsDIn Fence.wide 0 Tryz.prog 124 #[e] .returning w fun en u w'=>en=.returned (.tuple #[])∧u=.returning∧w'=w:=by
 refine callsDIn_of_wpSIn Tryz.func124 rfl trivial fun c₀ cs hu=>?_
 apply wpSIn_seq
 apply wpSIn_region
 simp[wpOpsSIn,go_sem,recoverD,hu,Tryz.ntmps124,Exit.thenS]
 refine wpSIn_of_wpIn rfl ?_
 apply wpIn_block
 apply wpIn_seq
 apply wpIn_region
 simp[wpOpsIn,go_sem,Exit.then,Array.replicate]
 refine wpIn_cond (t:=true) (by simp[Act.eval]) ?_
 simp only[if_true]
 apply wpIn_region
 simp[wpOpsIn,go_sem,Exit.inBlock,bodyPostS,results,Tryz.results124]
 cases c₀
 simp_all
theorem idle_ok:IdleOk Tryz.prog E0:=by
 intro g n hg
 have h124:g=124∧n=1:=by
  have hd:E0.idle.get g=if g=124 then some 1 else(Tr.nil:Tr Nat).get g:=Tr.get_put _ _ _ _
  rw[hd] at hg
  split at hg
  ·rename_i e
   cases hg
   exact⟨e,rfl⟩
  ·cases hg
 obtain⟨rfl,rfl⟩:=h124
 refine⟨⟨_,Tryz.func124,kr,rfl⟩,fun vals w hv=>?_⟩
 obtain⟨e,rfl⟩:∃e,vals= #[e]:=by
  obtain⟨l⟩:=vals
  match l,hv with
  | [e],_=>exact⟨e,rfl⟩
 refine(idle124 e w).mono ?_
 rintro en u w' ⟨rfl,rfl,rfl⟩
 exact⟨⟨_,rfl⟩,rfl,Go.RowKit.Below.refl _ _⟩
theorem se:∀{l:List (TypeId×String×Nat)} {t:TypeId} {name:String} {g:Nat},findM t name l=some g→(t,name,g)∈l
 |(t',n,f)::r,t,name,g,h=>by
  simp only[findM] at h
  cases hb:(Nat.beq t t'&&name==n) with
  |true=>
   rw[hb] at h
   simp only[cond_true,sI] at h
   rw[Bool.and_eq_true] at hb
   have h1:=Nat.eq_of_beq_eq_true hb.1
   have h2:=eq_of_beq hb.2
   subst h1;subst h2;subst h
   exact List.mem_cons_self
  |false=>
   rw[hb] at h
   exact List.mem_cons_of_mem _ (se h)
theorem meth_ok:MethOk Tryz.prog E0:=by
 refine⟨fun t name g h v w=>?_,fun g x w h=>?_,fun g e n w h hn=>?_⟩
 ·have hm:=se h
  simp only[E0,List.mem_cons,List.mem_nil_iff,or_false,pI] at hm
  rcases hm with⟨rfl,rfl,rfl⟩|⟨rfl,rfl,rfl⟩|⟨rfl,rfl,rfl⟩|⟨rfl,rfl,rfl⟩|⟨rfl,rfl,rfl⟩|⟨rfl,rfl,rfl⟩|⟨rfl,rfl,rfl⟩<;>exact⟨kr,kr⟩
 ·cases h
  kernel_rfl
 ·cases h
  have ht:Tryz.prog.underlying 308=some (.slice 5):=by kernel_rfl
  obtain⟨cs,h1,h2,h3⟩:=Lib.run_makeNoZero (P:=Tryz.prog) (w:=w) #[3] 308 5 ht n hn
  refine⟨cs,?_,h2⟩
  have e:(callFunc 304 #[.int .i64 n]).run Tryz.prog w=((Extern.BytealgMakeNoZero.makeNoZero #[3] #[308] #[.int .i64 n])>>=fun v=>pure (Next.value v)).run Tryz.prog w:=by kernel_rfl
  rw[e,Sem.run_bind,h1]
  rfl
theorem aT:EnvOk Tryz.prog E0:=⟨rfl,meth_ok,idle_ok,fun g l r h=>(by cases h),kr⟩
end Go.Proofs.YtkhblipgiijoiaaGreatDoor
