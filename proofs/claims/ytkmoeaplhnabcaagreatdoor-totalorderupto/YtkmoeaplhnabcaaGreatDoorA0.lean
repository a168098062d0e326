/- TEnvOk -/
import Derived.Test.YtkmoeaplhnabcaaGreatDoorU0
import Derived.Test.YtkmoeaplhnabcaaGreatDoorE1
import Derived.Test.YtkmoeaplhnabcaaGreatDoorM4
import Derived.RecoverIn
import Derived.RegionIn
import Derived.TacticsInMore
import Derived.Below

set_option linter.all false
open Option.some renaming injEq → sI
open Prod.mk renaming injEq → pI
open Array renaming replicate → C6
open Go.Proofs.Tryz renaming prog → i3
namespace Go.Proofs.YtkmoeaplhnabcaaGreatDoor
open Go Go.AM
theorem Ld(e1 e2:Value)(w:World):CallsDIn Fence.wide 0 i3 81 #[e1,e2] .returning w fun en u w'=>en=.returned (.tuple #[])∧u=.returning∧w'=w:=by
 refine callsDIn_of_wpSIn Tryz.func81 rfl trivial fun c₀ cs hu=>?_
 apply wpSIn_seq;apply wpSIn_region;simp[wpOpsSIn,go_sem,recoverD,hu,Tryz.ntmps81,Exit.thenS];refine wpSIn_of_wpIn rfl ?_
 apply wpIn_seq;apply wpIn_region;simp[wpOpsIn,go_sem,Exit.then,C6];refine wpIn_cond (t:=false) (by simp[Act.eval]) ?_
 apply wpIn_skip;simp[go_sem,bodyPostS,results,Tryz.results81];cases c₀
 simp_all
theorem Ha(e:Value)(w:World):CallsDIn Fence.wide 0 i3 150 #[e] .returning w fun en u w'=>en=.returned (.tuple #[])∧u=.returning∧w'=w:=by
 refine callsDIn_of_wpSIn Tryz.func150 rfl trivial fun c₀ cs hu=>?_
 apply wpSIn_seq;apply wpSIn_region;simp[wpOpsSIn,go_sem,recoverD,hu,Tryz.ntmps150,Exit.thenS];refine wpSIn_of_wpIn rfl ?_
 apply wpIn_block;apply wpIn_seq;apply wpIn_region;simp[wpOpsIn,go_sem,Exit.then,C6];refine wpIn_cond (t:=true) (by simp[Act.eval]) ?_
 simp only[if_true];apply wpIn_region;simp[wpOpsIn,go_sem,Exit.inBlock,bodyPostS,results,Tryz.results150];cases c₀
 simp_all
theorem Gz:IdleOk i3 E0:=by
 intro g n hg;have h0:(g=81∧n=2)∨(g=150∧n=1):=by
  have hd:E0.idle.get g=if g=81 then some 2 else if g=150 then some 1 else(Tr.nil:Tr Nat).get g:=by
   show((mkTr [(150,1)]).put 81 (some 2)).get g=_;rw[Tr.get_put];split
   ·rfl
   ·exact Tr.get_put _ _ _ _
  rw[hd] at hg;split at hg
  ·rename_i e;cases hg;exact .inl ⟨e,rfl⟩
  ·split at hg
   ·rename_i e;cases hg;exact .inr ⟨e,rfl⟩
   ·cases hg
 rcases h0 with⟨rfl,rfl⟩|⟨rfl,rfl⟩
 ·refine⟨⟨_,Tryz.func81,kr,rfl⟩,fun vals w hv=>?_⟩;obtain⟨e1,e2,rfl⟩:∃e1 e2,vals= #[e1,e2]:=by
   obtain⟨l⟩:=vals
   match l,hv with
   | [e1,e2],_=>exact⟨e1,e2,rfl⟩
  refine(Ld e1 e2 w).mono ?_
  rintro en u w' ⟨rfl,rfl,rfl⟩;exact⟨⟨_,rfl⟩,rfl,Go.RowKit.Below.refl _ _⟩
 ·refine⟨⟨_,Tryz.func150,kr,rfl⟩,fun vals w hv=>?_⟩;obtain⟨e,rfl⟩:∃e,vals= #[e]:=by
   obtain⟨l⟩:=vals
   match l,hv with
   | [e],_=>exact⟨e,rfl⟩
  refine(Ha e w).mono ?_
  rintro en u w' ⟨rfl,rfl,rfl⟩;exact⟨⟨_,rfl⟩,rfl,Go.RowKit.Below.refl _ _⟩
theorem oC:∀{l:List (TypeId×String×Nat)} {t:TypeId} {name:String} {g:Nat},findM t name l=some g→(t,name,g)∈l
 |(t',n,f)::r,t,name,g,h=>by
  simp only[findM] at h;cases hb:(Nat.beq t t'&&name==n) with
  |true=>
   rw[hb] at h;simp only[cond_true,sI] at h;rw[Bool.and_eq_true] at hb;have h1:=Nat.eq_of_beq_eq_true hb.1;have h2:=eq_of_beq hb.2;subst h1;subst h2;subst h;exact List.mem_cons_self
  |false=>
   rw[hb] at h;exact List.mem_cons_of_mem _ (oC h)
theorem Gs:MethOk i3 E0:=by
 refine⟨fun t name g h v w=>?_,fun g x w h=>?_,fun g e n w h hn=>?_⟩
 ·have hm:=oC h;simp only[E0,List.mem_cons,List.mem_nil_iff,or_false,pI] at hm;rcases hm with⟨rfl,rfl,rfl⟩|⟨rfl,rfl,rfl⟩|⟨rfl,rfl,rfl⟩|⟨rfl,rfl,rfl⟩|⟨rfl,rfl,rfl⟩|⟨rfl,rfl,rfl⟩|⟨rfl,rfl,rfl⟩|⟨rfl,rfl,rfl⟩|⟨rfl,rfl,rfl⟩<;>exact⟨kr,kr⟩
 ·cases h
  kernel_rfl
 ·cases h;have ht:i3.underlying 466=some (.slice 5):=by kernel_rfl
  obtain⟨cs,h1,h2,h3⟩:=Lib.run_makeNoZero (P:=i3) (w:=w) #[3] 466 5 ht n hn;refine⟨cs,?_,h2⟩;have e:(callFunc 492 #[.int .i64 n]).run i3 w=((Extern.BytealgMakeNoZero.makeNoZero #[3] #[466] #[.int .i64 n])>>=fun v=>pure (Next.value v)).run i3 w:=by kernel_rfl
  rw[e,Sem.run_bind,h1];rfl
theorem fm:EnvOk i3 E0:=⟨rfl,Gs,Gz,fun g l r h=>(by cases h),kr⟩
end Go.Proofs.YtkmoeaplhnabcaaGreatDoor
