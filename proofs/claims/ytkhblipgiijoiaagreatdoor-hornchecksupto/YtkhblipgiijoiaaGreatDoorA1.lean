/- ZEnvOk ZAwake -/
import Derived.Test.YtkhblipgiijoiaaGreatDoorU0
import Derived.Test.YtkhblipgiijoiaaGreatDoorE1
import Derived.Test.YtkhblipgiijoiaaGreatDoorM4
import Derived.Test.YtkhblipgiijoiaaGreatDoorEA
import Derived.Test.YtkhblipgiijoiaaGreatDoorEB
import Derived.Test.YtkhblipgiijoiaaGreatDoorEC
import Derived.Test.YtkhblipgiijoiaaGreatDoorED
import Derived.Test.YtkhblipgiijoiaaGreatDoorEE
import Derived.Test.YtkhblipgiijoiaaGreatDoorEF
import Derived.Test.YtkhblipgiijoiaaGreatDoorW2
import Derived.RecoverIn
import Derived.RegionIn
import Derived.TacticsInMore
import Derived.Below

set_option linter.all false
open Option.some renaming injEq → sI
open Prod.mk renaming injEq → pI
open List renaming mem_cons_self → ik
open Nat renaming eq_of_beq_eq_true → ij
open Go.Proofs.Tryz renaming prog → i7
namespace Go.Proofs.YtkhblipgiijoiaaGreatDoor
open Go Go.AM
theorem aBK(e:Value)(w:World):CallsDIn Fence.wide 0 i7 124 #[e] .returning w fun en u w'=>en=.returned (.tuple #[])∧u=.returning∧w'=w:=by
 refine callsDIn_of_wpSIn Tryz.func124 rfl trivial fun c₀ cs hu=>?_
 apply wpSIn_seq;apply wpSIn_region;simp[wpOpsSIn,go_sem,recoverD,hu,Tryz.ntmps124,Exit.thenS];refine wpSIn_of_wpIn rfl ?_
 apply wpIn_block;apply wpIn_seq;apply wpIn_region;simp[wpOpsIn,go_sem,Exit.then,Array.replicate];refine wpIn_cond (t:=true) (by simp[Act.eval]) ?_
 simp only[if_true];apply wpIn_region;simp[wpOpsIn,go_sem,Exit.inBlock,bodyPostS,results,Tryz.results124];cases c₀
 simp_all
theorem aBJ:IdleOk i7 E0:=by
 intro g n hg;have h124:g=124∧n=1:=by
  have hd:E0.idle.get g=if g=124 then some 1 else(Tr.nil:Tr Nat).get g:=Tr.get_put _ _ _ _
  rw[hd] at hg;split at hg
  ·rename_i e;cases hg;exact⟨e,rfl⟩
  ·cases hg
 obtain⟨rfl,rfl⟩:=h124;refine⟨⟨_,Tryz.func124,kr,rfl⟩,fun vals w hv=>?_⟩;obtain⟨e,rfl⟩:∃e,vals= #[e]:=by
  obtain⟨l⟩:=vals
  match l,hv with
  | [e],_=>exact⟨e,rfl⟩
 refine(aBK e w).mono ?_
 rintro en u w' ⟨rfl,rfl,rfl⟩;exact⟨⟨_,rfl⟩,rfl,Go.RowKit.Below.refl _ _⟩
theorem wD:∀{l:List (TypeId×String×Nat)} {t:TypeId} {name:String} {g:Nat},findM t name l=some g→(t,name,g)∈l
 |(t',n,f)::r,t,name,g,h=>by
  simp only[findM] at h;cases hb:(Nat.beq t t'&&name==n) with
  |true=>
   rw[hb] at h;simp only[cond_true,sI] at h;rw[Bool.and_eq_true] at hb;have h1:=ij hb.1;have h2:=eq_of_beq hb.2;subst h1;subst h2;subst h;exact ik
  |false=>
   rw[hb] at h;exact List.mem_cons_of_mem _ (wD h)
theorem aBA:MethOk i7 E0:=by
 refine⟨fun t name g h v w=>?_,fun g x w h=>?_,fun g e n w h hn=>?_⟩
 ·have hm:=wD h;simp only[E0,List.mem_cons,List.mem_nil_iff,or_false,pI] at hm;rcases hm with⟨rfl,rfl,rfl⟩|⟨rfl,rfl,rfl⟩|⟨rfl,rfl,rfl⟩|⟨rfl,rfl,rfl⟩|⟨rfl,rfl,rfl⟩|⟨rfl,rfl,rfl⟩|⟨rfl,rfl,rfl⟩<;>exact⟨kr,kr⟩
 ·cases h
  kernel_rfl
 ·cases h;have ht:i7.underlying 308=some (.slice 5):=by kernel_rfl
  obtain⟨cs,h1,h2,h3⟩:=Lib.run_makeNoZero (P:=i7) (w:=w) #[3] 308 5 ht n hn;refine⟨cs,?_,h2⟩;have e:(callFunc 304 #[.int .i64 n]).run i7 w=((Extern.BytealgMakeNoZero.makeNoZero #[3] #[308] #[.int .i64 n])>>=fun v=>pure (Next.value v)).run i7 w:=by kernel_rfl
  rw[e,Sem.run_bind,h1];rfl
theorem aQ:EnvOk i7 E0:=⟨rfl,aBA,aBJ,fun g l r h=>(by cases h),kr⟩
theorem k0:∀x∈(60,a0,r0)::tab0,KFact i7 E0.globs x.1 x.2.1 x.2.2:=
 aL aQ (t:=tab0) (fun x hx=>by cases hx) c0
theorem k1:∀x∈(34,a1,r1)::tab1,KFact i7 E0.globs x.1 x.2.1 x.2.2:=
 aL aQ (t:=tab1) k0 c1
theorem k2:∀x∈(60,a2,r2)::tab2,KFact i7 E0.globs x.1 x.2.1 x.2.2:=
 aL aQ (t:=tab2) k1 c2
theorem k3:∀x∈(76,a3,r3)::tab3,KFact i7 E0.globs x.1 x.2.1 x.2.2:=
 aL aQ (t:=tab3) k2 c3
theorem k4:∀x∈(34,a4,r4)::tab4,KFact i7 E0.globs x.1 x.2.1 x.2.2:=
 aL aQ (t:=tab4) k3 c4
theorem k5:∀x∈(34,a5,r5)::tab5,KFact i7 E0.globs x.1 x.2.1 x.2.2:=
 aL aQ (t:=tab5) k4 c5
theorem k6:∀x∈(76,a6,r6)::tab6,KFact i7 E0.globs x.1 x.2.1 x.2.2:=
 aL aQ (t:=tab6) k5 c6
theorem k7:∀x∈(162,a7,r7)::tab7,KFact i7 E0.globs x.1 x.2.1 x.2.2:=
 aL aQ (t:=tab7) k6 c7
theorem k8:∀x∈(125,a8,r8)::tab8,KFact i7 E0.globs x.1 x.2.1 x.2.2:=
 aL aQ (t:=tab8) k7 c8
theorem k9:∀x∈(76,a9,r9)::tab9,KFact i7 E0.globs x.1 x.2.1 x.2.2:=
 aL aQ (t:=tab9) k8 c9
theorem k10:∀x∈(162,a10,r10)::tab10,KFact i7 E0.globs x.1 x.2.1 x.2.2:=
 aL aQ (t:=tab10) k9 c10
theorem k11:∀x∈(197,a11,r11)::tab11,KFact i7 E0.globs x.1 x.2.1 x.2.2:=
 aL aQ (t:=tab11) k10 c11
theorem k12:∀x∈(197,a12,r12)::tab12,KFact i7 E0.globs x.1 x.2.1 x.2.2:=
 aL aQ (t:=tab12) k11 c12
theorem k13:∀x∈(357,a13,r13)::tab13,KFact i7 E0.globs x.1 x.2.1 x.2.2:=
 aL aQ (t:=tab13) k12 c13
theorem k14:∀x∈(222,a14,r14)::tab14,KFact i7 E0.globs x.1 x.2.1 x.2.2:=
 aL aQ (t:=tab14) k13 c14
theorem k15:∀x∈(197,a15,r15)::tab15,KFact i7 E0.globs x.1 x.2.1 x.2.2:=
 aL aQ (t:=tab15) k14 c15
theorem k16:∀x∈(222,a16,r16)::tab16,KFact i7 E0.globs x.1 x.2.1 x.2.2:=
 aL aQ (t:=tab16) k15 c16
theorem k17:∀x∈(197,a17,r17)::tab17,KFact i7 E0.globs x.1 x.2.1 x.2.2:=
 aL aQ (t:=tab17) k16 c17
theorem k18:∀x∈(222,a18,r18)::tab18,KFact i7 E0.globs x.1 x.2.1 x.2.2:=
 aL aQ (t:=tab18) k17 c18
theorem k19:∀x∈(197,a19,r19)::tab19,KFact i7 E0.globs x.1 x.2.1 x.2.2:=
 aL aQ (t:=tab19) k18 c19
theorem k20:∀x∈(197,a20,r20)::tab20,KFact i7 E0.globs x.1 x.2.1 x.2.2:=
 aL aQ (t:=tab20) k19 c20
theorem k21:∀x∈(197,a21,r21)::tab21,KFact i7 E0.globs x.1 x.2.1 x.2.2:=
 aL aQ (t:=tab21) k20 c21
theorem k22:∀x∈(222,a22,r22)::tab22,KFact i7 E0.globs x.1 x.2.1 x.2.2:=
 aL aQ (t:=tab22) k21 c22
theorem k23:∀x∈(197,a23,r23)::tab23,KFact i7 E0.globs x.1 x.2.1 x.2.2:=
 aL aQ (t:=tab23) k22 c23
theorem k24:∀x∈(357,a24,r24)::tab24,KFact i7 E0.globs x.1 x.2.1 x.2.2:=
 aL aQ (t:=tab24) k23 c24
theorem k25:∀x∈(222,a25,r25)::tab25,KFact i7 E0.globs x.1 x.2.1 x.2.2:=
 aL aQ (t:=tab25) k24 c25
theorem k26:∀x∈(197,a26,r26)::tab26,KFact i7 E0.globs x.1 x.2.1 x.2.2:=
 aL aQ (t:=tab26) k25 c26
theorem k27:∀x∈(222,a27,r27)::tab27,KFact i7 E0.globs x.1 x.2.1 x.2.2:=
 aL aQ (t:=tab27) k26 c27
theorem k28:∀x∈(197,a28,r28)::tab28,KFact i7 E0.globs x.1 x.2.1 x.2.2:=
 aL aQ (t:=tab28) k27 c28
theorem k29:∀x∈(197,a29,r29)::tab29,KFact i7 E0.globs x.1 x.2.1 x.2.2:=
 aL aQ (t:=tab29) k28 c29
theorem k30:∀x∈(125,a30,r30)::tab30,KFact i7 E0.globs x.1 x.2.1 x.2.2:=
 aL aQ (t:=tab30) k29 c30
theorem k31:∀x∈(56,a31,r31)::tab31,KFact i7 E0.globs x.1 x.2.1 x.2.2:=
 aL aQ (t:=tab31) k30 c31
theorem k32:∀x∈(76,a32,r32)::tab32,KFact i7 E0.globs x.1 x.2.1 x.2.2:=
 aL aQ (t:=tab32) k31 c32
theorem k33:∀x∈(162,a33,r33)::tab33,KFact i7 E0.globs x.1 x.2.1 x.2.2:=
 aL aQ (t:=tab33) k32 c33
theorem k34:∀x∈(197,a34,r34)::tab34,KFact i7 E0.globs x.1 x.2.1 x.2.2:=
 aL aQ (t:=tab34) k33 c34
theorem k35:∀x∈(125,a35,r35)::tab35,KFact i7 E0.globs x.1 x.2.1 x.2.2:=
 aL aQ (t:=tab35) k34 c35
theorem k36:∀x∈(32,a36,r36)::tab36,KFact i7 E0.globs x.1 x.2.1 x.2.2:=
 aL aQ (t:=tab36) k35 c36
theorem k37:∀x∈(76,a37,r37)::tab37,KFact i7 E0.globs x.1 x.2.1 x.2.2:=
 aL aQ (t:=tab37) k36 c37
theorem k38:∀x∈(162,a38,r38)::tab38,KFact i7 E0.globs x.1 x.2.1 x.2.2:=
 aL aQ (t:=tab38) k37 c38
theorem k39:∀x∈(125,a39,r39)::tab39,KFact i7 E0.globs x.1 x.2.1 x.2.2:=
 aL aQ (t:=tab39) k38 c39
theorem k40:∀x∈(76,a40,r40)::tab40,KFact i7 E0.globs x.1 x.2.1 x.2.2:=
 aL aQ (t:=tab40) k39 c40
theorem k41:∀x∈(162,a41,r41)::tab41,KFact i7 E0.globs x.1 x.2.1 x.2.2:=
 aL aQ (t:=tab41) k40 c41
theorem k42:∀x∈(222,a42,r42)::tab42,KFact i7 E0.globs x.1 x.2.1 x.2.2:=
 aL aQ (t:=tab42) k41 c42
theorem k43:∀x∈(160,a43,r43)::tab43,KFact i7 E0.globs x.1 x.2.1 x.2.2:=
 aL aQ (t:=tab43) k42 c43
theorem k44:∀x∈(125,a44,r44)::tab44,KFact i7 E0.globs x.1 x.2.1 x.2.2:=
 aL aQ (t:=tab44) k43 c44
theorem k45:∀x∈(56,a45,r45)::tab45,KFact i7 E0.globs x.1 x.2.1 x.2.2:=
 aL aQ (t:=tab45) k44 c45
theorem k46:∀x∈(6,[],.val (.bool true))::tab46,KFact i7 E0.globs x.1 x.2.1 x.2.2:=
 aL aQ (t:=tab46) k45 c46
theorem Li:KFact i7 E0.globs 6 [] (.val (.bool true)):=k46 (6,[],.val (.bool true)) ik
theorem aFE [KR](hk:∀l r,KR.k l=some r→KFact i7 E0.globs 10 l r):EnvOk i7 E1:=
 ⟨aQ.prog,⟨aQ.meth.m,aQ.meth.x1,aQ.meth.x2⟩,aQ.idle,fun g l r h=>by
  have h:(bif Nat.beq g 10 then KR.k l else lookT [(6,[],.val (.bool true))] g l)=some r:=h;cases q:Nat.beq g 10 with
  |true=>
   rw[q] at h;rw[ij q];exact hk l r h
  |false=>
   rw[q] at h;have:=mH h;rw[List.mem_singleton,pI,pI] at this;obtain⟨rfl,rfl,rfl⟩:=this;exact Li,aQ.mixed⟩
end Go.Proofs.YtkhblipgiijoiaaGreatDoor
