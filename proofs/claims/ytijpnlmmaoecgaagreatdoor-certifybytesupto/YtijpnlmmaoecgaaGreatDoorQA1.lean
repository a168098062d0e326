/- A part of the proofs about certificates: YAwake. -/
import Derived.Test.YtijpnlmmaoecgaaGreatDoorQE2
import Derived.Test.YtijpnlmmaoecgaaGreatDoorQE3
import Derived.Test.YtijpnlmmaoecgaaGreatDoorQC1

set_option linter.all false

namespace Go.Proofs.YtijpnlmmaoecgaaGreatDoor
open Go Go.AM
theorem c15 : answers (pureRun (Ek tab15) 1000000 7 []) (.val (.bool true)) = true := by kernel_rfl
theorem k0 : ∀ x ∈ (44, a0, r0) :: tab0, KFact Tryz.prog E0.globs x.1 x.2.1 x.2.2 :=
 tab_step env_ok (t := tab0) (fun x hx => by cases hx) c0
theorem k1 : ∀ x ∈ (239, a1, r1) :: tab1, KFact Tryz.prog E0.globs x.1 x.2.1 x.2.2 :=
 tab_step env_ok (t := tab1) k0 c1
theorem k2 : ∀ x ∈ (66, a2, r2) :: tab2, KFact Tryz.prog E0.globs x.1 x.2.1 x.2.2 :=
 tab_step env_ok (t := tab2) k1 c2
theorem k3 : ∀ x ∈ (586, a3, r3) :: tab3, KFact Tryz.prog E0.globs x.1 x.2.1 x.2.2 :=
 tab_step env_ok (t := tab3) k2 c3
theorem k4 : ∀ x ∈ (180, a4, r4) :: tab4, KFact Tryz.prog E0.globs x.1 x.2.1 x.2.2 :=
 tab_step env_ok (t := tab4) k3 c4
theorem k5 : ∀ x ∈ (180, a5, r5) :: tab5, KFact Tryz.prog E0.globs x.1 x.2.1 x.2.2 :=
 tab_step env_ok (t := tab5) k4 c5
theorem k6 : ∀ x ∈ (182, a6, r6) :: tab6, KFact Tryz.prog E0.globs x.1 x.2.1 x.2.2 :=
 tab_step env_ok (t := tab6) k5 c6
theorem k7 : ∀ x ∈ (183, a7, r7) :: tab7, KFact Tryz.prog E0.globs x.1 x.2.1 x.2.2 :=
 tab_step env_ok (t := tab7) k6 c7
theorem k8 : ∀ x ∈ (117, a8, r8) :: tab8, KFact Tryz.prog E0.globs x.1 x.2.1 x.2.2 :=
 tab_step env_ok (t := tab8) k7 c8
theorem k9 : ∀ x ∈ (180, a9, r9) :: tab9, KFact Tryz.prog E0.globs x.1 x.2.1 x.2.2 :=
 tab_step env_ok (t := tab9) k8 c9
theorem k10 : ∀ x ∈ (183, a10, r10) :: tab10, KFact Tryz.prog E0.globs x.1 x.2.1 x.2.2 :=
 tab_step env_ok (t := tab10) k9 c10
theorem k11 : ∀ x ∈ (117, a11, r11) :: tab11, KFact Tryz.prog E0.globs x.1 x.2.1 x.2.2 :=
 tab_step env_ok (t := tab11) k10 c11
theorem k12 : ∀ x ∈ (48, a12, r12) :: tab12, KFact Tryz.prog E0.globs x.1 x.2.1 x.2.2 :=
 tab_step env_ok (t := tab12) k11 c12
theorem k13 : ∀ x ∈ (49, a13, r13) :: tab13, KFact Tryz.prog E0.globs x.1 x.2.1 x.2.2 :=
 tab_step env_ok (t := tab13) k12 c13
theorem k14 : ∀ x ∈ (16, a14, r14) :: tab14, KFact Tryz.prog E0.globs x.1 x.2.1 x.2.2 :=
 tab_step env_ok (t := tab14) k13 c14
theorem k15 : ∀ x ∈ (7, [], .val (.bool true)) :: tab15, KFact Tryz.prog E0.globs x.1 x.2.1 x.2.2 :=
 tab_step env_ok (t := tab15) k14 c15
theorem awake_fact : KFact Tryz.prog E0.globs 7 [] (.val (.bool true)) := k15 (7, [], .val (.bool true)) List.mem_cons_self
theorem e1_ok : EnvOk Tryz.prog E1 := env_ok.tab fun x hx => by
 rw [List.mem_singleton.1 hx]
 exact awake_fact
end Go.Proofs.YtijpnlmmaoecgaaGreatDoor
