/- A part of the proof about filled horn systems: ZAwake. -/
import Derived.Test.YtkhblipgiijoiaaGreatDoorEA
import Derived.Test.YtkhblipgiijoiaaGreatDoorEB
import Derived.Test.YtkhblipgiijoiaaGreatDoorEC
import Derived.Test.YtkhblipgiijoiaaGreatDoorED
import Derived.Test.YtkhblipgiijoiaaGreatDoorEE
import Derived.Test.YtkhblipgiijoiaaGreatDoorEF
import Derived.Test.YtkhblipgiijoiaaGreatDoorE3
import Derived.Test.YtkhblipgiijoiaaGreatDoorW2

set_option linter.all false
namespace Go.Proofs.YtkhblipgiijoiaaGreatDoor
open Go Go.AM
theorem k0:∀x∈(60,a0,r0)::tab0,KFact Tryz.prog E0.globs x.1 x.2.1 x.2.2:=
 aH aT (t:=tab0) (fun x hx=>by cases hx) c0
theorem k1:∀x∈(34,a1,r1)::tab1,KFact Tryz.prog E0.globs x.1 x.2.1 x.2.2:=
 aH aT (t:=tab1) k0 c1
theorem k2:∀x∈(60,a2,r2)::tab2,KFact Tryz.prog E0.globs x.1 x.2.1 x.2.2:=
 aH aT (t:=tab2) k1 c2
theorem k3:∀x∈(76,a3,r3)::tab3,KFact Tryz.prog E0.globs x.1 x.2.1 x.2.2:=
 aH aT (t:=tab3) k2 c3
theorem k4:∀x∈(34,a4,r4)::tab4,KFact Tryz.prog E0.globs x.1 x.2.1 x.2.2:=
 aH aT (t:=tab4) k3 c4
theorem k5:∀x∈(34,a5,r5)::tab5,KFact Tryz.prog E0.globs x.1 x.2.1 x.2.2:=
 aH aT (t:=tab5) k4 c5
theorem k6:∀x∈(76,a6,r6)::tab6,KFact Tryz.prog E0.globs x.1 x.2.1 x.2.2:=
 aH aT (t:=tab6) k5 c6
theorem k7:∀x∈(162,a7,r7)::tab7,KFact Tryz.prog E0.globs x.1 x.2.1 x.2.2:=
 aH aT (t:=tab7) k6 c7
theorem k8:∀x∈(125,a8,r8)::tab8,KFact Tryz.prog E0.globs x.1 x.2.1 x.2.2:=
 aH aT (t:=tab8) k7 c8
theorem k9:∀x∈(76,a9,r9)::tab9,KFact Tryz.prog E0.globs x.1 x.2.1 x.2.2:=
 aH aT (t:=tab9) k8 c9
theorem k10:∀x∈(162,a10,r10)::tab10,KFact Tryz.prog E0.globs x.1 x.2.1 x.2.2:=
 aH aT (t:=tab10) k9 c10
theorem k11:∀x∈(197,a11,r11)::tab11,KFact Tryz.prog E0.globs x.1 x.2.1 x.2.2:=
 aH aT (t:=tab11) k10 c11
theorem k12:∀x∈(197,a12,r12)::tab12,KFact Tryz.prog E0.globs x.1 x.2.1 x.2.2:=
 aH aT (t:=tab12) k11 c12
theorem k13:∀x∈(357,a13,r13)::tab13,KFact Tryz.prog E0.globs x.1 x.2.1 x.2.2:=
 aH aT (t:=tab13) k12 c13
theorem k14:∀x∈(222,a14,r14)::tab14,KFact Tryz.prog E0.globs x.1 x.2.1 x.2.2:=
 aH aT (t:=tab14) k13 c14
theorem k15:∀x∈(197,a15,r15)::tab15,KFact Tryz.prog E0.globs x.1 x.2.1 x.2.2:=
 aH aT (t:=tab15) k14 c15
theorem k16:∀x∈(222,a16,r16)::tab16,KFact Tryz.prog E0.globs x.1 x.2.1 x.2.2:=
 aH aT (t:=tab16) k15 c16
theorem k17:∀x∈(197,a17,r17)::tab17,KFact Tryz.prog E0.globs x.1 x.2.1 x.2.2:=
 aH aT (t:=tab17) k16 c17
theorem k18:∀x∈(222,a18,r18)::tab18,KFact Tryz.prog E0.globs x.1 x.2.1 x.2.2:=
 aH aT (t:=tab18) k17 c18
theorem k19:∀x∈(197,a19,r19)::tab19,KFact Tryz.prog E0.globs x.1 x.2.1 x.2.2:=
 aH aT (t:=tab19) k18 c19
theorem k20:∀x∈(197,a20,r20)::tab20,KFact Tryz.prog E0.globs x.1 x.2.1 x.2.2:=
 aH aT (t:=tab20) k19 c20
theorem k21:∀x∈(197,a21,r21)::tab21,KFact Tryz.prog E0.globs x.1 x.2.1 x.2.2:=
 aH aT (t:=tab21) k20 c21
theorem k22:∀x∈(222,a22,r22)::tab22,KFact Tryz.prog E0.globs x.1 x.2.1 x.2.2:=
 aH aT (t:=tab22) k21 c22
theorem k23:∀x∈(197,a23,r23)::tab23,KFact Tryz.prog E0.globs x.1 x.2.1 x.2.2:=
 aH aT (t:=tab23) k22 c23
theorem k24:∀x∈(357,a24,r24)::tab24,KFact Tryz.prog E0.globs x.1 x.2.1 x.2.2:=
 aH aT (t:=tab24) k23 c24
theorem k25:∀x∈(222,a25,r25)::tab25,KFact Tryz.prog E0.globs x.1 x.2.1 x.2.2:=
 aH aT (t:=tab25) k24 c25
theorem k26:∀x∈(197,a26,r26)::tab26,KFact Tryz.prog E0.globs x.1 x.2.1 x.2.2:=
 aH aT (t:=tab26) k25 c26
theorem k27:∀x∈(222,a27,r27)::tab27,KFact Tryz.prog E0.globs x.1 x.2.1 x.2.2:=
 aH aT (t:=tab27) k26 c27
theorem k28:∀x∈(197,a28,r28)::tab28,KFact Tryz.prog E0.globs x.1 x.2.1 x.2.2:=
 aH aT (t:=tab28) k27 c28
theorem k29:∀x∈(197,a29,r29)::tab29,KFact Tryz.prog E0.globs x.1 x.2.1 x.2.2:=
 aH aT (t:=tab29) k28 c29
theorem k30:∀x∈(125,a30,r30)::tab30,KFact Tryz.prog E0.globs x.1 x.2.1 x.2.2:=
 aH aT (t:=tab30) k29 c30
theorem k31:∀x∈(56,a31,r31)::tab31,KFact Tryz.prog E0.globs x.1 x.2.1 x.2.2:=
 aH aT (t:=tab31) k30 c31
theorem k32:∀x∈(76,a32,r32)::tab32,KFact Tryz.prog E0.globs x.1 x.2.1 x.2.2:=
 aH aT (t:=tab32) k31 c32
theorem k33:∀x∈(162,a33,r33)::tab33,KFact Tryz.prog E0.globs x.1 x.2.1 x.2.2:=
 aH aT (t:=tab33) k32 c33
theorem k34:∀x∈(197,a34,r34)::tab34,KFact Tryz.prog E0.globs x.1 x.2.1 x.2.2:=
 aH aT (t:=tab34) k33 c34
theorem k35:∀x∈(125,a35,r35)::tab35,KFact Tryz.prog E0.globs x.1 x.2.1 x.2.2:=
 aH aT (t:=tab35) k34 c35
theorem k36:∀x∈(32,a36,r36)::tab36,KFact Tryz.prog E0.globs x.1 x.2.1 x.2.2:=
 aH aT (t:=tab36) k35 c36
theorem k37:∀x∈(76,a37,r37)::tab37,KFact Tryz.prog E0.globs x.1 x.2.1 x.2.2:=
 aH aT (t:=tab37) k36 c37
theorem k38:∀x∈(162,a38,r38)::tab38,KFact Tryz.prog E0.globs x.1 x.2.1 x.2.2:=
 aH aT (t:=tab38) k37 c38
theorem k39:∀x∈(125,a39,r39)::tab39,KFact Tryz.prog E0.globs x.1 x.2.1 x.2.2:=
 aH aT (t:=tab39) k38 c39
theorem k40:∀x∈(76,a40,r40)::tab40,KFact Tryz.prog E0.globs x.1 x.2.1 x.2.2:=
 aH aT (t:=tab40) k39 c40
theorem k41:∀x∈(162,a41,r41)::tab41,KFact Tryz.prog E0.globs x.1 x.2.1 x.2.2:=
 aH aT (t:=tab41) k40 c41
theorem k42:∀x∈(222,a42,r42)::tab42,KFact Tryz.prog E0.globs x.1 x.2.1 x.2.2:=
 aH aT (t:=tab42) k41 c42
theorem k43:∀x∈(160,a43,r43)::tab43,KFact Tryz.prog E0.globs x.1 x.2.1 x.2.2:=
 aH aT (t:=tab43) k42 c43
theorem k44:∀x∈(125,a44,r44)::tab44,KFact Tryz.prog E0.globs x.1 x.2.1 x.2.2:=
 aH aT (t:=tab44) k43 c44
theorem k45:∀x∈(56,a45,r45)::tab45,KFact Tryz.prog E0.globs x.1 x.2.1 x.2.2:=
 aH aT (t:=tab45) k44 c45
theorem k46:∀x∈(6,[],.val (.bool true))::tab46,KFact Tryz.prog E0.globs x.1 x.2.1 x.2.2:=
 aH aT (t:=tab46) k45 c46
theorem awake_fact:KFact Tryz.prog E0.globs 6 [] (.val (.bool true)):=k46 (6,[],.val (.bool true)) List.mem_cons_self
theorem e1_ok:EnvOk Tryz.prog E1:=aT.tab fun x hx=>by
 rw[List.mem_singleton.1 hx]
 exact awake_fact
end Go.Proofs.YtkhblipgiijoiaaGreatDoor
