/- A part of the proof of the law RewriteGrounds: XChunks. -/
import Derived.Test.YtbolilekjpoicaaGreatDoorM3
import Derived.Test.YtbolilekjpoicaaGreatDoorE1

set_option linter.all false

/- A concrete run, in pieces: what some calls on trees answer. -/
namespace Go.Proofs.YtbolilekjpoicaaGreatDoor
open Go Go.AM

def vi (n : Nat) : AV := .val (.int .i64 (.ofNat n))
def vn (n : Nat) : AV := .val (.int .i64 (.negSucc n))
def vb (b : Bool) : AV := .val (.bool b)
def vs (l : List UInt8) : AV := .val (.string ⟨l.toArray⟩)
def nl : AV := .val (.slice none 0 0)

noncomputable def Ek (tab : List (Nat × List AV × AV)) : Env := E0.tab tab

def tab0 : List (Nat × List AV × AV) := []
def a0 : List AV := [(.agg [(vi 4), (vs [100, 111, 117, 98, 108, 101]), (vi 0), (.imm [(vi 3), (vs [120]), (vi 0), nl] 1 none)])]
def r0 : AV := (.tup [(vs [100, 111, 117, 98, 108, 101, 40, 120, 41]), (vi 0)])
def tab1 : List (Nat × List AV × AV) := (70, a0, r0) :: tab0
def a1 : List AV := [(.agg [(vi 10), (vs []), (vi 0), (.imm [(vi 3), (vs [110]), (vi 0), nl, nl, nl, nl, (vi 3), (vs [110]), (vi 0), nl, nl, nl, nl] 2 (some 2)), nl, nl, nl])]
def r1 : AV := (vi 0)
def tab2 : List (Nat × List AV × AV) := (201, a1, r1) :: tab1
def a2 : List AV := [(.agg [nl, nl, nl, nl, nl, (.imm [(vs [100, 111, 117, 98, 108, 101]), (.imm [(vs [110])] 1 (some 1)), (vi 10), (vs []), (vi 0), (.imm [(vi 3), (vs [110]), (vi 0), nl, nl, nl, nl, (vi 3), (vs [110]), (vi 0), nl, nl, nl, nl] 2 (some 2)), nl, nl, nl, (vi 2), (vb true), nl, nl, nl, nl, (vi 6), (vs []), (.imm [(vi 1), (vs []), nl, nl, (vi 0), (vs []), (vi 0), nl, nl, (vi 1), (vs []), nl, nl, (vi 0), (vs []), (vi 0), nl, nl] 2 (some 2)), (.imm [(vs [110])] 1 (some 1)), (vi 0), (vs []), (vi 0), nl, nl, nl] 1 (some 1))]), (.agg [(vs [100, 111, 117, 98, 108, 101]), (.imm [(vs [110])] 1 (some 1)), (vi 10), (vs []), (vi 0), (.imm [(vi 3), (vs [110]), (vi 0), nl, nl, nl, nl, (vi 3), (vs [110]), (vi 0), nl, nl, nl, nl] 2 (some 2)), nl, nl, nl, (vi 2), (vb true), nl, nl, nl, nl, (vi 6), (vs []), (.imm [(vi 1), (vs []), nl, nl, (vi 0), (vs []), (vi 0), nl, nl, (vi 1), (vs []), nl, nl, (vi 0), (vs []), (vi 0), nl, nl] 2 (some 2)), (.imm [(vs [110])] 1 (some 1)), (vi 0), (vs []), (vi 0), nl, nl, nl])]
def r2 : AV := (.tup [(.imm [(vi 2), (vs []), (vi 1), nl] 1 none), (.imm [(vi 6), (vs []), (vi 0), (.imm [(vi 3), (vs [110]), (vi 0), nl, (vi 3), (vs [110]), (vi 0), nl] 2 none)] 1 none), (vi 0)])
def tab3 : List (Nat × List AV × AV) := (119, a2, r2) :: tab2
def a3 : List AV := [(.agg [nl, nl, nl, nl, nl, (.imm [(vs [100, 111, 117, 98, 108, 101]), (.imm [(vs [110])] 1 (some 1)), (vi 10), (vs []), (vi 0), (.imm [(vi 3), (vs [110]), (vi 0), nl, nl, nl, nl, (vi 3), (vs [110]), (vi 0), nl, nl, nl, nl] 2 (some 2)), nl, nl, nl, (vi 2), (vb true), nl, nl, nl, nl, (vi 6), (vs []), (.imm [(vi 1), (vs []), nl, nl, (vi 0), (vs []), (vi 0), nl, nl, (vi 1), (vs []), nl, nl, (vi 0), (vs []), (vi 0), nl, nl] 2 (some 2)), (.imm [(vs [110])] 1 (some 1)), (vi 0), (vs []), (vi 0), nl, nl, nl] 1 (some 1))]), (.imm [(vi 13), (vs []), (vi 0), (.imm [(vi 4), (vs [100, 111, 117, 98, 108, 101]), (vi 0), (.imm [(vi 3), (vs [120]), (vi 0), nl] 1 (some 1)), (vi 1), (vs []), (vi 3), nl] 2 (some 2))] 1 (some 1)), (vi 2)]
def r3 : AV := (.imm [(vi 10), (vs []), (vi 0), (.imm [(vi 4), (vs [100, 111, 117, 98, 108, 101]), (vi 0), (.imm [(vi 3), (vs [120]), (vi 0), nl] 1 none), (vi 6), (vs []), (vi 0), (.imm [(vi 3), (vs [120]), (vi 0), nl, (vi 3), (vs [120]), (vi 0), nl] 2 none)] 2 none)] 1 none)
def tab4 : List (Nat × List AV × AV) := (9, a3, r3) :: tab3
def a4 : List AV := [(.agg [(vi 10), (vs []), (vi 0), (.imm [(vi 3), (vs [110]), (vi 0), nl, nl, nl, nl, (vi 3), (vs [110]), (vi 0), nl, nl, nl, nl] 2 (some 2)), nl, nl, nl])]
def r4 : AV := (vi 0)
def tab5 : List (Nat × List AV × AV) := (76, a4, r4) :: tab4
def a5 : List AV := [(.agg [(vi 6), (vs []), (vi 0), (.imm [(vi 3), (vs [110]), (vi 0), nl, (vi 3), (vs [110]), (vi 0), nl] 2 none)])]
def r5 : AV := (vi 0)
def tab6 : List (Nat × List AV × AV) := (64, a5, r5) :: tab5
def a6 : List AV := [(.agg [nl, nl, nl, nl, nl, (.imm [(vs [100, 111, 117, 98, 108, 101]), (.imm [(vs [110])] 1 (some 1)), (vi 10), (vs []), (vi 0), (.imm [(vi 3), (vs [110]), (vi 0), nl, nl, nl, nl, (vi 3), (vs [110]), (vi 0), nl, nl, nl, nl] 2 (some 2)), nl, nl, nl, (vi 2), (vb true), nl, nl, nl, nl, (vi 6), (vs []), (.imm [(vi 1), (vs []), nl, nl, (vi 0), (vs []), (vi 0), nl, nl, (vi 1), (vs []), nl, nl, (vi 0), (vs []), (vi 0), nl, nl] 2 (some 2)), (.imm [(vs [110])] 1 (some 1)), (vi 0), (vs []), (vi 0), nl, nl, nl] 1 (some 1))]), (.agg [(vs [100, 111, 117, 98, 108, 101]), (.imm [(vs [110])] 1 (some 1)), (vi 10), (vs []), (vi 0), (.imm [(vi 3), (vs [110]), (vi 0), nl, nl, nl, nl, (vi 3), (vs [110]), (vi 0), nl, nl, nl, nl] 2 (some 2)), nl, nl, nl, (vi 2), (vb true), nl, nl, nl, nl, (vi 6), (vs []), (.imm [(vi 1), (vs []), nl, nl, (vi 0), (vs []), (vi 0), nl, nl, (vi 1), (vs []), nl, nl, (vi 0), (vs []), (vi 0), nl, nl] 2 (some 2)), (.imm [(vs [110])] 1 (some 1)), (vi 0), (vs []), (vi 0), nl, nl, nl])]
def r6 : AV := (.tup [(.imm [(vi 2), (vs []), (vi 1), nl, (vi 6), (vs []), (vi 0), (.imm [(vi 3), (vs [110]), (vi 0), nl, (vi 3), (vs [110]), (vi 0), nl] 2 none)] 1 none), (vi 0)])
def tab7 : List (Nat × List AV × AV) := (23, a6, r6) :: tab6
def a7 : List AV := [(.agg [nl, nl, nl, nl, nl, (.imm [(vs [100, 111, 117, 98, 108, 101]), (.imm [(vs [110])] 1 (some 1)), (vi 10), (vs []), (vi 0), (.imm [(vi 3), (vs [110]), (vi 0), nl, nl, nl, nl, (vi 3), (vs [110]), (vi 0), nl, nl, nl, nl] 2 (some 2)), nl, nl, nl, (vi 2), (vb true), nl, nl, nl, nl, (vi 6), (vs []), (.imm [(vi 1), (vs []), nl, nl, (vi 0), (vs []), (vi 0), nl, nl, (vi 1), (vs []), nl, nl, (vi 0), (vs []), (vi 0), nl, nl] 2 (some 2)), (.imm [(vs [110])] 1 (some 1)), (vi 0), (vs []), (vi 0), nl, nl, nl] 1 (some 1))]), nl, (.agg [(vi 10), (vs []), (vi 0), (.imm [(vi 4), (vs [100, 111, 117, 98, 108, 101]), (vi 0), (.imm [(vi 3), (vs [120]), (vi 0), nl] 1 (some 1)), (vi 8), (vs []), (vi 0), (.imm [(vi 1), (vs []), (vi 2), nl, (vi 3), (vs [120]), (vi 0), nl] 2 (some 2))] 2 (some 2))]), (vi 1)]
def r7 : AV := (.imm [(vi 10), (vs []), (vi 0), (.imm [(vi 4), (vs [100, 111, 117, 98, 108, 101]), (vi 0), (.imm [(vi 3), (vs [120]), (vi 0), nl] 1 none), (vi 6), (vs []), (vi 0), (.imm [(vi 3), (vs [120]), (vi 0), nl, (vi 3), (vs [120]), (vi 0), nl] 2 none)] 2 none)] 1 none)
def tab8 : List (Nat × List AV × AV) := (18, a7, r7) :: tab7
def a8 : List AV := [(.agg [(vi 15), (vs []), (vi 0), (.imm [(vi 10), (vs []), (vi 0), (.imm [(vi 4), (vs [100, 111, 117, 98, 108, 101]), (vi 0), (.imm [(vi 3), (vs [120]), (vi 0), nl] 1 none), (vi 6), (vs []), (vi 0), (.imm [(vi 3), (vs [120]), (vi 0), nl, (vi 3), (vs [120]), (vi 0), nl] 2 none)] 2 none), (vi 14), (vs []), (vi 0), (.imm [(vi 10), (vs []), (vi 0), (.imm [(vi 4), (vs [100, 111, 117, 98, 108, 101]), (vi 0), (.imm [(vi 3), (vs [120]), (vi 0), nl] 1 none), (vi 8), (vs []), (vi 0), (.imm [(vi 1), (vs []), (vi 2), nl, (vi 3), (vs [120]), (vi 0), nl] 2 none)] 2 none)] 1 none)] 2 (some 2))])]
def r8 : AV := (vi 0)
def tab9 : List (Nat × List AV × AV) := (32, a8, r8) :: tab8
def a9 : List AV := [(.agg [(.imm [(vs [120]), (vs [73, 110, 116])] 1 (some 1)), (.imm [(vs [100, 111, 117, 98, 108, 101]), (.imm [(vs [73, 110, 116])] 1 (some 1)), (vs [73, 110, 116])] 1 (some 1)), nl]), (.agg [(vi 4), (vs [100, 111, 117, 98, 108, 101]), (vi 0), (.imm [(vi 3), (vs [120]), (vi 0), nl] 1 none)])]
def r9 : AV := (.tup [(vs [73, 110, 116]), (vi 0)])
def tab10 : List (Nat × List AV × AV) := (183, a9, r9) :: tab9
def a10 : List AV := [(.agg [(.imm [(vs [120]), (vs [73, 110, 116])] 1 (some 1)), (.imm [(vs [100, 111, 117, 98, 108, 101]), (.imm [(vs [73, 110, 116])] 1 (some 1)), (vs [73, 110, 116])] 1 (some 1)), nl]), (.agg [(vi 15), (vs []), (vi 0), (.imm [(vi 10), (vs []), (vi 0), (.imm [(vi 4), (vs [100, 111, 117, 98, 108, 101]), (vi 0), (.imm [(vi 3), (vs [120]), (vi 0), nl] 1 none), (vi 6), (vs []), (vi 0), (.imm [(vi 3), (vs [120]), (vi 0), nl, (vi 3), (vs [120]), (vi 0), nl] 2 none)] 2 none), (vi 14), (vs []), (vi 0), (.imm [(vi 10), (vs []), (vi 0), (.imm [(vi 4), (vs [100, 111, 117, 98, 108, 101]), (vi 0), (.imm [(vi 3), (vs [120]), (vi 0), nl] 1 none), (vi 8), (vs []), (vi 0), (.imm [(vi 1), (vs []), (vi 2), nl, (vi 3), (vs [120]), (vi 0), nl] 2 none)] 2 none)] 1 none)] 2 (some 2))])]
def r10 : AV := (.tup [(.agg [(vi 15), (vs []), (vi 0), (.imm [(vi 10), (vs []), (vi 0), (.imm [(vi 3), (vs [48]), (vi 0), nl, (vi 1), (vs []), (vi 0), nl] 2 none), (vi 14), (vs []), (vi 0), (.imm [(vi 10), (vs []), (vi 0), (.imm [(vi 3), (vs [48]), (vi 0), nl, (vi 1), (vs []), (vi 0), nl] 2 none)] 1 none)] 2 none), (.imm [(.imm [(vs [100, 111, 117, 98, 108, 101, 40, 120, 41]), (vi 1), (vs [120]), (vn 1)] 2 none), (vi 0)] 1 none)]), (vi 0)])
def tab11 : List (Nat × List AV × AV) := (89, a10, r10) :: tab10
def a11 : List AV := [(.agg [(vi 15), (vs []), (vi 0), (.imm [(vi 10), (vs []), (vi 0), (.imm [(vi 3), (vs [48]), (vi 0), nl, (vi 1), (vs []), (vi 0), nl] 2 none), (vi 14), (vs []), (vi 0), (.imm [(vi 10), (vs []), (vi 0), (.imm [(vi 3), (vs [48]), (vi 0), nl, (vi 1), (vs []), (vi 0), nl] 2 none)] 1 none)] 2 none), (.imm [(.imm [(vs [100, 111, 117, 98, 108, 101, 40, 120, 41]), (vi 1), (vs [120]), (vn 1)] 2 none), (vi 0)] 1 none)])]
def r11 : AV := (.tup [nl, (vb false), (vb false)])
def tab12 : List (Nat × List AV × AV) := (49, a11, r11) :: tab11
def a12 : List AV := [(.agg [(vi 14), (vs []), (vi 0), (.imm [(vi 10), (vs []), (vi 0), (.imm [(vi 4), (vs [100, 111, 117, 98, 108, 101]), (vi 0), (.imm [(vi 3), (vs [120]), (vi 0), nl] 1 none), (vi 8), (vs []), (vi 0), (.imm [(vi 1), (vs []), (vi 2), nl, (vi 3), (vs [120]), (vi 0), nl] 2 none)] 2 none)] 1 none)])]
def r12 : AV := (vi 0)
def tab13 : List (Nat × List AV × AV) := (32, a12, r12) :: tab12
def a13 : List AV := [(.agg [(.imm [(vs [120]), (vs [73, 110, 116])] 1 (some 1)), (.imm [(vs [100, 111, 117, 98, 108, 101]), (.imm [(vs [73, 110, 116])] 1 (some 1)), (vs [73, 110, 116])] 1 (some 1)), nl]), (.agg [(vi 14), (vs []), (vi 0), (.imm [(vi 10), (vs []), (vi 0), (.imm [(vi 4), (vs [100, 111, 117, 98, 108, 101]), (vi 0), (.imm [(vi 3), (vs [120]), (vi 0), nl] 1 none), (vi 8), (vs []), (vi 0), (.imm [(vi 1), (vs []), (vi 2), nl, (vi 3), (vs [120]), (vi 0), nl] 2 none)] 2 none)] 1 none)])]
def r13 : AV := (.tup [(.agg [(vi 14), (vs []), (vi 0), (.imm [(vi 10), (vs []), (vi 0), (.imm [(vi 3), (vs [48]), (vi 0), nl, (vi 1), (vs []), (vi 0), nl] 2 none)] 1 none), (.imm [(.imm [(vs [100, 111, 117, 98, 108, 101, 40, 120, 41]), (vi 1), (vs [120]), (vn 1)] 2 none), (vi 0)] 1 none)]), (vi 0)])
def tab14 : List (Nat × List AV × AV) := (89, a13, r13) :: tab13
def a14 : List AV := [(.imm [(vi 1)] 1 none), (.imm [(vi 1)] 1 none)]
def r14 : AV := (.tup [(.imm [(vi 1)] 1 (some 1)), (.imm [] 0 (some 1))])
def tab15 : List (Nat × List AV × AV) := (424, a14, r14) :: tab14
def a15 : List AV := [(.imm [(.imm [(vs [100, 111, 117, 98, 108, 101, 40, 120, 41]), (vi 1), (vs [120]), (vn 1)] 2 none), (vi 1), (vb false)] 1 none), (.imm [(vs [100, 111, 117, 98, 108, 101, 40, 120, 41]), (vs [120])] 2 none), (.val (.pointer none))]
def r15 : AV := (.agg [(vb true), (.imm [(vb true), (.imm [(vi 1)] 1 none), (vb false), (.imm [(vi 1)] 1 none), (vb false), nl, (vb false), (.imm [(vi 1)] 1 none)] 2 none), nl, (vb false), nl, (vb false), nl, (vb false)])
def tab16 : List (Nat × List AV × AV) := (218, a15, r15) :: tab15
def a16 : List AV := [(.imm [(.imm [(vs [100, 111, 117, 98, 108, 101, 40, 120, 41]), (vi 1), (vs [120]), (vn 1)] 2 none), (vi 1), (vb false)] 1 none), (vi 4)]
def r16 : AV := (.tup [(.imm [(vs [100, 111, 117, 98, 108, 101, 40, 120, 41]), (vi 0), (vs [120]), (vi 1)] 2 none), (vb true)])
def tab17 : List (Nat × List AV × AV) := (87, a16, r16) :: tab16
def a17 : List AV := [(.agg [(vi 14), (vs []), (vi 0), (.imm [(vi 10), (vs []), (vi 0), (.imm [(vi 3), (vs [48]), (vi 0), nl, (vi 1), (vs []), (vi 0), nl] 2 none)] 1 none), (.imm [(.imm [(vs [100, 111, 117, 98, 108, 101, 40, 120, 41]), (vi 1), (vs [120]), (vn 1)] 2 none), (vi 0)] 1 none)])]
def r17 : AV := (.tup [(.imm [(vs [100, 111, 117, 98, 108, 101, 40, 120, 41]), (vi 0), (vs [120]), (vi 1)] 2 none), (vb true), (vb true)])
def tab18 : List (Nat × List AV × AV) := (49, a17, r17) :: tab17
def a18 : List AV := []
def r18 : AV := (vb true)
def tab19 : List (Nat × List AV × AV) := (5, a18, r18) :: tab18
theorem c0 : answers (pureRun (Ek tab0) 1000000 70 a0) r0 = true := by kernel_rfl
theorem c1 : answers (pureRun (Ek tab1) 1000000 201 a1) r1 = true := by kernel_rfl
theorem c2 : answers (pureRun (Ek tab2) 1000000 119 a2) r2 = true := by kernel_rfl
theorem c3 : answers (pureRun (Ek tab3) 1000000 9 a3) r3 = true := by kernel_rfl
theorem c4 : answers (pureRun (Ek tab4) 1000000 76 a4) r4 = true := by kernel_rfl
theorem c5 : answers (pureRun (Ek tab5) 1000000 64 a5) r5 = true := by kernel_rfl
theorem c6 : answers (pureRun (Ek tab6) 1000000 23 a6) r6 = true := by kernel_rfl
theorem c7 : answers (pureRun (Ek tab7) 1000000 18 a7) r7 = true := by kernel_rfl
theorem c8 : answers (pureRun (Ek tab8) 1000000 32 a8) r8 = true := by kernel_rfl
theorem c9 : answers (pureRun (Ek tab9) 1000000 183 a9) r9 = true := by kernel_rfl
theorem c10 : answers (pureRun (Ek tab10) 1000000 89 a10) r10 = true := by kernel_rfl
theorem c11 : answers (pureRun (Ek tab11) 1000000 49 a11) r11 = true := by kernel_rfl
theorem c12 : answers (pureRun (Ek tab12) 1000000 32 a12) r12 = true := by kernel_rfl
theorem c13 : answers (pureRun (Ek tab13) 1000000 89 a13) r13 = true := by kernel_rfl
theorem c14 : answers (pureRun (Ek tab14) 1000000 424 a14) r14 = true := by kernel_rfl
theorem c15 : answers (pureRun (Ek tab15) 1000000 218 a15) r15 = true := by kernel_rfl
theorem c16 : answers (pureRun (Ek tab16) 1000000 87 a16) r16 = true := by kernel_rfl
theorem c17 : answers (pureRun (Ek tab17) 1000000 49 a17) r17 = true := by kernel_rfl
theorem c18 : answers (pureRun (Ek tab18) 1000000 5 a18) r18 = true := by kernel_rfl
end Go.Proofs.YtbolilekjpoicaaGreatDoor
