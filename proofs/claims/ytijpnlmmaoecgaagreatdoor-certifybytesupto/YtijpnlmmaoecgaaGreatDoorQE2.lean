/- A part of the proofs about certificates: YChunks. -/
import Derived.Test.YtijpnlmmaoecgaaGreatDoorQM3
import Derived.Test.YtijpnlmmaoecgaaGreatDoorQE1

set_option linter.all false

namespace Go.Proofs.YtijpnlmmaoecgaaGreatDoor
open Go Go.AM
def vi (n : Nat) : AV := .val (.int .i64 (.ofNat n))
def vn (n : Nat) : AV := .val (.int .i64 (.negSucc n))
def vb (b : Bool) : AV := .val (.bool b)
def vs (l : List UInt8) : AV := .val (.string ⟨l.toArray⟩)
def nl : AV := .val (.slice none 0 0)
noncomputable def Ek (tab : List (Nat × List AV × AV)) : Env := E0.tab tab
def tab0 : List (Nat × List AV × AV) := []
def a0 : List AV := [(.agg [nl, nl, nl, nl, nl, (.imm [(vs [111, 110, 101]), nl, (vi 1), (vs []), (vi 1), nl, nl, nl, nl, (vi 0), (vb true), nl, nl, nl, nl, (vi 1), (vs []), nl, nl, (vi 12), (vs []), (vi 0), (.imm [(vi 1), (vs []), (vi 0), nl, (vi 3), (vs [118]), (vi 0), nl] 2 (some 2)), nl, nl] 1 (some 1))]), (vs [111, 110, 101])]
def r0 : AV := (.tup [(.agg [(vs [111, 110, 101]), (vi 1), (vs []), (vs []), (vi 0), (vs []), (vi 0), nl, (vi 0), (.imm [(vi 2), (vs [118, 49]), (vs [73, 110, 116]), (vi 10), (vs []), (vi 0), (.imm [(vi 3), (vs [118, 49]), (vi 0), nl, (vi 1), (vs []), (vi 1), nl] 2 none), (vi 0), (.imm [(vi 3), (vs []), (vs []), (vi 12), (vs []), (vi 0), (.imm [(vi 1), (vs []), (vi 0), nl, (vi 3), (vs [118, 49]), (vi 0), nl] 2 none), (vi 0), nl] 1 none)] 1 none), (.imm [(vi 2), (vs [111, 110, 101]), (vs [111, 110, 101]), nl] 1 none), nl, nl, (.imm [(.imm [(vs [118, 49]), (vs [73, 110, 116])] 1 none), (.imm [(vi 10), (vs []), (vi 0), (.imm [(vi 3), (vs [118, 49]), (vi 0), nl, (vi 1), (vs []), (vi 1), nl] 2 none)] 1 none), (vi 12), (vs []), (vi 0), (.imm [(vi 1), (vs []), (vi 0), nl, (vi 3), (vs [118, 49]), (vi 0), nl] 2 none), (vi 0)] 1 none), nl]), (vi 0)])
def tab1 : List (Nat × List AV × AV) := (44, a0, r0) :: tab0
def a1 : List AV := [(.agg [(vi 15), (vs []), (vi 0), (.imm [(vi 10), (vs []), (vi 0), (.imm [(vi 3), (vs [118, 49]), (vi 0), nl, (vi 1), (vs []), (vi 1), nl] 2 none), (vi 14), (vs []), (vi 0), (.imm [(vi 12), (vs []), (vi 0), (.imm [(vi 1), (vs []), (vi 0), nl, (vi 3), (vs [118, 49]), (vi 0), nl] 2 none)] 1 none)] 2 (some 2))])]
def r1 : AV := (vi 0)
def tab2 : List (Nat × List AV × AV) := (239, a1, r1) :: tab1
def a2 : List AV := [(.agg [(.imm [(vs [118, 49]), (vs [73, 110, 116])] 1 none), nl, nl]), (.agg [(vi 15), (vs []), (vi 0), (.imm [(vi 10), (vs []), (vi 0), (.imm [(vi 3), (vs [118, 49]), (vi 0), nl, (vi 1), (vs []), (vi 1), nl] 2 none), (vi 14), (vs []), (vi 0), (.imm [(vi 12), (vs []), (vi 0), (.imm [(vi 1), (vs []), (vi 0), nl, (vi 3), (vs [118, 49]), (vi 0), nl] 2 none)] 1 none)] 2 (some 2))])]
def r2 : AV := (.tup [(.agg [(vi 15), (vs []), (vi 0), (.imm [(vi 10), (vs []), (vi 0), (.imm [(vi 3), (vs [48]), (vi 0), nl, (vi 1), (vs []), (vi 0), nl] 2 none), (vi 14), (vs []), (vi 0), (.imm [(vi 14), (vs []), (vi 0), (.imm [(vi 13), (vs []), (vi 0), (.imm [(vi 3), (vs [49]), (vi 0), nl, (vi 1), (vs []), (vi 0), nl] 2 none)] 1 none)] 1 none)] 2 none), (.imm [(.imm [(vs [118, 49]), (vi 1)] 1 none), (vn 0), (.imm [(vs [118, 49]), (vi 1)] 1 none), (vi 0)] 2 none)]), (vi 0)])
def tab3 : List (Nat × List AV × AV) := (66, a2, r2) :: tab2
def a3 : List AV := [(.imm [(vi 1)] 1 none), (.imm [(vi 1)] 1 none)]
def r3 : AV := (.tup [(.imm [(vi 1)] 1 (some 1)), (.imm [] 0 (some 1))])
def tab4 : List (Nat × List AV × AV) := (586, a3, r3) :: tab3
def a4 : List AV := [(.imm [(.imm [(vs [118, 49]), (vi 1)] 1 none), (vn 0), (vb true)] 1 none), (.imm [(vs [118, 49])] 1 none), (.val (.pointer none))]
def r4 : AV := (.agg [(vb true), (.imm [(vb false), (.imm [(vi 1)] 1 none), (vb false), (.imm [(vi 1)] 1 none)] 1 none), nl, (vb false), nl, (vb false), nl, (vb false)])
def tab5 : List (Nat × List AV × AV) := (180, a4, r4) :: tab4
def a5 : List AV := [(.imm [(.imm [(vs [118, 49]), (vi 1)] 1 none), (vn 0), (vb true), (.imm [(vs [118, 49]), (vi 1)] 1 none), (vi 1), (vb false)] 2 none), (.imm [(vs [118, 49])] 1 none), (.val (.pointer none))]
def r5 : AV := (.agg [(vb false), nl, (.imm [(vb true), (.imm [(vi 1)] 1 none), (vb false), (.imm [(vi 1)] 1 none), (vb false), (.imm [(vi 1)] 1 none), (vb false), (.imm [(vi 1)] 1 none)] 2 none), (vb false), nl, (vb false), nl, (vb false)])
def tab6 : List (Nat × List AV × AV) := (180, a5, r5) :: tab5
def a6 : List AV := [(.imm [(vb true), (.imm [(vi 1)] 1 none), (vb false), (.imm [(vi 1)] 1 none), (vb false), (.imm [(vi 1)] 1 none), (vb false), (.imm [(vi 1)] 1 none)] 2 none)]
def r6 : AV := (.imm [(vb true), (.imm [(vi 1)] 1 (some 1)), (vb false), (.imm [(vi 1)] 1 (some 1))] 2 none)
def tab7 : List (Nat × List AV × AV) := (182, a6, r6) :: tab6
def a7 : List AV := [(.imm [(.imm [(vs [118, 49]), (vi 1)] 1 none), (vn 0), (vb true), (.imm [(vs [118, 49]), (vi 1)] 1 none), (vi 1), (vb false)] 2 none), (.imm [(vb true), (.imm [(vi 1)] 1 (some 1)), (vb false), (.imm [(vi 1)] 1 (some 1))] 2 none)]
def r7 : AV := (.tup [(.imm [(vb false), nl] 1 (some 1)), (.agg [(vb false), (.imm [(vi 2)] 1 (some 1))]), (vi 0)])
def tab8 : List (Nat × List AV × AV) := (183, a7, r7) :: tab7
def a8 : List AV := [(.imm [(.imm [(vs [118, 49]), (vi 1)] 1 none), (vn 0), (vb true), (.imm [(vs [118, 49]), (vi 1)] 1 none), (vi 1), (vb false)] 2 none), (.imm [(vb true), (.imm [(vi 1)] 1 (some 1)), (vb false), (.imm [(vi 1)] 1 (some 1))] 2 none)]
def r8 : AV := (.imm [(vb true), (.imm [(vi 1)] 1 (some 1)), (vb false), (.imm [(vi 1)] 1 (some 1))] 2 none)
def tab9 : List (Nat × List AV × AV) := (117, a8, r8) :: tab8
def a9 : List AV := [(.imm [(.imm [(vs [118, 49]), (vi 1)] 1 none), (vn 0), (vb true), (.imm [(vs [118, 49]), (vi 1)] 1 none), (vi 0), (vb true)] 2 none), (.imm [(vs [118, 49])] 1 none), (.val (.pointer none))]
def r9 : AV := (.agg [(vb false), nl, (.imm [(vb true), (.imm [(vi 1)] 1 none), (vb false), (.imm [(vi 1)] 1 none), (vb false), (.imm [(vi 1)] 1 none), (vb false), (.imm [(vi 1)] 1 none)] 2 none), (vb false), nl, (vb false), nl, (vb false)])
def tab10 : List (Nat × List AV × AV) := (180, a9, r9) :: tab9
def a10 : List AV := [(.imm [(.imm [(vs [118, 49]), (vi 1)] 1 none), (vn 0), (vb true), (.imm [(vs [118, 49]), (vi 1)] 1 none), (vi 0), (vb true)] 2 none), (.imm [(vb true), (.imm [(vi 1)] 1 (some 1)), (vb false), (.imm [(vi 1)] 1 (some 1))] 2 none)]
def r10 : AV := (.tup [(.imm [(vb false), nl] 1 (some 1)), (.agg [(vb false), (.imm [(vi 1)] 1 (some 1))]), (vi 0)])
def tab11 : List (Nat × List AV × AV) := (183, a10, r10) :: tab10
def a11 : List AV := [(.imm [(.imm [(vs [118, 49]), (vi 1)] 1 none), (vn 0), (vb true), (.imm [(vs [118, 49]), (vi 1)] 1 none), (vi 0), (vb true)] 2 none), (.imm [(vb true), (.imm [(vi 1)] 1 (some 1)), (vb false), (.imm [(vi 1)] 1 (some 1))] 2 none)]
def r11 : AV := (.imm [(vb true), (.imm [(vi 1)] 1 (some 1)), (vb false), (.imm [(vi 1)] 1 (some 1))] 2 none)
def tab12 : List (Nat × List AV × AV) := (117, a11, r11) :: tab11
def a12 : List AV := [(.agg [(vi 15), (vs []), (vi 0), (.imm [(vi 10), (vs []), (vi 0), (.imm [(vi 3), (vs [48]), (vi 0), nl, (vi 1), (vs []), (vi 0), nl] 2 none), (vi 14), (vs []), (vi 0), (.imm [(vi 14), (vs []), (vi 0), (.imm [(vi 13), (vs []), (vi 0), (.imm [(vi 3), (vs [49]), (vi 0), nl, (vi 1), (vs []), (vi 0), nl] 2 none)] 1 none)] 1 none)] 2 none), (.imm [(.imm [(vs [118, 49]), (vi 1)] 1 none), (vn 0), (.imm [(vs [118, 49]), (vi 1)] 1 none), (vi 0)] 2 none)])]
def r12 : AV := (.tup [(.agg [(vi 3), (vi 0), nl, (.imm [(vi 1), (vi 0), nl, nl, (vi 3), (vi 1), nl, (.imm [(vi 2), (vi 0), (.imm [(vb true), (.imm [(vi 1)] 1 (some 1)), (vb false), (.imm [(vi 1)] 1 (some 1))] 2 none), nl, (vi 2), (vi 0), (.imm [(vb true), (.imm [(vi 1)] 1 (some 1)), (vb false), (.imm [(vi 1)] 1 (some 1))] 2 none), nl, (vi 1), (vi 0), nl, nl] 3 none), (vi 1), (vi 0), nl, nl] 3 none)]), (vb true)])
def tab13 : List (Nat × List AV × AV) := (48, a12, r12) :: tab12
def a13 : List AV := [(.agg [(vi 15), (vs []), (vi 0), (.imm [(vi 10), (vs []), (vi 0), (.imm [(vi 3), (vs [48]), (vi 0), nl, (vi 1), (vs []), (vi 0), nl] 2 none), (vi 14), (vs []), (vi 0), (.imm [(vi 14), (vs []), (vi 0), (.imm [(vi 13), (vs []), (vi 0), (.imm [(vi 3), (vs [49]), (vi 0), nl, (vi 1), (vs []), (vi 0), nl] 2 none)] 1 none)] 1 none)] 2 none), (.imm [(.imm [(vs [118, 49]), (vi 1)] 1 none), (vn 0), (.imm [(vs [118, 49]), (vi 1)] 1 none), (vi 0)] 2 none)]), (.agg [(vi 3), (vi 0), nl, (.imm [(vi 1), (vi 0), nl, nl, (vi 3), (vi 1), nl, (.imm [(vi 2), (vi 0), (.imm [(vb true), (.imm [(vi 1)] 1 (some 1)), (vb false), (.imm [(vi 1)] 1 (some 1))] 2 none), nl, (vi 2), (vi 0), (.imm [(vb true), (.imm [(vi 1)] 1 (some 1)), (vb false), (.imm [(vi 1)] 1 (some 1))] 2 none), nl, (vi 1), (vi 0), nl, nl] 3 none), (vi 1), (vi 0), nl, nl] 3 none)])]
def r13 : AV := (vi 0)
def tab14 : List (Nat × List AV × AV) := (49, a13, r13) :: tab13
def a14 : List AV := [(.agg [nl, nl, nl, nl, nl, (.imm [(vs [111, 110, 101]), nl, (vi 1), (vs []), (vi 1), nl, nl, nl, nl, (vi 0), (vb true), nl, nl, nl, nl, (vi 1), (vs []), nl, nl, (vi 12), (vs []), (vi 0), (.imm [(vi 1), (vs []), (vi 0), nl, (vi 3), (vs [118]), (vi 0), nl] 2 (some 2)), nl, nl] 1 (some 1))]), (.agg [(vs [111, 110, 101]), (vi 1), nl, nl, nl, (vi 7)])]
def r14 : AV := (.tup [(.agg [(vs [111, 110, 101]), (vi 7), (.imm [] 0 (some 0)), (.imm [(vi 3), (vi 0), nl, (.imm [(vi 1), (vi 0), nl, nl, (vi 3), (vi 1), nl, (.imm [(vi 2), (vi 0), (.imm [(vb true), (.imm [(vi 1)] 1 (some 1)), (vb false), (.imm [(vi 1)] 1 (some 1))] 2 none), nl, (vi 2), (vi 0), (.imm [(vb true), (.imm [(vi 1)] 1 (some 1)), (vb false), (.imm [(vi 1)] 1 (some 1))] 2 none), nl, (vi 1), (vi 0), nl, nl] 3 none), (vi 1), (vi 0), nl, nl] 3 none)] 1 none)]), (vi 0)])
def tab15 : List (Nat × List AV × AV) := (16, a14, r14) :: tab14
theorem c0 : answers (pureRun (Ek tab0) 1000000 44 a0) r0 = true := by kernel_rfl
theorem c1 : answers (pureRun (Ek tab1) 1000000 239 a1) r1 = true := by kernel_rfl
theorem c2 : answers (pureRun (Ek tab2) 1000000 66 a2) r2 = true := by kernel_rfl
theorem c3 : answers (pureRun (Ek tab3) 1000000 586 a3) r3 = true := by kernel_rfl
theorem c4 : answers (pureRun (Ek tab4) 1000000 180 a4) r4 = true := by kernel_rfl
theorem c5 : answers (pureRun (Ek tab5) 1000000 180 a5) r5 = true := by kernel_rfl
theorem c6 : answers (pureRun (Ek tab6) 1000000 182 a6) r6 = true := by kernel_rfl
theorem c7 : answers (pureRun (Ek tab7) 1000000 183 a7) r7 = true := by kernel_rfl
theorem c8 : answers (pureRun (Ek tab8) 1000000 117 a8) r8 = true := by kernel_rfl
theorem c9 : answers (pureRun (Ek tab9) 1000000 180 a9) r9 = true := by kernel_rfl
theorem c10 : answers (pureRun (Ek tab10) 1000000 183 a10) r10 = true := by kernel_rfl
theorem c11 : answers (pureRun (Ek tab11) 1000000 117 a11) r11 = true := by kernel_rfl
theorem c12 : answers (pureRun (Ek tab12) 1000000 48 a12) r12 = true := by kernel_rfl
theorem c13 : answers (pureRun (Ek tab13) 1000000 49 a13) r13 = true := by kernel_rfl
theorem c14 : answers (pureRun (Ek tab14) 1000000 16 a14) r14 = true := by kernel_rfl
end Go.Proofs.YtijpnlmmaoecgaaGreatDoor
