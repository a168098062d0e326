/- A part of the proof of the law RewriteGrounds: XCodes XPr XW XNodes XDepth XNum XMul. -/
import Derived.Test.YtbolilekjpoicaaGreatDoorW1
import Derived.Test.YtbolilekjpoicaaGreatDoorE1
import Derived.IntWalk

set_option linter.all false

/- The machine's code of some functions, as a program of mine printed it; that it is theirs, the kernel checks. -/
namespace Go.Proofs.YtbolilekjpoicaaGreatDoor
open Go Go.AM

/-- liquidcheck/liquidchecklaw43.RewriteGrounds -/
def f3 : ACode := (.seq (.region [⟨(some 1), none, .box (.t 0)⟩, ⟨(some 2), none, .mv (.c (.val (.bool false)))⟩])
  (.seq (.seq (.region [⟨(some 7), none, .load (some 4) (.t 1)⟩, ⟨(some 8), none, .call 4 [(.t 7)]⟩, ⟨(some 9), none, .bin .gtr 3 true (.t 8) (.c (.val (.int .i64 600)))⟩])
  (.cond (.t 9) (.seq (.region [⟨(some 10), none, .call 5 []⟩, ⟨(some 2), none, .mv (.t 10)⟩])
  .ret) .skip))
  (.seq (.region [⟨(some 12), none, .load (some 4) (.t 1)⟩, ⟨(some 13), none, .call 6 [(.t 12)]⟩, ⟨(some 11), none, .mv (.t 13)⟩, ⟨(some 14), none, .extract 0 (.t 11)⟩, ⟨(some 15), none, .extract 1 (.t 11)⟩, ⟨(some 3), none, .mv (.t 14)⟩, ⟨(some 4), none, .mv (.t 15)⟩])
  (.seq (.region [⟨(some 17), none, .load (some 4) (.t 1)⟩, ⟨(some 18), none, .call 7 [(.t 17)]⟩, ⟨(some 16), none, .mv (.t 18)⟩, ⟨(some 19), none, .extract 0 (.t 16)⟩, ⟨(some 20), none, .extract 1 (.t 16)⟩, ⟨(some 5), none, .mv (.t 19)⟩, ⟨(some 6), none, .mv (.t 20)⟩])
  (.seq (.region [⟨(some 21), none, .mv (.t 3)⟩, ⟨(some 22), none, .mv (.t 5)⟩, ⟨(some 23), none, .bin .eql 3 false (.t 21) (.t 22)⟩, ⟨(some 24), none, .mv (.t 23)⟩, ⟨(some 25), some (24, true), .mv (.t 4)⟩, ⟨(some 26), some (24, true), .mv (.t 6)⟩, ⟨(some 27), some (24, true), .bin .eql 4 false (.t 25) (.t 26)⟩, ⟨(some 28), none, .pick (.t 24) (.t 27) (.c (.val (.bool false)))⟩, ⟨(some 29), none, .mv (.t 28)⟩, ⟨(some 30), some (29, true), .call 5 []⟩, ⟨(some 31), none, .pick (.t 29) (.t 30) (.c (.val (.bool false)))⟩, ⟨(some 2), none, .mv (.t 31)⟩])
  .ret)))))
def f3_fn : AFun := ⟨f3, [.tmp 2]⟩
theorem f3_ok : funOf Tryz.prog 3 = some f3_fn := by kernel_rfl

/-- liquidcheck/liquidcheckref07.Nodes -/
def f4_b0 : ACode := (.seq (.region [⟨(some 10), none, .bin .lss 3 false (.t 9) (.t 8)⟩])
  (.seq (.cond (.t 10) .skip (.exit 0))
  (.seq (.block 1 (.seq (.region [⟨(some 11), none, .idxAddrS 4 (.t 7) (.t 9)⟩, ⟨(some 12), none, .load (some 4) (.t 11)⟩, ⟨(some 5), none, .alloc [(.val (.int .i64 0)), (.val (.string ⟨#[]⟩)), (.val (.int .i64 0)), (.val (.slice none 0 0))]⟩, ⟨none, none, .store 4 (.t 5) (.t 12)⟩])
  (.region [⟨(some 13), none, .mv (.t 3)⟩, ⟨(some 14), none, .load (some 4) (.t 5)⟩, ⟨(some 15), none, .call 4 [(.t 14)]⟩, ⟨(some 16), none, .bin .add 3 false (.t 13) (.t 15)⟩, ⟨(some 3), none, .mv (.t 16)⟩])))
  (.region [⟨(some 17), none, .bin .add 3 true (.t 9) (.c (.val (.int .i64 1)))⟩, ⟨(some 9), none, .mv (.t 17)⟩]))))
def f4_l0 : ACode := .loop f4_b0
def f4 : ACode := (.seq (.region [⟨(some 1), none, .box (.t 0)⟩, ⟨(some 2), none, .mv (.c (.val (.int .i64 0)))⟩])
  (.seq (.region [⟨(some 3), none, .mv (.c (.val (.int .i64 1)))⟩])
  (.seq (.seq (.region [⟨(some 6), none, .fieldAddr 3 (.t 1)⟩, ⟨(some 7), none, .load none (.t 6)⟩, ⟨(some 8), none, .lenS (.t 7)⟩, ⟨(some 9), none, .mv (.c (.val (.int .i64 0)))⟩])
  (.block 0 f4_l0))
  (.seq (.region [⟨(some 18), none, .mv (.t 3)⟩, ⟨(some 2), none, .mv (.t 18)⟩])
  .ret))))
def f4_fn : AFun := ⟨f4, [.tmp 2]⟩
theorem f4_ok : funOf Tryz.prog 4 = some f4_fn := by kernel_rfl

/-- liquidcheck/rewrite.Ground -/
def f6 : ACode := (.seq (.region [⟨(some 1), none, .box (.t 0)⟩, ⟨(some 2), none, .mv (.c (.val (.int .i64 0)))⟩, ⟨(some 3), none, .mv (.c (.val (.bool false)))⟩])
  (.seq (.region [⟨(some 4), none, .load (some 4) (.t 1)⟩, ⟨(some 5), none, .call 19 [(.t 4), (.c (.val (.slice none 0 0))), (.c (.val (.slice none 0 0)))]⟩, ⟨(some 6), none, .extract 0 (.t 5)⟩, ⟨(some 7), none, .extract 1 (.t 5)⟩, ⟨(some 2), none, .mv (.t 6)⟩, ⟨(some 3), none, .mv (.t 7)⟩])
  .ret))
def f6_fn : AFun := ⟨f6, [.tmp 2, .tmp 3]⟩
theorem f6_ok : funOf Tryz.prog 6 = some f6_fn := by kernel_rfl

/-- liquidcheck/liquidcheckref43.Ground -/
def f7 : ACode := (.seq (.region [⟨(some 1), none, .box (.t 0)⟩, ⟨(some 2), none, .mv (.c (.val (.int .i64 0)))⟩, ⟨(some 3), none, .mv (.c (.val (.bool false)))⟩])
  (.seq (.region [⟨(some 4), none, .load (some 4) (.t 1)⟩, ⟨(some 5), none, .call 20 [(.t 4), (.c (.val (.slice none 0 0))), (.c (.val (.slice none 0 0)))]⟩, ⟨(some 6), none, .extract 0 (.t 5)⟩, ⟨(some 7), none, .extract 1 (.t 5)⟩, ⟨(some 2), none, .mv (.t 6)⟩, ⟨(some 3), none, .mv (.t 7)⟩])
  .ret))
def f7_fn : AFun := ⟨f7, [.tmp 2, .tmp 3]⟩
theorem f7_ok : funOf Tryz.prog 7 = some f7_fn := by kernel_rfl

/-- liquidcheck/meaning.Eval -/
def f19 : ACode := (.seq (.region [⟨(some 3), none, .box (.t 0)⟩, ⟨(some 6), none, .mv (.c (.val (.int .i64 0)))⟩, ⟨(some 7), none, .mv (.c (.val (.bool false)))⟩])
  (.seq (.seq (.region [⟨(some 10), none, .load (some 4) (.t 3)⟩, ⟨(some 11), none, .call 32 [(.t 10)]⟩, ⟨(some 12), none, .bin .neq 45 true (.t 11) (.c (.val (.int .i64 0)))⟩])
  (.cond (.t 12) (.seq (.region [⟨(some 6), none, .mv (.c (.val (.int .i64 0)))⟩, ⟨(some 7), none, .mv (.c (.val (.bool false)))⟩])
  .ret) .skip))
  (.seq (.region [⟨(some 14), none, .mv (.t 1)⟩, ⟨(some 15), none, .mv (.t 2)⟩, ⟨(some 16), none, .build [(.val (.slice none 0 0)), (.val (.slice none 0 0))] [(0, 1, (.t 14)), (1, 1, (.t 15))]⟩, ⟨(some 17), none, .load (some 4) (.t 3)⟩, ⟨(some 18), none, .call 33 [(.t 16), (.t 17)]⟩, ⟨(some 13), none, .mv (.t 18)⟩, ⟨(some 19), none, .extract 0 (.t 13)⟩, ⟨(some 20), none, .extract 1 (.t 13)⟩, ⟨(some 8), none, .mv (.t 19)⟩, ⟨(some 9), none, .mv (.t 20)⟩])
  (.seq (.seq (.region [⟨(some 21), none, .mv (.t 9)⟩, ⟨(some 22), none, .un .not (.t 21)⟩])
  (.cond (.t 22) (.seq (.region [⟨(some 6), none, .mv (.c (.val (.int .i64 0)))⟩, ⟨(some 7), none, .mv (.c (.val (.bool false)))⟩])
  .ret) .skip))
  (.seq (.region [⟨(some 23), none, .mv (.t 8)⟩, ⟨(some 6), none, .mv (.t 23)⟩, ⟨(some 7), none, .mv (.c (.val (.bool true)))⟩])
  .ret)))))
def f19_fn : AFun := ⟨f19, [.tmp 6, .tmp 7]⟩
theorem f19_ok : funOf Tryz.prog 19 = some f19_fn := by kernel_rfl

/-- liquidcheck/liquidcheckref10.Eval -/
def f20 : ACode := (.seq (.region [⟨(some 3), none, .box (.t 0)⟩, ⟨(some 6), none, .mv (.c (.val (.int .i64 0)))⟩, ⟨(some 7), none, .mv (.c (.val (.bool false)))⟩])
  (.seq (.seq (.region [⟨(some 8), none, .load (some 4) (.t 3)⟩, ⟨(some 9), none, .call 34 [(.t 8)]⟩, ⟨(some 10), none, .bin .neq 45 true (.t 9) (.c (.val (.int .i64 0)))⟩])
  (.cond (.t 10) (.seq (.region [⟨(some 6), none, .mv (.c (.val (.int .i64 0)))⟩, ⟨(some 7), none, .mv (.c (.val (.bool false)))⟩])
  .ret) .skip))
  (.seq (.region [⟨(some 11), none, .load (some 4) (.t 3)⟩, ⟨(some 12), none, .mv (.t 1)⟩, ⟨(some 13), none, .mv (.t 2)⟩, ⟨(some 14), none, .call 35 [(.t 11), (.t 12), (.t 13)]⟩, ⟨(some 15), none, .extract 0 (.t 14)⟩, ⟨(some 16), none, .extract 1 (.t 14)⟩, ⟨(some 6), none, .mv (.t 15)⟩, ⟨(some 7), none, .mv (.t 16)⟩])
  .ret)))
def f20_fn : AFun := ⟨f20, [.tmp 6, .tmp 7]⟩
theorem f20_ok : funOf Tryz.prog 20 = some f20_fn := by kernel_rfl

/-- (liquidcheck/meaning.evaluator).value -/
def f33_b0 : ACode := (.seq (.region [⟨(some 17), none, .bin .lss 3 false (.t 16) (.t 15)⟩])
  (.seq (.cond (.t 17) .skip (.exit 0))
  (.seq (.block 1 (.seq (.region [⟨(some 18), none, .idxAddrS 4 (.t 14) (.t 16)⟩, ⟨(some 19), none, .load (some 4) (.t 18)⟩, ⟨(some 8), none, .alloc [(.val (.int .i64 0)), (.val (.string ⟨#[]⟩)), (.val (.int .i64 0)), (.val (.slice none 0 0))]⟩, ⟨none, none, .store 4 (.t 8) (.t 19)⟩])
  (.seq (.region [⟨(some 21), none, .load (some 2) (.t 2)⟩, ⟨(some 22), none, .load (some 4) (.t 8)⟩, ⟨(some 23), none, .call 33 [(.t 21), (.t 22)]⟩, ⟨(some 20), none, .mv (.t 23)⟩, ⟨(some 24), none, .extract 0 (.t 20)⟩, ⟨(some 25), none, .extract 1 (.t 20)⟩, ⟨(some 9), none, .mv (.t 24)⟩, ⟨(some 10), none, .mv (.t 25)⟩])
  (.seq (.seq (.region [⟨(some 26), none, .mv (.t 10)⟩, ⟨(some 27), none, .un .not (.t 26)⟩])
  (.cond (.t 27) (.seq (.region [⟨(some 4), none, .mv (.c (.val (.int .i64 0)))⟩, ⟨(some 5), none, .mv (.c (.val (.bool false)))⟩])
  .ret) .skip))
  (.region [⟨(some 28), none, .mv (.t 6)⟩, ⟨(some 29), none, .mv (.t 9)⟩, ⟨(some 30), none, .buildSlice 1 1 [(.val (.int .i64 0))] [(0, 1, (.t 29))]⟩, ⟨(some 31), none, .append 1 8 (.t 28) (.t 30)⟩, ⟨(some 6), none, .mv (.t 31)⟩])))))
  (.region [⟨(some 32), none, .bin .add 3 true (.t 16) (.c (.val (.int .i64 1)))⟩, ⟨(some 16), none, .mv (.t 32)⟩]))))
def f33_l0 : ACode := .loop f33_b0
def f33_d1 : ACode := .draw [⟨⟨(some 82), none, .fieldAddr 0 (.t 3)⟩, [3], []⟩, ⟨⟨(some 83), none, .load none (.t 82)⟩, [82], []⟩, ⟨⟨(some 84), none, .mv (.t 6)⟩, [6], [0, 1]⟩, ⟨⟨(some 85), none, .idxAddrS 1 (.t 84) (.c (.val (.int .i64 0)))⟩, [84], [0, 1]⟩, ⟨⟨(some 86), none, .load none (.t 85)⟩, [85], [0, 1]⟩, ⟨⟨(some 87), none, .mv (.t 6)⟩, [6], [0, 1, 2, 3, 4]⟩, ⟨⟨(some 88), none, .idxAddrS 1 (.t 87) (.c (.val (.int .i64 1)))⟩, [87], [0, 1, 2, 3, 4]⟩, ⟨⟨(some 89), none, .load none (.t 88)⟩, [88], [0, 1, 2, 3, 4]⟩, ⟨⟨(some 90), none, .call 62 [(.t 83), (.t 86), (.t 89)]⟩, [83, 86, 89], []⟩, ⟨⟨(some 91), none, .extract 0 (.t 90)⟩, [90], []⟩, ⟨⟨(some 92), none, .extract 1 (.t 90)⟩, [90], [9]⟩, ⟨⟨(some 4), none, .mv (.t 91)⟩, [91], []⟩, ⟨⟨(some 5), none, .mv (.t 92)⟩, [92], []⟩]
def f33 : ACode := (.seq (.region [⟨(some 2), none, .box (.t 0)⟩, ⟨(some 3), none, .box (.t 1)⟩, ⟨(some 4), none, .mv (.c (.val (.int .i64 0)))⟩, ⟨(some 5), none, .mv (.c (.val (.bool false)))⟩])
  (.seq (.region [⟨(some 6), none, .mv (.c (.val (.slice none 0 0)))⟩])
  (.seq (.seq (.region [⟨(some 13), none, .fieldAddr 3 (.t 3)⟩, ⟨(some 14), none, .load none (.t 13)⟩, ⟨(some 15), none, .lenS (.t 14)⟩, ⟨(some 16), none, .mv (.c (.val (.int .i64 0)))⟩])
  (.block 0 f33_l0))
  (.seq (.seq (.region [⟨(some 33), none, .fieldAddr 0 (.t 3)⟩, ⟨(some 34), none, .load none (.t 33)⟩])
  (.block 2 (.seq (.seq (.region [⟨(some 36), none, .bin .eql 22 true (.t 34) (.c (.val (.int .i64 1)))⟩, ⟨(some 35), none, .mv (.t 36)⟩])
  (.cond (.t 35) .skip (.region [⟨(some 37), none, .bin .eql 22 true (.t 34) (.c (.val (.int .i64 2)))⟩, ⟨(some 35), none, .mv (.t 37)⟩])))
  (.cond (.t 35) (.seq (.region [⟨(some 38), none, .fieldAddr 2 (.t 3)⟩, ⟨(some 39), none, .load none (.t 38)⟩, ⟨(some 4), none, .mv (.t 39)⟩, ⟨(some 5), none, .mv (.c (.val (.bool true)))⟩])
  .ret) (.seq (.region [⟨(some 41), none, .bin .eql 22 true (.t 34) (.c (.val (.int .i64 3)))⟩, ⟨(some 40), none, .mv (.t 41)⟩])
  (.cond (.t 40) (.seq (.region [⟨(some 43), none, .fieldAddr 0 (.t 2)⟩, ⟨(some 44), none, .load none (.t 43)⟩, ⟨(some 45), none, .fieldAddr 1 (.t 3)⟩, ⟨(some 46), none, .load none (.t 45)⟩, ⟨(some 47), none, .call 57 [(.t 44), (.t 46)]⟩, ⟨(some 42), none, .mv (.t 47)⟩, ⟨(some 48), none, .extract 0 (.t 42)⟩, ⟨(some 49), none, .extract 1 (.t 42)⟩, ⟨(some 11), none, .mv (.t 48)⟩, ⟨(some 12), none, .mv (.t 49)⟩])
  (.seq (.region [⟨(some 50), none, .mv (.t 11)⟩, ⟨(some 51), none, .mv (.t 12)⟩, ⟨(some 52), none, .mv (.t 51)⟩, ⟨(some 53), some (52, true), .mv (.t 11)⟩, ⟨(some 54), some (52, true), .call 58 [(.t 53)]⟩, ⟨(some 55), none, .pick (.t 52) (.t 54) (.c (.val (.bool false)))⟩, ⟨(some 4), none, .mv (.t 50)⟩, ⟨(some 5), none, .mv (.t 55)⟩])
  .ret)) (.seq (.region [⟨(some 57), none, .bin .eql 22 true (.t 34) (.c (.val (.int .i64 4)))⟩, ⟨(some 56), none, .mv (.t 57)⟩])
  (.cond (.t 56) (.seq (.region [⟨(some 58), none, .load (some 2) (.t 2)⟩, ⟨(some 59), none, .fieldAddr 1 (.t 3)⟩, ⟨(some 60), none, .load none (.t 59)⟩, ⟨(some 61), none, .mv (.t 6)⟩, ⟨(some 62), none, .call 59 [(.t 58), (.t 60), (.t 61)]⟩, ⟨(some 63), none, .extract 0 (.t 62)⟩, ⟨(some 64), none, .extract 1 (.t 62)⟩, ⟨(some 4), none, .mv (.t 63)⟩, ⟨(some 5), none, .mv (.t 64)⟩])
  .ret) (.seq (.region [⟨(some 66), none, .bin .eql 22 true (.t 34) (.c (.val (.int .i64 5)))⟩, ⟨(some 65), none, .mv (.t 66)⟩])
  (.cond (.t 65) (.seq (.region [⟨(some 4), none, .mv (.c (.val (.int .i64 0)))⟩, ⟨(some 5), none, .mv (.c (.val (.bool false)))⟩])
  .ret) (.seq (.region [⟨(some 68), none, .bin .eql 22 true (.t 34) (.c (.val (.int .i64 9)))⟩, ⟨(some 67), none, .mv (.t 68)⟩])
  (.cond (.t 67) (.seq (.region [⟨(some 69), none, .mv (.t 6)⟩, ⟨(some 70), none, .idxAddrS 1 (.t 69) (.c (.val (.int .i64 0)))⟩, ⟨(some 71), none, .load none (.t 70)⟩, ⟨(some 72), none, .call 60 [(.c (.val (.int .i64 0))), (.t 71)]⟩, ⟨(some 73), none, .extract 0 (.t 72)⟩, ⟨(some 74), none, .extract 1 (.t 72)⟩, ⟨(some 4), none, .mv (.t 73)⟩, ⟨(some 5), none, .mv (.t 74)⟩])
  .ret) (.seq (.region [⟨(some 76), none, .bin .eql 22 true (.t 34) (.c (.val (.int .i64 14)))⟩, ⟨(some 75), none, .mv (.t 76)⟩])
  (.cond (.t 75) (.seq (.region [⟨(some 77), none, .mv (.t 6)⟩, ⟨(some 78), none, .idxAddrS 1 (.t 77) (.c (.val (.int .i64 0)))⟩, ⟨(some 79), none, .load none (.t 78)⟩, ⟨(some 80), none, .bin .eql 3 true (.t 79) (.c (.val (.int .i64 0)))⟩, ⟨(some 81), none, .call 61 [(.t 80)]⟩, ⟨(some 4), none, .mv (.t 81)⟩, ⟨(some 5), none, .mv (.c (.val (.bool true)))⟩])
  .ret) .skip))))))))))))))
  (.seq f33_d1
  .ret)))))
def f33_fn : AFun := ⟨f33, [.tmp 4, .tmp 5]⟩
theorem f33_ok : funOf Tryz.prog 33 = some f33_fn := by kernel_rfl

/-- liquidcheck/liquidcheckref07.Check -/
def f34 : ACode := (.seq (.region [⟨(some 1), none, .box (.t 0)⟩, ⟨(some 2), none, .mv (.c (.val (.int .i64 0)))⟩])
  (.seq (.seq (.region [⟨(some 3), none, .load (some 4) (.t 1)⟩, ⟨(some 4), none, .call 4 [(.t 3)]⟩, ⟨(some 5), none, .bin .gtr 3 true (.t 4) (.c (.val (.int .i64 400)))⟩])
  (.cond (.t 5) (.seq (.region [⟨(some 2), none, .mv (.c (.val (.int .i64 7)))⟩])
  .ret) .skip))
  (.seq (.seq (.region [⟨(some 6), none, .load (some 4) (.t 1)⟩, ⟨(some 7), none, .call 63 [(.t 6)]⟩, ⟨(some 8), none, .bin .gtr 3 true (.t 7) (.c (.val (.int .i64 40)))⟩])
  (.cond (.t 8) (.seq (.region [⟨(some 2), none, .mv (.c (.val (.int .i64 8)))⟩])
  .ret) .skip))
  (.seq (.region [⟨(some 9), none, .load (some 4) (.t 1)⟩, ⟨(some 10), none, .call 64 [(.t 9)]⟩, ⟨(some 2), none, .mv (.t 10)⟩])
  .ret))))
def f34_fn : AFun := ⟨f34, [.tmp 2]⟩
theorem f34_ok : funOf Tryz.prog 34 = some f34_fn := by kernel_rfl

/-- liquidcheck/liquidcheckref10.value -/
def f35_b0 : ACode := (.seq (.region [⟨(some 42), none, .bin .lss 3 false (.t 41) (.t 40)⟩])
  (.seq (.cond (.t 42) .skip (.exit 1))
  (.seq (.block 2 (.seq (.region [⟨(some 43), none, .idxAddrS 4 (.t 39) (.t 41)⟩, ⟨(some 44), none, .load (some 4) (.t 43)⟩, ⟨(some 12), none, .alloc [(.val (.int .i64 0)), (.val (.string ⟨#[]⟩)), (.val (.int .i64 0)), (.val (.slice none 0 0))]⟩, ⟨none, none, .store 4 (.t 12) (.t 44)⟩])
  (.seq (.region [⟨(some 46), none, .load (some 4) (.t 12)⟩, ⟨(some 47), none, .mv (.t 1)⟩, ⟨(some 48), none, .mv (.t 2)⟩, ⟨(some 49), none, .call 35 [(.t 46), (.t 47), (.t 48)]⟩, ⟨(some 45), none, .mv (.t 49)⟩, ⟨(some 50), none, .extract 0 (.t 45)⟩, ⟨(some 51), none, .extract 1 (.t 45)⟩, ⟨(some 13), none, .mv (.t 50)⟩, ⟨(some 14), none, .mv (.t 51)⟩])
  (.seq (.seq (.region [⟨(some 52), none, .mv (.t 14)⟩, ⟨(some 53), none, .un .not (.t 52)⟩])
  (.cond (.t 53) (.seq (.region [⟨(some 6), none, .mv (.c (.val (.int .i64 0)))⟩, ⟨(some 7), none, .mv (.c (.val (.bool false)))⟩])
  .ret) .skip))
  (.region [⟨(some 54), none, .mv (.t 10)⟩, ⟨(some 55), none, .mv (.t 13)⟩, ⟨(some 56), none, .buildSlice 1 1 [(.val (.int .i64 0))] [(0, 1, (.t 55))]⟩, ⟨(some 57), none, .append 1 8 (.t 54) (.t 56)⟩, ⟨(some 10), none, .mv (.t 57)⟩])))))
  (.region [⟨(some 58), none, .bin .add 3 true (.t 41) (.c (.val (.int .i64 1)))⟩, ⟨(some 41), none, .mv (.t 58)⟩]))))
def f35_l0 : ACode := .loop f35_b0
def f35_d1 : ACode := .draw [⟨⟨(some 69), none, .fieldAddr 0 (.t 3)⟩, [3], []⟩, ⟨⟨(some 70), none, .load none (.t 69)⟩, [69], []⟩, ⟨⟨(some 71), none, .mv (.t 10)⟩, [10], [0, 1]⟩, ⟨⟨(some 72), none, .idxAddrS 1 (.t 71) (.c (.val (.int .i64 0)))⟩, [71], [0, 1]⟩, ⟨⟨(some 73), none, .load none (.t 72)⟩, [72], [0, 1]⟩, ⟨⟨(some 74), none, .mv (.t 10)⟩, [10], [0, 1, 2, 3, 4]⟩, ⟨⟨(some 75), none, .mv (.t 10)⟩, [10], [0, 1, 2, 3, 4, 5]⟩, ⟨⟨(some 76), none, .lenS (.t 75)⟩, [75], [0, 1, 2, 3, 4, 5]⟩, ⟨⟨(some 77), none, .bin .sub 3 true (.t 76) (.c (.val (.int .i64 1)))⟩, [76], [0, 1, 2, 3, 4, 5]⟩, ⟨⟨(some 78), none, .idxAddrS 1 (.t 74) (.t 77)⟩, [74, 77], [0, 1, 2, 3, 4]⟩, ⟨⟨(some 79), none, .load none (.t 78)⟩, [78], [0, 1, 2, 3, 4]⟩, ⟨⟨(some 80), none, .call 68 [(.t 70), (.t 73), (.t 79)]⟩, [70, 73, 79], []⟩, ⟨⟨(some 81), none, .extract 0 (.t 80)⟩, [80], []⟩, ⟨⟨(some 82), none, .extract 1 (.t 80)⟩, [80], [12]⟩, ⟨⟨(some 6), none, .mv (.t 81)⟩, [81], []⟩, ⟨⟨(some 7), none, .mv (.t 82)⟩, [82], []⟩]
def f35 : ACode := (.seq (.region [⟨(some 3), none, .box (.t 0)⟩, ⟨(some 6), none, .mv (.c (.val (.int .i64 0)))⟩, ⟨(some 7), none, .mv (.c (.val (.bool false)))⟩])
  (.seq (.seq (.region [⟨(some 15), none, .fieldAddr 0 (.t 3)⟩, ⟨(some 16), none, .load none (.t 15)⟩])
  (.block 0 (.seq (.seq (.region [⟨(some 18), none, .bin .eql 22 true (.t 16) (.c (.val (.int .i64 1)))⟩, ⟨(some 17), none, .mv (.t 18)⟩])
  (.cond (.t 17) .skip (.region [⟨(some 19), none, .bin .eql 22 true (.t 16) (.c (.val (.int .i64 2)))⟩, ⟨(some 17), none, .mv (.t 19)⟩])))
  (.cond (.t 17) (.seq (.region [⟨(some 20), none, .fieldAddr 2 (.t 3)⟩, ⟨(some 21), none, .load none (.t 20)⟩, ⟨(some 6), none, .mv (.t 21)⟩, ⟨(some 7), none, .mv (.c (.val (.bool true)))⟩])
  .ret) (.seq (.region [⟨(some 23), none, .bin .eql 22 true (.t 16) (.c (.val (.int .i64 3)))⟩, ⟨(some 22), none, .mv (.t 23)⟩])
  (.cond (.t 22) (.seq (.region [⟨(some 25), none, .mv (.t 1)⟩, ⟨(some 26), none, .fieldAddr 1 (.t 3)⟩, ⟨(some 27), none, .load none (.t 26)⟩, ⟨(some 28), none, .call 65 [(.t 25), (.t 27)]⟩, ⟨(some 24), none, .mv (.t 28)⟩, ⟨(some 29), none, .extract 0 (.t 24)⟩, ⟨(some 30), none, .extract 1 (.t 24)⟩, ⟨(some 8), none, .mv (.t 29)⟩, ⟨(some 9), none, .mv (.t 30)⟩])
  (.seq (.region [⟨(some 31), none, .mv (.t 8)⟩, ⟨(some 32), none, .mv (.t 9)⟩, ⟨(some 33), none, .call 66 [(.t 31), (.t 32)]⟩, ⟨(some 34), none, .extract 0 (.t 33)⟩, ⟨(some 35), none, .extract 1 (.t 33)⟩, ⟨(some 6), none, .mv (.t 34)⟩, ⟨(some 7), none, .mv (.t 35)⟩])
  .ret)) (.seq (.region [⟨(some 37), none, .bin .eql 22 true (.t 16) (.c (.val (.int .i64 5)))⟩, ⟨(some 36), none, .mv (.t 37)⟩])
  (.cond (.t 36) (.seq (.region [⟨(some 6), none, .mv (.c (.val (.int .i64 0)))⟩, ⟨(some 7), none, .mv (.c (.val (.bool false)))⟩])
  .ret) .skip))))))))
  (.seq (.region [⟨(some 10), none, .mv (.c (.val (.slice none 0 0)))⟩])
  (.seq (.seq (.region [⟨(some 38), none, .fieldAddr 3 (.t 3)⟩, ⟨(some 39), none, .load none (.t 38)⟩, ⟨(some 40), none, .lenS (.t 39)⟩, ⟨(some 41), none, .mv (.c (.val (.int .i64 0)))⟩])
  (.block 1 f35_l0))
  (.seq (.seq (.region [⟨(some 59), none, .fieldAddr 0 (.t 3)⟩, ⟨(some 60), none, .load none (.t 59)⟩, ⟨(some 61), none, .bin .eql 22 true (.t 60) (.c (.val (.int .i64 4)))⟩])
  (.cond (.t 61) (.seq (.region [⟨(some 62), none, .fieldAddr 1 (.t 3)⟩, ⟨(some 63), none, .load none (.t 62)⟩, ⟨(some 64), none, .mv (.t 10)⟩, ⟨(some 65), none, .mv (.t 2)⟩, ⟨(some 66), none, .call 67 [(.t 63), (.t 64), (.t 65)]⟩, ⟨(some 67), none, .extract 0 (.t 66)⟩, ⟨(some 68), none, .extract 1 (.t 66)⟩, ⟨(some 6), none, .mv (.t 67)⟩, ⟨(some 7), none, .mv (.t 68)⟩])
  .ret) .skip))
  (.seq f35_d1
  .ret))))))
def f35_fn : AFun := ⟨f35, [.tmp 6, .tmp 7]⟩
theorem f35_ok : funOf Tryz.prog 35 = some f35_fn := by kernel_rfl

/-- liquidcheck/liquidcheckref04.Find -/
def f43_b0 : ACode := (.seq (.region [⟨(some 9), none, .bin .lss 3 false (.t 8) (.t 7)⟩])
  (.seq (.cond (.t 9) .skip (.exit 0))
  (.seq (.block 1 (.seq (.region [⟨(some 10), none, .mv (.t 8)⟩, ⟨(some 5), none, .mv (.t 10)⟩])
  (.seq (.region [⟨(some 11), none, .mv (.t 0)⟩, ⟨(some 12), none, .mv (.t 5)⟩, ⟨(some 13), none, .idxAddrS 1 (.t 11) (.t 12)⟩, ⟨(some 14), none, .load none (.t 13)⟩, ⟨(some 15), none, .mv (.t 1)⟩, ⟨(some 16), none, .bin .eql 9 false (.t 14) (.t 15)⟩])
  (.cond (.t 16) (.seq (.region [⟨(some 17), none, .mv (.t 5)⟩, ⟨(some 4), none, .mv (.t 17)⟩])
  .ret) .skip))))
  (.region [⟨(some 18), none, .bin .add 3 true (.t 8) (.c (.val (.int .i64 1)))⟩, ⟨(some 8), none, .mv (.t 18)⟩]))))
def f43_l0 : ACode := .loop f43_b0
def f43 : ACode := (.seq (.region [⟨(some 4), none, .mv (.c (.val (.int .i64 0)))⟩])
  (.seq (.seq (.region [⟨(some 6), none, .mv (.t 0)⟩, ⟨(some 7), none, .lenS (.t 6)⟩, ⟨(some 8), none, .mv (.c (.val (.int .i64 0)))⟩])
  (.block 0 f43_l0))
  (.seq (.region [⟨(some 4), none, .mv (.c (.val (.int .i64 (-1))))⟩])
  .ret)))
def f43_fn : AFun := ⟨f43, [.tmp 4]⟩
theorem f43_ok : funOf Tryz.prog 43 = some f43_fn := by kernel_rfl

/-- liquidcheck/pred.Nodes -/
def f53_b0 : ACode := (.seq (.region [⟨(some 10), none, .bin .lss 3 false (.t 9) (.t 8)⟩])
  (.seq (.cond (.t 10) .skip (.exit 0))
  (.seq (.block 1 (.seq (.region [⟨(some 11), none, .idxAddrS 4 (.t 7) (.t 9)⟩, ⟨(some 12), none, .load (some 4) (.t 11)⟩, ⟨(some 5), none, .alloc [(.val (.int .i64 0)), (.val (.string ⟨#[]⟩)), (.val (.int .i64 0)), (.val (.slice none 0 0))]⟩, ⟨none, none, .store 4 (.t 5) (.t 12)⟩])
  (.region [⟨(some 13), none, .mv (.t 3)⟩, ⟨(some 14), none, .load (some 4) (.t 5)⟩, ⟨(some 15), none, .call 53 [(.t 14)]⟩, ⟨(some 16), none, .bin .add 3 false (.t 13) (.t 15)⟩, ⟨(some 3), none, .mv (.t 16)⟩])))
  (.region [⟨(some 17), none, .bin .add 3 true (.t 9) (.c (.val (.int .i64 1)))⟩, ⟨(some 9), none, .mv (.t 17)⟩]))))
def f53_l0 : ACode := .loop f53_b0
def f53 : ACode := (.seq (.region [⟨(some 1), none, .box (.t 0)⟩, ⟨(some 2), none, .mv (.c (.val (.int .i64 0)))⟩])
  (.seq (.region [⟨(some 3), none, .mv (.c (.val (.int .i64 1)))⟩])
  (.seq (.seq (.region [⟨(some 6), none, .fieldAddr 3 (.t 1)⟩, ⟨(some 7), none, .load none (.t 6)⟩, ⟨(some 8), none, .lenS (.t 7)⟩, ⟨(some 9), none, .mv (.c (.val (.int .i64 0)))⟩])
  (.block 0 f53_l0))
  (.seq (.region [⟨(some 18), none, .mv (.t 3)⟩, ⟨(some 2), none, .mv (.t 18)⟩])
  .ret))))
def f53_fn : AFun := ⟨f53, [.tmp 2]⟩
theorem f53_ok : funOf Tryz.prog 53 = some f53_fn := by kernel_rfl

/-- liquidcheck/pred.Depth -/
def f54_b0 : ACode := (.seq (.region [⟨(some 10), none, .bin .lss 3 false (.t 9) (.t 8)⟩])
  (.seq (.cond (.t 10) .skip (.exit 0))
  (.seq (.block 1 (.seq (.region [⟨(some 11), none, .idxAddrS 4 (.t 7) (.t 9)⟩, ⟨(some 12), none, .load (some 4) (.t 11)⟩, ⟨(some 5), none, .alloc [(.val (.int .i64 0)), (.val (.string ⟨#[]⟩)), (.val (.int .i64 0)), (.val (.slice none 0 0))]⟩, ⟨none, none, .store 4 (.t 5) (.t 12)⟩])
  (.region [⟨(some 13), none, .mv (.t 3)⟩, ⟨(some 14), none, .load (some 4) (.t 5)⟩, ⟨(some 15), none, .call 54 [(.t 14)]⟩, ⟨(some 16), none, .maxI [(.t 13), (.t 15)]⟩, ⟨(some 3), none, .mv (.t 16)⟩])))
  (.region [⟨(some 17), none, .bin .add 3 true (.t 9) (.c (.val (.int .i64 1)))⟩, ⟨(some 9), none, .mv (.t 17)⟩]))))
def f54_l0 : ACode := .loop f54_b0
def f54 : ACode := (.seq (.region [⟨(some 1), none, .box (.t 0)⟩, ⟨(some 2), none, .mv (.c (.val (.int .i64 0)))⟩])
  (.seq (.region [⟨(some 3), none, .mv (.c (.val (.int .i64 0)))⟩])
  (.seq (.seq (.region [⟨(some 6), none, .fieldAddr 3 (.t 1)⟩, ⟨(some 7), none, .load none (.t 6)⟩, ⟨(some 8), none, .lenS (.t 7)⟩, ⟨(some 9), none, .mv (.c (.val (.int .i64 0)))⟩])
  (.block 0 f54_l0))
  (.seq (.region [⟨(some 18), none, .mv (.t 3)⟩, ⟨(some 19), none, .bin .add 3 true (.t 18) (.c (.val (.int .i64 1)))⟩, ⟨(some 2), none, .mv (.t 19)⟩])
  .ret))))
def f54_fn : AFun := ⟨f54, [.tmp 2]⟩
theorem f54_ok : funOf Tryz.prog 54 = some f54_fn := by kernel_rfl

/-- liquidcheck/pred.before -/
def f55 : ACode := (.seq (.region [⟨(some 1), none, .box (.t 0)⟩, ⟨(some 2), none, .mv (.c (.val .nilFunc))⟩])
  (.seq (.region [⟨(some 3), none, .mkFunc (.func 92) [] [(.t 1)]⟩, ⟨(some 2), none, .mv (.t 3)⟩])
  .ret))
def f55_fn : AFun := ⟨f55, [.tmp 2]⟩
theorem f55_ok : funOf Tryz.prog 55 = some f55_fn := by kernel_rfl

/-- liquidcheck/pred.node -/
def f56 : ACode := (.seq (.region [⟨(some 1), none, .box (.t 0)⟩, ⟨(some 2), none, .mv (.c (.val (.int .i64 0)))⟩])
  (.seq (.seq (.region [⟨(some 7), none, .fieldAddr 0 (.t 1)⟩, ⟨(some 8), none, .load none (.t 7)⟩, ⟨(some 9), none, .bin .lss 22 true (.t 8) (.c (.val (.int .i64 1)))⟩, ⟨(some 10), none, .mv (.t 9)⟩, ⟨(some 11), some (10, false), .fieldAddr 0 (.t 1)⟩, ⟨(some 12), some (10, false), .load none (.t 11)⟩, ⟨(some 13), some (10, false), .bin .gtr 22 true (.t 12) (.c (.val (.int .i64 18)))⟩, ⟨(some 14), none, .pick (.t 10) (.c (.val (.bool true))) (.t 13)⟩])
  (.cond (.t 14) (.seq (.region [⟨(some 2), none, .mv (.c (.val (.int .i64 1)))⟩])
  .ret) .skip))
  (.seq (.region [⟨(some 16), none, .fieldAddr 0 (.t 1)⟩, ⟨(some 17), none, .load none (.t 16)⟩, ⟨(some 18), none, .call 94 [(.t 17)]⟩, ⟨(some 15), none, .mv (.t 18)⟩, ⟨(some 19), none, .extract 0 (.t 15)⟩, ⟨(some 20), none, .extract 1 (.t 15)⟩, ⟨(some 3), none, .mv (.t 19)⟩, ⟨(some 4), none, .mv (.t 20)⟩])
  (.seq (.seq (.region [⟨(some 21), none, .fieldAddr 0 (.t 1)⟩, ⟨(some 22), none, .load none (.t 21)⟩, ⟨(some 23), none, .call 95 [(.t 22)]⟩, ⟨(some 24), none, .un .not (.t 23)⟩, ⟨(some 25), none, .mv (.t 24)⟩, ⟨(some 26), some (25, true), .fieldAddr 1 (.t 1)⟩, ⟨(some 27), some (25, true), .load none (.t 26)⟩, ⟨(some 28), some (25, true), .bin .neq 9 true (.t 27) (.c (.val (.string ⟨#[]⟩)))⟩, ⟨(some 29), none, .pick (.t 25) (.t 28) (.c (.val (.bool false)))⟩, ⟨(some 30), none, .mv (.t 29)⟩, ⟨(some 31), some (30, false), .fieldAddr 0 (.t 1)⟩, ⟨(some 32), some (30, false), .load none (.t 31)⟩, ⟨(some 33), some (30, false), .bin .neq 22 true (.t 32) (.c (.val (.int .i64 1)))⟩, ⟨(some 34), some (30, false), .mv (.t 33)⟩, ⟨(some 35), some (34, true), .fieldAddr 0 (.t 1)⟩, ⟨(some 36), some (34, true), .load none (.t 35)⟩, ⟨(some 37), some (34, true), .bin .neq 22 true (.t 36) (.c (.val (.int .i64 2)))⟩, ⟨(some 38), some (30, false), .pick (.t 34) (.t 37) (.c (.val (.bool false)))⟩, ⟨(some 39), some (30, false), .mv (.t 38)⟩, ⟨(some 40), some (39, true), .fieldAddr 2 (.t 1)⟩, ⟨(some 41), some (39, true), .load none (.t 40)⟩, ⟨(some 42), some (39, true), .bin .neq 3 true (.t 41) (.c (.val (.int .i64 0)))⟩, ⟨(some 43), some (30, false), .pick (.t 39) (.t 42) (.c (.val (.bool false)))⟩, ⟨(some 44), none, .pick (.t 30) (.c (.val (.bool true))) (.t 43)⟩, ⟨(some 45), none, .mv (.t 44)⟩, ⟨(some 46), some (45, false), .fieldAddr 3 (.t 1)⟩, ⟨(some 47), some (45, false), .load none (.t 46)⟩, ⟨(some 48), some (45, false), .lenS (.t 47)⟩, ⟨(some 49), some (45, false), .mv (.t 3)⟩, ⟨(some 50), some (45, false), .bin .lss 3 false (.t 48) (.t 49)⟩, ⟨(some 51), none, .pick (.t 45) (.c (.val (.bool true))) (.t 50)⟩, ⟨(some 52), none, .mv (.t 51)⟩, ⟨(some 53), some (52, false), .fieldAddr 3 (.t 1)⟩, ⟨(some 54), some (52, false), .load none (.t 53)⟩, ⟨(some 55), some (52, false), .lenS (.t 54)⟩, ⟨(some 56), some (52, false), .mv (.t 4)⟩, ⟨(some 57), some (52, false), .bin .gtr 3 false (.t 55) (.t 56)⟩, ⟨(some 58), none, .pick (.t 52) (.c (.val (.bool true))) (.t 57)⟩])
  (.cond (.t 58) (.seq (.region [⟨(some 2), none, .mv (.c (.val (.int .i64 1)))⟩])
  .ret) .skip))
  (.seq (.seq (.region [⟨(some 59), none, .fieldAddr 0 (.t 1)⟩, ⟨(some 60), none, .load none (.t 59)⟩, ⟨(some 61), none, .bin .eql 22 true (.t 60) (.c (.val (.int .i64 1)))⟩, ⟨(some 62), none, .mv (.t 61)⟩, ⟨(some 63), some (62, true), .fieldAddr 2 (.t 1)⟩, ⟨(some 64), some (62, true), .load none (.t 63)⟩, ⟨(some 65), some (62, true), .call 58 [(.t 64)]⟩, ⟨(some 66), some (62, true), .un .not (.t 65)⟩, ⟨(some 67), none, .pick (.t 62) (.t 66) (.c (.val (.bool false)))⟩, ⟨(some 68), none, .mv (.t 67)⟩, ⟨(some 69), some (68, false), .fieldAddr 0 (.t 1)⟩, ⟨(some 70), some (68, false), .load none (.t 69)⟩, ⟨(some 71), some (68, false), .bin .eql 22 true (.t 70) (.c (.val (.int .i64 2)))⟩, ⟨(some 72), some (68, false), .mv (.t 71)⟩, ⟨(some 73), some (72, true), .fieldAddr 2 (.t 1)⟩, ⟨(some 74), some (72, true), .load none (.t 73)⟩, ⟨(some 75), some (72, true), .bin .neq 3 true (.t 74) (.c (.val (.int .i64 0)))⟩, ⟨(some 76), some (68, false), .pick (.t 72) (.t 75) (.c (.val (.bool false)))⟩, ⟨(some 77), some (68, false), .mv (.t 76)⟩, ⟨(some 78), some (77, true), .fieldAddr 2 (.t 1)⟩, ⟨(some 79), some (77, true), .load none (.t 78)⟩, ⟨(some 80), some (77, true), .bin .neq 3 true (.t 79) (.c (.val (.int .i64 1)))⟩, ⟨(some 81), some (68, false), .pick (.t 77) (.t 80) (.c (.val (.bool false)))⟩, ⟨(some 82), none, .pick (.t 68) (.c (.val (.bool true))) (.t 81)⟩])
  (.cond (.t 82) (.seq (.region [⟨(some 2), none, .mv (.c (.val (.int .i64 2)))⟩])
  .ret) .skip))
  (.seq (.seq (.region [⟨(some 83), none, .fieldAddr 0 (.t 1)⟩, ⟨(some 84), none, .load none (.t 83)⟩, ⟨(some 85), none, .call 95 [(.t 84)]⟩, ⟨(some 86), none, .mv (.t 85)⟩, ⟨(some 87), some (86, true), .fieldAddr 1 (.t 1)⟩, ⟨(some 88), some (86, true), .load none (.t 87)⟩, ⟨(some 89), some (86, true), .call 96 [(.t 88)]⟩, ⟨(some 90), some (86, true), .bin .neq 45 true (.t 89) (.c (.val (.int .i64 0)))⟩, ⟨(some 91), none, .pick (.t 86) (.t 90) (.c (.val (.bool false)))⟩])
  (.cond (.t 91) (.seq (.region [⟨(some 92), none, .fieldAddr 0 (.t 1)⟩, ⟨(some 93), none, .load none (.t 92)⟩, ⟨(some 94), none, .bin .eql 22 true (.t 93) (.c (.val (.int .i64 3)))⟩, ⟨(some 95), none, .mv (.t 94)⟩, ⟨(some 96), some (95, true), .fieldAddr 1 (.t 1)⟩, ⟨(some 97), some (95, true), .load none (.t 96)⟩, ⟨(some 98), some (95, true), .bin .eql 9 true (.t 97) (.c (.val (.string ⟨#[118]⟩)))⟩, ⟨(some 99), none, .pick (.t 95) (.t 98) (.c (.val (.bool false)))⟩, ⟨(some 5), none, .mv (.t 99)⟩])
  (.seq (.region [⟨(some 100), none, .fieldAddr 0 (.t 1)⟩, ⟨(some 101), none, .load none (.t 100)⟩, ⟨(some 102), none, .bin .eql 22 true (.t 101) (.c (.val (.int .i64 4)))⟩, ⟨(some 103), none, .mv (.t 102)⟩, ⟨(some 104), some (103, true), .fieldAddr 1 (.t 1)⟩, ⟨(some 105), some (103, true), .load none (.t 104)⟩, ⟨(some 106), some (103, true), .bin .eql 9 true (.t 105) (.c (.val (.string ⟨#[116, 97, 103]⟩)))⟩, ⟨(some 107), some (103, true), .mv (.t 106)⟩, ⟨(some 108), some (107, false), .fieldAddr 1 (.t 1)⟩, ⟨(some 109), some (107, false), .load none (.t 108)⟩, ⟨(some 110), some (107, false), .bin .eql 9 true (.t 109) (.c (.val (.string ⟨#[118, 97, 108]⟩)))⟩, ⟨(some 111), some (103, true), .pick (.t 107) (.c (.val (.bool true))) (.t 110)⟩, ⟨(some 112), none, .pick (.t 103) (.t 111) (.c (.val (.bool false)))⟩, ⟨(some 6), none, .mv (.t 112)⟩])
  (.seq (.region [⟨(some 113), none, .mv (.t 5)⟩, ⟨(some 114), none, .un .not (.t 113)⟩, ⟨(some 115), none, .mv (.t 114)⟩, ⟨(some 116), some (115, true), .mv (.t 6)⟩, ⟨(some 117), some (115, true), .un .not (.t 116)⟩, ⟨(some 118), none, .pick (.t 115) (.t 117) (.c (.val (.bool false)))⟩])
  (.cond (.t 118) (.seq (.region [⟨(some 2), none, .mv (.c (.val (.int .i64 3)))⟩])
  .ret) .skip)))) .skip))
  (.seq (.seq (.region [⟨(some 119), none, .fieldAddr 0 (.t 1)⟩, ⟨(some 120), none, .load none (.t 119)⟩, ⟨(some 121), none, .bin .eql 22 true (.t 120) (.c (.val (.int .i64 8)))⟩, ⟨(some 122), none, .mv (.t 121)⟩, ⟨(some 123), some (122, true), .fieldAddr 3 (.t 1)⟩, ⟨(some 124), some (122, true), .load none (.t 123)⟩, ⟨(some 125), some (122, true), .idxAddrS 4 (.t 124) (.c (.val (.int .i64 0)))⟩, ⟨(some 126), some (122, true), .fieldAddr 0 (.t 125)⟩, ⟨(some 127), some (122, true), .load none (.t 126)⟩, ⟨(some 128), some (122, true), .bin .neq 22 true (.t 127) (.c (.val (.int .i64 1)))⟩, ⟨(some 129), none, .pick (.t 122) (.t 128) (.c (.val (.bool false)))⟩])
  (.cond (.t 129) (.seq (.region [⟨(some 2), none, .mv (.c (.val (.int .i64 6)))⟩])
  .ret) .skip))
  (.seq (.region [⟨(some 2), none, .mv (.c (.val (.int .i64 0)))⟩])
  .ret))))))))
def f56_fn : AFun := ⟨f56, [.tmp 2]⟩
theorem f56_ok : funOf Tryz.prog 56 = some f56_fn := by kernel_rfl

/-- liquidcheck/meaning.Find -/
def f57_b0 : ACode := (.seq (.region [⟨(some 11), none, .bin .lss 3 false (.t 10) (.t 9)⟩])
  (.seq (.cond (.t 11) .skip (.exit 0))
  (.seq (.block 1 (.seq (.region [⟨(some 12), none, .idxAddrS 2 (.t 8) (.t 10)⟩, ⟨(some 13), none, .load (some 2) (.t 12)⟩, ⟨(some 7), none, .alloc [(.val (.string ⟨#[]⟩)), (.val (.int .i64 0))]⟩, ⟨none, none, .store 2 (.t 7) (.t 13)⟩])
  (.seq (.region [⟨(some 14), none, .fieldAddr 0 (.t 7)⟩, ⟨(some 15), none, .load none (.t 14)⟩, ⟨(some 16), none, .mv (.t 1)⟩, ⟨(some 17), none, .bin .eql 9 false (.t 15) (.t 16)⟩])
  (.cond (.t 17) (.seq (.region [⟨(some 18), none, .fieldAddr 1 (.t 7)⟩, ⟨(some 19), none, .load none (.t 18)⟩, ⟨(some 4), none, .mv (.t 19)⟩, ⟨(some 5), none, .mv (.c (.val (.bool true)))⟩])
  .ret) .skip))))
  (.region [⟨(some 20), none, .bin .add 3 true (.t 10) (.c (.val (.int .i64 1)))⟩, ⟨(some 10), none, .mv (.t 20)⟩]))))
def f57_l0 : ACode := .loop f57_b0
def f57 : ACode := (.seq (.region [⟨(some 4), none, .mv (.c (.val (.int .i64 0)))⟩, ⟨(some 5), none, .mv (.c (.val (.bool false)))⟩])
  (.seq (.seq (.region [⟨(some 8), none, .mv (.t 0)⟩, ⟨(some 9), none, .lenS (.t 8)⟩, ⟨(some 10), none, .mv (.c (.val (.int .i64 0)))⟩])
  (.block 0 f57_l0))
  (.seq (.region [⟨(some 4), none, .mv (.c (.val (.int .i64 0)))⟩, ⟨(some 5), none, .mv (.c (.val (.bool false)))⟩])
  .ret)))
def f57_fn : AFun := ⟨f57, [.tmp 4, .tmp 5]⟩
theorem f57_ok : funOf Tryz.prog 57 = some f57_fn := by kernel_rfl

/-- liquidcheck/num.In -/
def f58 : ACode := (.seq (.region [⟨(some 2), none, .mv (.c (.val (.bool false)))⟩])
  (.seq (.region [⟨(some 3), none, .mv (.t 0)⟩, ⟨(some 4), none, .bin .geq 3 true (.t 3) (.c (.val (.int .i64 (-1000000000000))))⟩, ⟨(some 5), none, .mv (.t 4)⟩, ⟨(some 6), some (5, true), .mv (.t 0)⟩, ⟨(some 7), some (5, true), .bin .leq 3 true (.t 6) (.c (.val (.int .i64 1000000000000)))⟩, ⟨(some 8), none, .pick (.t 5) (.t 7) (.c (.val (.bool false)))⟩, ⟨(some 2), none, .mv (.t 8)⟩])
  .ret))
def f58_fn : AFun := ⟨f58, [.tmp 2]⟩
theorem f58_ok : funOf Tryz.prog 58 = some f58_fn := by kernel_rfl

/-- (liquidcheck/meaning.evaluator).fact -/
def f59_d0 : ACode := .draw [⟨⟨(some 27), none, .fieldAddr 2 (.t 9)⟩, [9], []⟩, ⟨⟨(some 28), none, .load none (.t 27)⟩, [27], []⟩, ⟨⟨(some 29), none, .fieldAddr 2 (.t 9)⟩, [9], [0, 1]⟩, ⟨⟨(some 30), none, .load none (.t 29)⟩, [29], [0, 1]⟩, ⟨⟨(some 31), none, .call 58 [(.t 30)]⟩, [30], [0, 1]⟩, ⟨⟨(some 6), none, .mv (.t 28)⟩, [28], []⟩, ⟨⟨(some 7), none, .mv (.t 31)⟩, [31], []⟩]
def f59_b1 : ACode := (.seq (.region [⟨(some 14), none, .bin .lss 3 false (.t 13) (.t 12)⟩])
  (.seq (.cond (.t 14) .skip (.exit 0))
  (.seq (.block 1 (.seq (.region [⟨(some 15), none, .idxAddrS 3 (.t 11) (.t 13)⟩, ⟨(some 16), none, .load (some 3) (.t 15)⟩, ⟨(some 9), none, .alloc [(.val (.string ⟨#[]⟩)), (.val (.slice none 0 0)), (.val (.int .i64 0))]⟩, ⟨none, none, .store 3 (.t 9) (.t 16)⟩])
  (.seq (.region [⟨(some 17), none, .fieldAddr 0 (.t 9)⟩, ⟨(some 18), none, .load none (.t 17)⟩, ⟨(some 19), none, .mv (.t 1)⟩, ⟨(some 20), none, .bin .eql 9 false (.t 18) (.t 19)⟩, ⟨(some 21), none, .mv (.t 20)⟩, ⟨(some 22), some (21, true), .fieldAddr 1 (.t 9)⟩, ⟨(some 23), some (21, true), .load none (.t 22)⟩, ⟨(some 24), some (21, true), .mv (.t 2)⟩, ⟨(some 25), some (21, true), .call 97 [(.t 23), (.t 24)]⟩, ⟨(some 26), none, .pick (.t 21) (.t 25) (.c (.val (.bool false)))⟩])
  (.cond (.t 26) (.seq f59_d0
  .ret) .skip))))
  (.region [⟨(some 32), none, .bin .add 3 true (.t 13) (.c (.val (.int .i64 1)))⟩, ⟨(some 13), none, .mv (.t 32)⟩]))))
def f59_l1 : ACode := .loop f59_b1
def f59 : ACode := (.seq (.region [⟨(some 3), none, .box (.t 0)⟩, ⟨(some 6), none, .mv (.c (.val (.int .i64 0)))⟩, ⟨(some 7), none, .mv (.c (.val (.bool false)))⟩])
  (.seq (.seq (.region [⟨(some 10), none, .fieldAddr 1 (.t 3)⟩, ⟨(some 11), none, .load none (.t 10)⟩, ⟨(some 12), none, .lenS (.t 11)⟩, ⟨(some 13), none, .mv (.c (.val (.int .i64 0)))⟩])
  (.block 0 f59_l1))
  (.seq (.region [⟨(some 6), none, .mv (.c (.val (.int .i64 0)))⟩, ⟨(some 7), none, .mv (.c (.val (.bool false)))⟩])
  .ret)))
def f59_fn : AFun := ⟨f59, [.tmp 6, .tmp 7]⟩
theorem f59_ok : funOf Tryz.prog 59 = some f59_fn := by kernel_rfl

/-- liquidcheck/num.Sub -/
def f60 : ACode := (.seq (.region [⟨(some 4), none, .mv (.c (.val (.int .i64 0)))⟩, ⟨(some 5), none, .mv (.c (.val (.bool false)))⟩])
  (.seq (.seq (.region [⟨(some 6), none, .mv (.t 0)⟩, ⟨(some 7), none, .call 58 [(.t 6)]⟩, ⟨(some 8), none, .un .not (.t 7)⟩, ⟨(some 9), none, .mv (.t 8)⟩, ⟨(some 10), some (9, false), .mv (.t 1)⟩, ⟨(some 11), some (9, false), .call 58 [(.t 10)]⟩, ⟨(some 12), some (9, false), .un .not (.t 11)⟩, ⟨(some 13), none, .pick (.t 9) (.c (.val (.bool true))) (.t 12)⟩])
  (.cond (.t 13) (.seq (.region [⟨(some 4), none, .mv (.c (.val (.int .i64 0)))⟩, ⟨(some 5), none, .mv (.c (.val (.bool false)))⟩])
  .ret) .skip))
  (.seq (.region [⟨(some 14), none, .mv (.t 0)⟩, ⟨(some 15), none, .mv (.t 1)⟩, ⟨(some 16), none, .bin .sub 3 false (.t 14) (.t 15)⟩, ⟨(some 17), none, .call 98 [(.t 16), (.c (.val (.bool true)))]⟩, ⟨(some 18), none, .extract 0 (.t 17)⟩, ⟨(some 19), none, .extract 1 (.t 17)⟩, ⟨(some 4), none, .mv (.t 18)⟩, ⟨(some 5), none, .mv (.t 19)⟩])
  .ret)))
def f60_fn : AFun := ⟨f60, [.tmp 4, .tmp 5]⟩
theorem f60_ok : funOf Tryz.prog 60 = some f60_fn := by kernel_rfl

/-- liquidcheck/meaning.truth -/
def f61 : ACode := (.seq (.region [⟨(some 2), none, .mv (.c (.val (.int .i64 0)))⟩])
  (.seq (.seq (.region [⟨(some 3), none, .mv (.t 0)⟩])
  (.cond (.t 3) (.seq (.region [⟨(some 2), none, .mv (.c (.val (.int .i64 1)))⟩])
  .ret) .skip))
  (.seq (.region [⟨(some 2), none, .mv (.c (.val (.int .i64 0)))⟩])
  .ret)))
def f61_fn : AFun := ⟨f61, [.tmp 2]⟩
theorem f61_ok : funOf Tryz.prog 61 = some f61_fn := by kernel_rfl

/-- liquidcheck/meaning.operation -/
def f62 : ACode := (.seq (.region [⟨(some 6), none, .mv (.c (.val (.int .i64 0)))⟩, ⟨(some 7), none, .mv (.c (.val (.bool false)))⟩])
  (.seq (.seq (.region [⟨(some 8), none, .mv (.t 0)⟩])
  (.block 0 (.seq (.region [⟨(some 10), none, .bin .eql 22 true (.t 8) (.c (.val (.int .i64 6)))⟩, ⟨(some 9), none, .mv (.t 10)⟩])
  (.cond (.t 9) (.seq (.region [⟨(some 11), none, .mv (.t 1)⟩, ⟨(some 12), none, .mv (.t 2)⟩, ⟨(some 13), none, .call 99 [(.t 11), (.t 12)]⟩, ⟨(some 14), none, .extract 0 (.t 13)⟩, ⟨(some 15), none, .extract 1 (.t 13)⟩, ⟨(some 6), none, .mv (.t 14)⟩, ⟨(some 7), none, .mv (.t 15)⟩])
  .ret) (.seq (.region [⟨(some 17), none, .bin .eql 22 true (.t 8) (.c (.val (.int .i64 7)))⟩, ⟨(some 16), none, .mv (.t 17)⟩])
  (.cond (.t 16) (.seq (.region [⟨(some 18), none, .mv (.t 1)⟩, ⟨(some 19), none, .mv (.t 2)⟩, ⟨(some 20), none, .call 60 [(.t 18), (.t 19)]⟩, ⟨(some 21), none, .extract 0 (.t 20)⟩, ⟨(some 22), none, .extract 1 (.t 20)⟩, ⟨(some 6), none, .mv (.t 21)⟩, ⟨(some 7), none, .mv (.t 22)⟩])
  .ret) (.seq (.region [⟨(some 24), none, .bin .eql 22 true (.t 8) (.c (.val (.int .i64 8)))⟩, ⟨(some 23), none, .mv (.t 24)⟩])
  (.cond (.t 23) (.seq (.region [⟨(some 25), none, .mv (.t 1)⟩, ⟨(some 26), none, .mv (.t 2)⟩, ⟨(some 27), none, .call 100 [(.t 25), (.t 26)]⟩, ⟨(some 28), none, .extract 0 (.t 27)⟩, ⟨(some 29), none, .extract 1 (.t 27)⟩, ⟨(some 6), none, .mv (.t 28)⟩, ⟨(some 7), none, .mv (.t 29)⟩])
  .ret) (.seq (.region [⟨(some 31), none, .bin .eql 22 true (.t 8) (.c (.val (.int .i64 10)))⟩, ⟨(some 30), none, .mv (.t 31)⟩])
  (.cond (.t 30) (.seq (.region [⟨(some 32), none, .mv (.t 1)⟩, ⟨(some 33), none, .mv (.t 2)⟩, ⟨(some 34), none, .bin .eql 3 false (.t 32) (.t 33)⟩, ⟨(some 35), none, .call 61 [(.t 34)]⟩, ⟨(some 6), none, .mv (.t 35)⟩, ⟨(some 7), none, .mv (.c (.val (.bool true)))⟩])
  .ret) (.seq (.region [⟨(some 37), none, .bin .eql 22 true (.t 8) (.c (.val (.int .i64 11)))⟩, ⟨(some 36), none, .mv (.t 37)⟩])
  (.cond (.t 36) (.seq (.region [⟨(some 38), none, .mv (.t 1)⟩, ⟨(some 39), none, .mv (.t 2)⟩, ⟨(some 40), none, .bin .neq 3 false (.t 38) (.t 39)⟩, ⟨(some 41), none, .call 61 [(.t 40)]⟩, ⟨(some 6), none, .mv (.t 41)⟩, ⟨(some 7), none, .mv (.c (.val (.bool true)))⟩])
  .ret) (.seq (.region [⟨(some 43), none, .bin .eql 22 true (.t 8) (.c (.val (.int .i64 12)))⟩, ⟨(some 42), none, .mv (.t 43)⟩])
  (.cond (.t 42) (.seq (.region [⟨(some 44), none, .mv (.t 1)⟩, ⟨(some 45), none, .mv (.t 2)⟩, ⟨(some 46), none, .bin .lss 3 false (.t 44) (.t 45)⟩, ⟨(some 47), none, .call 61 [(.t 46)]⟩, ⟨(some 6), none, .mv (.t 47)⟩, ⟨(some 7), none, .mv (.c (.val (.bool true)))⟩])
  .ret) (.seq (.region [⟨(some 49), none, .bin .eql 22 true (.t 8) (.c (.val (.int .i64 13)))⟩, ⟨(some 48), none, .mv (.t 49)⟩])
  (.cond (.t 48) (.seq (.region [⟨(some 50), none, .mv (.t 1)⟩, ⟨(some 51), none, .mv (.t 2)⟩, ⟨(some 52), none, .bin .leq 3 false (.t 50) (.t 51)⟩, ⟨(some 53), none, .call 61 [(.t 52)]⟩, ⟨(some 6), none, .mv (.t 53)⟩, ⟨(some 7), none, .mv (.c (.val (.bool true)))⟩])
  .ret) (.seq (.region [⟨(some 55), none, .bin .eql 22 true (.t 8) (.c (.val (.int .i64 15)))⟩, ⟨(some 54), none, .mv (.t 55)⟩])
  (.cond (.t 54) (.seq (.region [⟨(some 56), none, .mv (.t 1)⟩, ⟨(some 57), none, .bin .neq 3 true (.t 56) (.c (.val (.int .i64 0)))⟩, ⟨(some 58), none, .mv (.t 57)⟩, ⟨(some 59), some (58, true), .mv (.t 2)⟩, ⟨(some 60), some (58, true), .bin .neq 3 true (.t 59) (.c (.val (.int .i64 0)))⟩, ⟨(some 61), none, .pick (.t 58) (.t 60) (.c (.val (.bool false)))⟩, ⟨(some 62), none, .call 61 [(.t 61)]⟩, ⟨(some 6), none, .mv (.t 62)⟩, ⟨(some 7), none, .mv (.c (.val (.bool true)))⟩])
  .ret) (.seq (.region [⟨(some 64), none, .bin .eql 22 true (.t 8) (.c (.val (.int .i64 16)))⟩, ⟨(some 63), none, .mv (.t 64)⟩])
  (.cond (.t 63) (.seq (.region [⟨(some 65), none, .mv (.t 1)⟩, ⟨(some 66), none, .bin .neq 3 true (.t 65) (.c (.val (.int .i64 0)))⟩, ⟨(some 67), none, .mv (.t 66)⟩, ⟨(some 68), some (67, false), .mv (.t 2)⟩, ⟨(some 69), some (67, false), .bin .neq 3 true (.t 68) (.c (.val (.int .i64 0)))⟩, ⟨(some 70), none, .pick (.t 67) (.c (.val (.bool true))) (.t 69)⟩, ⟨(some 71), none, .call 61 [(.t 70)]⟩, ⟨(some 6), none, .mv (.t 71)⟩, ⟨(some 7), none, .mv (.c (.val (.bool true)))⟩])
  .ret) (.seq (.region [⟨(some 73), none, .bin .eql 22 true (.t 8) (.c (.val (.int .i64 17)))⟩, ⟨(some 72), none, .mv (.t 73)⟩])
  (.cond (.t 72) (.seq (.region [⟨(some 74), none, .mv (.t 1)⟩, ⟨(some 75), none, .bin .eql 3 true (.t 74) (.c (.val (.int .i64 0)))⟩, ⟨(some 76), none, .mv (.t 75)⟩, ⟨(some 77), some (76, false), .mv (.t 2)⟩, ⟨(some 78), some (76, false), .bin .neq 3 true (.t 77) (.c (.val (.int .i64 0)))⟩, ⟨(some 79), none, .pick (.t 76) (.c (.val (.bool true))) (.t 78)⟩, ⟨(some 80), none, .call 61 [(.t 79)]⟩, ⟨(some 6), none, .mv (.t 80)⟩, ⟨(some 7), none, .mv (.c (.val (.bool true)))⟩])
  .ret) (.seq (.region [⟨(some 82), none, .bin .eql 22 true (.t 8) (.c (.val (.int .i64 18)))⟩, ⟨(some 81), none, .mv (.t 82)⟩])
  (.cond (.t 81) (.seq (.region [⟨(some 83), none, .mv (.t 1)⟩, ⟨(some 84), none, .bin .neq 3 true (.t 83) (.c (.val (.int .i64 0)))⟩, ⟨(some 85), none, .mv (.t 2)⟩, ⟨(some 86), none, .bin .neq 3 true (.t 85) (.c (.val (.int .i64 0)))⟩, ⟨(some 87), none, .bin .eql 4 false (.t 84) (.t 86)⟩, ⟨(some 88), none, .call 61 [(.t 87)]⟩, ⟨(some 6), none, .mv (.t 88)⟩, ⟨(some 7), none, .mv (.c (.val (.bool true)))⟩])
  .ret) .skip))))))))))))))))))))))))
  (.seq (.region [⟨(some 6), none, .mv (.c (.val (.int .i64 0)))⟩, ⟨(some 7), none, .mv (.c (.val (.bool false)))⟩])
  .ret)))
def f62_fn : AFun := ⟨f62, [.tmp 6, .tmp 7]⟩
theorem f62_ok : funOf Tryz.prog 62 = some f62_fn := by kernel_rfl

/-- liquidcheck/liquidcheckref07.Depth -/
def f63_b0 : ACode := (.seq (.region [⟨(some 10), none, .bin .lss 3 false (.t 9) (.t 8)⟩])
  (.seq (.cond (.t 10) .skip (.exit 0))
  (.seq (.block 1 (.seq (.region [⟨(some 11), none, .idxAddrS 4 (.t 7) (.t 9)⟩, ⟨(some 12), none, .load (some 4) (.t 11)⟩, ⟨(some 5), none, .alloc [(.val (.int .i64 0)), (.val (.string ⟨#[]⟩)), (.val (.int .i64 0)), (.val (.slice none 0 0))]⟩, ⟨none, none, .store 4 (.t 5) (.t 12)⟩])
  (.region [⟨(some 13), none, .mv (.t 3)⟩, ⟨(some 14), none, .load (some 4) (.t 5)⟩, ⟨(some 15), none, .call 63 [(.t 14)]⟩, ⟨(some 16), none, .maxI [(.t 13), (.t 15)]⟩, ⟨(some 3), none, .mv (.t 16)⟩])))
  (.region [⟨(some 17), none, .bin .add 3 true (.t 9) (.c (.val (.int .i64 1)))⟩, ⟨(some 9), none, .mv (.t 17)⟩]))))
def f63_l0 : ACode := .loop f63_b0
def f63 : ACode := (.seq (.region [⟨(some 1), none, .box (.t 0)⟩, ⟨(some 2), none, .mv (.c (.val (.int .i64 0)))⟩])
  (.seq (.region [⟨(some 3), none, .mv (.c (.val (.int .i64 0)))⟩])
  (.seq (.seq (.region [⟨(some 6), none, .fieldAddr 3 (.t 1)⟩, ⟨(some 7), none, .load none (.t 6)⟩, ⟨(some 8), none, .lenS (.t 7)⟩, ⟨(some 9), none, .mv (.c (.val (.int .i64 0)))⟩])
  (.block 0 f63_l0))
  (.seq (.region [⟨(some 18), none, .mv (.t 3)⟩, ⟨(some 19), none, .bin .add 3 true (.t 18) (.c (.val (.int .i64 1)))⟩, ⟨(some 2), none, .mv (.t 19)⟩])
  .ret))))
def f63_fn : AFun := ⟨f63, [.tmp 2]⟩
theorem f63_ok : funOf Tryz.prog 63 = some f63_fn := by kernel_rfl

/-- liquidcheck/liquidcheckref07.form -/
def f64_b0 : ACode := (.seq (.region [⟨(some 16), none, .bin .lss 3 false (.t 15) (.t 14)⟩])
  (.seq (.cond (.t 16) .skip (.exit 0))
  (.seq (.block 1 (.seq (.region [⟨(some 17), none, .idxAddrS 4 (.t 13) (.t 15)⟩, ⟨(some 18), none, .load (some 4) (.t 17)⟩, ⟨(some 5), none, .alloc [(.val (.int .i64 0)), (.val (.string ⟨#[]⟩)), (.val (.int .i64 0)), (.val (.slice none 0 0))]⟩, ⟨none, none, .store 4 (.t 5) (.t 18)⟩])
  (.seq (.region [⟨(some 19), none, .load (some 4) (.t 5)⟩, ⟨(some 20), none, .call 64 [(.t 19)]⟩, ⟨(some 6), none, .mv (.t 20)⟩])
  (.seq (.region [⟨(some 21), none, .mv (.t 6)⟩, ⟨(some 22), none, .bin .neq 45 true (.t 21) (.c (.val (.int .i64 0)))⟩])
  (.cond (.t 22) (.seq (.region [⟨(some 23), none, .mv (.t 6)⟩, ⟨(some 2), none, .mv (.t 23)⟩])
  .ret) .skip)))))
  (.region [⟨(some 24), none, .bin .add 3 true (.t 15) (.c (.val (.int .i64 1)))⟩, ⟨(some 15), none, .mv (.t 24)⟩]))))
def f64_l0 : ACode := .loop f64_b0
def f64 : ACode := (.seq (.region [⟨(some 1), none, .box (.t 0)⟩, ⟨(some 2), none, .mv (.c (.val (.int .i64 0)))⟩])
  (.seq (.seq (.region [⟨(some 7), none, .load (some 4) (.t 1)⟩, ⟨(some 8), none, .call 101 [(.t 7)]⟩, ⟨(some 3), none, .mv (.t 8)⟩])
  (.seq (.region [⟨(some 9), none, .mv (.t 3)⟩, ⟨(some 10), none, .bin .neq 45 true (.t 9) (.c (.val (.int .i64 0)))⟩])
  (.cond (.t 10) (.seq (.region [⟨(some 11), none, .mv (.t 3)⟩, ⟨(some 2), none, .mv (.t 11)⟩])
  .ret) .skip)))
  (.seq (.seq (.region [⟨(some 12), none, .fieldAddr 3 (.t 1)⟩, ⟨(some 13), none, .load none (.t 12)⟩, ⟨(some 14), none, .lenS (.t 13)⟩, ⟨(some 15), none, .mv (.c (.val (.int .i64 0)))⟩])
  (.block 0 f64_l0))
  (.seq (.region [⟨(some 2), none, .mv (.c (.val (.int .i64 0)))⟩])
  .ret))))
def f64_fn : AFun := ⟨f64, [.tmp 2]⟩
theorem f64_ok : funOf Tryz.prog 64 = some f64_fn := by kernel_rfl

/-- liquidcheck/liquidcheckref10.Find -/
def f65_b0 : ACode := (.seq (.region [⟨(some 11), none, .bin .lss 3 false (.t 10) (.t 9)⟩])
  (.seq (.cond (.t 11) .skip (.exit 0))
  (.seq (.block 1 (.seq (.region [⟨(some 12), none, .idxAddrS 2 (.t 8) (.t 10)⟩, ⟨(some 13), none, .load (some 2) (.t 12)⟩, ⟨(some 7), none, .alloc [(.val (.string ⟨#[]⟩)), (.val (.int .i64 0))]⟩, ⟨none, none, .store 2 (.t 7) (.t 13)⟩])
  (.seq (.region [⟨(some 14), none, .fieldAddr 0 (.t 7)⟩, ⟨(some 15), none, .load none (.t 14)⟩, ⟨(some 16), none, .mv (.t 1)⟩, ⟨(some 17), none, .bin .eql 9 false (.t 15) (.t 16)⟩])
  (.cond (.t 17) (.seq (.region [⟨(some 18), none, .fieldAddr 1 (.t 7)⟩, ⟨(some 19), none, .load none (.t 18)⟩, ⟨(some 4), none, .mv (.t 19)⟩, ⟨(some 5), none, .mv (.c (.val (.bool true)))⟩])
  .ret) .skip))))
  (.region [⟨(some 20), none, .bin .add 3 true (.t 10) (.c (.val (.int .i64 1)))⟩, ⟨(some 10), none, .mv (.t 20)⟩]))))
def f65_l0 : ACode := .loop f65_b0
def f65 : ACode := (.seq (.region [⟨(some 4), none, .mv (.c (.val (.int .i64 0)))⟩, ⟨(some 5), none, .mv (.c (.val (.bool false)))⟩])
  (.seq (.seq (.region [⟨(some 8), none, .mv (.t 0)⟩, ⟨(some 9), none, .lenS (.t 8)⟩, ⟨(some 10), none, .mv (.c (.val (.int .i64 0)))⟩])
  (.block 0 f65_l0))
  (.seq (.region [⟨(some 4), none, .mv (.c (.val (.int .i64 0)))⟩, ⟨(some 5), none, .mv (.c (.val (.bool false)))⟩])
  .ret)))
def f65_fn : AFun := ⟨f65, [.tmp 4, .tmp 5]⟩
theorem f65_ok : funOf Tryz.prog 65 = some f65_fn := by kernel_rfl

/-- liquidcheck/liquidcheckref10.bounded -/
def f66 : ACode := (.seq (.region [⟨(some 4), none, .mv (.c (.val (.int .i64 0)))⟩, ⟨(some 5), none, .mv (.c (.val (.bool false)))⟩])
  (.seq (.seq (.region [⟨(some 6), none, .mv (.t 1)⟩, ⟨(some 7), none, .un .not (.t 6)⟩, ⟨(some 8), none, .mv (.t 7)⟩, ⟨(some 9), some (8, false), .mv (.t 0)⟩, ⟨(some 10), some (8, false), .call 102 [(.t 9)]⟩, ⟨(some 11), some (8, false), .un .not (.t 10)⟩, ⟨(some 12), none, .pick (.t 8) (.c (.val (.bool true))) (.t 11)⟩])
  (.cond (.t 12) (.seq (.region [⟨(some 4), none, .mv (.c (.val (.int .i64 0)))⟩, ⟨(some 5), none, .mv (.c (.val (.bool false)))⟩])
  .ret) .skip))
  (.seq (.region [⟨(some 13), none, .mv (.t 0)⟩, ⟨(some 4), none, .mv (.t 13)⟩, ⟨(some 5), none, .mv (.c (.val (.bool true)))⟩])
  .ret)))
def f66_fn : AFun := ⟨f66, [.tmp 4, .tmp 5]⟩
theorem f66_ok : funOf Tryz.prog 66 = some f66_fn := by kernel_rfl

/-- liquidcheck/liquidcheckref10.fact -/
def f67_b0 : ACode := (.seq (.region [⟨(some 13), none, .bin .lss 3 false (.t 12) (.t 11)⟩])
  (.seq (.cond (.t 13) .skip (.exit 0))
  (.seq (.block 1 (.seq (.region [⟨(some 14), none, .idxAddrS 3 (.t 10) (.t 12)⟩, ⟨(some 15), none, .load (some 3) (.t 14)⟩, ⟨(some 9), none, .alloc [(.val (.string ⟨#[]⟩)), (.val (.slice none 0 0)), (.val (.int .i64 0))]⟩, ⟨none, none, .store 3 (.t 9) (.t 15)⟩])
  (.seq (.region [⟨(some 16), none, .fieldAddr 0 (.t 9)⟩, ⟨(some 17), none, .load none (.t 16)⟩, ⟨(some 18), none, .mv (.t 0)⟩, ⟨(some 19), none, .bin .eql 9 false (.t 17) (.t 18)⟩, ⟨(some 20), none, .mv (.t 19)⟩, ⟨(some 21), some (20, true), .fieldAddr 1 (.t 9)⟩, ⟨(some 22), some (20, true), .load none (.t 21)⟩, ⟨(some 23), some (20, true), .mv (.t 1)⟩, ⟨(some 24), some (20, true), .call 103 [(.t 22), (.t 23)]⟩, ⟨(some 25), none, .pick (.t 20) (.t 24) (.c (.val (.bool false)))⟩])
  (.cond (.t 25) (.seq (.region [⟨(some 26), none, .fieldAddr 2 (.t 9)⟩, ⟨(some 27), none, .load none (.t 26)⟩, ⟨(some 28), none, .call 66 [(.t 27), (.c (.val (.bool true)))]⟩, ⟨(some 29), none, .extract 0 (.t 28)⟩, ⟨(some 30), none, .extract 1 (.t 28)⟩, ⟨(some 6), none, .mv (.t 29)⟩, ⟨(some 7), none, .mv (.t 30)⟩])
  .ret) .skip))))
  (.region [⟨(some 31), none, .bin .add 3 true (.t 12) (.c (.val (.int .i64 1)))⟩, ⟨(some 12), none, .mv (.t 31)⟩]))))
def f67_l0 : ACode := .loop f67_b0
def f67 : ACode := (.seq (.region [⟨(some 6), none, .mv (.c (.val (.int .i64 0)))⟩, ⟨(some 7), none, .mv (.c (.val (.bool false)))⟩])
  (.seq (.seq (.region [⟨(some 10), none, .mv (.t 2)⟩, ⟨(some 11), none, .lenS (.t 10)⟩, ⟨(some 12), none, .mv (.c (.val (.int .i64 0)))⟩])
  (.block 0 f67_l0))
  (.seq (.region [⟨(some 6), none, .mv (.c (.val (.int .i64 0)))⟩, ⟨(some 7), none, .mv (.c (.val (.bool false)))⟩])
  .ret)))
def f67_fn : AFun := ⟨f67, [.tmp 6, .tmp 7]⟩
theorem f67_ok : funOf Tryz.prog 67 = some f67_fn := by kernel_rfl

/-- liquidcheck/liquidcheckref10.compute -/
def f68 : ACode := (.seq (.region [⟨(some 6), none, .mv (.c (.val (.int .i64 0)))⟩, ⟨(some 7), none, .mv (.c (.val (.bool false)))⟩])
  (.seq (.seq (.region [⟨(some 8), none, .mv (.t 0)⟩])
  (.block 0 (.seq (.region [⟨(some 10), none, .bin .eql 22 true (.t 8) (.c (.val (.int .i64 6)))⟩, ⟨(some 9), none, .mv (.t 10)⟩])
  (.cond (.t 9) (.seq (.region [⟨(some 11), none, .mv (.t 1)⟩, ⟨(some 12), none, .mv (.t 2)⟩, ⟨(some 13), none, .call 104 [(.t 11), (.t 12)]⟩, ⟨(some 14), none, .extract 0 (.t 13)⟩, ⟨(some 15), none, .extract 1 (.t 13)⟩, ⟨(some 6), none, .mv (.t 14)⟩, ⟨(some 7), none, .mv (.t 15)⟩])
  .ret) (.seq (.region [⟨(some 17), none, .bin .eql 22 true (.t 8) (.c (.val (.int .i64 7)))⟩, ⟨(some 16), none, .mv (.t 17)⟩])
  (.cond (.t 16) (.seq (.region [⟨(some 18), none, .mv (.t 1)⟩, ⟨(some 19), none, .mv (.t 2)⟩, ⟨(some 20), none, .call 105 [(.t 18), (.t 19)]⟩, ⟨(some 21), none, .extract 0 (.t 20)⟩, ⟨(some 22), none, .extract 1 (.t 20)⟩, ⟨(some 6), none, .mv (.t 21)⟩, ⟨(some 7), none, .mv (.t 22)⟩])
  .ret) (.seq (.region [⟨(some 24), none, .bin .eql 22 true (.t 8) (.c (.val (.int .i64 8)))⟩, ⟨(some 23), none, .mv (.t 24)⟩])
  (.cond (.t 23) (.seq (.region [⟨(some 25), none, .mv (.t 1)⟩, ⟨(some 26), none, .mv (.t 2)⟩, ⟨(some 27), none, .call 106 [(.t 25), (.t 26)]⟩, ⟨(some 28), none, .extract 0 (.t 27)⟩, ⟨(some 29), none, .extract 1 (.t 27)⟩, ⟨(some 6), none, .mv (.t 28)⟩, ⟨(some 7), none, .mv (.t 29)⟩])
  .ret) (.seq (.region [⟨(some 31), none, .bin .eql 22 true (.t 8) (.c (.val (.int .i64 9)))⟩, ⟨(some 30), none, .mv (.t 31)⟩])
  (.cond (.t 30) (.seq (.region [⟨(some 32), none, .mv (.t 1)⟩, ⟨(some 33), none, .call 105 [(.c (.val (.int .i64 0))), (.t 32)]⟩, ⟨(some 34), none, .extract 0 (.t 33)⟩, ⟨(some 35), none, .extract 1 (.t 33)⟩, ⟨(some 6), none, .mv (.t 34)⟩, ⟨(some 7), none, .mv (.t 35)⟩])
  .ret) (.seq (.region [⟨(some 37), none, .bin .eql 22 true (.t 8) (.c (.val (.int .i64 10)))⟩, ⟨(some 36), none, .mv (.t 37)⟩])
  (.cond (.t 36) (.seq (.region [⟨(some 38), none, .mv (.t 1)⟩, ⟨(some 39), none, .mv (.t 2)⟩, ⟨(some 40), none, .bin .eql 3 false (.t 38) (.t 39)⟩, ⟨(some 41), none, .call 107 [(.t 40)]⟩, ⟨(some 42), none, .extract 0 (.t 41)⟩, ⟨(some 43), none, .extract 1 (.t 41)⟩, ⟨(some 6), none, .mv (.t 42)⟩, ⟨(some 7), none, .mv (.t 43)⟩])
  .ret) (.seq (.region [⟨(some 45), none, .bin .eql 22 true (.t 8) (.c (.val (.int .i64 11)))⟩, ⟨(some 44), none, .mv (.t 45)⟩])
  (.cond (.t 44) (.seq (.region [⟨(some 46), none, .mv (.t 1)⟩, ⟨(some 47), none, .mv (.t 2)⟩, ⟨(some 48), none, .bin .neq 3 false (.t 46) (.t 47)⟩, ⟨(some 49), none, .call 107 [(.t 48)]⟩, ⟨(some 50), none, .extract 0 (.t 49)⟩, ⟨(some 51), none, .extract 1 (.t 49)⟩, ⟨(some 6), none, .mv (.t 50)⟩, ⟨(some 7), none, .mv (.t 51)⟩])
  .ret) (.seq (.region [⟨(some 53), none, .bin .eql 22 true (.t 8) (.c (.val (.int .i64 12)))⟩, ⟨(some 52), none, .mv (.t 53)⟩])
  (.cond (.t 52) (.seq (.region [⟨(some 54), none, .mv (.t 1)⟩, ⟨(some 55), none, .mv (.t 2)⟩, ⟨(some 56), none, .bin .lss 3 false (.t 54) (.t 55)⟩, ⟨(some 57), none, .call 107 [(.t 56)]⟩, ⟨(some 58), none, .extract 0 (.t 57)⟩, ⟨(some 59), none, .extract 1 (.t 57)⟩, ⟨(some 6), none, .mv (.t 58)⟩, ⟨(some 7), none, .mv (.t 59)⟩])
  .ret) (.seq (.region [⟨(some 61), none, .bin .eql 22 true (.t 8) (.c (.val (.int .i64 13)))⟩, ⟨(some 60), none, .mv (.t 61)⟩])
  (.cond (.t 60) (.seq (.region [⟨(some 62), none, .mv (.t 1)⟩, ⟨(some 63), none, .mv (.t 2)⟩, ⟨(some 64), none, .bin .leq 3 false (.t 62) (.t 63)⟩, ⟨(some 65), none, .call 107 [(.t 64)]⟩, ⟨(some 66), none, .extract 0 (.t 65)⟩, ⟨(some 67), none, .extract 1 (.t 65)⟩, ⟨(some 6), none, .mv (.t 66)⟩, ⟨(some 7), none, .mv (.t 67)⟩])
  .ret) (.seq (.region [⟨(some 69), none, .bin .eql 22 true (.t 8) (.c (.val (.int .i64 14)))⟩, ⟨(some 68), none, .mv (.t 69)⟩])
  (.cond (.t 68) (.seq (.region [⟨(some 70), none, .mv (.t 1)⟩, ⟨(some 71), none, .bin .eql 3 true (.t 70) (.c (.val (.int .i64 0)))⟩, ⟨(some 72), none, .call 107 [(.t 71)]⟩, ⟨(some 73), none, .extract 0 (.t 72)⟩, ⟨(some 74), none, .extract 1 (.t 72)⟩, ⟨(some 6), none, .mv (.t 73)⟩, ⟨(some 7), none, .mv (.t 74)⟩])
  .ret) (.seq (.region [⟨(some 76), none, .bin .eql 22 true (.t 8) (.c (.val (.int .i64 15)))⟩, ⟨(some 75), none, .mv (.t 76)⟩])
  (.cond (.t 75) (.seq (.region [⟨(some 77), none, .mv (.t 1)⟩, ⟨(some 78), none, .bin .neq 3 true (.t 77) (.c (.val (.int .i64 0)))⟩, ⟨(some 79), none, .mv (.t 78)⟩, ⟨(some 80), some (79, true), .mv (.t 2)⟩, ⟨(some 81), some (79, true), .bin .neq 3 true (.t 80) (.c (.val (.int .i64 0)))⟩, ⟨(some 82), none, .pick (.t 79) (.t 81) (.c (.val (.bool false)))⟩, ⟨(some 83), none, .call 107 [(.t 82)]⟩, ⟨(some 84), none, .extract 0 (.t 83)⟩, ⟨(some 85), none, .extract 1 (.t 83)⟩, ⟨(some 6), none, .mv (.t 84)⟩, ⟨(some 7), none, .mv (.t 85)⟩])
  .ret) (.seq (.region [⟨(some 87), none, .bin .eql 22 true (.t 8) (.c (.val (.int .i64 16)))⟩, ⟨(some 86), none, .mv (.t 87)⟩])
  (.cond (.t 86) (.seq (.region [⟨(some 88), none, .mv (.t 1)⟩, ⟨(some 89), none, .bin .neq 3 true (.t 88) (.c (.val (.int .i64 0)))⟩, ⟨(some 90), none, .mv (.t 89)⟩, ⟨(some 91), some (90, false), .mv (.t 2)⟩, ⟨(some 92), some (90, false), .bin .neq 3 true (.t 91) (.c (.val (.int .i64 0)))⟩, ⟨(some 93), none, .pick (.t 90) (.c (.val (.bool true))) (.t 92)⟩, ⟨(some 94), none, .call 107 [(.t 93)]⟩, ⟨(some 95), none, .extract 0 (.t 94)⟩, ⟨(some 96), none, .extract 1 (.t 94)⟩, ⟨(some 6), none, .mv (.t 95)⟩, ⟨(some 7), none, .mv (.t 96)⟩])
  .ret) (.seq (.region [⟨(some 98), none, .bin .eql 22 true (.t 8) (.c (.val (.int .i64 17)))⟩, ⟨(some 97), none, .mv (.t 98)⟩])
  (.cond (.t 97) (.seq (.region [⟨(some 99), none, .mv (.t 1)⟩, ⟨(some 100), none, .bin .eql 3 true (.t 99) (.c (.val (.int .i64 0)))⟩, ⟨(some 101), none, .mv (.t 100)⟩, ⟨(some 102), some (101, false), .mv (.t 2)⟩, ⟨(some 103), some (101, false), .bin .neq 3 true (.t 102) (.c (.val (.int .i64 0)))⟩, ⟨(some 104), none, .pick (.t 101) (.c (.val (.bool true))) (.t 103)⟩, ⟨(some 105), none, .call 107 [(.t 104)]⟩, ⟨(some 106), none, .extract 0 (.t 105)⟩, ⟨(some 107), none, .extract 1 (.t 105)⟩, ⟨(some 6), none, .mv (.t 106)⟩, ⟨(some 7), none, .mv (.t 107)⟩])
  .ret) .skip))))))))))))))))))))))))))
  (.seq (.region [⟨(some 108), none, .mv (.t 1)⟩, ⟨(some 109), none, .bin .neq 3 true (.t 108) (.c (.val (.int .i64 0)))⟩, ⟨(some 110), none, .mv (.t 2)⟩, ⟨(some 111), none, .bin .neq 3 true (.t 110) (.c (.val (.int .i64 0)))⟩, ⟨(some 112), none, .bin .eql 4 false (.t 109) (.t 111)⟩, ⟨(some 113), none, .call 107 [(.t 112)]⟩, ⟨(some 114), none, .extract 0 (.t 113)⟩, ⟨(some 115), none, .extract 1 (.t 113)⟩, ⟨(some 6), none, .mv (.t 114)⟩, ⟨(some 7), none, .mv (.t 115)⟩])
  .ret)))
def f68_fn : AFun := ⟨f68, [.tmp 6, .tmp 7]⟩
theorem f68_ok : funOf Tryz.prog 68 = some f68_fn := by kernel_rfl

/-- liquidcheck/pred.before$1 -/
def f92 : ACode := (.region [⟨(some 3), none, .load (some 4) (.t 1)⟩, ⟨(some 4), none, .mv (.t 0)⟩, ⟨(some 5), none, .call 93 [(.t 3), (.t 4)]⟩])
def f92_fn : AFun := ⟨f92, []⟩
theorem f92_ok : funOf Tryz.prog 92 = some f92_fn := by kernel_rfl

/-- liquidcheck/pred.visit -/
def f93_b0 : ACode := (.seq (.region [⟨(some 15), none, .bin .lss 3 false (.t 14) (.t 13)⟩])
  (.seq (.cond (.t 15) .skip (.exit 0))
  (.seq (.block 1 (.seq (.region [⟨(some 16), none, .idxAddrS 4 (.t 12) (.t 14)⟩, ⟨(some 17), none, .load (some 4) (.t 16)⟩, ⟨(some 6), none, .alloc [(.val (.int .i64 0)), (.val (.string ⟨#[]⟩)), (.val (.int .i64 0)), (.val (.slice none 0 0))]⟩, ⟨none, none, .store 4 (.t 6) (.t 17)⟩])
  (.seq (.region [⟨(some 18), none, .load (some 4) (.t 6)⟩, ⟨(some 19), none, .mv (.t 1)⟩, ⟨(some 20), none, .call 93 [(.t 18), (.t 19)]⟩, ⟨(some 21), none, .un .not (.t 20)⟩])
  (.cond (.t 21) (.seq (.region [⟨(some 4), none, .mv (.c (.val (.bool false)))⟩])
  .ret) .skip))))
  (.region [⟨(some 22), none, .bin .add 3 true (.t 14) (.c (.val (.int .i64 1)))⟩, ⟨(some 14), none, .mv (.t 22)⟩]))))
def f93_l0 : ACode := .loop f93_b0
def f93 : ACode := (.seq (.region [⟨(some 2), none, .box (.t 0)⟩, ⟨(some 4), none, .mv (.c (.val (.bool false)))⟩])
  (.seq (.seq (.region [⟨(some 7), none, .mv (.t 1)⟩, ⟨(some 8), none, .load (some 4) (.t 2)⟩, ⟨(some 9), none, .callv (.t 7) [(.t 8)]⟩, ⟨(some 10), none, .un .not (.t 9)⟩])
  (.cond (.t 10) (.seq (.region [⟨(some 4), none, .mv (.c (.val (.bool false)))⟩])
  .ret) .skip))
  (.seq (.seq (.region [⟨(some 11), none, .fieldAddr 3 (.t 2)⟩, ⟨(some 12), none, .load none (.t 11)⟩, ⟨(some 13), none, .lenS (.t 12)⟩, ⟨(some 14), none, .mv (.c (.val (.int .i64 0)))⟩])
  (.block 0 f93_l0))
  (.seq (.region [⟨(some 4), none, .mv (.c (.val (.bool true)))⟩])
  .ret))))
def f93_fn : AFun := ⟨f93, [.tmp 4]⟩
theorem f93_ok : funOf Tryz.prog 93 = some f93_fn := by kernel_rfl

/-- liquidcheck/pred.kids -/
def f94 : ACode := (.seq (.region [⟨(some 2), none, .mv (.c (.val (.int .i64 0)))⟩, ⟨(some 3), none, .mv (.c (.val (.int .i64 0)))⟩])
  (.seq (.seq (.region [⟨(some 4), none, .mv (.t 0)⟩])
  (.block 0 (.seq (.seq (.region [⟨(some 6), none, .bin .eql 22 true (.t 4) (.c (.val (.int .i64 1)))⟩, ⟨(some 5), none, .mv (.t 6)⟩])
  (.cond (.t 5) .skip (.seq (.region [⟨(some 7), none, .bin .eql 22 true (.t 4) (.c (.val (.int .i64 2)))⟩, ⟨(some 5), none, .mv (.t 7)⟩])
  (.cond (.t 5) .skip (.region [⟨(some 8), none, .bin .eql 22 true (.t 4) (.c (.val (.int .i64 3)))⟩, ⟨(some 5), none, .mv (.t 8)⟩])))))
  (.cond (.t 5) (.seq (.region [⟨(some 2), none, .mv (.c (.val (.int .i64 0)))⟩, ⟨(some 3), none, .mv (.c (.val (.int .i64 0)))⟩])
  .ret) (.seq (.seq (.region [⟨(some 10), none, .bin .eql 22 true (.t 4) (.c (.val (.int .i64 4)))⟩, ⟨(some 9), none, .mv (.t 10)⟩])
  (.cond (.t 9) .skip (.region [⟨(some 11), none, .bin .eql 22 true (.t 4) (.c (.val (.int .i64 5)))⟩, ⟨(some 9), none, .mv (.t 11)⟩])))
  (.cond (.t 9) (.seq (.region [⟨(some 2), none, .mv (.c (.val (.int .i64 1)))⟩, ⟨(some 3), none, .mv (.c (.val (.int .i64 24)))⟩])
  .ret) (.seq (.seq (.region [⟨(some 13), none, .bin .eql 22 true (.t 4) (.c (.val (.int .i64 9)))⟩, ⟨(some 12), none, .mv (.t 13)⟩])
  (.cond (.t 12) .skip (.region [⟨(some 14), none, .bin .eql 22 true (.t 4) (.c (.val (.int .i64 14)))⟩, ⟨(some 12), none, .mv (.t 14)⟩])))
  (.cond (.t 12) (.seq (.region [⟨(some 2), none, .mv (.c (.val (.int .i64 1)))⟩, ⟨(some 3), none, .mv (.c (.val (.int .i64 1)))⟩])
  .ret) .skip))))))))
  (.seq (.region [⟨(some 2), none, .mv (.c (.val (.int .i64 2)))⟩, ⟨(some 3), none, .mv (.c (.val (.int .i64 2)))⟩])
  .ret)))
def f94_fn : AFun := ⟨f94, [.tmp 2, .tmp 3]⟩
theorem f94_ok : funOf Tryz.prog 94 = some f94_fn := by kernel_rfl

/-- liquidcheck/pred.named -/
def f95 : ACode := (.seq (.region [⟨(some 2), none, .mv (.c (.val (.bool false)))⟩])
  (.seq (.region [⟨(some 3), none, .mv (.t 0)⟩, ⟨(some 4), none, .bin .eql 22 true (.t 3) (.c (.val (.int .i64 3)))⟩, ⟨(some 5), none, .mv (.t 4)⟩, ⟨(some 6), some (5, false), .mv (.t 0)⟩, ⟨(some 7), some (5, false), .bin .eql 22 true (.t 6) (.c (.val (.int .i64 4)))⟩, ⟨(some 8), none, .pick (.t 5) (.c (.val (.bool true))) (.t 7)⟩, ⟨(some 9), none, .mv (.t 8)⟩, ⟨(some 10), some (9, false), .mv (.t 0)⟩, ⟨(some 11), some (9, false), .bin .eql 22 true (.t 10) (.c (.val (.int .i64 5)))⟩, ⟨(some 12), none, .pick (.t 9) (.c (.val (.bool true))) (.t 11)⟩, ⟨(some 2), none, .mv (.t 12)⟩])
  .ret))
def f95_fn : AFun := ⟨f95, [.tmp 2]⟩
theorem f95_ok : funOf Tryz.prog 95 = some f95_fn := by kernel_rfl

/-- liquidcheck/names.Core -/
def f96_b0 : ACode := (.seq (.seq (.region [⟨(some 32), none, .mv (.t 5)⟩])
  (.cond (.t 32) .skip (.exit 0)))
  (.block 1 (.seq (.region [⟨(some 6), none, .mv (.c (.val (.string ⟨#[]⟩)))⟩])
  (.seq (.region [⟨(some 34), none, .mv (.t 4)⟩, ⟨(some 35), none, .call 143 [(.t 34)]⟩, ⟨(some 33), none, .mv (.t 35)⟩, ⟨(some 36), none, .extract 0 (.t 33)⟩, ⟨(some 37), none, .extract 1 (.t 33)⟩, ⟨(some 38), none, .extract 2 (.t 33)⟩, ⟨(some 6), none, .mv (.t 36)⟩, ⟨(some 4), none, .mv (.t 37)⟩, ⟨(some 5), none, .mv (.t 38)⟩])
  (.seq (.region [⟨(some 39), none, .mv (.t 6)⟩, ⟨(some 40), none, .call 146 [(.t 39)]⟩, ⟨(some 41), none, .un .not (.t 40)⟩, ⟨(some 42), none, .mv (.t 41)⟩, ⟨(some 43), some (42, false), .mv (.t 6)⟩, ⟨(some 44), some (42, false), .call 147 [(.t 43)]⟩, ⟨(some 45), some (42, false), .un .not (.t 44)⟩, ⟨(some 46), some (42, false), .mv (.t 45)⟩, ⟨(some 47), some (46, true), .mv (.t 6)⟩, ⟨(some 48), some (46, true), .call 148 [(.t 47)]⟩, ⟨(some 49), some (46, true), .un .not (.t 48)⟩, ⟨(some 50), some (42, false), .pick (.t 46) (.t 49) (.c (.val (.bool false)))⟩, ⟨(some 51), none, .pick (.t 42) (.c (.val (.bool true))) (.t 50)⟩])
  (.cond (.t 51) (.seq (.region [⟨(some 2), none, .mv (.c (.val (.int .i64 3)))⟩])
  .ret) .skip))))))
def f96_l0 : ACode := .loop f96_b0
def f96 : ACode := (.seq (.region [⟨(some 2), none, .mv (.c (.val (.int .i64 0)))⟩])
  (.seq (.seq (.region [⟨(some 7), none, .mv (.t 0)⟩, ⟨(some 8), none, .lenStr (.t 7)⟩, ⟨(some 9), none, .bin .gtr 3 true (.t 8) (.c (.val (.int .i64 120)))⟩])
  (.cond (.t 9) (.seq (.region [⟨(some 2), none, .mv (.c (.val (.int .i64 3)))⟩])
  .ret) .skip))
  (.seq (.region [⟨(some 11), none, .mv (.t 0)⟩, ⟨(some 12), none, .call 143 [(.t 11)]⟩, ⟨(some 10), none, .mv (.t 12)⟩, ⟨(some 13), none, .extract 0 (.t 10)⟩, ⟨(some 14), none, .extract 1 (.t 10)⟩, ⟨(some 15), none, .extract 2 (.t 10)⟩, ⟨(some 3), none, .mv (.t 13)⟩, ⟨(some 4), none, .mv (.t 14)⟩, ⟨(some 5), none, .mv (.t 15)⟩])
  (.seq (.seq (.region [⟨(some 16), none, .mv (.t 3)⟩, ⟨(some 17), none, .call 144 [(.t 16)]⟩, ⟨(some 18), none, .un .not (.t 17)⟩, ⟨(some 19), none, .mv (.t 18)⟩, ⟨(some 20), some (19, true), .mv (.t 3)⟩, ⟨(some 21), some (19, true), .call 145 [(.t 20)]⟩, ⟨(some 22), some (19, true), .un .not (.t 21)⟩, ⟨(some 23), none, .pick (.t 19) (.t 22) (.c (.val (.bool false)))⟩, ⟨(some 24), none, .mv (.t 23)⟩, ⟨(some 25), some (24, true), .mv (.t 3)⟩, ⟨(some 26), some (24, true), .bin .neq 9 true (.t 25) (.c (.val (.string ⟨#[118]⟩)))⟩, ⟨(some 27), some (24, true), .mv (.t 26)⟩, ⟨(some 28), some (27, false), .mv (.t 5)⟩, ⟨(some 29), some (27, false), .un .not (.t 28)⟩, ⟨(some 30), some (24, true), .pick (.t 27) (.c (.val (.bool true))) (.t 29)⟩, ⟨(some 31), none, .pick (.t 24) (.t 30) (.c (.val (.bool false)))⟩])
  (.cond (.t 31) (.seq (.region [⟨(some 2), none, .mv (.c (.val (.int .i64 3)))⟩])
  .ret) .skip))
  (.seq (.block 0 f96_l0)
  (.seq (.region [⟨(some 2), none, .mv (.c (.val (.int .i64 0)))⟩])
  .ret))))))
def f96_fn : AFun := ⟨f96, [.tmp 2]⟩
theorem f96_ok : funOf Tryz.prog 96 = some f96_fn := by kernel_rfl

/-- liquidcheck/num.checked -/
def f98 : ACode := (.seq (.region [⟨(some 4), none, .mv (.c (.val (.int .i64 0)))⟩, ⟨(some 5), none, .mv (.c (.val (.bool false)))⟩])
  (.seq (.seq (.region [⟨(some 6), none, .mv (.t 1)⟩, ⟨(some 7), none, .un .not (.t 6)⟩, ⟨(some 8), none, .mv (.t 7)⟩, ⟨(some 9), some (8, false), .mv (.t 0)⟩, ⟨(some 10), some (8, false), .call 58 [(.t 9)]⟩, ⟨(some 11), some (8, false), .un .not (.t 10)⟩, ⟨(some 12), none, .pick (.t 8) (.c (.val (.bool true))) (.t 11)⟩])
  (.cond (.t 12) (.seq (.region [⟨(some 4), none, .mv (.c (.val (.int .i64 0)))⟩, ⟨(some 5), none, .mv (.c (.val (.bool false)))⟩])
  .ret) .skip))
  (.seq (.region [⟨(some 13), none, .mv (.t 0)⟩, ⟨(some 4), none, .mv (.t 13)⟩, ⟨(some 5), none, .mv (.c (.val (.bool true)))⟩])
  .ret)))
def f98_fn : AFun := ⟨f98, [.tmp 4, .tmp 5]⟩
theorem f98_ok : funOf Tryz.prog 98 = some f98_fn := by kernel_rfl

/-- liquidcheck/num.Add -/
def f99 : ACode := (.seq (.region [⟨(some 4), none, .mv (.c (.val (.int .i64 0)))⟩, ⟨(some 5), none, .mv (.c (.val (.bool false)))⟩])
  (.seq (.seq (.region [⟨(some 6), none, .mv (.t 0)⟩, ⟨(some 7), none, .call 58 [(.t 6)]⟩, ⟨(some 8), none, .un .not (.t 7)⟩, ⟨(some 9), none, .mv (.t 8)⟩, ⟨(some 10), some (9, false), .mv (.t 1)⟩, ⟨(some 11), some (9, false), .call 58 [(.t 10)]⟩, ⟨(some 12), some (9, false), .un .not (.t 11)⟩, ⟨(some 13), none, .pick (.t 9) (.c (.val (.bool true))) (.t 12)⟩])
  (.cond (.t 13) (.seq (.region [⟨(some 4), none, .mv (.c (.val (.int .i64 0)))⟩, ⟨(some 5), none, .mv (.c (.val (.bool false)))⟩])
  .ret) .skip))
  (.seq (.region [⟨(some 14), none, .mv (.t 0)⟩, ⟨(some 15), none, .mv (.t 1)⟩, ⟨(some 16), none, .bin .add 3 false (.t 14) (.t 15)⟩, ⟨(some 17), none, .call 98 [(.t 16), (.c (.val (.bool true)))]⟩, ⟨(some 18), none, .extract 0 (.t 17)⟩, ⟨(some 19), none, .extract 1 (.t 17)⟩, ⟨(some 4), none, .mv (.t 18)⟩, ⟨(some 5), none, .mv (.t 19)⟩])
  .ret)))
def f99_fn : AFun := ⟨f99, [.tmp 4, .tmp 5]⟩
theorem f99_ok : funOf Tryz.prog 99 = some f99_fn := by kernel_rfl

/-- liquidcheck/num.Mul -/
def f100 : ACode := (.seq (.region [⟨(some 4), none, .mv (.c (.val (.int .i64 0)))⟩, ⟨(some 5), none, .mv (.c (.val (.bool false)))⟩])
  (.seq (.seq (.region [⟨(some 6), none, .mv (.t 0)⟩, ⟨(some 7), none, .call 58 [(.t 6)]⟩, ⟨(some 8), none, .un .not (.t 7)⟩, ⟨(some 9), none, .mv (.t 8)⟩, ⟨(some 10), some (9, false), .mv (.t 1)⟩, ⟨(some 11), some (9, false), .call 58 [(.t 10)]⟩, ⟨(some 12), some (9, false), .un .not (.t 11)⟩, ⟨(some 13), none, .pick (.t 9) (.c (.val (.bool true))) (.t 12)⟩])
  (.cond (.t 13) (.seq (.region [⟨(some 4), none, .mv (.c (.val (.int .i64 0)))⟩, ⟨(some 5), none, .mv (.c (.val (.bool false)))⟩])
  .ret) .skip))
  (.seq (.seq (.region [⟨(some 14), none, .mv (.t 0)⟩, ⟨(some 15), none, .bin .eql 3 true (.t 14) (.c (.val (.int .i64 0)))⟩, ⟨(some 16), none, .mv (.t 15)⟩, ⟨(some 17), some (16, false), .mv (.t 1)⟩, ⟨(some 18), some (16, false), .bin .eql 3 true (.t 17) (.c (.val (.int .i64 0)))⟩, ⟨(some 19), none, .pick (.t 16) (.c (.val (.bool true))) (.t 18)⟩])
  (.cond (.t 19) (.seq (.region [⟨(some 4), none, .mv (.c (.val (.int .i64 0)))⟩, ⟨(some 5), none, .mv (.c (.val (.bool true)))⟩])
  .ret) .skip))
  (.seq (.seq (.region [⟨(some 20), none, .mv (.t 1)⟩, ⟨(some 21), none, .call 149 [(.t 20)]⟩, ⟨(some 22), none, .mv (.t 0)⟩, ⟨(some 23), none, .call 149 [(.t 22)]⟩, ⟨(some 24), none, .bin .quo 3 true (.c (.val (.int .i64 1000000000000))) (.t 23)⟩, ⟨(some 25), none, .bin .gtr 3 false (.t 21) (.t 24)⟩])
  (.cond (.t 25) (.seq (.region [⟨(some 4), none, .mv (.c (.val (.int .i64 0)))⟩, ⟨(some 5), none, .mv (.c (.val (.bool false)))⟩])
  .ret) .skip))
  (.seq (.region [⟨(some 26), none, .mv (.t 0)⟩, ⟨(some 27), none, .mv (.t 1)⟩, ⟨(some 28), none, .bin .mul 3 false (.t 26) (.t 27)⟩, ⟨(some 29), none, .call 98 [(.t 28), (.c (.val (.bool true)))]⟩, ⟨(some 30), none, .extract 0 (.t 29)⟩, ⟨(some 31), none, .extract 1 (.t 29)⟩, ⟨(some 4), none, .mv (.t 30)⟩, ⟨(some 5), none, .mv (.t 31)⟩])
  .ret)))))
def f100_fn : AFun := ⟨f100, [.tmp 4, .tmp 5]⟩
theorem f100_ok : funOf Tryz.prog 100 = some f100_fn := by kernel_rfl

/-- liquidcheck/liquidcheckref07.node -/
def f101 : ACode := (.seq (.region [⟨(some 1), none, .box (.t 0)⟩, ⟨(some 2), none, .mv (.c (.val (.int .i64 0)))⟩])
  (.seq (.region [⟨(some 4), none, .fieldAddr 0 (.t 1)⟩, ⟨(some 5), none, .load none (.t 4)⟩, ⟨(some 6), none, .bin .eql 22 true (.t 5) (.c (.val (.int .i64 1)))⟩, ⟨(some 7), none, .mv (.t 6)⟩, ⟨(some 8), some (7, false), .fieldAddr 0 (.t 1)⟩, ⟨(some 9), some (7, false), .load none (.t 8)⟩, ⟨(some 10), some (7, false), .bin .eql 22 true (.t 9) (.c (.val (.int .i64 2)))⟩, ⟨(some 11), none, .pick (.t 7) (.c (.val (.bool true))) (.t 10)⟩, ⟨(some 3), none, .mv (.t 11)⟩])
  (.seq (.seq (.region [⟨(some 12), none, .fieldAddr 0 (.t 1)⟩, ⟨(some 13), none, .load none (.t 12)⟩, ⟨(some 14), none, .bin .lss 22 true (.t 13) (.c (.val (.int .i64 1)))⟩, ⟨(some 15), none, .mv (.t 14)⟩, ⟨(some 16), some (15, false), .fieldAddr 0 (.t 1)⟩, ⟨(some 17), some (15, false), .load none (.t 16)⟩, ⟨(some 18), some (15, false), .bin .gtr 22 true (.t 17) (.c (.val (.int .i64 18)))⟩, ⟨(some 19), none, .pick (.t 15) (.c (.val (.bool true))) (.t 18)⟩, ⟨(some 20), none, .mv (.t 19)⟩, ⟨(some 21), some (20, false), .fieldAddr 1 (.t 1)⟩, ⟨(some 22), some (20, false), .load none (.t 21)⟩, ⟨(some 23), some (20, false), .bin .neq 9 true (.t 22) (.c (.val (.string ⟨#[]⟩)))⟩, ⟨(some 24), some (20, false), .mv (.t 23)⟩, ⟨(some 25), some (24, true), .fieldAddr 0 (.t 1)⟩, ⟨(some 26), some (24, true), .load none (.t 25)⟩, ⟨(some 27), some (24, true), .call 150 [(.t 26)]⟩, ⟨(some 28), some (24, true), .un .not (.t 27)⟩, ⟨(some 29), some (20, false), .pick (.t 24) (.t 28) (.c (.val (.bool false)))⟩, ⟨(some 30), none, .pick (.t 20) (.c (.val (.bool true))) (.t 29)⟩, ⟨(some 31), none, .mv (.t 30)⟩, ⟨(some 32), some (31, false), .fieldAddr 2 (.t 1)⟩, ⟨(some 33), some (31, false), .load none (.t 32)⟩, ⟨(some 34), some (31, false), .bin .neq 3 true (.t 33) (.c (.val (.int .i64 0)))⟩, ⟨(some 35), some (31, false), .mv (.t 34)⟩, ⟨(some 36), some (35, true), .mv (.t 3)⟩, ⟨(some 37), some (35, true), .un .not (.t 36)⟩, ⟨(some 38), some (31, false), .pick (.t 35) (.t 37) (.c (.val (.bool false)))⟩, ⟨(some 39), none, .pick (.t 31) (.c (.val (.bool true))) (.t 38)⟩, ⟨(some 40), none, .mv (.t 39)⟩, ⟨(some 41), some (40, false), .fieldAddr 0 (.t 1)⟩, ⟨(some 42), some (40, false), .load none (.t 41)⟩, ⟨(some 43), some (40, false), .fieldAddr 3 (.t 1)⟩, ⟨(some 44), some (40, false), .load none (.t 43)⟩, ⟨(some 45), some (40, false), .lenS (.t 44)⟩, ⟨(some 46), some (40, false), .call 151 [(.t 42), (.t 45)]⟩, ⟨(some 47), some (40, false), .un .not (.t 46)⟩, ⟨(some 48), none, .pick (.t 40) (.c (.val (.bool true))) (.t 47)⟩])
  (.cond (.t 48) (.seq (.region [⟨(some 2), none, .mv (.c (.val (.int .i64 1)))⟩])
  .ret) .skip))
  (.seq (.seq (.region [⟨(some 49), none, .fieldAddr 0 (.t 1)⟩, ⟨(some 50), none, .load none (.t 49)⟩, ⟨(some 51), none, .bin .eql 22 true (.t 50) (.c (.val (.int .i64 1)))⟩, ⟨(some 52), none, .mv (.t 51)⟩, ⟨(some 53), some (52, true), .fieldAddr 2 (.t 1)⟩, ⟨(some 54), some (52, true), .load none (.t 53)⟩, ⟨(some 55), some (52, true), .call 102 [(.t 54)]⟩, ⟨(some 56), some (52, true), .un .not (.t 55)⟩, ⟨(some 57), none, .pick (.t 52) (.t 56) (.c (.val (.bool false)))⟩, ⟨(some 58), none, .mv (.t 57)⟩, ⟨(some 59), some (58, false), .fieldAddr 0 (.t 1)⟩, ⟨(some 60), some (58, false), .load none (.t 59)⟩, ⟨(some 61), some (58, false), .bin .eql 22 true (.t 60) (.c (.val (.int .i64 2)))⟩, ⟨(some 62), some (58, false), .mv (.t 61)⟩, ⟨(some 63), some (62, true), .fieldAddr 2 (.t 1)⟩, ⟨(some 64), some (62, true), .load none (.t 63)⟩, ⟨(some 65), some (62, true), .bin .lss 3 true (.t 64) (.c (.val (.int .i64 0)))⟩, ⟨(some 66), some (62, true), .mv (.t 65)⟩, ⟨(some 67), some (66, false), .fieldAddr 2 (.t 1)⟩, ⟨(some 68), some (66, false), .load none (.t 67)⟩, ⟨(some 69), some (66, false), .bin .gtr 3 true (.t 68) (.c (.val (.int .i64 1)))⟩, ⟨(some 70), some (62, true), .pick (.t 66) (.c (.val (.bool true))) (.t 69)⟩, ⟨(some 71), some (58, false), .pick (.t 62) (.t 70) (.c (.val (.bool false)))⟩, ⟨(some 72), none, .pick (.t 58) (.c (.val (.bool true))) (.t 71)⟩])
  (.cond (.t 72) (.seq (.region [⟨(some 2), none, .mv (.c (.val (.int .i64 2)))⟩])
  .ret) .skip))
  (.seq (.seq (.region [⟨(some 73), none, .load (some 4) (.t 1)⟩, ⟨(some 74), none, .call 152 [(.t 73)]⟩, ⟨(some 75), none, .un .not (.t 74)⟩])
  (.cond (.t 75) (.seq (.region [⟨(some 2), none, .mv (.c (.val (.int .i64 3)))⟩])
  .ret) .skip))
  (.seq (.seq (.region [⟨(some 76), none, .fieldAddr 0 (.t 1)⟩, ⟨(some 77), none, .load none (.t 76)⟩, ⟨(some 78), none, .bin .eql 22 true (.t 77) (.c (.val (.int .i64 8)))⟩, ⟨(some 79), none, .mv (.t 78)⟩, ⟨(some 80), some (79, true), .fieldAddr 3 (.t 1)⟩, ⟨(some 81), some (79, true), .load none (.t 80)⟩, ⟨(some 82), some (79, true), .idxAddrS 4 (.t 81) (.c (.val (.int .i64 0)))⟩, ⟨(some 83), some (79, true), .fieldAddr 0 (.t 82)⟩, ⟨(some 84), some (79, true), .load none (.t 83)⟩, ⟨(some 85), some (79, true), .bin .neq 22 true (.t 84) (.c (.val (.int .i64 1)))⟩, ⟨(some 86), none, .pick (.t 79) (.t 85) (.c (.val (.bool false)))⟩])
  (.cond (.t 86) (.seq (.region [⟨(some 2), none, .mv (.c (.val (.int .i64 6)))⟩])
  .ret) .skip))
  (.seq (.region [⟨(some 2), none, .mv (.c (.val (.int .i64 0)))⟩])
  .ret)))))))
def f101_fn : AFun := ⟨f101, [.tmp 2]⟩
theorem f101_ok : funOf Tryz.prog 101 = some f101_fn := by kernel_rfl

/-- liquidcheck/liquidcheckref01.In -/
def f102 : ACode := (.seq (.region [⟨(some 2), none, .mv (.c (.val (.bool false)))⟩])
  (.seq (.region [⟨(some 3), none, .mv (.t 0)⟩, ⟨(some 4), none, .bin .geq 3 true (.t 3) (.c (.val (.int .i64 (-1000000000000))))⟩, ⟨(some 5), none, .mv (.t 4)⟩, ⟨(some 6), some (5, true), .mv (.t 0)⟩, ⟨(some 7), some (5, true), .bin .leq 3 true (.t 6) (.c (.val (.int .i64 1000000000000)))⟩, ⟨(some 8), none, .pick (.t 5) (.t 7) (.c (.val (.bool false)))⟩, ⟨(some 2), none, .mv (.t 8)⟩])
  .ret))
def f102_fn : AFun := ⟨f102, [.tmp 2]⟩
theorem f102_ok : funOf Tryz.prog 102 = some f102_fn := by kernel_rfl

/-- liquidcheck/liquidcheckref10.same -/
def f103_d0 : ACode := .draw [⟨⟨(some 16), none, .mv (.t 0)⟩, [0], []⟩, ⟨⟨(some 17), none, .mv (.t 5)⟩, [5], [0]⟩, ⟨⟨(some 18), none, .idxAddrS 1 (.t 16) (.t 17)⟩, [16, 17], []⟩, ⟨⟨(some 19), none, .load none (.t 18)⟩, [18], []⟩, ⟨⟨(some 20), none, .mv (.t 1)⟩, [1], [0, 1, 2, 3]⟩, ⟨⟨(some 21), none, .mv (.t 5)⟩, [5], [0, 1, 2, 3, 4]⟩, ⟨⟨(some 22), none, .idxAddrS 1 (.t 20) (.t 21)⟩, [20, 21], [0, 1, 2, 3]⟩, ⟨⟨(some 23), none, .load none (.t 22)⟩, [22], [0, 1, 2, 3]⟩, ⟨⟨(some 24), none, .bin .neq 3 false (.t 19) (.t 23)⟩, [19, 23], []⟩]
def f103_b1 : ACode := (.seq (.region [⟨(some 14), none, .bin .lss 3 false (.t 13) (.t 12)⟩])
  (.seq (.cond (.t 14) .skip (.exit 0))
  (.seq (.block 1 (.seq (.region [⟨(some 15), none, .mv (.t 13)⟩, ⟨(some 5), none, .mv (.t 15)⟩])
  (.seq f103_d0
  (.cond (.t 24) (.seq (.region [⟨(some 4), none, .mv (.c (.val (.bool false)))⟩])
  .ret) .skip))))
  (.region [⟨(some 25), none, .bin .add 3 true (.t 13) (.c (.val (.int .i64 1)))⟩, ⟨(some 13), none, .mv (.t 25)⟩]))))
def f103_l1 : ACode := .loop f103_b1
def f103 : ACode := (.seq (.region [⟨(some 4), none, .mv (.c (.val (.bool false)))⟩])
  (.seq (.seq (.region [⟨(some 6), none, .mv (.t 0)⟩, ⟨(some 7), none, .lenS (.t 6)⟩, ⟨(some 8), none, .mv (.t 1)⟩, ⟨(some 9), none, .lenS (.t 8)⟩, ⟨(some 10), none, .bin .neq 3 false (.t 7) (.t 9)⟩])
  (.cond (.t 10) (.seq (.region [⟨(some 4), none, .mv (.c (.val (.bool false)))⟩])
  .ret) .skip))
  (.seq (.seq (.region [⟨(some 11), none, .mv (.t 0)⟩, ⟨(some 12), none, .lenS (.t 11)⟩, ⟨(some 13), none, .mv (.c (.val (.int .i64 0)))⟩])
  (.block 0 f103_l1))
  (.seq (.region [⟨(some 4), none, .mv (.c (.val (.bool true)))⟩])
  .ret))))
def f103_fn : AFun := ⟨f103, [.tmp 4]⟩
theorem f103_ok : funOf Tryz.prog 103 = some f103_fn := by kernel_rfl

/-- liquidcheck/liquidcheckref01.Add -/
def f104 : ACode := (.seq (.region [⟨(some 4), none, .mv (.c (.val (.int .i64 0)))⟩, ⟨(some 5), none, .mv (.c (.val (.bool false)))⟩])
  (.seq (.region [⟨(some 7), none, .mv (.t 0)⟩, ⟨(some 8), none, .call 102 [(.t 7)]⟩, ⟨(some 9), none, .mv (.t 8)⟩, ⟨(some 10), some (9, true), .mv (.t 1)⟩, ⟨(some 11), some (9, true), .call 102 [(.t 10)]⟩, ⟨(some 12), none, .pick (.t 9) (.t 11) (.c (.val (.bool false)))⟩, ⟨(some 6), none, .mv (.t 12)⟩])
  (.seq (.region [⟨(some 13), none, .mv (.t 0)⟩, ⟨(some 14), none, .mv (.t 1)⟩, ⟨(some 15), none, .bin .add 3 false (.t 13) (.t 14)⟩, ⟨(some 16), none, .mv (.t 6)⟩, ⟨(some 17), none, .call 153 [(.t 15), (.t 16)]⟩, ⟨(some 18), none, .extract 0 (.t 17)⟩, ⟨(some 19), none, .extract 1 (.t 17)⟩, ⟨(some 4), none, .mv (.t 18)⟩, ⟨(some 5), none, .mv (.t 19)⟩])
  .ret)))
def f104_fn : AFun := ⟨f104, [.tmp 4, .tmp 5]⟩
theorem f104_ok : funOf Tryz.prog 104 = some f104_fn := by kernel_rfl

/-- liquidcheck/liquidcheckref01.Sub -/
def f105 : ACode := (.seq (.region [⟨(some 4), none, .mv (.c (.val (.int .i64 0)))⟩, ⟨(some 5), none, .mv (.c (.val (.bool false)))⟩])
  (.seq (.region [⟨(some 7), none, .mv (.t 0)⟩, ⟨(some 8), none, .call 102 [(.t 7)]⟩, ⟨(some 9), none, .mv (.t 8)⟩, ⟨(some 10), some (9, true), .mv (.t 1)⟩, ⟨(some 11), some (9, true), .call 102 [(.t 10)]⟩, ⟨(some 12), none, .pick (.t 9) (.t 11) (.c (.val (.bool false)))⟩, ⟨(some 6), none, .mv (.t 12)⟩])
  (.seq (.region [⟨(some 13), none, .mv (.t 0)⟩, ⟨(some 14), none, .mv (.t 1)⟩, ⟨(some 15), none, .bin .sub 3 false (.t 13) (.t 14)⟩, ⟨(some 16), none, .mv (.t 6)⟩, ⟨(some 17), none, .call 153 [(.t 15), (.t 16)]⟩, ⟨(some 18), none, .extract 0 (.t 17)⟩, ⟨(some 19), none, .extract 1 (.t 17)⟩, ⟨(some 4), none, .mv (.t 18)⟩, ⟨(some 5), none, .mv (.t 19)⟩])
  .ret)))
def f105_fn : AFun := ⟨f105, [.tmp 4, .tmp 5]⟩
theorem f105_ok : funOf Tryz.prog 105 = some f105_fn := by kernel_rfl

/-- liquidcheck/liquidcheckref01.Mul -/
def f106 : ACode := (.seq (.region [⟨(some 4), none, .mv (.c (.val (.int .i64 0)))⟩, ⟨(some 5), none, .mv (.c (.val (.bool false)))⟩])
  (.seq (.seq (.region [⟨(some 8), none, .mv (.t 0)⟩, ⟨(some 9), none, .call 102 [(.t 8)]⟩, ⟨(some 10), none, .un .not (.t 9)⟩, ⟨(some 11), none, .mv (.t 10)⟩, ⟨(some 12), some (11, false), .mv (.t 1)⟩, ⟨(some 13), some (11, false), .call 102 [(.t 12)]⟩, ⟨(some 14), some (11, false), .un .not (.t 13)⟩, ⟨(some 15), none, .pick (.t 11) (.c (.val (.bool true))) (.t 14)⟩])
  (.cond (.t 15) (.seq (.region [⟨(some 4), none, .mv (.c (.val (.int .i64 0)))⟩, ⟨(some 5), none, .mv (.c (.val (.bool false)))⟩])
  .ret) .skip))
  (.seq (.seq (.region [⟨(some 16), none, .mv (.t 0)⟩, ⟨(some 17), none, .bin .eql 3 true (.t 16) (.c (.val (.int .i64 0)))⟩, ⟨(some 18), none, .mv (.t 17)⟩, ⟨(some 19), some (18, false), .mv (.t 1)⟩, ⟨(some 20), some (18, false), .bin .eql 3 true (.t 19) (.c (.val (.int .i64 0)))⟩, ⟨(some 21), none, .pick (.t 18) (.c (.val (.bool true))) (.t 20)⟩])
  (.cond (.t 21) (.seq (.region [⟨(some 4), none, .mv (.c (.val (.int .i64 0)))⟩, ⟨(some 5), none, .mv (.c (.val (.bool true)))⟩])
  .ret) .skip))
  (.seq (.region [⟨(some 22), none, .mv (.t 0)⟩, ⟨(some 6), none, .mv (.t 22)⟩])
  (.seq (.seq (.region [⟨(some 23), none, .mv (.t 6)⟩, ⟨(some 24), none, .bin .lss 3 true (.t 23) (.c (.val (.int .i64 0)))⟩])
  (.cond (.t 24) (.region [⟨(some 25), none, .mv (.t 6)⟩, ⟨(some 26), none, .un .neg (.t 25)⟩, ⟨(some 6), none, .mv (.t 26)⟩]) .skip))
  (.seq (.region [⟨(some 27), none, .mv (.t 1)⟩, ⟨(some 7), none, .mv (.t 27)⟩])
  (.seq (.seq (.region [⟨(some 28), none, .mv (.t 7)⟩, ⟨(some 29), none, .bin .lss 3 true (.t 28) (.c (.val (.int .i64 0)))⟩])
  (.cond (.t 29) (.region [⟨(some 30), none, .mv (.t 7)⟩, ⟨(some 31), none, .un .neg (.t 30)⟩, ⟨(some 7), none, .mv (.t 31)⟩]) .skip))
  (.seq (.seq (.region [⟨(some 32), none, .mv (.t 6)⟩, ⟨(some 33), none, .mv (.t 7)⟩, ⟨(some 34), none, .bin .quo 3 true (.c (.val (.int .i64 1000000000000))) (.t 33)⟩, ⟨(some 35), none, .bin .gtr 3 false (.t 32) (.t 34)⟩])
  (.cond (.t 35) (.seq (.region [⟨(some 4), none, .mv (.c (.val (.int .i64 0)))⟩, ⟨(some 5), none, .mv (.c (.val (.bool false)))⟩])
  .ret) .skip))
  (.seq (.region [⟨(some 36), none, .mv (.t 0)⟩, ⟨(some 37), none, .mv (.t 1)⟩, ⟨(some 38), none, .bin .mul 3 false (.t 36) (.t 37)⟩, ⟨(some 4), none, .mv (.t 38)⟩, ⟨(some 5), none, .mv (.c (.val (.bool true)))⟩])
  .ret)))))))))
def f106_fn : AFun := ⟨f106, [.tmp 4, .tmp 5]⟩
theorem f106_ok : funOf Tryz.prog 106 = some f106_fn := by kernel_rfl

/-- liquidcheck/liquidcheckref10.truth -/
def f107 : ACode := (.seq (.region [⟨(some 2), none, .mv (.c (.val (.int .i64 0)))⟩, ⟨(some 3), none, .mv (.c (.val (.bool false)))⟩])
  (.seq (.seq (.region [⟨(some 4), none, .mv (.t 0)⟩])
  (.cond (.t 4) (.seq (.region [⟨(some 2), none, .mv (.c (.val (.int .i64 1)))⟩, ⟨(some 3), none, .mv (.c (.val (.bool true)))⟩])
  .ret) .skip))
  (.seq (.region [⟨(some 2), none, .mv (.c (.val (.int .i64 0)))⟩, ⟨(some 3), none, .mv (.c (.val (.bool true)))⟩])
  .ret)))
def f107_fn : AFun := ⟨f107, [.tmp 2, .tmp 3]⟩
theorem f107_ok : funOf Tryz.prog 107 = some f107_fn := by kernel_rfl

/-- liquidcheck/names.cut -/
def f143_d0 : ACode := .draw [⟨⟨(some 16), none, .mv (.t 0)⟩, [0], []⟩, ⟨⟨(some 17), none, .mv (.t 5)⟩, [5], [0]⟩, ⟨⟨(some 18), none, .sliceStr (.t 16) none (some (.t 17))⟩, [16, 17], []⟩, ⟨⟨(some 19), none, .mv (.t 0)⟩, [0], [0, 1, 2]⟩, ⟨⟨(some 20), none, .mv (.t 5)⟩, [5], [0, 1, 2, 3]⟩, ⟨⟨(some 21), none, .bin .add 3 true (.t 20) (.c (.val (.int .i64 1)))⟩, [20], [0, 1, 2, 3]⟩, ⟨⟨(some 22), none, .sliceStr (.t 19) (some (.t 21)) none⟩, [19, 21], [0, 1, 2]⟩, ⟨⟨(some 2), none, .mv (.t 18)⟩, [18], [3, 4, 5, 6]⟩, ⟨⟨(some 3), none, .mv (.t 22)⟩, [22], []⟩, ⟨⟨(some 4), none, .mv (.c (.val (.bool true)))⟩, [], []⟩]
def f143_b1 : ACode := (.seq (.seq (.region [⟨(some 6), none, .mv (.t 5)⟩, ⟨(some 7), none, .mv (.t 0)⟩, ⟨(some 8), none, .lenStr (.t 7)⟩, ⟨(some 9), none, .bin .lss 3 false (.t 6) (.t 8)⟩])
  (.cond (.t 9) .skip (.exit 0)))
  (.seq (.block 1 (.seq (.region [⟨(some 12), none, .mv (.t 0)⟩, ⟨(some 13), none, .mv (.t 5)⟩, ⟨(some 14), none, .idxStr (.t 12) (.t 13)⟩, ⟨(some 15), none, .bin .eql 5 true (.t 14) (.c (.val (.int .u8 46)))⟩])
  (.cond (.t 15) (.seq f143_d0
  .ret) .skip)))
  (.region [⟨(some 10), none, .mv (.t 5)⟩, ⟨(some 11), none, .bin .add 3 true (.t 10) (.c (.val (.int .i64 1)))⟩, ⟨(some 5), none, .mv (.t 11)⟩])))
def f143_l1 : ACode := .loop f143_b1
def f143 : ACode := (.seq (.region [⟨(some 2), none, .mv (.c (.val (.string ⟨#[]⟩)))⟩, ⟨(some 3), none, .mv (.c (.val (.string ⟨#[]⟩)))⟩, ⟨(some 4), none, .mv (.c (.val (.bool false)))⟩])
  (.seq (.seq (.region [⟨(some 5), none, .mv (.c (.val (.int .i64 0)))⟩])
  (.block 0 f143_l1))
  (.seq (.region [⟨(some 23), none, .mv (.t 0)⟩, ⟨(some 2), none, .mv (.t 23)⟩, ⟨(some 3), none, .mv (.c (.val (.string ⟨#[]⟩)))⟩, ⟨(some 4), none, .mv (.c (.val (.bool false)))⟩])
  .ret)))
def f143_fn : AFun := ⟨f143, [.tmp 2, .tmp 3, .tmp 4]⟩
theorem f143_ok : funOf Tryz.prog 143 = some f143_fn := by kernel_rfl

/-- liquidcheck/names.name -/
def f144_b0 : ACode := (.seq (.seq (.region [⟨(some 17), none, .mv (.t 3)⟩, ⟨(some 18), none, .mv (.t 0)⟩, ⟨(some 19), none, .lenStr (.t 18)⟩, ⟨(some 20), none, .bin .lss 3 false (.t 17) (.t 19)⟩])
  (.cond (.t 20) .skip (.exit 0)))
  (.seq (.block 1 (.seq (.region [⟨(some 23), none, .mv (.t 0)⟩, ⟨(some 24), none, .mv (.t 3)⟩, ⟨(some 25), none, .idxStr (.t 23) (.t 24)⟩, ⟨(some 26), none, .call 193 [(.t 25)]⟩, ⟨(some 27), none, .un .not (.t 26)⟩, ⟨(some 28), none, .mv (.t 27)⟩, ⟨(some 29), some (28, true), .mv (.t 0)⟩, ⟨(some 30), some (28, true), .mv (.t 3)⟩, ⟨(some 31), some (28, true), .idxStr (.t 29) (.t 30)⟩, ⟨(some 32), some (28, true), .call 195 [(.t 31)]⟩, ⟨(some 33), some (28, true), .un .not (.t 32)⟩, ⟨(some 34), none, .pick (.t 28) (.t 33) (.c (.val (.bool false)))⟩, ⟨(some 35), none, .mv (.t 34)⟩, ⟨(some 36), some (35, true), .mv (.t 0)⟩, ⟨(some 37), some (35, true), .mv (.t 3)⟩, ⟨(some 38), some (35, true), .idxStr (.t 36) (.t 37)⟩, ⟨(some 39), some (35, true), .bin .neq 5 true (.t 38) (.c (.val (.int .u8 95)))⟩, ⟨(some 40), none, .pick (.t 35) (.t 39) (.c (.val (.bool false)))⟩])
  (.cond (.t 40) (.seq (.region [⟨(some 2), none, .mv (.c (.val (.bool false)))⟩])
  .ret) .skip)))
  (.region [⟨(some 21), none, .mv (.t 3)⟩, ⟨(some 22), none, .bin .add 3 true (.t 21) (.c (.val (.int .i64 1)))⟩, ⟨(some 3), none, .mv (.t 22)⟩])))
def f144_l0 : ACode := .loop f144_b0
def f144 : ACode := (.seq (.region [⟨(some 2), none, .mv (.c (.val (.bool false)))⟩])
  (.seq (.seq (.region [⟨(some 4), none, .mv (.t 0)⟩, ⟨(some 5), none, .call 146 [(.t 4)]⟩, ⟨(some 6), none, .un .not (.t 5)⟩, ⟨(some 7), none, .mv (.t 6)⟩, ⟨(some 8), some (7, false), .mv (.t 0)⟩, ⟨(some 9), some (7, false), .idxStr (.t 8) (.c (.val (.int .i64 0)))⟩, ⟨(some 10), some (7, false), .call 193 [(.t 9)]⟩, ⟨(some 11), some (7, false), .un .not (.t 10)⟩, ⟨(some 12), none, .pick (.t 7) (.c (.val (.bool true))) (.t 11)⟩, ⟨(some 13), none, .mv (.t 12)⟩, ⟨(some 14), some (13, false), .mv (.t 0)⟩, ⟨(some 15), some (13, false), .call 194 [(.t 14)]⟩, ⟨(some 16), none, .pick (.t 13) (.c (.val (.bool true))) (.t 15)⟩])
  (.cond (.t 16) (.seq (.region [⟨(some 2), none, .mv (.c (.val (.bool false)))⟩])
  .ret) .skip))
  (.seq (.seq (.region [⟨(some 3), none, .mv (.c (.val (.int .i64 1)))⟩])
  (.block 0 f144_l0))
  (.seq (.region [⟨(some 2), none, .mv (.c (.val (.bool true)))⟩])
  .ret))))
def f144_fn : AFun := ⟨f144, [.tmp 2]⟩
theorem f144_ok : funOf Tryz.prog 144 = some f144_fn := by kernel_rfl

/-- liquidcheck/names.title -/
def f145 : ACode := (.seq (.region [⟨(some 2), none, .mv (.c (.val (.bool false)))⟩])
  (.seq (.seq (.region [⟨(some 3), none, .mv (.t 0)⟩, ⟨(some 4), none, .call 146 [(.t 3)]⟩, ⟨(some 5), none, .un .not (.t 4)⟩, ⟨(some 6), none, .mv (.t 5)⟩, ⟨(some 7), some (6, false), .mv (.t 0)⟩, ⟨(some 8), some (6, false), .idxStr (.t 7) (.c (.val (.int .i64 0)))⟩, ⟨(some 9), some (6, false), .call 196 [(.t 8)]⟩, ⟨(some 10), some (6, false), .un .not (.t 9)⟩, ⟨(some 11), none, .pick (.t 6) (.c (.val (.bool true))) (.t 10)⟩, ⟨(some 12), none, .mv (.t 11)⟩, ⟨(some 13), some (12, false), .mv (.t 0)⟩, ⟨(some 14), some (12, false), .call 147 [(.t 13)]⟩, ⟨(some 15), some (12, false), .un .not (.t 14)⟩, ⟨(some 16), none, .pick (.t 12) (.c (.val (.bool true))) (.t 15)⟩])
  (.cond (.t 16) (.seq (.region [⟨(some 2), none, .mv (.c (.val (.bool false)))⟩])
  .ret) .skip))
  (.seq (.region [⟨(some 17), none, .mv (.t 0)⟩, ⟨(some 18), none, .bin .neq 9 true (.t 17) (.c (.val (.string ⟨#[73, 110, 116]⟩)))⟩, ⟨(some 19), none, .mv (.t 18)⟩, ⟨(some 20), some (19, true), .mv (.t 0)⟩, ⟨(some 21), some (19, true), .bin .neq 9 true (.t 20) (.c (.val (.string ⟨#[66, 111, 111, 108]⟩)))⟩, ⟨(some 22), none, .pick (.t 19) (.t 21) (.c (.val (.bool false)))⟩, ⟨(some 23), none, .mv (.t 22)⟩, ⟨(some 24), some (23, true), .mv (.t 0)⟩, ⟨(some 25), some (23, true), .bin .neq 9 true (.t 24) (.c (.val (.string ⟨#[67, 101, 108, 108]⟩)))⟩, ⟨(some 26), none, .pick (.t 23) (.t 25) (.c (.val (.bool false)))⟩, ⟨(some 27), none, .mv (.t 26)⟩, ⟨(some 28), some (27, true), .mv (.t 0)⟩, ⟨(some 29), some (27, true), .bin .neq 9 true (.t 28) (.c (.val (.string ⟨#[70, 117, 110]⟩)))⟩, ⟨(some 30), none, .pick (.t 27) (.t 29) (.c (.val (.bool false)))⟩, ⟨(some 2), none, .mv (.t 30)⟩])
  .ret)))
def f145_fn : AFun := ⟨f145, [.tmp 2]⟩
theorem f145_ok : funOf Tryz.prog 145 = some f145_fn := by kernel_rfl

/-- liquidcheck/names.sized -/
def f146 : ACode := (.seq (.region [⟨(some 2), none, .mv (.c (.val (.bool false)))⟩])
  (.seq (.region [⟨(some 3), none, .mv (.t 0)⟩, ⟨(some 4), none, .lenStr (.t 3)⟩, ⟨(some 5), none, .bin .geq 3 true (.t 4) (.c (.val (.int .i64 1)))⟩, ⟨(some 6), none, .mv (.t 5)⟩, ⟨(some 7), some (6, true), .mv (.t 0)⟩, ⟨(some 8), some (6, true), .lenStr (.t 7)⟩, ⟨(some 9), some (6, true), .bin .leq 3 true (.t 8) (.c (.val (.int .i64 24)))⟩, ⟨(some 10), none, .pick (.t 6) (.t 9) (.c (.val (.bool false)))⟩, ⟨(some 2), none, .mv (.t 10)⟩])
  .ret))
def f146_fn : AFun := ⟨f146, [.tmp 2]⟩
theorem f146_ok : funOf Tryz.prog 146 = some f146_fn := by kernel_rfl

/-- liquidcheck/names.alphanumeric -/
def f147_b0 : ACode := (.seq (.seq (.region [⟨(some 4), none, .mv (.t 3)⟩, ⟨(some 5), none, .mv (.t 0)⟩, ⟨(some 6), none, .lenStr (.t 5)⟩, ⟨(some 7), none, .bin .lss 3 false (.t 4) (.t 6)⟩])
  (.cond (.t 7) .skip (.exit 0)))
  (.seq (.block 1 (.seq (.region [⟨(some 10), none, .mv (.t 0)⟩, ⟨(some 11), none, .mv (.t 3)⟩, ⟨(some 12), none, .idxStr (.t 10) (.t 11)⟩, ⟨(some 13), none, .call 193 [(.t 12)]⟩, ⟨(some 14), none, .un .not (.t 13)⟩, ⟨(some 15), none, .mv (.t 14)⟩, ⟨(some 16), some (15, true), .mv (.t 0)⟩, ⟨(some 17), some (15, true), .mv (.t 3)⟩, ⟨(some 18), some (15, true), .idxStr (.t 16) (.t 17)⟩, ⟨(some 19), some (15, true), .call 196 [(.t 18)]⟩, ⟨(some 20), some (15, true), .un .not (.t 19)⟩, ⟨(some 21), none, .pick (.t 15) (.t 20) (.c (.val (.bool false)))⟩, ⟨(some 22), none, .mv (.t 21)⟩, ⟨(some 23), some (22, true), .mv (.t 0)⟩, ⟨(some 24), some (22, true), .mv (.t 3)⟩, ⟨(some 25), some (22, true), .idxStr (.t 23) (.t 24)⟩, ⟨(some 26), some (22, true), .call 195 [(.t 25)]⟩, ⟨(some 27), some (22, true), .un .not (.t 26)⟩, ⟨(some 28), none, .pick (.t 22) (.t 27) (.c (.val (.bool false)))⟩])
  (.cond (.t 28) (.seq (.region [⟨(some 2), none, .mv (.c (.val (.bool false)))⟩])
  .ret) .skip)))
  (.region [⟨(some 8), none, .mv (.t 3)⟩, ⟨(some 9), none, .bin .add 3 true (.t 8) (.c (.val (.int .i64 1)))⟩, ⟨(some 3), none, .mv (.t 9)⟩])))
def f147_l0 : ACode := .loop f147_b0
def f147 : ACode := (.seq (.region [⟨(some 2), none, .mv (.c (.val (.bool false)))⟩])
  (.seq (.seq (.region [⟨(some 3), none, .mv (.c (.val (.int .i64 0)))⟩])
  (.block 0 f147_l0))
  (.seq (.region [⟨(some 2), none, .mv (.c (.val (.bool true)))⟩])
  .ret)))
def f147_fn : AFun := ⟨f147, [.tmp 2]⟩
theorem f147_ok : funOf Tryz.prog 147 = some f147_fn := by kernel_rfl

/-- liquidcheck/names.word -/
def f148_b0 : ACode := (.seq (.seq (.region [⟨(some 4), none, .mv (.t 3)⟩, ⟨(some 5), none, .mv (.t 0)⟩, ⟨(some 6), none, .lenStr (.t 5)⟩, ⟨(some 7), none, .bin .lss 3 false (.t 4) (.t 6)⟩])
  (.cond (.t 7) .skip (.exit 0)))
  (.seq (.block 1 (.seq (.region [⟨(some 10), none, .mv (.t 0)⟩, ⟨(some 11), none, .mv (.t 3)⟩, ⟨(some 12), none, .idxStr (.t 10) (.t 11)⟩, ⟨(some 13), none, .call 193 [(.t 12)]⟩, ⟨(some 14), none, .un .not (.t 13)⟩, ⟨(some 15), none, .mv (.t 14)⟩, ⟨(some 16), some (15, true), .mv (.t 3)⟩, ⟨(some 17), some (15, true), .bin .eql 3 true (.t 16) (.c (.val (.int .i64 0)))⟩, ⟨(some 18), some (15, true), .mv (.t 17)⟩, ⟨(some 19), some (18, false), .mv (.t 0)⟩, ⟨(some 20), some (18, false), .mv (.t 3)⟩, ⟨(some 21), some (18, false), .idxStr (.t 19) (.t 20)⟩, ⟨(some 22), some (18, false), .call 195 [(.t 21)]⟩, ⟨(some 23), some (18, false), .un .not (.t 22)⟩, ⟨(some 24), some (18, false), .mv (.t 23)⟩, ⟨(some 25), some (24, true), .mv (.t 0)⟩, ⟨(some 26), some (24, true), .mv (.t 3)⟩, ⟨(some 27), some (24, true), .idxStr (.t 25) (.t 26)⟩, ⟨(some 28), some (24, true), .bin .neq 5 true (.t 27) (.c (.val (.int .u8 95)))⟩, ⟨(some 29), some (18, false), .pick (.t 24) (.t 28) (.c (.val (.bool false)))⟩, ⟨(some 30), some (15, true), .pick (.t 18) (.c (.val (.bool true))) (.t 29)⟩, ⟨(some 31), none, .pick (.t 15) (.t 30) (.c (.val (.bool false)))⟩])
  (.cond (.t 31) (.seq (.region [⟨(some 2), none, .mv (.c (.val (.bool false)))⟩])
  .ret) .skip)))
  (.region [⟨(some 8), none, .mv (.t 3)⟩, ⟨(some 9), none, .bin .add 3 true (.t 8) (.c (.val (.int .i64 1)))⟩, ⟨(some 3), none, .mv (.t 9)⟩])))
def f148_l0 : ACode := .loop f148_b0
def f148 : ACode := (.seq (.region [⟨(some 2), none, .mv (.c (.val (.bool false)))⟩])
  (.seq (.seq (.region [⟨(some 3), none, .mv (.c (.val (.int .i64 0)))⟩])
  (.block 0 f148_l0))
  (.seq (.region [⟨(some 2), none, .mv (.c (.val (.bool true)))⟩])
  .ret)))
def f148_fn : AFun := ⟨f148, [.tmp 2]⟩
theorem f148_ok : funOf Tryz.prog 148 = some f148_fn := by kernel_rfl

/-- liquidcheck/num.abs -/
def f149 : ACode := (.seq (.region [⟨(some 2), none, .mv (.c (.val (.int .i64 0)))⟩])
  (.seq (.seq (.region [⟨(some 3), none, .mv (.t 0)⟩, ⟨(some 4), none, .bin .geq 3 true (.t 3) (.c (.val (.int .i64 0)))⟩])
  (.cond (.t 4) (.seq (.region [⟨(some 5), none, .mv (.t 0)⟩, ⟨(some 2), none, .mv (.t 5)⟩])
  .ret) .skip))
  (.seq (.seq (.region [⟨(some 6), none, .mv (.t 0)⟩, ⟨(some 7), none, .un .neg (.t 6)⟩, ⟨(some 8), none, .bin .lss 3 true (.t 7) (.c (.val (.int .i64 0)))⟩])
  (.cond (.t 8) (.seq (.region [⟨(some 2), none, .mv (.c (.val (.int .i64 1000000000000)))⟩])
  .ret) .skip))
  (.seq (.region [⟨(some 9), none, .mv (.t 0)⟩, ⟨(some 10), none, .un .neg (.t 9)⟩, ⟨(some 2), none, .mv (.t 10)⟩])
  .ret))))
def f149_fn : AFun := ⟨f149, [.tmp 2]⟩
theorem f149_ok : funOf Tryz.prog 149 = some f149_fn := by kernel_rfl

/-- liquidcheck/liquidcheckref07.named -/
def f150 : ACode := (.seq (.region [⟨(some 2), none, .mv (.c (.val (.bool false)))⟩])
  (.seq (.region [⟨(some 3), none, .mv (.t 0)⟩, ⟨(some 4), none, .bin .eql 22 true (.t 3) (.c (.val (.int .i64 3)))⟩, ⟨(some 5), none, .mv (.t 4)⟩, ⟨(some 6), some (5, false), .mv (.t 0)⟩, ⟨(some 7), some (5, false), .bin .eql 22 true (.t 6) (.c (.val (.int .i64 4)))⟩, ⟨(some 8), none, .pick (.t 5) (.c (.val (.bool true))) (.t 7)⟩, ⟨(some 9), none, .mv (.t 8)⟩, ⟨(some 10), some (9, false), .mv (.t 0)⟩, ⟨(some 11), some (9, false), .bin .eql 22 true (.t 10) (.c (.val (.int .i64 5)))⟩, ⟨(some 12), none, .pick (.t 9) (.c (.val (.bool true))) (.t 11)⟩, ⟨(some 2), none, .mv (.t 12)⟩])
  .ret))
def f150_fn : AFun := ⟨f150, [.tmp 2]⟩
theorem f150_ok : funOf Tryz.prog 150 = some f150_fn := by kernel_rfl

/-- liquidcheck/liquidcheckref07.kids -/
def f151 : ACode := (.seq (.region [⟨(some 4), none, .mv (.c (.val (.bool false)))⟩])
  (.seq (.seq (.region [⟨(some 5), none, .mv (.t 0)⟩])
  (.block 0 (.seq (.seq (.region [⟨(some 7), none, .bin .eql 22 true (.t 5) (.c (.val (.int .i64 1)))⟩, ⟨(some 6), none, .mv (.t 7)⟩])
  (.cond (.t 6) .skip (.seq (.region [⟨(some 8), none, .bin .eql 22 true (.t 5) (.c (.val (.int .i64 2)))⟩, ⟨(some 6), none, .mv (.t 8)⟩])
  (.cond (.t 6) .skip (.region [⟨(some 9), none, .bin .eql 22 true (.t 5) (.c (.val (.int .i64 3)))⟩, ⟨(some 6), none, .mv (.t 9)⟩])))))
  (.cond (.t 6) (.seq (.region [⟨(some 10), none, .mv (.t 1)⟩, ⟨(some 11), none, .bin .eql 3 true (.t 10) (.c (.val (.int .i64 0)))⟩, ⟨(some 4), none, .mv (.t 11)⟩])
  .ret) (.seq (.seq (.region [⟨(some 13), none, .bin .eql 22 true (.t 5) (.c (.val (.int .i64 4)))⟩, ⟨(some 12), none, .mv (.t 13)⟩])
  (.cond (.t 12) .skip (.region [⟨(some 14), none, .bin .eql 22 true (.t 5) (.c (.val (.int .i64 5)))⟩, ⟨(some 12), none, .mv (.t 14)⟩])))
  (.cond (.t 12) (.seq (.region [⟨(some 15), none, .mv (.t 1)⟩, ⟨(some 16), none, .bin .geq 3 true (.t 15) (.c (.val (.int .i64 1)))⟩, ⟨(some 17), none, .mv (.t 16)⟩, ⟨(some 18), some (17, true), .mv (.t 1)⟩, ⟨(some 19), some (17, true), .bin .leq 3 true (.t 18) (.c (.val (.int .i64 24)))⟩, ⟨(some 20), none, .pick (.t 17) (.t 19) (.c (.val (.bool false)))⟩, ⟨(some 4), none, .mv (.t 20)⟩])
  .ret) (.seq (.seq (.region [⟨(some 22), none, .bin .eql 22 true (.t 5) (.c (.val (.int .i64 9)))⟩, ⟨(some 21), none, .mv (.t 22)⟩])
  (.cond (.t 21) .skip (.region [⟨(some 23), none, .bin .eql 22 true (.t 5) (.c (.val (.int .i64 14)))⟩, ⟨(some 21), none, .mv (.t 23)⟩])))
  (.cond (.t 21) (.seq (.region [⟨(some 24), none, .mv (.t 1)⟩, ⟨(some 25), none, .bin .eql 3 true (.t 24) (.c (.val (.int .i64 1)))⟩, ⟨(some 4), none, .mv (.t 25)⟩])
  .ret) .skip))))))))
  (.seq (.region [⟨(some 26), none, .mv (.t 1)⟩, ⟨(some 27), none, .bin .eql 3 true (.t 26) (.c (.val (.int .i64 2)))⟩, ⟨(some 4), none, .mv (.t 27)⟩])
  .ret)))
def f151_fn : AFun := ⟨f151, [.tmp 4]⟩
theorem f151_ok : funOf Tryz.prog 151 = some f151_fn := by kernel_rfl

/-- liquidcheck/liquidcheckref07.called -/
def f152 : ACode := (.seq (.region [⟨(some 1), none, .box (.t 0)⟩, ⟨(some 2), none, .mv (.c (.val (.bool false)))⟩])
  (.seq (.seq (.region [⟨(some 3), none, .fieldAddr 0 (.t 1)⟩, ⟨(some 4), none, .load none (.t 3)⟩])
  (.block 0 (.seq (.region [⟨(some 6), none, .bin .eql 22 true (.t 4) (.c (.val (.int .i64 3)))⟩, ⟨(some 5), none, .mv (.t 6)⟩])
  (.cond (.t 5) (.seq (.region [⟨(some 7), none, .fieldAddr 1 (.t 1)⟩, ⟨(some 8), none, .load none (.t 7)⟩, ⟨(some 9), none, .bin .eql 9 true (.t 8) (.c (.val (.string ⟨#[118]⟩)))⟩, ⟨(some 10), none, .mv (.t 9)⟩, ⟨(some 11), some (10, false), .fieldAddr 1 (.t 1)⟩, ⟨(some 12), some (10, false), .load none (.t 11)⟩, ⟨(some 13), some (10, false), .call 197 [(.t 12)]⟩, ⟨(some 14), some (10, false), .bin .eql 45 true (.t 13) (.c (.val (.int .i64 0)))⟩, ⟨(some 15), none, .pick (.t 10) (.c (.val (.bool true))) (.t 14)⟩, ⟨(some 2), none, .mv (.t 15)⟩])
  .ret) (.seq (.region [⟨(some 17), none, .bin .eql 22 true (.t 4) (.c (.val (.int .i64 4)))⟩, ⟨(some 16), none, .mv (.t 17)⟩])
  (.cond (.t 16) (.seq (.region [⟨(some 18), none, .fieldAddr 1 (.t 1)⟩, ⟨(some 19), none, .load none (.t 18)⟩, ⟨(some 20), none, .bin .eql 9 true (.t 19) (.c (.val (.string ⟨#[116, 97, 103]⟩)))⟩, ⟨(some 21), none, .mv (.t 20)⟩, ⟨(some 22), some (21, false), .fieldAddr 1 (.t 1)⟩, ⟨(some 23), some (21, false), .load none (.t 22)⟩, ⟨(some 24), some (21, false), .bin .eql 9 true (.t 23) (.c (.val (.string ⟨#[118, 97, 108]⟩)))⟩, ⟨(some 25), none, .pick (.t 21) (.c (.val (.bool true))) (.t 24)⟩, ⟨(some 26), none, .mv (.t 25)⟩, ⟨(some 27), some (26, false), .fieldAddr 1 (.t 1)⟩, ⟨(some 28), some (26, false), .load none (.t 27)⟩, ⟨(some 29), some (26, false), .call 197 [(.t 28)]⟩, ⟨(some 30), some (26, false), .bin .eql 45 true (.t 29) (.c (.val (.int .i64 0)))⟩, ⟨(some 31), none, .pick (.t 26) (.c (.val (.bool true))) (.t 30)⟩, ⟨(some 2), none, .mv (.t 31)⟩])
  .ret) (.seq (.region [⟨(some 33), none, .bin .eql 22 true (.t 4) (.c (.val (.int .i64 5)))⟩, ⟨(some 32), none, .mv (.t 33)⟩])
  (.cond (.t 32) (.seq (.region [⟨(some 34), none, .fieldAddr 1 (.t 1)⟩, ⟨(some 35), none, .load none (.t 34)⟩, ⟨(some 36), none, .call 197 [(.t 35)]⟩, ⟨(some 37), none, .bin .eql 45 true (.t 36) (.c (.val (.int .i64 0)))⟩, ⟨(some 2), none, .mv (.t 37)⟩])
  .ret) .skip))))))))
  (.seq (.region [⟨(some 2), none, .mv (.c (.val (.bool true)))⟩])
  .ret)))
def f152_fn : AFun := ⟨f152, [.tmp 2]⟩
theorem f152_ok : funOf Tryz.prog 152 = some f152_fn := by kernel_rfl

/-- liquidcheck/liquidcheckref01.result -/
def f153 : ACode := (.seq (.region [⟨(some 4), none, .mv (.c (.val (.int .i64 0)))⟩, ⟨(some 5), none, .mv (.c (.val (.bool false)))⟩])
  (.seq (.seq (.region [⟨(some 6), none, .mv (.t 1)⟩, ⟨(some 7), none, .un .not (.t 6)⟩, ⟨(some 8), none, .mv (.t 7)⟩, ⟨(some 9), some (8, false), .mv (.t 0)⟩, ⟨(some 10), some (8, false), .call 102 [(.t 9)]⟩, ⟨(some 11), some (8, false), .un .not (.t 10)⟩, ⟨(some 12), none, .pick (.t 8) (.c (.val (.bool true))) (.t 11)⟩])
  (.cond (.t 12) (.seq (.region [⟨(some 4), none, .mv (.c (.val (.int .i64 0)))⟩, ⟨(some 5), none, .mv (.c (.val (.bool false)))⟩])
  .ret) .skip))
  (.seq (.region [⟨(some 13), none, .mv (.t 0)⟩, ⟨(some 4), none, .mv (.t 13)⟩, ⟨(some 5), none, .mv (.c (.val (.bool true)))⟩])
  .ret)))
def f153_fn : AFun := ⟨f153, [.tmp 4, .tmp 5]⟩
theorem f153_ok : funOf Tryz.prog 153 = some f153_fn := by kernel_rfl

/-- liquidcheck/names.small -/
def f193 : ACode := (.seq (.region [⟨(some 2), none, .mv (.c (.val (.bool false)))⟩])
  (.seq (.region [⟨(some 3), none, .mv (.t 0)⟩, ⟨(some 4), none, .bin .leq 5 true (.c (.val (.int .u8 97))) (.t 3)⟩, ⟨(some 5), none, .mv (.t 4)⟩, ⟨(some 6), some (5, true), .mv (.t 0)⟩, ⟨(some 7), some (5, true), .bin .leq 5 true (.t 6) (.c (.val (.int .u8 122)))⟩, ⟨(some 8), none, .pick (.t 5) (.t 7) (.c (.val (.bool false)))⟩, ⟨(some 2), none, .mv (.t 8)⟩])
  .ret))
def f193_fn : AFun := ⟨f193, [.tmp 2]⟩
theorem f193_ok : funOf Tryz.prog 193 = some f193_fn := by kernel_rfl

/-- liquidcheck/names.Keyword -/
def f194_b0 : ACode := (.seq (.region [⟨(some 7), none, .bin .lss 3 true (.t 6) (.c (.val (.int .i64 42)))⟩])
  (.seq (.cond (.t 7) .skip (.exit 0))
  (.seq (.block 1 (.seq (.region [⟨(some 8), none, .idxA 42 1 none (.t 5) (.t 6)⟩, ⟨(some 4), none, .mv (.t 8)⟩])
  (.seq (.region [⟨(some 9), none, .mv (.t 4)⟩, ⟨(some 10), none, .mv (.t 0)⟩, ⟨(some 11), none, .bin .eql 9 false (.t 9) (.t 10)⟩])
  (.cond (.t 11) (.seq (.region [⟨(some 2), none, .mv (.c (.val (.bool true)))⟩])
  .ret) .skip))))
  (.region [⟨(some 12), none, .bin .add 3 true (.t 6) (.c (.val (.int .i64 1)))⟩, ⟨(some 6), none, .mv (.t 12)⟩]))))
def f194_l0 : ACode := .loop f194_b0
def f194 : ACode := (.seq (.region [⟨(some 2), none, .mv (.c (.val (.bool false)))⟩])
  (.seq (.seq (.region [⟨(some 5), none, .load (some 42) (.c (.val (.pointer (some ⟨0, 0, none⟩))))⟩, ⟨(some 6), none, .mv (.c (.val (.int .i64 0)))⟩])
  (.block 0 f194_l0))
  (.seq (.region [⟨(some 2), none, .mv (.c (.val (.bool false)))⟩])
  .ret)))
def f194_fn : AFun := ⟨f194, [.tmp 2]⟩
theorem f194_ok : funOf Tryz.prog 194 = some f194_fn := by kernel_rfl

/-- liquidcheck/names.digit -/
def f195 : ACode := (.seq (.region [⟨(some 2), none, .mv (.c (.val (.bool false)))⟩])
  (.seq (.region [⟨(some 3), none, .mv (.t 0)⟩, ⟨(some 4), none, .bin .leq 5 true (.c (.val (.int .u8 48))) (.t 3)⟩, ⟨(some 5), none, .mv (.t 4)⟩, ⟨(some 6), some (5, true), .mv (.t 0)⟩, ⟨(some 7), some (5, true), .bin .leq 5 true (.t 6) (.c (.val (.int .u8 57)))⟩, ⟨(some 8), none, .pick (.t 5) (.t 7) (.c (.val (.bool false)))⟩, ⟨(some 2), none, .mv (.t 8)⟩])
  .ret))
def f195_fn : AFun := ⟨f195, [.tmp 2]⟩
theorem f195_ok : funOf Tryz.prog 195 = some f195_fn := by kernel_rfl

/-- liquidcheck/names.capital -/
def f196 : ACode := (.seq (.region [⟨(some 2), none, .mv (.c (.val (.bool false)))⟩])
  (.seq (.region [⟨(some 3), none, .mv (.t 0)⟩, ⟨(some 4), none, .bin .leq 5 true (.c (.val (.int .u8 65))) (.t 3)⟩, ⟨(some 5), none, .mv (.t 4)⟩, ⟨(some 6), some (5, true), .mv (.t 0)⟩, ⟨(some 7), some (5, true), .bin .leq 5 true (.t 6) (.c (.val (.int .u8 90)))⟩, ⟨(some 8), none, .pick (.t 5) (.t 7) (.c (.val (.bool false)))⟩, ⟨(some 2), none, .mv (.t 8)⟩])
  .ret))
def f196_fn : AFun := ⟨f196, [.tmp 2]⟩
theorem f196_ok : funOf Tryz.prog 196 = some f196_fn := by kernel_rfl

/-- liquidcheck/liquidcheckref04.Core -/
def f197_b0 : ACode := (.seq (.region [⟨(some 38), none, .bin .lss 3 false (.t 37) (.t 36)⟩])
  (.seq (.cond (.t 38) .skip (.exit 0))
  (.seq (.block 1 (.seq (.region [⟨(some 39), none, .idxAddrS 1 (.t 35) (.t 37)⟩, ⟨(some 40), none, .load none (.t 39)⟩, ⟨(some 5), none, .mv (.t 40)⟩])
  (.seq (.region [⟨(some 41), none, .mv (.t 5)⟩, ⟨(some 42), none, .call 244 [(.t 41)]⟩, ⟨(some 43), none, .un .not (.t 42)⟩])
  (.cond (.t 43) (.seq (.region [⟨(some 2), none, .mv (.c (.val (.int .i64 3)))⟩])
  .ret) .skip))))
  (.region [⟨(some 44), none, .bin .add 3 true (.t 37) (.c (.val (.int .i64 1)))⟩, ⟨(some 37), none, .mv (.t 44)⟩]))))
def f197_l0 : ACode := .loop f197_b0
def f197 : ACode := (.seq (.region [⟨(some 2), none, .mv (.c (.val (.int .i64 0)))⟩])
  (.seq (.seq (.region [⟨(some 6), none, .mv (.t 0)⟩, ⟨(some 7), none, .lenStr (.t 6)⟩, ⟨(some 8), none, .bin .gtr 3 true (.t 7) (.c (.val (.int .i64 120)))⟩])
  (.cond (.t 8) (.seq (.region [⟨(some 2), none, .mv (.c (.val (.int .i64 3)))⟩])
  .ret) .skip))
  (.seq (.region [⟨(some 9), none, .mv (.t 0)⟩, ⟨(some 10), none, .call 241 [(.t 9)]⟩, ⟨(some 3), none, .mv (.t 10)⟩])
  (.seq (.seq (.region [⟨(some 11), none, .mv (.t 3)⟩, ⟨(some 12), none, .idxAddrS 1 (.t 11) (.c (.val (.int .i64 0)))⟩, ⟨(some 13), none, .load none (.t 12)⟩, ⟨(some 14), none, .call 242 [(.t 13)]⟩, ⟨(some 15), none, .bin .neq 45 true (.t 14) (.c (.val (.int .i64 0)))⟩, ⟨(some 16), none, .mv (.t 15)⟩, ⟨(some 17), some (16, true), .mv (.t 3)⟩, ⟨(some 18), some (16, true), .idxAddrS 1 (.t 17) (.c (.val (.int .i64 0)))⟩, ⟨(some 19), some (16, true), .load none (.t 18)⟩, ⟨(some 20), some (16, true), .call 243 [(.t 19)]⟩, ⟨(some 21), some (16, true), .bin .neq 45 true (.t 20) (.c (.val (.int .i64 0)))⟩, ⟨(some 22), none, .pick (.t 16) (.t 21) (.c (.val (.bool false)))⟩, ⟨(some 23), none, .mv (.t 22)⟩, ⟨(some 24), some (23, true), .mv (.t 3)⟩, ⟨(some 25), some (23, true), .idxAddrS 1 (.t 24) (.c (.val (.int .i64 0)))⟩, ⟨(some 26), some (23, true), .load none (.t 25)⟩, ⟨(some 27), some (23, true), .bin .neq 9 true (.t 26) (.c (.val (.string ⟨#[118]⟩)))⟩, ⟨(some 28), some (23, true), .mv (.t 27)⟩, ⟨(some 29), some (28, false), .mv (.t 3)⟩, ⟨(some 30), some (28, false), .lenS (.t 29)⟩, ⟨(some 31), some (28, false), .bin .eql 3 true (.t 30) (.c (.val (.int .i64 1)))⟩, ⟨(some 32), some (23, true), .pick (.t 28) (.c (.val (.bool true))) (.t 31)⟩, ⟨(some 33), none, .pick (.t 23) (.t 32) (.c (.val (.bool false)))⟩])
  (.cond (.t 33) (.seq (.region [⟨(some 2), none, .mv (.c (.val (.int .i64 3)))⟩])
  .ret) .skip))
  (.seq (.seq (.region [⟨(some 34), none, .mv (.t 3)⟩, ⟨(some 35), none, .sliceS 1 (.t 34) (some (.c (.val (.int .i64 1)))) none none⟩, ⟨(some 36), none, .lenS (.t 35)⟩, ⟨(some 37), none, .mv (.c (.val (.int .i64 0)))⟩])
  (.block 0 f197_l0))
  (.seq (.region [⟨(some 2), none, .mv (.c (.val (.int .i64 0)))⟩])
  .ret))))))
def f197_fn : AFun := ⟨f197, [.tmp 2]⟩
theorem f197_ok : funOf Tryz.prog 197 = some f197_fn := by kernel_rfl

/-- liquidcheck/liquidcheckref04.parts -/
def f241_b0 : ACode := (.seq (.region [⟨(some 9), none, .bin .lss 3 false (.t 8) (.t 7)⟩])
  (.seq (.cond (.t 9) .skip (.exit 0))
  (.seq (.block 1 (.seq (.region [⟨(some 10), none, .mv (.t 8)⟩, ⟨(some 5), none, .mv (.t 10)⟩])
  (.seq (.region [⟨(some 11), none, .mv (.t 0)⟩, ⟨(some 12), none, .mv (.t 5)⟩, ⟨(some 13), none, .idxStr (.t 11) (.t 12)⟩, ⟨(some 14), none, .bin .eql 5 true (.t 13) (.c (.val (.int .u8 46)))⟩])
  (.cond (.t 14) (.seq (.region [⟨(some 15), none, .mv (.t 3)⟩, ⟨(some 16), none, .mv (.t 0)⟩, ⟨(some 17), none, .mv (.t 4)⟩, ⟨(some 18), none, .mv (.t 5)⟩, ⟨(some 19), none, .sliceStr (.t 16) (some (.t 17)) (some (.t 18))⟩, ⟨(some 20), none, .buildSlice 1 1 [(.val (.string ⟨#[]⟩))] [(0, 1, (.t 19))]⟩, ⟨(some 21), none, .append 1 16 (.t 15) (.t 20)⟩, ⟨(some 3), none, .mv (.t 21)⟩])
  (.region [⟨(some 22), none, .mv (.t 5)⟩, ⟨(some 23), none, .bin .add 3 true (.t 22) (.c (.val (.int .i64 1)))⟩, ⟨(some 4), none, .mv (.t 23)⟩])) .skip))))
  (.region [⟨(some 24), none, .bin .add 3 true (.t 8) (.c (.val (.int .i64 1)))⟩, ⟨(some 8), none, .mv (.t 24)⟩]))))
def f241_l0 : ACode := .loop f241_b0
def f241 : ACode := (.seq (.region [⟨(some 2), none, .mv (.c (.val (.slice none 0 0)))⟩])
  (.seq (.region [⟨(some 3), none, .mv (.c (.val (.slice none 0 0)))⟩])
  (.seq (.region [⟨(some 4), none, .mv (.c (.val (.int .i64 0)))⟩])
  (.seq (.seq (.region [⟨(some 6), none, .mv (.t 0)⟩, ⟨(some 7), none, .lenStr (.t 6)⟩, ⟨(some 8), none, .mv (.c (.val (.int .i64 0)))⟩])
  (.block 0 f241_l0))
  (.seq (.region [⟨(some 25), none, .mv (.t 3)⟩, ⟨(some 26), none, .mv (.t 0)⟩, ⟨(some 27), none, .mv (.t 4)⟩, ⟨(some 28), none, .sliceStr (.t 26) (some (.t 27)) none⟩, ⟨(some 29), none, .buildSlice 1 1 [(.val (.string ⟨#[]⟩))] [(0, 1, (.t 28))]⟩, ⟨(some 30), none, .append 1 16 (.t 25) (.t 29)⟩, ⟨(some 2), none, .mv (.t 30)⟩])
  .ret)))))
def f241_fn : AFun := ⟨f241, [.tmp 2]⟩
theorem f241_ok : funOf Tryz.prog 241 = some f241_fn := by kernel_rfl

/-- liquidcheck/liquidcheckref04.Check -/
def f242_b0 : ACode := (.seq (.region [⟨(some 25), none, .bin .lss 3 false (.t 24) (.t 23)⟩])
  (.seq (.cond (.t 25) .skip (.exit 0))
  (.seq (.block 1 (.seq (.region [⟨(some 26), none, .mv (.t 24)⟩, ⟨(some 3), none, .mv (.t 26)⟩])
  (.seq (.region [⟨(some 27), none, .mv (.t 0)⟩, ⟨(some 28), none, .mv (.t 3)⟩, ⟨(some 29), none, .idxStr (.t 27) (.t 28)⟩, ⟨(some 30), none, .call 280 [(.t 29)]⟩, ⟨(some 31), none, .un .not (.t 30)⟩, ⟨(some 32), none, .mv (.t 31)⟩, ⟨(some 33), some (32, true), .mv (.t 0)⟩, ⟨(some 34), some (32, true), .mv (.t 3)⟩, ⟨(some 35), some (32, true), .idxStr (.t 33) (.t 34)⟩, ⟨(some 36), some (32, true), .call 282 [(.t 35)]⟩, ⟨(some 37), some (32, true), .un .not (.t 36)⟩, ⟨(some 38), none, .pick (.t 32) (.t 37) (.c (.val (.bool false)))⟩, ⟨(some 39), none, .mv (.t 38)⟩, ⟨(some 40), some (39, true), .mv (.t 0)⟩, ⟨(some 41), some (39, true), .mv (.t 3)⟩, ⟨(some 42), some (39, true), .idxStr (.t 40) (.t 41)⟩, ⟨(some 43), some (39, true), .bin .neq 5 true (.t 42) (.c (.val (.int .u8 95)))⟩, ⟨(some 44), none, .pick (.t 39) (.t 43) (.c (.val (.bool false)))⟩])
  (.cond (.t 44) (.seq (.region [⟨(some 2), none, .mv (.c (.val (.int .i64 3)))⟩])
  .ret) .skip))))
  (.region [⟨(some 45), none, .bin .add 3 true (.t 24) (.c (.val (.int .i64 1)))⟩, ⟨(some 24), none, .mv (.t 45)⟩]))))
def f242_l0 : ACode := .loop f242_b0
def f242 : ACode := (.seq (.region [⟨(some 2), none, .mv (.c (.val (.int .i64 0)))⟩])
  (.seq (.seq (.region [⟨(some 4), none, .mv (.t 0)⟩, ⟨(some 5), none, .lenStr (.t 4)⟩, ⟨(some 6), none, .bin .lss 3 true (.t 5) (.c (.val (.int .i64 1)))⟩, ⟨(some 7), none, .mv (.t 6)⟩, ⟨(some 8), some (7, false), .mv (.t 0)⟩, ⟨(some 9), some (7, false), .lenStr (.t 8)⟩, ⟨(some 10), some (7, false), .bin .gtr 3 true (.t 9) (.c (.val (.int .i64 24)))⟩, ⟨(some 11), none, .pick (.t 7) (.c (.val (.bool true))) (.t 10)⟩, ⟨(some 12), none, .mv (.t 11)⟩, ⟨(some 13), some (12, false), .mv (.t 0)⟩, ⟨(some 14), some (12, false), .idxStr (.t 13) (.c (.val (.int .i64 0)))⟩, ⟨(some 15), some (12, false), .call 280 [(.t 14)]⟩, ⟨(some 16), some (12, false), .un .not (.t 15)⟩, ⟨(some 17), none, .pick (.t 12) (.c (.val (.bool true))) (.t 16)⟩, ⟨(some 18), none, .mv (.t 17)⟩, ⟨(some 19), some (18, false), .mv (.t 0)⟩, ⟨(some 20), some (18, false), .call 281 [(.t 19)]⟩, ⟨(some 21), none, .pick (.t 18) (.c (.val (.bool true))) (.t 20)⟩])
  (.cond (.t 21) (.seq (.region [⟨(some 2), none, .mv (.c (.val (.int .i64 3)))⟩])
  .ret) .skip))
  (.seq (.seq (.region [⟨(some 22), none, .mv (.t 0)⟩, ⟨(some 23), none, .lenStr (.t 22)⟩, ⟨(some 24), none, .mv (.c (.val (.int .i64 0)))⟩])
  (.block 0 f242_l0))
  (.seq (.region [⟨(some 2), none, .mv (.c (.val (.int .i64 0)))⟩])
  .ret))))
def f242_fn : AFun := ⟨f242, [.tmp 2]⟩
theorem f242_ok : funOf Tryz.prog 242 = some f242_fn := by kernel_rfl

/-- liquidcheck/liquidcheckref04.Title -/
def f243_b0 : ACode := (.seq (.region [⟨(some 37), none, .bin .lss 3 false (.t 36) (.t 35)⟩])
  (.seq (.cond (.t 37) .skip (.exit 0))
  (.seq (.block 1 (.seq (.region [⟨(some 38), none, .mv (.t 36)⟩, ⟨(some 3), none, .mv (.t 38)⟩])
  (.seq (.region [⟨(some 39), none, .mv (.t 0)⟩, ⟨(some 40), none, .mv (.t 3)⟩, ⟨(some 41), none, .idxStr (.t 39) (.t 40)⟩, ⟨(some 42), none, .call 280 [(.t 41)]⟩, ⟨(some 43), none, .un .not (.t 42)⟩, ⟨(some 44), none, .mv (.t 43)⟩, ⟨(some 45), some (44, true), .mv (.t 0)⟩, ⟨(some 46), some (44, true), .mv (.t 3)⟩, ⟨(some 47), some (44, true), .idxStr (.t 45) (.t 46)⟩, ⟨(some 48), some (44, true), .call 283 [(.t 47)]⟩, ⟨(some 49), some (44, true), .un .not (.t 48)⟩, ⟨(some 50), none, .pick (.t 44) (.t 49) (.c (.val (.bool false)))⟩, ⟨(some 51), none, .mv (.t 50)⟩, ⟨(some 52), some (51, true), .mv (.t 0)⟩, ⟨(some 53), some (51, true), .mv (.t 3)⟩, ⟨(some 54), some (51, true), .idxStr (.t 52) (.t 53)⟩, ⟨(some 55), some (51, true), .call 282 [(.t 54)]⟩, ⟨(some 56), some (51, true), .un .not (.t 55)⟩, ⟨(some 57), none, .pick (.t 51) (.t 56) (.c (.val (.bool false)))⟩])
  (.cond (.t 57) (.seq (.region [⟨(some 2), none, .mv (.c (.val (.int .i64 3)))⟩])
  .ret) .skip))))
  (.region [⟨(some 58), none, .bin .add 3 true (.t 36) (.c (.val (.int .i64 1)))⟩, ⟨(some 36), none, .mv (.t 58)⟩]))))
def f243_l0 : ACode := .loop f243_b0
def f243 : ACode := (.seq (.region [⟨(some 2), none, .mv (.c (.val (.int .i64 0)))⟩])
  (.seq (.seq (.region [⟨(some 4), none, .mv (.t 0)⟩, ⟨(some 5), none, .lenStr (.t 4)⟩, ⟨(some 6), none, .bin .lss 3 true (.t 5) (.c (.val (.int .i64 1)))⟩, ⟨(some 7), none, .mv (.t 6)⟩, ⟨(some 8), some (7, false), .mv (.t 0)⟩, ⟨(some 9), some (7, false), .lenStr (.t 8)⟩, ⟨(some 10), some (7, false), .bin .gtr 3 true (.t 9) (.c (.val (.int .i64 24)))⟩, ⟨(some 11), none, .pick (.t 7) (.c (.val (.bool true))) (.t 10)⟩, ⟨(some 12), none, .mv (.t 11)⟩, ⟨(some 13), some (12, false), .mv (.t 0)⟩, ⟨(some 14), some (12, false), .idxStr (.t 13) (.c (.val (.int .i64 0)))⟩, ⟨(some 15), some (12, false), .call 283 [(.t 14)]⟩, ⟨(some 16), some (12, false), .un .not (.t 15)⟩, ⟨(some 17), none, .pick (.t 12) (.c (.val (.bool true))) (.t 16)⟩, ⟨(some 18), none, .mv (.t 17)⟩, ⟨(some 19), some (18, false), .mv (.t 0)⟩, ⟨(some 20), some (18, false), .bin .eql 9 true (.t 19) (.c (.val (.string ⟨#[73, 110, 116]⟩)))⟩, ⟨(some 21), none, .pick (.t 18) (.c (.val (.bool true))) (.t 20)⟩, ⟨(some 22), none, .mv (.t 21)⟩, ⟨(some 23), some (22, false), .mv (.t 0)⟩, ⟨(some 24), some (22, false), .bin .eql 9 true (.t 23) (.c (.val (.string ⟨#[66, 111, 111, 108]⟩)))⟩, ⟨(some 25), none, .pick (.t 22) (.c (.val (.bool true))) (.t 24)⟩, ⟨(some 26), none, .mv (.t 25)⟩, ⟨(some 27), some (26, false), .mv (.t 0)⟩, ⟨(some 28), some (26, false), .bin .eql 9 true (.t 27) (.c (.val (.string ⟨#[67, 101, 108, 108]⟩)))⟩, ⟨(some 29), none, .pick (.t 26) (.c (.val (.bool true))) (.t 28)⟩, ⟨(some 30), none, .mv (.t 29)⟩, ⟨(some 31), some (30, false), .mv (.t 0)⟩, ⟨(some 32), some (30, false), .bin .eql 9 true (.t 31) (.c (.val (.string ⟨#[70, 117, 110]⟩)))⟩, ⟨(some 33), none, .pick (.t 30) (.c (.val (.bool true))) (.t 32)⟩])
  (.cond (.t 33) (.seq (.region [⟨(some 2), none, .mv (.c (.val (.int .i64 3)))⟩])
  .ret) .skip))
  (.seq (.seq (.region [⟨(some 34), none, .mv (.t 0)⟩, ⟨(some 35), none, .lenStr (.t 34)⟩, ⟨(some 36), none, .mv (.c (.val (.int .i64 0)))⟩])
  (.block 0 f243_l0))
  (.seq (.region [⟨(some 2), none, .mv (.c (.val (.int .i64 0)))⟩])
  .ret))))
def f243_fn : AFun := ⟨f243, [.tmp 2]⟩
theorem f243_ok : funOf Tryz.prog 243 = some f243_fn := by kernel_rfl

/-- liquidcheck/liquidcheckref04.part -/
def f244_b0 : ACode := (.seq (.region [⟨(some 20), none, .bin .lss 3 false (.t 19) (.t 18)⟩])
  (.seq (.cond (.t 20) .skip (.exit 0))
  (.seq (.block 1 (.seq (.region [⟨(some 21), none, .mv (.t 19)⟩, ⟨(some 5), none, .mv (.t 21)⟩])
  (.seq (.region [⟨(some 22), none, .mv (.t 3)⟩, ⟨(some 23), none, .mv (.t 22)⟩, ⟨(some 24), some (23, true), .mv (.t 0)⟩, ⟨(some 25), some (23, true), .mv (.t 5)⟩, ⟨(some 26), some (23, true), .idxStr (.t 24) (.t 25)⟩, ⟨(some 27), some (23, true), .call 280 [(.t 26)]⟩, ⟨(some 28), some (23, true), .mv (.t 27)⟩, ⟨(some 29), some (28, false), .mv (.t 0)⟩, ⟨(some 30), some (28, false), .mv (.t 5)⟩, ⟨(some 31), some (28, false), .idxStr (.t 29) (.t 30)⟩, ⟨(some 32), some (28, false), .call 283 [(.t 31)]⟩, ⟨(some 33), some (23, true), .pick (.t 28) (.c (.val (.bool true))) (.t 32)⟩, ⟨(some 34), some (23, true), .mv (.t 33)⟩, ⟨(some 35), some (34, false), .mv (.t 0)⟩, ⟨(some 36), some (34, false), .mv (.t 5)⟩, ⟨(some 37), some (34, false), .idxStr (.t 35) (.t 36)⟩, ⟨(some 38), some (34, false), .call 282 [(.t 37)]⟩, ⟨(some 39), some (23, true), .pick (.t 34) (.c (.val (.bool true))) (.t 38)⟩, ⟨(some 40), none, .pick (.t 23) (.t 39) (.c (.val (.bool false)))⟩, ⟨(some 3), none, .mv (.t 40)⟩])
  (.region [⟨(some 41), none, .mv (.t 4)⟩, ⟨(some 42), none, .mv (.t 41)⟩, ⟨(some 43), some (42, true), .mv (.t 0)⟩, ⟨(some 44), some (42, true), .mv (.t 5)⟩, ⟨(some 45), some (42, true), .idxStr (.t 43) (.t 44)⟩, ⟨(some 46), some (42, true), .call 280 [(.t 45)]⟩, ⟨(some 47), some (42, true), .mv (.t 46)⟩, ⟨(some 48), some (47, false), .mv (.t 0)⟩, ⟨(some 49), some (47, false), .mv (.t 5)⟩, ⟨(some 50), some (47, false), .idxStr (.t 48) (.t 49)⟩, ⟨(some 51), some (47, false), .call 282 [(.t 50)]⟩, ⟨(some 52), some (42, true), .pick (.t 47) (.c (.val (.bool true))) (.t 51)⟩, ⟨(some 53), some (42, true), .mv (.t 52)⟩, ⟨(some 54), some (53, false), .mv (.t 0)⟩, ⟨(some 55), some (53, false), .mv (.t 5)⟩, ⟨(some 56), some (53, false), .idxStr (.t 54) (.t 55)⟩, ⟨(some 57), some (53, false), .bin .eql 5 true (.t 56) (.c (.val (.int .u8 95)))⟩, ⟨(some 58), some (42, true), .pick (.t 53) (.c (.val (.bool true))) (.t 57)⟩, ⟨(some 59), none, .pick (.t 42) (.t 58) (.c (.val (.bool false)))⟩, ⟨(some 4), none, .mv (.t 59)⟩]))))
  (.region [⟨(some 60), none, .bin .add 3 true (.t 19) (.c (.val (.int .i64 1)))⟩, ⟨(some 19), none, .mv (.t 60)⟩]))))
def f244_l0 : ACode := .loop f244_b0
def f244 : ACode := (.seq (.region [⟨(some 2), none, .mv (.c (.val (.bool false)))⟩])
  (.seq (.seq (.region [⟨(some 6), none, .mv (.t 0)⟩, ⟨(some 7), none, .lenStr (.t 6)⟩, ⟨(some 8), none, .bin .lss 3 true (.t 7) (.c (.val (.int .i64 1)))⟩, ⟨(some 9), none, .mv (.t 8)⟩, ⟨(some 10), some (9, false), .mv (.t 0)⟩, ⟨(some 11), some (9, false), .lenStr (.t 10)⟩, ⟨(some 12), some (9, false), .bin .gtr 3 true (.t 11) (.c (.val (.int .i64 24)))⟩, ⟨(some 13), none, .pick (.t 9) (.c (.val (.bool true))) (.t 12)⟩])
  (.cond (.t 13) (.seq (.region [⟨(some 2), none, .mv (.c (.val (.bool false)))⟩])
  .ret) .skip))
  (.seq (.region [⟨(some 3), none, .mv (.c (.val (.bool true)))⟩])
  (.seq (.region [⟨(some 14), none, .mv (.t 0)⟩, ⟨(some 15), none, .idxStr (.t 14) (.c (.val (.int .i64 0)))⟩, ⟨(some 16), none, .call 280 [(.t 15)]⟩, ⟨(some 4), none, .mv (.t 16)⟩])
  (.seq (.seq (.region [⟨(some 17), none, .mv (.t 0)⟩, ⟨(some 18), none, .lenStr (.t 17)⟩, ⟨(some 19), none, .mv (.c (.val (.int .i64 0)))⟩])
  (.block 0 f244_l0))
  (.seq (.region [⟨(some 61), none, .mv (.t 3)⟩, ⟨(some 62), none, .mv (.t 61)⟩, ⟨(some 63), some (62, false), .mv (.t 4)⟩, ⟨(some 64), none, .pick (.t 62) (.c (.val (.bool true))) (.t 63)⟩, ⟨(some 2), none, .mv (.t 64)⟩])
  .ret))))))
def f244_fn : AFun := ⟨f244, [.tmp 2]⟩
theorem f244_ok : funOf Tryz.prog 244 = some f244_fn := by kernel_rfl

/-- liquidcheck/liquidcheckref04.small -/
def f280 : ACode := (.seq (.region [⟨(some 2), none, .mv (.c (.val (.bool false)))⟩])
  (.seq (.region [⟨(some 3), none, .mv (.t 0)⟩, ⟨(some 4), none, .bin .geq 5 true (.t 3) (.c (.val (.int .u8 97)))⟩, ⟨(some 5), none, .mv (.t 4)⟩, ⟨(some 6), some (5, true), .mv (.t 0)⟩, ⟨(some 7), some (5, true), .bin .leq 5 true (.t 6) (.c (.val (.int .u8 122)))⟩, ⟨(some 8), none, .pick (.t 5) (.t 7) (.c (.val (.bool false)))⟩, ⟨(some 2), none, .mv (.t 8)⟩])
  .ret))
def f280_fn : AFun := ⟨f280, [.tmp 2]⟩
theorem f280_ok : funOf Tryz.prog 280 = some f280_fn := by kernel_rfl

/-- liquidcheck/liquidcheckref04.Keyword -/
def f281 : ACode := (.seq (.region [⟨(some 2), none, .mv (.c (.val (.bool false)))⟩])
  (.seq (.region [⟨(some 3), none, .call 321 []⟩, ⟨(some 4), none, .mv (.t 0)⟩, ⟨(some 5), none, .call 43 [(.t 3), (.t 4)]⟩, ⟨(some 6), none, .bin .geq 3 true (.t 5) (.c (.val (.int .i64 0)))⟩, ⟨(some 2), none, .mv (.t 6)⟩])
  .ret))
def f281_fn : AFun := ⟨f281, [.tmp 2]⟩
theorem f281_ok : funOf Tryz.prog 281 = some f281_fn := by kernel_rfl

/-- liquidcheck/liquidcheckref04.digit -/
def f282 : ACode := (.seq (.region [⟨(some 2), none, .mv (.c (.val (.bool false)))⟩])
  (.seq (.region [⟨(some 3), none, .mv (.t 0)⟩, ⟨(some 4), none, .bin .geq 5 true (.t 3) (.c (.val (.int .u8 48)))⟩, ⟨(some 5), none, .mv (.t 4)⟩, ⟨(some 6), some (5, true), .mv (.t 0)⟩, ⟨(some 7), some (5, true), .bin .leq 5 true (.t 6) (.c (.val (.int .u8 57)))⟩, ⟨(some 8), none, .pick (.t 5) (.t 7) (.c (.val (.bool false)))⟩, ⟨(some 2), none, .mv (.t 8)⟩])
  .ret))
def f282_fn : AFun := ⟨f282, [.tmp 2]⟩
theorem f282_ok : funOf Tryz.prog 282 = some f282_fn := by kernel_rfl

/-- liquidcheck/liquidcheckref04.capital -/
def f283 : ACode := (.seq (.region [⟨(some 2), none, .mv (.c (.val (.bool false)))⟩])
  (.seq (.region [⟨(some 3), none, .mv (.t 0)⟩, ⟨(some 4), none, .bin .geq 5 true (.t 3) (.c (.val (.int .u8 65)))⟩, ⟨(some 5), none, .mv (.t 4)⟩, ⟨(some 6), some (5, true), .mv (.t 0)⟩, ⟨(some 7), some (5, true), .bin .leq 5 true (.t 6) (.c (.val (.int .u8 90)))⟩, ⟨(some 8), none, .pick (.t 5) (.t 7) (.c (.val (.bool false)))⟩, ⟨(some 2), none, .mv (.t 8)⟩])
  .ret))
def f283_fn : AFun := ⟨f283, [.tmp 2]⟩
theorem f283_ok : funOf Tryz.prog 283 = some f283_fn := by kernel_rfl

/-- liquidcheck/liquidcheckref04.keywords -/
def f321 : ACode := (.seq (.region [⟨(some 0), none, .mv (.c (.val (.slice none 0 0)))⟩])
  (.seq (.region [⟨(some 1), none, .buildSlice 1 42 [(.val (.string ⟨#[]⟩)), (.val (.string ⟨#[]⟩)), (.val (.string ⟨#[]⟩)), (.val (.string ⟨#[]⟩)), (.val (.string ⟨#[]⟩)), (.val (.string ⟨#[]⟩)), (.val (.string ⟨#[]⟩)), (.val (.string ⟨#[]⟩)), (.val (.string ⟨#[]⟩)), (.val (.string ⟨#[]⟩)), (.val (.string ⟨#[]⟩)), (.val (.string ⟨#[]⟩)), (.val (.string ⟨#[]⟩)), (.val (.string ⟨#[]⟩)), (.val (.string ⟨#[]⟩)), (.val (.string ⟨#[]⟩)), (.val (.string ⟨#[]⟩)), (.val (.string ⟨#[]⟩)), (.val (.string ⟨#[]⟩)), (.val (.string ⟨#[]⟩)), (.val (.string ⟨#[]⟩)), (.val (.string ⟨#[]⟩)), (.val (.string ⟨#[]⟩)), (.val (.string ⟨#[]⟩)), (.val (.string ⟨#[]⟩)), (.val (.string ⟨#[]⟩)), (.val (.string ⟨#[]⟩)), (.val (.string ⟨#[]⟩)), (.val (.string ⟨#[]⟩)), (.val (.string ⟨#[]⟩)), (.val (.string ⟨#[]⟩)), (.val (.string ⟨#[]⟩)), (.val (.string ⟨#[]⟩)), (.val (.string ⟨#[]⟩)), (.val (.string ⟨#[]⟩)), (.val (.string ⟨#[]⟩)), (.val (.string ⟨#[]⟩)), (.val (.string ⟨#[]⟩)), (.val (.string ⟨#[]⟩)), (.val (.string ⟨#[]⟩)), (.val (.string ⟨#[]⟩)), (.val (.string ⟨#[]⟩))] [(0, 1, (.c (.val (.string ⟨#[97, 110, 100]⟩)))), (1, 1, (.c (.val (.string ⟨#[97, 115, 115, 117, 109, 101]⟩)))), (2, 1, (.c (.val (.string ⟨#[98, 111, 111, 108]⟩)))), (3, 1, (.c (.val (.string ⟨#[98, 111, 117, 110, 100]⟩)))), (4, 1, (.c (.val (.string ⟨#[99, 97, 115, 101]⟩)))), (5, 1, (.c (.val (.string ⟨#[99, 101, 108, 108]⟩)))), (6, 1, (.c (.val (.string ⟨#[99, 108, 97, 115, 115]⟩)))), (7, 1, (.c (.val (.string ⟨#[100, 97, 116, 97]⟩)))), (8, 1, (.c (.val (.string ⟨#[100, 101, 102]⟩)))), (9, 1, (.c (.val (.string ⟨#[100, 105, 118]⟩)))), (10, 1, (.c (.val (.string ⟨#[101, 108, 115, 101]⟩)))), (11, 1, (.c (.val (.string ⟨#[101, 110, 100]⟩)))), (12, 1, (.c (.val (.string ⟨#[102, 97, 108, 115, 101]⟩)))), (13, 1, (.c (.val (.string ⟨#[102, 111, 114, 97, 108, 108]⟩)))), (14, 1, (.c (.val (.string ⟨#[102, 117, 110]⟩)))), (15, 1, (.c (.val (.string ⟨#[103, 101, 116]⟩)))), (16, 1, (.c (.val (.string ⟨#[105, 102]⟩)))), (17, 1, (.c (.val (.string ⟨#[105, 110]⟩)))), (18, 1, (.c (.val (.string ⟨#[105, 110, 115, 116]⟩)))), (19, 1, (.c (.val (.string ⟨#[105, 110, 116]⟩)))), (20, 1, (.c (.val (.string ⟨#[105, 110, 118, 97, 114, 105, 97, 110, 116]⟩)))), (21, 1, (.c (.val (.string ⟨#[108, 101, 116]⟩)))), (22, 1, (.c (.val (.string ⟨#[109, 97, 116, 99, 104]⟩)))), (23, 1, (.c (.val (.string ⟨#[109, 101, 97, 115, 117, 114, 101]⟩)))), (24, 1, (.c (.val (.string ⟨#[109, 101, 116, 114, 105, 99]⟩)))), (25, 1, (.c (.val (.string ⟨#[109, 111, 100]⟩)))), (26, 1, (.c (.val (.string ⟨#[109, 117]⟩)))), (27, 1, (.c (.val (.string ⟨#[110, 101, 119]⟩)))), (28, 1, (.c (.val (.string ⟨#[110, 111, 116]⟩)))), (29, 1, (.c (.val (.string ⟨#[111, 102]⟩)))), (30, 1, (.c (.val (.string ⟨#[111, 114]⟩)))), (31, 1, (.c (.val (.string ⟨#[113, 117, 97, 108]⟩)))), (32, 1, (.c (.val (.string ⟨#[114, 101, 102, 108, 101, 99, 116]⟩)))), (33, 1, (.c (.val (.string ⟨#[115, 101, 116]⟩)))), (34, 1, (.c (.val (.string ⟨#[116, 104, 101, 110]⟩)))), (35, 1, (.c (.val (.string ⟨#[116, 114, 117, 101]⟩)))), (36, 1, (.c (.val (.string ⟨#[117, 115, 101]⟩)))), (37, 1, (.c (.val (.string ⟨#[118]⟩)))), (38, 1, (.c (.val (.string ⟨#[118, 97, 108]⟩)))), (39, 1, (.c (.val (.string ⟨#[116, 97, 103]⟩)))), (40, 1, (.c (.val (.string ⟨#[119, 104, 101, 114, 101]⟩)))), (41, 1, (.c (.val (.string ⟨#[119, 105, 116, 104]⟩))))]⟩, ⟨(some 0), none, .mv (.t 1)⟩])
  .ret))
def f321_fn : AFun := ⟨f321, [.tmp 0]⟩
theorem f321_ok : funOf Tryz.prog 321 = some f321_fn := by kernel_rfl

end Go.Proofs.YtbolilekjpoicaaGreatDoor

/- Predicates as trees of cells. -/
namespace Go.Proofs.YtbolilekjpoicaaGreatDoor
open Go Go.AM

/-- A predicate: kind, name, number, kids; what stands for no kids, and spare places. -/
inductive Pr where
  | mk (op : Int) (nm : ByteArray) (n : Int) (ks : List Pr) (nl : Option (Option Addr × Nat)) (cap : Option Nat)

def Pr.op : Pr → Int | .mk o _ _ _ _ _ => o
def Pr.nm : Pr → ByteArray | .mk _ s _ _ _ _ => s
def Pr.n : Pr → Int | .mk _ _ n _ _ _ => n
def Pr.ks : Pr → List Pr | .mk _ _ _ l _ _ => l

/-- What stands for no kids. -/
def noKids : Option (Option Addr × Nat) → Value
  | some (a, c) => .slice a 0 c
  | none => .slice none 0 0
def kidsA (cs : List AV) (n : Nat) (nl : Option (Option Addr × Nat)) (cap : Option Nat) : AV := bif nl.isSome && Nat.beq n 0 then .val (noKids nl) else .imm cs n cap

mutual
def Pr.cells : Pr → List AV
  | .mk o s n ks nl cap => [.val (.int .i64 o), .val (.string s), .val (.int .i64 n), kidsA (Pr.cellsL ks) ks.length nl cap]
def Pr.cellsL : List Pr → List AV
  | [] => []
  | k :: r => k.cells ++ Pr.cellsL r
end

def Pr.kids : Pr → AV | .mk _ _ _ ks nl cap => kidsA (Pr.cellsL ks) ks.length nl cap
def Pr.av (p : Pr) : AV := .agg p.cells

theorem Pr.cells_eq (p : Pr) : p.cells = [.val (.int .i64 p.op), .val (.string p.nm), .val (.int .i64 p.n), p.kids] := by
  cases p
  simp only [Pr.cells, Pr.op, Pr.nm, Pr.n, Pr.kids]

theorem Pr.len (p : Pr) : p.cells.length = 4 := by rw [p.cells_eq]; rfl

theorem cellsL_len : ∀ l : List Pr, (Pr.cellsL l).length = l.length * 4
  | [] => by simp only [Pr.cellsL, List.length_nil, Nat.zero_mul]
  | k :: r => by simp only [Pr.cellsL, List.length_append, k.len, cellsL_len r, List.length_cons]; omega

theorem cellsL_drop : ∀ (l : List Pr) (i : Nat), (Pr.cellsL l).drop (i * 4) = Pr.cellsL (l.drop i)
  | l, 0 => by simp only [Nat.zero_mul, List.drop_zero]
  | [], i + 1 => by simp only [Pr.cellsL, List.drop_nil]
  | k :: r, i + 1 => by
    have : (i + 1) * 4 = k.cells.length + i * 4 := by rw [k.len]; omega
    rw [Pr.cellsL, this, List.drop_length_add_append, cellsL_drop r i, List.drop_succ_cons]

theorem cells_take (k : Pr) (l : List AV) : (k.cells ++ l).take 4 = k.cells := by
  rw [← k.len, List.take_left]

/-- A kid is where it is looked for. -/
theorem kid_at {p : Pr} {i : Nat} {k : Pr} {r : List Pr} (h : p.ks.drop i = k :: r) : idxAddrSV 4 p.kids i = some (.iptr (k.cells ++ Pr.cellsL r)) := by
  obtain ⟨o, s, n, ks, nl, cap⟩ := p
  have h : ks.drop i = k :: r := h
  have hi : i < ks.length := by
    rcases Nat.lt_or_ge i ks.length with x | x
    · exact x
    · rw [List.drop_eq_nil_of_le x] at h; cases h
  have h0 : Nat.beq ks.length 0 = false := by
    cases hb : Nat.beq ks.length 0 with
    | false => rfl
    | true =>
      have := Nat.eq_of_beq_eq_true hb
      omega
  have h1 : Nat.blt i ks.length = true := Nat.blt_eq.mpr hi
  have h2 : Nat.ble (i * 4) (Pr.cellsL ks).length = true := Nat.ble_eq.mpr (by rw [cellsL_len]; omega)
  simp only [Pr.kids, kidsA, h0, Bool.and_false, cond_false, idxAddrSV, h1, h2, Bool.and_self, cond_true, cellsL_drop, h, Pr.cellsL]

theorem kids_len (p : Pr) : lenV p.kids = some (.val (.int .i64 (p.ks.length : Nat))) := by
  obtain ⟨o, s, n, ks, nl, cap⟩ := p
  simp only [Pr.kids, kidsA, Pr.ks]
  cases nl with
  | none => rfl
  | some x =>
    cases ks with
    | nil => rfl
    | cons k r => rfl

theorem takeN_kid (k : Pr) (l : List AV) : takeN (some 4) (k.cells ++ l) = some k.av := by
  have : Nat.ble 4 (k.cells ++ l).length = true := Nat.ble_eq.mpr (by rw [List.length_append, k.len]; omega)
  simp only [takeN, this, cond_true, cells_take, Pr.av]

theorem cellsFrom_get {G : Nat → Option (List AV)} {h : AH} {b off : Nat} {cs : List AV} {rw : Bool} (hb : h.get b = some (.cells cs rw)) (hl : Nat.ble off cs.length = true) : cellsFrom G h (.ptr b off) = some (cs.drop off) := by
  simp only [cellsFrom, hb, hl, cond_true]

theorem av_cells (p : Pr) : p.av.cells = some p.cells := rfl

theorem take_f0 (p : Pr) : takeN none (p.cells.drop 0) = some (.val (.int .i64 p.op)) := by rw [p.cells_eq]; rfl
theorem take_f1 (p : Pr) : takeN none (p.cells.drop 1) = some (.val (.string p.nm)) := by rw [p.cells_eq]; rfl
theorem take_f2 (p : Pr) : takeN none (p.cells.drop 2) = some (.val (.int .i64 p.n)) := by rw [p.cells_eq]; rfl
theorem take_f3 (p : Pr) : takeN none (p.cells.drop 3) = some p.kids := by rw [p.cells_eq]; rfl
theorem take_all (p : Pr) : takeN (some 4) (p.cells.drop 0) = some p.av := by rw [List.drop_zero, ← List.append_nil p.cells, takeN_kid]

theorem store_new {h : AH} {z l : List AV} {n : Nat} (hz : z.length = n) (hl : l.length = n) : storeH (h.alloc (.cells z true)) n (.ptr h.next 0) l = some ((h.alloc (.cells z true)).put h.next (some (.cells l true))) := by
  have h1 : (h.alloc (.cells z true)).get h.next = some (.cells z true) := by rw [AH.get_alloc, if_pos rfl]
  have h2 : Nat.beq l.length n = true := by rw [hl]; exact Nat.beq_refl n
  have h3 : Nat.ble (0 + n) z.length = true := Nat.ble_eq.mpr (by omega)
  have h4 : putAt z 0 l = l := by
    simp only [putAt, List.take_zero, List.nil_append, Nat.zero_add]
    rw [List.drop_eq_nil_of_le (by omega), List.append_nil]
  simp only [storeH, h1, h2, h3, Bool.and_self, cond_true, h4]

theorem fa_iptr (p : Pr) (off : Nat) (l : List AV) (h : Nat.ble off 4 = true) : fieldAddrV off (.iptr (p.cells ++ l)) = some (.iptr ((p.cells ++ l).drop off)) := by
  have : Nat.ble off (p.cells ++ l).length = true := by
    have := Nat.le_of_ble_eq_true h
    exact Nat.ble_eq.mpr (by rw [List.length_append, p.len]; omega)
  simp only [fieldAddrV, this, cond_true]
theorem cfB0 {p : Pr} {rw : Bool} : cfB (some (.cells p.cells rw)) 0 = some (p.cells.drop 0) := rfl
theorem cfB1 {p : Pr} {rw : Bool} : cfB (some (.cells p.cells rw)) 1 = some (p.cells.drop 1) := by rw [p.cells_eq]; rfl
theorem cfB2 {p : Pr} {rw : Bool} : cfB (some (.cells p.cells rw)) 2 = some (p.cells.drop 2) := by rw [p.cells_eq]; rfl
theorem cfB3 {p : Pr} {rw : Bool} : cfB (some (.cells p.cells rw)) 3 = some (p.cells.drop 3) := by rw [p.cells_eq]; rfl

theorem Leaf.kids (p : Pr) : Leaf p.kids := by
  obtain ⟨o, s, n, ks, nl, cap⟩ := p
  simp only [Pr.kids, kidsA]
  cases (nl.isSome && Nat.beq ks.length 0) with
  | true => exact Leaf.val _
  | false => exact Leaf.imm _ _ _
theorem Tree.pr (p : Pr) : Tree p.av := by
  unfold Pr.av
  rw [p.cells_eq]
  refine Tree.agg fun v hv => ?_
  simp only [List.mem_cons, List.mem_nil_iff, or_false] at hv
  rcases hv with rfl | rfl | rfl | rfl
  · exact Leaf.val _
  · exact Leaf.val _
  · exact Leaf.val _
  · exact Leaf.kids p

end Go.Proofs.YtbolilekjpoicaaGreatDoor

/- The rules of a walk, joined. -/
namespace Go.Proofs.YtbolilekjpoicaaGreatDoor
open Go Go.AM
set_option linter.all false

def W0 := And.intro @c_skip (And.intro @c_ret (And.intro @c_exit (And.intro @c_region (And.intro @c_seq (And.intro @c_block (And.intro @k_normal (And.intro @k_ret (And.intro @k_exit (And.intro @b_normal (And.intro @b_ret (And.intro @b_exit (And.intro @l_normal (And.intro @l_ret (And.intro @l_exit (@wpOps_nil)))))))))))))))
def W1 := And.intro @s_g (And.intro @guardK_t (And.intro @guardK_f (And.intro @wantedV_t (And.intro @wantedV_f (And.intro @wantedV_u (And.intro @s_cond (And.intro @condK_t (And.intro @condK_f (And.intro @stepV_some (And.intro @stepH_some (And.intro @stepS_some (And.intro @s_mv (And.intro @s_pick (And.intro @w_alloc (@s_box)))))))))))))))
def W2 := And.intro @boxO_some (And.intro @s_build (And.intro @aggO_some (And.intro @s_buildSlice (And.intro @ownO_some (And.intro @s_load (And.intro @s_store (And.intro @storeO_some (And.intro @s_bin (And.intro @binO_some (And.intro @s_un (And.intro @s_fieldAddr (And.intro @s_idxAddrS (And.intro @idxO_some (And.intro @s_idxStr (@idxSO_some)))))))))))))))
def W3 := And.intro @s_sliceStr (And.intro @sliceO_some (And.intro @s_extract (And.intro @s_lenS (And.intro @s_lenStr (And.intro @s_maxI (And.intro @s_mkFunc (And.intro @fnO_some (And.intro @s_call (And.intro @consO_some (And.intro @all_c (And.intro @St.eval_set (And.intro @St.eval_toH (And.intro @St.eval_c (And.intro @St.h_set (@St.h_toH)))))))))))))))
def W4 := And.intro @St.df_set (And.intro @St.df_toH (And.intro @St.get_set (And.intro @St.tm_toH (And.intro @av_cells (And.intro @fa_ptr (And.intro @cf_ptr (And.intro @cf_iptr (And.intro @AH.get_alloc (And.intro @AH.get_put (And.intro @e_next (And.intro @a_next (And.intro @p_next (And.intro @cfB0 (And.intro @cfB1 (@cfB2)))))))))))))))
def W5 := And.intro @cfB3 (And.intro @cfN (And.intro @take_f0 (And.intro @take_f1 (And.intro @take_f2 (And.intro @take_f3 (And.intro @take_all (And.intro @kids_len (And.intro @takeN_kid (And.intro @v_lss (And.intro @v_leq (And.intro @v_gtr (And.intro @v_geq (And.intro @v_eql (And.intro @v_neq (@v_add)))))))))))))))
def W6 := And.intro @v_sub (And.intro @v_mul (And.intro @v_seql (And.intro @v_sneq (And.intro @v_not (And.intro @v_pick (And.intro @n_cast (And.intro @n_0 (And.intro @n_1 (And.intro @v_max (And.intro @v_neg (And.intro @x_0 (And.intro @x_1 (And.intro @x_2 (And.intro @evalAll_nil (@r_nil)))))))))))))))
def W7 := And.intro @res_tmp (@res_cell)
def W8 := And.intro @Nat.zero_add (And.intro @Nat.add_zero (And.intro @Nat.zero_mul (And.intro @true_and (And.intro @and_true (And.intro @true_or (And.intro @or_true (And.intro @Bool.not_true (And.intro @Bool.not_false (And.intro @decide_true (And.intro @decide_false (And.intro @Bool.and_true (And.intro @Bool.true_and (And.intro @Bool.and_false (And.intro @Bool.false_and (And.intro @Bool.or_true (And.intro @Bool.true_or (And.intro @Bool.or_false (@Bool.false_or))))))))))))))))))

end Go.Proofs.YtbolilekjpoicaaGreatDoor

namespace Go.Proofs.YtbolilekjpoicaaGreatDoor
open Go Go.AM
set_option linter.all false


mutual
def Pr.nodes : Pr → Nat
  | .mk _ _ _ ks _ _ => 1 + Pr.nodesL ks
def Pr.nodesL : List Pr → Nat
  | [] => 0
  | k :: r => k.nodes + Pr.nodesL r
end
theorem nodesL_len : ∀ l : List Pr, l.length ≤ Pr.nodesL l
  | [] => Nat.le_refl _
  | .mk _ _ _ ks _ _ :: r => by
    have := nodesL_len r
    simp only [Pr.nodesL, Pr.nodes, List.length_cons]
    omega
theorem Pr.nodes_eq (p : Pr) : p.nodes = 1 + Pr.nodesL p.ks := by cases p; rfl

theorem wrap_nat {n : Nat} (h : n < 2 ^ 62) : IntKind.i64.wrap (n : Int) = (n : Int) := by
  exact IntWalk.i64_in _ (by omega)

/-- The machine with what alive answers. -/
noncomputable def E1 : Env := E0.tab [(5, [], .val (.bool true))]
theorem E1_P : E1.P = Tryz.prog := by kernel_rfl
theorem ans1 {g : Nat} {l : List AV} {r : AV} {a : AFun} (hf : funOf Tryz.prog g = some a)
    (h : wp E1 a.body { tm := enterTm l 0 .nil, h := .empty, defers := [], round := none } fun e s => (e = .normal ∨ e = .ret) ∧ s.defers = [] ∧ resultsA E1.globs s a.res = some [r]) : Ans E1 g l r :=
  ans_of (by rw [E1_P]; exact hf) h
theorem ans1s {g : Nat} {l : List AV} {r : AV} {a : AFun} (hf : funOf Tryz.prog g = some a)
    (h : ∀ s : St, (∀ i v, (enterTm l 0 .nil).get i = some v → s.eval (.t i) = some v) → s.h = .empty → s.defers = [] → wp E1 a.body s fun e s => (e = .normal ∨ e = .ret) ∧ s.defers = [] ∧ resultsA E1.globs s a.res = some [r]) : Ans E1 g l r :=
  ans1 hf (h _ (fun _ _ h => h) rfl rfl)
theorem ans2 {g : Nat} {l rs : List AV} {a : AFun} (hf : funOf Tryz.prog g = some a)
    (h : wp E1 a.body { tm := enterTm l 0 .nil, h := .empty, defers := [], round := none } fun e s => (e = .normal ∨ e = .ret) ∧ s.defers = [] ∧ resultsA E1.globs s a.res = some rs) : Ans E1 g l (oneOrTup rs) :=
  ans_of2 (by rw [E1_P]; exact hf) h

theorem ans2s {g : Nat} {l rs : List AV} {a : AFun} (hf : funOf Tryz.prog g = some a)
    (h : ∀ s : St, (∀ i v, (enterTm l 0 .nil).get i = some v → s.eval (.t i) = some v) → s.h = .empty → s.defers = [] → wp E1 a.body s fun e s => (e = .normal ∨ e = .ret) ∧ s.defers = [] ∧ resultsA E1.globs s a.res = some rs) : Ans E1 g l (oneOrTup rs) :=
  ans2 hf (h _ (fun _ _ h => h) rfl rfl)

theorem f4_loop {E : Env} (p : Pr) : ∀ (r : List Pr) (i acc : Nat) (s : St), p.ks.drop i = r → i ≤ p.ks.length → i + r.length + 2 < 2 ^ 62 → acc + Pr.nodesL r < 2 ^ 62 →
    (∀ k ∈ r, ∀ h, RunCall E (.f 4) [k.av] h (.val (.int .i64 k.nodes)) h) →
    s.eval (.t 7) = some p.kids → s.eval (.t 8) = some (.val (.int .i64 (p.ks.length : Nat))) → s.eval (.t 9) = some (.val (.int .i64 i)) → s.eval (.t 3) = some (.val (.int .i64 acc)) → s.defers = [] →
    Run E f4_l0 s fun e s' => e = .exit 0 ∧ s'.eval (.t 3) = some (.val (.int .i64 (acc + Pr.nodesL r : Nat))) ∧ s'.defers = []
  | [], i, acc, s, hd, hi, hb, hc, ih, h7, h8, h9, h3, hf => by
    have hl : i = p.ks.length := by
      have := List.drop_eq_nil_iff.1 hd
      omega
    subst hl
    have hlt : decide (((p.ks.length : Nat) : Int) < (p.ks.length : Nat)) = false := by simp
    apply loop_of (rfl : f4_l0 = .loop f4_b0)
    simp -implicitDefEqProofs only [f4_b0, W0, W1, W2, W3, W4, W5, W6, W7, W8, St.put, Option.bind_some, Option.map_some, ↓reduceIte, Nat.reduceEqDiff, Nat.reduceAdd, Nat.reduceMul, reduceCtorEq, cond_true, cond_false, Int.reduceEq, Int.reduceLT, Int.reduceLE, if_true, if_false, h7, h8, h9, h3, hf, hlt, Pr.nodesL]
  | k :: r, i, acc, s, hd, hi, hb, hc, ih, h7, h8, h9, h3, hf => by
    have hl : i < p.ks.length := by
      rcases Nat.lt_or_ge i p.ks.length with x | x
      · exact x
      · rw [List.drop_eq_nil_of_le x] at hd; cases hd
    have hlt : decide ((i : Int) < (p.ks.length : Nat)) = true := by simp; omega
    have hd' : p.ks.drop (i + 1) = r := by rw [← List.drop_drop, hd]; rfl
    have hn : k.nodes + Pr.nodesL r = Pr.nodesL (k :: r) := rfl
    have hs : ∀ h : AH, storeH (h.alloc (.cells [.val (.int .i64 0), .val (.string ⟨#[]⟩), .val (.int .i64 0), .val (.slice none 0 0)] true)) 4 (.ptr h.next 0) k.cells = _ := fun h => store_new rfl k.len
    have w1 : IntKind.i64.wrap ((i : Int) + 1) = ((i + 1 : Nat) : Int) := wrap_nat (n := i + 1) (by simp only [List.length_cons] at hb; omega)
    have w2 : IntKind.i64.wrap ((acc : Int) + (k.nodes : Nat)) = ((acc + k.nodes : Nat) : Int) := by
      rw [← Int.natCast_add]
      exact wrap_nat (by omega)
    apply loop_of (rfl : f4_l0 = .loop f4_b0)
    simp -implicitDefEqProofs only [f4_b0, W0, W1, W2, W3, W4, W5, W6, W7, W8, St.put, Option.bind_some, Option.map_some, ↓reduceIte, Nat.reduceEqDiff, Nat.reduceAdd, Nat.reduceMul, reduceCtorEq, cond_true, cond_false, Int.reduceEq, Int.reduceLT, Int.reduceLE, if_true, if_false, h7, h8, h9, h3, hlt, kid_at hd, hs, callK_all (ih k List.mem_cons_self), w1, w2]
    have hq : acc + Pr.nodesL (k :: r) = (acc + k.nodes) + Pr.nodesL r := by omega
    rw [hq]
    refine f4_loop p r (i + 1) (acc + k.nodes) _ hd' (by omega) (by simp only [List.length_cons] at hb; omega) (by omega) (fun k' hk => ih k' (List.mem_cons_of_mem _ hk)) ?_ ?_ ?_ ?_ ?_
    all_goals simp -implicitDefEqProofs only [W0, W1, W2, W3, W4, W5, W6, W7, W8, St.put, Option.bind_some, Option.map_some, ↓reduceIte, Nat.reduceEqDiff, Nat.reduceAdd, Nat.reduceMul, reduceCtorEq, cond_true, cond_false, Int.reduceEq, Int.reduceLT, Int.reduceLE, if_true, if_false, h7, h8, hf]

mutual
theorem nodes_call4 : ∀ (p : Pr), p.nodes < 2 ^ 61 → ∀ h, RunCall E1 (.f 4) [p.av] h (.val (.int .i64 p.nodes)) h
  | .mk o nm n ks nl cap, hb, h => by
    have hb' : 1 + Pr.nodesL ks < 2 ^ 61 := hb
    have hk : ks.length ≤ Pr.nodesL ks := nodesL_len ks
    refine call_tree (by kernel_rfl) (by kernel_rfl) (mem1 (Tree.pr _)) rfl (Tree.val _) (ans1 f4_ok ?_) h
    have h0 : (enterTm [(Pr.mk o nm n ks nl cap).av] 0 .nil).get 0 = some (Pr.mk o nm n ks nl cap).av := rfl
    simp -implicitDefEqProofs only [f4_fn, f4, W0, W1, W2, W3, W4, W5, W6, W7, W8, St.put, Option.bind_some, Option.map_some, ↓reduceIte, Nat.reduceEqDiff, Nat.reduceAdd, Nat.reduceMul, reduceCtorEq, cond_true, cond_false, Int.reduceEq, Int.reduceLT, Int.reduceLE, if_true, if_false, enter_t h0]
    refine (f4_loop (.mk o nm n ks nl cap) ks 0 1 _ rfl (Nat.zero_le _) (by omega) (by omega) (fun k hk => nodesL_call4 ks (by omega) k hk) ?_ ?_ ?_ ?_ ?_).mono ?_
    · simp -implicitDefEqProofs only [W0, W1, W2, W3, W4, W5, W6, W7, W8, St.put, Option.bind_some, Option.map_some, ↓reduceIte, Nat.reduceEqDiff, Nat.reduceAdd, Nat.reduceMul, reduceCtorEq, cond_true, cond_false, Int.reduceEq, Int.reduceLT, Int.reduceLE, if_true, if_false]
    · simp -implicitDefEqProofs only [W0, W1, W2, W3, W4, W5, W6, W7, W8, St.put, Option.bind_some, Option.map_some, ↓reduceIte, Nat.reduceEqDiff, Nat.reduceAdd, Nat.reduceMul, reduceCtorEq, cond_true, cond_false, Int.reduceEq, Int.reduceLT, Int.reduceLE, if_true, if_false] <;> rfl
    · simp -implicitDefEqProofs only [W0, W1, W2, W3, W4, W5, W6, W7, W8, St.put, Option.bind_some, Option.map_some, ↓reduceIte, Nat.reduceEqDiff, Nat.reduceAdd, Nat.reduceMul, reduceCtorEq, cond_true, cond_false, Int.reduceEq, Int.reduceLT, Int.reduceLE, if_true, if_false] <;> rfl
    · simp -implicitDefEqProofs only [W0, W1, W2, W3, W4, W5, W6, W7, W8, St.put, Option.bind_some, Option.map_some, ↓reduceIte, Nat.reduceEqDiff, Nat.reduceAdd, Nat.reduceMul, reduceCtorEq, cond_true, cond_false, Int.reduceEq, Int.reduceLT, Int.reduceLE, if_true, if_false] <;> rfl
    · simp -implicitDefEqProofs only [W0, W1, W2, W3, W4, W5, W6, W7, W8, St.put, Option.bind_some, Option.map_some, ↓reduceIte, Nat.reduceEqDiff, Nat.reduceAdd, Nat.reduceMul, reduceCtorEq, cond_true, cond_false, Int.reduceEq, Int.reduceLT, Int.reduceLE, if_true, if_false]
    · rintro e s' ⟨rfl, h3, hf⟩
      have : Nat.beq 0 0 = true := rfl
      simp -implicitDefEqProofs only [W0, W1, W2, W3, W4, W5, W6, W7, W8, St.put, Option.bind_some, Option.map_some, ↓reduceIte, Nat.reduceEqDiff, Nat.reduceAdd, Nat.reduceMul, reduceCtorEq, cond_true, cond_false, Int.reduceEq, Int.reduceLT, Int.reduceLE, if_true, if_false, this, h3, hf] <;> rfl
theorem nodesL_call4 : ∀ (l : List Pr), Pr.nodesL l < 2 ^ 61 → ∀ k ∈ l, ∀ h, RunCall E1 (.f 4) [k.av] h (.val (.int .i64 k.nodes)) h
  | [], _, k, hk, _ => by cases hk
  | a :: r, hb, k, hk, h => by
    have hb' : a.nodes + Pr.nodesL r < 2 ^ 61 := hb
    rcases List.mem_cons.1 hk with e | hk
    · rw [e]; exact nodes_call4 a (by omega) h
    · exact nodesL_call4 r (by omega) k hk h
end
theorem f53_loop {E : Env} (p : Pr) : ∀ (r : List Pr) (i acc : Nat) (s : St), p.ks.drop i = r → i ≤ p.ks.length → i + r.length + 2 < 2 ^ 62 → acc + Pr.nodesL r < 2 ^ 62 →
    (∀ k ∈ r, ∀ h, RunCall E (.f 53) [k.av] h (.val (.int .i64 k.nodes)) h) →
    s.eval (.t 7) = some p.kids → s.eval (.t 8) = some (.val (.int .i64 (p.ks.length : Nat))) → s.eval (.t 9) = some (.val (.int .i64 i)) → s.eval (.t 3) = some (.val (.int .i64 acc)) → s.defers = [] →
    Run E f53_l0 s fun e s' => e = .exit 0 ∧ s'.eval (.t 3) = some (.val (.int .i64 (acc + Pr.nodesL r : Nat))) ∧ s'.defers = []
  | [], i, acc, s, hd, hi, hb, hc, ih, h7, h8, h9, h3, hf => by
    have hl : i = p.ks.length := by
      have := List.drop_eq_nil_iff.1 hd
      omega
    subst hl
    have hlt : decide (((p.ks.length : Nat) : Int) < (p.ks.length : Nat)) = false := by simp
    apply loop_of (rfl : f53_l0 = .loop f53_b0)
    simp -implicitDefEqProofs only [f53_b0, W0, W1, W2, W3, W4, W5, W6, W7, W8, St.put, Option.bind_some, Option.map_some, ↓reduceIte, Nat.reduceEqDiff, Nat.reduceAdd, Nat.reduceMul, reduceCtorEq, cond_true, cond_false, Int.reduceEq, Int.reduceLT, Int.reduceLE, if_true, if_false, h7, h8, h9, h3, hf, hlt, Pr.nodesL]
  | k :: r, i, acc, s, hd, hi, hb, hc, ih, h7, h8, h9, h3, hf => by
    have hl : i < p.ks.length := by
      rcases Nat.lt_or_ge i p.ks.length with x | x
      · exact x
      · rw [List.drop_eq_nil_of_le x] at hd; cases hd
    have hlt : decide ((i : Int) < (p.ks.length : Nat)) = true := by simp; omega
    have hd' : p.ks.drop (i + 1) = r := by rw [← List.drop_drop, hd]; rfl
    have hn : k.nodes + Pr.nodesL r = Pr.nodesL (k :: r) := rfl
    have hs : ∀ h : AH, storeH (h.alloc (.cells [.val (.int .i64 0), .val (.string ⟨#[]⟩), .val (.int .i64 0), .val (.slice none 0 0)] true)) 4 (.ptr h.next 0) k.cells = _ := fun h => store_new rfl k.len
    have w1 : IntKind.i64.wrap ((i : Int) + 1) = ((i + 1 : Nat) : Int) := wrap_nat (n := i + 1) (by simp only [List.length_cons] at hb; omega)
    have w2 : IntKind.i64.wrap ((acc : Int) + (k.nodes : Nat)) = ((acc + k.nodes : Nat) : Int) := by
      rw [← Int.natCast_add]
      exact wrap_nat (by omega)
    apply loop_of (rfl : f53_l0 = .loop f53_b0)
    simp -implicitDefEqProofs only [f53_b0, W0, W1, W2, W3, W4, W5, W6, W7, W8, St.put, Option.bind_some, Option.map_some, ↓reduceIte, Nat.reduceEqDiff, Nat.reduceAdd, Nat.reduceMul, reduceCtorEq, cond_true, cond_false, Int.reduceEq, Int.reduceLT, Int.reduceLE, if_true, if_false, h7, h8, h9, h3, hlt, kid_at hd, hs, callK_all (ih k List.mem_cons_self), w1, w2]
    have hq : acc + Pr.nodesL (k :: r) = (acc + k.nodes) + Pr.nodesL r := by omega
    rw [hq]
    refine f53_loop p r (i + 1) (acc + k.nodes) _ hd' (by omega) (by simp only [List.length_cons] at hb; omega) (by omega) (fun k' hk => ih k' (List.mem_cons_of_mem _ hk)) ?_ ?_ ?_ ?_ ?_
    all_goals simp -implicitDefEqProofs only [W0, W1, W2, W3, W4, W5, W6, W7, W8, St.put, Option.bind_some, Option.map_some, ↓reduceIte, Nat.reduceEqDiff, Nat.reduceAdd, Nat.reduceMul, reduceCtorEq, cond_true, cond_false, Int.reduceEq, Int.reduceLT, Int.reduceLE, if_true, if_false, h7, h8, hf]

mutual
theorem nodes_call53 : ∀ (p : Pr), p.nodes < 2 ^ 61 → ∀ h, RunCall E1 (.f 53) [p.av] h (.val (.int .i64 p.nodes)) h
  | .mk o nm n ks nl cap, hb, h => by
    have hb' : 1 + Pr.nodesL ks < 2 ^ 61 := hb
    have hk : ks.length ≤ Pr.nodesL ks := nodesL_len ks
    refine call_tree (by kernel_rfl) (by kernel_rfl) (mem1 (Tree.pr _)) rfl (Tree.val _) (ans1 f53_ok ?_) h
    have h0 : (enterTm [(Pr.mk o nm n ks nl cap).av] 0 .nil).get 0 = some (Pr.mk o nm n ks nl cap).av := rfl
    simp -implicitDefEqProofs only [f53_fn, f53, W0, W1, W2, W3, W4, W5, W6, W7, W8, St.put, Option.bind_some, Option.map_some, ↓reduceIte, Nat.reduceEqDiff, Nat.reduceAdd, Nat.reduceMul, reduceCtorEq, cond_true, cond_false, Int.reduceEq, Int.reduceLT, Int.reduceLE, if_true, if_false, enter_t h0]
    refine (f53_loop (.mk o nm n ks nl cap) ks 0 1 _ rfl (Nat.zero_le _) (by omega) (by omega) (fun k hk => nodesL_call53 ks (by omega) k hk) ?_ ?_ ?_ ?_ ?_).mono ?_
    · simp -implicitDefEqProofs only [W0, W1, W2, W3, W4, W5, W6, W7, W8, St.put, Option.bind_some, Option.map_some, ↓reduceIte, Nat.reduceEqDiff, Nat.reduceAdd, Nat.reduceMul, reduceCtorEq, cond_true, cond_false, Int.reduceEq, Int.reduceLT, Int.reduceLE, if_true, if_false]
    · simp -implicitDefEqProofs only [W0, W1, W2, W3, W4, W5, W6, W7, W8, St.put, Option.bind_some, Option.map_some, ↓reduceIte, Nat.reduceEqDiff, Nat.reduceAdd, Nat.reduceMul, reduceCtorEq, cond_true, cond_false, Int.reduceEq, Int.reduceLT, Int.reduceLE, if_true, if_false] <;> rfl
    · simp -implicitDefEqProofs only [W0, W1, W2, W3, W4, W5, W6, W7, W8, St.put, Option.bind_some, Option.map_some, ↓reduceIte, Nat.reduceEqDiff, Nat.reduceAdd, Nat.reduceMul, reduceCtorEq, cond_true, cond_false, Int.reduceEq, Int.reduceLT, Int.reduceLE, if_true, if_false] <;> rfl
    · simp -implicitDefEqProofs only [W0, W1, W2, W3, W4, W5, W6, W7, W8, St.put, Option.bind_some, Option.map_some, ↓reduceIte, Nat.reduceEqDiff, Nat.reduceAdd, Nat.reduceMul, reduceCtorEq, cond_true, cond_false, Int.reduceEq, Int.reduceLT, Int.reduceLE, if_true, if_false] <;> rfl
    · simp -implicitDefEqProofs only [W0, W1, W2, W3, W4, W5, W6, W7, W8, St.put, Option.bind_some, Option.map_some, ↓reduceIte, Nat.reduceEqDiff, Nat.reduceAdd, Nat.reduceMul, reduceCtorEq, cond_true, cond_false, Int.reduceEq, Int.reduceLT, Int.reduceLE, if_true, if_false]
    · rintro e s' ⟨rfl, h3, hf⟩
      have : Nat.beq 0 0 = true := rfl
      simp -implicitDefEqProofs only [W0, W1, W2, W3, W4, W5, W6, W7, W8, St.put, Option.bind_some, Option.map_some, ↓reduceIte, Nat.reduceEqDiff, Nat.reduceAdd, Nat.reduceMul, reduceCtorEq, cond_true, cond_false, Int.reduceEq, Int.reduceLT, Int.reduceLE, if_true, if_false, this, h3, hf] <;> rfl
theorem nodesL_call53 : ∀ (l : List Pr), Pr.nodesL l < 2 ^ 61 → ∀ k ∈ l, ∀ h, RunCall E1 (.f 53) [k.av] h (.val (.int .i64 k.nodes)) h
  | [], _, k, hk, _ => by cases hk
  | a :: r, hb, k, hk, h => by
    have hb' : a.nodes + Pr.nodesL r < 2 ^ 61 := hb
    rcases List.mem_cons.1 hk with e | hk
    · rw [e]; exact nodes_call53 a (by omega) h
    · exact nodesL_call53 r (by omega) k hk h
end

end Go.Proofs.YtbolilekjpoicaaGreatDoor

namespace Go.Proofs.YtbolilekjpoicaaGreatDoor
open Go Go.AM
set_option linter.all false

mutual
def Pr.depth : Pr → Nat
  | .mk _ _ _ ks _ _ => Pr.depthL ks + 1
def Pr.depthL : List Pr → Nat
  | [] => 0
  | k :: r => max k.depth (Pr.depthL r)
end
mutual
theorem depth_nodes : ∀ p : Pr, p.depth ≤ p.nodes
  | .mk _ _ _ ks _ _ => by
    have := depthL_nodes ks
    simp only [Pr.depth, Pr.nodes]
    omega
theorem depthL_nodes : ∀ l : List Pr, Pr.depthL l ≤ Pr.nodesL l
  | [] => Nat.le_refl _
  | k :: r => by
    have := depth_nodes k
    have := depthL_nodes r
    simp only [Pr.depthL, Pr.nodesL]
    omega
end

theorem f54_loop {E : Env} (p : Pr) : ∀ (r : List Pr) (i acc : Nat) (s : St), p.ks.drop i = r → i ≤ p.ks.length → i + r.length + 2 < 2 ^ 62 →
    (∀ k ∈ r, ∀ h, RunCall E (.f 54) [k.av] h (.val (.int .i64 k.depth)) h) →
    s.eval (.t 7) = some p.kids → s.eval (.t 8) = some (.val (.int .i64 (p.ks.length : Nat))) → s.eval (.t 9) = some (.val (.int .i64 i)) → s.eval (.t 3) = some (.val (.int .i64 acc)) → s.defers = [] →
    Run E f54_l0 s fun e s' => e = .exit 0 ∧ s'.eval (.t 3) = some (.val (.int .i64 (max acc (Pr.depthL r) : Nat))) ∧ s'.defers = []
  | [], i, acc, s, hd, hi, hb, ih, h7, h8, h9, h3, hf => by
    have hl : i = p.ks.length := by
      have := List.drop_eq_nil_iff.1 hd
      omega
    subst hl
    have hlt : decide (((p.ks.length : Nat) : Int) < (p.ks.length : Nat)) = false := by simp
    apply loop_of (rfl : f54_l0 = .loop f54_b0)
    simp -implicitDefEqProofs only [f54_b0, W0, W1, W2, W3, W4, W5, W6, W7, W8, St.put, Option.bind_some, Option.map_some, ↓reduceIte, Nat.reduceEqDiff, Nat.reduceAdd, Nat.reduceMul, reduceCtorEq, cond_true, cond_false, Int.reduceEq, Int.reduceLT, Int.reduceLE, if_true, if_false, h7, h8, h9, h3, hf, hlt, Pr.depthL, Nat.max_zero]
  | k :: r, i, acc, s, hd, hi, hb, ih, h7, h8, h9, h3, hf => by
    have hl : i < p.ks.length := by
      rcases Nat.lt_or_ge i p.ks.length with x | x
      · exact x
      · rw [List.drop_eq_nil_of_le x] at hd; cases hd
    have hlt : decide ((i : Int) < (p.ks.length : Nat)) = true := by simp; omega
    have hd' : p.ks.drop (i + 1) = r := by rw [← List.drop_drop, hd]; rfl
    have hs : ∀ h : AH, storeH (h.alloc (.cells [.val (.int .i64 0), .val (.string ⟨#[]⟩), .val (.int .i64 0), .val (.slice none 0 0)] true)) 4 (.ptr h.next 0) k.cells = _ := fun h => store_new rfl k.len
    have w1 : IntKind.i64.wrap ((i : Int) + 1) = ((i + 1 : Nat) : Int) := wrap_nat (n := i + 1) (by simp only [List.length_cons] at hb; omega)
    apply loop_of (rfl : f54_l0 = .loop f54_b0)
    simp -implicitDefEqProofs only [f54_b0, W0, W1, W2, W3, W4, W5, W6, W7, W8, St.put, Option.bind_some, Option.map_some, ↓reduceIte, Nat.reduceEqDiff, Nat.reduceAdd, Nat.reduceMul, reduceCtorEq, cond_true, cond_false, Int.reduceEq, Int.reduceLT, Int.reduceLE, if_true, if_false, h7, h8, h9, h3, hlt, kid_at hd, hs, callK_all (ih k List.mem_cons_self), w1]
    have hq : max acc (Pr.depthL (k :: r)) = max (max acc k.depth) (Pr.depthL r) := by
      have : Pr.depthL (k :: r) = max k.depth (Pr.depthL r) := rfl
      omega
    rw [hq]
    refine f54_loop p r (i + 1) (max acc k.depth) _ hd' (by omega) (by simp only [List.length_cons] at hb; omega) (fun k' hk => ih k' (List.mem_cons_of_mem _ hk)) ?_ ?_ ?_ ?_ ?_
    all_goals simp -implicitDefEqProofs only [W0, W1, W2, W3, W4, W5, W6, W7, W8, St.put, Option.bind_some, Option.map_some, ↓reduceIte, Nat.reduceEqDiff, Nat.reduceAdd, Nat.reduceMul, reduceCtorEq, cond_true, cond_false, Int.reduceEq, Int.reduceLT, Int.reduceLE, if_true, if_false, h7, h8, hf]

mutual
theorem depth_call54 : ∀ (p : Pr), p.nodes < 2 ^ 61 → ∀ h, RunCall E1 (.f 54) [p.av] h (.val (.int .i64 p.depth)) h
  | .mk o nm n ks nl cap, hb, h => by
    have hb' : 1 + Pr.nodesL ks < 2 ^ 61 := hb
    have hk : ks.length ≤ Pr.nodesL ks := nodesL_len ks
    have hd : Pr.depthL ks ≤ Pr.nodesL ks := depthL_nodes ks
    have w1 : IntKind.i64.wrap (((max 0 (Pr.depthL ks) : Nat) : Int) + 1) = (((Pr.mk o nm n ks nl cap).depth : Nat) : Int) := by
      rw [Nat.zero_max]
      exact wrap_nat (n := Pr.depthL ks + 1) (by omega)
    refine call_tree (by kernel_rfl) (by kernel_rfl) (mem1 (Tree.pr _)) rfl (Tree.val _) (ans1 f54_ok ?_) h
    have h0 : (enterTm [(Pr.mk o nm n ks nl cap).av] 0 .nil).get 0 = some (Pr.mk o nm n ks nl cap).av := rfl
    simp -implicitDefEqProofs only [f54_fn, f54, W0, W1, W2, W3, W4, W5, W6, W7, W8, St.put, Option.bind_some, Option.map_some, ↓reduceIte, Nat.reduceEqDiff, Nat.reduceAdd, Nat.reduceMul, reduceCtorEq, cond_true, cond_false, Int.reduceEq, Int.reduceLT, Int.reduceLE, if_true, if_false, enter_t h0]
    refine (f54_loop (.mk o nm n ks nl cap) ks 0 0 _ rfl (Nat.zero_le _) (by omega) (fun k hk => depthL_call54 ks (by omega) k hk) ?_ ?_ ?_ ?_ ?_).mono ?_
    · simp -implicitDefEqProofs only [W0, W1, W2, W3, W4, W5, W6, W7, W8, St.put, Option.bind_some, Option.map_some, ↓reduceIte, Nat.reduceEqDiff, Nat.reduceAdd, Nat.reduceMul, reduceCtorEq, cond_true, cond_false, Int.reduceEq, Int.reduceLT, Int.reduceLE, if_true, if_false]
    · simp -implicitDefEqProofs only [W0, W1, W2, W3, W4, W5, W6, W7, W8, St.put, Option.bind_some, Option.map_some, ↓reduceIte, Nat.reduceEqDiff, Nat.reduceAdd, Nat.reduceMul, reduceCtorEq, cond_true, cond_false, Int.reduceEq, Int.reduceLT, Int.reduceLE, if_true, if_false] <;> rfl
    · simp -implicitDefEqProofs only [W0, W1, W2, W3, W4, W5, W6, W7, W8, St.put, Option.bind_some, Option.map_some, ↓reduceIte, Nat.reduceEqDiff, Nat.reduceAdd, Nat.reduceMul, reduceCtorEq, cond_true, cond_false, Int.reduceEq, Int.reduceLT, Int.reduceLE, if_true, if_false] <;> rfl
    · simp -implicitDefEqProofs only [W0, W1, W2, W3, W4, W5, W6, W7, W8, St.put, Option.bind_some, Option.map_some, ↓reduceIte, Nat.reduceEqDiff, Nat.reduceAdd, Nat.reduceMul, reduceCtorEq, cond_true, cond_false, Int.reduceEq, Int.reduceLT, Int.reduceLE, if_true, if_false] <;> rfl
    · simp -implicitDefEqProofs only [W0, W1, W2, W3, W4, W5, W6, W7, W8, St.put, Option.bind_some, Option.map_some, ↓reduceIte, Nat.reduceEqDiff, Nat.reduceAdd, Nat.reduceMul, reduceCtorEq, cond_true, cond_false, Int.reduceEq, Int.reduceLT, Int.reduceLE, if_true, if_false]
    · rintro e s' ⟨rfl, h3, hf⟩
      have : Nat.beq 0 0 = true := rfl
      simp -implicitDefEqProofs only [W0, W1, W2, W3, W4, W5, W6, W7, W8, St.put, Option.bind_some, Option.map_some, ↓reduceIte, Nat.reduceEqDiff, Nat.reduceAdd, Nat.reduceMul, reduceCtorEq, cond_true, cond_false, Int.reduceEq, Int.reduceLT, Int.reduceLE, if_true, if_false, this, h3, hf, w1] <;> rfl
theorem depthL_call54 : ∀ (l : List Pr), Pr.nodesL l < 2 ^ 61 → ∀ k ∈ l, ∀ h, RunCall E1 (.f 54) [k.av] h (.val (.int .i64 k.depth)) h
  | [], _, k, hk, _ => by cases hk
  | a :: r, hb, k, hk, h => by
    have hb' : a.nodes + Pr.nodesL r < 2 ^ 61 := hb
    rcases List.mem_cons.1 hk with e | hk
    · rw [e]; exact depth_call54 a (by omega) h
    · exact depthL_call54 r (by omega) k hk h
end
theorem f63_loop {E : Env} (p : Pr) : ∀ (r : List Pr) (i acc : Nat) (s : St), p.ks.drop i = r → i ≤ p.ks.length → i + r.length + 2 < 2 ^ 62 →
    (∀ k ∈ r, ∀ h, RunCall E (.f 63) [k.av] h (.val (.int .i64 k.depth)) h) →
    s.eval (.t 7) = some p.kids → s.eval (.t 8) = some (.val (.int .i64 (p.ks.length : Nat))) → s.eval (.t 9) = some (.val (.int .i64 i)) → s.eval (.t 3) = some (.val (.int .i64 acc)) → s.defers = [] →
    Run E f63_l0 s fun e s' => e = .exit 0 ∧ s'.eval (.t 3) = some (.val (.int .i64 (max acc (Pr.depthL r) : Nat))) ∧ s'.defers = []
  | [], i, acc, s, hd, hi, hb, ih, h7, h8, h9, h3, hf => by
    have hl : i = p.ks.length := by
      have := List.drop_eq_nil_iff.1 hd
      omega
    subst hl
    have hlt : decide (((p.ks.length : Nat) : Int) < (p.ks.length : Nat)) = false := by simp
    apply loop_of (rfl : f63_l0 = .loop f63_b0)
    simp -implicitDefEqProofs only [f63_b0, W0, W1, W2, W3, W4, W5, W6, W7, W8, St.put, Option.bind_some, Option.map_some, ↓reduceIte, Nat.reduceEqDiff, Nat.reduceAdd, Nat.reduceMul, reduceCtorEq, cond_true, cond_false, Int.reduceEq, Int.reduceLT, Int.reduceLE, if_true, if_false, h7, h8, h9, h3, hf, hlt, Pr.depthL, Nat.max_zero]
  | k :: r, i, acc, s, hd, hi, hb, ih, h7, h8, h9, h3, hf => by
    have hl : i < p.ks.length := by
      rcases Nat.lt_or_ge i p.ks.length with x | x
      · exact x
      · rw [List.drop_eq_nil_of_le x] at hd; cases hd
    have hlt : decide ((i : Int) < (p.ks.length : Nat)) = true := by simp; omega
    have hd' : p.ks.drop (i + 1) = r := by rw [← List.drop_drop, hd]; rfl
    have hs : ∀ h : AH, storeH (h.alloc (.cells [.val (.int .i64 0), .val (.string ⟨#[]⟩), .val (.int .i64 0), .val (.slice none 0 0)] true)) 4 (.ptr h.next 0) k.cells = _ := fun h => store_new rfl k.len
    have w1 : IntKind.i64.wrap ((i : Int) + 1) = ((i + 1 : Nat) : Int) := wrap_nat (n := i + 1) (by simp only [List.length_cons] at hb; omega)
    apply loop_of (rfl : f63_l0 = .loop f63_b0)
    simp -implicitDefEqProofs only [f63_b0, W0, W1, W2, W3, W4, W5, W6, W7, W8, St.put, Option.bind_some, Option.map_some, ↓reduceIte, Nat.reduceEqDiff, Nat.reduceAdd, Nat.reduceMul, reduceCtorEq, cond_true, cond_false, Int.reduceEq, Int.reduceLT, Int.reduceLE, if_true, if_false, h7, h8, h9, h3, hlt, kid_at hd, hs, callK_all (ih k List.mem_cons_self), w1]
    have hq : max acc (Pr.depthL (k :: r)) = max (max acc k.depth) (Pr.depthL r) := by
      have : Pr.depthL (k :: r) = max k.depth (Pr.depthL r) := rfl
      omega
    rw [hq]
    refine f63_loop p r (i + 1) (max acc k.depth) _ hd' (by omega) (by simp only [List.length_cons] at hb; omega) (fun k' hk => ih k' (List.mem_cons_of_mem _ hk)) ?_ ?_ ?_ ?_ ?_
    all_goals simp -implicitDefEqProofs only [W0, W1, W2, W3, W4, W5, W6, W7, W8, St.put, Option.bind_some, Option.map_some, ↓reduceIte, Nat.reduceEqDiff, Nat.reduceAdd, Nat.reduceMul, reduceCtorEq, cond_true, cond_false, Int.reduceEq, Int.reduceLT, Int.reduceLE, if_true, if_false, h7, h8, hf]

mutual
theorem depth_call63 : ∀ (p : Pr), p.nodes < 2 ^ 61 → ∀ h, RunCall E1 (.f 63) [p.av] h (.val (.int .i64 p.depth)) h
  | .mk o nm n ks nl cap, hb, h => by
    have hb' : 1 + Pr.nodesL ks < 2 ^ 61 := hb
    have hk : ks.length ≤ Pr.nodesL ks := nodesL_len ks
    have hd : Pr.depthL ks ≤ Pr.nodesL ks := depthL_nodes ks
    have w1 : IntKind.i64.wrap (((max 0 (Pr.depthL ks) : Nat) : Int) + 1) = (((Pr.mk o nm n ks nl cap).depth : Nat) : Int) := by
      rw [Nat.zero_max]
      exact wrap_nat (n := Pr.depthL ks + 1) (by omega)
    refine call_tree (by kernel_rfl) (by kernel_rfl) (mem1 (Tree.pr _)) rfl (Tree.val _) (ans1 f63_ok ?_) h
    have h0 : (enterTm [(Pr.mk o nm n ks nl cap).av] 0 .nil).get 0 = some (Pr.mk o nm n ks nl cap).av := rfl
    simp -implicitDefEqProofs only [f63_fn, f63, W0, W1, W2, W3, W4, W5, W6, W7, W8, St.put, Option.bind_some, Option.map_some, ↓reduceIte, Nat.reduceEqDiff, Nat.reduceAdd, Nat.reduceMul, reduceCtorEq, cond_true, cond_false, Int.reduceEq, Int.reduceLT, Int.reduceLE, if_true, if_false, enter_t h0]
    refine (f63_loop (.mk o nm n ks nl cap) ks 0 0 _ rfl (Nat.zero_le _) (by omega) (fun k hk => depthL_call63 ks (by omega) k hk) ?_ ?_ ?_ ?_ ?_).mono ?_
    · simp -implicitDefEqProofs only [W0, W1, W2, W3, W4, W5, W6, W7, W8, St.put, Option.bind_some, Option.map_some, ↓reduceIte, Nat.reduceEqDiff, Nat.reduceAdd, Nat.reduceMul, reduceCtorEq, cond_true, cond_false, Int.reduceEq, Int.reduceLT, Int.reduceLE, if_true, if_false]
    · simp -implicitDefEqProofs only [W0, W1, W2, W3, W4, W5, W6, W7, W8, St.put, Option.bind_some, Option.map_some, ↓reduceIte, Nat.reduceEqDiff, Nat.reduceAdd, Nat.reduceMul, reduceCtorEq, cond_true, cond_false, Int.reduceEq, Int.reduceLT, Int.reduceLE, if_true, if_false] <;> rfl
    · simp -implicitDefEqProofs only [W0, W1, W2, W3, W4, W5, W6, W7, W8, St.put, Option.bind_some, Option.map_some, ↓reduceIte, Nat.reduceEqDiff, Nat.reduceAdd, Nat.reduceMul, reduceCtorEq, cond_true, cond_false, Int.reduceEq, Int.reduceLT, Int.reduceLE, if_true, if_false] <;> rfl
    · simp -implicitDefEqProofs only [W0, W1, W2, W3, W4, W5, W6, W7, W8, St.put, Option.bind_some, Option.map_some, ↓reduceIte, Nat.reduceEqDiff, Nat.reduceAdd, Nat.reduceMul, reduceCtorEq, cond_true, cond_false, Int.reduceEq, Int.reduceLT, Int.reduceLE, if_true, if_false] <;> rfl
    · simp -implicitDefEqProofs only [W0, W1, W2, W3, W4, W5, W6, W7, W8, St.put, Option.bind_some, Option.map_some, ↓reduceIte, Nat.reduceEqDiff, Nat.reduceAdd, Nat.reduceMul, reduceCtorEq, cond_true, cond_false, Int.reduceEq, Int.reduceLT, Int.reduceLE, if_true, if_false]
    · rintro e s' ⟨rfl, h3, hf⟩
      have : Nat.beq 0 0 = true := rfl
      simp -implicitDefEqProofs only [W0, W1, W2, W3, W4, W5, W6, W7, W8, St.put, Option.bind_some, Option.map_some, ↓reduceIte, Nat.reduceEqDiff, Nat.reduceAdd, Nat.reduceMul, reduceCtorEq, cond_true, cond_false, Int.reduceEq, Int.reduceLT, Int.reduceLE, if_true, if_false, this, h3, hf, w1] <;> rfl
theorem depthL_call63 : ∀ (l : List Pr), Pr.nodesL l < 2 ^ 61 → ∀ k ∈ l, ∀ h, RunCall E1 (.f 63) [k.av] h (.val (.int .i64 k.depth)) h
  | [], _, k, hk, _ => by cases hk
  | a :: r, hb, k, hk, h => by
    have hb' : a.nodes + Pr.nodesL r < 2 ^ 61 := hb
    rcases List.mem_cons.1 hk with e | hk
    · rw [e]; exact depth_call63 a (by omega) h
    · exact depthL_call63 r (by omega) k hk h
end

end Go.Proofs.YtbolilekjpoicaaGreatDoor

namespace Go.Proofs.YtbolilekjpoicaaGreatDoor
open Go Go.AM
set_option linter.all false

/-- In bounds. -/
def inB (n : Int) : Bool := decide (-1000000000000 ≤ n) && decide (n ≤ 1000000000000)
theorem inB_iff {n : Int} : inB n = true ↔ -1000000000000 ≤ n ∧ n ≤ 1000000000000 := by
  simp only [inB, Bool.and_eq_true, decide_eq_true_eq]

/-- A number and whether there is one. -/
def prA (x : Int × Bool) : AV := .tup [.val (.int .i64 x.1), .val (.bool x.2)]
def okP (n : Int) (b : Bool) : Int × Bool := bif b && inB n then (n, true) else (0, false)
def arith (a b c : Int) : Int × Bool := bif inB a && inB b then okP c true else (0, false)
def tr (b : Bool) : Int := bif b then 1 else 0

theorem in_call58 (n : Int) (h : AH) : RunCall E1 (.f 58) [.val (.int .i64 n)] h (.val (.bool (inB n))) h := by
  refine call_tree (by kernel_rfl) (by kernel_rfl) (mem1 (Tree.val _)) rfl (Tree.val _) (ans1 f58_ok ?_) h
  have h0 : (enterTm [.val (.int .i64 n)] 0 .nil).get 0 = some (.val (.int .i64 n)) := rfl
  unfold inB
  by_cases a : -1000000000000 ≤ n <;> by_cases b : n ≤ 1000000000000 <;> simp -implicitDefEqProofs only [f58_fn, f58, W0, W1, W2, W3, W4, W5, W6, W7, W8, St.put, Option.bind_some, Option.map_some, ↓reduceIte, Nat.reduceEqDiff, Nat.reduceAdd, Nat.reduceMul, reduceCtorEq, cond_true, cond_false, Int.reduceEq, Int.reduceLT, Int.reduceLE, if_true, if_false, enter_t h0, a, b]
theorem in_to58 {n : Int} {r : List AOper} {s : St} {dst : Option Nat} {K : St → Prop} : callK E1 58 r s dst K (some [.val (.int .i64 n)]) = AM.wpOps E1 r (s.put dst (.val (.bool (inB n)))) K := callK_all (in_call58 n)
theorem in_call102 (n : Int) (h : AH) : RunCall E1 (.f 102) [.val (.int .i64 n)] h (.val (.bool (inB n))) h := by
  refine call_tree (by kernel_rfl) (by kernel_rfl) (mem1 (Tree.val _)) rfl (Tree.val _) (ans1 f102_ok ?_) h
  have h0 : (enterTm [.val (.int .i64 n)] 0 .nil).get 0 = some (.val (.int .i64 n)) := rfl
  unfold inB
  by_cases a : -1000000000000 ≤ n <;> by_cases b : n ≤ 1000000000000 <;> simp -implicitDefEqProofs only [f102_fn, f102, W0, W1, W2, W3, W4, W5, W6, W7, W8, St.put, Option.bind_some, Option.map_some, ↓reduceIte, Nat.reduceEqDiff, Nat.reduceAdd, Nat.reduceMul, reduceCtorEq, cond_true, cond_false, Int.reduceEq, Int.reduceLT, Int.reduceLE, if_true, if_false, enter_t h0, a, b]
theorem in_to102 {n : Int} {r : List AOper} {s : St} {dst : Option Nat} {K : St → Prop} : callK E1 102 r s dst K (some [.val (.int .i64 n)]) = AM.wpOps E1 r (s.put dst (.val (.bool (inB n)))) K := callK_all (in_call102 n)

theorem ok_call98 (n : Int) (b : Bool) (h : AH) : RunCall E1 (.f 98) [.val (.int .i64 n), .val (.bool b)] h (prA (okP n b)) h := by
  refine call_tree (by kernel_rfl) (by kernel_rfl) (mem2 (Tree.val _) (Tree.val _)) rfl (Tree.two _ _) (ans2 (rs := [.val (.int .i64 (okP n b).1), .val (.bool (okP n b).2)]) f98_ok ?_) h
  have h0 : (enterTm [.val (.int .i64 n), .val (.bool b)] 0 .nil).get 0 = some (.val (.int .i64 n)) := rfl
  have h1 : (enterTm [.val (.int .i64 n), .val (.bool b)] 0 .nil).get 1 = some (.val (.bool b)) := rfl
  cases b <;> cases a : inB n <;> simp -implicitDefEqProofs only [f98_fn, f98, W0, W1, W2, W3, W4, W5, W6, W7, W8, St.put, Option.bind_some, Option.map_some, ↓reduceIte, Nat.reduceEqDiff, Nat.reduceAdd, Nat.reduceMul, reduceCtorEq, cond_true, cond_false, Int.reduceEq, Int.reduceLT, Int.reduceLE, if_true, if_false, enter_t h0, enter_t h1, in_to58, a, okP]
theorem ok_to98 {n : Int} {b : Bool} {r : List AOper} {s : St} {dst : Option Nat} {K : St → Prop} : callK E1 98 r s dst K (some [.val (.int .i64 n), .val (.bool b)]) = AM.wpOps E1 r (s.put dst (prA (okP n b))) K := callK_all (ok_call98 n b)
theorem ok_call153 (n : Int) (b : Bool) (h : AH) : RunCall E1 (.f 153) [.val (.int .i64 n), .val (.bool b)] h (prA (okP n b)) h := by
  refine call_tree (by kernel_rfl) (by kernel_rfl) (mem2 (Tree.val _) (Tree.val _)) rfl (Tree.two _ _) (ans2 (rs := [.val (.int .i64 (okP n b).1), .val (.bool (okP n b).2)]) f153_ok ?_) h
  have h0 : (enterTm [.val (.int .i64 n), .val (.bool b)] 0 .nil).get 0 = some (.val (.int .i64 n)) := rfl
  have h1 : (enterTm [.val (.int .i64 n), .val (.bool b)] 0 .nil).get 1 = some (.val (.bool b)) := rfl
  cases b <;> cases a : inB n <;> simp -implicitDefEqProofs only [f153_fn, f153, W0, W1, W2, W3, W4, W5, W6, W7, W8, St.put, Option.bind_some, Option.map_some, ↓reduceIte, Nat.reduceEqDiff, Nat.reduceAdd, Nat.reduceMul, reduceCtorEq, cond_true, cond_false, Int.reduceEq, Int.reduceLT, Int.reduceLE, if_true, if_false, enter_t h0, enter_t h1, in_to102, a, okP]
theorem ok_to153 {n : Int} {b : Bool} {r : List AOper} {s : St} {dst : Option Nat} {K : St → Prop} : callK E1 153 r s dst K (some [.val (.int .i64 n), .val (.bool b)]) = AM.wpOps E1 r (s.put dst (prA (okP n b))) K := callK_all (ok_call153 n b)

theorem wrapB {n : Int} (h1 : -4000000000000 ≤ n) (h2 : n ≤ 4000000000000) : IntKind.i64.wrap n = n := IntWalk.i64_in _ (by omega)
theorem okP_f {n : Int} : okP n false = (0, false) := rfl
theorem okP_t {n : Int} : okP n true = (bif inB n then (n, true) else (0, false)) := by simp only [okP, Bool.true_and]

theorem ar_call99 (a b : Int) (h : AH) : RunCall E1 (.f 99) [.val (.int .i64 a), .val (.int .i64 b)] h (prA (arith a b (a + b))) h := by
  refine call_tree (by kernel_rfl) (by kernel_rfl) (mem2 (Tree.val _) (Tree.val _)) rfl (Tree.two _ _) (ans2 (rs := [.val (.int .i64 (arith a b (a + b)).1), .val (.bool (arith a b (a + b)).2)]) f99_ok ?_) h
  have h0 : (enterTm [.val (.int .i64 a), .val (.int .i64 b)] 0 .nil).get 0 = some (.val (.int .i64 a)) := rfl
  have h1 : (enterTm [.val (.int .i64 a), .val (.int .i64 b)] 0 .nil).get 1 = some (.val (.int .i64 b)) := rfl
  obtain ⟨W, hW⟩ : ∃ W, IntKind.i64.wrap (a + b) = W := ⟨_, rfl⟩
  obtain ⟨R, hR⟩ : ∃ R, a + b = R := ⟨_, rfl⟩
  simp only [hR]
  rw [hR] at hW
  cases x : inB a with
  | false => simp -implicitDefEqProofs only [f99_fn, f99, W0, W1, W2, W3, W4, W5, W6, W7, W8, St.put, Option.bind_some, Option.map_some, ↓reduceIte, Nat.reduceEqDiff, Nat.reduceAdd, Nat.reduceMul, reduceCtorEq, cond_true, cond_false, Int.reduceEq, Int.reduceLT, Int.reduceLE, if_true, if_false, enter_t h0, enter_t h1, in_to58, ok_to98, x, hR, hW, prA, okP_f, arith]
  | true => cases y : inB b with
    | false => simp -implicitDefEqProofs only [f99_fn, f99, W0, W1, W2, W3, W4, W5, W6, W7, W8, St.put, Option.bind_some, Option.map_some, ↓reduceIte, Nat.reduceEqDiff, Nat.reduceAdd, Nat.reduceMul, reduceCtorEq, cond_true, cond_false, Int.reduceEq, Int.reduceLT, Int.reduceLE, if_true, if_false, enter_t h0, enter_t h1, in_to58, ok_to98, x, y, hR, hW, prA, okP_f, arith]
    | true =>
      have w : W = R := by
        rw [← hW]
        exact wrapB (by have := inB_iff.1 x; have := inB_iff.1 y; omega) (by have := inB_iff.1 x; have := inB_iff.1 y; omega)
      subst w
      simp -implicitDefEqProofs only [f99_fn, f99, W0, W1, W2, W3, W4, W5, W6, W7, W8, St.put, Option.bind_some, Option.map_some, ↓reduceIte, Nat.reduceEqDiff, Nat.reduceAdd, Nat.reduceMul, reduceCtorEq, cond_true, cond_false, Int.reduceEq, Int.reduceLT, Int.reduceLE, if_true, if_false, enter_t h0, enter_t h1, in_to58, ok_to98, x, y, hR, hW, prA, arith]
theorem ar_to99 {a b : Int} {r : List AOper} {s : St} {dst : Option Nat} {K : St → Prop} : callK E1 99 r s dst K (some [.val (.int .i64 a), .val (.int .i64 b)]) = AM.wpOps E1 r (s.put dst (prA (arith a b (a + b)))) K := callK_all (ar_call99 a b)
theorem ar_call60 (a b : Int) (h : AH) : RunCall E1 (.f 60) [.val (.int .i64 a), .val (.int .i64 b)] h (prA (arith a b (a - b))) h := by
  refine call_tree (by kernel_rfl) (by kernel_rfl) (mem2 (Tree.val _) (Tree.val _)) rfl (Tree.two _ _) (ans2 (rs := [.val (.int .i64 (arith a b (a - b)).1), .val (.bool (arith a b (a - b)).2)]) f60_ok ?_) h
  have h0 : (enterTm [.val (.int .i64 a), .val (.int .i64 b)] 0 .nil).get 0 = some (.val (.int .i64 a)) := rfl
  have h1 : (enterTm [.val (.int .i64 a), .val (.int .i64 b)] 0 .nil).get 1 = some (.val (.int .i64 b)) := rfl
  obtain ⟨W, hW⟩ : ∃ W, IntKind.i64.wrap (a - b) = W := ⟨_, rfl⟩
  obtain ⟨R, hR⟩ : ∃ R, a - b = R := ⟨_, rfl⟩
  simp only [hR]
  rw [hR] at hW
  cases x : inB a with
  | false => simp -implicitDefEqProofs only [f60_fn, f60, W0, W1, W2, W3, W4, W5, W6, W7, W8, St.put, Option.bind_some, Option.map_some, ↓reduceIte, Nat.reduceEqDiff, Nat.reduceAdd, Nat.reduceMul, reduceCtorEq, cond_true, cond_false, Int.reduceEq, Int.reduceLT, Int.reduceLE, if_true, if_false, enter_t h0, enter_t h1, in_to58, ok_to98, x, hR, hW, prA, okP_f, arith]
  | true => cases y : inB b with
    | false => simp -implicitDefEqProofs only [f60_fn, f60, W0, W1, W2, W3, W4, W5, W6, W7, W8, St.put, Option.bind_some, Option.map_some, ↓reduceIte, Nat.reduceEqDiff, Nat.reduceAdd, Nat.reduceMul, reduceCtorEq, cond_true, cond_false, Int.reduceEq, Int.reduceLT, Int.reduceLE, if_true, if_false, enter_t h0, enter_t h1, in_to58, ok_to98, x, y, hR, hW, prA, okP_f, arith]
    | true =>
      have w : W = R := by
        rw [← hW]
        exact wrapB (by have := inB_iff.1 x; have := inB_iff.1 y; omega) (by have := inB_iff.1 x; have := inB_iff.1 y; omega)
      subst w
      simp -implicitDefEqProofs only [f60_fn, f60, W0, W1, W2, W3, W4, W5, W6, W7, W8, St.put, Option.bind_some, Option.map_some, ↓reduceIte, Nat.reduceEqDiff, Nat.reduceAdd, Nat.reduceMul, reduceCtorEq, cond_true, cond_false, Int.reduceEq, Int.reduceLT, Int.reduceLE, if_true, if_false, enter_t h0, enter_t h1, in_to58, ok_to98, x, y, hR, hW, prA, arith]
theorem ar_to60 {a b : Int} {r : List AOper} {s : St} {dst : Option Nat} {K : St → Prop} : callK E1 60 r s dst K (some [.val (.int .i64 a), .val (.int .i64 b)]) = AM.wpOps E1 r (s.put dst (prA (arith a b (a - b)))) K := callK_all (ar_call60 a b)
theorem ar_call104 (a b : Int) (h : AH) : RunCall E1 (.f 104) [.val (.int .i64 a), .val (.int .i64 b)] h (prA (arith a b (a + b))) h := by
  refine call_tree (by kernel_rfl) (by kernel_rfl) (mem2 (Tree.val _) (Tree.val _)) rfl (Tree.two _ _) (ans2 (rs := [.val (.int .i64 (arith a b (a + b)).1), .val (.bool (arith a b (a + b)).2)]) f104_ok ?_) h
  have h0 : (enterTm [.val (.int .i64 a), .val (.int .i64 b)] 0 .nil).get 0 = some (.val (.int .i64 a)) := rfl
  have h1 : (enterTm [.val (.int .i64 a), .val (.int .i64 b)] 0 .nil).get 1 = some (.val (.int .i64 b)) := rfl
  obtain ⟨W, hW⟩ : ∃ W, IntKind.i64.wrap (a + b) = W := ⟨_, rfl⟩
  obtain ⟨R, hR⟩ : ∃ R, a + b = R := ⟨_, rfl⟩
  simp only [hR]
  rw [hR] at hW
  cases x : inB a with
  | false => simp -implicitDefEqProofs only [f104_fn, f104, W0, W1, W2, W3, W4, W5, W6, W7, W8, St.put, Option.bind_some, Option.map_some, ↓reduceIte, Nat.reduceEqDiff, Nat.reduceAdd, Nat.reduceMul, reduceCtorEq, cond_true, cond_false, Int.reduceEq, Int.reduceLT, Int.reduceLE, if_true, if_false, enter_t h0, enter_t h1, in_to102, ok_to153, x, hR, hW, prA, okP_f, arith]
  | true => cases y : inB b with
    | false => simp -implicitDefEqProofs only [f104_fn, f104, W0, W1, W2, W3, W4, W5, W6, W7, W8, St.put, Option.bind_some, Option.map_some, ↓reduceIte, Nat.reduceEqDiff, Nat.reduceAdd, Nat.reduceMul, reduceCtorEq, cond_true, cond_false, Int.reduceEq, Int.reduceLT, Int.reduceLE, if_true, if_false, enter_t h0, enter_t h1, in_to102, ok_to153, x, y, hR, hW, prA, okP_f, arith]
    | true =>
      have w : W = R := by
        rw [← hW]
        exact wrapB (by have := inB_iff.1 x; have := inB_iff.1 y; omega) (by have := inB_iff.1 x; have := inB_iff.1 y; omega)
      subst w
      simp -implicitDefEqProofs only [f104_fn, f104, W0, W1, W2, W3, W4, W5, W6, W7, W8, St.put, Option.bind_some, Option.map_some, ↓reduceIte, Nat.reduceEqDiff, Nat.reduceAdd, Nat.reduceMul, reduceCtorEq, cond_true, cond_false, Int.reduceEq, Int.reduceLT, Int.reduceLE, if_true, if_false, enter_t h0, enter_t h1, in_to102, ok_to153, x, y, hR, hW, prA, arith]
theorem ar_to104 {a b : Int} {r : List AOper} {s : St} {dst : Option Nat} {K : St → Prop} : callK E1 104 r s dst K (some [.val (.int .i64 a), .val (.int .i64 b)]) = AM.wpOps E1 r (s.put dst (prA (arith a b (a + b)))) K := callK_all (ar_call104 a b)
theorem ar_call105 (a b : Int) (h : AH) : RunCall E1 (.f 105) [.val (.int .i64 a), .val (.int .i64 b)] h (prA (arith a b (a - b))) h := by
  refine call_tree (by kernel_rfl) (by kernel_rfl) (mem2 (Tree.val _) (Tree.val _)) rfl (Tree.two _ _) (ans2 (rs := [.val (.int .i64 (arith a b (a - b)).1), .val (.bool (arith a b (a - b)).2)]) f105_ok ?_) h
  have h0 : (enterTm [.val (.int .i64 a), .val (.int .i64 b)] 0 .nil).get 0 = some (.val (.int .i64 a)) := rfl
  have h1 : (enterTm [.val (.int .i64 a), .val (.int .i64 b)] 0 .nil).get 1 = some (.val (.int .i64 b)) := rfl
  obtain ⟨W, hW⟩ : ∃ W, IntKind.i64.wrap (a - b) = W := ⟨_, rfl⟩
  obtain ⟨R, hR⟩ : ∃ R, a - b = R := ⟨_, rfl⟩
  simp only [hR]
  rw [hR] at hW
  cases x : inB a with
  | false => simp -implicitDefEqProofs only [f105_fn, f105, W0, W1, W2, W3, W4, W5, W6, W7, W8, St.put, Option.bind_some, Option.map_some, ↓reduceIte, Nat.reduceEqDiff, Nat.reduceAdd, Nat.reduceMul, reduceCtorEq, cond_true, cond_false, Int.reduceEq, Int.reduceLT, Int.reduceLE, if_true, if_false, enter_t h0, enter_t h1, in_to102, ok_to153, x, hR, hW, prA, okP_f, arith]
  | true => cases y : inB b with
    | false => simp -implicitDefEqProofs only [f105_fn, f105, W0, W1, W2, W3, W4, W5, W6, W7, W8, St.put, Option.bind_some, Option.map_some, ↓reduceIte, Nat.reduceEqDiff, Nat.reduceAdd, Nat.reduceMul, reduceCtorEq, cond_true, cond_false, Int.reduceEq, Int.reduceLT, Int.reduceLE, if_true, if_false, enter_t h0, enter_t h1, in_to102, ok_to153, x, y, hR, hW, prA, okP_f, arith]
    | true =>
      have w : W = R := by
        rw [← hW]
        exact wrapB (by have := inB_iff.1 x; have := inB_iff.1 y; omega) (by have := inB_iff.1 x; have := inB_iff.1 y; omega)
      subst w
      simp -implicitDefEqProofs only [f105_fn, f105, W0, W1, W2, W3, W4, W5, W6, W7, W8, St.put, Option.bind_some, Option.map_some, ↓reduceIte, Nat.reduceEqDiff, Nat.reduceAdd, Nat.reduceMul, reduceCtorEq, cond_true, cond_false, Int.reduceEq, Int.reduceLT, Int.reduceLE, if_true, if_false, enter_t h0, enter_t h1, in_to102, ok_to153, x, y, hR, hW, prA, arith]
theorem ar_to105 {a b : Int} {r : List AOper} {s : St} {dst : Option Nat} {K : St → Prop} : callK E1 105 r s dst K (some [.val (.int .i64 a), .val (.int .i64 b)]) = AM.wpOps E1 r (s.put dst (prA (arith a b (a - b)))) K := callK_all (ar_call105 a b)

theorem tr_call61 (b : Bool) (h : AH) : RunCall E1 (.f 61) [.val (.bool b)] h (.val (.int .i64 (tr b))) h := by
  refine call_tree (by kernel_rfl) (by kernel_rfl) (mem1 (Tree.val _)) rfl (Tree.val _) (ans1 f61_ok ?_) h
  have h0 : (enterTm [.val (.bool b)] 0 .nil).get 0 = some (.val (.bool b)) := rfl
  cases b <;> simp -implicitDefEqProofs only [f61_fn, f61, W0, W1, W2, W3, W4, W5, W6, W7, W8, St.put, Option.bind_some, Option.map_some, ↓reduceIte, Nat.reduceEqDiff, Nat.reduceAdd, Nat.reduceMul, reduceCtorEq, cond_true, cond_false, Int.reduceEq, Int.reduceLT, Int.reduceLE, if_true, if_false, enter_t h0, tr]
theorem tr_to61 {b : Bool} {r : List AOper} {s : St} {dst : Option Nat} {K : St → Prop} : callK E1 61 r s dst K (some [.val (.bool b)]) = AM.wpOps E1 r (s.put dst (.val (.int .i64 (tr b)))) K := callK_all (tr_call61 b)
theorem tr_call107 (b : Bool) (h : AH) : RunCall E1 (.f 107) [.val (.bool b)] h (prA (tr b, true)) h := by
  refine call_tree (by kernel_rfl) (by kernel_rfl) (mem1 (Tree.val _)) rfl (Tree.two _ _) (ans2 (rs := [.val (.int .i64 (tr b)), .val (.bool true)]) f107_ok ?_) h
  have h0 : (enterTm [.val (.bool b)] 0 .nil).get 0 = some (.val (.bool b)) := rfl
  cases b <;> simp -implicitDefEqProofs only [f107_fn, f107, W0, W1, W2, W3, W4, W5, W6, W7, W8, St.put, Option.bind_some, Option.map_some, ↓reduceIte, Nat.reduceEqDiff, Nat.reduceAdd, Nat.reduceMul, reduceCtorEq, cond_true, cond_false, Int.reduceEq, Int.reduceLT, Int.reduceLE, if_true, if_false, enter_t h0, tr]
theorem tr_to107 {b : Bool} {r : List AOper} {s : St} {dst : Option Nat} {K : St → Prop} : callK E1 107 r s dst K (some [.val (.bool b)]) = AM.wpOps E1 r (s.put dst (prA (tr b, true))) K := callK_all (tr_call107 b)

end Go.Proofs.YtbolilekjpoicaaGreatDoor

namespace Go.Proofs.YtbolilekjpoicaaGreatDoor
open Go Go.AM
set_option linter.all false
set_option maxHeartbeats 4000000

/-- The absolute value. -/
def ab (n : Int) : Int := if 0 ≤ n then n else 0 - n
theorem ab_nat (n : Int) : ab n = (n.natAbs : Int) := by
  unfold ab
  split <;> omega
theorem ab_mul (a b : Int) : ab (a * b) = ab a * ab b := by
  rw [ab_nat, ab_nat, ab_nat, Int.natAbs_mul, Int.natCast_mul]
theorem ab_in (n : Int) : inB n = true ↔ ab n ≤ 1000000000000 := by
  rw [inB_iff]
  unfold ab
  split <;> omega
theorem ab_pos {n : Int} (h : n ≠ 0) : 0 < ab n := by
  unfold ab
  split <;> omega
theorem mul_in {a b : Int} (h : a ≠ 0) : ab b ≤ 1000000000000 / ab a ↔ inB (a * b) = true := by
  rw [ab_in, ab_mul, Int.le_ediv_iff_mul_le (ab_pos h), Int.mul_comm]
theorem mul_in2 {a b : Int} (h : b ≠ 0) : ab a ≤ 1000000000000 / ab b ↔ inB (a * b) = true := by
  rw [mul_in h, Int.mul_comm]
theorem quo_w {n : Int} (h : n ≠ 0) (hn : inB n = true) : IntKind.i64.wrap (Int.tdiv 1000000000000 (ab n)) = 1000000000000 / ab n := by
  have hp := ab_pos h
  rw [Int.tdiv_eq_ediv_of_nonneg (by omega)]
  exact wrapB (by have := Int.ediv_nonneg (a := 1000000000000) (b := ab n) (by omega) (by omega); omega) (by have := Int.ediv_le_self (a := 1000000000000) (ab n) (by omega); omega)

theorem abs_call149 (n : Int) (hn : inB n = true) (h : AH) : RunCall E1 (.f 149) [.val (.int .i64 n)] h (.val (.int .i64 (ab n))) h := by
  refine call_tree (by kernel_rfl) (by kernel_rfl) (mem1 (Tree.val _)) rfl (Tree.val _) (ans1 f149_ok ?_) h
  have h0 : (enterTm [.val (.int .i64 n)] 0 .nil).get 0 = some (.val (.int .i64 n)) := rfl
  have hb := inB_iff.1 hn
  by_cases a : 0 ≤ n
  · have e : ab n = n := if_pos a
    simp -implicitDefEqProofs only [f149_fn, f149, W0, W1, W2, W3, W4, W5, W6, W7, W8, St.put, Option.bind_some, Option.map_some, ↓reduceIte, Nat.reduceEqDiff, Nat.reduceAdd, Nat.reduceMul, reduceCtorEq, cond_true, cond_false, Int.reduceEq, Int.reduceLT, Int.reduceLE, if_true, if_false, enter_t h0, a, e]
  · have e : ab n = 0 - n := if_neg a
    have w : IntKind.i64.wrap (0 - n) = 0 - n := wrapB (by omega) (by omega)
    have c : ¬ (0 - n < 0) := by omega
    simp -implicitDefEqProofs only [f149_fn, f149, W0, W1, W2, W3, W4, W5, W6, W7, W8, St.put, Option.bind_some, Option.map_some, ↓reduceIte, Nat.reduceEqDiff, Nat.reduceAdd, Nat.reduceMul, reduceCtorEq, cond_true, cond_false, Int.reduceEq, Int.reduceLT, Int.reduceLE, if_true, if_false, enter_t h0, a, e, w, c]
theorem abs_to149 {n : Int} (hn : inB n = true) {r : List AOper} {s : St} {dst : Option Nat} {K : St → Prop} : callK E1 149 r s dst K (some [.val (.int .i64 n)]) = AM.wpOps E1 r (s.put dst (.val (.int .i64 (ab n)))) K := callK_all (abs_call149 n hn)

theorem mul_call100 (a b : Int) (h : AH) : RunCall E1 (.f 100) [.val (.int .i64 a), .val (.int .i64 b)] h (prA (arith a b (a * b))) h := by
  refine call_tree (by kernel_rfl) (by kernel_rfl) (mem2 (Tree.val _) (Tree.val _)) rfl (Tree.two _ _) (ans2 (rs := [.val (.int .i64 (arith a b (a * b)).1), .val (.bool (arith a b (a * b)).2)]) f100_ok ?_) h
  have h0 : (enterTm [.val (.int .i64 a), .val (.int .i64 b)] 0 .nil).get 0 = some (.val (.int .i64 a)) := rfl
  have h1 : (enterTm [.val (.int .i64 a), .val (.int .i64 b)] 0 .nil).get 1 = some (.val (.int .i64 b)) := rfl
  have i0 : inB 0 = true := rfl
  cases x : inB a with
  | false => simp -implicitDefEqProofs only [f100_fn, f100, W0, W1, W2, W3, W4, W5, W6, W7, W8, St.put, Option.bind_some, Option.map_some, ↓reduceIte, Nat.reduceEqDiff, Nat.reduceAdd, Nat.reduceMul, reduceCtorEq, cond_true, cond_false, Int.reduceEq, Int.reduceLT, Int.reduceLE, if_true, if_false, enter_t h0, enter_t h1, in_to58, ok_to98, x, prA, arith]
  | true => cases y : inB b with
    | false => simp -implicitDefEqProofs only [f100_fn, f100, W0, W1, W2, W3, W4, W5, W6, W7, W8, St.put, Option.bind_some, Option.map_some, ↓reduceIte, Nat.reduceEqDiff, Nat.reduceAdd, Nat.reduceMul, reduceCtorEq, cond_true, cond_false, Int.reduceEq, Int.reduceLT, Int.reduceLE, if_true, if_false, enter_t h0, enter_t h1, in_to58, ok_to98, x, y, prA, arith]
    | true =>
      by_cases a0 : a = 0
      · subst a0
        simp -implicitDefEqProofs only [f100_fn, f100, W0, W1, W2, W3, W4, W5, W6, W7, W8, St.put, Option.bind_some, Option.map_some, ↓reduceIte, Nat.reduceEqDiff, Nat.reduceAdd, Nat.reduceMul, reduceCtorEq, cond_true, cond_false, Int.reduceEq, Int.reduceLT, Int.reduceLE, if_true, if_false, enter_t h0, enter_t h1, in_to58, ok_to98, x, y, prA, arith, Int.zero_mul, okP, i0]
      · by_cases b0 : b = 0
        · subst b0
          simp -implicitDefEqProofs only [f100_fn, f100, W0, W1, W2, W3, W4, W5, W6, W7, W8, St.put, Option.bind_some, Option.map_some, ↓reduceIte, Nat.reduceEqDiff, Nat.reduceAdd, Nat.reduceMul, reduceCtorEq, cond_true, cond_false, Int.reduceEq, Int.reduceLT, Int.reduceLE, if_true, if_false, enter_t h0, enter_t h1, in_to58, ok_to98, x, y, prA, arith, Int.mul_zero, okP, i0, a0]
        · have hna : ab a ≠ 0 := by have := ab_pos a0; omega
          have hq := quo_w a0 x
          have hm := mul_in (b := b) a0
          obtain ⟨W, hW⟩ : ∃ W, IntKind.i64.wrap (a * b) = W := ⟨_, rfl⟩
          generalize hQ : 1000000000000 / ab a = Q at *
          cases z : inB (a * b) with
          | false =>
            have hlt : Q < ab b := by
              rw [z] at hm
              have : ¬ ab b ≤ Q := fun k => by have := hm.1 k; cases this
              omega
            simp -implicitDefEqProofs only [f100_fn, f100, W0, W1, W2, W3, W4, W5, W6, W7, W8, St.put, Option.bind_some, Option.map_some, ↓reduceIte, Nat.reduceEqDiff, Nat.reduceAdd, Nat.reduceMul, reduceCtorEq, cond_true, cond_false, Int.reduceEq, Int.reduceLT, Int.reduceLE, if_true, if_false, enter_t h0, enter_t h1, in_to58, ok_to98, abs_to149 x, abs_to149 y, x, y, z, a0, b0, v_quo hna, hq, hlt, hW, prA, arith, okP]
          | true =>
            have hlt : ¬ Q < ab b := by
              have := hm.2 z
              omega
            have w : W = a * b := by
              rw [← hW]
              have := inB_iff.1 z
              exact wrapB (by omega) (by omega)
            simp -implicitDefEqProofs only [f100_fn, f100, W0, W1, W2, W3, W4, W5, W6, W7, W8, St.put, Option.bind_some, Option.map_some, ↓reduceIte, Nat.reduceEqDiff, Nat.reduceAdd, Nat.reduceMul, reduceCtorEq, cond_true, cond_false, Int.reduceEq, Int.reduceLT, Int.reduceLE, if_true, if_false, enter_t h0, enter_t h1, in_to58, ok_to98, abs_to149 x, abs_to149 y, x, y, z, a0, b0, v_quo hna, hq, hlt, hW, w, prA, arith, okP]
theorem ar_to100 {a b : Int} {r : List AOper} {s : St} {dst : Option Nat} {K : St → Prop} : callK E1 100 r s dst K (some [.val (.int .i64 a), .val (.int .i64 b)]) = AM.wpOps E1 r (s.put dst (prA (arith a b (a * b)))) K := callK_all (mul_call100 a b)

theorem mul_call106 (a b : Int) (h : AH) : RunCall E1 (.f 106) [.val (.int .i64 a), .val (.int .i64 b)] h (prA (arith a b (a * b))) h := by
  refine call_tree (by kernel_rfl) (by kernel_rfl) (mem2 (Tree.val _) (Tree.val _)) rfl (Tree.two _ _) (ans2 (rs := [.val (.int .i64 (arith a b (a * b)).1), .val (.bool (arith a b (a * b)).2)]) f106_ok ?_) h
  have h0 : (enterTm [.val (.int .i64 a), .val (.int .i64 b)] 0 .nil).get 0 = some (.val (.int .i64 a)) := rfl
  have h1 : (enterTm [.val (.int .i64 a), .val (.int .i64 b)] 0 .nil).get 1 = some (.val (.int .i64 b)) := rfl
  have i0 : inB 0 = true := rfl
  cases x : inB a with
  | false => simp -implicitDefEqProofs only [f106_fn, f106, W0, W1, W2, W3, W4, W5, W6, W7, W8, St.put, Option.bind_some, Option.map_some, ↓reduceIte, Nat.reduceEqDiff, Nat.reduceAdd, Nat.reduceMul, reduceCtorEq, cond_true, cond_false, Int.reduceEq, Int.reduceLT, Int.reduceLE, if_true, if_false, enter_t h0, enter_t h1, in_to102, x, prA, arith]
  | true => cases y : inB b with
    | false => simp -implicitDefEqProofs only [f106_fn, f106, W0, W1, W2, W3, W4, W5, W6, W7, W8, St.put, Option.bind_some, Option.map_some, ↓reduceIte, Nat.reduceEqDiff, Nat.reduceAdd, Nat.reduceMul, reduceCtorEq, cond_true, cond_false, Int.reduceEq, Int.reduceLT, Int.reduceLE, if_true, if_false, enter_t h0, enter_t h1, in_to102, x, y, prA, arith]
    | true =>
      by_cases a0 : a = 0
      · subst a0
        simp -implicitDefEqProofs only [f106_fn, f106, W0, W1, W2, W3, W4, W5, W6, W7, W8, St.put, Option.bind_some, Option.map_some, ↓reduceIte, Nat.reduceEqDiff, Nat.reduceAdd, Nat.reduceMul, reduceCtorEq, cond_true, cond_false, Int.reduceEq, Int.reduceLT, Int.reduceLE, if_true, if_false, enter_t h0, enter_t h1, in_to102, x, y, prA, arith, Int.zero_mul, okP, i0]
      · by_cases b0 : b = 0
        · subst b0
          simp -implicitDefEqProofs only [f106_fn, f106, W0, W1, W2, W3, W4, W5, W6, W7, W8, St.put, Option.bind_some, Option.map_some, ↓reduceIte, Nat.reduceEqDiff, Nat.reduceAdd, Nat.reduceMul, reduceCtorEq, cond_true, cond_false, Int.reduceEq, Int.reduceLT, Int.reduceLE, if_true, if_false, enter_t h0, enter_t h1, in_to102, x, y, prA, arith, Int.mul_zero, okP, i0, a0]
        · have hna : ab b ≠ 0 := by have := ab_pos b0; omega
          have hq := quo_w b0 y
          have hm := mul_in2 (a := a) b0
          obtain ⟨W, hW⟩ : ∃ W, IntKind.i64.wrap (a * b) = W := ⟨_, rfl⟩
          have wa : IntKind.i64.wrap (0 - a) = 0 - a := by have := inB_iff.1 x; exact wrapB (by omega) (by omega)
          have wb : IntKind.i64.wrap (0 - b) = 0 - b := by have := inB_iff.1 y; exact wrapB (by omega) (by omega)
          have hv := fun (P : Program) (t : TypeId) (g : Bool) => v_quo (P := P) (t := t) (g := g) (k := .i64) (a := 1000000000000) hna
          rw [hq] at hv
          generalize hQ : 1000000000000 / ab b = Q at *
          have zz : ∀ z : Bool, inB (a * b) = z → (z = true → W = a * b) ∧ decide (Q < ab a) = !z := by
            intro z hz
            cases z with
            | false =>
              refine ⟨fun k => (by cases k), ?_⟩
              rw [hz] at hm
              have : ¬ ab a ≤ Q := fun k => by have := hm.1 k; cases this
              exact decide_eq_true (by omega)
            | true =>
              refine ⟨fun _ => ?_, ?_⟩
              · rw [← hW]
                have := inB_iff.1 hz
                exact wrapB (by omega) (by omega)
              · have := hm.2 hz
                exact decide_eq_false (by omega)
          obtain ⟨z1, z2⟩ := zz _ rfl
          have ga : ab a = a ∨ ab a = 0 - a ∧ a < 0 := by unfold ab; split <;> omega
          have gb : ab b = b ∨ ab b = 0 - b ∧ b < 0 := by unfold ab; split <;> omega
          by_cases sa : a < 0
          · have eqa : ab a = 0 - a := by unfold ab; rw [if_neg (by omega)]
            by_cases sb : b < 0
            · have eqb : ab b = 0 - b := by unfold ab; rw [if_neg (by omega)]
              rw [eqa] at z2
              rw [eqb] at hv
              cases z : inB (a * b) with
              | false => rw [z] at z2; simp -implicitDefEqProofs only [f106_fn, f106, W0, W1, W2, W3, W4, W5, W6, W7, W8, St.put, Option.bind_some, Option.map_some, ↓reduceIte, Nat.reduceEqDiff, Nat.reduceAdd, Nat.reduceMul, reduceCtorEq, cond_true, cond_false, Int.reduceEq, Int.reduceLT, Int.reduceLE, if_true, if_false, enter_t h0, enter_t h1, in_to102, x, y, z, a0, b0, sa, sb, wa, wb, hv, z2, hW, prA, arith, okP]
              | true => rw [z] at z2; simp -implicitDefEqProofs only [f106_fn, f106, W0, W1, W2, W3, W4, W5, W6, W7, W8, St.put, Option.bind_some, Option.map_some, ↓reduceIte, Nat.reduceEqDiff, Nat.reduceAdd, Nat.reduceMul, reduceCtorEq, cond_true, cond_false, Int.reduceEq, Int.reduceLT, Int.reduceLE, if_true, if_false, enter_t h0, enter_t h1, in_to102, x, y, z, a0, b0, sa, sb, wa, wb, hv, z2, hW, z1 z, prA, arith, okP]
            · have eqb : ab b = b := by unfold ab; rw [if_pos (by omega)]
              rw [eqa] at z2
              rw [eqb] at hv
              cases z : inB (a * b) with
              | false => rw [z] at z2; simp -implicitDefEqProofs only [f106_fn, f106, W0, W1, W2, W3, W4, W5, W6, W7, W8, St.put, Option.bind_some, Option.map_some, ↓reduceIte, Nat.reduceEqDiff, Nat.reduceAdd, Nat.reduceMul, reduceCtorEq, cond_true, cond_false, Int.reduceEq, Int.reduceLT, Int.reduceLE, if_true, if_false, enter_t h0, enter_t h1, in_to102, x, y, z, a0, b0, sa, sb, wa, wb, hv, z2, hW, prA, arith, okP]
              | true => rw [z] at z2; simp -implicitDefEqProofs only [f106_fn, f106, W0, W1, W2, W3, W4, W5, W6, W7, W8, St.put, Option.bind_some, Option.map_some, ↓reduceIte, Nat.reduceEqDiff, Nat.reduceAdd, Nat.reduceMul, reduceCtorEq, cond_true, cond_false, Int.reduceEq, Int.reduceLT, Int.reduceLE, if_true, if_false, enter_t h0, enter_t h1, in_to102, x, y, z, a0, b0, sa, sb, wa, wb, hv, z2, hW, z1 z, prA, arith, okP]
          · have eqa : ab a = a := by unfold ab; rw [if_pos (by omega)]
            by_cases sb : b < 0
            · have eqb : ab b = 0 - b := by unfold ab; rw [if_neg (by omega)]
              rw [eqa] at z2
              rw [eqb] at hv
              cases z : inB (a * b) with
              | false => rw [z] at z2; simp -implicitDefEqProofs only [f106_fn, f106, W0, W1, W2, W3, W4, W5, W6, W7, W8, St.put, Option.bind_some, Option.map_some, ↓reduceIte, Nat.reduceEqDiff, Nat.reduceAdd, Nat.reduceMul, reduceCtorEq, cond_true, cond_false, Int.reduceEq, Int.reduceLT, Int.reduceLE, if_true, if_false, enter_t h0, enter_t h1, in_to102, x, y, z, a0, b0, sa, sb, wa, wb, hv, z2, hW, prA, arith, okP]
              | true => rw [z] at z2; simp -implicitDefEqProofs only [f106_fn, f106, W0, W1, W2, W3, W4, W5, W6, W7, W8, St.put, Option.bind_some, Option.map_some, ↓reduceIte, Nat.reduceEqDiff, Nat.reduceAdd, Nat.reduceMul, reduceCtorEq, cond_true, cond_false, Int.reduceEq, Int.reduceLT, Int.reduceLE, if_true, if_false, enter_t h0, enter_t h1, in_to102, x, y, z, a0, b0, sa, sb, wa, wb, hv, z2, hW, z1 z, prA, arith, okP]
            · have eqb : ab b = b := by unfold ab; rw [if_pos (by omega)]
              rw [eqa] at z2
              rw [eqb] at hv
              cases z : inB (a * b) with
              | false => rw [z] at z2; simp -implicitDefEqProofs only [f106_fn, f106, W0, W1, W2, W3, W4, W5, W6, W7, W8, St.put, Option.bind_some, Option.map_some, ↓reduceIte, Nat.reduceEqDiff, Nat.reduceAdd, Nat.reduceMul, reduceCtorEq, cond_true, cond_false, Int.reduceEq, Int.reduceLT, Int.reduceLE, if_true, if_false, enter_t h0, enter_t h1, in_to102, x, y, z, a0, b0, sa, sb, wa, wb, hv, z2, hW, prA, arith, okP]
              | true => rw [z] at z2; simp -implicitDefEqProofs only [f106_fn, f106, W0, W1, W2, W3, W4, W5, W6, W7, W8, St.put, Option.bind_some, Option.map_some, ↓reduceIte, Nat.reduceEqDiff, Nat.reduceAdd, Nat.reduceMul, reduceCtorEq, cond_true, cond_false, Int.reduceEq, Int.reduceLT, Int.reduceLE, if_true, if_false, enter_t h0, enter_t h1, in_to102, x, y, z, a0, b0, sa, sb, wa, wb, hv, z2, hW, z1 z, prA, arith, okP]
theorem ar_to106 {a b : Int} {r : List AOper} {s : St} {dst : Option Nat} {K : St → Prop} : callK E1 106 r s dst K (some [.val (.int .i64 a), .val (.int .i64 b)]) = AM.wpOps E1 r (s.put dst (prA (arith a b (a * b)))) K := callK_all (mul_call106 a b)

end Go.Proofs.YtbolilekjpoicaaGreatDoor
