/- A part of the proofs about certificates: YCodes YCall YCodesB YCodesC. -/
import Derived.Test.YtijpnlmmaoecgaaGreatDoorQW1
import Derived.Test.YtijpnlmmaoecgaaGreatDoorQP1
import Derived.Test.YtijpnlmmaoecgaaGreatDoorQE1

set_option linter.all false

namespace Go.Proofs.YtijpnlmmaoecgaaGreatDoor
open Go Go.AM
def f6_o0 : List DOp := [⟨⟨(some 7), none, .load (some 4) (.t 1)⟩, [1], []⟩, ⟨⟨(some 8), none, .call 12 [(.t 7)]⟩, [7], []⟩, ⟨⟨(some 9), none, .strOfBytes (.t 8)⟩, [8], []⟩, ⟨⟨(some 10), none, .load (some 4) (.t 1)⟩, [1], [0, 1, 2]⟩, ⟨⟨(some 11), none, .call 13 [(.t 10)]⟩, [10], [2]⟩, ⟨⟨(some 12), none, .strOfBytes (.t 11)⟩, [11], [2]⟩, ⟨⟨(some 13), none, .bin .eql 9 false (.t 9) (.t 12)⟩, [9, 12], []⟩, ⟨⟨(some 14), none, .mv (.t 13)⟩, [13], []⟩, ⟨⟨(some 15), some (14, true), .load (some 4) (.t 1)⟩, [1, 14], []⟩, ⟨⟨(some 16), some (14, true), .call 14 [(.t 15)]⟩, [15, 14], []⟩, ⟨⟨(some 17), some (14, true), .load (some 4) (.t 1)⟩, [1, 14], [8, 9]⟩, ⟨⟨(some 18), some (14, true), .call 15 [(.t 17)]⟩, [17, 14], []⟩, ⟨⟨(some 19), some (14, true), .bin .eql 3 false (.t 16) (.t 18)⟩, [16, 18, 14], []⟩, ⟨⟨(some 20), none, .pick (.t 14) (.t 19) (.c (.val (.bool false)))⟩, [14, 19], []⟩, ⟨⟨(some 21), none, .mv (.t 20)⟩, [20], []⟩, ⟨⟨(some 22), some (21, true), .call 7 []⟩, [21], []⟩, ⟨⟨(some 23), none, .pick (.t 21) (.t 22) (.c (.val (.bool false)))⟩, [21, 22], []⟩, ⟨⟨(some 2), none, .mv (.t 23)⟩, [23], []⟩]
def f6_d0 : ACode := .draw f6_o0
def f6 : ACode := (.seq (.region [⟨(some 1), none, .box (.t 0)⟩, ⟨(some 2), none, .mv (.c (.val (.bool false)))⟩])
 (.seq (.seq (.region [⟨(some 3), none, .load (some 4) (.t 1)⟩, ⟨(some 4), none, .call 11 [(.t 3)]⟩, ⟨(some 5), none, .un .not (.t 4)⟩])
 (.cond (.t 5) (.seq (.region [⟨(some 6), none, .call 7 []⟩, ⟨(some 2), none, .mv (.t 6)⟩])
 .ret) .skip))
 (.seq f6_d0
 .ret)))
def f6_fn : AFun := ⟨f6, [.tmp 2]⟩
theorem f6_ok : funOf Tryz.prog 6 = some f6_fn := by kernel_rfl
def f11_o0 : List DOp := [⟨⟨(some 20), none, .mv (.t 3)⟩, [3], []⟩, ⟨⟨(some 21), none, .bin .add 3 true (.t 20) (.c (.val (.int .i64 4)))⟩, [20], []⟩, ⟨⟨(some 22), none, .fieldAddr 2 (.t 1)⟩, [1], [0, 1]⟩, ⟨⟨(some 23), none, .load none (.t 22)⟩, [22], [0, 1]⟩, ⟨⟨(some 24), none, .mv (.t 4)⟩, [4], [0, 1, 2, 3]⟩, ⟨⟨(some 25), none, .idxAddrS 5 (.t 23) (.t 24)⟩, [23, 24], [0, 1]⟩, ⟨⟨(some 26), none, .fieldAddr 0 (.t 25)⟩, [25], [0, 1]⟩, ⟨⟨(some 27), none, .load none (.t 26)⟩, [26], [0, 1]⟩, ⟨⟨(some 28), none, .lenStr (.t 27)⟩, [27], [0, 1]⟩, ⟨⟨(some 29), none, .bin .add 3 false (.t 21) (.t 28)⟩, [21, 28], []⟩, ⟨⟨(some 30), none, .fieldAddr 2 (.t 1)⟩, [1], [0, 1, 2, 3, 4, 5, 6, 7, 8, 9]⟩, ⟨⟨(some 31), none, .load none (.t 30)⟩, [30], [0, 1, 2, 3, 4, 5, 6, 7, 8, 9]⟩, ⟨⟨(some 32), none, .mv (.t 4)⟩, [4], [0, 1, 2, 3, 4, 5, 6, 7, 8, 9, 10, 11]⟩, ⟨⟨(some 33), none, .idxAddrS 5 (.t 31) (.t 32)⟩, [31, 32], [0, 1, 2, 3, 4, 5, 6, 7, 8, 9]⟩, ⟨⟨(some 34), none, .fieldAddr 1 (.t 33)⟩, [33], [0, 1, 2, 3, 4, 5, 6, 7, 8, 9]⟩, ⟨⟨(some 35), none, .load (some 4) (.t 34)⟩, [34], [0, 1, 2, 3, 4, 5, 6, 7, 8, 9]⟩, ⟨⟨(some 36), none, .call 31 [(.t 35), (.c (.val (.int .i64 3000)))]⟩, [35], [0, 1, 2, 3, 4, 5, 6, 7, 8, 9]⟩, ⟨⟨(some 37), none, .bin .add 3 false (.t 29) (.t 36)⟩, [29, 36], []⟩, ⟨⟨(some 3), none, .mv (.t 37)⟩, [37], []⟩]
def f11_d0 : ACode := .draw f11_o0
def f11_b1 : ACode := (.seq (.seq (.region [⟨(some 9), none, .mv (.t 4)⟩, ⟨(some 10), none, .fieldAddr 2 (.t 1)⟩, ⟨(some 11), none, .load none (.t 10)⟩, ⟨(some 12), none, .lenS (.t 11)⟩, ⟨(some 13), none, .bin .lss 3 false (.t 9) (.t 12)⟩, ⟨(some 14), none, .mv (.t 13)⟩, ⟨(some 15), some (14, true), .mv (.t 3)⟩, ⟨(some 16), some (14, true), .bin .leq 3 true (.t 15) (.c (.val (.int .i64 3000)))⟩, ⟨(some 17), none, .pick (.t 14) (.t 16) (.c (.val (.bool false)))⟩])
 (.cond (.t 17) .skip (.exit 0)))
 (.seq (.block 1 f11_d0)
 (.region [⟨(some 18), none, .mv (.t 4)⟩, ⟨(some 19), none, .bin .add 3 true (.t 18) (.c (.val (.int .i64 1)))⟩, ⟨(some 4), none, .mv (.t 19)⟩])))
def f11_l1 : ACode := .loop f11_b1
def f11_b2 : ACode := (.seq (.seq (.region [⟨(some 38), none, .mv (.t 5)⟩, ⟨(some 39), none, .fieldAddr 3 (.t 1)⟩, ⟨(some 40), none, .load none (.t 39)⟩, ⟨(some 41), none, .lenS (.t 40)⟩, ⟨(some 42), none, .bin .lss 3 false (.t 38) (.t 41)⟩, ⟨(some 43), none, .mv (.t 42)⟩, ⟨(some 44), some (43, true), .mv (.t 3)⟩, ⟨(some 45), some (43, true), .bin .leq 3 true (.t 44) (.c (.val (.int .i64 3000)))⟩, ⟨(some 46), none, .pick (.t 43) (.t 45) (.c (.val (.bool false)))⟩])
 (.cond (.t 46) .skip (.exit 2)))
 (.seq (.block 3 (.region [⟨(some 49), none, .mv (.t 3)⟩, ⟨(some 50), none, .fieldAddr 3 (.t 1)⟩, ⟨(some 51), none, .load none (.t 50)⟩, ⟨(some 52), none, .mv (.t 5)⟩, ⟨(some 53), none, .idxAddrS 4 (.t 51) (.t 52)⟩, ⟨(some 54), none, .load (some 4) (.t 53)⟩, ⟨(some 55), none, .call 32 [(.t 54), (.c (.val (.int .i64 3000)))]⟩, ⟨(some 56), none, .bin .add 3 false (.t 49) (.t 55)⟩, ⟨(some 3), none, .mv (.t 56)⟩]))
 (.region [⟨(some 47), none, .mv (.t 5)⟩, ⟨(some 48), none, .bin .add 3 true (.t 47) (.c (.val (.int .i64 1)))⟩, ⟨(some 5), none, .mv (.t 48)⟩])))
def f11_l2 : ACode := .loop f11_b2
def f11 : ACode := (.seq (.region [⟨(some 1), none, .box (.t 0)⟩, ⟨(some 2), none, .mv (.c (.val (.bool false)))⟩])
 (.seq (.region [⟨(some 6), none, .fieldAddr 0 (.t 1)⟩, ⟨(some 7), none, .load none (.t 6)⟩, ⟨(some 8), none, .lenStr (.t 7)⟩, ⟨(some 3), none, .mv (.t 8)⟩])
 (.seq (.seq (.region [⟨(some 4), none, .mv (.c (.val (.int .i64 0)))⟩])
 (.block 0 f11_l1))
 (.seq (.seq (.region [⟨(some 5), none, .mv (.c (.val (.int .i64 0)))⟩])
 (.block 2 f11_l2))
 (.seq (.region [⟨(some 57), none, .mv (.t 3)⟩, ⟨(some 58), none, .bin .leq 3 true (.t 57) (.c (.val (.int .i64 3000)))⟩, ⟨(some 2), none, .mv (.t 58)⟩])
 .ret)))))
def f11_fn : AFun := ⟨f11, [.tmp 2]⟩
theorem f11_ok : funOf Tryz.prog 11 = some f11_fn := by kernel_rfl
def f12_b0 : ACode := (.seq (.region [⟨(some 29), none, .bin .lss 3 false (.t 28) (.t 27)⟩])
 (.seq (.cond (.t 29) .skip (.exit 0))
 (.seq (.block 1 (.seq (.region [⟨(some 30), none, .idxAddrS 5 (.t 26) (.t 28)⟩, ⟨(some 31), none, .load (some 5) (.t 30)⟩, ⟨(some 5), none, .alloc [(.val (.string ⟨#[]⟩)), (.val (.int .i64 0)), (.val (.string ⟨#[]⟩)), (.val (.int .i64 0)), (.val (.slice none 0 0))]⟩, ⟨none, none, .store 5 (.t 5) (.t 31)⟩])
 (.seq (.region [⟨(some 32), none, .mv (.t 3)⟩, ⟨(some 33), none, .fieldAddr 0 (.t 5)⟩, ⟨(some 34), none, .load none (.t 33)⟩, ⟨(some 35), none, .call 33 [(.t 32), (.t 34)]⟩])
 (.region [⟨(some 36), none, .mv (.t 3)⟩, ⟨(some 37), none, .fieldAddr 1 (.t 5)⟩, ⟨(some 38), none, .load (some 4) (.t 37)⟩, ⟨(some 39), none, .call 35 [(.t 36), (.t 38)]⟩]))))
 (.region [⟨(some 40), none, .bin .add 3 true (.t 28) (.c (.val (.int .i64 1)))⟩, ⟨(some 28), none, .mv (.t 40)⟩]))))
def f12_l0 : ACode := .loop f12_b0
def f12_b1 : ACode := (.seq (.region [⟨(some 50), none, .bin .lss 3 false (.t 49) (.t 48)⟩])
 (.seq (.cond (.t 50) .skip (.exit 2))
 (.seq (.block 3 (.seq (.region [⟨(some 51), none, .idxAddrS 4 (.t 47) (.t 49)⟩, ⟨(some 52), none, .load (some 4) (.t 51)⟩, ⟨(some 7), none, .alloc [(.val (.int .i64 0)), (.val (.int .i64 0)), (.val (.slice none 0 0)), (.val (.slice none 0 0))]⟩, ⟨none, none, .store 4 (.t 7) (.t 52)⟩])
 (.region [⟨(some 53), none, .mv (.t 3)⟩, ⟨(some 54), none, .load (some 4) (.t 7)⟩, ⟨(some 55), none, .call 36 [(.t 53), (.t 54)]⟩])))
 (.region [⟨(some 56), none, .bin .add 3 true (.t 49) (.c (.val (.int .i64 1)))⟩, ⟨(some 49), none, .mv (.t 56)⟩]))))
def f12_l1 : ACode := .loop f12_b1
def f12 : ACode := (.seq (.region [⟨(some 1), none, .box (.t 0)⟩, ⟨(some 2), none, .mv (.c (.val (.slice none 0 0)))⟩])
 (.seq (.region [⟨(some 9), none, .buildSlice 1 3 [(.val (.int .u8 0)), (.val (.int .u8 0)), (.val (.int .u8 0))] [(0, 1, (.c (.val (.int .u8 69)))), (1, 1, (.c (.val (.int .u8 67)))), (2, 1, (.c (.val (.int .u8 1))))]⟩, ⟨(some 10), none, .build [(.val (.slice none 0 0))] [(0, 1, (.t 9))]⟩, ⟨(some 11), none, .box (.t 10)⟩, ⟨(some 3), none, .mv (.t 11)⟩])
 (.seq (.region [⟨(some 12), none, .mv (.t 3)⟩, ⟨(some 13), none, .fieldAddr 0 (.t 1)⟩, ⟨(some 14), none, .load none (.t 13)⟩, ⟨(some 15), none, .call 33 [(.t 12), (.t 14)]⟩])
 (.seq (.region [⟨(some 16), none, .mv (.t 3)⟩, ⟨(some 17), none, .fieldAddr 1 (.t 1)⟩, ⟨(some 18), none, .load none (.t 17)⟩, ⟨(some 19), none, .call 34 [(.t 16), (.t 18)]⟩])
 (.seq (.region [⟨(some 20), none, .mv (.t 3)⟩, ⟨(some 21), none, .fieldAddr 2 (.t 1)⟩, ⟨(some 22), none, .load none (.t 21)⟩, ⟨(some 23), none, .lenS (.t 22)⟩, ⟨(some 24), none, .call 34 [(.t 20), (.t 23)]⟩])
 (.seq (.seq (.region [⟨(some 25), none, .fieldAddr 2 (.t 1)⟩, ⟨(some 26), none, .load none (.t 25)⟩, ⟨(some 27), none, .lenS (.t 26)⟩, ⟨(some 28), none, .mv (.c (.val (.int .i64 0)))⟩])
 (.block 0 f12_l0))
 (.seq (.region [⟨(some 41), none, .mv (.t 3)⟩, ⟨(some 42), none, .fieldAddr 3 (.t 1)⟩, ⟨(some 43), none, .load none (.t 42)⟩, ⟨(some 44), none, .lenS (.t 43)⟩, ⟨(some 45), none, .call 34 [(.t 41), (.t 44)]⟩])
 (.seq (.seq (.region [⟨(some 46), none, .fieldAddr 3 (.t 1)⟩, ⟨(some 47), none, .load none (.t 46)⟩, ⟨(some 48), none, .lenS (.t 47)⟩, ⟨(some 49), none, .mv (.c (.val (.int .i64 0)))⟩])
 (.block 2 f12_l1))
 (.seq (.region [⟨(some 57), none, .mv (.t 3)⟩, ⟨(some 58), none, .nilck (.t 57)⟩, ⟨(some 59), none, .fieldAddr 0 (.t 58)⟩, ⟨(some 60), none, .load none (.t 59)⟩, ⟨(some 61), none, .strOfBytes (.t 60)⟩, ⟨(some 62), none, .call 37 [(.t 61)]⟩, ⟨(some 8), none, .mv (.t 62)⟩])
 (.seq (.region [⟨(some 63), none, .mv (.t 3)⟩, ⟨(some 64), none, .nilck (.t 63)⟩, ⟨(some 65), none, .fieldAddr 0 (.t 64)⟩, ⟨(some 66), none, .load none (.t 65)⟩, ⟨(some 67), none, .mv (.t 8)⟩, ⟨(some 68), none, .bin .shr 3 true (.t 67) (.c (.val (.int .u64 24)))⟩, ⟨(some 69), none, .conv .u8 (.t 68)⟩, ⟨(some 70), none, .mv (.t 8)⟩, ⟨(some 71), none, .bin .shr 3 true (.t 70) (.c (.val (.int .u64 16)))⟩, ⟨(some 72), none, .conv .u8 (.t 71)⟩, ⟨(some 73), none, .mv (.t 8)⟩, ⟨(some 74), none, .bin .shr 3 true (.t 73) (.c (.val (.int .u64 8)))⟩, ⟨(some 75), none, .conv .u8 (.t 74)⟩, ⟨(some 76), none, .mv (.t 8)⟩, ⟨(some 77), none, .conv .u8 (.t 76)⟩, ⟨(some 78), none, .buildSlice 1 4 [(.val (.int .u8 0)), (.val (.int .u8 0)), (.val (.int .u8 0)), (.val (.int .u8 0))] [(0, 1, (.t 69)), (1, 1, (.t 72)), (2, 1, (.t 75)), (3, 1, (.t 77))]⟩, ⟨(some 79), none, .appT 5 (.t 66) (.t 78)⟩, ⟨(some 2), none, .mv (.t 79)⟩])
 .ret))))))))))
def f12_fn : AFun := ⟨f12, [.tmp 2]⟩
theorem f12_ok : funOf Tryz.prog 12 = some f12_fn := by kernel_rfl
def f14_b0 : ACode := (.seq (.region [⟨(some 10), none, .bin .lss 3 false (.t 9) (.t 8)⟩])
 (.seq (.cond (.t 10) .skip (.exit 0))
 (.seq (.block 1 (.seq (.region [⟨(some 11), none, .idxAddrS 4 (.t 7) (.t 9)⟩, ⟨(some 12), none, .load (some 4) (.t 11)⟩, ⟨(some 5), none, .alloc [(.val (.int .i64 0)), (.val (.int .i64 0)), (.val (.slice none 0 0)), (.val (.slice none 0 0))]⟩, ⟨none, none, .store 4 (.t 5) (.t 12)⟩])
 (.region [⟨(some 13), none, .mv (.t 3)⟩, ⟨(some 14), none, .load (some 4) (.t 5)⟩, ⟨(some 15), none, .call 42 [(.t 14)]⟩, ⟨(some 16), none, .bin .add 3 false (.t 13) (.t 15)⟩, ⟨(some 3), none, .mv (.t 16)⟩])))
 (.region [⟨(some 17), none, .bin .add 3 true (.t 9) (.c (.val (.int .i64 1)))⟩, ⟨(some 9), none, .mv (.t 17)⟩]))))
def f14_l0 : ACode := .loop f14_b0
def f14 : ACode := (.seq (.region [⟨(some 1), none, .box (.t 0)⟩, ⟨(some 2), none, .mv (.c (.val (.int .i64 0)))⟩])
 (.seq (.region [⟨(some 3), none, .mv (.c (.val (.int .i64 0)))⟩])
 (.seq (.seq (.region [⟨(some 6), none, .fieldAddr 3 (.t 1)⟩, ⟨(some 7), none, .load none (.t 6)⟩, ⟨(some 8), none, .lenS (.t 7)⟩, ⟨(some 9), none, .mv (.c (.val (.int .i64 0)))⟩])
 (.block 0 f14_l0))
 (.seq (.region [⟨(some 18), none, .mv (.t 3)⟩, ⟨(some 2), none, .mv (.t 18)⟩])
 .ret))))
def f14_fn : AFun := ⟨f14, [.tmp 2]⟩
theorem f14_ok : funOf Tryz.prog 14 = some f14_fn := by kernel_rfl
def f15_b0 : ACode := (.seq (.seq (.region [⟨(some 5), none, .mv (.t 4)⟩, ⟨(some 6), none, .fieldAddr 3 (.t 1)⟩, ⟨(some 7), none, .load none (.t 6)⟩, ⟨(some 8), none, .lenS (.t 7)⟩, ⟨(some 9), none, .bin .lss 3 false (.t 5) (.t 8)⟩])
 (.cond (.t 9) .skip (.exit 0)))
 (.seq (.block 1 (.region [⟨(some 12), none, .mv (.t 3)⟩, ⟨(some 13), none, .fieldAddr 3 (.t 1)⟩, ⟨(some 14), none, .load none (.t 13)⟩, ⟨(some 15), none, .mv (.t 4)⟩, ⟨(some 16), none, .idxAddrS 4 (.t 14) (.t 15)⟩, ⟨(some 17), none, .load (some 4) (.t 16)⟩, ⟨(some 18), none, .call 43 [(.t 17)]⟩, ⟨(some 19), none, .bin .add 3 false (.t 12) (.t 18)⟩, ⟨(some 3), none, .mv (.t 19)⟩]))
 (.region [⟨(some 10), none, .mv (.t 4)⟩, ⟨(some 11), none, .bin .add 3 true (.t 10) (.c (.val (.int .i64 1)))⟩, ⟨(some 4), none, .mv (.t 11)⟩])))
def f15_l0 : ACode := .loop f15_b0
def f15 : ACode := (.seq (.region [⟨(some 1), none, .box (.t 0)⟩, ⟨(some 2), none, .mv (.c (.val (.int .i64 0)))⟩])
 (.seq (.region [⟨(some 3), none, .mv (.c (.val (.int .i64 0)))⟩])
 (.seq (.seq (.region [⟨(some 4), none, .mv (.c (.val (.int .i64 0)))⟩])
 (.block 0 f15_l0))
 (.seq (.region [⟨(some 20), none, .mv (.t 3)⟩, ⟨(some 2), none, .mv (.t 20)⟩])
 .ret))))
def f15_fn : AFun := ⟨f15, [.tmp 2]⟩
theorem f15_ok : funOf Tryz.prog 15 = some f15_fn := by kernel_rfl
def f31_b0 : ACode := (.seq (.seq (.region [⟨(some 11), none, .mv (.t 6)⟩, ⟨(some 12), none, .fieldAddr 3 (.t 2)⟩, ⟨(some 13), none, .load none (.t 12)⟩, ⟨(some 14), none, .lenS (.t 13)⟩, ⟨(some 15), none, .bin .lss 3 false (.t 11) (.t 14)⟩, ⟨(some 16), none, .mv (.t 15)⟩, ⟨(some 17), some (16, true), .mv (.t 5)⟩, ⟨(some 18), some (16, true), .mv (.t 1)⟩, ⟨(some 19), some (16, true), .bin .leq 3 false (.t 17) (.t 18)⟩, ⟨(some 20), none, .pick (.t 16) (.t 19) (.c (.val (.bool false)))⟩])
 (.cond (.t 20) .skip (.exit 0)))
 (.seq (.block 1 (.region [⟨(some 23), none, .mv (.t 5)⟩, ⟨(some 24), none, .fieldAddr 3 (.t 2)⟩, ⟨(some 25), none, .load none (.t 24)⟩, ⟨(some 26), none, .mv (.t 6)⟩, ⟨(some 27), none, .idxAddrS 4 (.t 25) (.t 26)⟩, ⟨(some 28), none, .load (some 4) (.t 27)⟩, ⟨(some 29), none, .mv (.t 1)⟩, ⟨(some 30), none, .mv (.t 5)⟩, ⟨(some 31), none, .bin .sub 3 false (.t 29) (.t 30)⟩, ⟨(some 32), none, .call 31 [(.t 28), (.t 31)]⟩, ⟨(some 33), none, .bin .add 3 false (.t 23) (.t 32)⟩, ⟨(some 5), none, .mv (.t 33)⟩]))
 (.region [⟨(some 21), none, .mv (.t 6)⟩, ⟨(some 22), none, .bin .add 3 true (.t 21) (.c (.val (.int .i64 1)))⟩, ⟨(some 6), none, .mv (.t 22)⟩])))
def f31_l0 : ACode := .loop f31_b0
def f31 : ACode := (.seq (.region [⟨(some 2), none, .box (.t 0)⟩, ⟨(some 4), none, .mv (.c (.val (.int .i64 0)))⟩])
 (.seq (.region [⟨(some 7), none, .fieldAddr 1 (.t 2)⟩, ⟨(some 8), none, .load none (.t 7)⟩, ⟨(some 9), none, .lenStr (.t 8)⟩, ⟨(some 10), none, .bin .add 3 true (.c (.val (.int .i64 4))) (.t 9)⟩, ⟨(some 5), none, .mv (.t 10)⟩])
 (.seq (.seq (.region [⟨(some 6), none, .mv (.c (.val (.int .i64 0)))⟩])
 (.block 0 f31_l0))
 (.seq (.region [⟨(some 34), none, .mv (.t 5)⟩, ⟨(some 4), none, .mv (.t 34)⟩])
 .ret))))
def f31_fn : AFun := ⟨f31, [.tmp 4]⟩
theorem f31_ok : funOf Tryz.prog 31 = some f31_fn := by kernel_rfl
def f32_b0 : ACode := (.seq (.seq (.region [⟨(some 8), none, .mv (.t 6)⟩, ⟨(some 9), none, .fieldAddr 2 (.t 2)⟩, ⟨(some 10), none, .load none (.t 9)⟩, ⟨(some 11), none, .lenS (.t 10)⟩, ⟨(some 12), none, .bin .lss 3 false (.t 8) (.t 11)⟩, ⟨(some 13), none, .mv (.t 12)⟩, ⟨(some 14), some (13, true), .mv (.t 5)⟩, ⟨(some 15), some (13, true), .mv (.t 1)⟩, ⟨(some 16), some (13, true), .bin .leq 3 false (.t 14) (.t 15)⟩, ⟨(some 17), none, .pick (.t 13) (.t 16) (.c (.val (.bool false)))⟩])
 (.cond (.t 17) .skip (.exit 0)))
 (.seq (.block 1 (.region [⟨(some 20), none, .mv (.t 5)⟩, ⟨(some 21), none, .bin .add 3 true (.t 20) (.c (.val (.int .i64 2)))⟩, ⟨(some 22), none, .fieldAddr 2 (.t 2)⟩, ⟨(some 23), none, .load none (.t 22)⟩, ⟨(some 24), none, .mv (.t 6)⟩, ⟨(some 25), none, .idxAddrS 2 (.t 23) (.t 24)⟩, ⟨(some 26), none, .fieldAddr 1 (.t 25)⟩, ⟨(some 27), none, .load none (.t 26)⟩, ⟨(some 28), none, .lenS (.t 27)⟩, ⟨(some 29), none, .bin .mul 3 true (.c (.val (.int .i64 3))) (.t 28)⟩, ⟨(some 30), none, .bin .add 3 false (.t 21) (.t 29)⟩, ⟨(some 5), none, .mv (.t 30)⟩]))
 (.region [⟨(some 18), none, .mv (.t 6)⟩, ⟨(some 19), none, .bin .add 3 true (.t 18) (.c (.val (.int .i64 1)))⟩, ⟨(some 6), none, .mv (.t 19)⟩])))
def f32_l0 : ACode := .loop f32_b0
def f32_b1 : ACode := (.seq (.seq (.region [⟨(some 31), none, .mv (.t 7)⟩, ⟨(some 32), none, .fieldAddr 3 (.t 2)⟩, ⟨(some 33), none, .load none (.t 32)⟩, ⟨(some 34), none, .lenS (.t 33)⟩, ⟨(some 35), none, .bin .lss 3 false (.t 31) (.t 34)⟩, ⟨(some 36), none, .mv (.t 35)⟩, ⟨(some 37), some (36, true), .mv (.t 5)⟩, ⟨(some 38), some (36, true), .mv (.t 1)⟩, ⟨(some 39), some (36, true), .bin .leq 3 false (.t 37) (.t 38)⟩, ⟨(some 40), none, .pick (.t 36) (.t 39) (.c (.val (.bool false)))⟩])
 (.cond (.t 40) .skip (.exit 2)))
 (.seq (.block 3 (.region [⟨(some 43), none, .mv (.t 5)⟩, ⟨(some 44), none, .fieldAddr 3 (.t 2)⟩, ⟨(some 45), none, .load none (.t 44)⟩, ⟨(some 46), none, .mv (.t 7)⟩, ⟨(some 47), none, .idxAddrS 4 (.t 45) (.t 46)⟩, ⟨(some 48), none, .load (some 4) (.t 47)⟩, ⟨(some 49), none, .mv (.t 1)⟩, ⟨(some 50), none, .mv (.t 5)⟩, ⟨(some 51), none, .bin .sub 3 false (.t 49) (.t 50)⟩, ⟨(some 52), none, .call 32 [(.t 48), (.t 51)]⟩, ⟨(some 53), none, .bin .add 3 false (.t 43) (.t 52)⟩, ⟨(some 5), none, .mv (.t 53)⟩]))
 (.region [⟨(some 41), none, .mv (.t 7)⟩, ⟨(some 42), none, .bin .add 3 true (.t 41) (.c (.val (.int .i64 1)))⟩, ⟨(some 7), none, .mv (.t 42)⟩])))
def f32_l1 : ACode := .loop f32_b1
def f32 : ACode := (.seq (.region [⟨(some 2), none, .box (.t 0)⟩, ⟨(some 4), none, .mv (.c (.val (.int .i64 0)))⟩])
 (.seq (.region [⟨(some 5), none, .mv (.c (.val (.int .i64 4)))⟩])
 (.seq (.seq (.region [⟨(some 6), none, .mv (.c (.val (.int .i64 0)))⟩])
 (.block 0 f32_l0))
 (.seq (.seq (.region [⟨(some 7), none, .mv (.c (.val (.int .i64 0)))⟩])
 (.block 2 f32_l1))
 (.seq (.region [⟨(some 54), none, .mv (.t 5)⟩, ⟨(some 4), none, .mv (.t 54)⟩])
 .ret)))))
def f32_fn : AFun := ⟨f32, [.tmp 4]⟩
theorem f32_ok : funOf Tryz.prog 32 = some f32_fn := by kernel_rfl
def f33 : ACode := (.seq (.region [⟨(some 4), none, .mv (.t 0)⟩, ⟨(some 5), none, .mv (.t 1)⟩, ⟨(some 6), none, .lenStr (.t 5)⟩, ⟨(some 7), none, .call 34 [(.t 4), (.t 6)]⟩])
 (.region [⟨(some 8), none, .mv (.t 0)⟩, ⟨(some 9), none, .mv (.t 0)⟩, ⟨(some 10), none, .nilck (.t 9)⟩, ⟨(some 11), none, .fieldAddr 0 (.t 10)⟩, ⟨(some 12), none, .load none (.t 11)⟩, ⟨(some 13), none, .mv (.t 1)⟩, ⟨(some 14), none, .appT 5 (.t 12) (.t 13)⟩, ⟨(some 15), none, .nilck (.t 8)⟩, ⟨(some 16), none, .fieldAddr 0 (.t 15)⟩, ⟨none, none, .store 1 (.t 16) (.t 14)⟩]))
def f33_fn : AFun := ⟨f33, []⟩
theorem f33_ok : funOf Tryz.prog 33 = some f33_fn := by kernel_rfl
def f34_b0 : ACode := (.seq (.seq (.region [⟨(some 12), none, .mv (.t 4)⟩, ⟨(some 13), none, .bin .geq 141 true (.t 12) (.c (.val (.int .u64 128)))⟩])
 (.cond (.t 13) .skip (.exit 0)))
 (.block 1 (.seq (.region [⟨(some 14), none, .mv (.t 0)⟩, ⟨(some 15), none, .mv (.t 0)⟩, ⟨(some 16), none, .nilck (.t 15)⟩, ⟨(some 17), none, .fieldAddr 0 (.t 16)⟩, ⟨(some 18), none, .load none (.t 17)⟩, ⟨(some 19), none, .mv (.t 4)⟩, ⟨(some 20), none, .bin .and 141 true (.t 19) (.c (.val (.int .u64 127)))⟩, ⟨(some 21), none, .conv .u8 (.t 20)⟩, ⟨(some 22), none, .bin .or 5 true (.t 21) (.c (.val (.int .u8 128)))⟩, ⟨(some 23), none, .buildSlice 1 1 [(.val (.int .u8 0))] [(0, 1, (.t 22))]⟩, ⟨(some 24), none, .appT 5 (.t 18) (.t 23)⟩, ⟨(some 25), none, .nilck (.t 14)⟩, ⟨(some 26), none, .fieldAddr 0 (.t 25)⟩, ⟨none, none, .store 1 (.t 26) (.t 24)⟩])
 (.region [⟨(some 27), none, .mv (.t 4)⟩, ⟨(some 28), none, .bin .shr 141 true (.t 27) (.c (.val (.int .u64 7)))⟩, ⟨(some 4), none, .mv (.t 28)⟩]))))
def f34_l0 : ACode := .loop f34_b0
def f34 : ACode := (.seq (.region [⟨(some 5), none, .mv (.t 1)⟩, ⟨(some 6), none, .conv .u64 (.t 5)⟩, ⟨(some 7), none, .bin .shl 141 true (.t 6) (.c (.val (.int .u64 1)))⟩, ⟨(some 8), none, .mv (.t 1)⟩, ⟨(some 9), none, .bin .shr 3 true (.t 8) (.c (.val (.int .u64 63)))⟩, ⟨(some 10), none, .conv .u64 (.t 9)⟩, ⟨(some 11), none, .bin .xor 141 false (.t 7) (.t 10)⟩, ⟨(some 4), none, .mv (.t 11)⟩])
 (.seq (.block 0 f34_l0)
 (.region [⟨(some 29), none, .mv (.t 0)⟩, ⟨(some 30), none, .mv (.t 0)⟩, ⟨(some 31), none, .nilck (.t 30)⟩, ⟨(some 32), none, .fieldAddr 0 (.t 31)⟩, ⟨(some 33), none, .load none (.t 32)⟩, ⟨(some 34), none, .mv (.t 4)⟩, ⟨(some 35), none, .conv .u8 (.t 34)⟩, ⟨(some 36), none, .buildSlice 1 1 [(.val (.int .u8 0))] [(0, 1, (.t 35))]⟩, ⟨(some 37), none, .appT 5 (.t 33) (.t 36)⟩, ⟨(some 38), none, .nilck (.t 29)⟩, ⟨(some 39), none, .fieldAddr 0 (.t 38)⟩, ⟨none, none, .store 1 (.t 39) (.t 37)⟩])))
def f34_fn : AFun := ⟨f34, []⟩
theorem f34_ok : funOf Tryz.prog 34 = some f34_fn := by kernel_rfl
def f35_b0 : ACode := (.seq (.region [⟨(some 27), none, .bin .lss 3 false (.t 26) (.t 25)⟩])
 (.seq (.cond (.t 27) .skip (.exit 0))
 (.seq (.block 1 (.seq (.region [⟨(some 28), none, .idxAddrS 4 (.t 24) (.t 26)⟩, ⟨(some 29), none, .load (some 4) (.t 28)⟩, ⟨(some 5), none, .alloc [(.val (.int .i64 0)), (.val (.string ⟨#[]⟩)), (.val (.int .i64 0)), (.val (.slice none 0 0))]⟩, ⟨none, none, .store 4 (.t 5) (.t 29)⟩])
 (.region [⟨(some 30), none, .mv (.t 0)⟩, ⟨(some 31), none, .load (some 4) (.t 5)⟩, ⟨(some 32), none, .call 35 [(.t 30), (.t 31)]⟩])))
 (.region [⟨(some 33), none, .bin .add 3 true (.t 26) (.c (.val (.int .i64 1)))⟩, ⟨(some 26), none, .mv (.t 33)⟩]))))
def f35_l0 : ACode := .loop f35_b0
def f35 : ACode := (.seq (.region [⟨(some 3), none, .box (.t 1)⟩])
 (.seq (.region [⟨(some 6), none, .mv (.t 0)⟩, ⟨(some 7), none, .fieldAddr 0 (.t 3)⟩, ⟨(some 8), none, .load none (.t 7)⟩, ⟨(some 9), none, .call 34 [(.t 6), (.t 8)]⟩])
 (.seq (.region [⟨(some 10), none, .mv (.t 0)⟩, ⟨(some 11), none, .fieldAddr 1 (.t 3)⟩, ⟨(some 12), none, .load none (.t 11)⟩, ⟨(some 13), none, .call 33 [(.t 10), (.t 12)]⟩])
 (.seq (.region [⟨(some 14), none, .mv (.t 0)⟩, ⟨(some 15), none, .fieldAddr 2 (.t 3)⟩, ⟨(some 16), none, .load none (.t 15)⟩, ⟨(some 17), none, .call 34 [(.t 14), (.t 16)]⟩])
 (.seq (.region [⟨(some 18), none, .mv (.t 0)⟩, ⟨(some 19), none, .fieldAddr 3 (.t 3)⟩, ⟨(some 20), none, .load none (.t 19)⟩, ⟨(some 21), none, .lenS (.t 20)⟩, ⟨(some 22), none, .call 34 [(.t 18), (.t 21)]⟩])
 (.seq (.region [⟨(some 23), none, .fieldAddr 3 (.t 3)⟩, ⟨(some 24), none, .load none (.t 23)⟩, ⟨(some 25), none, .lenS (.t 24)⟩, ⟨(some 26), none, .mv (.c (.val (.int .i64 0)))⟩])
 (.block 0 f35_l0)))))))
def f35_fn : AFun := ⟨f35, []⟩
theorem f35_ok : funOf Tryz.prog 35 = some f35_fn := by kernel_rfl
def f36_b0 : ACode := (.seq (.region [⟨(some 45), none, .bin .lss 3 false (.t 44) (.t 43)⟩])
 (.seq (.cond (.t 45) .skip (.exit 2))
 (.seq (.block 3 (.seq (.region [⟨(some 46), none, .idxAddrS 1 (.t 42) (.t 44)⟩, ⟨(some 47), none, .load none (.t 46)⟩, ⟨(some 8), none, .mv (.t 47)⟩])
 (.region [⟨(some 48), none, .mv (.t 0)⟩, ⟨(some 49), none, .mv (.t 8)⟩, ⟨(some 50), none, .call 34 [(.t 48), (.t 49)]⟩])))
 (.region [⟨(some 51), none, .bin .add 3 true (.t 44) (.c (.val (.int .i64 1)))⟩, ⟨(some 44), none, .mv (.t 51)⟩]))))
def f36_l0 : ACode := .loop f36_b0
def f36_b1 : ACode := (.seq (.region [⟨(some 28), none, .bin .lss 3 false (.t 27) (.t 26)⟩])
 (.seq (.cond (.t 28) .skip (.exit 0))
 (.seq (.block 1 (.seq (.region [⟨(some 29), none, .idxAddrS 2 (.t 25) (.t 27)⟩, ⟨(some 30), none, .load (some 2) (.t 29)⟩, ⟨(some 5), none, .alloc [(.val (.bool false)), (.val (.slice none 0 0))]⟩, ⟨none, none, .store 2 (.t 5) (.t 30)⟩])
 (.seq (.region [⟨(some 6), none, .mv (.c (.val (.int .i64 0)))⟩])
 (.seq (.seq (.region [⟨(some 31), none, .fieldAddr 0 (.t 5)⟩, ⟨(some 32), none, .load none (.t 31)⟩])
 (.cond (.t 32) (.region [⟨(some 6), none, .mv (.c (.val (.int .i64 1)))⟩]) .skip))
 (.seq (.region [⟨(some 33), none, .mv (.t 0)⟩, ⟨(some 34), none, .mv (.t 6)⟩, ⟨(some 35), none, .call 34 [(.t 33), (.t 34)]⟩])
 (.seq (.region [⟨(some 36), none, .mv (.t 0)⟩, ⟨(some 37), none, .fieldAddr 1 (.t 5)⟩, ⟨(some 38), none, .load none (.t 37)⟩, ⟨(some 39), none, .lenS (.t 38)⟩, ⟨(some 40), none, .call 34 [(.t 36), (.t 39)]⟩])
 (.seq (.region [⟨(some 41), none, .fieldAddr 1 (.t 5)⟩, ⟨(some 42), none, .load none (.t 41)⟩, ⟨(some 43), none, .lenS (.t 42)⟩, ⟨(some 44), none, .mv (.c (.val (.int .i64 0)))⟩])
 (.block 2 f36_l0))))))))
 (.region [⟨(some 52), none, .bin .add 3 true (.t 27) (.c (.val (.int .i64 1)))⟩, ⟨(some 27), none, .mv (.t 52)⟩]))))
def f36_l1 : ACode := .loop f36_b1
def f36_b2 : ACode := (.seq (.region [⟨(some 62), none, .bin .lss 3 false (.t 61) (.t 60)⟩])
 (.seq (.cond (.t 62) .skip (.exit 4))
 (.seq (.block 5 (.seq (.region [⟨(some 63), none, .idxAddrS 4 (.t 59) (.t 61)⟩, ⟨(some 64), none, .load (some 4) (.t 63)⟩, ⟨(some 10), none, .alloc [(.val (.int .i64 0)), (.val (.int .i64 0)), (.val (.slice none 0 0)), (.val (.slice none 0 0))]⟩, ⟨none, none, .store 4 (.t 10) (.t 64)⟩])
 (.region [⟨(some 65), none, .mv (.t 0)⟩, ⟨(some 66), none, .load (some 4) (.t 10)⟩, ⟨(some 67), none, .call 36 [(.t 65), (.t 66)]⟩])))
 (.region [⟨(some 68), none, .bin .add 3 true (.t 61) (.c (.val (.int .i64 1)))⟩, ⟨(some 61), none, .mv (.t 68)⟩]))))
def f36_l2 : ACode := .loop f36_b2
def f36 : ACode := (.seq (.region [⟨(some 3), none, .box (.t 1)⟩])
 (.seq (.region [⟨(some 11), none, .mv (.t 0)⟩, ⟨(some 12), none, .fieldAddr 0 (.t 3)⟩, ⟨(some 13), none, .load none (.t 12)⟩, ⟨(some 14), none, .call 34 [(.t 11), (.t 13)]⟩])
 (.seq (.region [⟨(some 15), none, .mv (.t 0)⟩, ⟨(some 16), none, .fieldAddr 1 (.t 3)⟩, ⟨(some 17), none, .load none (.t 16)⟩, ⟨(some 18), none, .call 34 [(.t 15), (.t 17)]⟩])
 (.seq (.region [⟨(some 19), none, .mv (.t 0)⟩, ⟨(some 20), none, .fieldAddr 2 (.t 3)⟩, ⟨(some 21), none, .load none (.t 20)⟩, ⟨(some 22), none, .lenS (.t 21)⟩, ⟨(some 23), none, .call 34 [(.t 19), (.t 22)]⟩])
 (.seq (.seq (.region [⟨(some 24), none, .fieldAddr 2 (.t 3)⟩, ⟨(some 25), none, .load none (.t 24)⟩, ⟨(some 26), none, .lenS (.t 25)⟩, ⟨(some 27), none, .mv (.c (.val (.int .i64 0)))⟩])
 (.block 0 f36_l1))
 (.seq (.region [⟨(some 53), none, .mv (.t 0)⟩, ⟨(some 54), none, .fieldAddr 3 (.t 3)⟩, ⟨(some 55), none, .load none (.t 54)⟩, ⟨(some 56), none, .lenS (.t 55)⟩, ⟨(some 57), none, .call 34 [(.t 53), (.t 56)]⟩])
 (.seq (.region [⟨(some 58), none, .fieldAddr 3 (.t 3)⟩, ⟨(some 59), none, .load none (.t 58)⟩, ⟨(some 60), none, .lenS (.t 59)⟩, ⟨(some 61), none, .mv (.c (.val (.int .i64 0)))⟩])
 (.block 4 f36_l2))))))))
def f36_fn : AFun := ⟨f36, []⟩
theorem f36_ok : funOf Tryz.prog 36 = some f36_fn := by kernel_rfl
def f37_b0 : ACode := (.seq (.seq (.region [⟨(some 5), none, .mv (.t 4)⟩, ⟨(some 6), none, .mv (.t 0)⟩, ⟨(some 7), none, .lenStr (.t 6)⟩, ⟨(some 8), none, .bin .lss 3 false (.t 5) (.t 7)⟩])
 (.cond (.t 8) .skip (.exit 0)))
 (.seq (.block 1 (.region [⟨(some 11), none, .mv (.t 3)⟩, ⟨(some 12), none, .mv (.t 0)⟩, ⟨(some 13), none, .mv (.t 4)⟩, ⟨(some 14), none, .idxStr (.t 12) (.t 13)⟩, ⟨(some 15), none, .conv .u32 (.t 14)⟩, ⟨(some 16), none, .bin .xor 149 false (.t 11) (.t 15)⟩, ⟨(some 17), none, .bin .mul 149 true (.t 16) (.c (.val (.int .u32 16777619)))⟩, ⟨(some 3), none, .mv (.t 17)⟩]))
 (.region [⟨(some 9), none, .mv (.t 4)⟩, ⟨(some 10), none, .bin .add 3 true (.t 9) (.c (.val (.int .i64 1)))⟩, ⟨(some 4), none, .mv (.t 10)⟩])))
def f37_l0 : ACode := .loop f37_b0
def f37 : ACode := (.seq (.region [⟨(some 2), none, .mv (.c (.val (.int .i64 0)))⟩])
 (.seq (.region [⟨(some 3), none, .mv (.c (.val (.int .u32 2166136261)))⟩])
 (.seq (.seq (.region [⟨(some 4), none, .mv (.c (.val (.int .i64 0)))⟩])
 (.block 0 f37_l0))
 (.seq (.region [⟨(some 18), none, .mv (.t 3)⟩, ⟨(some 19), none, .conv .i64 (.t 18)⟩, ⟨(some 2), none, .mv (.t 19)⟩])
 .ret))))
def f37_fn : AFun := ⟨f37, [.tmp 2]⟩
theorem f37_ok : funOf Tryz.prog 37 = some f37_fn := by kernel_rfl
def f42_b0 : ACode := (.seq (.region [⟨(some 10), none, .bin .lss 3 false (.t 9) (.t 8)⟩])
 (.seq (.cond (.t 10) .skip (.exit 0))
 (.seq (.block 1 (.seq (.region [⟨(some 11), none, .idxAddrS 4 (.t 7) (.t 9)⟩, ⟨(some 12), none, .load (some 4) (.t 11)⟩, ⟨(some 5), none, .alloc [(.val (.int .i64 0)), (.val (.int .i64 0)), (.val (.slice none 0 0)), (.val (.slice none 0 0))]⟩, ⟨none, none, .store 4 (.t 5) (.t 12)⟩])
 (.region [⟨(some 13), none, .mv (.t 3)⟩, ⟨(some 14), none, .load (some 4) (.t 5)⟩, ⟨(some 15), none, .call 42 [(.t 14)]⟩, ⟨(some 16), none, .bin .add 3 false (.t 13) (.t 15)⟩, ⟨(some 3), none, .mv (.t 16)⟩])))
 (.region [⟨(some 17), none, .bin .add 3 true (.t 9) (.c (.val (.int .i64 1)))⟩, ⟨(some 9), none, .mv (.t 17)⟩]))))
def f42_l0 : ACode := .loop f42_b0
def f42 : ACode := (.seq (.region [⟨(some 1), none, .box (.t 0)⟩, ⟨(some 2), none, .mv (.c (.val (.int .i64 0)))⟩])
 (.seq (.region [⟨(some 3), none, .mv (.c (.val (.int .i64 1)))⟩])
 (.seq (.seq (.region [⟨(some 6), none, .fieldAddr 3 (.t 1)⟩, ⟨(some 7), none, .load none (.t 6)⟩, ⟨(some 8), none, .lenS (.t 7)⟩, ⟨(some 9), none, .mv (.c (.val (.int .i64 0)))⟩])
 (.block 0 f42_l0))
 (.seq (.region [⟨(some 18), none, .mv (.t 3)⟩, ⟨(some 2), none, .mv (.t 18)⟩])
 .ret))))
def f42_fn : AFun := ⟨f42, [.tmp 2]⟩
theorem f42_ok : funOf Tryz.prog 42 = some f42_fn := by kernel_rfl
def f43_b0 : ACode := (.seq (.seq (.region [⟨(some 5), none, .mv (.t 4)⟩, ⟨(some 6), none, .fieldAddr 3 (.t 1)⟩, ⟨(some 7), none, .load none (.t 6)⟩, ⟨(some 8), none, .lenS (.t 7)⟩, ⟨(some 9), none, .bin .lss 3 false (.t 5) (.t 8)⟩])
 (.cond (.t 9) .skip (.exit 0)))
 (.seq (.block 1 (.region [⟨(some 12), none, .mv (.t 3)⟩, ⟨(some 13), none, .fieldAddr 3 (.t 1)⟩, ⟨(some 14), none, .load none (.t 13)⟩, ⟨(some 15), none, .mv (.t 4)⟩, ⟨(some 16), none, .idxAddrS 4 (.t 14) (.t 15)⟩, ⟨(some 17), none, .load (some 4) (.t 16)⟩, ⟨(some 18), none, .call 43 [(.t 17)]⟩, ⟨(some 19), none, .bin .add 3 false (.t 12) (.t 18)⟩, ⟨(some 3), none, .mv (.t 19)⟩]))
 (.region [⟨(some 10), none, .mv (.t 4)⟩, ⟨(some 11), none, .bin .add 3 true (.t 10) (.c (.val (.int .i64 1)))⟩, ⟨(some 4), none, .mv (.t 11)⟩])))
def f43_l0 : ACode := .loop f43_b0
def f43 : ACode := (.seq (.region [⟨(some 1), none, .box (.t 0)⟩, ⟨(some 2), none, .mv (.c (.val (.int .i64 0)))⟩])
 (.seq (.region [⟨(some 3), none, .mv (.c (.val (.int .i64 1)))⟩])
 (.seq (.seq (.region [⟨(some 4), none, .mv (.c (.val (.int .i64 0)))⟩])
 (.block 0 f43_l0))
 (.seq (.region [⟨(some 20), none, .mv (.t 3)⟩, ⟨(some 2), none, .mv (.t 20)⟩])
 .ret))))
def f43_fn : AFun := ⟨f43, [.tmp 2]⟩
theorem f43_ok : funOf Tryz.prog 43 = some f43_fn := by kernel_rfl
end Go.Proofs.YtijpnlmmaoecgaaGreatDoor

namespace Go.Proofs.YtijpnlmmaoecgaaGreatDoor
open Go Go.AM
noncomputable def E1 : Env := E0.tab [(7, [], .val (.bool true))]
theorem E1_P : E1.P = Tryz.prog := rfl
noncomputable def freshF (g : Nat) : Bool := (E1.shared.get g).isNone && !Nat.beq 7 g
theorem fresh_shared {g : Nat} (h : freshF g = true) : E1.shared.get g = none := by
 simp only [freshF, Bool.and_eq_true, Option.isNone_iff_eq_none] at h
 exact h.1
theorem fresh_known {g : Nat} (h : freshF g = true) (l : List AV) : E1.known g l = none := by
 simp only [freshF, Bool.and_eq_true, Bool.not_eq_true'] at h
 show (bif Nat.beq 7 g && eqL [] l then some (AV.val (.bool true)) else none) = none
 rw [h.2, Bool.false_and]
 rfl
theorem enter1 {g : Nat} {l : List AV} {h : AH} {a : AFun} (P : AV → AH → Prop) (hf : funOf Tryz.prog g = some a)
  (H : ∀ s : St, (∀ i v, (enterTm l 0 .nil).get i = some v → s.eval (.t i) = some v) → s.h = h → s.defers = [] → s.round = none → Run E1 a.body s fun e s => (e = .normal ∨ e = .ret) ∧ s.defers = [] ∧ ∃ r, resultsA E1.globs s a.res = some r ∧ P (oneOrTup r) s.h) :
  ∃ v h', P v h' ∧ Ev fun n => enterA E1 (exec E1 n) g l h = some (v, h') := by
 obtain ⟨e, s', x, y1, y2, r, y3, hp⟩ := (H { tm := enterTm l 0 .nil, h := h, defers := [], round := none } (fun _ _ h => h) rfl rfl rfl)
 refine ⟨oneOrTup r, s'.h, hp, x.mono fun n p => ?_⟩
 have hl : leaveA E1 a s' = some (oneOrTup r, s'.h) := by
  obtain ⟨tm, h1, df, rd⟩ := s'
  simp only at y2 y3
  subst y2
  simp only [leaveA, runDefers, y3]
 simp only [enterA, (show funOf E1.P g = some a by rw [E1_P]; exact hf), p]
 rcases y1 with rfl | rfl <;> exact hl
theorem shared0 {g : Nat} {l : List AV} {h : AH} {a : AFun} (P : AV → AH → Prop) (hs : E1.shared.get g = some ()) (hf : funOf Tryz.prog g = some a)
  (H : ∀ s : St, (∀ i v, (enterTm l 0 .nil).get i = some v → s.eval (.t i) = some v) → s.h = h → s.defers = [] → s.round = none → wp E1 a.body s fun e s => (e = .normal ∨ e = .ret) ∧ s.defers = [] ∧ ∃ r, resultsA E1.globs s a.res = some r ∧ P (oneOrTup r) s.h) :
  ∃ v h', RunCall E1 (.f g) l h v h' ∧ P v h' := by
 obtain ⟨v, h', hp, hr⟩ := enter1 P hf fun s h1 h2 h3 h4 => wp_run _ _ _ (H s h1 h2 h3 h4)
 refine ⟨v, h', hr.mono fun n p => ?_, hp⟩
 simp only [callA, callF, hs, p]
theorem pure0 {g : Nat} {l : List AV} {a : AFun} {r : AV} (hs : freshF g = true) (hf : funOf Tryz.prog g = some a) (hl : ∀ v ∈ l, Tree v) (hr : isFlat r = true) (ht : Tree r)
  (H : ∀ s : St, (∀ i v, (enterTm l 0 .nil).get i = some v → s.eval (.t i) = some v) → s.h = .empty → s.defers = [] → s.round = none → wp E1 a.body s fun e s => (e = .normal ∨ e = .ret) ∧ s.defers = [] ∧ resultsA E1.globs s a.res = some [r]) (h : AH) :
  RunCall E1 (.f g) l h r h := by
 obtain ⟨v, h', hp, hrun⟩ := enter1 (g := g) (l := l) (h := .empty) (a := a) (fun v _ => v = r) hf fun s h1 h2 h3 h4 => (wp_run _ _ _ (H s h1 h2 h3 h4)).mono fun e s' ⟨k1, k2, k3⟩ => ⟨k1, k2, [r], k3, rfl⟩
 subst hp
 exact call_tree (fresh_shared hs) (fresh_known hs _) hl hr ht ⟨h', hrun⟩ h
end Go.Proofs.YtijpnlmmaoecgaaGreatDoor

namespace Go.Proofs.YtijpnlmmaoecgaaGreatDoor
open Go Go.AM
def f3 : ACode := (.seq (.region [⟨(some 2), none, .mv (.c (.val (.bool false)))⟩])
 (.seq (.seq (.region [⟨(some 7), none, .mv (.t 0)⟩, ⟨(some 8), none, .lenS (.t 7)⟩, ⟨(some 9), none, .bin .gtr 3 true (.t 8) (.c (.val (.int .i64 4000)))⟩])
 (.cond (.t 9) (.seq (.region [⟨(some 10), none, .call 7 []⟩, ⟨(some 2), none, .mv (.t 10)⟩])
 .ret) .skip))
 (.seq (.region [⟨(some 12), none, .mv (.t 0)⟩, ⟨(some 13), none, .call 8 [(.t 12)]⟩, ⟨(some 11), none, .mv (.t 13)⟩, ⟨(some 14), none, .extract 0 (.t 11)⟩, ⟨(some 15), none, .extract 1 (.t 11)⟩, ⟨(some 3), none, .alloc [(.val (.string ⟨#[]⟩)), (.val (.int .i64 0)), (.val (.slice none 0 0)), (.val (.slice none 0 0))]⟩, ⟨none, none, .store 4 (.t 3) (.t 14)⟩, ⟨(some 4), none, .mv (.t 15)⟩])
 (.seq (.region [⟨(some 17), none, .mv (.t 0)⟩, ⟨(some 18), none, .call 9 [(.t 17)]⟩, ⟨(some 16), none, .mv (.t 18)⟩, ⟨(some 19), none, .extract 0 (.t 16)⟩, ⟨(some 20), none, .extract 1 (.t 16)⟩, ⟨(some 5), none, .alloc [(.val (.string ⟨#[]⟩)), (.val (.int .i64 0)), (.val (.slice none 0 0)), (.val (.slice none 0 0))]⟩, ⟨none, none, .store 4 (.t 5) (.t 19)⟩, ⟨(some 6), none, .mv (.t 20)⟩])
 (.seq (.region [⟨(some 21), none, .load (some 4) (.t 3)⟩, ⟨(some 22), none, .load (some 4) (.t 5)⟩, ⟨(some 23), none, .call 10 [(.t 21), (.t 22)]⟩, ⟨(some 24), none, .mv (.t 23)⟩, ⟨(some 25), some (24, true), .mv (.t 4)⟩, ⟨(some 26), some (24, true), .mv (.t 6)⟩, ⟨(some 27), some (24, true), .bin .eql 28 false (.t 25) (.t 26)⟩, ⟨(some 28), none, .pick (.t 24) (.t 27) (.c (.val (.bool false)))⟩, ⟨(some 29), none, .mv (.t 28)⟩, ⟨(some 30), some (29, true), .call 7 []⟩, ⟨(some 31), none, .pick (.t 29) (.t 30) (.c (.val (.bool false)))⟩, ⟨(some 2), none, .mv (.t 31)⟩])
 .ret)))))
def f23 : ACode := (.seq (.region [⟨(some 2), none, .mv (.c (.val (.slice none 0 0)))⟩])
 (.seq (.region [⟨(some 4), none, .mv (.t 0)⟩, ⟨(some 5), none, .strOfBytes (.t 4)⟩, ⟨(some 6), none, .call 54 [(.t 5)]⟩, ⟨(some 3), none, .mv (.t 6)⟩])
 (.seq (.region [⟨(some 7), none, .mv (.t 0)⟩, ⟨(some 8), none, .mv (.t 3)⟩, ⟨(some 9), none, .bin .shr 3 true (.t 8) (.c (.val (.int .u64 24)))⟩, ⟨(some 10), none, .conv .u8 (.t 9)⟩, ⟨(some 11), none, .mv (.t 3)⟩, ⟨(some 12), none, .bin .shr 3 true (.t 11) (.c (.val (.int .u64 16)))⟩, ⟨(some 13), none, .conv .u8 (.t 12)⟩, ⟨(some 14), none, .mv (.t 3)⟩, ⟨(some 15), none, .bin .shr 3 true (.t 14) (.c (.val (.int .u64 8)))⟩, ⟨(some 16), none, .conv .u8 (.t 15)⟩, ⟨(some 17), none, .mv (.t 3)⟩, ⟨(some 18), none, .conv .u8 (.t 17)⟩, ⟨(some 19), none, .buildSlice 1 4 [(.val (.int .u8 0)), (.val (.int .u8 0)), (.val (.int .u8 0)), (.val (.int .u8 0))] [(0, 1, (.t 10)), (1, 1, (.t 13)), (2, 1, (.t 16)), (3, 1, (.t 18))]⟩, ⟨(some 20), none, .appT 5 (.t 7) (.t 19)⟩, ⟨(some 2), none, .mv (.t 20)⟩])
 .ret)))
def f23_fn : AFun := ⟨f23, [.tmp 2]⟩
theorem f23_ok : funOf Tryz.prog 23 = some f23_fn := by kernel_rfl
def f54_b0 : ACode := (.seq (.region [⟨(some 8), none, .bin .lss 3 false (.t 7) (.t 6)⟩])
 (.seq (.cond (.t 8) .skip (.exit 0))
 (.seq (.block 1 (.seq (.region [⟨(some 9), none, .mv (.t 7)⟩, ⟨(some 4), none, .mv (.t 9)⟩])
 (.region [⟨(some 10), none, .mv (.t 3)⟩, ⟨(some 11), none, .mv (.t 0)⟩, ⟨(some 12), none, .mv (.t 4)⟩, ⟨(some 13), none, .idxStr (.t 11) (.t 12)⟩, ⟨(some 14), none, .conv .i64 (.t 13)⟩, ⟨(some 15), none, .bin .xor 3 false (.t 10) (.t 14)⟩, ⟨(some 16), none, .bin .mul 3 true (.t 15) (.c (.val (.int .i64 16777619)))⟩, ⟨(some 17), none, .bin .rem 3 true (.t 16) (.c (.val (.int .i64 4294967296)))⟩, ⟨(some 3), none, .mv (.t 17)⟩])))
 (.region [⟨(some 18), none, .bin .add 3 true (.t 7) (.c (.val (.int .i64 1)))⟩, ⟨(some 7), none, .mv (.t 18)⟩]))))
def f54_l0 : ACode := .loop f54_b0
def f54 : ACode := (.seq (.region [⟨(some 2), none, .mv (.c (.val (.int .i64 0)))⟩])
 (.seq (.region [⟨(some 3), none, .mv (.c (.val (.int .i64 2166136261)))⟩])
 (.seq (.seq (.region [⟨(some 5), none, .mv (.t 0)⟩, ⟨(some 6), none, .lenStr (.t 5)⟩, ⟨(some 7), none, .mv (.c (.val (.int .i64 0)))⟩])
 (.block 0 f54_l0))
 (.seq (.region [⟨(some 19), none, .mv (.t 3)⟩, ⟨(some 2), none, .mv (.t 19)⟩])
 .ret))))
def f54_fn : AFun := ⟨f54, [.tmp 2]⟩
theorem f54_ok : funOf Tryz.prog 54 = some f54_fn := by kernel_rfl
end Go.Proofs.YtijpnlmmaoecgaaGreatDoor

namespace Go.Proofs.YtijpnlmmaoecgaaGreatDoor
open Go Go.AM
def f13_o0 : List DOp := [⟨⟨(some 10), none, .mv (.t 3)⟩, [3], []⟩, ⟨⟨(some 11), none, .fieldAddr 0 (.t 1)⟩, [1], [0]⟩, ⟨⟨(some 12), none, .load none (.t 11)⟩, [11], [0]⟩, ⟨⟨(some 13), none, .call 38 [(.t 12)]⟩, [12], [0]⟩, ⟨⟨(some 14), none, .appT 5 (.t 10) (.t 13)⟩, [10, 13], []⟩, ⟨⟨(some 15), none, .fieldAddr 1 (.t 1)⟩, [1], [0, 1, 2, 3, 4]⟩, ⟨⟨(some 16), none, .load none (.t 15)⟩, [15], [0, 1, 2, 3, 4]⟩, ⟨⟨(some 17), none, .call 39 [(.t 16)]⟩, [16], []⟩, ⟨⟨(some 18), none, .appT 5 (.t 14) (.t 17)⟩, [14, 17], []⟩, ⟨⟨(some 3), none, .mv (.t 18)⟩, [18], []⟩]
def f13_d0 : ACode := .draw f13_o0
def f13_o1 : List DOp := [⟨⟨(some 32), none, .mv (.t 3)⟩, [3], []⟩, ⟨⟨(some 33), none, .fieldAddr 2 (.t 1)⟩, [1], [0]⟩, ⟨⟨(some 34), none, .load none (.t 33)⟩, [33], [0]⟩, ⟨⟨(some 35), none, .mv (.t 4)⟩, [4], [0, 1, 2]⟩, ⟨⟨(some 36), none, .idxAddrS 5 (.t 34) (.t 35)⟩, [34, 35], [0]⟩, ⟨⟨(some 37), none, .fieldAddr 0 (.t 36)⟩, [36], [0]⟩, ⟨⟨(some 38), none, .load none (.t 37)⟩, [37], [0]⟩, ⟨⟨(some 39), none, .call 38 [(.t 38)]⟩, [38], [0]⟩, ⟨⟨(some 40), none, .appT 5 (.t 32) (.t 39)⟩, [32, 39], []⟩, ⟨⟨(some 41), none, .fieldAddr 2 (.t 1)⟩, [1], [0, 1, 2, 3, 4, 5, 6, 7, 8]⟩, ⟨⟨(some 42), none, .load none (.t 41)⟩, [41], [0, 1, 2, 3, 4, 5, 6, 7, 8]⟩, ⟨⟨(some 43), none, .mv (.t 4)⟩, [4], [0, 1, 2, 3, 4, 5, 6, 7, 8, 9, 10]⟩, ⟨⟨(some 44), none, .idxAddrS 5 (.t 42) (.t 43)⟩, [42, 43], [0, 1, 2, 3, 4, 5, 6, 7, 8]⟩, ⟨⟨(some 45), none, .fieldAddr 1 (.t 44)⟩, [44], [0, 1, 2, 3, 4, 5, 6, 7, 8]⟩, ⟨⟨(some 46), none, .load (some 4) (.t 45)⟩, [45], [0, 1, 2, 3, 4, 5, 6, 7, 8]⟩, ⟨⟨(some 47), none, .call 40 [(.t 46)]⟩, [46], []⟩, ⟨⟨(some 48), none, .appT 5 (.t 40) (.t 47)⟩, [40, 47], []⟩, ⟨⟨(some 3), none, .mv (.t 48)⟩, [48], []⟩]
def f13_d1 : ACode := .draw f13_o1
def f13_b2 : ACode := (.seq (.seq (.region [⟨(some 25), none, .mv (.t 4)⟩, ⟨(some 26), none, .fieldAddr 2 (.t 1)⟩, ⟨(some 27), none, .load none (.t 26)⟩, ⟨(some 28), none, .lenS (.t 27)⟩, ⟨(some 29), none, .bin .lss 3 false (.t 25) (.t 28)⟩])
 (.cond (.t 29) .skip (.exit 0)))
 (.seq (.block 1 f13_d1)
 (.region [⟨(some 30), none, .mv (.t 4)⟩, ⟨(some 31), none, .bin .add 3 true (.t 30) (.c (.val (.int .i64 1)))⟩, ⟨(some 4), none, .mv (.t 31)⟩])))
def f13_l2 : ACode := .loop f13_b2
def f13_b3 : ACode := (.seq (.seq (.region [⟨(some 55), none, .mv (.t 5)⟩, ⟨(some 56), none, .fieldAddr 3 (.t 1)⟩, ⟨(some 57), none, .load none (.t 56)⟩, ⟨(some 58), none, .lenS (.t 57)⟩, ⟨(some 59), none, .bin .lss 3 false (.t 55) (.t 58)⟩])
 (.cond (.t 59) .skip (.exit 2)))
 (.seq (.block 3 (.region [⟨(some 62), none, .mv (.t 3)⟩, ⟨(some 63), none, .fieldAddr 3 (.t 1)⟩, ⟨(some 64), none, .load none (.t 63)⟩, ⟨(some 65), none, .mv (.t 5)⟩, ⟨(some 66), none, .idxAddrS 4 (.t 64) (.t 65)⟩, ⟨(some 67), none, .load (some 4) (.t 66)⟩, ⟨(some 68), none, .call 41 [(.t 67)]⟩, ⟨(some 69), none, .appT 5 (.t 62) (.t 68)⟩, ⟨(some 3), none, .mv (.t 69)⟩]))
 (.region [⟨(some 60), none, .mv (.t 5)⟩, ⟨(some 61), none, .bin .add 3 true (.t 60) (.c (.val (.int .i64 1)))⟩, ⟨(some 5), none, .mv (.t 61)⟩])))
def f13_l3 : ACode := .loop f13_b3
def f13 : ACode := (.seq (.region [⟨(some 1), none, .box (.t 0)⟩, ⟨(some 2), none, .mv (.c (.val (.slice none 0 0)))⟩])
 (.seq (.region [⟨(some 6), none, .buildSlice 1 2 [(.val (.int .u8 0)), (.val (.int .u8 0))] [(0, 1, (.c (.val (.int .u8 69)))), (1, 1, (.c (.val (.int .u8 67))))]⟩, ⟨(some 7), none, .convId (.t 6)⟩, ⟨(some 8), none, .buildSlice 1 1 [(.val (.int .u8 0))] [(0, 1, (.c (.val (.int .u8 1))))]⟩, ⟨(some 9), none, .appT 5 (.t 7) (.t 8)⟩, ⟨(some 3), none, .mv (.t 9)⟩])
 (.seq f13_d0
 (.seq (.region [⟨(some 19), none, .mv (.t 3)⟩, ⟨(some 20), none, .fieldAddr 2 (.t 1)⟩, ⟨(some 21), none, .load none (.t 20)⟩, ⟨(some 22), none, .lenS (.t 21)⟩, ⟨(some 23), none, .call 39 [(.t 22)]⟩, ⟨(some 24), none, .appT 5 (.t 19) (.t 23)⟩, ⟨(some 3), none, .mv (.t 24)⟩])
 (.seq (.seq (.region [⟨(some 4), none, .mv (.c (.val (.int .i64 0)))⟩])
 (.block 0 f13_l2))
 (.seq (.region [⟨(some 49), none, .mv (.t 3)⟩, ⟨(some 50), none, .fieldAddr 3 (.t 1)⟩, ⟨(some 51), none, .load none (.t 50)⟩, ⟨(some 52), none, .lenS (.t 51)⟩, ⟨(some 53), none, .call 39 [(.t 52)]⟩, ⟨(some 54), none, .appT 5 (.t 49) (.t 53)⟩, ⟨(some 3), none, .mv (.t 54)⟩])
 (.seq (.seq (.region [⟨(some 5), none, .mv (.c (.val (.int .i64 0)))⟩])
 (.block 2 f13_l3))
 (.seq (.region [⟨(some 70), none, .mv (.t 3)⟩, ⟨(some 71), none, .call 23 [(.t 70)]⟩, ⟨(some 2), none, .mv (.t 71)⟩])
 .ret))))))))
def f13_fn : AFun := ⟨f13, [.tmp 2]⟩
theorem f13_ok : funOf Tryz.prog 13 = some f13_fn := by kernel_rfl
def f38 : ACode := (.seq (.region [⟨(some 2), none, .mv (.c (.val (.slice none 0 0)))⟩])
 (.seq (.region [⟨(some 3), none, .mv (.t 0)⟩, ⟨(some 4), none, .lenStr (.t 3)⟩, ⟨(some 5), none, .call 39 [(.t 4)]⟩, ⟨(some 6), none, .mv (.t 0)⟩, ⟨(some 7), none, .bytesOfStr (.t 6)⟩, ⟨(some 8), none, .appT 5 (.t 5) (.t 7)⟩, ⟨(some 2), none, .mv (.t 8)⟩])
 .ret))
def f38_fn : AFun := ⟨f38, [.tmp 2]⟩
theorem f38_ok : funOf Tryz.prog 38 = some f38_fn := by kernel_rfl
def f39_b0 : ACode := (.seq (.seq (.region [⟨(some 12), none, .mv (.t 3)⟩, ⟨(some 13), none, .bin .geq 141 true (.t 12) (.c (.val (.int .u64 128)))⟩])
 (.cond (.t 13) .skip (.exit 0)))
 (.block 1 (.seq (.region [⟨(some 14), none, .mv (.t 4)⟩, ⟨(some 15), none, .mv (.t 3)⟩, ⟨(some 16), none, .bin .rem 141 true (.t 15) (.c (.val (.int .u64 128)))⟩, ⟨(some 17), none, .conv .u8 (.t 16)⟩, ⟨(some 18), none, .bin .add 5 true (.t 17) (.c (.val (.int .u8 128)))⟩, ⟨(some 19), none, .buildSlice 1 1 [(.val (.int .u8 0))] [(0, 1, (.t 18))]⟩, ⟨(some 20), none, .appT 5 (.t 14) (.t 19)⟩, ⟨(some 4), none, .mv (.t 20)⟩])
 (.region [⟨(some 21), none, .mv (.t 3)⟩, ⟨(some 22), none, .bin .quo 141 true (.t 21) (.c (.val (.int .u64 128)))⟩, ⟨(some 3), none, .mv (.t 22)⟩]))))
def f39_l0 : ACode := .loop f39_b0
def f39 : ACode := (.seq (.region [⟨(some 2), none, .mv (.c (.val (.slice none 0 0)))⟩])
 (.seq (.region [⟨(some 5), none, .mv (.t 0)⟩, ⟨(some 6), none, .conv .u64 (.t 5)⟩, ⟨(some 7), none, .bin .shl 141 true (.t 6) (.c (.val (.int .u64 1)))⟩, ⟨(some 3), none, .mv (.t 7)⟩])
 (.seq (.seq (.region [⟨(some 8), none, .mv (.t 0)⟩, ⟨(some 9), none, .bin .lss 3 true (.t 8) (.c (.val (.int .i64 0)))⟩])
 (.cond (.t 9) (.region [⟨(some 10), none, .mv (.t 3)⟩, ⟨(some 11), none, .un .xor (.t 10)⟩, ⟨(some 3), none, .mv (.t 11)⟩]) .skip))
 (.seq (.region [⟨(some 4), none, .mv (.c (.val (.slice none 0 0)))⟩])
 (.seq (.block 0 f39_l0)
 (.seq (.region [⟨(some 23), none, .mv (.t 4)⟩, ⟨(some 24), none, .mv (.t 3)⟩, ⟨(some 25), none, .conv .u8 (.t 24)⟩, ⟨(some 26), none, .buildSlice 1 1 [(.val (.int .u8 0))] [(0, 1, (.t 25))]⟩, ⟨(some 27), none, .appT 5 (.t 23) (.t 26)⟩, ⟨(some 2), none, .mv (.t 27)⟩])
 .ret))))))
def f39_fn : AFun := ⟨f39, [.tmp 2]⟩
theorem f39_ok : funOf Tryz.prog 39 = some f39_fn := by kernel_rfl
def f40_o0 : List DOp := [⟨⟨(some 5), none, .fieldAddr 0 (.t 1)⟩, [1], []⟩, ⟨⟨(some 6), none, .load none (.t 5)⟩, [5], []⟩, ⟨⟨(some 7), none, .call 39 [(.t 6)]⟩, [6], []⟩, ⟨⟨(some 8), none, .fieldAddr 1 (.t 1)⟩, [1], [0, 1, 2]⟩, ⟨⟨(some 9), none, .load none (.t 8)⟩, [8], [0, 1, 2]⟩, ⟨⟨(some 10), none, .call 38 [(.t 9)]⟩, [9], []⟩, ⟨⟨(some 11), none, .appT 5 (.t 7) (.t 10)⟩, [7, 10], []⟩, ⟨⟨(some 3), none, .mv (.t 11)⟩, [11], []⟩]
def f40_d0 : ACode := .draw f40_o0
def f40_o1 : List DOp := [⟨⟨(some 12), none, .mv (.t 3)⟩, [3], []⟩, ⟨⟨(some 13), none, .fieldAddr 2 (.t 1)⟩, [1], [0]⟩, ⟨⟨(some 14), none, .load none (.t 13)⟩, [13], [0]⟩, ⟨⟨(some 15), none, .call 39 [(.t 14)]⟩, [14], [0]⟩, ⟨⟨(some 16), none, .appT 5 (.t 12) (.t 15)⟩, [12, 15], []⟩, ⟨⟨(some 17), none, .fieldAddr 3 (.t 1)⟩, [1], [0, 1, 2, 3, 4]⟩, ⟨⟨(some 18), none, .load none (.t 17)⟩, [17], [0, 1, 2, 3, 4]⟩, ⟨⟨(some 19), none, .lenS (.t 18)⟩, [18], [0, 1, 2, 3, 4]⟩, ⟨⟨(some 20), none, .call 39 [(.t 19)]⟩, [19], []⟩, ⟨⟨(some 21), none, .appT 5 (.t 16) (.t 20)⟩, [16, 20], []⟩, ⟨⟨(some 3), none, .mv (.t 21)⟩, [21], []⟩]
def f40_d1 : ACode := .draw f40_o1
def f40_b2 : ACode := (.seq (.seq (.region [⟨(some 22), none, .mv (.t 4)⟩, ⟨(some 23), none, .fieldAddr 3 (.t 1)⟩, ⟨(some 24), none, .load none (.t 23)⟩, ⟨(some 25), none, .lenS (.t 24)⟩, ⟨(some 26), none, .bin .lss 3 false (.t 22) (.t 25)⟩])
 (.cond (.t 26) .skip (.exit 0)))
 (.seq (.block 1 (.region [⟨(some 29), none, .mv (.t 3)⟩, ⟨(some 30), none, .fieldAddr 3 (.t 1)⟩, ⟨(some 31), none, .load none (.t 30)⟩, ⟨(some 32), none, .mv (.t 4)⟩, ⟨(some 33), none, .idxAddrS 4 (.t 31) (.t 32)⟩, ⟨(some 34), none, .load (some 4) (.t 33)⟩, ⟨(some 35), none, .call 40 [(.t 34)]⟩, ⟨(some 36), none, .appT 5 (.t 29) (.t 35)⟩, ⟨(some 3), none, .mv (.t 36)⟩]))
 (.region [⟨(some 27), none, .mv (.t 4)⟩, ⟨(some 28), none, .bin .add 3 true (.t 27) (.c (.val (.int .i64 1)))⟩, ⟨(some 4), none, .mv (.t 28)⟩])))
def f40_l2 : ACode := .loop f40_b2
def f40 : ACode := (.seq (.region [⟨(some 1), none, .box (.t 0)⟩, ⟨(some 2), none, .mv (.c (.val (.slice none 0 0)))⟩])
 (.seq f40_d0
 (.seq f40_d1
 (.seq (.seq (.region [⟨(some 4), none, .mv (.c (.val (.int .i64 0)))⟩])
 (.block 0 f40_l2))
 (.seq (.region [⟨(some 37), none, .mv (.t 3)⟩, ⟨(some 2), none, .mv (.t 37)⟩])
 .ret)))))
def f40_fn : AFun := ⟨f40, [.tmp 2]⟩
theorem f40_ok : funOf Tryz.prog 40 = some f40_fn := by kernel_rfl
def f41_o0 : List DOp := [⟨⟨(some 7), none, .fieldAddr 0 (.t 1)⟩, [1], []⟩, ⟨⟨(some 8), none, .load none (.t 7)⟩, [7], []⟩, ⟨⟨(some 9), none, .call 39 [(.t 8)]⟩, [8], []⟩, ⟨⟨(some 10), none, .fieldAddr 1 (.t 1)⟩, [1], [0, 1, 2]⟩, ⟨⟨(some 11), none, .load none (.t 10)⟩, [10], [0, 1, 2]⟩, ⟨⟨(some 12), none, .call 39 [(.t 11)]⟩, [11], []⟩, ⟨⟨(some 13), none, .appT 5 (.t 9) (.t 12)⟩, [9, 12], []⟩, ⟨⟨(some 3), none, .mv (.t 13)⟩, [13], []⟩]
def f41_d0 : ACode := .draw f41_o0
def f41_b1 : ACode := (.seq (.seq (.region [⟨(some 46), none, .mv (.t 5)⟩, ⟨(some 47), none, .fieldAddr 2 (.t 1)⟩, ⟨(some 48), none, .load none (.t 47)⟩, ⟨(some 49), none, .mv (.t 4)⟩, ⟨(some 50), none, .idxAddrS 2 (.t 48) (.t 49)⟩, ⟨(some 51), none, .fieldAddr 1 (.t 50)⟩, ⟨(some 52), none, .load none (.t 51)⟩, ⟨(some 53), none, .lenS (.t 52)⟩, ⟨(some 54), none, .bin .lss 3 false (.t 46) (.t 53)⟩])
 (.cond (.t 54) .skip (.exit 2)))
 (.seq (.block 3 (.region [⟨(some 57), none, .mv (.t 3)⟩, ⟨(some 58), none, .fieldAddr 2 (.t 1)⟩, ⟨(some 59), none, .load none (.t 58)⟩, ⟨(some 60), none, .mv (.t 4)⟩, ⟨(some 61), none, .idxAddrS 2 (.t 59) (.t 60)⟩, ⟨(some 62), none, .fieldAddr 1 (.t 61)⟩, ⟨(some 63), none, .load none (.t 62)⟩, ⟨(some 64), none, .mv (.t 5)⟩, ⟨(some 65), none, .idxAddrS 1 (.t 63) (.t 64)⟩, ⟨(some 66), none, .load none (.t 65)⟩, ⟨(some 67), none, .call 39 [(.t 66)]⟩, ⟨(some 68), none, .appT 5 (.t 57) (.t 67)⟩, ⟨(some 3), none, .mv (.t 68)⟩]))
 (.region [⟨(some 55), none, .mv (.t 5)⟩, ⟨(some 56), none, .bin .add 3 true (.t 55) (.c (.val (.int .i64 1)))⟩, ⟨(some 5), none, .mv (.t 56)⟩])))
def f41_l1 : ACode := .loop f41_b1
def f41_b2 : ACode := (.seq (.seq (.region [⟨(some 20), none, .mv (.t 4)⟩, ⟨(some 21), none, .fieldAddr 2 (.t 1)⟩, ⟨(some 22), none, .load none (.t 21)⟩, ⟨(some 23), none, .lenS (.t 22)⟩, ⟨(some 24), none, .bin .lss 3 false (.t 20) (.t 23)⟩])
 (.cond (.t 24) .skip (.exit 0)))
 (.seq (.block 1 (.seq (.region [⟨(some 27), none, .mv (.t 3)⟩, ⟨(some 28), none, .fieldAddr 2 (.t 1)⟩, ⟨(some 29), none, .load none (.t 28)⟩, ⟨(some 30), none, .mv (.t 4)⟩, ⟨(some 31), none, .idxAddrS 2 (.t 29) (.t 30)⟩, ⟨(some 32), none, .fieldAddr 0 (.t 31)⟩, ⟨(some 33), none, .load none (.t 32)⟩, ⟨(some 34), none, .call 57 [(.t 33)]⟩, ⟨(some 35), none, .appT 5 (.t 27) (.t 34)⟩, ⟨(some 3), none, .mv (.t 35)⟩])
 (.seq (.region [⟨(some 36), none, .mv (.t 3)⟩, ⟨(some 37), none, .fieldAddr 2 (.t 1)⟩, ⟨(some 38), none, .load none (.t 37)⟩, ⟨(some 39), none, .mv (.t 4)⟩, ⟨(some 40), none, .idxAddrS 2 (.t 38) (.t 39)⟩, ⟨(some 41), none, .fieldAddr 1 (.t 40)⟩, ⟨(some 42), none, .load none (.t 41)⟩, ⟨(some 43), none, .lenS (.t 42)⟩, ⟨(some 44), none, .call 39 [(.t 43)]⟩, ⟨(some 45), none, .appT 5 (.t 36) (.t 44)⟩, ⟨(some 3), none, .mv (.t 45)⟩])
 (.seq (.region [⟨(some 5), none, .mv (.c (.val (.int .i64 0)))⟩])
 (.block 2 f41_l1)))))
 (.region [⟨(some 25), none, .mv (.t 4)⟩, ⟨(some 26), none, .bin .add 3 true (.t 25) (.c (.val (.int .i64 1)))⟩, ⟨(some 4), none, .mv (.t 26)⟩])))
def f41_l2 : ACode := .loop f41_b2
def f41_b3 : ACode := (.seq (.seq (.region [⟨(some 75), none, .mv (.t 6)⟩, ⟨(some 76), none, .fieldAddr 3 (.t 1)⟩, ⟨(some 77), none, .load none (.t 76)⟩, ⟨(some 78), none, .lenS (.t 77)⟩, ⟨(some 79), none, .bin .lss 3 false (.t 75) (.t 78)⟩])
 (.cond (.t 79) .skip (.exit 4)))
 (.seq (.block 5 (.region [⟨(some 82), none, .mv (.t 3)⟩, ⟨(some 83), none, .fieldAddr 3 (.t 1)⟩, ⟨(some 84), none, .load none (.t 83)⟩, ⟨(some 85), none, .mv (.t 6)⟩, ⟨(some 86), none, .idxAddrS 4 (.t 84) (.t 85)⟩, ⟨(some 87), none, .load (some 4) (.t 86)⟩, ⟨(some 88), none, .call 41 [(.t 87)]⟩, ⟨(some 89), none, .appT 5 (.t 82) (.t 88)⟩, ⟨(some 3), none, .mv (.t 89)⟩]))
 (.region [⟨(some 80), none, .mv (.t 6)⟩, ⟨(some 81), none, .bin .add 3 true (.t 80) (.c (.val (.int .i64 1)))⟩, ⟨(some 6), none, .mv (.t 81)⟩])))
def f41_l3 : ACode := .loop f41_b3
def f41 : ACode := (.seq (.region [⟨(some 1), none, .box (.t 0)⟩, ⟨(some 2), none, .mv (.c (.val (.slice none 0 0)))⟩])
 (.seq f41_d0
 (.seq (.region [⟨(some 14), none, .mv (.t 3)⟩, ⟨(some 15), none, .fieldAddr 2 (.t 1)⟩, ⟨(some 16), none, .load none (.t 15)⟩, ⟨(some 17), none, .lenS (.t 16)⟩, ⟨(some 18), none, .call 39 [(.t 17)]⟩, ⟨(some 19), none, .appT 5 (.t 14) (.t 18)⟩, ⟨(some 3), none, .mv (.t 19)⟩])
 (.seq (.seq (.region [⟨(some 4), none, .mv (.c (.val (.int .i64 0)))⟩])
 (.block 0 f41_l2))
 (.seq (.region [⟨(some 69), none, .mv (.t 3)⟩, ⟨(some 70), none, .fieldAddr 3 (.t 1)⟩, ⟨(some 71), none, .load none (.t 70)⟩, ⟨(some 72), none, .lenS (.t 71)⟩, ⟨(some 73), none, .call 39 [(.t 72)]⟩, ⟨(some 74), none, .appT 5 (.t 69) (.t 73)⟩, ⟨(some 3), none, .mv (.t 74)⟩])
 (.seq (.seq (.region [⟨(some 6), none, .mv (.c (.val (.int .i64 0)))⟩])
 (.block 4 f41_l3))
 (.seq (.region [⟨(some 90), none, .mv (.t 3)⟩, ⟨(some 2), none, .mv (.t 90)⟩])
 .ret)))))))
def f41_fn : AFun := ⟨f41, [.tmp 2]⟩
theorem f41_ok : funOf Tryz.prog 41 = some f41_fn := by kernel_rfl
def f57 : ACode := (.seq (.region [⟨(some 2), none, .mv (.c (.val (.slice none 0 0)))⟩])
 (.seq (.seq (.region [⟨(some 3), none, .mv (.t 0)⟩])
 (.cond (.t 3) (.seq (.region [⟨(some 4), none, .call 39 [(.c (.val (.int .i64 1)))]⟩, ⟨(some 2), none, .mv (.t 4)⟩])
 .ret) .skip))
 (.seq (.region [⟨(some 5), none, .call 39 [(.c (.val (.int .i64 0)))]⟩, ⟨(some 2), none, .mv (.t 5)⟩])
 .ret)))
def f57_fn : AFun := ⟨f57, [.tmp 2]⟩
theorem f57_ok : funOf Tryz.prog 57 = some f57_fn := by kernel_rfl
end Go.Proofs.YtijpnlmmaoecgaaGreatDoor
