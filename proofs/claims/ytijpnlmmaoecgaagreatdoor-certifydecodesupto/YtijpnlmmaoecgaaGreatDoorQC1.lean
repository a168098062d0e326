/- A part of the proofs about certificates: YCodes YCall YCodesB. -/
import Derived.Test.YtijpnlmmaoecgaaGreatDoorQW1
import Derived.Test.YtijpnlmmaoecgaaGreatDoorQP1
import Derived.Test.YtijpnlmmaoecgaaGreatDoorQE1

set_option linter.all false

namespace Go.Proofs.YtijpnlmmaoecgaaGreatDoor
open Go Go.AM
def f8_o0 : List DOp := [⟨⟨(some 51), none, .mv (.t 4)⟩, [4], []⟩, ⟨⟨(some 52), none, .nilck (.t 51)⟩, [51], []⟩, ⟨⟨(some 53), none, .fieldAddr 1 (.t 52)⟩, [52], []⟩, ⟨⟨(some 54), none, .load none (.t 53)⟩, [53], []⟩, ⟨⟨(some 55), none, .mv (.t 54)⟩, [54], []⟩, ⟨⟨(some 56), some (55, false), .mv (.t 4)⟩, [4, 55], []⟩, ⟨⟨(some 57), some (55, false), .nilck (.t 56)⟩, [56, 55], []⟩, ⟨⟨(some 58), some (55, false), .fieldAddr 0 (.t 57)⟩, [57, 55], []⟩, ⟨⟨(some 59), some (55, false), .load none (.t 58)⟩, [58, 55], []⟩, ⟨⟨(some 60), some (55, false), .lenS (.t 59)⟩, [59, 55], []⟩, ⟨⟨(some 61), some (55, false), .bin .gtr 3 true (.t 60) (.c (.val (.int .i64 0)))⟩, [60, 55], []⟩, ⟨⟨(some 62), none, .pick (.t 55) (.c (.val (.bool true))) (.t 61)⟩, [55, 61], []⟩, ⟨⟨(some 63), none, .mv (.t 62)⟩, [62], []⟩, ⟨⟨(some 64), some (63, false), .load (some 4) (.t 5)⟩, [5, 63], []⟩, ⟨⟨(some 65), some (63, false), .call 12 [(.t 64)]⟩, [64, 63], []⟩, ⟨⟨(some 66), some (63, false), .strOfBytes (.t 65)⟩, [65, 63], []⟩, ⟨⟨(some 67), some (63, false), .mv (.t 0)⟩, [0, 63], [13, 14, 15]⟩, ⟨⟨(some 68), some (63, false), .strOfBytes (.t 67)⟩, [67, 63], [13, 14, 15]⟩, ⟨⟨(some 69), some (63, false), .bin .neq 9 false (.t 66) (.t 68)⟩, [66, 68, 63], []⟩, ⟨⟨(some 70), none, .pick (.t 63) (.c (.val (.bool true))) (.t 69)⟩, [63, 69], []⟩]
def f8_d0 : ACode := .draw f8_o0
def f8 : ACode := (.seq (.region [⟨(some 2), none, .alloc [(.val (.string ⟨#[]⟩)), (.val (.int .i64 0)), (.val (.slice none 0 0)), (.val (.slice none 0 0))]⟩, ⟨(some 3), none, .mv (.c (.val (.int .i64 0)))⟩])
 (.seq (.seq (.region [⟨(some 6), none, .mv (.t 0)⟩, ⟨(some 7), none, .lenS (.t 6)⟩, ⟨(some 8), none, .bin .lss 3 true (.t 7) (.c (.val (.int .i64 7)))⟩, ⟨(some 9), none, .mv (.t 8)⟩, ⟨(some 10), some (9, false), .mv (.t 0)⟩, ⟨(some 11), some (9, false), .idxAddrS 1 (.t 10) (.c (.val (.int .i64 0)))⟩, ⟨(some 12), some (9, false), .load none (.t 11)⟩, ⟨(some 13), some (9, false), .bin .neq 5 true (.t 12) (.c (.val (.int .u8 69)))⟩, ⟨(some 14), none, .pick (.t 9) (.c (.val (.bool true))) (.t 13)⟩, ⟨(some 15), none, .mv (.t 14)⟩, ⟨(some 16), some (15, false), .mv (.t 0)⟩, ⟨(some 17), some (15, false), .idxAddrS 1 (.t 16) (.c (.val (.int .i64 1)))⟩, ⟨(some 18), some (15, false), .load none (.t 17)⟩, ⟨(some 19), some (15, false), .bin .neq 5 true (.t 18) (.c (.val (.int .u8 67)))⟩, ⟨(some 20), none, .pick (.t 15) (.c (.val (.bool true))) (.t 19)⟩, ⟨(some 21), none, .mv (.t 20)⟩, ⟨(some 22), some (21, false), .mv (.t 0)⟩, ⟨(some 23), some (21, false), .idxAddrS 1 (.t 22) (.c (.val (.int .i64 2)))⟩, ⟨(some 24), some (21, false), .load none (.t 23)⟩, ⟨(some 25), some (21, false), .bin .neq 5 true (.t 24) (.c (.val (.int .u8 1)))⟩, ⟨(some 26), none, .pick (.t 21) (.c (.val (.bool true))) (.t 25)⟩])
 (.cond (.t 26) (.seq (.region [⟨(some 27), none, .build [(.val (.string ⟨#[]⟩)), (.val (.int .i64 0)), (.val (.slice none 0 0)), (.val (.slice none 0 0))] []⟩, ⟨none, none, .store 4 (.t 2) (.t 27)⟩, ⟨(some 3), none, .mv (.c (.val (.int .i64 6)))⟩])
 .ret) .skip))
 (.seq (.region [⟨(some 28), none, .mv (.t 0)⟩, ⟨(some 29), none, .mv (.t 0)⟩, ⟨(some 30), none, .lenS (.t 29)⟩, ⟨(some 31), none, .bin .sub 3 true (.t 30) (.c (.val (.int .i64 4)))⟩, ⟨(some 32), none, .sliceS 1 (.t 28) (some (.c (.val (.int .i64 3)))) (some (.t 31)) none⟩, ⟨(some 33), none, .build [(.val (.slice none 0 0)), (.val (.bool false))] [(0, 1, (.t 32))]⟩, ⟨(some 34), none, .box (.t 33)⟩, ⟨(some 4), none, .mv (.t 34)⟩])
 (.seq (.region [⟨(some 35), none, .mv (.t 4)⟩, ⟨(some 36), none, .call 17 [(.t 35)]⟩, ⟨(some 37), none, .build [(.val (.string ⟨#[]⟩)), (.val (.int .i64 0)), (.val (.slice none 0 0)), (.val (.slice none 0 0))] [(0, 1, (.t 36))]⟩, ⟨(some 5), none, .alloc [(.val (.string ⟨#[]⟩)), (.val (.int .i64 0)), (.val (.slice none 0 0)), (.val (.slice none 0 0))]⟩, ⟨none, none, .store 4 (.t 5) (.t 37)⟩])
 (.seq (.region [⟨(some 38), none, .mv (.t 4)⟩, ⟨(some 39), none, .call 18 [(.t 38)]⟩, ⟨(some 40), none, .fieldAddr 1 (.t 5)⟩, ⟨none, none, .store 1 (.t 40) (.t 39)⟩])
 (.seq (.region [⟨(some 41), none, .mv (.t 4)⟩, ⟨(some 42), none, .mv (.t 4)⟩, ⟨(some 43), none, .mkFunc (.func 20) [(.t 42)] []⟩, ⟨(some 44), none, .call 19 [(.t 41), (.t 43)]⟩, ⟨(some 45), none, .fieldAddr 2 (.t 5)⟩, ⟨none, none, .store 1 (.t 45) (.t 44)⟩])
 (.seq (.region [⟨(some 46), none, .mv (.t 4)⟩, ⟨(some 47), none, .mv (.t 4)⟩, ⟨(some 48), none, .mkFunc (.func 22) [(.t 47)] []⟩, ⟨(some 49), none, .call 21 [(.t 46), (.t 48)]⟩, ⟨(some 50), none, .fieldAddr 3 (.t 5)⟩, ⟨none, none, .store 1 (.t 50) (.t 49)⟩])
 (.seq (.seq f8_d0
 (.cond (.t 70) (.seq (.region [⟨(some 71), none, .build [(.val (.string ⟨#[]⟩)), (.val (.int .i64 0)), (.val (.slice none 0 0)), (.val (.slice none 0 0))] []⟩, ⟨none, none, .store 4 (.t 2) (.t 71)⟩, ⟨(some 3), none, .mv (.c (.val (.int .i64 6)))⟩])
 .ret) .skip))
 (.seq (.region [⟨(some 72), none, .load (some 4) (.t 5)⟩, ⟨none, none, .store 4 (.t 2) (.t 72)⟩, ⟨(some 3), none, .mv (.c (.val (.int .i64 0)))⟩])
 .ret)))))))))
def f8_fn : AFun := ⟨f8, [.cell 2 (some 4), .tmp 3]⟩
theorem f8_ok : funOf Tryz.prog 8 = some f8_fn := by kernel_rfl
def f10_o0 : List DOp := [⟨⟨(some 42), none, .fieldAddr 3 (.t 2)⟩, [2], []⟩, ⟨⟨(some 43), none, .load none (.t 42)⟩, [42], []⟩, ⟨⟨(some 44), none, .mv (.t 5)⟩, [5], [0, 1]⟩, ⟨⟨(some 45), none, .idxAddrS 4 (.t 43) (.t 44)⟩, [43, 44], []⟩, ⟨⟨(some 46), none, .load (some 4) (.t 45)⟩, [45], []⟩, ⟨⟨(some 47), none, .fieldAddr 3 (.t 3)⟩, [3], [0, 1, 2, 3, 4]⟩, ⟨⟨(some 48), none, .load none (.t 47)⟩, [47], [0, 1, 2, 3, 4]⟩, ⟨⟨(some 49), none, .mv (.t 5)⟩, [5], [0, 1, 2, 3, 4, 5, 6]⟩, ⟨⟨(some 50), none, .idxAddrS 4 (.t 48) (.t 49)⟩, [48, 49], [0, 1, 2, 3, 4]⟩, ⟨⟨(some 51), none, .load (some 4) (.t 50)⟩, [50], [0, 1, 2, 3, 4]⟩, ⟨⟨(some 52), none, .call 30 [(.t 46), (.t 51)]⟩, [46, 51], []⟩, ⟨⟨(some 53), none, .un .not (.t 52)⟩, [52], []⟩]
def f10_d0 : ACode := .draw f10_o0
def f10_b1 : ACode := (.seq (.seq (.region [⟨(some 35), none, .mv (.t 5)⟩, ⟨(some 36), none, .fieldAddr 3 (.t 2)⟩, ⟨(some 37), none, .load none (.t 36)⟩, ⟨(some 38), none, .lenS (.t 37)⟩, ⟨(some 39), none, .bin .lss 3 false (.t 35) (.t 38)⟩])
 (.cond (.t 39) .skip (.exit 0)))
 (.seq (.block 1 (.seq f10_d0
 (.cond (.t 53) (.seq (.region [⟨(some 4), none, .mv (.c (.val (.bool false)))⟩])
 .ret) .skip)))
 (.region [⟨(some 40), none, .mv (.t 5)⟩, ⟨(some 41), none, .bin .add 3 true (.t 40) (.c (.val (.int .i64 1)))⟩, ⟨(some 5), none, .mv (.t 41)⟩])))
def f10_l1 : ACode := .loop f10_b1
def f10 : ACode := (.seq (.region [⟨(some 2), none, .box (.t 0)⟩, ⟨(some 3), none, .box (.t 1)⟩, ⟨(some 4), none, .mv (.c (.val (.bool false)))⟩])
 (.seq (.seq (.region [⟨(some 6), none, .fieldAddr 0 (.t 2)⟩, ⟨(some 7), none, .load none (.t 6)⟩, ⟨(some 8), none, .fieldAddr 0 (.t 3)⟩, ⟨(some 9), none, .load none (.t 8)⟩, ⟨(some 10), none, .bin .neq 9 false (.t 7) (.t 9)⟩, ⟨(some 11), none, .mv (.t 10)⟩, ⟨(some 12), some (11, false), .fieldAddr 1 (.t 2)⟩, ⟨(some 13), some (11, false), .load none (.t 12)⟩, ⟨(some 14), some (11, false), .fieldAddr 1 (.t 3)⟩, ⟨(some 15), some (11, false), .load none (.t 14)⟩, ⟨(some 16), some (11, false), .bin .neq 3 false (.t 13) (.t 15)⟩, ⟨(some 17), none, .pick (.t 11) (.c (.val (.bool true))) (.t 16)⟩, ⟨(some 18), none, .mv (.t 17)⟩, ⟨(some 19), some (18, false), .fieldAddr 2 (.t 2)⟩, ⟨(some 20), some (18, false), .load none (.t 19)⟩, ⟨(some 21), some (18, false), .fieldAddr 2 (.t 3)⟩, ⟨(some 22), some (18, false), .load none (.t 21)⟩, ⟨(some 23), some (18, false), .call 29 [(.t 20), (.t 22)]⟩, ⟨(some 24), some (18, false), .un .not (.t 23)⟩, ⟨(some 25), none, .pick (.t 18) (.c (.val (.bool true))) (.t 24)⟩, ⟨(some 26), none, .mv (.t 25)⟩, ⟨(some 27), some (26, false), .fieldAddr 3 (.t 2)⟩, ⟨(some 28), some (26, false), .load none (.t 27)⟩, ⟨(some 29), some (26, false), .lenS (.t 28)⟩, ⟨(some 30), some (26, false), .fieldAddr 3 (.t 3)⟩, ⟨(some 31), some (26, false), .load none (.t 30)⟩, ⟨(some 32), some (26, false), .lenS (.t 31)⟩, ⟨(some 33), some (26, false), .bin .neq 3 false (.t 29) (.t 32)⟩, ⟨(some 34), none, .pick (.t 26) (.c (.val (.bool true))) (.t 33)⟩])
 (.cond (.t 34) (.seq (.region [⟨(some 4), none, .mv (.c (.val (.bool false)))⟩])
 .ret) .skip))
 (.seq (.seq (.region [⟨(some 5), none, .mv (.c (.val (.int .i64 0)))⟩])
 (.block 0 f10_l1))
 (.seq (.region [⟨(some 4), none, .mv (.c (.val (.bool true)))⟩])
 .ret))))
def f10_fn : AFun := ⟨f10, [.tmp 4]⟩
theorem f10_ok : funOf Tryz.prog 10 = some f10_fn := by kernel_rfl
def f12_b0 : ACode := (.seq (.region [⟨(some 29), none, .bin .lss 3 false (.t 28) (.t 27)⟩])
 (.seq (.cond (.t 29) .skip (.exit 0))
 (.seq (.block 1 (.seq (.region [⟨(some 30), none, .idxAddrS 5 (.t 26) (.t 28)⟩, ⟨(some 31), none, .load (some 5) (.t 30)⟩, ⟨(some 5), none, .alloc [(.val (.string ⟨#[]⟩)), (.val (.int .i64 0)), (.val (.string ⟨#[]⟩)), (.val (.int .i64 0)), (.val (.slice none 0 0))]⟩, ⟨none, none, .store 5 (.t 5) (.t 31)⟩])
 (.seq (.region [⟨(some 32), none, .mv (.t 3)⟩, ⟨(some 33), none, .fieldAddr 0 (.t 5)⟩, ⟨(some 34), none, .load none (.t 33)⟩, ⟨(some 35), none, .call 33 [(.t 32), (.t 34)]⟩])
 (.region [⟨(some 36), none, .mv (.t 3)⟩, ⟨(some 37), none, .fieldAddr 1 (.t 5)⟩, ⟨(some 38), none, .load (some 4) (.t 37)⟩, ⟨(some 39), none, .call 35 [(.t 36), (.t 38)]⟩]))))
 (.region [⟨(some 40), none, .bin .add 3 true (.t 28) (.c (.val (.int .i64 1)))⟩, ⟨(some 28), none, .mv (.t 40)⟩]))))
def f12_l0 : ACode := .loop f12_b0
def f12_b1 : ACode := (.seq (.region [⟨(some 50), none, .bin .lss 3 false (.t 49) (.t 48)⟩])
 (.seq (.cond (.t 50) .skip (.exit 2))
 (.seq (.block 3 (.seq (.region [⟨(some 51), none, .idxAddrS 4 (.t 47) (.t 49)⟩, ⟨(some 52), none, .load (some 4) (.t 51)⟩, ⟨(some 7), none, .alloc [(.val (.int .i64 0)), (.val (.int .i64 0)), (.val (.slice none 0 0)), (.val (.slice none 0 0))]⟩, ⟨none, none, .store 4 (.t 7) (.t 52)⟩])
 (.region [⟨(some 53), none, .mv (.t 3)⟩, ⟨(some 54), none, .load (some 4) (.t 7)⟩, ⟨(some 55), none, .call 36 [(.t 53), (.t 54)]⟩])))
 (.region [⟨(some 56), none, .bin .add 3 true (.t 49) (.c (.val (.int .i64 1)))⟩, ⟨(some 49), none, .mv (.t 56)⟩]))))
def f12_l1 : ACode := .loop f12_b1
def f12 : ACode := (.seq (.region [⟨(some 1), none, .box (.t 0)⟩, ⟨(some 2), none, .mv (.c (.val (.slice none 0 0)))⟩])
 (.seq (.region [⟨(some 9), none, .buildSlice 1 3 [(.val (.int .u8 0)), (.val (.int .u8 0)), (.val (.int .u8 0))] [(0, 1, (.c (.val (.int .u8 69)))), (1, 1, (.c (.val (.int .u8 67)))), (2, 1, (.c (.val (.int .u8 1))))]⟩, ⟨(some 10), none, .build [(.val (.slice none 0 0))] [(0, 1, (.t 9))]⟩, ⟨(some 11), none, .box (.t 10)⟩, ⟨(some 3), none, .mv (.t 11)⟩])
 (.seq (.region [⟨(some 12), none, .mv (.t 3)⟩, ⟨(some 13), none, .fieldAddr 0 (.t 1)⟩, ⟨(some 14), none, .load none (.t 13)⟩, ⟨(some 15), none, .call 33 [(.t 12), (.t 14)]⟩])
 (.seq (.region [⟨(some 16), none, .mv (.t 3)⟩, ⟨(some 17), none, .fieldAddr 1 (.t 1)⟩, ⟨(some 18), none, .load none (.t 17)⟩, ⟨(some 19), none, .call 34 [(.t 16), (.t 18)]⟩])
 (.seq (.region [⟨(some 20), none, .mv (.t 3)⟩, ⟨(some 21), none, .fieldAddr 2 (.t 1)⟩, ⟨(some 22), none, .load none (.t 21)⟩, ⟨(some 23), none, .lenS (.t 22)⟩, ⟨(some 24), none, .call 34 [(.t 20), (.t 23)]⟩])
 (.seq (.seq (.region [⟨(some 25), none, .fieldAddr 2 (.t 1)⟩, ⟨(some 26), none, .load none (.t 25)⟩, ⟨(some 27), none, .lenS (.t 26)⟩, ⟨(some 28), none, .mv (.c (.val (.int .i64 0)))⟩])
 (.block 0 f12_l0))
 (.seq (.region [⟨(some 41), none, .mv (.t 3)⟩, ⟨(some 42), none, .fieldAddr 3 (.t 1)⟩, ⟨(some 43), none, .load none (.t 42)⟩, ⟨(some 44), none, .lenS (.t 43)⟩, ⟨(some 45), none, .call 34 [(.t 41), (.t 44)]⟩])
 (.seq (.seq (.region [⟨(some 46), none, .fieldAddr 3 (.t 1)⟩, ⟨(some 47), none, .load none (.t 46)⟩, ⟨(some 48), none, .lenS (.t 47)⟩, ⟨(some 49), none, .mv (.c (.val (.int .i64 0)))⟩])
 (.block 2 f12_l1))
 (.seq (.region [⟨(some 57), none, .mv (.t 3)⟩, ⟨(some 58), none, .nilck (.t 57)⟩, ⟨(some 59), none, .fieldAddr 0 (.t 58)⟩, ⟨(some 60), none, .load none (.t 59)⟩, ⟨(some 61), none, .strOfBytes (.t 60)⟩, ⟨(some 62), none, .call 37 [(.t 61)]⟩, ⟨(some 8), none, .mv (.t 62)⟩])
 (.seq (.region [⟨(some 63), none, .mv (.t 3)⟩, ⟨(some 64), none, .nilck (.t 63)⟩, ⟨(some 65), none, .fieldAddr 0 (.t 64)⟩, ⟨(some 66), none, .load none (.t 65)⟩, ⟨(some 67), none, .mv (.t 8)⟩, ⟨(some 68), none, .bin .shr 3 true (.t 67) (.c (.val (.int .u64 24)))⟩, ⟨(some 69), none, .conv .u8 (.t 68)⟩, ⟨(some 70), none, .mv (.t 8)⟩, ⟨(some 71), none, .bin .shr 3 true (.t 70) (.c (.val (.int .u64 16)))⟩, ⟨(some 72), none, .conv .u8 (.t 71)⟩, ⟨(some 73), none, .mv (.t 8)⟩, ⟨(some 74), none, .bin .shr 3 true (.t 73) (.c (.val (.int .u64 8)))⟩, ⟨(some 75), none, .conv .u8 (.t 74)⟩, ⟨(some 76), none, .mv (.t 8)⟩, ⟨(some 77), none, .conv .u8 (.t 76)⟩, ⟨(some 78), none, .buildSlice 1 4 [(.val (.int .u8 0)), (.val (.int .u8 0)), (.val (.int .u8 0)), (.val (.int .u8 0))] [(0, 1, (.t 69)), (1, 1, (.t 72)), (2, 1, (.t 75)), (3, 1, (.t 77))]⟩, ⟨(some 79), none, .appT 5 (.t 66) (.t 78)⟩, ⟨(some 2), none, .mv (.t 79)⟩])
 .ret))))))))))
def f12_fn : AFun := ⟨f12, [.tmp 2]⟩
theorem f12_ok : funOf Tryz.prog 12 = some f12_fn := by kernel_rfl
def f17 : ACode := (.seq (.region [⟨(some 2), none, .mv (.c (.val (.string ⟨#[]⟩)))⟩])
 (.seq (.region [⟨(some 5), none, .mv (.t 0)⟩, ⟨(some 6), none, .call 50 [(.t 5)]⟩, ⟨(some 3), none, .mv (.t 6)⟩])
 (.seq (.region [⟨(some 7), none, .mv (.t 0)⟩, ⟨(some 8), none, .nilck (.t 7)⟩, ⟨(some 9), none, .fieldAddr 0 (.t 8)⟩, ⟨(some 10), none, .load none (.t 9)⟩, ⟨(some 11), none, .mv (.t 3)⟩, ⟨(some 12), none, .sliceS 1 (.t 10) none (some (.t 11)) none⟩, ⟨(some 13), none, .strOfBytes (.t 12)⟩, ⟨(some 4), none, .mv (.t 13)⟩])
 (.seq (.region [⟨(some 14), none, .mv (.t 0)⟩, ⟨(some 15), none, .mv (.t 0)⟩, ⟨(some 16), none, .nilck (.t 15)⟩, ⟨(some 17), none, .fieldAddr 0 (.t 16)⟩, ⟨(some 18), none, .load none (.t 17)⟩, ⟨(some 19), none, .mv (.t 3)⟩, ⟨(some 20), none, .sliceS 1 (.t 18) (some (.t 19)) none none⟩, ⟨(some 21), none, .nilck (.t 14)⟩, ⟨(some 22), none, .fieldAddr 0 (.t 21)⟩, ⟨none, none, .store 1 (.t 22) (.t 20)⟩])
 (.seq (.region [⟨(some 23), none, .mv (.t 4)⟩, ⟨(some 2), none, .mv (.t 23)⟩])
 .ret)))))
def f17_fn : AFun := ⟨f17, [.tmp 2]⟩
theorem f17_ok : funOf Tryz.prog 17 = some f17_fn := by kernel_rfl
def f18_b0 : ACode := (.seq (.region [⟨(some 13), none, .bin .lss 3 false (.t 12) (.t 11)⟩])
 (.seq (.cond (.t 13) .skip (.exit 0))
 (.seq (.block 1 (.seq (.region [⟨(some 14), none, .mv (.t 12)⟩, ⟨(some 15), none, .idxAddrS 1 (.t 10) (.t 12)⟩, ⟨(some 16), none, .load none (.t 15)⟩, ⟨(some 5), none, .mv (.t 14)⟩, ⟨(some 6), none, .mv (.t 16)⟩])
 (.seq (.seq (.region [⟨(some 17), none, .mv (.t 4)⟩, ⟨(some 18), none, .bin .gtr 3 true (.t 17) (.c (.val (.int .i64 63)))⟩, ⟨(some 19), none, .mv (.t 18)⟩, ⟨(some 20), some (19, false), .mv (.t 4)⟩, ⟨(some 21), some (19, false), .bin .eql 3 true (.t 20) (.c (.val (.int .i64 63)))⟩, ⟨(some 22), some (19, false), .mv (.t 21)⟩, ⟨(some 23), some (22, true), .mv (.t 6)⟩, ⟨(some 24), some (22, true), .bin .gtr 5 true (.t 23) (.c (.val (.int .u8 1)))⟩, ⟨(some 25), some (19, false), .pick (.t 22) (.t 24) (.c (.val (.bool false)))⟩, ⟨(some 26), none, .pick (.t 19) (.c (.val (.bool true))) (.t 25)⟩])
 (.cond (.t 26) (.exit 0) .skip))
 (.seq (.region [⟨(some 27), none, .mv (.t 3)⟩, ⟨(some 28), none, .mv (.t 6)⟩, ⟨(some 29), none, .bin .and 5 true (.t 28) (.c (.val (.int .u8 127)))⟩, ⟨(some 30), none, .conv .u64 (.t 29)⟩, ⟨(some 31), none, .mv (.t 4)⟩, ⟨(some 32), none, .bin .shl 141 false (.t 30) (.t 31)⟩, ⟨(some 33), none, .bin .or 141 false (.t 27) (.t 32)⟩, ⟨(some 3), none, .mv (.t 33)⟩])
 (.seq (.seq (.region [⟨(some 34), none, .mv (.t 6)⟩, ⟨(some 35), none, .bin .lss 5 true (.t 34) (.c (.val (.int .u8 128)))⟩])
 (.cond (.t 35) (.seq (.region [⟨(some 36), none, .mv (.t 0)⟩, ⟨(some 37), none, .mv (.t 0)⟩, ⟨(some 38), none, .nilck (.t 37)⟩, ⟨(some 39), none, .fieldAddr 0 (.t 38)⟩, ⟨(some 40), none, .load none (.t 39)⟩, ⟨(some 41), none, .mv (.t 5)⟩, ⟨(some 42), none, .bin .add 3 true (.t 41) (.c (.val (.int .i64 1)))⟩, ⟨(some 43), none, .sliceS 1 (.t 40) (some (.t 42)) none none⟩, ⟨(some 44), none, .nilck (.t 36)⟩, ⟨(some 45), none, .fieldAddr 0 (.t 44)⟩, ⟨none, none, .store 1 (.t 45) (.t 43)⟩])
 (.seq (.region [⟨(some 46), none, .mv (.t 3)⟩, ⟨(some 47), none, .bin .shr 141 true (.t 46) (.c (.val (.int .u64 1)))⟩, ⟨(some 48), none, .conv .i64 (.t 47)⟩, ⟨(some 49), none, .mv (.t 3)⟩, ⟨(some 50), none, .bin .and 141 true (.t 49) (.c (.val (.int .u64 1)))⟩, ⟨(some 51), none, .conv .i64 (.t 50)⟩, ⟨(some 52), none, .un .neg (.t 51)⟩, ⟨(some 53), none, .bin .xor 3 false (.t 48) (.t 52)⟩, ⟨(some 2), none, .mv (.t 53)⟩])
 .ret)) .skip))
 (.region [⟨(some 54), none, .mv (.t 4)⟩, ⟨(some 55), none, .bin .add 3 true (.t 54) (.c (.val (.int .i64 7)))⟩, ⟨(some 4), none, .mv (.t 55)⟩]))))))
 (.region [⟨(some 56), none, .bin .add 3 true (.t 12) (.c (.val (.int .i64 1)))⟩, ⟨(some 12), none, .mv (.t 56)⟩]))))
def f18_l0 : ACode := .loop f18_b0
def f18 : ACode := (.seq (.region [⟨(some 2), none, .mv (.c (.val (.int .i64 0)))⟩])
 (.seq (.region [⟨(some 3), none, .mv (.c (.val (.int .u64 0)))⟩, ⟨(some 4), none, .mv (.c (.val (.int .i64 0)))⟩])
 (.seq (.seq (.region [⟨(some 7), none, .mv (.t 0)⟩, ⟨(some 8), none, .nilck (.t 7)⟩, ⟨(some 9), none, .fieldAddr 0 (.t 8)⟩, ⟨(some 10), none, .load none (.t 9)⟩, ⟨(some 11), none, .lenS (.t 10)⟩, ⟨(some 12), none, .mv (.c (.val (.int .i64 0)))⟩])
 (.block 0 f18_l0))
 (.seq (.region [⟨(some 57), none, .mv (.t 0)⟩, ⟨(some 58), none, .nilck (.t 57)⟩, ⟨(some 59), none, .fieldAddr 1 (.t 58)⟩, ⟨none, none, .store 1 (.t 59) (.c (.val (.bool true)))⟩])
 (.seq (.region [⟨(some 2), none, .mv (.c (.val (.int .i64 0)))⟩])
 .ret)))))
def f18_fn : AFun := ⟨f18, [.tmp 2]⟩
theorem f18_ok : funOf Tryz.prog 18 = some f18_fn := by kernel_rfl
def f19_b0 : ACode := (.seq (.seq (.region [⟨(some 9), none, .mv (.t 6)⟩, ⟨(some 10), none, .bin .gtr 3 true (.t 9) (.c (.val (.int .i64 0)))⟩, ⟨(some 11), none, .mv (.t 10)⟩, ⟨(some 12), some (11, true), .mv (.t 0)⟩, ⟨(some 13), some (11, true), .nilck (.t 12)⟩, ⟨(some 14), some (11, true), .fieldAddr 1 (.t 13)⟩, ⟨(some 15), some (11, true), .load none (.t 14)⟩, ⟨(some 16), some (11, true), .un .not (.t 15)⟩, ⟨(some 17), none, .pick (.t 11) (.t 16) (.c (.val (.bool false)))⟩])
 (.cond (.t 17) .skip (.exit 0)))
 (.seq (.block 1 (.region [⟨(some 20), none, .mv (.t 5)⟩, ⟨(some 21), none, .mv (.t 1)⟩, ⟨(some 22), none, .callv (.t 21) []⟩, ⟨(some 23), none, .buildSlice 5 1 [(.val (.string ⟨#[]⟩)), (.val (.int .i64 0)), (.val (.string ⟨#[]⟩)), (.val (.int .i64 0)), (.val (.slice none 0 0))] [(0, 5, (.t 22))]⟩, ⟨(some 24), none, .append 5 72 (.t 20) (.t 23)⟩, ⟨(some 5), none, .mv (.t 24)⟩]))
 (.region [⟨(some 18), none, .mv (.t 6)⟩, ⟨(some 19), none, .bin .sub 3 true (.t 18) (.c (.val (.int .i64 1)))⟩, ⟨(some 6), none, .mv (.t 19)⟩])))
def f19_l0 : ACode := .loop f19_b0
def f19 : ACode := (.seq (.region [⟨(some 4), none, .mv (.c (.val (.slice none 0 0)))⟩])
 (.seq (.region [⟨(some 5), none, .mv (.c (.val (.slice none 0 0)))⟩])
 (.seq (.seq (.region [⟨(some 7), none, .mv (.t 0)⟩, ⟨(some 8), none, .call 50 [(.t 7)]⟩, ⟨(some 6), none, .mv (.t 8)⟩])
 (.block 0 f19_l0))
 (.seq (.region [⟨(some 25), none, .mv (.t 5)⟩, ⟨(some 4), none, .mv (.t 25)⟩])
 .ret))))
def f19_fn : AFun := ⟨f19, [.tmp 4]⟩
theorem f19_ok : funOf Tryz.prog 19 = some f19_fn := by kernel_rfl
def f20 : ACode := (.seq (.region [⟨(some 2), none, .alloc [(.val (.string ⟨#[]⟩)), (.val (.int .i64 0)), (.val (.string ⟨#[]⟩)), (.val (.int .i64 0)), (.val (.slice none 0 0))]⟩])
 (.seq (.region [⟨(some 4), none, .mv (.t 0)⟩, ⟨(some 5), none, .call 17 [(.t 4)]⟩, ⟨(some 6), none, .build [(.val (.string ⟨#[]⟩)), (.val (.int .i64 0)), (.val (.string ⟨#[]⟩)), (.val (.int .i64 0)), (.val (.slice none 0 0))] [(0, 1, (.t 5))]⟩, ⟨(some 3), none, .alloc [(.val (.string ⟨#[]⟩)), (.val (.int .i64 0)), (.val (.string ⟨#[]⟩)), (.val (.int .i64 0)), (.val (.slice none 0 0))]⟩, ⟨none, none, .store 5 (.t 3) (.t 6)⟩])
 (.seq (.region [⟨(some 7), none, .mv (.t 0)⟩, ⟨(some 8), none, .call 51 [(.t 7)]⟩, ⟨(some 9), none, .fieldAddr 1 (.t 3)⟩, ⟨none, none, .store 4 (.t 9) (.t 8)⟩])
 (.seq (.region [⟨(some 10), none, .load (some 5) (.t 3)⟩, ⟨none, none, .store 5 (.t 2) (.t 10)⟩])
 .ret))))
def f20_fn : AFun := ⟨f20, [.cell 2 (some 5)]⟩
theorem f20_ok : funOf Tryz.prog 20 = some f20_fn := by kernel_rfl
def f21_b0 : ACode := (.seq (.seq (.region [⟨(some 9), none, .mv (.t 6)⟩, ⟨(some 10), none, .bin .gtr 3 true (.t 9) (.c (.val (.int .i64 0)))⟩, ⟨(some 11), none, .mv (.t 10)⟩, ⟨(some 12), some (11, true), .mv (.t 0)⟩, ⟨(some 13), some (11, true), .nilck (.t 12)⟩, ⟨(some 14), some (11, true), .fieldAddr 1 (.t 13)⟩, ⟨(some 15), some (11, true), .load none (.t 14)⟩, ⟨(some 16), some (11, true), .un .not (.t 15)⟩, ⟨(some 17), none, .pick (.t 11) (.t 16) (.c (.val (.bool false)))⟩])
 (.cond (.t 17) .skip (.exit 0)))
 (.seq (.block 1 (.region [⟨(some 20), none, .mv (.t 5)⟩, ⟨(some 21), none, .mv (.t 1)⟩, ⟨(some 22), none, .callv (.t 21) []⟩, ⟨(some 23), none, .buildSlice 4 1 [(.val (.int .i64 0)), (.val (.int .i64 0)), (.val (.slice none 0 0)), (.val (.slice none 0 0))] [(0, 4, (.t 22))]⟩, ⟨(some 24), none, .append 4 64 (.t 20) (.t 23)⟩, ⟨(some 5), none, .mv (.t 24)⟩]))
 (.region [⟨(some 18), none, .mv (.t 6)⟩, ⟨(some 19), none, .bin .sub 3 true (.t 18) (.c (.val (.int .i64 1)))⟩, ⟨(some 6), none, .mv (.t 19)⟩])))
def f21_l0 : ACode := .loop f21_b0
def f21 : ACode := (.seq (.region [⟨(some 4), none, .mv (.c (.val (.slice none 0 0)))⟩])
 (.seq (.region [⟨(some 5), none, .mv (.c (.val (.slice none 0 0)))⟩])
 (.seq (.seq (.region [⟨(some 7), none, .mv (.t 0)⟩, ⟨(some 8), none, .call 50 [(.t 7)]⟩, ⟨(some 6), none, .mv (.t 8)⟩])
 (.block 0 f21_l0))
 (.seq (.region [⟨(some 25), none, .mv (.t 5)⟩, ⟨(some 4), none, .mv (.t 25)⟩])
 .ret))))
def f21_fn : AFun := ⟨f21, [.tmp 4]⟩
theorem f21_ok : funOf Tryz.prog 21 = some f21_fn := by kernel_rfl
def f22 : ACode := (.seq (.region [⟨(some 2), none, .alloc [(.val (.int .i64 0)), (.val (.int .i64 0)), (.val (.slice none 0 0)), (.val (.slice none 0 0))]⟩])
 (.seq (.region [⟨(some 4), none, .mv (.t 0)⟩, ⟨(some 5), none, .call 18 [(.t 4)]⟩, ⟨(some 6), none, .build [(.val (.int .i64 0)), (.val (.int .i64 0)), (.val (.slice none 0 0)), (.val (.slice none 0 0))] [(0, 1, (.t 5))]⟩, ⟨(some 3), none, .alloc [(.val (.int .i64 0)), (.val (.int .i64 0)), (.val (.slice none 0 0)), (.val (.slice none 0 0))]⟩, ⟨none, none, .store 4 (.t 3) (.t 6)⟩])
 (.seq (.region [⟨(some 7), none, .mv (.t 0)⟩, ⟨(some 8), none, .call 18 [(.t 7)]⟩, ⟨(some 9), none, .fieldAddr 1 (.t 3)⟩, ⟨none, none, .store 1 (.t 9) (.t 8)⟩])
 (.seq (.region [⟨(some 10), none, .mv (.t 0)⟩, ⟨(some 11), none, .mv (.t 0)⟩, ⟨(some 12), none, .mkFunc (.func 53) [(.t 11)] []⟩, ⟨(some 13), none, .call 52 [(.t 10), (.t 12)]⟩, ⟨(some 14), none, .fieldAddr 2 (.t 3)⟩, ⟨none, none, .store 1 (.t 14) (.t 13)⟩])
 (.seq (.region [⟨(some 15), none, .mv (.t 0)⟩, ⟨(some 16), none, .mv (.t 0)⟩, ⟨(some 17), none, .mkFunc (.func 22) [(.t 16)] []⟩, ⟨(some 18), none, .call 21 [(.t 15), (.t 17)]⟩, ⟨(some 19), none, .fieldAddr 3 (.t 3)⟩, ⟨none, none, .store 1 (.t 19) (.t 18)⟩])
 (.seq (.region [⟨(some 20), none, .load (some 4) (.t 3)⟩, ⟨none, none, .store 4 (.t 2) (.t 20)⟩])
 .ret))))))
def f22_fn : AFun := ⟨f22, [.cell 2 (some 4)]⟩
theorem f22_ok : funOf Tryz.prog 22 = some f22_fn := by kernel_rfl
def f29_o0 : List DOp := [⟨⟨(some 17), none, .mv (.t 0)⟩, [0], []⟩, ⟨⟨(some 18), none, .mv (.t 5)⟩, [5], [0]⟩, ⟨⟨(some 19), none, .idxAddrS 5 (.t 17) (.t 18)⟩, [17, 18], []⟩, ⟨⟨(some 20), none, .fieldAddr 0 (.t 19)⟩, [19], []⟩, ⟨⟨(some 21), none, .load none (.t 20)⟩, [20], []⟩, ⟨⟨(some 22), none, .mv (.t 1)⟩, [1], [0, 1, 2, 3, 4]⟩, ⟨⟨(some 23), none, .mv (.t 5)⟩, [5], [0, 1, 2, 3, 4, 5]⟩, ⟨⟨(some 24), none, .idxAddrS 5 (.t 22) (.t 23)⟩, [22, 23], [0, 1, 2, 3, 4]⟩, ⟨⟨(some 25), none, .fieldAddr 0 (.t 24)⟩, [24], [0, 1, 2, 3, 4]⟩, ⟨⟨(some 26), none, .load none (.t 25)⟩, [25], [0, 1, 2, 3, 4]⟩, ⟨⟨(some 27), none, .bin .neq 9 false (.t 21) (.t 26)⟩, [21, 26], []⟩, ⟨⟨(some 28), none, .mv (.t 27)⟩, [27], []⟩, ⟨⟨(some 29), some (28, false), .mv (.t 0)⟩, [0, 28], []⟩, ⟨⟨(some 30), some (28, false), .mv (.t 5)⟩, [5, 28], [12]⟩, ⟨⟨(some 31), some (28, false), .idxAddrS 5 (.t 29) (.t 30)⟩, [29, 30, 28], []⟩, ⟨⟨(some 32), some (28, false), .fieldAddr 1 (.t 31)⟩, [31, 28], []⟩, ⟨⟨(some 33), some (28, false), .load (some 4) (.t 32)⟩, [32, 28], []⟩, ⟨⟨(some 34), some (28, false), .mv (.t 1)⟩, [1, 28], [12, 13, 14, 15, 16]⟩, ⟨⟨(some 35), some (28, false), .mv (.t 5)⟩, [5, 28], [12, 13, 14, 15, 16, 17]⟩, ⟨⟨(some 36), some (28, false), .idxAddrS 5 (.t 34) (.t 35)⟩, [34, 35, 28], [12, 13, 14, 15, 16]⟩, ⟨⟨(some 37), some (28, false), .fieldAddr 1 (.t 36)⟩, [36, 28], [12, 13, 14, 15, 16]⟩, ⟨⟨(some 38), some (28, false), .load (some 4) (.t 37)⟩, [37, 28], [12, 13, 14, 15, 16]⟩, ⟨⟨(some 39), some (28, false), .call 56 [(.t 33), (.t 38)]⟩, [33, 38, 28], []⟩, ⟨⟨(some 40), some (28, false), .un .not (.t 39)⟩, [39, 28], []⟩, ⟨⟨(some 41), none, .pick (.t 28) (.c (.val (.bool true))) (.t 40)⟩, [28, 40], []⟩]
def f29_d0 : ACode := .draw f29_o0
def f29_b1 : ACode := (.seq (.seq (.region [⟨(some 11), none, .mv (.t 5)⟩, ⟨(some 12), none, .mv (.t 0)⟩, ⟨(some 13), none, .lenS (.t 12)⟩, ⟨(some 14), none, .bin .lss 3 false (.t 11) (.t 13)⟩])
 (.cond (.t 14) .skip (.exit 0)))
 (.seq (.block 1 (.seq f29_d0
 (.cond (.t 41) (.seq (.region [⟨(some 4), none, .mv (.c (.val (.bool false)))⟩])
 .ret) .skip)))
 (.region [⟨(some 15), none, .mv (.t 5)⟩, ⟨(some 16), none, .bin .add 3 true (.t 15) (.c (.val (.int .i64 1)))⟩, ⟨(some 5), none, .mv (.t 16)⟩])))
def f29_l1 : ACode := .loop f29_b1
def f29 : ACode := (.seq (.region [⟨(some 4), none, .mv (.c (.val (.bool false)))⟩])
 (.seq (.seq (.region [⟨(some 6), none, .mv (.t 0)⟩, ⟨(some 7), none, .lenS (.t 6)⟩, ⟨(some 8), none, .mv (.t 1)⟩, ⟨(some 9), none, .lenS (.t 8)⟩, ⟨(some 10), none, .bin .neq 3 false (.t 7) (.t 9)⟩])
 (.cond (.t 10) (.seq (.region [⟨(some 4), none, .mv (.c (.val (.bool false)))⟩])
 .ret) .skip))
 (.seq (.seq (.region [⟨(some 5), none, .mv (.c (.val (.int .i64 0)))⟩])
 (.block 0 f29_l1))
 (.seq (.region [⟨(some 4), none, .mv (.c (.val (.bool true)))⟩])
 .ret))))
def f29_fn : AFun := ⟨f29, [.tmp 4]⟩
theorem f29_ok : funOf Tryz.prog 29 = some f29_fn := by kernel_rfl
def f30_o0 : List DOp := [⟨⟨(some 47), none, .fieldAddr 2 (.t 2)⟩, [2], []⟩, ⟨⟨(some 48), none, .load none (.t 47)⟩, [47], []⟩, ⟨⟨(some 49), none, .mv (.t 5)⟩, [5], [0, 1]⟩, ⟨⟨(some 50), none, .idxAddrS 2 (.t 48) (.t 49)⟩, [48, 49], []⟩, ⟨⟨(some 51), none, .load (some 2) (.t 50)⟩, [50], []⟩, ⟨⟨(some 52), none, .fieldAddr 2 (.t 3)⟩, [3], [0, 1, 2, 3, 4]⟩, ⟨⟨(some 53), none, .load none (.t 52)⟩, [52], [0, 1, 2, 3, 4]⟩, ⟨⟨(some 54), none, .mv (.t 5)⟩, [5], [0, 1, 2, 3, 4, 5, 6]⟩, ⟨⟨(some 55), none, .idxAddrS 2 (.t 53) (.t 54)⟩, [53, 54], [0, 1, 2, 3, 4]⟩, ⟨⟨(some 56), none, .load (some 2) (.t 55)⟩, [55], [0, 1, 2, 3, 4]⟩, ⟨⟨(some 6), none, .alloc [(.val (.bool false)), (.val (.slice none 0 0))]⟩, [], [0, 1, 2, 3, 4, 5, 6, 7, 8, 9]⟩, ⟨⟨(some 7), none, .alloc [(.val (.bool false)), (.val (.slice none 0 0))]⟩, [], [0, 1, 2, 3, 4, 5, 6, 7, 8, 9, 10]⟩, ⟨⟨none, none, .store 2 (.t 6) (.t 51)⟩, [6, 51], [5, 6, 7, 8, 9]⟩, ⟨⟨none, none, .store 2 (.t 7) (.t 56)⟩, [7, 56], []⟩]
def f30_d0 : ACode := .draw f30_o0
def f30_o1 : List DOp := [⟨⟨(some 78), none, .fieldAddr 1 (.t 6)⟩, [6], []⟩, ⟨⟨(some 79), none, .load none (.t 78)⟩, [78], []⟩, ⟨⟨(some 80), none, .mv (.t 8)⟩, [8], [0, 1]⟩, ⟨⟨(some 81), none, .idxAddrS 1 (.t 79) (.t 80)⟩, [79, 80], []⟩, ⟨⟨(some 82), none, .load none (.t 81)⟩, [81], []⟩, ⟨⟨(some 83), none, .fieldAddr 1 (.t 7)⟩, [7], [0, 1, 2, 3, 4]⟩, ⟨⟨(some 84), none, .load none (.t 83)⟩, [83], [0, 1, 2, 3, 4]⟩, ⟨⟨(some 85), none, .mv (.t 8)⟩, [8], [0, 1, 2, 3, 4, 5, 6]⟩, ⟨⟨(some 86), none, .idxAddrS 1 (.t 84) (.t 85)⟩, [84, 85], [0, 1, 2, 3, 4]⟩, ⟨⟨(some 87), none, .load none (.t 86)⟩, [86], [0, 1, 2, 3, 4]⟩, ⟨⟨(some 88), none, .bin .neq 3 false (.t 82) (.t 87)⟩, [82, 87], []⟩]
def f30_d1 : ACode := .draw f30_o1
def f30_b2 : ACode := (.seq (.seq (.region [⟨(some 71), none, .mv (.t 8)⟩, ⟨(some 72), none, .fieldAddr 1 (.t 6)⟩, ⟨(some 73), none, .load none (.t 72)⟩, ⟨(some 74), none, .lenS (.t 73)⟩, ⟨(some 75), none, .bin .lss 3 false (.t 71) (.t 74)⟩])
 (.cond (.t 75) .skip (.exit 2)))
 (.seq (.block 3 (.seq f30_d1
 (.cond (.t 88) (.seq (.region [⟨(some 4), none, .mv (.c (.val (.bool false)))⟩])
 .ret) .skip)))
 (.region [⟨(some 76), none, .mv (.t 8)⟩, ⟨(some 77), none, .bin .add 3 true (.t 76) (.c (.val (.int .i64 1)))⟩, ⟨(some 8), none, .mv (.t 77)⟩])))
def f30_l2 : ACode := .loop f30_b2
def f30_b3 : ACode := (.seq (.seq (.region [⟨(some 40), none, .mv (.t 5)⟩, ⟨(some 41), none, .fieldAddr 2 (.t 2)⟩, ⟨(some 42), none, .load none (.t 41)⟩, ⟨(some 43), none, .lenS (.t 42)⟩, ⟨(some 44), none, .bin .lss 3 false (.t 40) (.t 43)⟩])
 (.cond (.t 44) .skip (.exit 0)))
 (.seq (.block 1 (.seq f30_d0
 (.seq (.seq (.region [⟨(some 57), none, .fieldAddr 0 (.t 6)⟩, ⟨(some 58), none, .load none (.t 57)⟩, ⟨(some 59), none, .fieldAddr 0 (.t 7)⟩, ⟨(some 60), none, .load none (.t 59)⟩, ⟨(some 61), none, .bin .neq 4 false (.t 58) (.t 60)⟩, ⟨(some 62), none, .mv (.t 61)⟩, ⟨(some 63), some (62, false), .fieldAddr 1 (.t 6)⟩, ⟨(some 64), some (62, false), .load none (.t 63)⟩, ⟨(some 65), some (62, false), .lenS (.t 64)⟩, ⟨(some 66), some (62, false), .fieldAddr 1 (.t 7)⟩, ⟨(some 67), some (62, false), .load none (.t 66)⟩, ⟨(some 68), some (62, false), .lenS (.t 67)⟩, ⟨(some 69), some (62, false), .bin .neq 3 false (.t 65) (.t 68)⟩, ⟨(some 70), none, .pick (.t 62) (.c (.val (.bool true))) (.t 69)⟩])
 (.cond (.t 70) (.seq (.region [⟨(some 4), none, .mv (.c (.val (.bool false)))⟩])
 .ret) .skip))
 (.seq (.region [⟨(some 8), none, .mv (.c (.val (.int .i64 0)))⟩])
 (.block 2 f30_l2)))))
 (.region [⟨(some 45), none, .mv (.t 5)⟩, ⟨(some 46), none, .bin .add 3 true (.t 45) (.c (.val (.int .i64 1)))⟩, ⟨(some 5), none, .mv (.t 46)⟩])))
def f30_l3 : ACode := .loop f30_b3
def f30_o4 : List DOp := [⟨⟨(some 96), none, .fieldAddr 3 (.t 2)⟩, [2], []⟩, ⟨⟨(some 97), none, .load none (.t 96)⟩, [96], []⟩, ⟨⟨(some 98), none, .mv (.t 9)⟩, [9], [0, 1]⟩, ⟨⟨(some 99), none, .idxAddrS 4 (.t 97) (.t 98)⟩, [97, 98], []⟩, ⟨⟨(some 100), none, .load (some 4) (.t 99)⟩, [99], []⟩, ⟨⟨(some 101), none, .fieldAddr 3 (.t 3)⟩, [3], [0, 1, 2, 3, 4]⟩, ⟨⟨(some 102), none, .load none (.t 101)⟩, [101], [0, 1, 2, 3, 4]⟩, ⟨⟨(some 103), none, .mv (.t 9)⟩, [9], [0, 1, 2, 3, 4, 5, 6]⟩, ⟨⟨(some 104), none, .idxAddrS 4 (.t 102) (.t 103)⟩, [102, 103], [0, 1, 2, 3, 4]⟩, ⟨⟨(some 105), none, .load (some 4) (.t 104)⟩, [104], [0, 1, 2, 3, 4]⟩, ⟨⟨(some 106), none, .call 30 [(.t 100), (.t 105)]⟩, [100, 105], []⟩, ⟨⟨(some 107), none, .un .not (.t 106)⟩, [106], []⟩]
def f30_d4 : ACode := .draw f30_o4
def f30_b5 : ACode := (.seq (.seq (.region [⟨(some 89), none, .mv (.t 9)⟩, ⟨(some 90), none, .fieldAddr 3 (.t 2)⟩, ⟨(some 91), none, .load none (.t 90)⟩, ⟨(some 92), none, .lenS (.t 91)⟩, ⟨(some 93), none, .bin .lss 3 false (.t 89) (.t 92)⟩])
 (.cond (.t 93) .skip (.exit 4)))
 (.seq (.block 5 (.seq f30_d4
 (.cond (.t 107) (.seq (.region [⟨(some 4), none, .mv (.c (.val (.bool false)))⟩])
 .ret) .skip)))
 (.region [⟨(some 94), none, .mv (.t 9)⟩, ⟨(some 95), none, .bin .add 3 true (.t 94) (.c (.val (.int .i64 1)))⟩, ⟨(some 9), none, .mv (.t 95)⟩])))
def f30_l5 : ACode := .loop f30_b5
def f30 : ACode := (.seq (.region [⟨(some 2), none, .box (.t 0)⟩, ⟨(some 3), none, .box (.t 1)⟩, ⟨(some 4), none, .mv (.c (.val (.bool false)))⟩])
 (.seq (.seq (.region [⟨(some 10), none, .fieldAddr 0 (.t 2)⟩, ⟨(some 11), none, .load none (.t 10)⟩, ⟨(some 12), none, .fieldAddr 0 (.t 3)⟩, ⟨(some 13), none, .load none (.t 12)⟩, ⟨(some 14), none, .bin .neq 3 false (.t 11) (.t 13)⟩, ⟨(some 15), none, .mv (.t 14)⟩, ⟨(some 16), some (15, false), .fieldAddr 1 (.t 2)⟩, ⟨(some 17), some (15, false), .load none (.t 16)⟩, ⟨(some 18), some (15, false), .fieldAddr 1 (.t 3)⟩, ⟨(some 19), some (15, false), .load none (.t 18)⟩, ⟨(some 20), some (15, false), .bin .neq 3 false (.t 17) (.t 19)⟩, ⟨(some 21), none, .pick (.t 15) (.c (.val (.bool true))) (.t 20)⟩, ⟨(some 22), none, .mv (.t 21)⟩, ⟨(some 23), some (22, false), .fieldAddr 2 (.t 2)⟩, ⟨(some 24), some (22, false), .load none (.t 23)⟩, ⟨(some 25), some (22, false), .lenS (.t 24)⟩, ⟨(some 26), some (22, false), .fieldAddr 2 (.t 3)⟩, ⟨(some 27), some (22, false), .load none (.t 26)⟩, ⟨(some 28), some (22, false), .lenS (.t 27)⟩, ⟨(some 29), some (22, false), .bin .neq 3 false (.t 25) (.t 28)⟩, ⟨(some 30), none, .pick (.t 22) (.c (.val (.bool true))) (.t 29)⟩, ⟨(some 31), none, .mv (.t 30)⟩, ⟨(some 32), some (31, false), .fieldAddr 3 (.t 2)⟩, ⟨(some 33), some (31, false), .load none (.t 32)⟩, ⟨(some 34), some (31, false), .lenS (.t 33)⟩, ⟨(some 35), some (31, false), .fieldAddr 3 (.t 3)⟩, ⟨(some 36), some (31, false), .load none (.t 35)⟩, ⟨(some 37), some (31, false), .lenS (.t 36)⟩, ⟨(some 38), some (31, false), .bin .neq 3 false (.t 34) (.t 37)⟩, ⟨(some 39), none, .pick (.t 31) (.c (.val (.bool true))) (.t 38)⟩])
 (.cond (.t 39) (.seq (.region [⟨(some 4), none, .mv (.c (.val (.bool false)))⟩])
 .ret) .skip))
 (.seq (.seq (.region [⟨(some 5), none, .mv (.c (.val (.int .i64 0)))⟩])
 (.block 0 f30_l3))
 (.seq (.seq (.region [⟨(some 9), none, .mv (.c (.val (.int .i64 0)))⟩])
 (.block 4 f30_l5))
 (.seq (.region [⟨(some 4), none, .mv (.c (.val (.bool true)))⟩])
 .ret)))))
def f30_fn : AFun := ⟨f30, [.tmp 4]⟩
theorem f30_ok : funOf Tryz.prog 30 = some f30_fn := by kernel_rfl
def f33 : ACode := (.seq (.region [⟨(some 4), none, .mv (.t 0)⟩, ⟨(some 5), none, .mv (.t 1)⟩, ⟨(some 6), none, .lenStr (.t 5)⟩, ⟨(some 7), none, .call 34 [(.t 4), (.t 6)]⟩])
 (.region [⟨(some 8), none, .mv (.t 0)⟩, ⟨(some 9), none, .mv (.t 0)⟩, ⟨(some 10), none, .nilck (.t 9)⟩, ⟨(some 11), none, .fieldAddr 0 (.t 10)⟩, ⟨(some 12), none, .load none (.t 11)⟩, ⟨(some 13), none, .mv (.t 1)⟩, ⟨(some 14), none, .appT 5 (.t 12) (.t 13)⟩, ⟨(some 15), none, .nilck (.t 8)⟩, ⟨(some 16), none, .fieldAddr 0 (.t 15)⟩, ⟨none, none, .store 1 (.t 16) (.t 14)⟩]))
def f33_fn : AFun := ⟨f33, []⟩
theorem f33_ok : funOf Tryz.prog 33 = some f33_fn := by kernel_rfl
def f34_b0 : ACode := (.seq (.seq (.region [⟨(some 12), none, .mv (.t 4)⟩, ⟨(some 13), none, .bin .geq 141 true (.t 12) (.c (.val (.int .u64 128)))⟩])
 (.cond (.t 13) .skip (.exit 0)))
 (.block 1 (.seq (.region [⟨(some 14), none, .mv (.t 0)⟩, ⟨(some 15), none, .mv (.t 0)⟩, ⟨(some 16), none, .nilck (.t 15)⟩, ⟨(some 17), none, .fieldAddr 0 (.t 16)⟩, ⟨(some 18), none, .load none (.t 17)⟩, ⟨(some 19), none, .mv (.t 4)⟩, ⟨(some 20), none, .bin .and 141 true (.t 19) (.c (.val (.int .u64 127)))⟩, ⟨(some 21), none, .conv .u8 (.t 20)⟩, ⟨(some 22), none, .bin .or 5 true (.t 21) (.c (.val (.int .u8 128)))⟩, ⟨(some 23), none, .buildSlice 1 1 [(.val (.int .u8 0))] [(0, 1, (.t 22))]⟩, ⟨(some 24), none, .appT 5 (.t 18) (.t 23)⟩, ⟨(some 25), none, .nilck (.t 14)⟩, ⟨(some 26), none, .fieldAddr 0 (.t 25)⟩, ⟨none, none, .store 1 (.t 26) (.t 24)⟩])
 (.region [⟨(some 27), none, .mv (.t 4)⟩, ⟨(some 28), none, .bin .shr 141 true (.t 27) (.c (.val (.int .u64 7)))⟩, ⟨(some 4), none, .mv (.t 28)⟩]))))
def f34_l0 : ACode := .loop f34_b0
def f34 : ACode := (.seq (.region [⟨(some 5), none, .mv (.t 1)⟩, ⟨(some 6), none, .conv .u64 (.t 5)⟩, ⟨(some 7), none, .bin .shl 141 true (.t 6) (.c (.val (.int .u64 1)))⟩, ⟨(some 8), none, .mv (.t 1)⟩, ⟨(some 9), none, .bin .shr 3 true (.t 8) (.c (.val (.int .u64 63)))⟩, ⟨(some 10), none, .conv .u64 (.t 9)⟩, ⟨(some 11), none, .bin .xor 141 false (.t 7) (.t 10)⟩, ⟨(some 4), none, .mv (.t 11)⟩])
 (.seq (.block 0 f34_l0)
 (.region [⟨(some 29), none, .mv (.t 0)⟩, ⟨(some 30), none, .mv (.t 0)⟩, ⟨(some 31), none, .nilck (.t 30)⟩, ⟨(some 32), none, .fieldAddr 0 (.t 31)⟩, ⟨(some 33), none, .load none (.t 32)⟩, ⟨(some 34), none, .mv (.t 4)⟩, ⟨(some 35), none, .conv .u8 (.t 34)⟩, ⟨(some 36), none, .buildSlice 1 1 [(.val (.int .u8 0))] [(0, 1, (.t 35))]⟩, ⟨(some 37), none, .appT 5 (.t 33) (.t 36)⟩, ⟨(some 38), none, .nilck (.t 29)⟩, ⟨(some 39), none, .fieldAddr 0 (.t 38)⟩, ⟨none, none, .store 1 (.t 39) (.t 37)⟩])))
def f34_fn : AFun := ⟨f34, []⟩
theorem f34_ok : funOf Tryz.prog 34 = some f34_fn := by kernel_rfl
def f35_b0 : ACode := (.seq (.region [⟨(some 27), none, .bin .lss 3 false (.t 26) (.t 25)⟩])
 (.seq (.cond (.t 27) .skip (.exit 0))
 (.seq (.block 1 (.seq (.region [⟨(some 28), none, .idxAddrS 4 (.t 24) (.t 26)⟩, ⟨(some 29), none, .load (some 4) (.t 28)⟩, ⟨(some 5), none, .alloc [(.val (.int .i64 0)), (.val (.string ⟨#[]⟩)), (.val (.int .i64 0)), (.val (.slice none 0 0))]⟩, ⟨none, none, .store 4 (.t 5) (.t 29)⟩])
 (.region [⟨(some 30), none, .mv (.t 0)⟩, ⟨(some 31), none, .load (some 4) (.t 5)⟩, ⟨(some 32), none, .call 35 [(.t 30), (.t 31)]⟩])))
 (.region [⟨(some 33), none, .bin .add 3 true (.t 26) (.c (.val (.int .i64 1)))⟩, ⟨(some 26), none, .mv (.t 33)⟩]))))
def f35_l0 : ACode := .loop f35_b0
def f35 : ACode := (.seq (.region [⟨(some 3), none, .box (.t 1)⟩])
 (.seq (.region [⟨(some 6), none, .mv (.t 0)⟩, ⟨(some 7), none, .fieldAddr 0 (.t 3)⟩, ⟨(some 8), none, .load none (.t 7)⟩, ⟨(some 9), none, .call 34 [(.t 6), (.t 8)]⟩])
 (.seq (.region [⟨(some 10), none, .mv (.t 0)⟩, ⟨(some 11), none, .fieldAddr 1 (.t 3)⟩, ⟨(some 12), none, .load none (.t 11)⟩, ⟨(some 13), none, .call 33 [(.t 10), (.t 12)]⟩])
 (.seq (.region [⟨(some 14), none, .mv (.t 0)⟩, ⟨(some 15), none, .fieldAddr 2 (.t 3)⟩, ⟨(some 16), none, .load none (.t 15)⟩, ⟨(some 17), none, .call 34 [(.t 14), (.t 16)]⟩])
 (.seq (.region [⟨(some 18), none, .mv (.t 0)⟩, ⟨(some 19), none, .fieldAddr 3 (.t 3)⟩, ⟨(some 20), none, .load none (.t 19)⟩, ⟨(some 21), none, .lenS (.t 20)⟩, ⟨(some 22), none, .call 34 [(.t 18), (.t 21)]⟩])
 (.seq (.region [⟨(some 23), none, .fieldAddr 3 (.t 3)⟩, ⟨(some 24), none, .load none (.t 23)⟩, ⟨(some 25), none, .lenS (.t 24)⟩, ⟨(some 26), none, .mv (.c (.val (.int .i64 0)))⟩])
 (.block 0 f35_l0)))))))
def f35_fn : AFun := ⟨f35, []⟩
theorem f35_ok : funOf Tryz.prog 35 = some f35_fn := by kernel_rfl
def f36_b0 : ACode := (.seq (.region [⟨(some 45), none, .bin .lss 3 false (.t 44) (.t 43)⟩])
 (.seq (.cond (.t 45) .skip (.exit 2))
 (.seq (.block 3 (.seq (.region [⟨(some 46), none, .idxAddrS 1 (.t 42) (.t 44)⟩, ⟨(some 47), none, .load none (.t 46)⟩, ⟨(some 8), none, .mv (.t 47)⟩])
 (.region [⟨(some 48), none, .mv (.t 0)⟩, ⟨(some 49), none, .mv (.t 8)⟩, ⟨(some 50), none, .call 34 [(.t 48), (.t 49)]⟩])))
 (.region [⟨(some 51), none, .bin .add 3 true (.t 44) (.c (.val (.int .i64 1)))⟩, ⟨(some 44), none, .mv (.t 51)⟩]))))
def f36_l0 : ACode := .loop f36_b0
def f36_b1 : ACode := (.seq (.region [⟨(some 28), none, .bin .lss 3 false (.t 27) (.t 26)⟩])
 (.seq (.cond (.t 28) .skip (.exit 0))
 (.seq (.block 1 (.seq (.region [⟨(some 29), none, .idxAddrS 2 (.t 25) (.t 27)⟩, ⟨(some 30), none, .load (some 2) (.t 29)⟩, ⟨(some 5), none, .alloc [(.val (.bool false)), (.val (.slice none 0 0))]⟩, ⟨none, none, .store 2 (.t 5) (.t 30)⟩])
 (.seq (.region [⟨(some 6), none, .mv (.c (.val (.int .i64 0)))⟩])
 (.seq (.seq (.region [⟨(some 31), none, .fieldAddr 0 (.t 5)⟩, ⟨(some 32), none, .load none (.t 31)⟩])
 (.cond (.t 32) (.region [⟨(some 6), none, .mv (.c (.val (.int .i64 1)))⟩]) .skip))
 (.seq (.region [⟨(some 33), none, .mv (.t 0)⟩, ⟨(some 34), none, .mv (.t 6)⟩, ⟨(some 35), none, .call 34 [(.t 33), (.t 34)]⟩])
 (.seq (.region [⟨(some 36), none, .mv (.t 0)⟩, ⟨(some 37), none, .fieldAddr 1 (.t 5)⟩, ⟨(some 38), none, .load none (.t 37)⟩, ⟨(some 39), none, .lenS (.t 38)⟩, ⟨(some 40), none, .call 34 [(.t 36), (.t 39)]⟩])
 (.seq (.region [⟨(some 41), none, .fieldAddr 1 (.t 5)⟩, ⟨(some 42), none, .load none (.t 41)⟩, ⟨(some 43), none, .lenS (.t 42)⟩, ⟨(some 44), none, .mv (.c (.val (.int .i64 0)))⟩])
 (.block 2 f36_l0))))))))
 (.region [⟨(some 52), none, .bin .add 3 true (.t 27) (.c (.val (.int .i64 1)))⟩, ⟨(some 27), none, .mv (.t 52)⟩]))))
def f36_l1 : ACode := .loop f36_b1
def f36_b2 : ACode := (.seq (.region [⟨(some 62), none, .bin .lss 3 false (.t 61) (.t 60)⟩])
 (.seq (.cond (.t 62) .skip (.exit 4))
 (.seq (.block 5 (.seq (.region [⟨(some 63), none, .idxAddrS 4 (.t 59) (.t 61)⟩, ⟨(some 64), none, .load (some 4) (.t 63)⟩, ⟨(some 10), none, .alloc [(.val (.int .i64 0)), (.val (.int .i64 0)), (.val (.slice none 0 0)), (.val (.slice none 0 0))]⟩, ⟨none, none, .store 4 (.t 10) (.t 64)⟩])
 (.region [⟨(some 65), none, .mv (.t 0)⟩, ⟨(some 66), none, .load (some 4) (.t 10)⟩, ⟨(some 67), none, .call 36 [(.t 65), (.t 66)]⟩])))
 (.region [⟨(some 68), none, .bin .add 3 true (.t 61) (.c (.val (.int .i64 1)))⟩, ⟨(some 61), none, .mv (.t 68)⟩]))))
def f36_l2 : ACode := .loop f36_b2
def f36 : ACode := (.seq (.region [⟨(some 3), none, .box (.t 1)⟩])
 (.seq (.region [⟨(some 11), none, .mv (.t 0)⟩, ⟨(some 12), none, .fieldAddr 0 (.t 3)⟩, ⟨(some 13), none, .load none (.t 12)⟩, ⟨(some 14), none, .call 34 [(.t 11), (.t 13)]⟩])
 (.seq (.region [⟨(some 15), none, .mv (.t 0)⟩, ⟨(some 16), none, .fieldAddr 1 (.t 3)⟩, ⟨(some 17), none, .load none (.t 16)⟩, ⟨(some 18), none, .call 34 [(.t 15), (.t 17)]⟩])
 (.seq (.region [⟨(some 19), none, .mv (.t 0)⟩, ⟨(some 20), none, .fieldAddr 2 (.t 3)⟩, ⟨(some 21), none, .load none (.t 20)⟩, ⟨(some 22), none, .lenS (.t 21)⟩, ⟨(some 23), none, .call 34 [(.t 19), (.t 22)]⟩])
 (.seq (.seq (.region [⟨(some 24), none, .fieldAddr 2 (.t 3)⟩, ⟨(some 25), none, .load none (.t 24)⟩, ⟨(some 26), none, .lenS (.t 25)⟩, ⟨(some 27), none, .mv (.c (.val (.int .i64 0)))⟩])
 (.block 0 f36_l1))
 (.seq (.region [⟨(some 53), none, .mv (.t 0)⟩, ⟨(some 54), none, .fieldAddr 3 (.t 3)⟩, ⟨(some 55), none, .load none (.t 54)⟩, ⟨(some 56), none, .lenS (.t 55)⟩, ⟨(some 57), none, .call 34 [(.t 53), (.t 56)]⟩])
 (.seq (.region [⟨(some 58), none, .fieldAddr 3 (.t 3)⟩, ⟨(some 59), none, .load none (.t 58)⟩, ⟨(some 60), none, .lenS (.t 59)⟩, ⟨(some 61), none, .mv (.c (.val (.int .i64 0)))⟩])
 (.block 4 f36_l2))))))))
def f36_fn : AFun := ⟨f36, []⟩
theorem f36_ok : funOf Tryz.prog 36 = some f36_fn := by kernel_rfl
def f37_b0 : ACode := (.seq (.seq (.region [⟨(some 5), none, .mv (.t 4)⟩, ⟨(some 6), none, .mv (.t 0)⟩, ⟨(some 7), none, .lenStr (.t 6)⟩, ⟨(some 8), none, .bin .lss 3 false (.t 5) (.t 7)⟩])
 (.cond (.t 8) .skip (.exit 0)))
 (.seq (.block 1 (.region [⟨(some 11), none, .mv (.t 3)⟩, ⟨(some 12), none, .mv (.t 0)⟩, ⟨(some 13), none, .mv (.t 4)⟩, ⟨(some 14), none, .idxStr (.t 12) (.t 13)⟩, ⟨(some 15), none, .conv .u32 (.t 14)⟩, ⟨(some 16), none, .bin .xor 149 false (.t 11) (.t 15)⟩, ⟨(some 17), none, .bin .mul 149 true (.t 16) (.c (.val (.int .u32 16777619)))⟩, ⟨(some 3), none, .mv (.t 17)⟩]))
 (.region [⟨(some 9), none, .mv (.t 4)⟩, ⟨(some 10), none, .bin .add 3 true (.t 9) (.c (.val (.int .i64 1)))⟩, ⟨(some 4), none, .mv (.t 10)⟩])))
def f37_l0 : ACode := .loop f37_b0
def f37 : ACode := (.seq (.region [⟨(some 2), none, .mv (.c (.val (.int .i64 0)))⟩])
 (.seq (.region [⟨(some 3), none, .mv (.c (.val (.int .u32 2166136261)))⟩])
 (.seq (.seq (.region [⟨(some 4), none, .mv (.c (.val (.int .i64 0)))⟩])
 (.block 0 f37_l0))
 (.seq (.region [⟨(some 18), none, .mv (.t 3)⟩, ⟨(some 19), none, .conv .i64 (.t 18)⟩, ⟨(some 2), none, .mv (.t 19)⟩])
 .ret))))
def f37_fn : AFun := ⟨f37, [.tmp 2]⟩
theorem f37_ok : funOf Tryz.prog 37 = some f37_fn := by kernel_rfl
def f50 : ACode := (.seq (.region [⟨(some 2), none, .mv (.c (.val (.int .i64 0)))⟩])
 (.seq (.region [⟨(some 4), none, .mv (.t 0)⟩, ⟨(some 5), none, .call 18 [(.t 4)]⟩, ⟨(some 3), none, .mv (.t 5)⟩])
 (.seq (.seq (.region [⟨(some 6), none, .mv (.t 3)⟩, ⟨(some 7), none, .bin .lss 3 true (.t 6) (.c (.val (.int .i64 0)))⟩, ⟨(some 8), none, .mv (.t 7)⟩, ⟨(some 9), some (8, false), .mv (.t 3)⟩, ⟨(some 10), some (8, false), .mv (.t 0)⟩, ⟨(some 11), some (8, false), .nilck (.t 10)⟩, ⟨(some 12), some (8, false), .fieldAddr 0 (.t 11)⟩, ⟨(some 13), some (8, false), .load none (.t 12)⟩, ⟨(some 14), some (8, false), .lenS (.t 13)⟩, ⟨(some 15), some (8, false), .bin .gtr 3 false (.t 9) (.t 14)⟩, ⟨(some 16), none, .pick (.t 8) (.c (.val (.bool true))) (.t 15)⟩])
 (.cond (.t 16) (.region [⟨(some 17), none, .mv (.t 0)⟩, ⟨(some 18), none, .nilck (.t 17)⟩, ⟨(some 19), none, .fieldAddr 1 (.t 18)⟩, ⟨none, none, .store 1 (.t 19) (.c (.val (.bool true)))⟩]) .skip))
 (.seq (.seq (.region [⟨(some 20), none, .mv (.t 0)⟩, ⟨(some 21), none, .nilck (.t 20)⟩, ⟨(some 22), none, .fieldAddr 1 (.t 21)⟩, ⟨(some 23), none, .load none (.t 22)⟩])
 (.cond (.t 23) (.seq (.region [⟨(some 2), none, .mv (.c (.val (.int .i64 0)))⟩])
 .ret) .skip))
 (.seq (.region [⟨(some 24), none, .mv (.t 3)⟩, ⟨(some 2), none, .mv (.t 24)⟩])
 .ret)))))
def f50_fn : AFun := ⟨f50, [.tmp 2]⟩
theorem f50_ok : funOf Tryz.prog 50 = some f50_fn := by kernel_rfl
def f51 : ACode := (.seq (.region [⟨(some 2), none, .alloc [(.val (.int .i64 0)), (.val (.string ⟨#[]⟩)), (.val (.int .i64 0)), (.val (.slice none 0 0))]⟩])
 (.seq (.region [⟨(some 4), none, .mv (.t 0)⟩, ⟨(some 5), none, .call 18 [(.t 4)]⟩, ⟨(some 6), none, .build [(.val (.int .i64 0)), (.val (.string ⟨#[]⟩)), (.val (.int .i64 0)), (.val (.slice none 0 0))] [(0, 1, (.t 5))]⟩, ⟨(some 3), none, .alloc [(.val (.int .i64 0)), (.val (.string ⟨#[]⟩)), (.val (.int .i64 0)), (.val (.slice none 0 0))]⟩, ⟨none, none, .store 4 (.t 3) (.t 6)⟩])
 (.seq (.region [⟨(some 7), none, .mv (.t 0)⟩, ⟨(some 8), none, .call 17 [(.t 7)]⟩, ⟨(some 9), none, .fieldAddr 1 (.t 3)⟩, ⟨none, none, .store 1 (.t 9) (.t 8)⟩])
 (.seq (.region [⟨(some 10), none, .mv (.t 0)⟩, ⟨(some 11), none, .call 18 [(.t 10)]⟩, ⟨(some 12), none, .fieldAddr 2 (.t 3)⟩, ⟨none, none, .store 1 (.t 12) (.t 11)⟩])
 (.seq (.region [⟨(some 13), none, .mv (.t 0)⟩, ⟨(some 14), none, .mv (.t 0)⟩, ⟨(some 15), none, .mkFunc (.func 51) [(.t 14)] []⟩, ⟨(some 16), none, .call 74 [(.t 13), (.t 15)]⟩, ⟨(some 17), none, .fieldAddr 3 (.t 3)⟩, ⟨none, none, .store 1 (.t 17) (.t 16)⟩])
 (.seq (.region [⟨(some 18), none, .load (some 4) (.t 3)⟩, ⟨none, none, .store 4 (.t 2) (.t 18)⟩])
 .ret))))))
def f51_fn : AFun := ⟨f51, [.cell 2 (some 4)]⟩
theorem f51_ok : funOf Tryz.prog 51 = some f51_fn := by kernel_rfl
def f52_b0 : ACode := (.seq (.seq (.region [⟨(some 9), none, .mv (.t 6)⟩, ⟨(some 10), none, .bin .gtr 3 true (.t 9) (.c (.val (.int .i64 0)))⟩, ⟨(some 11), none, .mv (.t 10)⟩, ⟨(some 12), some (11, true), .mv (.t 0)⟩, ⟨(some 13), some (11, true), .nilck (.t 12)⟩, ⟨(some 14), some (11, true), .fieldAddr 1 (.t 13)⟩, ⟨(some 15), some (11, true), .load none (.t 14)⟩, ⟨(some 16), some (11, true), .un .not (.t 15)⟩, ⟨(some 17), none, .pick (.t 11) (.t 16) (.c (.val (.bool false)))⟩])
 (.cond (.t 17) .skip (.exit 0)))
 (.seq (.block 1 (.region [⟨(some 20), none, .mv (.t 5)⟩, ⟨(some 21), none, .mv (.t 1)⟩, ⟨(some 22), none, .callv (.t 21) []⟩, ⟨(some 23), none, .buildSlice 2 1 [(.val (.bool false)), (.val (.slice none 0 0))] [(0, 2, (.t 22))]⟩, ⟨(some 24), none, .append 2 32 (.t 20) (.t 23)⟩, ⟨(some 5), none, .mv (.t 24)⟩]))
 (.region [⟨(some 18), none, .mv (.t 6)⟩, ⟨(some 19), none, .bin .sub 3 true (.t 18) (.c (.val (.int .i64 1)))⟩, ⟨(some 6), none, .mv (.t 19)⟩])))
def f52_l0 : ACode := .loop f52_b0
def f52 : ACode := (.seq (.region [⟨(some 4), none, .mv (.c (.val (.slice none 0 0)))⟩])
 (.seq (.region [⟨(some 5), none, .mv (.c (.val (.slice none 0 0)))⟩])
 (.seq (.seq (.region [⟨(some 7), none, .mv (.t 0)⟩, ⟨(some 8), none, .call 50 [(.t 7)]⟩, ⟨(some 6), none, .mv (.t 8)⟩])
 (.block 0 f52_l0))
 (.seq (.region [⟨(some 25), none, .mv (.t 5)⟩, ⟨(some 4), none, .mv (.t 25)⟩])
 .ret))))
def f52_fn : AFun := ⟨f52, [.tmp 4]⟩
theorem f52_ok : funOf Tryz.prog 52 = some f52_fn := by kernel_rfl
def f53 : ACode := (.seq (.region [⟨(some 2), none, .alloc [(.val (.bool false)), (.val (.slice none 0 0))]⟩])
 (.seq (.region [⟨(some 4), none, .mv (.t 0)⟩, ⟨(some 5), none, .call 18 [(.t 4)]⟩, ⟨(some 6), none, .bin .eql 3 true (.t 5) (.c (.val (.int .i64 1)))⟩, ⟨(some 7), none, .build [(.val (.bool false)), (.val (.slice none 0 0))] [(0, 1, (.t 6))]⟩, ⟨(some 3), none, .alloc [(.val (.bool false)), (.val (.slice none 0 0))]⟩, ⟨none, none, .store 2 (.t 3) (.t 7)⟩])
 (.seq (.region [⟨(some 8), none, .mv (.t 0)⟩, ⟨(some 9), none, .mv (.t 0)⟩, ⟨(some 10), none, .mkFunc (.func 18) [(.t 9)] []⟩, ⟨(some 11), none, .call 75 [(.t 8), (.t 10)]⟩, ⟨(some 12), none, .fieldAddr 1 (.t 3)⟩, ⟨none, none, .store 1 (.t 12) (.t 11)⟩])
 (.seq (.region [⟨(some 13), none, .load (some 2) (.t 3)⟩, ⟨none, none, .store 2 (.t 2) (.t 13)⟩])
 .ret))))
def f53_fn : AFun := ⟨f53, [.cell 2 (some 2)]⟩
theorem f53_ok : funOf Tryz.prog 53 = some f53_fn := by kernel_rfl
def f56_o0 : List DOp := [⟨⟨(some 40), none, .fieldAddr 3 (.t 2)⟩, [2], []⟩, ⟨⟨(some 41), none, .load none (.t 40)⟩, [40], []⟩, ⟨⟨(some 42), none, .mv (.t 5)⟩, [5], [0, 1]⟩, ⟨⟨(some 43), none, .idxAddrS 4 (.t 41) (.t 42)⟩, [41, 42], []⟩, ⟨⟨(some 44), none, .load (some 4) (.t 43)⟩, [43], []⟩, ⟨⟨(some 45), none, .fieldAddr 3 (.t 3)⟩, [3], [0, 1, 2, 3, 4]⟩, ⟨⟨(some 46), none, .load none (.t 45)⟩, [45], [0, 1, 2, 3, 4]⟩, ⟨⟨(some 47), none, .mv (.t 5)⟩, [5], [0, 1, 2, 3, 4, 5, 6]⟩, ⟨⟨(some 48), none, .idxAddrS 4 (.t 46) (.t 47)⟩, [46, 47], [0, 1, 2, 3, 4]⟩, ⟨⟨(some 49), none, .load (some 4) (.t 48)⟩, [48], [0, 1, 2, 3, 4]⟩, ⟨⟨(some 50), none, .call 56 [(.t 44), (.t 49)]⟩, [44, 49], []⟩, ⟨⟨(some 51), none, .un .not (.t 50)⟩, [50], []⟩]
def f56_d0 : ACode := .draw f56_o0
def f56_b1 : ACode := (.seq (.region [⟨(some 38), none, .bin .lss 3 false (.t 37) (.t 36)⟩])
 (.seq (.cond (.t 38) .skip (.exit 0))
 (.seq (.block 1 (.seq (.region [⟨(some 39), none, .mv (.t 37)⟩, ⟨(some 5), none, .mv (.t 39)⟩])
 (.seq f56_d0
 (.cond (.t 51) (.seq (.region [⟨(some 4), none, .mv (.c (.val (.bool false)))⟩])
 .ret) .skip))))
 (.region [⟨(some 52), none, .bin .add 3 true (.t 37) (.c (.val (.int .i64 1)))⟩, ⟨(some 37), none, .mv (.t 52)⟩]))))
def f56_l1 : ACode := .loop f56_b1
def f56 : ACode := (.seq (.region [⟨(some 2), none, .box (.t 0)⟩, ⟨(some 3), none, .box (.t 1)⟩, ⟨(some 4), none, .mv (.c (.val (.bool false)))⟩])
 (.seq (.seq (.region [⟨(some 6), none, .fieldAddr 0 (.t 2)⟩, ⟨(some 7), none, .load none (.t 6)⟩, ⟨(some 8), none, .fieldAddr 0 (.t 3)⟩, ⟨(some 9), none, .load none (.t 8)⟩, ⟨(some 10), none, .bin .neq 39 false (.t 7) (.t 9)⟩, ⟨(some 11), none, .mv (.t 10)⟩, ⟨(some 12), some (11, false), .fieldAddr 1 (.t 2)⟩, ⟨(some 13), some (11, false), .load none (.t 12)⟩, ⟨(some 14), some (11, false), .fieldAddr 1 (.t 3)⟩, ⟨(some 15), some (11, false), .load none (.t 14)⟩, ⟨(some 16), some (11, false), .bin .neq 9 false (.t 13) (.t 15)⟩, ⟨(some 17), none, .pick (.t 11) (.c (.val (.bool true))) (.t 16)⟩, ⟨(some 18), none, .mv (.t 17)⟩, ⟨(some 19), some (18, false), .fieldAddr 2 (.t 2)⟩, ⟨(some 20), some (18, false), .load none (.t 19)⟩, ⟨(some 21), some (18, false), .fieldAddr 2 (.t 3)⟩, ⟨(some 22), some (18, false), .load none (.t 21)⟩, ⟨(some 23), some (18, false), .bin .neq 3 false (.t 20) (.t 22)⟩, ⟨(some 24), none, .pick (.t 18) (.c (.val (.bool true))) (.t 23)⟩, ⟨(some 25), none, .mv (.t 24)⟩, ⟨(some 26), some (25, false), .fieldAddr 3 (.t 2)⟩, ⟨(some 27), some (25, false), .load none (.t 26)⟩, ⟨(some 28), some (25, false), .lenS (.t 27)⟩, ⟨(some 29), some (25, false), .fieldAddr 3 (.t 3)⟩, ⟨(some 30), some (25, false), .load none (.t 29)⟩, ⟨(some 31), some (25, false), .lenS (.t 30)⟩, ⟨(some 32), some (25, false), .bin .neq 3 false (.t 28) (.t 31)⟩, ⟨(some 33), none, .pick (.t 25) (.c (.val (.bool true))) (.t 32)⟩])
 (.cond (.t 33) (.seq (.region [⟨(some 4), none, .mv (.c (.val (.bool false)))⟩])
 .ret) .skip))
 (.seq (.seq (.region [⟨(some 34), none, .fieldAddr 3 (.t 2)⟩, ⟨(some 35), none, .load none (.t 34)⟩, ⟨(some 36), none, .lenS (.t 35)⟩, ⟨(some 37), none, .mv (.c (.val (.int .i64 0)))⟩])
 (.block 0 f56_l1))
 (.seq (.region [⟨(some 4), none, .mv (.c (.val (.bool true)))⟩])
 .ret))))
def f56_fn : AFun := ⟨f56, [.tmp 4]⟩
theorem f56_ok : funOf Tryz.prog 56 = some f56_fn := by kernel_rfl
def f74_b0 : ACode := (.seq (.seq (.region [⟨(some 9), none, .mv (.t 6)⟩, ⟨(some 10), none, .bin .gtr 3 true (.t 9) (.c (.val (.int .i64 0)))⟩, ⟨(some 11), none, .mv (.t 10)⟩, ⟨(some 12), some (11, true), .mv (.t 0)⟩, ⟨(some 13), some (11, true), .nilck (.t 12)⟩, ⟨(some 14), some (11, true), .fieldAddr 1 (.t 13)⟩, ⟨(some 15), some (11, true), .load none (.t 14)⟩, ⟨(some 16), some (11, true), .un .not (.t 15)⟩, ⟨(some 17), none, .pick (.t 11) (.t 16) (.c (.val (.bool false)))⟩])
 (.cond (.t 17) .skip (.exit 0)))
 (.seq (.block 1 (.region [⟨(some 20), none, .mv (.t 5)⟩, ⟨(some 21), none, .mv (.t 1)⟩, ⟨(some 22), none, .callv (.t 21) []⟩, ⟨(some 23), none, .buildSlice 4 1 [(.val (.int .i64 0)), (.val (.string ⟨#[]⟩)), (.val (.int .i64 0)), (.val (.slice none 0 0))] [(0, 4, (.t 22))]⟩, ⟨(some 24), none, .append 4 56 (.t 20) (.t 23)⟩, ⟨(some 5), none, .mv (.t 24)⟩]))
 (.region [⟨(some 18), none, .mv (.t 6)⟩, ⟨(some 19), none, .bin .sub 3 true (.t 18) (.c (.val (.int .i64 1)))⟩, ⟨(some 6), none, .mv (.t 19)⟩])))
def f74_l0 : ACode := .loop f74_b0
def f74 : ACode := (.seq (.region [⟨(some 4), none, .mv (.c (.val (.slice none 0 0)))⟩])
 (.seq (.region [⟨(some 5), none, .mv (.c (.val (.slice none 0 0)))⟩])
 (.seq (.seq (.region [⟨(some 7), none, .mv (.t 0)⟩, ⟨(some 8), none, .call 50 [(.t 7)]⟩, ⟨(some 6), none, .mv (.t 8)⟩])
 (.block 0 f74_l0))
 (.seq (.region [⟨(some 25), none, .mv (.t 5)⟩, ⟨(some 4), none, .mv (.t 25)⟩])
 .ret))))
def f74_fn : AFun := ⟨f74, [.tmp 4]⟩
theorem f74_ok : funOf Tryz.prog 74 = some f74_fn := by kernel_rfl
def f75_b0 : ACode := (.seq (.seq (.region [⟨(some 9), none, .mv (.t 6)⟩, ⟨(some 10), none, .bin .gtr 3 true (.t 9) (.c (.val (.int .i64 0)))⟩, ⟨(some 11), none, .mv (.t 10)⟩, ⟨(some 12), some (11, true), .mv (.t 0)⟩, ⟨(some 13), some (11, true), .nilck (.t 12)⟩, ⟨(some 14), some (11, true), .fieldAddr 1 (.t 13)⟩, ⟨(some 15), some (11, true), .load none (.t 14)⟩, ⟨(some 16), some (11, true), .un .not (.t 15)⟩, ⟨(some 17), none, .pick (.t 11) (.t 16) (.c (.val (.bool false)))⟩])
 (.cond (.t 17) .skip (.exit 0)))
 (.seq (.block 1 (.region [⟨(some 20), none, .mv (.t 5)⟩, ⟨(some 21), none, .mv (.t 1)⟩, ⟨(some 22), none, .callv (.t 21) []⟩, ⟨(some 23), none, .buildSlice 1 1 [(.val (.int .i64 0))] [(0, 1, (.t 22))]⟩, ⟨(some 24), none, .append 1 8 (.t 20) (.t 23)⟩, ⟨(some 5), none, .mv (.t 24)⟩]))
 (.region [⟨(some 18), none, .mv (.t 6)⟩, ⟨(some 19), none, .bin .sub 3 true (.t 18) (.c (.val (.int .i64 1)))⟩, ⟨(some 6), none, .mv (.t 19)⟩])))
def f75_l0 : ACode := .loop f75_b0
def f75 : ACode := (.seq (.region [⟨(some 4), none, .mv (.c (.val (.slice none 0 0)))⟩])
 (.seq (.region [⟨(some 5), none, .mv (.c (.val (.slice none 0 0)))⟩])
 (.seq (.seq (.region [⟨(some 7), none, .mv (.t 0)⟩, ⟨(some 8), none, .call 50 [(.t 7)]⟩, ⟨(some 6), none, .mv (.t 8)⟩])
 (.block 0 f75_l0))
 (.seq (.region [⟨(some 25), none, .mv (.t 5)⟩, ⟨(some 4), none, .mv (.t 25)⟩])
 .ret))))
def f75_fn : AFun := ⟨f75, [.tmp 4]⟩
theorem f75_ok : funOf Tryz.prog 75 = some f75_fn := by kernel_rfl
end Go.Proofs.YtijpnlmmaoecgaaGreatDoor

namespace Go.Proofs.YtijpnlmmaoecgaaGreatDoor
open Go Go.AM
noncomputable def E1 : Env := E0.tab [(7, [], .val (.bool true))]
theorem E1_P : E1.P = Tryz.prog := rfl
noncomputable def freshF (g : Nat) : Bool := (E1.shared.get g).isNone && !Nat.beq 7 g
theorem fresh_shared {g : Nat} (h : freshF g = true) : E1.shared.get g = none := by
 simp only [freshF, Bool.and_eq_true, Option.isNone_iff_eq_none] at h
 exact h.1
theorem fresh_known {g : Nat} (h : freshF g = true) (l : List AV) : E1.known g l = none := by
 simp only [freshF, Bool.and_eq_true, Bool.not_eq_true'] at h
 show (bif Nat.beq 7 g && eqL [] l then some (AV.val (.bool true)) else none) = none
 rw [h.2, Bool.false_and]
 rfl
theorem enter1 {g : Nat} {l : List AV} {h : AH} {a : AFun} (P : AV → AH → Prop) (hf : funOf Tryz.prog g = some a)
  (H : ∀ s : St, (∀ i v, (enterTm l 0 .nil).get i = some v → s.eval (.t i) = some v) → s.h = h → s.defers = [] → s.round = none → Run E1 a.body s fun e s => (e = .normal ∨ e = .ret) ∧ s.defers = [] ∧ ∃ r, resultsA E1.globs s a.res = some r ∧ P (oneOrTup r) s.h) :
  ∃ v h', P v h' ∧ Ev fun n => enterA E1 (exec E1 n) g l h = some (v, h') := by
 obtain ⟨e, s', x, y1, y2, r, y3, hp⟩ := (H { tm := enterTm l 0 .nil, h := h, defers := [], round := none } (fun _ _ h => h) rfl rfl rfl)
 refine ⟨oneOrTup r, s'.h, hp, x.mono fun n p => ?_⟩
 have hl : leaveA E1 a s' = some (oneOrTup r, s'.h) := by
  obtain ⟨tm, h1, df, rd⟩ := s'
  simp only at y2 y3
  subst y2
  simp only [leaveA, runDefers, y3]
 simp only [enterA, (show funOf E1.P g = some a by rw [E1_P]; exact hf), p]
 rcases y1 with rfl | rfl <;> exact hl
theorem shared0 {g : Nat} {l : List AV} {h : AH} {a : AFun} (P : AV → AH → Prop) (hs : E1.shared.get g = some ()) (hf : funOf Tryz.prog g = some a)
  (H : ∀ s : St, (∀ i v, (enterTm l 0 .nil).get i = some v → s.eval (.t i) = some v) → s.h = h → s.defers = [] → s.round = none → wp E1 a.body s fun e s => (e = .normal ∨ e = .ret) ∧ s.defers = [] ∧ ∃ r, resultsA E1.globs s a.res = some r ∧ P (oneOrTup r) s.h) :
  ∃ v h', RunCall E1 (.f g) l h v h' ∧ P v h' := by
 obtain ⟨v, h', hp, hr⟩ := enter1 P hf fun s h1 h2 h3 h4 => wp_run _ _ _ (H s h1 h2 h3 h4)
 refine ⟨v, h', hr.mono fun n p => ?_, hp⟩
 simp only [callA, callF, hs, p]
theorem pure0 {g : Nat} {l : List AV} {a : AFun} {r : AV} (hs : freshF g = true) (hf : funOf Tryz.prog g = some a) (hl : ∀ v ∈ l, Tree v) (hr : isFlat r = true) (ht : Tree r)
  (H : ∀ s : St, (∀ i v, (enterTm l 0 .nil).get i = some v → s.eval (.t i) = some v) → s.h = .empty → s.defers = [] → s.round = none → wp E1 a.body s fun e s => (e = .normal ∨ e = .ret) ∧ s.defers = [] ∧ resultsA E1.globs s a.res = some [r]) (h : AH) :
  RunCall E1 (.f g) l h r h := by
 obtain ⟨v, h', hp, hrun⟩ := enter1 (g := g) (l := l) (h := .empty) (a := a) (fun v _ => v = r) hf fun s h1 h2 h3 h4 => (wp_run _ _ _ (H s h1 h2 h3 h4)).mono fun e s' ⟨k1, k2, k3⟩ => ⟨k1, k2, [r], k3, rfl⟩
 subst hp
 exact call_tree (fresh_shared hs) (fresh_known hs _) hl hr ht ⟨h', hrun⟩ h
end Go.Proofs.YtijpnlmmaoecgaaGreatDoor

namespace Go.Proofs.YtijpnlmmaoecgaaGreatDoor
open Go Go.AM
def f3 : ACode := (.seq (.region [⟨(some 2), none, .mv (.c (.val (.bool false)))⟩])
 (.seq (.seq (.region [⟨(some 7), none, .mv (.t 0)⟩, ⟨(some 8), none, .lenS (.t 7)⟩, ⟨(some 9), none, .bin .gtr 3 true (.t 8) (.c (.val (.int .i64 4000)))⟩])
 (.cond (.t 9) (.seq (.region [⟨(some 10), none, .call 7 []⟩, ⟨(some 2), none, .mv (.t 10)⟩])
 .ret) .skip))
 (.seq (.region [⟨(some 12), none, .mv (.t 0)⟩, ⟨(some 13), none, .call 8 [(.t 12)]⟩, ⟨(some 11), none, .mv (.t 13)⟩, ⟨(some 14), none, .extract 0 (.t 11)⟩, ⟨(some 15), none, .extract 1 (.t 11)⟩, ⟨(some 3), none, .alloc [(.val (.string ⟨#[]⟩)), (.val (.int .i64 0)), (.val (.slice none 0 0)), (.val (.slice none 0 0))]⟩, ⟨none, none, .store 4 (.t 3) (.t 14)⟩, ⟨(some 4), none, .mv (.t 15)⟩])
 (.seq (.region [⟨(some 17), none, .mv (.t 0)⟩, ⟨(some 18), none, .call 9 [(.t 17)]⟩, ⟨(some 16), none, .mv (.t 18)⟩, ⟨(some 19), none, .extract 0 (.t 16)⟩, ⟨(some 20), none, .extract 1 (.t 16)⟩, ⟨(some 5), none, .alloc [(.val (.string ⟨#[]⟩)), (.val (.int .i64 0)), (.val (.slice none 0 0)), (.val (.slice none 0 0))]⟩, ⟨none, none, .store 4 (.t 5) (.t 19)⟩, ⟨(some 6), none, .mv (.t 20)⟩])
 (.seq (.region [⟨(some 21), none, .load (some 4) (.t 3)⟩, ⟨(some 22), none, .load (some 4) (.t 5)⟩, ⟨(some 23), none, .call 10 [(.t 21), (.t 22)]⟩, ⟨(some 24), none, .mv (.t 23)⟩, ⟨(some 25), some (24, true), .mv (.t 4)⟩, ⟨(some 26), some (24, true), .mv (.t 6)⟩, ⟨(some 27), some (24, true), .bin .eql 28 false (.t 25) (.t 26)⟩, ⟨(some 28), none, .pick (.t 24) (.t 27) (.c (.val (.bool false)))⟩, ⟨(some 29), none, .mv (.t 28)⟩, ⟨(some 30), some (29, true), .call 7 []⟩, ⟨(some 31), none, .pick (.t 29) (.t 30) (.c (.val (.bool false)))⟩, ⟨(some 2), none, .mv (.t 31)⟩])
 .ret)))))
def f3_fn : AFun := ⟨f3, [.tmp 2]⟩
theorem f3_ok : funOf Tryz.prog 3 = some f3_fn := by kernel_rfl
def f9_o0 : List DOp := [⟨⟨(some 40), none, .mv (.t 4)⟩, [4], []⟩, ⟨⟨(some 41), none, .call 23 [(.t 40)]⟩, [40], []⟩, ⟨⟨(some 42), none, .strOfBytes (.t 41)⟩, [41], []⟩, ⟨⟨(some 43), none, .mv (.t 0)⟩, [0], [0, 1, 2]⟩, ⟨⟨(some 44), none, .strOfBytes (.t 43)⟩, [43], [0, 1, 2]⟩, ⟨⟨(some 45), none, .bin .neq 9 false (.t 42) (.t 44)⟩, [42, 44], []⟩]
def f9_d0 : ACode := .draw f9_o0
def f9_b1 : ACode := (.seq (.seq (.region [⟨(some 58), none, .mv (.t 8)⟩, ⟨(some 59), none, .mv (.t 7)⟩, ⟨(some 60), none, .bin .lss 3 false (.t 58) (.t 59)⟩, ⟨(some 61), none, .mv (.t 60)⟩, ⟨(some 62), some (61, true), .fieldAddr 2 (.t 5)⟩, ⟨(some 63), some (61, true), .load none (.t 62)⟩, ⟨(some 64), some (61, true), .un .not (.t 63)⟩, ⟨(some 65), none, .pick (.t 61) (.t 64) (.c (.val (.bool false)))⟩])
 (.cond (.t 65) .skip (.exit 0)))
 (.seq (.block 1 (.seq (.region [⟨(some 68), none, .call 24 [(.t 5)]⟩, ⟨(some 69), none, .build [(.val (.string ⟨#[]⟩)), (.val (.int .i64 0)), (.val (.string ⟨#[]⟩)), (.val (.int .i64 0)), (.val (.slice none 0 0))] [(0, 1, (.t 68))]⟩, ⟨(some 9), none, .alloc [(.val (.string ⟨#[]⟩)), (.val (.int .i64 0)), (.val (.string ⟨#[]⟩)), (.val (.int .i64 0)), (.val (.slice none 0 0))]⟩, ⟨none, none, .store 5 (.t 9) (.t 69)⟩])
 (.seq (.region [⟨(some 70), none, .call 27 [(.t 5)]⟩, ⟨(some 71), none, .fieldAddr 1 (.t 9)⟩, ⟨none, none, .store 4 (.t 71) (.t 70)⟩])
 (.region [⟨(some 72), none, .fieldAddr 2 (.t 6)⟩, ⟨(some 73), none, .load none (.t 72)⟩, ⟨(some 74), none, .load (some 5) (.t 9)⟩, ⟨(some 75), none, .buildSlice 5 1 [(.val (.string ⟨#[]⟩)), (.val (.int .i64 0)), (.val (.string ⟨#[]⟩)), (.val (.int .i64 0)), (.val (.slice none 0 0))] [(0, 5, (.t 74))]⟩, ⟨(some 76), none, .append 5 72 (.t 73) (.t 75)⟩, ⟨(some 77), none, .fieldAddr 2 (.t 6)⟩, ⟨none, none, .store 1 (.t 77) (.t 76)⟩]))))
 (.region [⟨(some 66), none, .mv (.t 8)⟩, ⟨(some 67), none, .bin .add 3 true (.t 66) (.c (.val (.int .i64 1)))⟩, ⟨(some 8), none, .mv (.t 67)⟩])))
def f9_l1 : ACode := .loop f9_b1
def f9_o2 : List DOp := [⟨⟨(some 89), none, .fieldAddr 3 (.t 6)⟩, [6], []⟩, ⟨⟨(some 90), none, .load none (.t 89)⟩, [89], []⟩, ⟨⟨(some 91), none, .call 28 [(.t 5)]⟩, [5], [0, 1]⟩, ⟨⟨(some 92), none, .buildSlice 4 1 [(.val (.int .i64 0)), (.val (.int .i64 0)), (.val (.slice none 0 0)), (.val (.slice none 0 0))] [(0, 4, (.t 91))]⟩, [91], [0, 1]⟩, ⟨⟨(some 93), none, .append 4 64 (.t 90) (.t 92)⟩, [90, 92], []⟩, ⟨⟨(some 94), none, .fieldAddr 3 (.t 6)⟩, [6], []⟩, ⟨⟨none, none, .store 1 (.t 94) (.t 93)⟩, [94, 93], []⟩]
def f9_d2 : ACode := .draw f9_o2
def f9_b3 : ACode := (.seq (.seq (.region [⟨(some 79), none, .mv (.t 10)⟩, ⟨(some 80), none, .mv (.t 7)⟩, ⟨(some 81), none, .bin .lss 3 false (.t 79) (.t 80)⟩, ⟨(some 82), none, .mv (.t 81)⟩, ⟨(some 83), some (82, true), .fieldAddr 2 (.t 5)⟩, ⟨(some 84), some (82, true), .load none (.t 83)⟩, ⟨(some 85), some (82, true), .un .not (.t 84)⟩, ⟨(some 86), none, .pick (.t 82) (.t 85) (.c (.val (.bool false)))⟩])
 (.cond (.t 86) .skip (.exit 2)))
 (.seq (.block 3 f9_d2)
 (.region [⟨(some 87), none, .mv (.t 10)⟩, ⟨(some 88), none, .bin .add 3 true (.t 87) (.c (.val (.int .i64 1)))⟩, ⟨(some 10), none, .mv (.t 88)⟩])))
def f9_l3 : ACode := .loop f9_b3
def f9 : ACode := (.seq (.region [⟨(some 2), none, .alloc [(.val (.string ⟨#[]⟩)), (.val (.int .i64 0)), (.val (.slice none 0 0)), (.val (.slice none 0 0))]⟩, ⟨(some 3), none, .mv (.c (.val (.int .i64 0)))⟩])
 (.seq (.seq (.region [⟨(some 11), none, .mv (.t 0)⟩, ⟨(some 12), none, .lenS (.t 11)⟩, ⟨(some 13), none, .bin .lss 3 true (.t 12) (.c (.val (.int .i64 7)))⟩, ⟨(some 14), none, .mv (.t 13)⟩, ⟨(some 15), some (14, false), .mv (.t 0)⟩, ⟨(some 16), some (14, false), .idxAddrS 1 (.t 15) (.c (.val (.int .i64 0)))⟩, ⟨(some 17), some (14, false), .load none (.t 16)⟩, ⟨(some 18), some (14, false), .bin .neq 5 true (.t 17) (.c (.val (.int .u8 69)))⟩, ⟨(some 19), none, .pick (.t 14) (.c (.val (.bool true))) (.t 18)⟩, ⟨(some 20), none, .mv (.t 19)⟩, ⟨(some 21), some (20, false), .mv (.t 0)⟩, ⟨(some 22), some (20, false), .idxAddrS 1 (.t 21) (.c (.val (.int .i64 1)))⟩, ⟨(some 23), some (20, false), .load none (.t 22)⟩, ⟨(some 24), some (20, false), .bin .neq 5 true (.t 23) (.c (.val (.int .u8 67)))⟩, ⟨(some 25), none, .pick (.t 20) (.c (.val (.bool true))) (.t 24)⟩, ⟨(some 26), none, .mv (.t 25)⟩, ⟨(some 27), some (26, false), .mv (.t 0)⟩, ⟨(some 28), some (26, false), .idxAddrS 1 (.t 27) (.c (.val (.int .i64 2)))⟩, ⟨(some 29), some (26, false), .load none (.t 28)⟩, ⟨(some 30), some (26, false), .bin .neq 5 true (.t 29) (.c (.val (.int .u8 1)))⟩, ⟨(some 31), none, .pick (.t 26) (.c (.val (.bool true))) (.t 30)⟩])
 (.cond (.t 31) (.seq (.region [⟨(some 32), none, .build [(.val (.string ⟨#[]⟩)), (.val (.int .i64 0)), (.val (.slice none 0 0)), (.val (.slice none 0 0))] []⟩, ⟨none, none, .store 4 (.t 2) (.t 32)⟩, ⟨(some 3), none, .mv (.c (.val (.int .i64 6)))⟩])
 .ret) .skip))
 (.seq (.region [⟨(some 33), none, .buildSlice 1 0 [] []⟩, ⟨(some 34), none, .mv (.t 0)⟩, ⟨(some 35), none, .mv (.t 0)⟩, ⟨(some 36), none, .lenS (.t 35)⟩, ⟨(some 37), none, .bin .sub 3 true (.t 36) (.c (.val (.int .i64 4)))⟩, ⟨(some 38), none, .sliceS 1 (.t 34) none (some (.t 37)) none⟩, ⟨(some 39), none, .appT 5 (.t 33) (.t 38)⟩, ⟨(some 4), none, .mv (.t 39)⟩])
 (.seq (.seq f9_d0
 (.cond (.t 45) (.seq (.region [⟨(some 46), none, .build [(.val (.string ⟨#[]⟩)), (.val (.int .i64 0)), (.val (.slice none 0 0)), (.val (.slice none 0 0))] []⟩, ⟨none, none, .store 4 (.t 2) (.t 46)⟩, ⟨(some 3), none, .mv (.c (.val (.int .i64 6)))⟩])
 .ret) .skip))
 (.seq (.region [⟨(some 47), none, .mv (.t 0)⟩, ⟨(some 48), none, .mv (.t 0)⟩, ⟨(some 49), none, .lenS (.t 48)⟩, ⟨(some 50), none, .bin .sub 3 true (.t 49) (.c (.val (.int .i64 4)))⟩, ⟨(some 51), none, .sliceS 1 (.t 47) none (some (.t 50)) none⟩, ⟨(some 52), none, .build [(.val (.slice none 0 0)), (.val (.int .i64 0)), (.val (.bool false))] [(0, 1, (.t 51)), (1, 1, (.c (.val (.int .i64 3))))]⟩, ⟨(some 5), none, .alloc [(.val (.slice none 0 0)), (.val (.int .i64 0)), (.val (.bool false))]⟩, ⟨none, none, .store 3 (.t 5) (.t 52)⟩])
 (.seq (.region [⟨(some 53), none, .call 24 [(.t 5)]⟩, ⟨(some 54), none, .build [(.val (.string ⟨#[]⟩)), (.val (.int .i64 0)), (.val (.slice none 0 0)), (.val (.slice none 0 0))] [(0, 1, (.t 53))]⟩, ⟨(some 6), none, .alloc [(.val (.string ⟨#[]⟩)), (.val (.int .i64 0)), (.val (.slice none 0 0)), (.val (.slice none 0 0))]⟩, ⟨none, none, .store 4 (.t 6) (.t 54)⟩])
 (.seq (.region [⟨(some 55), none, .call 25 [(.t 5)]⟩, ⟨(some 56), none, .fieldAddr 1 (.t 6)⟩, ⟨none, none, .store 1 (.t 56) (.t 55)⟩])
 (.seq (.region [⟨(some 57), none, .call 26 [(.t 5)]⟩, ⟨(some 7), none, .mv (.t 57)⟩])
 (.seq (.seq (.region [⟨(some 8), none, .mv (.c (.val (.int .i64 0)))⟩])
 (.block 0 f9_l1))
 (.seq (.region [⟨(some 78), none, .call 26 [(.t 5)]⟩, ⟨(some 7), none, .mv (.t 78)⟩])
 (.seq (.seq (.region [⟨(some 10), none, .mv (.c (.val (.int .i64 0)))⟩])
 (.block 2 f9_l3))
 (.seq (.seq (.region [⟨(some 95), none, .fieldAddr 2 (.t 5)⟩, ⟨(some 96), none, .load none (.t 95)⟩, ⟨(some 97), none, .mv (.t 96)⟩, ⟨(some 98), some (97, false), .fieldAddr 1 (.t 5)⟩, ⟨(some 99), some (97, false), .load none (.t 98)⟩, ⟨(some 100), some (97, false), .fieldAddr 0 (.t 5)⟩, ⟨(some 101), some (97, false), .load none (.t 100)⟩, ⟨(some 102), some (97, false), .lenS (.t 101)⟩, ⟨(some 103), some (97, false), .bin .neq 3 false (.t 99) (.t 102)⟩, ⟨(some 104), none, .pick (.t 97) (.c (.val (.bool true))) (.t 103)⟩])
 (.cond (.t 104) (.seq (.region [⟨(some 105), none, .build [(.val (.string ⟨#[]⟩)), (.val (.int .i64 0)), (.val (.slice none 0 0)), (.val (.slice none 0 0))] []⟩, ⟨none, none, .store 4 (.t 2) (.t 105)⟩, ⟨(some 3), none, .mv (.c (.val (.int .i64 6)))⟩])
 .ret) .skip))
 (.seq (.region [⟨(some 106), none, .load (some 4) (.t 6)⟩, ⟨none, none, .store 4 (.t 2) (.t 106)⟩, ⟨(some 3), none, .mv (.c (.val (.int .i64 0)))⟩])
 .ret)))))))))))))
def f9_fn : AFun := ⟨f9, [.cell 2 (some 4), .tmp 3]⟩
theorem f9_ok : funOf Tryz.prog 9 = some f9_fn := by kernel_rfl
def f23 : ACode := (.seq (.region [⟨(some 2), none, .mv (.c (.val (.slice none 0 0)))⟩])
 (.seq (.region [⟨(some 4), none, .mv (.t 0)⟩, ⟨(some 5), none, .strOfBytes (.t 4)⟩, ⟨(some 6), none, .call 54 [(.t 5)]⟩, ⟨(some 3), none, .mv (.t 6)⟩])
 (.seq (.region [⟨(some 7), none, .mv (.t 0)⟩, ⟨(some 8), none, .mv (.t 3)⟩, ⟨(some 9), none, .bin .shr 3 true (.t 8) (.c (.val (.int .u64 24)))⟩, ⟨(some 10), none, .conv .u8 (.t 9)⟩, ⟨(some 11), none, .mv (.t 3)⟩, ⟨(some 12), none, .bin .shr 3 true (.t 11) (.c (.val (.int .u64 16)))⟩, ⟨(some 13), none, .conv .u8 (.t 12)⟩, ⟨(some 14), none, .mv (.t 3)⟩, ⟨(some 15), none, .bin .shr 3 true (.t 14) (.c (.val (.int .u64 8)))⟩, ⟨(some 16), none, .conv .u8 (.t 15)⟩, ⟨(some 17), none, .mv (.t 3)⟩, ⟨(some 18), none, .conv .u8 (.t 17)⟩, ⟨(some 19), none, .buildSlice 1 4 [(.val (.int .u8 0)), (.val (.int .u8 0)), (.val (.int .u8 0)), (.val (.int .u8 0))] [(0, 1, (.t 10)), (1, 1, (.t 13)), (2, 1, (.t 16)), (3, 1, (.t 18))]⟩, ⟨(some 20), none, .appT 5 (.t 7) (.t 19)⟩, ⟨(some 2), none, .mv (.t 20)⟩])
 .ret)))
def f23_fn : AFun := ⟨f23, [.tmp 2]⟩
theorem f23_ok : funOf Tryz.prog 23 = some f23_fn := by kernel_rfl
def f24_o0 : List DOp := [⟨⟨(some 7), none, .mv (.t 0)⟩, [0], []⟩, ⟨⟨(some 8), none, .nilck (.t 7)⟩, [7], []⟩, ⟨⟨(some 9), none, .fieldAddr 0 (.t 8)⟩, [8], []⟩, ⟨⟨(some 10), none, .load none (.t 9)⟩, [9], []⟩, ⟨⟨(some 11), none, .mv (.t 0)⟩, [0], [0, 1, 2, 3]⟩, ⟨⟨(some 12), none, .nilck (.t 11)⟩, [11], [0, 1, 2, 3]⟩, ⟨⟨(some 13), none, .fieldAddr 1 (.t 12)⟩, [12], [0, 1, 2, 3]⟩, ⟨⟨(some 14), none, .load none (.t 13)⟩, [13], [0, 1, 2, 3]⟩, ⟨⟨(some 15), none, .mv (.t 0)⟩, [0], [0, 1, 2, 3, 4, 5, 6, 7]⟩, ⟨⟨(some 16), none, .nilck (.t 15)⟩, [15], [0, 1, 2, 3, 4, 5, 6, 7]⟩, ⟨⟨(some 17), none, .fieldAddr 1 (.t 16)⟩, [16], [0, 1, 2, 3, 4, 5, 6, 7]⟩, ⟨⟨(some 18), none, .load none (.t 17)⟩, [17], [0, 1, 2, 3, 4, 5, 6, 7]⟩, ⟨⟨(some 19), none, .mv (.t 3)⟩, [3], [0, 1, 2, 3, 4, 5, 6, 7, 8, 9, 10, 11]⟩, ⟨⟨(some 20), none, .bin .add 3 false (.t 18) (.t 19)⟩, [18, 19], [0, 1, 2, 3, 4, 5, 6, 7]⟩, ⟨⟨(some 21), none, .sliceS 1 (.t 10) (some (.t 14)) (some (.t 20)) none⟩, [10, 14, 20], []⟩, ⟨⟨(some 22), none, .strOfBytes (.t 21)⟩, [21], []⟩, ⟨⟨(some 4), none, .mv (.t 22)⟩, [22], []⟩]
def f24_d0 : ACode := .draw f24_o0
def f24 : ACode := (.seq (.region [⟨(some 2), none, .mv (.c (.val (.string ⟨#[]⟩)))⟩])
 (.seq (.region [⟨(some 5), none, .mv (.t 0)⟩, ⟨(some 6), none, .call 26 [(.t 5)]⟩, ⟨(some 3), none, .mv (.t 6)⟩])
 (.seq f24_d0
 (.seq (.region [⟨(some 23), none, .mv (.t 0)⟩, ⟨(some 24), none, .mv (.t 0)⟩, ⟨(some 25), none, .nilck (.t 24)⟩, ⟨(some 26), none, .fieldAddr 1 (.t 25)⟩, ⟨(some 27), none, .load none (.t 26)⟩, ⟨(some 28), none, .mv (.t 3)⟩, ⟨(some 29), none, .bin .add 3 false (.t 27) (.t 28)⟩, ⟨(some 30), none, .nilck (.t 23)⟩, ⟨(some 31), none, .fieldAddr 1 (.t 30)⟩, ⟨none, none, .store 1 (.t 31) (.t 29)⟩])
 (.seq (.region [⟨(some 32), none, .mv (.t 4)⟩, ⟨(some 2), none, .mv (.t 32)⟩])
 .ret)))))
def f24_fn : AFun := ⟨f24, [.tmp 2]⟩
theorem f24_ok : funOf Tryz.prog 24 = some f24_fn := by kernel_rfl
def f25_o0 : List DOp := [⟨⟨(some 13), none, .mv (.t 0)⟩, [0], []⟩, ⟨⟨(some 14), none, .nilck (.t 13)⟩, [13], []⟩, ⟨⟨(some 15), none, .fieldAddr 1 (.t 14)⟩, [14], []⟩, ⟨⟨(some 16), none, .load none (.t 15)⟩, [15], []⟩, ⟨⟨(some 17), none, .mv (.t 0)⟩, [0], [0, 1, 2, 3]⟩, ⟨⟨(some 18), none, .nilck (.t 17)⟩, [17], [0, 1, 2, 3]⟩, ⟨⟨(some 19), none, .fieldAddr 0 (.t 18)⟩, [18], [0, 1, 2, 3]⟩, ⟨⟨(some 20), none, .load none (.t 19)⟩, [19], [0, 1, 2, 3]⟩, ⟨⟨(some 21), none, .lenS (.t 20)⟩, [20], [0, 1, 2, 3]⟩, ⟨⟨(some 22), none, .bin .geq 3 false (.t 16) (.t 21)⟩, [16, 21], []⟩, ⟨⟨(some 23), none, .mv (.t 22)⟩, [22], []⟩, ⟨⟨(some 24), some (23, false), .mv (.t 4)⟩, [4, 23], []⟩, ⟨⟨(some 25), some (23, false), .bin .gtr 105 true (.t 24) (.c (.val (.int .u64 63)))⟩, [24, 23], []⟩, ⟨⟨(some 26), none, .pick (.t 23) (.c (.val (.bool true))) (.t 25)⟩, [23, 25], []⟩]
def f25_d0 : ACode := .draw f25_o0
def f25_o1 : List DOp := [⟨⟨(some 30), none, .mv (.t 0)⟩, [0], []⟩, ⟨⟨(some 31), none, .nilck (.t 30)⟩, [30], []⟩, ⟨⟨(some 32), none, .fieldAddr 0 (.t 31)⟩, [31], []⟩, ⟨⟨(some 33), none, .load none (.t 32)⟩, [32], []⟩, ⟨⟨(some 34), none, .mv (.t 0)⟩, [0], [0, 1, 2, 3]⟩, ⟨⟨(some 35), none, .nilck (.t 34)⟩, [34], [0, 1, 2, 3]⟩, ⟨⟨(some 36), none, .fieldAddr 1 (.t 35)⟩, [35], [0, 1, 2, 3]⟩, ⟨⟨(some 37), none, .load none (.t 36)⟩, [36], [0, 1, 2, 3]⟩, ⟨⟨(some 38), none, .idxAddrS 1 (.t 33) (.t 37)⟩, [33, 37], []⟩, ⟨⟨(some 39), none, .load none (.t 38)⟩, [38], []⟩, ⟨⟨(some 5), none, .mv (.t 39)⟩, [39], []⟩]
def f25_d1 : ACode := .draw f25_o1
def f25_b2 : ACode := (.seq (.seq (.region [⟨(some 6), none, .mv (.t 0)⟩, ⟨(some 7), none, .nilck (.t 6)⟩, ⟨(some 8), none, .fieldAddr 2 (.t 7)⟩, ⟨(some 9), none, .load none (.t 8)⟩, ⟨(some 10), none, .un .not (.t 9)⟩])
 (.cond (.t 10) .skip (.exit 0)))
 (.seq (.block 1 (.seq (.seq f25_d0
 (.cond (.t 26) (.seq (.region [⟨(some 27), none, .mv (.t 0)⟩, ⟨(some 28), none, .nilck (.t 27)⟩, ⟨(some 29), none, .fieldAddr 2 (.t 28)⟩, ⟨none, none, .store 1 (.t 29) (.c (.val (.bool true)))⟩])
 (.seq (.region [⟨(some 2), none, .mv (.c (.val (.int .i64 0)))⟩])
 .ret)) .skip))
 (.seq f25_d1
 (.seq (.region [⟨(some 40), none, .mv (.t 0)⟩, ⟨(some 41), none, .nilck (.t 40)⟩, ⟨(some 42), none, .fieldAddr 1 (.t 41)⟩, ⟨(some 43), none, .load none (.t 42)⟩, ⟨(some 44), none, .bin .add 3 true (.t 43) (.c (.val (.int .i64 1)))⟩, ⟨(some 45), none, .nilck (.t 40)⟩, ⟨(some 46), none, .fieldAddr 1 (.t 45)⟩, ⟨none, none, .store 1 (.t 46) (.t 44)⟩])
 (.seq (.seq (.region [⟨(some 47), none, .mv (.t 4)⟩, ⟨(some 48), none, .bin .eql 105 true (.t 47) (.c (.val (.int .u64 63)))⟩, ⟨(some 49), none, .mv (.t 48)⟩, ⟨(some 50), some (49, true), .mv (.t 5)⟩, ⟨(some 51), some (49, true), .bin .gtr 5 true (.t 50) (.c (.val (.int .u8 1)))⟩, ⟨(some 52), none, .pick (.t 49) (.t 51) (.c (.val (.bool false)))⟩, ⟨(some 53), none, .mv (.t 52)⟩, ⟨(some 54), some (53, false), .mv (.t 4)⟩, ⟨(some 55), some (53, false), .bin .gtr 105 true (.t 54) (.c (.val (.int .u64 0)))⟩, ⟨(some 56), some (53, false), .mv (.t 55)⟩, ⟨(some 57), some (56, true), .mv (.t 5)⟩, ⟨(some 58), some (56, true), .bin .eql 5 true (.t 57) (.c (.val (.int .u8 0)))⟩, ⟨(some 59), some (53, false), .pick (.t 56) (.t 58) (.c (.val (.bool false)))⟩, ⟨(some 60), none, .pick (.t 53) (.c (.val (.bool true))) (.t 59)⟩])
 (.cond (.t 60) (.seq (.region [⟨(some 61), none, .mv (.t 0)⟩, ⟨(some 62), none, .nilck (.t 61)⟩, ⟨(some 63), none, .fieldAddr 2 (.t 62)⟩, ⟨none, none, .store 1 (.t 63) (.c (.val (.bool true)))⟩])
 (.seq (.region [⟨(some 2), none, .mv (.c (.val (.int .i64 0)))⟩])
 .ret)) .skip))
 (.seq (.region [⟨(some 64), none, .mv (.t 3)⟩, ⟨(some 65), none, .mv (.t 5)⟩, ⟨(some 66), none, .bin .rem 5 true (.t 65) (.c (.val (.int .u8 128)))⟩, ⟨(some 67), none, .conv .u64 (.t 66)⟩, ⟨(some 68), none, .mv (.t 4)⟩, ⟨(some 69), none, .bin .shl 141 false (.t 67) (.t 68)⟩, ⟨(some 70), none, .bin .or 141 false (.t 64) (.t 69)⟩, ⟨(some 3), none, .mv (.t 70)⟩])
 (.seq (.region [⟨(some 71), none, .mv (.t 5)⟩, ⟨(some 72), none, .bin .lss 5 true (.t 71) (.c (.val (.int .u8 128)))⟩])
 (.cond (.t 72) (.seq (.seq (.region [⟨(some 73), none, .mv (.t 3)⟩, ⟨(some 74), none, .bin .rem 141 true (.t 73) (.c (.val (.int .u64 2)))⟩, ⟨(some 75), none, .bin .eql 141 true (.t 74) (.c (.val (.int .u64 1)))⟩])
 (.cond (.t 75) (.seq (.region [⟨(some 76), none, .mv (.t 3)⟩, ⟨(some 77), none, .bin .shr 141 true (.t 76) (.c (.val (.int .u64 1)))⟩, ⟨(some 78), none, .un .xor (.t 77)⟩, ⟨(some 79), none, .conv .i64 (.t 78)⟩, ⟨(some 2), none, .mv (.t 79)⟩])
 .ret) .skip))
 (.seq (.region [⟨(some 80), none, .mv (.t 3)⟩, ⟨(some 81), none, .bin .shr 141 true (.t 80) (.c (.val (.int .u64 1)))⟩, ⟨(some 82), none, .conv .i64 (.t 81)⟩, ⟨(some 2), none, .mv (.t 82)⟩])
 .ret)) .skip))))))))
 (.region [⟨(some 11), none, .mv (.t 4)⟩, ⟨(some 12), none, .bin .add 105 true (.t 11) (.c (.val (.int .u64 7)))⟩, ⟨(some 4), none, .mv (.t 12)⟩])))
def f25_l2 : ACode := .loop f25_b2
def f25 : ACode := (.seq (.region [⟨(some 2), none, .mv (.c (.val (.int .i64 0)))⟩])
 (.seq (.region [⟨(some 3), none, .mv (.c (.val (.int .u64 0)))⟩])
 (.seq (.seq (.region [⟨(some 4), none, .mv (.c (.val (.int .u64 0)))⟩])
 (.block 0 f25_l2))
 (.seq (.region [⟨(some 2), none, .mv (.c (.val (.int .i64 0)))⟩])
 .ret))))
def f25_fn : AFun := ⟨f25, [.tmp 2]⟩
theorem f25_ok : funOf Tryz.prog 25 = some f25_fn := by kernel_rfl
def f26_o0 : List DOp := [⟨⟨(some 6), none, .mv (.t 0)⟩, [0], []⟩, ⟨⟨(some 7), none, .nilck (.t 6)⟩, [6], []⟩, ⟨⟨(some 8), none, .fieldAddr 2 (.t 7)⟩, [7], []⟩, ⟨⟨(some 9), none, .load none (.t 8)⟩, [8], []⟩, ⟨⟨(some 10), none, .mv (.t 9)⟩, [9], []⟩, ⟨⟨(some 11), some (10, false), .mv (.t 3)⟩, [3, 10], []⟩, ⟨⟨(some 12), some (10, false), .bin .lss 3 true (.t 11) (.c (.val (.int .i64 0)))⟩, [11, 10], []⟩, ⟨⟨(some 13), none, .pick (.t 10) (.c (.val (.bool true))) (.t 12)⟩, [10, 12], []⟩, ⟨⟨(some 14), none, .mv (.t 13)⟩, [13], []⟩, ⟨⟨(some 15), some (14, false), .mv (.t 3)⟩, [3, 14], []⟩, ⟨⟨(some 16), some (14, false), .mv (.t 0)⟩, [0, 14], [9]⟩, ⟨⟨(some 17), some (14, false), .nilck (.t 16)⟩, [16, 14], [9]⟩, ⟨⟨(some 18), some (14, false), .fieldAddr 0 (.t 17)⟩, [17, 14], [9]⟩, ⟨⟨(some 19), some (14, false), .load none (.t 18)⟩, [18, 14], [9]⟩, ⟨⟨(some 20), some (14, false), .lenS (.t 19)⟩, [19, 14], [9]⟩, ⟨⟨(some 21), some (14, false), .mv (.t 0)⟩, [0, 14], [9, 10, 11, 12, 13, 14]⟩, ⟨⟨(some 22), some (14, false), .nilck (.t 21)⟩, [21, 14], [9, 10, 11, 12, 13, 14]⟩, ⟨⟨(some 23), some (14, false), .fieldAddr 1 (.t 22)⟩, [22, 14], [9, 10, 11, 12, 13, 14]⟩, ⟨⟨(some 24), some (14, false), .load none (.t 23)⟩, [23, 14], [9, 10, 11, 12, 13, 14]⟩, ⟨⟨(some 25), some (14, false), .bin .sub 3 false (.t 20) (.t 24)⟩, [20, 24, 14], [9]⟩, ⟨⟨(some 26), some (14, false), .bin .gtr 3 false (.t 15) (.t 25)⟩, [15, 25, 14], []⟩, ⟨⟨(some 27), none, .pick (.t 14) (.c (.val (.bool true))) (.t 26)⟩, [14, 26], []⟩]
def f26_d0 : ACode := .draw f26_o0
def f26 : ACode := (.seq (.region [⟨(some 2), none, .mv (.c (.val (.int .i64 0)))⟩])
 (.seq (.region [⟨(some 4), none, .mv (.t 0)⟩, ⟨(some 5), none, .call 25 [(.t 4)]⟩, ⟨(some 3), none, .mv (.t 5)⟩])
 (.seq (.seq f26_d0
 (.cond (.t 27) (.seq (.region [⟨(some 28), none, .mv (.t 0)⟩, ⟨(some 29), none, .nilck (.t 28)⟩, ⟨(some 30), none, .fieldAddr 2 (.t 29)⟩, ⟨none, none, .store 1 (.t 30) (.c (.val (.bool true)))⟩])
 (.seq (.region [⟨(some 2), none, .mv (.c (.val (.int .i64 0)))⟩])
 .ret)) .skip))
 (.seq (.region [⟨(some 31), none, .mv (.t 3)⟩, ⟨(some 2), none, .mv (.t 31)⟩])
 .ret))))
def f26_fn : AFun := ⟨f26, [.tmp 2]⟩
theorem f26_ok : funOf Tryz.prog 26 = some f26_fn := by kernel_rfl
def f27_o0 : List DOp := [⟨⟨(some 29), none, .fieldAddr 3 (.t 3)⟩, [3], []⟩, ⟨⟨(some 30), none, .load none (.t 29)⟩, [29], []⟩, ⟨⟨(some 31), none, .mv (.t 0)⟩, [0], [0, 1]⟩, ⟨⟨(some 32), none, .call 27 [(.t 31)]⟩, [31], [0, 1]⟩, ⟨⟨(some 33), none, .buildSlice 4 1 [(.val (.int .i64 0)), (.val (.string ⟨#[]⟩)), (.val (.int .i64 0)), (.val (.slice none 0 0))] [(0, 4, (.t 32))]⟩, [32], [0, 1]⟩, ⟨⟨(some 34), none, .append 4 56 (.t 30) (.t 33)⟩, [30, 33], []⟩, ⟨⟨(some 35), none, .fieldAddr 3 (.t 3)⟩, [3], []⟩, ⟨⟨none, none, .store 1 (.t 35) (.t 34)⟩, [35, 34], []⟩]
def f27_d0 : ACode := .draw f27_o0
def f27_b1 : ACode := (.seq (.seq (.region [⟨(some 17), none, .mv (.t 5)⟩, ⟨(some 18), none, .mv (.t 4)⟩, ⟨(some 19), none, .bin .lss 3 false (.t 17) (.t 18)⟩, ⟨(some 20), none, .mv (.t 19)⟩, ⟨(some 21), some (20, true), .mv (.t 0)⟩, ⟨(some 22), some (20, true), .nilck (.t 21)⟩, ⟨(some 23), some (20, true), .fieldAddr 2 (.t 22)⟩, ⟨(some 24), some (20, true), .load none (.t 23)⟩, ⟨(some 25), some (20, true), .un .not (.t 24)⟩, ⟨(some 26), none, .pick (.t 20) (.t 25) (.c (.val (.bool false)))⟩])
 (.cond (.t 26) .skip (.exit 0)))
 (.seq (.block 1 f27_d0)
 (.region [⟨(some 27), none, .mv (.t 5)⟩, ⟨(some 28), none, .bin .add 3 true (.t 27) (.c (.val (.int .i64 1)))⟩, ⟨(some 5), none, .mv (.t 28)⟩])))
def f27_l1 : ACode := .loop f27_b1
def f27 : ACode := (.seq (.region [⟨(some 2), none, .alloc [(.val (.int .i64 0)), (.val (.string ⟨#[]⟩)), (.val (.int .i64 0)), (.val (.slice none 0 0))]⟩])
 (.seq (.region [⟨(some 6), none, .mv (.t 0)⟩, ⟨(some 7), none, .call 25 [(.t 6)]⟩, ⟨(some 8), none, .build [(.val (.int .i64 0)), (.val (.string ⟨#[]⟩)), (.val (.int .i64 0)), (.val (.slice none 0 0))] [(0, 1, (.t 7))]⟩, ⟨(some 3), none, .alloc [(.val (.int .i64 0)), (.val (.string ⟨#[]⟩)), (.val (.int .i64 0)), (.val (.slice none 0 0))]⟩, ⟨none, none, .store 4 (.t 3) (.t 8)⟩])
 (.seq (.region [⟨(some 9), none, .mv (.t 0)⟩, ⟨(some 10), none, .call 24 [(.t 9)]⟩, ⟨(some 11), none, .fieldAddr 1 (.t 3)⟩, ⟨none, none, .store 1 (.t 11) (.t 10)⟩])
 (.seq (.region [⟨(some 12), none, .mv (.t 0)⟩, ⟨(some 13), none, .call 25 [(.t 12)]⟩, ⟨(some 14), none, .fieldAddr 2 (.t 3)⟩, ⟨none, none, .store 1 (.t 14) (.t 13)⟩])
 (.seq (.region [⟨(some 15), none, .mv (.t 0)⟩, ⟨(some 16), none, .call 26 [(.t 15)]⟩, ⟨(some 4), none, .mv (.t 16)⟩])
 (.seq (.seq (.region [⟨(some 5), none, .mv (.c (.val (.int .i64 0)))⟩])
 (.block 0 f27_l1))
 (.seq (.region [⟨(some 36), none, .load (some 4) (.t 3)⟩, ⟨none, none, .store 4 (.t 2) (.t 36)⟩])
 .ret)))))))
def f27_fn : AFun := ⟨f27, [.cell 2 (some 4)]⟩
theorem f27_ok : funOf Tryz.prog 27 = some f27_fn := by kernel_rfl
def f28_o0 : List DOp := [⟨⟨(some 27), none, .fieldAddr 2 (.t 3)⟩, [3], []⟩, ⟨⟨(some 28), none, .load none (.t 27)⟩, [27], []⟩, ⟨⟨(some 29), none, .mv (.t 0)⟩, [0], [0, 1]⟩, ⟨⟨(some 30), none, .call 55 [(.t 29)]⟩, [29], [0, 1]⟩, ⟨⟨(some 31), none, .buildSlice 2 1 [(.val (.bool false)), (.val (.slice none 0 0))] [(0, 2, (.t 30))]⟩, [30], [0, 1]⟩, ⟨⟨(some 32), none, .append 2 32 (.t 28) (.t 31)⟩, [28, 31], []⟩, ⟨⟨(some 33), none, .fieldAddr 2 (.t 3)⟩, [3], []⟩, ⟨⟨none, none, .store 1 (.t 33) (.t 32)⟩, [33, 32], []⟩]
def f28_d0 : ACode := .draw f28_o0
def f28_b1 : ACode := (.seq (.seq (.region [⟨(some 15), none, .mv (.t 5)⟩, ⟨(some 16), none, .mv (.t 4)⟩, ⟨(some 17), none, .bin .lss 3 false (.t 15) (.t 16)⟩, ⟨(some 18), none, .mv (.t 17)⟩, ⟨(some 19), some (18, true), .mv (.t 0)⟩, ⟨(some 20), some (18, true), .nilck (.t 19)⟩, ⟨(some 21), some (18, true), .fieldAddr 2 (.t 20)⟩, ⟨(some 22), some (18, true), .load none (.t 21)⟩, ⟨(some 23), some (18, true), .un .not (.t 22)⟩, ⟨(some 24), none, .pick (.t 18) (.t 23) (.c (.val (.bool false)))⟩])
 (.cond (.t 24) .skip (.exit 0)))
 (.seq (.block 1 f28_d0)
 (.region [⟨(some 25), none, .mv (.t 5)⟩, ⟨(some 26), none, .bin .add 3 true (.t 25) (.c (.val (.int .i64 1)))⟩, ⟨(some 5), none, .mv (.t 26)⟩])))
def f28_l1 : ACode := .loop f28_b1
def f28_o2 : List DOp := [⟨⟨(some 48), none, .fieldAddr 3 (.t 3)⟩, [3], []⟩, ⟨⟨(some 49), none, .load none (.t 48)⟩, [48], []⟩, ⟨⟨(some 50), none, .mv (.t 0)⟩, [0], [0, 1]⟩, ⟨⟨(some 51), none, .call 28 [(.t 50)]⟩, [50], [0, 1]⟩, ⟨⟨(some 52), none, .buildSlice 4 1 [(.val (.int .i64 0)), (.val (.int .i64 0)), (.val (.slice none 0 0)), (.val (.slice none 0 0))] [(0, 4, (.t 51))]⟩, [51], [0, 1]⟩, ⟨⟨(some 53), none, .append 4 64 (.t 49) (.t 52)⟩, [49, 52], []⟩, ⟨⟨(some 54), none, .fieldAddr 3 (.t 3)⟩, [3], []⟩, ⟨⟨none, none, .store 1 (.t 54) (.t 53)⟩, [54, 53], []⟩]
def f28_d2 : ACode := .draw f28_o2
def f28_b3 : ACode := (.seq (.seq (.region [⟨(some 36), none, .mv (.t 6)⟩, ⟨(some 37), none, .mv (.t 4)⟩, ⟨(some 38), none, .bin .lss 3 false (.t 36) (.t 37)⟩, ⟨(some 39), none, .mv (.t 38)⟩, ⟨(some 40), some (39, true), .mv (.t 0)⟩, ⟨(some 41), some (39, true), .nilck (.t 40)⟩, ⟨(some 42), some (39, true), .fieldAddr 2 (.t 41)⟩, ⟨(some 43), some (39, true), .load none (.t 42)⟩, ⟨(some 44), some (39, true), .un .not (.t 43)⟩, ⟨(some 45), none, .pick (.t 39) (.t 44) (.c (.val (.bool false)))⟩])
 (.cond (.t 45) .skip (.exit 2)))
 (.seq (.block 3 f28_d2)
 (.region [⟨(some 46), none, .mv (.t 6)⟩, ⟨(some 47), none, .bin .add 3 true (.t 46) (.c (.val (.int .i64 1)))⟩, ⟨(some 6), none, .mv (.t 47)⟩])))
def f28_l3 : ACode := .loop f28_b3
def f28 : ACode := (.seq (.region [⟨(some 2), none, .alloc [(.val (.int .i64 0)), (.val (.int .i64 0)), (.val (.slice none 0 0)), (.val (.slice none 0 0))]⟩])
 (.seq (.region [⟨(some 7), none, .mv (.t 0)⟩, ⟨(some 8), none, .call 25 [(.t 7)]⟩, ⟨(some 9), none, .build [(.val (.int .i64 0)), (.val (.int .i64 0)), (.val (.slice none 0 0)), (.val (.slice none 0 0))] [(0, 1, (.t 8))]⟩, ⟨(some 3), none, .alloc [(.val (.int .i64 0)), (.val (.int .i64 0)), (.val (.slice none 0 0)), (.val (.slice none 0 0))]⟩, ⟨none, none, .store 4 (.t 3) (.t 9)⟩])
 (.seq (.region [⟨(some 10), none, .mv (.t 0)⟩, ⟨(some 11), none, .call 25 [(.t 10)]⟩, ⟨(some 12), none, .fieldAddr 1 (.t 3)⟩, ⟨none, none, .store 1 (.t 12) (.t 11)⟩])
 (.seq (.region [⟨(some 13), none, .mv (.t 0)⟩, ⟨(some 14), none, .call 26 [(.t 13)]⟩, ⟨(some 4), none, .mv (.t 14)⟩])
 (.seq (.seq (.region [⟨(some 5), none, .mv (.c (.val (.int .i64 0)))⟩])
 (.block 0 f28_l1))
 (.seq (.region [⟨(some 34), none, .mv (.t 0)⟩, ⟨(some 35), none, .call 26 [(.t 34)]⟩, ⟨(some 4), none, .mv (.t 35)⟩])
 (.seq (.seq (.region [⟨(some 6), none, .mv (.c (.val (.int .i64 0)))⟩])
 (.block 2 f28_l3))
 (.seq (.region [⟨(some 55), none, .load (some 4) (.t 3)⟩, ⟨none, none, .store 4 (.t 2) (.t 55)⟩])
 .ret))))))))
def f28_fn : AFun := ⟨f28, [.cell 2 (some 4)]⟩
theorem f28_ok : funOf Tryz.prog 28 = some f28_fn := by kernel_rfl
def f54_b0 : ACode := (.seq (.region [⟨(some 8), none, .bin .lss 3 false (.t 7) (.t 6)⟩])
 (.seq (.cond (.t 8) .skip (.exit 0))
 (.seq (.block 1 (.seq (.region [⟨(some 9), none, .mv (.t 7)⟩, ⟨(some 4), none, .mv (.t 9)⟩])
 (.region [⟨(some 10), none, .mv (.t 3)⟩, ⟨(some 11), none, .mv (.t 0)⟩, ⟨(some 12), none, .mv (.t 4)⟩, ⟨(some 13), none, .idxStr (.t 11) (.t 12)⟩, ⟨(some 14), none, .conv .i64 (.t 13)⟩, ⟨(some 15), none, .bin .xor 3 false (.t 10) (.t 14)⟩, ⟨(some 16), none, .bin .mul 3 true (.t 15) (.c (.val (.int .i64 16777619)))⟩, ⟨(some 17), none, .bin .rem 3 true (.t 16) (.c (.val (.int .i64 4294967296)))⟩, ⟨(some 3), none, .mv (.t 17)⟩])))
 (.region [⟨(some 18), none, .bin .add 3 true (.t 7) (.c (.val (.int .i64 1)))⟩, ⟨(some 7), none, .mv (.t 18)⟩]))))
def f54_l0 : ACode := .loop f54_b0
def f54 : ACode := (.seq (.region [⟨(some 2), none, .mv (.c (.val (.int .i64 0)))⟩])
 (.seq (.region [⟨(some 3), none, .mv (.c (.val (.int .i64 2166136261)))⟩])
 (.seq (.seq (.region [⟨(some 5), none, .mv (.t 0)⟩, ⟨(some 6), none, .lenStr (.t 5)⟩, ⟨(some 7), none, .mv (.c (.val (.int .i64 0)))⟩])
 (.block 0 f54_l0))
 (.seq (.region [⟨(some 19), none, .mv (.t 3)⟩, ⟨(some 2), none, .mv (.t 19)⟩])
 .ret))))
def f54_fn : AFun := ⟨f54, [.tmp 2]⟩
theorem f54_ok : funOf Tryz.prog 54 = some f54_fn := by kernel_rfl
def f55_o0 : List DOp := [⟨⟨(some 23), none, .fieldAddr 1 (.t 3)⟩, [3], []⟩, ⟨⟨(some 24), none, .load none (.t 23)⟩, [23], []⟩, ⟨⟨(some 25), none, .mv (.t 0)⟩, [0], [0, 1]⟩, ⟨⟨(some 26), none, .call 25 [(.t 25)]⟩, [25], [0, 1]⟩, ⟨⟨(some 27), none, .buildSlice 1 1 [(.val (.int .i64 0))] [(0, 1, (.t 26))]⟩, [26], [0, 1]⟩, ⟨⟨(some 28), none, .append 1 8 (.t 24) (.t 27)⟩, [24, 27], []⟩, ⟨⟨(some 29), none, .fieldAddr 1 (.t 3)⟩, [3], []⟩, ⟨⟨none, none, .store 1 (.t 29) (.t 28)⟩, [29, 28], []⟩]
def f55_d0 : ACode := .draw f55_o0
def f55_b1 : ACode := (.seq (.seq (.region [⟨(some 11), none, .mv (.t 5)⟩, ⟨(some 12), none, .mv (.t 4)⟩, ⟨(some 13), none, .bin .lss 3 false (.t 11) (.t 12)⟩, ⟨(some 14), none, .mv (.t 13)⟩, ⟨(some 15), some (14, true), .mv (.t 0)⟩, ⟨(some 16), some (14, true), .nilck (.t 15)⟩, ⟨(some 17), some (14, true), .fieldAddr 2 (.t 16)⟩, ⟨(some 18), some (14, true), .load none (.t 17)⟩, ⟨(some 19), some (14, true), .un .not (.t 18)⟩, ⟨(some 20), none, .pick (.t 14) (.t 19) (.c (.val (.bool false)))⟩])
 (.cond (.t 20) .skip (.exit 0)))
 (.seq (.block 1 f55_d0)
 (.region [⟨(some 21), none, .mv (.t 5)⟩, ⟨(some 22), none, .bin .add 3 true (.t 21) (.c (.val (.int .i64 1)))⟩, ⟨(some 5), none, .mv (.t 22)⟩])))
def f55_l1 : ACode := .loop f55_b1
def f55 : ACode := (.seq (.region [⟨(some 2), none, .alloc [(.val (.bool false)), (.val (.slice none 0 0))]⟩])
 (.seq (.region [⟨(some 6), none, .mv (.t 0)⟩, ⟨(some 7), none, .call 76 [(.t 6)]⟩, ⟨(some 8), none, .build [(.val (.bool false)), (.val (.slice none 0 0))] [(0, 1, (.t 7))]⟩, ⟨(some 3), none, .alloc [(.val (.bool false)), (.val (.slice none 0 0))]⟩, ⟨none, none, .store 2 (.t 3) (.t 8)⟩])
 (.seq (.region [⟨(some 9), none, .mv (.t 0)⟩, ⟨(some 10), none, .call 26 [(.t 9)]⟩, ⟨(some 4), none, .mv (.t 10)⟩])
 (.seq (.seq (.region [⟨(some 5), none, .mv (.c (.val (.int .i64 0)))⟩])
 (.block 0 f55_l1))
 (.seq (.region [⟨(some 30), none, .load (some 2) (.t 3)⟩, ⟨none, none, .store 2 (.t 2) (.t 30)⟩])
 .ret)))))
def f55_fn : AFun := ⟨f55, [.cell 2 (some 2)]⟩
theorem f55_ok : funOf Tryz.prog 55 = some f55_fn := by kernel_rfl
def f76 : ACode := (.seq (.region [⟨(some 2), none, .mv (.c (.val (.bool false)))⟩])
 (.seq (.region [⟨(some 4), none, .mv (.t 0)⟩, ⟨(some 5), none, .call 25 [(.t 4)]⟩, ⟨(some 3), none, .mv (.t 5)⟩])
 (.seq (.region [⟨(some 6), none, .mv (.t 0)⟩, ⟨(some 7), none, .mv (.t 0)⟩, ⟨(some 8), none, .nilck (.t 7)⟩, ⟨(some 9), none, .fieldAddr 2 (.t 8)⟩, ⟨(some 10), none, .load none (.t 9)⟩, ⟨(some 11), none, .mv (.t 10)⟩, ⟨(some 12), some (11, false), .mv (.t 3)⟩, ⟨(some 13), some (11, false), .bin .neq 3 true (.t 12) (.c (.val (.int .i64 0)))⟩, ⟨(some 14), some (11, false), .mv (.t 13)⟩, ⟨(some 15), some (14, true), .mv (.t 3)⟩, ⟨(some 16), some (14, true), .bin .neq 3 true (.t 15) (.c (.val (.int .i64 1)))⟩, ⟨(some 17), some (11, false), .pick (.t 14) (.t 16) (.c (.val (.bool false)))⟩, ⟨(some 18), none, .pick (.t 11) (.c (.val (.bool true))) (.t 17)⟩, ⟨(some 19), none, .nilck (.t 6)⟩, ⟨(some 20), none, .fieldAddr 2 (.t 19)⟩, ⟨none, none, .store 1 (.t 20) (.t 18)⟩])
 (.seq (.region [⟨(some 21), none, .mv (.t 3)⟩, ⟨(some 22), none, .bin .eql 3 true (.t 21) (.c (.val (.int .i64 1)))⟩, ⟨(some 2), none, .mv (.t 22)⟩])
 .ret))))
def f76_fn : AFun := ⟨f76, [.tmp 2]⟩
theorem f76_ok : funOf Tryz.prog 76 = some f76_fn := by kernel_rfl
end Go.Proofs.YtijpnlmmaoecgaaGreatDoor
