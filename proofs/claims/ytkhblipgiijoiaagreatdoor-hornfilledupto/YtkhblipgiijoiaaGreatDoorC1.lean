/- A part of the proof about filled horn systems: ZCodes. -/
import Derived.Test.YtkhblipgiijoiaaGreatDoorE1
import Derived.Test.YtkhblipgiijoiaaGreatDoorW1

set_option linter.all false
namespace Go.Proofs.YtkhblipgiijoiaaGreatDoor
open Go Go.AM
open Option renaming some → S, none → O
open Bool renaming true → T, false → F
open Go.AM.ACode renaming region → R, seq → Q, cond → C
open Go.AM.AOp renaming fieldAddr → D, idxAddrS → X, load → L, append → A
open Go.AM.AV renaming val → V
open Go.Value renaming int → I, string → G
def po:List DOp:=[⟨⟨S 41,O,L (S 3) (.t 2)⟩,[2],[]⟩,⟨⟨S 42,O,.mv (.t 1)⟩,[1],[0]⟩,⟨⟨S 43,O,D 2 (.t 2)⟩,[2],[0,1]⟩,⟨⟨S 44,O,L O (.t 43)⟩,[43],[0,1]⟩,⟨⟨S 45,O,.mv (.t 7)⟩,[7],[0,1,2,3]⟩,⟨⟨S 46,O,X 7 (.t 44) (.t 45)⟩,[44,45],[0,1]⟩,⟨⟨S 47,O,L (S 7) (.t 46)⟩,[46],[0,1]⟩,⟨⟨S 48,O,.call 19 [.t 41,.t 42,.t 47]⟩,[41,42,47],[]⟩,⟨⟨S 8,O,.alloc [V (.slice O 0 0),V (.slice O 0 0),V (I .i64 0),V (G ⟨#[]⟩),V (I .i64 0),V (.slice O 0 0),V (I .i64 0)]⟩,[],[0,1,2,3,4,5,6,7]⟩,⟨⟨O,O,.store 7 (.t 8) (.t 48)⟩,[8,48],[]⟩]
def f4_d0:ACode:=.draw po
def dk:List DOp:=[⟨⟨S 49,O,.buildSlice 4 0 [] []⟩,[],[]⟩,⟨⟨S 50,O,D 1 (.t 8)⟩,[8],[0]⟩,⟨⟨S 51,O,L O (.t 50)⟩,[50],[0]⟩,⟨⟨S 52,O,A 4 56 (.t 49) (.t 51)⟩,[49,51],[]⟩,⟨⟨S 53,O,D 2 (.t 8)⟩,[8],[0,1,2,3]⟩,⟨⟨S 54,O,L (S 4) (.t 53)⟩,[53],[0,1,2,3]⟩,⟨⟨S 55,O,.buildSlice 4 1 [V (I .i64 0),V (G ⟨#[]⟩),V (I .i64 0),V (.slice O 0 0)] [(0,4,(.t 54))]⟩,[54],[0,1,2,3]⟩,⟨⟨S 56,O,A 4 56 (.t 52) (.t 55)⟩,[52,55],[]⟩,⟨⟨S 9,O,.mv (.t 56)⟩,[56],[]⟩]
def f4_d1:ACode:=.draw dk
def cD:List DOp:=[⟨⟨S 70,O,.mv (.t 9)⟩,[9],[]⟩,⟨⟨S 71,O,.mv (.t 10)⟩,[10],[0]⟩,⟨⟨S 72,O,X 4 (.t 70) (.t 71)⟩,[70,71],[]⟩,⟨⟨S 73,O,L (S 4) (.t 72)⟩,[72],[]⟩,⟨⟨S 74,O,.call 21 [.t 73]⟩,[73],[]⟩,⟨⟨S 75,O,.bin .leq 3 T (.t 74) (.c (V (I .i64 400)))⟩,[74],[]⟩,⟨⟨S 76,O,.mv (.t 75)⟩,[75],[]⟩,⟨⟨S 77,S (76,T),.mv (.t 9)⟩,[9,76],[]⟩,⟨⟨S 78,S (76,T),.mv (.t 10)⟩,[10,76],[7]⟩,⟨⟨S 79,S (76,T),X 4 (.t 77) (.t 78)⟩,[77,78,76],[]⟩,⟨⟨S 80,S (76,T),L (S 4) (.t 79)⟩,[79,76],[]⟩,⟨⟨S 81,S (76,T),.call 22 [.t 80]⟩,[80,76],[]⟩,⟨⟨S 82,S (76,T),.bin .leq 3 T (.t 81) (.c (V (I .i64 40)))⟩,[81,76],[]⟩,⟨⟨S 83,O,.pick (.t 76) (.t 82) (.c (V (.bool F)))⟩,[76,82],[]⟩,⟨⟨S 84,O,.mv (.t 83)⟩,[83],[]⟩,⟨⟨S 85,S (84,T),L (S 3) (.t 2)⟩,[2,84],[]⟩,⟨⟨S 86,S (84,T),L (S 7) (.t 8)⟩,[8,84],[15]⟩,⟨⟨S 87,S (84,T),.call 24 [.t 85,.t 86]⟩,[85,86,84],[]⟩,⟨⟨S 88,S (84,T),.mv (.t 9)⟩,[9,84],[15,16,17]⟩,⟨⟨S 89,S (84,T),.mv (.t 10)⟩,[10,84],[15,16,17,18]⟩,⟨⟨S 90,S (84,T),X 4 (.t 88) (.t 89)⟩,[88,89,84],[15,16,17]⟩,⟨⟨S 91,S (84,T),L (S 4) (.t 90)⟩,[90,84],[15,16,17]⟩,⟨⟨S 92,S (84,T),.call 23 [.t 87,.t 91]⟩,[87,91,84],[]⟩,⟨⟨S 93,S (84,T),.bin .neq 29 T (.t 92) (.c (V (I .i64 0)))⟩,[92,84],[]⟩,⟨⟨S 94,O,.pick (.t 84) (.t 93) (.c (V (.bool F)))⟩,[84,93],[]⟩,⟨⟨S 95,O,.mv (.t 94)⟩,[94],[]⟩,⟨⟨S 96,S (95,T),.mv (.t 9)⟩,[9,95],[]⟩,⟨⟨S 97,S (95,T),.mv (.t 10)⟩,[10,95],[26]⟩,⟨⟨S 98,S (95,T),X 4 (.t 96) (.t 97)⟩,[96,97,95],[]⟩,⟨⟨S 99,S (95,T),L (S 4) (.t 98)⟩,[98,95],[]⟩,⟨⟨S 100,S (95,T),.call 25 [.t 99]⟩,[99,95],[]⟩,⟨⟨S 101,S (95,T),.bin .eql 29 T (.t 100) (.c (V (I .i64 0)))⟩,[100,95],[]⟩,⟨⟨S 102,O,.pick (.t 95) (.t 101) (.c (V (.bool F)))⟩,[95,101],[]⟩]
def f4_d2:ACode:=.draw cD
def xr:ACode:=(Q (Q (R [⟨S 57,O,.mv (.t 10)⟩,⟨S 58,O,.mv (.t 9)⟩,⟨S 59,O,.lenS (.t 58)⟩,⟨S 60,O,.bin .lss 3 F (.t 57) (.t 59)⟩])
 (C (.t 60) .skip (.exit 2)))
 (Q (.block 3 (Q (Q (R [⟨S 63,O,.mv (.t 9)⟩,⟨S 64,O,.mv (.t 10)⟩,⟨S 65,O,X 4 (.t 63) (.t 64)⟩,⟨S 66,O,L (S 4) (.t 65)⟩,⟨S 67,O,.call 20 [.t 66]⟩,⟨S 68,O,.lenS (.t 67)⟩,⟨S 69,O,.bin .gtr 3 T (.t 68) (.c (V (I .i64 0)))⟩])
 (C (.t 69) (Q (R [⟨S 4,O,.mv (.c (V (.bool F)))⟩])
 .ret) .skip))
 (Q f4_d2
 (C (.t 102) (Q (R [⟨S 4,O,.mv (.c (V (.bool F)))⟩])
 .ret) .skip))))
 (R [⟨S 61,O,.mv (.t 10)⟩,⟨S 62,O,.bin .add 3 T (.t 61) (.c (V (I .i64 1)))⟩,⟨S 10,O,.mv (.t 62)⟩])))
def f4_l3:ACode:=.loop xr
def xq:ACode:=(Q (Q (R [⟨S 34,O,.mv (.t 7)⟩,⟨S 35,O,D 2 (.t 2)⟩,⟨S 36,O,L O (.t 35)⟩,⟨S 37,O,.lenS (.t 36)⟩,⟨S 38,O,.bin .lss 3 F (.t 34) (.t 37)⟩])
 (C (.t 38) .skip (.exit 0)))
 (Q (.block 1 (Q f4_d0
 (Q f4_d1
 (Q (R [⟨S 10,O,.mv (.c (V (I .i64 0)))⟩])
 (.block 2 f4_l3)))))
 (R [⟨S 39,O,.mv (.t 7)⟩,⟨S 40,O,.bin .add 3 T (.t 39) (.c (V (I .i64 1)))⟩,⟨S 7,O,.mv (.t 40)⟩])))
def f4_l4:ACode:=.loop xq
def f4:ACode:=(Q (R [⟨S 2,O,.box (.t 0)⟩,⟨S 4,O,.mv (.c (V (.bool F)))⟩])
 (Q (Q (R [⟨S 11,O,L (S 3) (.t 2)⟩,⟨S 12,O,.call 5 [.t 11]⟩,⟨S 13,O,.un .not (.t 12)⟩,⟨S 14,O,.mv (.t 13)⟩,⟨S 15,S (14,F),.mv (.t 1)⟩,⟨S 16,S (14,F),.call 17 [.t 15]⟩,⟨S 17,S (14,F),.un .not (.t 16)⟩,⟨S 18,O,.pick (.t 14) (.c (V (.bool T))) (.t 17)⟩])
 (C (.t 18) (Q (R [⟨S 19,O,.call 6 []⟩,⟨S 4,O,.mv (.t 19)⟩])
 .ret) .skip))
 (Q (R [⟨S 21,O,L (S 3) (.t 2)⟩,⟨S 22,O,.call 7 [.t 21]⟩,⟨S 20,O,.mv (.t 22)⟩,⟨S 23,O,.extract 0 (.t 20)⟩,⟨S 24,O,.extract 1 (.t 20)⟩,⟨S 5,O,.mv (.t 23)⟩,⟨S 6,O,.mv (.t 24)⟩])
 (Q (Q (R [⟨S 25,O,.mv (.t 6)⟩,⟨S 26,O,.bin .neq 29 T (.t 25) (.c (V (I .i64 0)))⟩,⟨S 27,O,.mv (.t 26)⟩,⟨S 28,S (27,F),L (S 3) (.t 2)⟩,⟨S 29,S (27,F),.mv (.t 1)⟩,⟨S 30,S (27,F),.call 18 [.t 28,.t 29]⟩,⟨S 31,S (27,F),.bin .neq 29 T (.t 30) (.c (V (I .i64 0)))⟩,⟨S 32,O,.pick (.t 27) (.c (V (.bool T))) (.t 31)⟩])
 (C (.t 32) (Q (R [⟨S 33,O,.call 6 []⟩,⟨S 4,O,.mv (.t 33)⟩])
 .ret) .skip))
 (Q (Q (R [⟨S 7,O,.mv (.c (V (I .i64 0)))⟩])
 (.block 0 f4_l4))
 (Q (R [⟨S 103,O,.call 6 []⟩,⟨S 4,O,.mv (.t 103)⟩])
 .ret))))))
def sj:AFun:=⟨f4,[.tmp 4]⟩
theorem f4_ok:funOf Tryz.prog 4=some sj:=by kernel_rfl
def pj:ACode:=(Q (Q (R [⟨S 27,O,.mv (.t 3)⟩,⟨S 28,O,D 1 (.t 1)⟩,⟨S 29,O,L O (.t 28)⟩,⟨S 30,O,.lenS (.t 29)⟩,⟨S 31,O,.bin .lss 3 F (.t 27) (.t 30)⟩])
 (C (.t 31) .skip (.exit 0)))
 (Q (.block 1 (Q (R [⟨S 34,O,D 1 (.t 1)⟩,⟨S 35,O,L O (.t 34)⟩,⟨S 36,O,.mv (.t 3)⟩,⟨S 37,O,X 2 (.t 35) (.t 36)⟩,⟨S 38,O,D 1 (.t 37)⟩,⟨S 39,O,L O (.t 38)⟩,⟨S 40,O,.lenS (.t 39)⟩,⟨S 41,O,.bin .gtr 3 T (.t 40) (.c (V (I .i64 26)))⟩,⟨S 42,O,.mv (.t 41)⟩,⟨S 43,S (42,F),D 1 (.t 1)⟩,⟨S 44,S (42,F),L O (.t 43)⟩,⟨S 45,S (42,F),.mv (.t 3)⟩,⟨S 46,S (42,F),X 2 (.t 44) (.t 45)⟩,⟨S 47,S (42,F),D 0 (.t 46)⟩,⟨S 48,S (42,F),L O (.t 47)⟩,⟨S 49,S (42,F),.lenStr (.t 48)⟩,⟨S 50,S (42,F),.bin .gtr 3 T (.t 49) (.c (V (I .i64 100)))⟩,⟨S 51,O,.pick (.t 42) (.c (V (.bool T))) (.t 50)⟩])
 (C (.t 51) (Q (R [⟨S 2,O,.mv (.c (V (.bool F)))⟩])
 .ret) .skip)))
 (R [⟨S 32,O,.mv (.t 3)⟩,⟨S 33,O,.bin .add 3 T (.t 32) (.c (V (I .i64 1)))⟩,⟨S 3,O,.mv (.t 33)⟩])))
def f5_l0:ACode:=.loop pj
def bp:List DOp:=[⟨⟨S 64,O,D 0 (.t 5)⟩,[5],[]⟩,⟨⟨S 65,O,L O (.t 64)⟩,[64],[]⟩,⟨⟨S 66,O,.lenS (.t 65)⟩,[65],[]⟩,⟨⟨S 67,O,.bin .gtr 3 T (.t 66) (.c (V (I .i64 26)))⟩,[66],[]⟩,⟨⟨S 68,O,.mv (.t 67)⟩,[67],[]⟩,⟨⟨S 69,S (68,F),D 1 (.t 5)⟩,[5,68],[]⟩,⟨⟨S 70,S (68,F),L O (.t 69)⟩,[69,68],[]⟩,⟨⟨S 71,S (68,F),.lenS (.t 70)⟩,[70,68],[]⟩,⟨⟨S 72,S (68,F),.bin .gtr 3 T (.t 71) (.c (V (I .i64 6)))⟩,[71,68],[]⟩,⟨⟨S 73,O,.pick (.t 68) (.c (V (.bool T))) (.t 72)⟩,[68,72],[]⟩,⟨⟨S 74,O,.mv (.t 73)⟩,[73],[]⟩,⟨⟨S 75,S (74,F),.buildSlice 4 0 [] []⟩,[74],[]⟩,⟨⟨S 76,S (74,F),D 1 (.t 5)⟩,[5,74],[11]⟩,⟨⟨S 77,S (74,F),L O (.t 76)⟩,[76,74],[11]⟩,⟨⟨S 78,S (74,F),A 4 56 (.t 75) (.t 77)⟩,[75,77,74],[]⟩,⟨⟨S 79,S (74,F),D 2 (.t 5)⟩,[5,74],[11,12,13,14]⟩,⟨⟨S 80,S (74,F),L (S 4) (.t 79)⟩,[79,74],[11,12,13,14]⟩,⟨⟨S 81,S (74,F),.buildSlice 4 1 [V (I .i64 0),V (G ⟨#[]⟩),V (I .i64 0),V (.slice O 0 0)] [(0,4,(.t 80))]⟩,[80,74],[11,12,13,14]⟩,⟨⟨S 82,S (74,F),A 4 56 (.t 78) (.t 81)⟩,[78,81,74],[]⟩,⟨⟨S 83,S (74,F),.call 27 [.t 82,.c (V (I .i64 120))]⟩,[82,74],[]⟩,⟨⟨S 84,S (74,F),.un .not (.t 83)⟩,[83,74],[]⟩,⟨⟨S 85,O,.pick (.t 74) (.c (V (.bool T))) (.t 84)⟩,[74,84],[]⟩]
def f5_d1:ACode:=.draw bp
def xk:ACode:=(Q (Q (R [⟨S 52,O,.mv (.t 4)⟩,⟨S 53,O,D 2 (.t 1)⟩,⟨S 54,O,L O (.t 53)⟩,⟨S 55,O,.lenS (.t 54)⟩,⟨S 56,O,.bin .lss 3 F (.t 52) (.t 55)⟩])
 (C (.t 56) .skip (.exit 2)))
 (Q (.block 3 (Q (R [⟨S 59,O,D 2 (.t 1)⟩,⟨S 60,O,L O (.t 59)⟩,⟨S 61,O,.mv (.t 4)⟩,⟨S 62,O,X 7 (.t 60) (.t 61)⟩,⟨S 63,O,L (S 7) (.t 62)⟩,⟨S 5,O,.alloc [V (.slice O 0 0),V (.slice O 0 0),V (I .i64 0),V (G ⟨#[]⟩),V (I .i64 0),V (.slice O 0 0),V (I .i64 0)]⟩,⟨O,O,.store 7 (.t 5) (.t 63)⟩])
 (Q f5_d1
 (C (.t 85) (Q (R [⟨S 2,O,.mv (.c (V (.bool F)))⟩])
 .ret) .skip))))
 (R [⟨S 57,O,.mv (.t 4)⟩,⟨S 58,O,.bin .add 3 T (.t 57) (.c (V (I .i64 1)))⟩,⟨S 4,O,.mv (.t 58)⟩])))
def f5_l2:ACode:=.loop xk
def f5:ACode:=(Q (R [⟨S 1,O,.box (.t 0)⟩,⟨S 2,O,.mv (.c (V (.bool F)))⟩])
 (Q (Q (R [⟨S 6,O,D 1 (.t 1)⟩,⟨S 7,O,L O (.t 6)⟩,⟨S 8,O,.lenS (.t 7)⟩,⟨S 9,O,.bin .gtr 3 T (.t 8) (.c (V (I .i64 8)))⟩,⟨S 10,O,.mv (.t 9)⟩,⟨S 11,S (10,F),D 0 (.t 1)⟩,⟨S 12,S (10,F),L O (.t 11)⟩,⟨S 13,S (10,F),.lenS (.t 12)⟩,⟨S 14,S (10,F),.bin .gtr 3 T (.t 13) (.c (V (I .i64 12)))⟩,⟨S 15,O,.pick (.t 10) (.c (V (.bool T))) (.t 14)⟩,⟨S 16,O,.mv (.t 15)⟩,⟨S 17,S (16,F),D 2 (.t 1)⟩,⟨S 18,S (16,F),L O (.t 17)⟩,⟨S 19,S (16,F),.lenS (.t 18)⟩,⟨S 20,S (16,F),.bin .gtr 3 T (.t 19) (.c (V (I .i64 15)))⟩,⟨S 21,O,.pick (.t 16) (.c (V (.bool T))) (.t 20)⟩,⟨S 22,O,.mv (.t 21)⟩,⟨S 23,S (22,F),L (S 3) (.t 1)⟩,⟨S 24,S (22,F),.call 26 [.t 23]⟩,⟨S 25,S (22,F),.un .not (.t 24)⟩,⟨S 26,O,.pick (.t 22) (.c (V (.bool T))) (.t 25)⟩])
 (C (.t 26) (Q (R [⟨S 2,O,.mv (.c (V (.bool F)))⟩])
 .ret) .skip))
 (Q (Q (R [⟨S 3,O,.mv (.c (V (I .i64 0)))⟩])
 (.block 0 f5_l0))
 (Q (Q (R [⟨S 4,O,.mv (.c (V (I .i64 0)))⟩])
 (.block 2 f5_l2))
 (Q (R [⟨S 2,O,.mv (.c (V (.bool T)))⟩])
 .ret)))))
def si:AFun:=⟨f5,[.tmp 2]⟩
theorem f5_ok:funOf Tryz.prog 5=some si:=by kernel_rfl
def sg:ACode:=(Q (R [⟨S 31,O,.bin .lss 3 F (.t 30) (.t 29)⟩])
 (Q (C (.t 31) .skip (.exit 0))
 (Q (.block 1 (Q (R [⟨S 32,O,.mv (.t 30)⟩,⟨S 33,O,X 7 (.t 28) (.t 30)⟩,⟨S 34,O,L (S 7) (.t 33)⟩,⟨S 6,O,.alloc [V (.slice O 0 0),V (.slice O 0 0),V (I .i64 0),V (G ⟨#[]⟩),V (I .i64 0),V (.slice O 0 0),V (I .i64 0)]⟩,⟨S 5,O,.mv (.t 32)⟩,⟨O,O,.store 7 (.t 6) (.t 34)⟩])
 (Q (R [⟨S 35,O,L (S 3) (.t 1)⟩,⟨S 36,O,L (S 7) (.t 6)⟩,⟨S 37,O,.call 34 [.t 35,.t 36]⟩,⟨S 7,O,.mv (.t 37)⟩])
 (Q (R [⟨S 38,O,.mv (.t 7)⟩,⟨S 39,O,.bin .neq 29 T (.t 38) (.c (V (I .i64 0)))⟩])
 (C (.t 39) (Q (R [⟨S 40,O,.mv (.t 5)⟩,⟨S 41,O,.mv (.t 7)⟩,⟨S 2,O,.mv (.t 40)⟩,⟨S 3,O,.mv (.t 41)⟩])
 .ret) .skip)))))
 (R [⟨S 42,O,.bin .add 3 T (.t 30) (.c (V (I .i64 1)))⟩,⟨S 30,O,.mv (.t 42)⟩]))))
def f7_l0:ACode:=.loop sg
def f7:ACode:=(Q (R [⟨S 1,O,.box (.t 0)⟩,⟨S 2,O,.mv (.c (V (I .i64 0)))⟩,⟨S 3,O,.mv (.c (V (I .i64 0)))⟩])
 (Q (Q (R [⟨S 8,O,D 2 (.t 1)⟩,⟨S 9,O,L O (.t 8)⟩,⟨S 10,O,.lenS (.t 9)⟩,⟨S 11,O,.bin .gtr 3 T (.t 10) (.c (V (I .i64 400)))⟩,⟨S 12,O,.mv (.t 11)⟩,⟨S 13,S (12,F),D 1 (.t 1)⟩,⟨S 14,S (12,F),L O (.t 13)⟩,⟨S 15,S (12,F),.lenS (.t 14)⟩,⟨S 16,S (12,F),.bin .gtr 3 T (.t 15) (.c (V (I .i64 40)))⟩,⟨S 17,O,.pick (.t 12) (.c (V (.bool T))) (.t 16)⟩])
 (C (.t 17) (Q (R [⟨S 2,O,.mv (.c (V (I .i64 (-1))))⟩,⟨S 3,O,.mv (.c (V (I .i64 7)))⟩])
 .ret) .skip))
 (Q (Q (R [⟨S 18,O,D 0 (.t 1)⟩,⟨S 19,O,L O (.t 18)⟩,⟨S 20,O,D 1 (.t 1)⟩,⟨S 21,O,L O (.t 20)⟩,⟨S 22,O,.build [V (.slice O 0 0),V (.slice O 0 0),V (.slice O 0 0)] [(1,1,(.t 19)),(2,1,(.t 21))]⟩,⟨S 23,O,.call 33 [.t 22]⟩,⟨S 4,O,.mv (.t 23)⟩])
 (Q (R [⟨S 24,O,.mv (.t 4)⟩,⟨S 25,O,.bin .neq 29 T (.t 24) (.c (V (I .i64 0)))⟩])
 (C (.t 25) (Q (R [⟨S 26,O,.mv (.t 4)⟩,⟨S 2,O,.mv (.c (V (I .i64 (-1))))⟩,⟨S 3,O,.mv (.t 26)⟩])
 .ret) .skip)))
 (Q (Q (R [⟨S 27,O,D 2 (.t 1)⟩,⟨S 28,O,L O (.t 27)⟩,⟨S 29,O,.lenS (.t 28)⟩,⟨S 30,O,.mv (.c (V (I .i64 0)))⟩])
 (.block 0 f7_l0))
 (Q (R [⟨S 2,O,.mv (.c (V (I .i64 (-1))))⟩,⟨S 3,O,.mv (.c (V (I .i64 0)))⟩])
 .ret)))))
def xd:AFun:=⟨f7,[.tmp 2,.tmp 3]⟩
theorem f7_ok:funOf Tryz.prog 7=some xd:=by kernel_rfl
def kg:ACode:=(Q (Q (R [⟨S 7,O,.mv (.t 3)⟩,⟨S 8,O,.mv (.t 0)⟩,⟨S 9,O,.lenS (.t 8)⟩,⟨S 10,O,.bin .lss 3 F (.t 7) (.t 9)⟩])
 (C (.t 10) .skip (.exit 0)))
 (Q (.block 1 (Q (R [⟨S 13,O,.mv (.t 0)⟩,⟨S 14,O,.mv (.t 3)⟩,⟨S 15,O,X 5 (.t 13) (.t 14)⟩,⟨S 16,O,D 0 (.t 15)⟩,⟨S 17,O,L O (.t 16)⟩,⟨S 18,O,.lenStr (.t 17)⟩,⟨S 19,O,.bin .gtr 3 T (.t 18) (.c (V (I .i64 100)))⟩,⟨S 20,O,.mv (.t 19)⟩,⟨S 21,S (20,F),.mv (.t 0)⟩,⟨S 22,S (20,F),.mv (.t 3)⟩,⟨S 23,S (20,F),X 5 (.t 21) (.t 22)⟩,⟨S 24,S (20,F),D 1 (.t 23)⟩,⟨S 25,S (20,F),L (S 4) (.t 24)⟩,⟨S 26,S (20,F),.buildSlice 4 1 [V (I .i64 0),V (G ⟨#[]⟩),V (I .i64 0),V (.slice O 0 0)] [(0,4,(.t 25))]⟩,⟨S 27,S (20,F),.call 27 [.t 26,.c (V (I .i64 20))]⟩,⟨S 28,S (20,F),.un .not (.t 27)⟩,⟨S 29,O,.pick (.t 20) (.c (V (.bool T))) (.t 28)⟩])
 (C (.t 29) (Q (R [⟨S 2,O,.mv (.c (V (.bool F)))⟩])
 .ret) .skip)))
 (R [⟨S 11,O,.mv (.t 3)⟩,⟨S 12,O,.bin .add 3 T (.t 11) (.c (V (I .i64 1)))⟩,⟨S 3,O,.mv (.t 12)⟩])))
def vX:ACode:=.loop kg
def f17:ACode:=(Q (R [⟨S 2,O,.mv (.c (V (.bool F)))⟩])
 (Q (Q (R [⟨S 4,O,.mv (.t 0)⟩,⟨S 5,O,.lenS (.t 4)⟩,⟨S 6,O,.bin .gtr 3 T (.t 5) (.c (V (I .i64 10)))⟩])
 (C (.t 6) (Q (R [⟨S 2,O,.mv (.c (V (.bool F)))⟩])
 .ret) .skip))
 (Q (Q (R [⟨S 3,O,.mv (.c (V (I .i64 0)))⟩])
 (.block 0 vX))
 (Q (R [⟨S 2,O,.mv (.c (V (.bool T)))⟩])
 .ret))))
def f17_fn:AFun:=⟨f17,[.tmp 2]⟩
theorem f17_ok:funOf Tryz.prog 17=some f17_fn:=by kernel_rfl
def qI:ACode:=(Q (R [⟨S 17,O,.bin .lss 3 F (.t 16) (.t 15)⟩])
 (Q (C (.t 17) .skip (.exit 0))
 (Q (.block 1 (Q (R [⟨S 18,O,X 5 (.t 14) (.t 16)⟩,⟨S 19,O,L (S 5) (.t 18)⟩,⟨S 7,O,.alloc [V (G ⟨#[]⟩),V (I .i64 0),V (G ⟨#[]⟩),V (I .i64 0),V (.slice O 0 0)]⟩,⟨O,O,.store 5 (.t 7) (.t 19)⟩])
 (R [⟨S 20,O,.mv (.t 5)⟩,⟨S 21,O,D 0 (.t 7)⟩,⟨S 22,O,L O (.t 21)⟩,⟨O,O,.mapUpd .string (.t 20) (.t 22) (.c (V (.bool T)))⟩])))
 (R [⟨S 23,O,.bin .add 3 T (.t 16) (.c (V (I .i64 1)))⟩,⟨S 16,O,.mv (.t 23)⟩]))))
def vW:ACode:=.loop qI
def kf:ACode:=(Q (R [⟨S 28,O,.bin .lss 3 F (.t 27) (.t 26)⟩])
 (Q (C (.t 28) .skip (.exit 2))
 (Q (.block 3 (Q (R [⟨S 29,O,X 2 (.t 25) (.t 27)⟩,⟨S 30,O,L (S 2) (.t 29)⟩,⟨S 9,O,.alloc [V (G ⟨#[]⟩),V (.slice O 0 0)]⟩,⟨O,O,.store 2 (.t 9) (.t 30)⟩])
 (Q (R [⟨S 31,O,.mv (.t 5)⟩,⟨S 32,O,D 0 (.t 9)⟩,⟨S 33,O,L O (.t 32)⟩,⟨S 34,O,.lookup .string (V (.bool F)) (.t 31) (.t 33) F⟩,⟨S 35,O,.un .not (.t 34)⟩])
 (C (.t 35) (Q (R [⟨S 4,O,.mv (.c (V (I .i64 5)))⟩])
 .ret) .skip))))
 (R [⟨S 36,O,.bin .add 3 T (.t 27) (.c (V (I .i64 1)))⟩,⟨S 27,O,.mv (.t 36)⟩]))))
def vV:ACode:=.loop kf
def f18_o2:List DOp:=[⟨⟨S 49,O,D 1 (.t 2)⟩,[2],[]⟩,⟨⟨S 50,O,L O (.t 49)⟩,[49],[]⟩,⟨⟨S 51,O,.mv (.t 10)⟩,[10],[0,1]⟩,⟨⟨S 52,O,X 2 (.t 50) (.t 51)⟩,[50,51],[]⟩,⟨⟨S 53,O,D 1 (.t 52)⟩,[52],[]⟩,⟨⟨S 54,O,L O (.t 53)⟩,[53],[]⟩,⟨⟨S 55,O,D 0 (.t 2)⟩,[2],[0,1,2,3,4,5]⟩,⟨⟨S 56,O,L O (.t 55)⟩,[55],[0,1,2,3,4,5]⟩,⟨⟨S 57,O,.build [V (.slice O 0 0),V (.slice O 0 0),V (.slice O 0 0)] [(0,1,(.t 54)),(1,1,(.t 56))]⟩,[54,56],[]⟩,⟨⟨S 58,O,D 1 (.t 11)⟩,[11],[0,1,2,3,4,5,6,7,8]⟩,⟨⟨S 59,O,L (S 4) (.t 58)⟩,[58],[0,1,2,3,4,5,6,7,8]⟩,⟨⟨S 60,O,.call 23 [.t 57,.t 59]⟩,[57,59],[]⟩,⟨⟨S 12,O,.mv (.t 60)⟩,[60],[]⟩]
def f18_d2:ACode:=.draw f18_o2
def qH:ACode:=(Q (R [⟨S 45,O,.bin .lss 3 F (.t 44) (.t 43)⟩])
 (Q (C (.t 45) .skip (.exit 4))
 (Q (.block 5 (Q (R [⟨S 46,O,.mv (.t 44)⟩,⟨S 47,O,X 5 (.t 42) (.t 44)⟩,⟨S 48,O,L (S 5) (.t 47)⟩,⟨S 11,O,.alloc [V (G ⟨#[]⟩),V (I .i64 0),V (G ⟨#[]⟩),V (I .i64 0),V (.slice O 0 0)]⟩,⟨S 10,O,.mv (.t 46)⟩,⟨O,O,.store 5 (.t 11) (.t 48)⟩])
 (Q f18_d2
 (Q (R [⟨S 61,O,.mv (.t 12)⟩,⟨S 62,O,.bin .neq 29 T (.t 61) (.c (V (I .i64 0)))⟩])
 (C (.t 62) (Q (R [⟨S 63,O,.mv (.t 12)⟩,⟨S 4,O,.mv (.t 63)⟩])
 .ret) .skip)))))
 (R [⟨S 64,O,.bin .add 3 T (.t 44) (.c (V (I .i64 1)))⟩,⟨S 44,O,.mv (.t 64)⟩]))))
def vU:ACode:=.loop qH
def f18:ACode:=(Q (R [⟨S 2,O,.box (.t 0)⟩,⟨S 4,O,.mv (.c (V (I .i64 0)))⟩])
 (Q (R [⟨S 13,O,.mkMap⟩,⟨S 5,O,.mv (.t 13)⟩])
 (Q (Q (R [⟨S 14,O,.mv (.t 1)⟩,⟨S 15,O,.lenS (.t 14)⟩,⟨S 16,O,.mv (.c (V (I .i64 0)))⟩])
 (.block 0 vW))
 (Q (Q (R [⟨S 24,O,D 1 (.t 2)⟩,⟨S 25,O,L O (.t 24)⟩,⟨S 26,O,.lenS (.t 25)⟩,⟨S 27,O,.mv (.c (V (I .i64 0)))⟩])
 (.block 2 vV))
 (Q (Q (R [⟨S 37,O,D 1 (.t 2)⟩,⟨S 38,O,L O (.t 37)⟩,⟨S 39,O,.mv (.t 1)⟩,⟨S 40,O,.call 43 [.t 38,.t 39,(.c (.fn (.func 44) [] []))]⟩,⟨S 41,O,.un .not (.t 40)⟩])
 (C (.t 41) (Q (R [⟨S 4,O,.mv (.c (V (I .i64 9)))⟩])
 .ret) .skip))
 (Q (Q (R [⟨S 42,O,.mv (.t 1)⟩,⟨S 43,O,.lenS (.t 42)⟩,⟨S 44,O,.mv (.c (V (I .i64 0)))⟩])
 (.block 4 vU))
 (Q (R [⟨S 4,O,.mv (.c (V (I .i64 0)))⟩])
 .ret)))))))
def f18_fn:AFun:=⟨f18,[.tmp 4]⟩
theorem f18_ok:funOf Tryz.prog 18=some f18_fn:=by kernel_rfl
def vS:List DOp:=[⟨⟨S 10,O,D 0 (.t 5)⟩,[5],[]⟩,⟨⟨S 11,O,L O (.t 10)⟩,[10],[]⟩,⟨⟨S 12,O,.call 45 [.t 11]⟩,[11],[]⟩,⟨⟨S 13,O,D 2 (.t 5)⟩,[5],[0,1,2]⟩,⟨⟨S 14,O,L (S 4) (.t 13)⟩,[13],[0,1,2]⟩,⟨⟨S 15,O,D 1 (.t 3)⟩,[3],[0,1,2,3,4]⟩,⟨⟨S 16,O,L O (.t 15)⟩,[15],[0,1,2,3,4]⟩,⟨⟨S 17,O,.mv (.t 1)⟩,[1],[0,1,2,3,4,5,6]⟩,⟨⟨S 18,O,.call 46 [.t 14,.t 16,.t 17]⟩,[14,16,17],[]⟩,⟨⟨S 19,O,D 6 (.t 5)⟩,[5],[0,1,2,3,4,5,6,7,8]⟩,⟨⟨S 20,O,L O (.t 19)⟩,[19],[0,1,2,3,4,5,6,7,8]⟩,⟨⟨S 21,O,.build [V (.slice O 0 0),V (.slice O 0 0),V (I .i64 0),V (G ⟨#[]⟩),V (I .i64 0),V (.slice O 0 0),V (I .i64 0)] [(0,1,(.t 12)),(2,4,(.t 18)),(6,1,(.t 20))]⟩,[12,18,20],[]⟩,⟨⟨S 7,O,.alloc [V (.slice O 0 0),V (.slice O 0 0),V (I .i64 0),V (G ⟨#[]⟩),V (I .i64 0),V (.slice O 0 0),V (I .i64 0)]⟩,[],[0,1,2,3,4,5,6,7,8,9,10,11]⟩,⟨⟨O,O,.store 7 (.t 7) (.t 21)⟩,[7,21],[]⟩]
def f19_d0:ACode:=.draw vS
def vR:List DOp:=[⟨⟨S 29,O,D 1 (.t 7)⟩,[7],[]⟩,⟨⟨S 30,O,L O (.t 29)⟩,[29],[]⟩,⟨⟨S 31,O,L (S 4) (.t 9)⟩,[9],[0,1]⟩,⟨⟨S 32,O,D 1 (.t 3)⟩,[3],[0,1,2]⟩,⟨⟨S 33,O,L O (.t 32)⟩,[32],[0,1,2]⟩,⟨⟨S 34,O,.mv (.t 1)⟩,[1],[0,1,2,3,4]⟩,⟨⟨S 35,O,.call 46 [.t 31,.t 33,.t 34]⟩,[31,33,34],[0,1]⟩,⟨⟨S 36,O,.buildSlice 4 1 [V (I .i64 0),V (G ⟨#[]⟩),V (I .i64 0),V (.slice O 0 0)] [(0,4,(.t 35))]⟩,[35],[0,1]⟩,⟨⟨S 37,O,A 4 56 (.t 30) (.t 36)⟩,[30,36],[]⟩,⟨⟨S 38,O,D 1 (.t 7)⟩,[7],[]⟩,⟨⟨O,O,.store 1 (.t 38) (.t 37)⟩,[38,37],[]⟩]
def f19_d1:ACode:=.draw vR
def qG:ACode:=(Q (R [⟨S 26,O,.bin .lss 3 F (.t 25) (.t 24)⟩])
 (Q (C (.t 26) .skip (.exit 0))
 (Q (.block 1 (Q (R [⟨S 27,O,X 4 (.t 23) (.t 25)⟩,⟨S 28,O,L (S 4) (.t 27)⟩,⟨S 9,O,.alloc [V (I .i64 0),V (G ⟨#[]⟩),V (I .i64 0),V (.slice O 0 0)]⟩,⟨O,O,.store 4 (.t 9) (.t 28)⟩])
 f19_d1))
 (R [⟨S 39,O,.bin .add 3 T (.t 25) (.c (V (I .i64 1)))⟩,⟨S 25,O,.mv (.t 39)⟩]))))
def vT:ACode:=.loop qG
def f19:ACode:=(Q (R [⟨S 3,O,.box (.t 0)⟩,⟨S 5,O,.box (.t 2)⟩,⟨S 6,O,.alloc [V (.slice O 0 0),V (.slice O 0 0),V (I .i64 0),V (G ⟨#[]⟩),V (I .i64 0),V (.slice O 0 0),V (I .i64 0)]⟩])
 (Q f19_d0
 (Q (Q (R [⟨S 22,O,D 1 (.t 5)⟩,⟨S 23,O,L O (.t 22)⟩,⟨S 24,O,.lenS (.t 23)⟩,⟨S 25,O,.mv (.c (V (I .i64 0)))⟩])
 (.block 0 vT))
 (Q (R [⟨S 40,O,L (S 7) (.t 7)⟩,⟨O,O,.store 7 (.t 6) (.t 40)⟩])
 .ret))))
def f19_fn:AFun:=⟨f19,[.cell 6 (S 7)]⟩
theorem f19_ok:funOf Tryz.prog 19=some f19_fn:=by kernel_rfl
def f20:ACode:=(Q (R [⟨S 1,O,.box (.t 0)⟩,⟨S 2,O,.mv (.c (V (.slice O 0 0)))⟩])
 (Q (R [⟨S 3,O,L (S 4) (.t 1)⟩,⟨S 4,O,.call 47 [.t 3,.c (V (I .i64 5)),.c (V (.slice O 0 0))]⟩,⟨S 2,O,.mv (.t 4)⟩])
 .ret))
def f20_fn:AFun:=⟨f20,[.tmp 2]⟩
theorem f20_ok:funOf Tryz.prog 20=some f20_fn:=by kernel_rfl
def qE:ACode:=(Q (R [⟨S 10,O,.bin .lss 3 F (.t 9) (.t 8)⟩])
 (Q (C (.t 10) .skip (.exit 0))
 (Q (.block 1 (Q (R [⟨S 11,O,X 4 (.t 7) (.t 9)⟩,⟨S 12,O,L (S 4) (.t 11)⟩,⟨S 5,O,.alloc [V (I .i64 0),V (G ⟨#[]⟩),V (I .i64 0),V (.slice O 0 0)]⟩,⟨O,O,.store 4 (.t 5) (.t 12)⟩])
 (R [⟨S 13,O,.mv (.t 3)⟩,⟨S 14,O,L (S 4) (.t 5)⟩,⟨S 15,O,.call 21 [.t 14]⟩,⟨S 16,O,.bin .add 3 F (.t 13) (.t 15)⟩,⟨S 3,O,.mv (.t 16)⟩])))
 (R [⟨S 17,O,.bin .add 3 T (.t 9) (.c (V (I .i64 1)))⟩,⟨S 9,O,.mv (.t 17)⟩]))))
def vQ:ACode:=.loop qE
def f21:ACode:=(Q (R [⟨S 1,O,.box (.t 0)⟩,⟨S 2,O,.mv (.c (V (I .i64 0)))⟩])
 (Q (R [⟨S 3,O,.mv (.c (V (I .i64 1)))⟩])
 (Q (Q (R [⟨S 6,O,D 3 (.t 1)⟩,⟨S 7,O,L O (.t 6)⟩,⟨S 8,O,.lenS (.t 7)⟩,⟨S 9,O,.mv (.c (V (I .i64 0)))⟩])
 (.block 0 vQ))
 (Q (R [⟨S 18,O,.mv (.t 3)⟩,⟨S 2,O,.mv (.t 18)⟩])
 .ret))))
def f21_fn:AFun:=⟨f21,[.tmp 2]⟩
theorem f21_ok:funOf Tryz.prog 21=some f21_fn:=by kernel_rfl
def qD:ACode:=(Q (R [⟨S 10,O,.bin .lss 3 F (.t 9) (.t 8)⟩])
 (Q (C (.t 10) .skip (.exit 0))
 (Q (.block 1 (Q (R [⟨S 11,O,X 4 (.t 7) (.t 9)⟩,⟨S 12,O,L (S 4) (.t 11)⟩,⟨S 5,O,.alloc [V (I .i64 0),V (G ⟨#[]⟩),V (I .i64 0),V (.slice O 0 0)]⟩,⟨O,O,.store 4 (.t 5) (.t 12)⟩])
 (R [⟨S 13,O,.mv (.t 3)⟩,⟨S 14,O,L (S 4) (.t 5)⟩,⟨S 15,O,.call 22 [.t 14]⟩,⟨S 16,O,.maxI [.t 13,.t 15]⟩,⟨S 3,O,.mv (.t 16)⟩])))
 (R [⟨S 17,O,.bin .add 3 T (.t 9) (.c (V (I .i64 1)))⟩,⟨S 9,O,.mv (.t 17)⟩]))))
def vP:ACode:=.loop qD
def f22:ACode:=(Q (R [⟨S 1,O,.box (.t 0)⟩,⟨S 2,O,.mv (.c (V (I .i64 0)))⟩])
 (Q (R [⟨S 3,O,.mv (.c (V (I .i64 0)))⟩])
 (Q (Q (R [⟨S 6,O,D 3 (.t 1)⟩,⟨S 7,O,L O (.t 6)⟩,⟨S 8,O,.lenS (.t 7)⟩,⟨S 9,O,.mv (.c (V (I .i64 0)))⟩])
 (.block 0 vP))
 (Q (R [⟨S 18,O,.mv (.t 3)⟩,⟨S 19,O,.bin .add 3 T (.t 18) (.c (V (I .i64 1)))⟩,⟨S 2,O,.mv (.t 19)⟩])
 .ret))))
def f22_fn:AFun:=⟨f22,[.tmp 2]⟩
theorem f22_ok:funOf Tryz.prog 22=some f22_fn:=by kernel_rfl
def f23:ACode:=(Q (R [⟨S 2,O,.box (.t 0)⟩,⟨S 3,O,.box (.t 1)⟩,⟨S 4,O,.mv (.c (V (I .i64 0)))⟩])
 (Q (Q (R [⟨S 7,O,L (S 4) (.t 3)⟩,⟨S 8,O,.build [V (I .i64 0),V (G ⟨#[]⟩),V (I .i64 0),V (.slice O 0 0)] []⟩,⟨S 9,O,.call 48 [.t 7,.t 8]⟩])
 (C (.t 9) (Q (R [⟨S 4,O,.mv (.c (V (I .i64 0)))⟩])
 .ret) .skip))
 (Q (R [⟨S 11,O,L (S 3) (.t 2)⟩,⟨S 12,O,L (S 4) (.t 3)⟩,⟨S 13,O,.call 49 [.t 11,.t 12]⟩,⟨S 10,O,.mv (.t 13)⟩,⟨S 14,O,.extract 0 (.t 10)⟩,⟨S 15,O,.extract 1 (.t 10)⟩,⟨S 5,O,.mv (.t 14)⟩,⟨S 6,O,.mv (.t 15)⟩])
 (Q (Q (R [⟨S 16,O,.mv (.t 6)⟩,⟨S 17,O,.bin .eql 29 T (.t 16) (.c (V (I .i64 0)))⟩,⟨S 18,O,.mv (.t 17)⟩,⟨S 19,S (18,T),.mv (.t 5)⟩,⟨S 20,S (18,T),.bin .neq 79 T (.t 19) (.c (V (G ⟨#[66,111,111,108]⟩)))⟩,⟨S 21,O,.pick (.t 18) (.t 20) (.c (V (.bool F)))⟩])
 (C (.t 21) (Q (R [⟨S 4,O,.mv (.c (V (I .i64 11)))⟩])
 .ret) .skip))
 (Q (R [⟨S 22,O,.mv (.t 6)⟩,⟨S 4,O,.mv (.t 22)⟩])
 .ret)))))
def qC:AFun:=⟨f23,[.tmp 4]⟩
theorem f23_ok:funOf Tryz.prog 23=some qC:=by kernel_rfl
def vO:List DOp:=[⟨⟨S 5,O,D 0 (.t 3)⟩,[3],[]⟩,⟨⟨S 6,O,L O (.t 5)⟩,[5],[]⟩,⟨⟨S 7,O,.call 45 [.t 6]⟩,[6],[]⟩,⟨⟨S 8,O,D 0 (.t 2)⟩,[2],[0,1,2]⟩,⟨⟨S 9,O,L O (.t 8)⟩,[8],[0,1,2]⟩,⟨⟨S 10,O,.call 50 [.t 9]⟩,[9],[]⟩,⟨⟨S 11,O,D 1 (.t 2)⟩,[2],[0,1,2,3,4,5]⟩,⟨⟨S 12,O,L O (.t 11)⟩,[11],[0,1,2,3,4,5]⟩,⟨⟨S 13,O,.call 51 [.t 12]⟩,[12],[]⟩,⟨⟨S 14,O,.build [V (.slice O 0 0),V (.slice O 0 0),V (.slice O 0 0)] [(0,1,(.t 7)),(1,1,(.t 10)),(2,1,(.t 13))]⟩,[7,10,13],[]⟩,⟨⟨O,O,.store 3 (.t 4) (.t 14)⟩,[4,14],[]⟩]
def f24_d0:ACode:=.draw vO
def f24:ACode:=(Q (R [⟨S 2,O,.box (.t 0)⟩,⟨S 3,O,.box (.t 1)⟩,⟨S 4,O,.alloc [V (.slice O 0 0),V (.slice O 0 0),V (.slice O 0 0)]⟩])
 (Q f24_d0
 .ret))
def f24_fn:AFun:=⟨f24,[.cell 4 (S 3)]⟩
theorem f24_ok:funOf Tryz.prog 24=some f24_fn:=by kernel_rfl
def ke:ACode:=(Q (Q (R [⟨S 12,O,.mv (.t 4)⟩,⟨S 13,O,D 2 (.t 1)⟩,⟨S 14,O,L O (.t 13)⟩,⟨S 15,O,.mv (.t 3)⟩,⟨S 16,O,X 7 (.t 14) (.t 15)⟩,⟨S 17,O,D 1 (.t 16)⟩,⟨S 18,O,L O (.t 17)⟩,⟨S 19,O,.lenS (.t 18)⟩,⟨S 20,O,.bin .lss 3 F (.t 12) (.t 19)⟩])
 (C (.t 20) .skip (.exit 2)))
 (Q (.block 3 (Q (R [⟨S 23,O,D 2 (.t 1)⟩,⟨S 24,O,L O (.t 23)⟩,⟨S 25,O,.mv (.t 3)⟩,⟨S 26,O,X 7 (.t 24) (.t 25)⟩,⟨S 27,O,D 1 (.t 26)⟩,⟨S 28,O,L O (.t 27)⟩,⟨S 29,O,.mv (.t 4)⟩,⟨S 30,O,X 4 (.t 28) (.t 29)⟩,⟨S 31,O,L (S 4) (.t 30)⟩,⟨S 32,O,.call 53 [.t 31]⟩,⟨S 33,O,.bin .gtr 3 T (.t 32) (.c (V (I .i64 2)))⟩])
 (C (.t 33) (Q (R [⟨S 2,O,.mv (.c (V (.bool F)))⟩])
 .ret) .skip)))
 (R [⟨S 21,O,.mv (.t 4)⟩,⟨S 22,O,.bin .add 3 T (.t 21) (.c (V (I .i64 1)))⟩,⟨S 4,O,.mv (.t 22)⟩])))
def vN:ACode:=.loop ke
def qB:ACode:=(Q (Q (R [⟨S 5,O,.mv (.t 3)⟩,⟨S 6,O,D 2 (.t 1)⟩,⟨S 7,O,L O (.t 6)⟩,⟨S 8,O,.lenS (.t 7)⟩,⟨S 9,O,.bin .lss 3 F (.t 5) (.t 8)⟩])
 (C (.t 9) .skip (.exit 0)))
 (Q (.block 1 (Q (Q (R [⟨S 4,O,.mv (.c (V (I .i64 0)))⟩])
 (.block 2 vN))
 (Q (R [⟨S 34,O,D 2 (.t 1)⟩,⟨S 35,O,L O (.t 34)⟩,⟨S 36,O,.mv (.t 3)⟩,⟨S 37,O,X 7 (.t 35) (.t 36)⟩,⟨S 38,O,D 2 (.t 37)⟩,⟨S 39,O,L (S 4) (.t 38)⟩,⟨S 40,O,.call 53 [.t 39]⟩,⟨S 41,O,.bin .gtr 3 T (.t 40) (.c (V (I .i64 2)))⟩])
 (C (.t 41) (Q (R [⟨S 2,O,.mv (.c (V (.bool F)))⟩])
 .ret) .skip))))
 (R [⟨S 10,O,.mv (.t 3)⟩,⟨S 11,O,.bin .add 3 T (.t 10) (.c (V (I .i64 1)))⟩,⟨S 3,O,.mv (.t 11)⟩])))
def vM:ACode:=.loop qB
def f26:ACode:=(Q (R [⟨S 1,O,.box (.t 0)⟩,⟨S 2,O,.mv (.c (V (.bool F)))⟩])
 (Q (Q (R [⟨S 3,O,.mv (.c (V (I .i64 0)))⟩])
 (.block 0 vM))
 (Q (R [⟨S 2,O,.mv (.c (V (.bool T)))⟩])
 .ret)))
def f26_fn:AFun:=⟨f26,[.tmp 2]⟩
theorem f26_ok:funOf Tryz.prog 26=some f26_fn:=by kernel_rfl
def f27:ACode:=(Q (R [⟨S 4,O,.mv (.c (V (.bool F)))⟩])
 (Q (R [⟨S 5,O,.mv (.t 0)⟩,⟨S 6,O,.build [V (I .i64 0),V (G ⟨#[]⟩),V (.slice O 0 0),V (.slice O 0 0),V (I .i64 0),V (G ⟨#[]⟩),V (I .i64 0),V (.slice O 0 0),V (.slice O 0 0)] [(8,1,(.t 5))]⟩,⟨S 7,O,.buildSlice 9 1 [V (I .i64 0),V (G ⟨#[]⟩),V (.slice O 0 0),V (.slice O 0 0),V (I .i64 0),V (G ⟨#[]⟩),V (I .i64 0),V (.slice O 0 0),V (.slice O 0 0)] [(0,9,(.t 6))]⟩,⟨S 8,O,.build [V (I .i64 0),V (G ⟨#[]⟩),V (I .i64 0),V (.slice O 0 0),V (.slice O 0 0),V (.slice O 0 0),V (.slice O 0 0)] [(6,1,(.t 7))]⟩,⟨S 9,O,.mv (.t 1)⟩,⟨S 10,O,.call 54 [.t 8,.t 9]⟩,⟨S 11,O,.mv (.t 1)⟩,⟨S 12,O,.bin .leq 3 F (.t 10) (.t 11)⟩,⟨S 4,O,.mv (.t 12)⟩])
 .ret))
def f27_fn:AFun:=⟨f27,[.tmp 4]⟩
theorem f27_ok:funOf Tryz.prog 27=some f27_fn:=by kernel_rfl
def f33:ACode:=(Q (R [⟨S 1,O,.box (.t 0)⟩,⟨S 2,O,.mv (.c (V (I .i64 0)))⟩])
 (Q (Q (R [⟨S 5,O,D 0 (.t 1)⟩,⟨S 6,O,L O (.t 5)⟩,⟨S 7,O,.call 57 [.t 6]⟩,⟨S 3,O,.mv (.t 7)⟩])
 (Q (R [⟨S 8,O,.mv (.t 3)⟩,⟨S 9,O,.bin .neq 29 T (.t 8) (.c (V (I .i64 0)))⟩])
 (C (.t 9) (Q (R [⟨S 10,O,.mv (.t 3)⟩,⟨S 2,O,.mv (.t 10)⟩])
 .ret) .skip)))
 (Q (Q (R [⟨S 11,O,D 1 (.t 1)⟩,⟨S 12,O,L O (.t 11)⟩,⟨S 13,O,.call 58 [.t 12]⟩,⟨S 4,O,.mv (.t 13)⟩])
 (Q (R [⟨S 14,O,.mv (.t 4)⟩,⟨S 15,O,.bin .neq 29 T (.t 14) (.c (V (I .i64 0)))⟩])
 (C (.t 15) (Q (R [⟨S 16,O,.mv (.t 4)⟩,⟨S 2,O,.mv (.t 16)⟩])
 .ret) .skip)))
 (Q (R [⟨S 17,O,D 2 (.t 1)⟩,⟨S 18,O,L O (.t 17)⟩,⟨S 19,O,.call 59 [.t 18]⟩,⟨S 2,O,.mv (.t 19)⟩])
 .ret))))
def vL:AFun:=⟨f33,[.tmp 2]⟩
theorem f33_ok:funOf Tryz.prog 33=some vL:=by kernel_rfl
def iT:List DOp:=[⟨⟨S 27,O,L (S 3) (.t 6)⟩,[6],[]⟩,⟨⟨S 28,O,L (S 4) (.t 8)⟩,[8],[0]⟩,⟨⟨S 29,O,L (S 4) (.t 8)⟩,[8],[0,1]⟩,⟨⟨S 30,O,.call 61 [.t 29]⟩,[29],[0,1]⟩,⟨⟨S 31,O,.call 60 [.t 27,.t 28,.t 30]⟩,[27,28,30],[]⟩,⟨⟨S 9,O,.mv (.t 31)⟩,[31],[]⟩]
def f34_d0:ACode:=.draw iT
def py:ACode:=(Q (R [⟨S 24,O,.bin .lss 3 F (.t 23) (.t 22)⟩])
 (Q (C (.t 24) .skip (.exit 0))
 (Q (.block 1 (Q (R [⟨S 25,O,X 4 (.t 21) (.t 23)⟩,⟨S 26,O,L (S 4) (.t 25)⟩,⟨S 8,O,.alloc [V (I .i64 0),V (G ⟨#[]⟩),V (I .i64 0),V (.slice O 0 0)]⟩,⟨O,O,.store 4 (.t 8) (.t 26)⟩])
 (Q f34_d0
 (Q (R [⟨S 32,O,.mv (.t 9)⟩,⟨S 33,O,.bin .neq 29 T (.t 32) (.c (V (I .i64 0)))⟩])
 (C (.t 33) (Q (R [⟨S 34,O,.mv (.t 9)⟩,⟨S 4,O,.mv (.t 34)⟩])
 .ret) .skip)))))
 (R [⟨S 35,O,.bin .add 3 T (.t 23) (.c (V (I .i64 1)))⟩,⟨S 23,O,.mv (.t 35)⟩]))))
def vJ:ACode:=.loop py
def f34:ACode:=(Q (R [⟨S 2,O,.box (.t 0)⟩,⟨S 3,O,.box (.t 1)⟩,⟨S 4,O,.mv (.c (V (I .i64 0)))⟩])
 (Q (Q (R [⟨S 10,O,D 0 (.t 3)⟩,⟨S 11,O,L O (.t 10)⟩,⟨S 12,O,.build [V (.slice O 0 0),V (.slice O 0 0),V (.slice O 0 0)] [(0,1,(.t 11))]⟩,⟨S 13,O,.call 33 [.t 12]⟩,⟨S 5,O,.mv (.t 13)⟩])
 (Q (R [⟨S 14,O,.mv (.t 5)⟩,⟨S 15,O,.bin .neq 29 T (.t 14) (.c (V (I .i64 0)))⟩])
 (C (.t 15) (Q (R [⟨S 16,O,.mv (.t 5)⟩,⟨S 4,O,.mv (.t 16)⟩])
 .ret) .skip)))
 (Q (R [⟨S 17,O,L (S 3) (.t 2)⟩,⟨S 18,O,L (S 7) (.t 3)⟩,⟨S 19,O,.call 24 [.t 17,.t 18]⟩,⟨S 6,O,.alloc [V (.slice O 0 0),V (.slice O 0 0),V (.slice O 0 0)]⟩,⟨O,O,.store 3 (.t 6) (.t 19)⟩])
 (Q (Q (R [⟨S 20,O,D 1 (.t 3)⟩,⟨S 21,O,L O (.t 20)⟩,⟨S 22,O,.lenS (.t 21)⟩,⟨S 23,O,.mv (.c (V (I .i64 0)))⟩])
 (.block 0 vJ))
 (Q (R [⟨S 36,O,L (S 3) (.t 6)⟩,⟨S 37,O,D 2 (.t 3)⟩,⟨S 38,O,L (S 4) (.t 37)⟩,⟨S 39,O,D 2 (.t 3)⟩,⟨S 40,O,L (S 4) (.t 39)⟩,⟨S 41,O,.buildSlice 4 1 [V (I .i64 0),V (G ⟨#[]⟩),V (I .i64 0),V (.slice O 0 0)] [(0,4,(.t 40))]⟩,⟨S 42,O,.call 60 [.t 36,.t 38,.t 41]⟩,⟨S 4,O,.mv (.t 42)⟩])
 .ret)))))
def vK:AFun:=⟨f34,[.tmp 4]⟩
theorem f34_ok:funOf Tryz.prog 34=some vK:=by kernel_rfl
def f41:ACode:=(Q (R [⟨S 4,O,.mv (.c (V (I .i64 0)))⟩])
 (Q (R [⟨S 5,O,.mv (.t 0)⟩,⟨S 6,O,.mv (.t 1)⟩,⟨S 7,O,.call 72 [.t 5,.t 6]⟩,⟨S 4,O,.mv (.t 7)⟩])
 .ret))
def f41_fn:AFun:=⟨f41,[.tmp 4]⟩
theorem f41_ok:funOf Tryz.prog 41=some f41_fn:=by kernel_rfl
def pw:ACode:=(Q (R [⟨S 9,O,.bin .lss 3 F (.t 8) (.t 7)⟩])
 (Q (C (.t 9) .skip (.exit 0))
 (Q (.block 1 (Q (R [⟨S 10,O,.mv (.t 8)⟩,⟨S 5,O,.mv (.t 10)⟩])
 (Q (R [⟨S 11,O,.mv (.t 0)⟩,⟨S 12,O,.mv (.t 5)⟩,⟨S 13,O,X 1 (.t 11) (.t 12)⟩,⟨S 14,O,L O (.t 13)⟩,⟨S 15,O,.mv (.t 1)⟩,⟨S 16,O,.bin .eql 9 F (.t 14) (.t 15)⟩])
 (C (.t 16) (Q (R [⟨S 17,O,.mv (.t 5)⟩,⟨S 4,O,.mv (.t 17)⟩])
 .ret) .skip))))
 (R [⟨S 18,O,.bin .add 3 T (.t 8) (.c (V (I .i64 1)))⟩,⟨S 8,O,.mv (.t 18)⟩]))))
def vI:ACode:=.loop pw
def f42:ACode:=(Q (R [⟨S 4,O,.mv (.c (V (I .i64 0)))⟩])
 (Q (Q (R [⟨S 6,O,.mv (.t 0)⟩,⟨S 7,O,.lenS (.t 6)⟩,⟨S 8,O,.mv (.c (V (I .i64 0)))⟩])
 (.block 0 vI))
 (Q (R [⟨S 4,O,.mv (.c (V (I .i64 (-1))))⟩])
 .ret)))
def f42_fn:AFun:=⟨f42,[.tmp 4]⟩
theorem f42_ok:funOf Tryz.prog 42=some f42_fn:=by kernel_rfl
def kd:ACode:=(Q (R [⟨S 18,O,.bin .lss 3 F (.t 17) (.t 16)⟩])
 (Q (C (.t 18) .skip (.exit 0))
 (Q (.block 1 (Q (R [⟨S 19,O,.mv (.t 17)⟩,⟨S 20,O,X 2 (.t 15) (.t 17)⟩,⟨S 21,O,L (S 2) (.t 20)⟩,⟨S 8,O,.alloc [V (G ⟨#[]⟩),V (.slice O 0 0)]⟩,⟨S 7,O,.mv (.t 19)⟩,⟨O,O,.store 2 (.t 8) (.t 21)⟩])
 (Q (R [⟨S 22,O,.mv (.t 1)⟩,⟨S 23,O,.mv (.t 7)⟩,⟨S 24,O,X 5 (.t 22) (.t 23)⟩,⟨S 25,O,L (S 5) (.t 24)⟩,⟨S 9,O,.alloc [V (G ⟨#[]⟩),V (I .i64 0),V (G ⟨#[]⟩),V (I .i64 0),V (.slice O 0 0)]⟩,⟨O,O,.store 5 (.t 9) (.t 25)⟩])
 (Q (R [⟨S 26,O,.mv (.t 2)⟩,⟨S 27,O,L (S 2) (.t 8)⟩,⟨S 28,O,L (S 5) (.t 9)⟩,⟨S 29,O,.callv (.t 26) [.t 27,.t 28]⟩,⟨S 30,O,.un .not (.t 29)⟩])
 (C (.t 30) (Q (R [⟨S 6,O,.mv (.c (V (.bool F)))⟩])
 .ret) .skip)))))
 (R [⟨S 31,O,.bin .add 3 T (.t 17) (.c (V (I .i64 1)))⟩,⟨S 17,O,.mv (.t 31)⟩]))))
def vH:ACode:=.loop kd
def f43:ACode:=(Q (R [⟨S 6,O,.mv (.c (V (.bool F)))⟩])
 (Q (Q (R [⟨S 10,O,.mv (.t 0)⟩,⟨S 11,O,.lenS (.t 10)⟩,⟨S 12,O,.mv (.t 1)⟩,⟨S 13,O,.lenS (.t 12)⟩,⟨S 14,O,.bin .neq 3 F (.t 11) (.t 13)⟩])
 (C (.t 14) (Q (R [⟨S 6,O,.mv (.c (V (.bool F)))⟩])
 .ret) .skip))
 (Q (Q (R [⟨S 15,O,.mv (.t 0)⟩,⟨S 16,O,.lenS (.t 15)⟩,⟨S 17,O,.mv (.c (V (I .i64 0)))⟩])
 (.block 0 vH))
 (Q (R [⟨S 6,O,.mv (.c (V (.bool T)))⟩])
 .ret))))
def f43_fn:AFun:=⟨f43,[.tmp 6]⟩
theorem f43_ok:funOf Tryz.prog 43=some f43_fn:=by kernel_rfl
def f44:ACode:=(Q (R [⟨S 2,O,.box (.t 0)⟩,⟨S 3,O,.box (.t 1)⟩,⟨S 4,O,.mv (.c (V (.bool F)))⟩])
 (Q (R [⟨S 5,O,D 0 (.t 2)⟩,⟨S 6,O,L O (.t 5)⟩,⟨S 7,O,D 0 (.t 3)⟩,⟨S 8,O,L O (.t 7)⟩,⟨S 9,O,.bin .eql 9 F (.t 6) (.t 8)⟩,⟨S 4,O,.mv (.t 9)⟩])
 .ret))
def f44_fn:AFun:=⟨f44,[.tmp 4]⟩
theorem f44_ok:funOf Tryz.prog 44=some f44_fn:=by kernel_rfl
def f45:ACode:=(Q (R [⟨S 2,O,.mv (.c (V (.slice O 0 0)))⟩])
 (Q (Q (R [⟨S 3,O,.mv (.t 0)⟩,⟨S 4,O,.bin .eql 42 T (.t 3) (.c (V (.slice O 0 0)))⟩])
 (C (.t 4) (Q (R [⟨S 2,O,.mv (.c (V (.slice O 0 0)))⟩])
 .ret) .skip))
 (Q (R [⟨S 5,O,.buildSlice 2 0 [] []⟩,⟨S 6,O,.mv (.t 0)⟩,⟨S 7,O,A 2 32 (.t 5) (.t 6)⟩,⟨S 2,O,.mv (.t 7)⟩])
 .ret)))
def vG:AFun:=⟨f45,[.tmp 2]⟩
theorem f45_ok:funOf Tryz.prog 45=some vG:=by kernel_rfl
def vD:List DOp:=[⟨⟨S 24,O,D 3 (.t 7)⟩,[7],[]⟩,⟨⟨S 25,O,L O (.t 24)⟩,[24],[]⟩,⟨⟨S 26,O,L (S 4) (.t 9)⟩,[9],[0,1]⟩,⟨⟨S 27,O,.mv (.t 1)⟩,[1],[0,1,2]⟩,⟨⟨S 28,O,.mv (.t 2)⟩,[2],[0,1,2,3]⟩,⟨⟨S 29,O,.call 46 [.t 26,.t 27,.t 28]⟩,[26,27,28],[0,1]⟩,⟨⟨S 30,O,.buildSlice 4 1 [V (I .i64 0),V (G ⟨#[]⟩),V (I .i64 0),V (.slice O 0 0)] [(0,4,(.t 29))]⟩,[29],[0,1]⟩,⟨⟨S 31,O,A 4 56 (.t 25) (.t 30)⟩,[25,30],[]⟩,⟨⟨S 32,O,D 3 (.t 7)⟩,[7],[]⟩,⟨⟨O,O,.store 1 (.t 32) (.t 31)⟩,[32,31],[]⟩]
def f46_d0:ACode:=.draw vD
def pv:ACode:=(Q (R [⟨S 21,O,.bin .lss 3 F (.t 20) (.t 19)⟩])
 (Q (C (.t 21) .skip (.exit 0))
 (Q (.block 1 (Q (R [⟨S 22,O,X 4 (.t 18) (.t 20)⟩,⟨S 23,O,L (S 4) (.t 22)⟩,⟨S 9,O,.alloc [V (I .i64 0),V (G ⟨#[]⟩),V (I .i64 0),V (.slice O 0 0)]⟩,⟨O,O,.store 4 (.t 9) (.t 23)⟩])
 f46_d0))
 (R [⟨S 33,O,.bin .add 3 T (.t 20) (.c (V (I .i64 1)))⟩,⟨S 20,O,.mv (.t 33)⟩]))))
def vF:ACode:=.loop pv
def f46:ACode:=(Q (R [⟨S 3,O,.box (.t 0)⟩,⟨S 6,O,.alloc [V (I .i64 0),V (G ⟨#[]⟩),V (I .i64 0),V (.slice O 0 0)]⟩])
 (Q (R [⟨S 10,O,D 0 (.t 3)⟩,⟨S 11,O,L O (.t 10)⟩,⟨S 12,O,D 1 (.t 3)⟩,⟨S 13,O,L O (.t 12)⟩,⟨S 14,O,D 2 (.t 3)⟩,⟨S 15,O,L O (.t 14)⟩,⟨S 16,O,.build [V (I .i64 0),V (G ⟨#[]⟩),V (I .i64 0),V (.slice O 0 0)] [(0,1,(.t 11)),(1,1,(.t 13)),(2,1,(.t 15))]⟩,⟨S 7,O,.alloc [V (I .i64 0),V (G ⟨#[]⟩),V (I .i64 0),V (.slice O 0 0)]⟩,⟨O,O,.store 4 (.t 7) (.t 16)⟩])
 (Q (Q (R [⟨S 17,O,D 3 (.t 3)⟩,⟨S 18,O,L O (.t 17)⟩,⟨S 19,O,.lenS (.t 18)⟩,⟨S 20,O,.mv (.c (V (I .i64 0)))⟩])
 (.block 0 vF))
 (Q (Q (R [⟨S 34,O,D 0 (.t 3)⟩,⟨S 35,O,L O (.t 34)⟩,⟨S 36,O,.bin .eql 44 T (.t 35) (.c (V (I .i64 5)))⟩])
 (C (.t 36) (Q (R [⟨S 37,O,L (S 4) (.t 7)⟩,⟨S 38,O,.mv (.t 1)⟩,⟨S 39,O,.mv (.t 2)⟩,⟨S 40,O,.call 73 [.t 37,.t 38,.t 39]⟩,⟨O,O,.store 4 (.t 6) (.t 40)⟩])
 .ret) .skip))
 (Q (R [⟨S 41,O,L (S 4) (.t 7)⟩,⟨O,O,.store 4 (.t 6) (.t 41)⟩])
 .ret)))))
def f46_fn:AFun:=⟨f46,[.cell 6 (S 4)]⟩
theorem f46_ok:funOf Tryz.prog 46=some f46_fn:=by kernel_rfl
def pq:ACode:=(Q (R [⟨S 13,O,.bin .lss 3 F (.t 12) (.t 11)⟩])
 (Q (C (.t 13) .skip (.exit 0))
 (Q (.block 1 (Q (R [⟨S 14,O,X 4 (.t 10) (.t 12)⟩,⟨S 15,O,L (S 4) (.t 14)⟩,⟨S 8,O,.alloc [V (I .i64 0),V (G ⟨#[]⟩),V (I .i64 0),V (.slice O 0 0)]⟩,⟨O,O,.store 4 (.t 8) (.t 15)⟩])
 (R [⟨S 16,O,L (S 4) (.t 8)⟩,⟨S 17,O,.mv (.t 1)⟩,⟨S 18,O,.mv (.t 2)⟩,⟨S 19,O,.call 47 [.t 16,.t 17,.t 18]⟩,⟨S 2,O,.mv (.t 19)⟩])))
 (R [⟨S 20,O,.bin .add 3 T (.t 12) (.c (V (I .i64 1)))⟩,⟨S 12,O,.mv (.t 20)⟩]))))
def vC:ACode:=.loop pq
def f47:ACode:=(Q (R [⟨S 3,O,.box (.t 0)⟩,⟨S 6,O,.mv (.c (V (.slice O 0 0)))⟩])
 (Q (Q (R [⟨S 9,O,D 3 (.t 3)⟩,⟨S 10,O,L O (.t 9)⟩,⟨S 11,O,.lenS (.t 10)⟩,⟨S 12,O,.mv (.c (V (I .i64 0)))⟩])
 (.block 0 vC))
 (Q (Q (R [⟨S 21,O,D 0 (.t 3)⟩,⟨S 22,O,L O (.t 21)⟩,⟨S 23,O,.mv (.t 1)⟩,⟨S 24,O,.bin .eql 44 F (.t 22) (.t 23)⟩,⟨S 25,O,.mv (.t 24)⟩,⟨S 26,S (25,T),.mv (.t 2)⟩,⟨S 27,S (25,T),L (S 4) (.t 3)⟩,⟨S 28,S (25,T),.call 74 [.t 26,.t 27]⟩,⟨S 29,S (25,T),.un .not (.t 28)⟩,⟨S 30,O,.pick (.t 25) (.t 29) (.c (V (.bool F)))⟩])
 (C (.t 30) (R [⟨S 31,O,.mv (.t 2)⟩,⟨S 32,O,L (S 4) (.t 3)⟩,⟨S 33,O,.buildSlice 4 1 [V (I .i64 0),V (G ⟨#[]⟩),V (I .i64 0),V (.slice O 0 0)] [(0,4,(.t 32))]⟩,⟨S 34,O,A 4 56 (.t 31) (.t 33)⟩,⟨S 2,O,.mv (.t 34)⟩]) .skip))
 (Q (R [⟨S 35,O,.mv (.t 2)⟩,⟨S 6,O,.mv (.t 35)⟩])
 .ret))))
def f47_fn:AFun:=⟨f47,[.tmp 6]⟩
theorem f47_ok:funOf Tryz.prog 47=some f47_fn:=by kernel_rfl
def f48:ACode:=(Q (R [⟨S 2,O,.box (.t 0)⟩,⟨S 3,O,.box (.t 1)⟩,⟨S 4,O,.mv (.c (V (.bool F)))⟩])
 (Q (R [⟨S 5,O,D 0 (.t 2)⟩,⟨S 6,O,L O (.t 5)⟩,⟨S 7,O,D 0 (.t 3)⟩,⟨S 8,O,L O (.t 7)⟩,⟨S 9,O,.bin .eql 44 F (.t 6) (.t 8)⟩,⟨S 10,O,.mv (.t 9)⟩,⟨S 11,S (10,T),D 1 (.t 2)⟩,⟨S 12,S (10,T),L O (.t 11)⟩,⟨S 13,S (10,T),D 1 (.t 3)⟩,⟨S 14,S (10,T),L O (.t 13)⟩,⟨S 15,S (10,T),.bin .eql 9 F (.t 12) (.t 14)⟩,⟨S 16,O,.pick (.t 10) (.t 15) (.c (V (.bool F)))⟩,⟨S 17,O,.mv (.t 16)⟩,⟨S 18,S (17,T),D 2 (.t 2)⟩,⟨S 19,S (17,T),L O (.t 18)⟩,⟨S 20,S (17,T),D 2 (.t 3)⟩,⟨S 21,S (17,T),L O (.t 20)⟩,⟨S 22,S (17,T),.bin .eql 3 F (.t 19) (.t 21)⟩,⟨S 23,O,.pick (.t 17) (.t 22) (.c (V (.bool F)))⟩,⟨S 24,O,.mv (.t 23)⟩,⟨S 25,S (24,T),D 3 (.t 2)⟩,⟨S 26,S (24,T),L O (.t 25)⟩,⟨S 27,S (24,T),D 3 (.t 3)⟩,⟨S 28,S (24,T),L O (.t 27)⟩,⟨S 29,S (24,T),.call 75 [.t 26,.t 28,(.c (.fn (.func 48) [] []))]⟩,⟨S 30,O,.pick (.t 24) (.t 29) (.c (V (.bool F)))⟩,⟨S 4,O,.mv (.t 30)⟩])
 .ret))
def pp:AFun:=⟨f48,[.tmp 4]⟩
theorem f48_ok:funOf Tryz.prog 48=some pp:=by kernel_rfl
def f49:ACode:=(Q (R [⟨S 2,O,.box (.t 0)⟩,⟨S 3,O,.box (.t 1)⟩,⟨S 4,O,.mv (.c (V (G ⟨#[]⟩)))⟩,⟨S 5,O,.mv (.c (V (I .i64 0)))⟩])
 (Q (Q (R [⟨S 8,O,L (S 4) (.t 3)⟩,⟨S 9,O,.call 76 [.t 8]⟩,⟨S 6,O,.mv (.t 9)⟩])
 (Q (R [⟨S 10,O,.mv (.t 6)⟩,⟨S 11,O,.bin .neq 29 T (.t 10) (.c (V (I .i64 0)))⟩])
 (C (.t 11) (Q (R [⟨S 12,O,.mv (.t 6)⟩,⟨S 4,O,.mv (.c (V (G ⟨#[]⟩)))⟩,⟨S 5,O,.mv (.t 12)⟩])
 .ret) .skip)))
 (Q (R [⟨S 7,O,.alloc [V .nilFunc]⟩])
 (Q (R [⟨S 13,O,.mkFunc (.func 77) [] [.t 7,.t 2]⟩,⟨O,O,.store 1 (.t 7) (.t 13)⟩])
 (Q (R [⟨S 14,O,L O (.t 7)⟩,⟨S 15,O,L (S 4) (.t 3)⟩,⟨S 16,O,.callv (.t 14) [.t 15]⟩,⟨S 17,O,.extract 0 (.t 16)⟩,⟨S 18,O,.extract 1 (.t 16)⟩,⟨S 4,O,.mv (.t 17)⟩,⟨S 5,O,.mv (.t 18)⟩])
 .ret)))))
def f49_fn:AFun:=⟨f49,[.tmp 4,.tmp 5]⟩
theorem f49_ok:funOf Tryz.prog 49=some f49_fn:=by kernel_rfl
def f50:ACode:=(Q (R [⟨S 2,O,.mv (.c (V (.slice O 0 0)))⟩])
 (Q (Q (R [⟨S 3,O,.mv (.t 0)⟩,⟨S 4,O,.bin .eql 22 T (.t 3) (.c (V (.slice O 0 0)))⟩])
 (C (.t 4) (Q (R [⟨S 2,O,.mv (.c (V (.slice O 0 0)))⟩])
 .ret) .skip))
 (Q (R [⟨S 5,O,.buildSlice 3 0 [] []⟩,⟨S 6,O,.mv (.t 0)⟩,⟨S 7,O,A 3 56 (.t 5) (.t 6)⟩,⟨S 2,O,.mv (.t 7)⟩])
 .ret)))
def vB:AFun:=⟨f50,[.tmp 2]⟩
theorem f50_ok:funOf Tryz.prog 50=some vB:=by kernel_rfl
def f51:ACode:=(Q (R [⟨S 2,O,.mv (.c (V (.slice O 0 0)))⟩])
 (Q (Q (R [⟨S 3,O,.mv (.t 0)⟩,⟨S 4,O,.bin .eql 23 T (.t 3) (.c (V (.slice O 0 0)))⟩])
 (C (.t 4) (Q (R [⟨S 2,O,.mv (.c (V (.slice O 0 0)))⟩])
 .ret) .skip))
 (Q (R [⟨S 5,O,.buildSlice 2 0 [] []⟩,⟨S 6,O,.mv (.t 0)⟩,⟨S 7,O,A 2 40 (.t 5) (.t 6)⟩,⟨S 2,O,.mv (.t 7)⟩])
 .ret)))
def vA:AFun:=⟨f51,[.tmp 2]⟩
theorem zz:funOf Tryz.prog 51=some vA:=by kernel_rfl
def pn:ACode:=(Q (Q (R [⟨S 5,O,.mv (.t 4)⟩,⟨S 6,O,D 3 (.t 1)⟩,⟨S 7,O,L O (.t 6)⟩,⟨S 8,O,.lenS (.t 7)⟩,⟨S 9,O,.bin .lss 3 F (.t 5) (.t 8)⟩])
 (C (.t 9) .skip (.exit 0)))
 (Q (.block 1 (R [⟨S 12,O,.mv (.t 3)⟩,⟨S 13,O,D 3 (.t 1)⟩,⟨S 14,O,L O (.t 13)⟩,⟨S 15,O,.mv (.t 4)⟩,⟨S 16,O,X 4 (.t 14) (.t 15)⟩,⟨S 17,O,L (S 4) (.t 16)⟩,⟨S 18,O,.call 53 [.t 17]⟩,⟨S 19,O,.maxI [.t 12,.t 18]⟩,⟨S 3,O,.mv (.t 19)⟩]))
 (R [⟨S 10,O,.mv (.t 4)⟩,⟨S 11,O,.bin .add 3 T (.t 10) (.c (V (I .i64 1)))⟩,⟨S 4,O,.mv (.t 11)⟩])))
def uz:ACode:=.loop pn
def f53:ACode:=(Q (R [⟨S 1,O,.box (.t 0)⟩,⟨S 2,O,.mv (.c (V (I .i64 0)))⟩])
 (Q (R [⟨S 3,O,.mv (.c (V (I .i64 0)))⟩])
 (Q (Q (R [⟨S 4,O,.mv (.c (V (I .i64 0)))⟩])
 (.block 0 uz))
 (Q (Q (R [⟨S 20,O,D 0 (.t 1)⟩,⟨S 21,O,L O (.t 20)⟩,⟨S 22,O,.bin .eql 44 T (.t 21) (.c (V (I .i64 5)))⟩])
 (C (.t 22) (R [⟨S 23,O,.mv (.t 3)⟩,⟨S 24,O,.bin .add 3 T (.t 23) (.c (V (I .i64 1)))⟩,⟨S 3,O,.mv (.t 24)⟩]) .skip))
 (Q (R [⟨S 25,O,.mv (.t 3)⟩,⟨S 2,O,.mv (.t 25)⟩])
 .ret)))))
def f53_fn:AFun:=⟨f53,[.tmp 2]⟩
theorem f53_ok:funOf Tryz.prog 53=some f53_fn:=by kernel_rfl
def f54_o0:List DOp:=[⟨⟨S 9,O,D 1 (.t 2)⟩,[2],[]⟩,⟨⟨S 10,O,L O (.t 9)⟩,[9],[]⟩,⟨⟨S 11,O,.lenStr (.t 10)⟩,[10],[]⟩,⟨⟨S 12,O,.bin .quo 3 T (.t 11) (.c (V (I .i64 50)))⟩,[11],[]⟩,⟨⟨S 13,O,.bin .add 3 T (.c (V (I .i64 1))) (.t 12)⟩,[12],[]⟩,⟨⟨S 14,O,D 6 (.t 2)⟩,[2],[0,1,2,3,4]⟩,⟨⟨S 15,O,L O (.t 14)⟩,[14],[0,1,2,3,4]⟩,⟨⟨S 16,O,.mv (.t 1)⟩,[1],[0,1,2,3,4,5,6]⟩,⟨⟨S 17,O,.call 80 [.t 15,.t 16]⟩,[15,16],[0,1,2,3,4]⟩,⟨⟨S 18,O,.bin .add 3 F (.t 13) (.t 17)⟩,[13,17],[]⟩,⟨⟨S 5,O,.mv (.t 18)⟩,[18],[]⟩]
def f54_d0:ACode:=.draw f54_o0
def f54_o1:List DOp:=[⟨⟨S 31,O,.mv (.t 5)⟩,[5],[]⟩,⟨⟨S 32,O,.bin .add 3 T (.t 31) (.c (V (I .i64 1)))⟩,[31],[]⟩,⟨⟨S 33,O,D 4 (.t 2)⟩,[2],[0,1]⟩,⟨⟨S 34,O,L O (.t 33)⟩,[33],[0,1]⟩,⟨⟨S 35,O,.mv (.t 6)⟩,[6],[0,1,2,3]⟩,⟨⟨S 36,O,X 10 (.t 34) (.t 35)⟩,[34,35],[0,1]⟩,⟨⟨S 37,O,D 0 (.t 36)⟩,[36],[0,1]⟩,⟨⟨S 38,O,L O (.t 37)⟩,[37],[0,1]⟩,⟨⟨S 39,O,.lenStr (.t 38)⟩,[38],[0,1]⟩,⟨⟨S 40,O,.bin .quo 3 T (.t 39) (.c (V (I .i64 50)))⟩,[39],[0,1]⟩,⟨⟨S 41,O,.bin .add 3 F (.t 32) (.t 40)⟩,[32,40],[]⟩,⟨⟨S 42,O,D 4 (.t 2)⟩,[2],[0,1,2,3,4,5,6,7,8,9,10]⟩,⟨⟨S 43,O,L O (.t 42)⟩,[42],[0,1,2,3,4,5,6,7,8,9,10]⟩,⟨⟨S 44,O,.mv (.t 6)⟩,[6],[0,1,2,3,4,5,6,7,8,9,10,11,12]⟩,⟨⟨S 45,O,X 10 (.t 43) (.t 44)⟩,[43,44],[0,1,2,3,4,5,6,7,8,9,10]⟩,⟨⟨S 46,O,D 1 (.t 45)⟩,[45],[0,1,2,3,4,5,6,7,8,9,10]⟩,⟨⟨S 47,O,L (S 9) (.t 46)⟩,[46],[0,1,2,3,4,5,6,7,8,9,10]⟩,⟨⟨S 48,O,.buildSlice 9 1 [V (I .i64 0),V (G ⟨#[]⟩),V (.slice O 0 0),V (.slice O 0 0),V (I .i64 0),V (G ⟨#[]⟩),V (I .i64 0),V (.slice O 0 0),V (.slice O 0 0)] [(0,9,(.t 47))]⟩,[47],[0,1,2,3,4,5,6,7,8,9,10]⟩,⟨⟨S 49,O,.mv (.t 1)⟩,[1],[0,1,2,3,4,5,6,7,8,9,10,11,12,13,14,15,16,17]⟩,⟨⟨S 50,O,.call 80 [.t 48,.t 49]⟩,[48,49],[0,1,2,3,4,5,6,7,8,9,10]⟩,⟨⟨S 51,O,.bin .add 3 F (.t 41) (.t 50)⟩,[41,50],[]⟩,⟨⟨S 5,O,.mv (.t 51)⟩,[51],[]⟩]
def f54_d1:ACode:=.draw f54_o1
def zy:ACode:=(Q (Q (R [⟨S 19,O,.mv (.t 6)⟩,⟨S 20,O,D 4 (.t 2)⟩,⟨S 21,O,L O (.t 20)⟩,⟨S 22,O,.lenS (.t 21)⟩,⟨S 23,O,.bin .lss 3 F (.t 19) (.t 22)⟩,⟨S 24,O,.mv (.t 23)⟩,⟨S 25,S (24,T),.mv (.t 5)⟩,⟨S 26,S (24,T),.mv (.t 1)⟩,⟨S 27,S (24,T),.bin .leq 3 F (.t 25) (.t 26)⟩,⟨S 28,O,.pick (.t 24) (.t 27) (.c (V (.bool F)))⟩])
 (C (.t 28) .skip (.exit 0)))
 (Q (.block 1 f54_d1)
 (R [⟨S 29,O,.mv (.t 6)⟩,⟨S 30,O,.bin .add 3 T (.t 29) (.c (V (I .i64 1)))⟩,⟨S 6,O,.mv (.t 30)⟩])))
def f54_l2:ACode:=.loop zy
def zx:ACode:=(Q (Q (R [⟨S 52,O,.mv (.t 7)⟩,⟨S 53,O,D 3 (.t 2)⟩,⟨S 54,O,L O (.t 53)⟩,⟨S 55,O,.lenS (.t 54)⟩,⟨S 56,O,.bin .lss 3 F (.t 52) (.t 55)⟩,⟨S 57,O,.mv (.t 56)⟩,⟨S 58,S (57,T),.mv (.t 5)⟩,⟨S 59,S (57,T),.mv (.t 1)⟩,⟨S 60,S (57,T),.bin .leq 3 F (.t 58) (.t 59)⟩,⟨S 61,O,.pick (.t 57) (.t 60) (.c (V (.bool F)))⟩])
 (C (.t 61) .skip (.exit 2)))
 (Q (.block 3 (R [⟨S 64,O,.mv (.t 5)⟩,⟨S 65,O,D 3 (.t 2)⟩,⟨S 66,O,L O (.t 65)⟩,⟨S 67,O,.mv (.t 7)⟩,⟨S 68,O,X 7 (.t 66) (.t 67)⟩,⟨S 69,O,L (S 7) (.t 68)⟩,⟨S 70,O,.mv (.t 1)⟩,⟨S 71,O,.mv (.t 5)⟩,⟨S 72,O,.bin .sub 3 F (.t 70) (.t 71)⟩,⟨S 73,O,.call 54 [.t 69,.t 72]⟩,⟨S 74,O,.bin .add 3 F (.t 64) (.t 73)⟩,⟨S 5,O,.mv (.t 74)⟩]))
 (R [⟨S 62,O,.mv (.t 7)⟩,⟨S 63,O,.bin .add 3 T (.t 62) (.c (V (I .i64 1)))⟩,⟨S 7,O,.mv (.t 63)⟩])))
def f54_l3:ACode:=.loop zx
def f54_o4:List DOp:=[⟨⟨S 87,O,.mv (.t 5)⟩,[5],[]⟩,⟨⟨S 88,O,.bin .add 3 T (.t 87) (.c (V (I .i64 1)))⟩,[87],[]⟩,⟨⟨S 89,O,D 5 (.t 2)⟩,[2],[0,1]⟩,⟨⟨S 90,O,L O (.t 89)⟩,[89],[0,1]⟩,⟨⟨S 91,O,.mv (.t 8)⟩,[8],[0,1,2,3]⟩,⟨⟨S 92,O,X 9 (.t 90) (.t 91)⟩,[90,91],[0,1]⟩,⟨⟨S 93,O,D 0 (.t 92)⟩,[92],[0,1]⟩,⟨⟨S 94,O,L O (.t 93)⟩,[93],[0,1]⟩,⟨⟨S 95,O,.lenStr (.t 94)⟩,[94],[0,1]⟩,⟨⟨S 96,O,.bin .quo 3 T (.t 95) (.c (V (I .i64 50)))⟩,[95],[0,1]⟩,⟨⟨S 97,O,.bin .add 3 F (.t 88) (.t 96)⟩,[88,96],[]⟩,⟨⟨S 98,O,D 5 (.t 2)⟩,[2],[0,1,2,3,4,5,6,7,8,9,10]⟩,⟨⟨S 99,O,L O (.t 98)⟩,[98],[0,1,2,3,4,5,6,7,8,9,10]⟩,⟨⟨S 100,O,.mv (.t 8)⟩,[8],[0,1,2,3,4,5,6,7,8,9,10,11,12]⟩,⟨⟨S 101,O,X 9 (.t 99) (.t 100)⟩,[99,100],[0,1,2,3,4,5,6,7,8,9,10]⟩,⟨⟨S 102,O,D 1 (.t 101)⟩,[101],[0,1,2,3,4,5,6,7,8,9,10]⟩,⟨⟨S 103,O,L O (.t 102)⟩,[102],[0,1,2,3,4,5,6,7,8,9,10]⟩,⟨⟨S 104,O,.mv (.t 1)⟩,[1],[0,1,2,3,4,5,6,7,8,9,10,11,12,13,14,15,16]⟩,⟨⟨S 105,O,.call 81 [.t 103,.t 104]⟩,[103,104],[0,1,2,3,4,5,6,7,8,9,10]⟩,⟨⟨S 106,O,.bin .add 3 F (.t 97) (.t 105)⟩,[97,105],[]⟩,⟨⟨S 5,O,.mv (.t 106)⟩,[106],[]⟩]
def f54_d4:ACode:=.draw f54_o4
def zw:ACode:=(Q (Q (R [⟨S 75,O,.mv (.t 8)⟩,⟨S 76,O,D 5 (.t 2)⟩,⟨S 77,O,L O (.t 76)⟩,⟨S 78,O,.lenS (.t 77)⟩,⟨S 79,O,.bin .lss 3 F (.t 75) (.t 78)⟩,⟨S 80,O,.mv (.t 79)⟩,⟨S 81,S (80,T),.mv (.t 5)⟩,⟨S 82,S (80,T),.mv (.t 1)⟩,⟨S 83,S (80,T),.bin .leq 3 F (.t 81) (.t 82)⟩,⟨S 84,O,.pick (.t 80) (.t 83) (.c (V (.bool F)))⟩])
 (C (.t 84) .skip (.exit 4)))
 (Q (.block 5 (Q f54_d4
 (R [⟨S 107,O,.mv (.t 5)⟩,⟨S 108,O,D 5 (.t 2)⟩,⟨S 109,O,L O (.t 108)⟩,⟨S 110,O,.mv (.t 8)⟩,⟨S 111,O,X 9 (.t 109) (.t 110)⟩,⟨S 112,O,D 2 (.t 111)⟩,⟨S 113,O,L (S 7) (.t 112)⟩,⟨S 114,O,.mv (.t 1)⟩,⟨S 115,O,.mv (.t 5)⟩,⟨S 116,O,.bin .sub 3 F (.t 114) (.t 115)⟩,⟨S 117,O,.call 54 [.t 113,.t 116]⟩,⟨S 118,O,.bin .add 3 F (.t 107) (.t 117)⟩,⟨S 5,O,.mv (.t 118)⟩])))
 (R [⟨S 85,O,.mv (.t 8)⟩,⟨S 86,O,.bin .add 3 T (.t 85) (.c (V (I .i64 1)))⟩,⟨S 8,O,.mv (.t 86)⟩])))
def f54_l5:ACode:=.loop zw
def f54:ACode:=(Q (R [⟨S 2,O,.box (.t 0)⟩,⟨S 4,O,.mv (.c (V (I .i64 0)))⟩])
 (Q f54_d0
 (Q (Q (R [⟨S 6,O,.mv (.c (V (I .i64 0)))⟩])
 (.block 0 f54_l2))
 (Q (Q (R [⟨S 7,O,.mv (.c (V (I .i64 0)))⟩])
 (.block 2 f54_l3))
 (Q (Q (R [⟨S 8,O,.mv (.c (V (I .i64 0)))⟩])
 (.block 4 f54_l5))
 (Q (R [⟨S 119,O,.mv (.t 5)⟩,⟨S 4,O,.mv (.t 119)⟩])
 .ret))))))
def f54_fn:AFun:=⟨f54,[.tmp 4]⟩
theorem f54_ok:funOf Tryz.prog 54=some f54_fn:=by kernel_rfl
def dj:ACode:=(Q (R [⟨S 14,O,.bin .lss 3 F (.t 13) (.t 12)⟩])
 (Q (C (.t 14) .skip (.exit 0))
 (Q (.block 1 (Q (R [⟨S 15,O,X 2 (.t 11) (.t 13)⟩,⟨S 16,O,L (S 2) (.t 15)⟩,⟨S 5,O,.alloc [V (G ⟨#[]⟩),V (G ⟨#[]⟩)]⟩,⟨O,O,.store 2 (.t 5) (.t 16)⟩])
 (Q (Q (R [⟨S 17,O,D 0 (.t 5)⟩,⟨S 18,O,L O (.t 17)⟩,⟨S 19,O,.bin .neq 9 T (.t 18) (.c (V (G ⟨#[118]⟩)))⟩,⟨S 20,O,.mv (.t 19)⟩,⟨S 21,S (20,T),D 0 (.t 5)⟩,⟨S 22,S (20,T),L O (.t 21)⟩,⟨S 23,S (20,T),.call 83 [.t 22]⟩,⟨S 24,S (20,T),.bin .neq 29 T (.t 23) (.c (V (I .i64 0)))⟩,⟨S 25,O,.pick (.t 20) (.t 24) (.c (V (.bool F)))⟩])
 (C (.t 25) (Q (R [⟨S 2,O,.mv (.c (V (I .i64 3)))⟩])
 .ret) .skip))
 (Q (Q (R [⟨S 26,O,.mv (.t 3)⟩,⟨S 27,O,D 0 (.t 5)⟩,⟨S 28,O,L O (.t 27)⟩,⟨S 29,O,.lookup .string (V (.bool F)) (.t 26) (.t 28) F⟩])
 (C (.t 29) (Q (R [⟨S 2,O,.mv (.c (V (I .i64 4)))⟩])
 .ret) .skip))
 (Q (R [⟨S 30,O,.mv (.t 3)⟩,⟨S 31,O,D 0 (.t 5)⟩,⟨S 32,O,L O (.t 31)⟩,⟨O,O,.mapUpd .string (.t 30) (.t 32) (.c (V (.bool T)))⟩])
 (Q (R [⟨S 33,O,D 1 (.t 5)⟩,⟨S 34,O,L O (.t 33)⟩,⟨S 35,O,.call 84 [.t 34]⟩,⟨S 6,O,.mv (.t 35)⟩])
 (Q (R [⟨S 36,O,.mv (.t 6)⟩,⟨S 37,O,.bin .neq 29 T (.t 36) (.c (V (I .i64 0)))⟩])
 (C (.t 37) (Q (R [⟨S 38,O,.mv (.t 6)⟩,⟨S 2,O,.mv (.t 38)⟩])
 .ret) .skip))))))))
 (R [⟨S 39,O,.bin .add 3 T (.t 13) (.c (V (I .i64 1)))⟩,⟨S 13,O,.mv (.t 39)⟩]))))
def uy:ACode:=.loop dj
def f57:ACode:=(Q (R [⟨S 2,O,.mv (.c (V (I .i64 0)))⟩])
 (Q (Q (R [⟨S 7,O,.mv (.t 0)⟩,⟨S 8,O,.lenS (.t 7)⟩,⟨S 9,O,.bin .gtr 3 T (.t 8) (.c (V (I .i64 24)))⟩])
 (C (.t 9) (Q (R [⟨S 2,O,.mv (.c (V (I .i64 7)))⟩])
 .ret) .skip))
 (Q (R [⟨S 10,O,.mkMap⟩,⟨S 3,O,.mv (.t 10)⟩])
 (Q (Q (R [⟨S 11,O,.mv (.t 0)⟩,⟨S 12,O,.lenS (.t 11)⟩,⟨S 13,O,.mv (.c (V (I .i64 0)))⟩])
 (.block 0 uy))
 (Q (R [⟨S 2,O,.mv (.c (V (I .i64 0)))⟩])
 .ret)))))
def zu:AFun:=⟨f57,[.tmp 2]⟩
theorem f57_ok:funOf Tryz.prog 57=some zu:=by kernel_rfl
def fC:ACode:=(Q (R [⟨S 14,O,.bin .lss 3 F (.t 13) (.t 12)⟩])
 (Q (C (.t 14) .skip (.exit 0))
 (Q (.block 1 (Q (R [⟨S 15,O,X 3 (.t 11) (.t 13)⟩,⟨S 16,O,L (S 3) (.t 15)⟩,⟨S 5,O,.alloc [V (G ⟨#[]⟩),V (.slice O 0 0),V (G ⟨#[]⟩)]⟩,⟨O,O,.store 3 (.t 5) (.t 16)⟩])
 (Q (Q (R [⟨S 17,O,L (S 3) (.t 5)⟩,⟨S 18,O,.call 85 [.t 17]⟩,⟨S 6,O,.mv (.t 18)⟩])
 (Q (R [⟨S 19,O,.mv (.t 6)⟩,⟨S 20,O,.bin .neq 29 T (.t 19) (.c (V (I .i64 0)))⟩])
 (C (.t 20) (Q (R [⟨S 21,O,.mv (.t 6)⟩,⟨S 2,O,.mv (.t 21)⟩])
 .ret) .skip)))
 (Q (Q (R [⟨S 22,O,.mv (.t 3)⟩,⟨S 23,O,D 0 (.t 5)⟩,⟨S 24,O,L O (.t 23)⟩,⟨S 25,O,.lookup .string (V (.bool F)) (.t 22) (.t 24) F⟩])
 (C (.t 25) (Q (R [⟨S 2,O,.mv (.c (V (I .i64 4)))⟩])
 .ret) .skip))
 (R [⟨S 26,O,.mv (.t 3)⟩,⟨S 27,O,D 0 (.t 5)⟩,⟨S 28,O,L O (.t 27)⟩,⟨O,O,.mapUpd .string (.t 26) (.t 28) (.c (V (.bool T)))⟩])))))
 (R [⟨S 29,O,.bin .add 3 T (.t 13) (.c (V (I .i64 1)))⟩,⟨S 13,O,.mv (.t 29)⟩]))))
def pk:ACode:=.loop fC
def f58:ACode:=(Q (R [⟨S 2,O,.mv (.c (V (I .i64 0)))⟩])
 (Q (Q (R [⟨S 7,O,.mv (.t 0)⟩,⟨S 8,O,.lenS (.t 7)⟩,⟨S 9,O,.bin .gtr 3 T (.t 8) (.c (V (I .i64 64)))⟩])
 (C (.t 9) (Q (R [⟨S 2,O,.mv (.c (V (I .i64 7)))⟩])
 .ret) .skip))
 (Q (R [⟨S 10,O,.mkMap⟩,⟨S 3,O,.mv (.t 10)⟩])
 (Q (Q (R [⟨S 11,O,.mv (.t 0)⟩,⟨S 12,O,.lenS (.t 11)⟩,⟨S 13,O,.mv (.c (V (I .i64 0)))⟩])
 (.block 0 pk))
 (Q (R [⟨S 2,O,.mv (.c (V (I .i64 0)))⟩])
 .ret)))))
def zt:AFun:=⟨f58,[.tmp 2]⟩
theorem f58_ok:funOf Tryz.prog 58=some zt:=by kernel_rfl
def fB:ACode:=(Q (R [⟨S 14,O,.bin .lss 3 F (.t 13) (.t 12)⟩])
 (Q (C (.t 14) .skip (.exit 0))
 (Q (.block 1 (Q (R [⟨S 15,O,X 2 (.t 11) (.t 13)⟩,⟨S 16,O,L (S 2) (.t 15)⟩,⟨S 5,O,.alloc [V (G ⟨#[]⟩),V (.slice O 0 0)]⟩,⟨O,O,.store 2 (.t 5) (.t 16)⟩])
 (Q (Q (R [⟨S 17,O,D 0 (.t 5)⟩,⟨S 18,O,L O (.t 17)⟩,⟨S 19,O,.call 83 [.t 18]⟩,⟨S 20,O,.bin .neq 29 T (.t 19) (.c (V (I .i64 0)))⟩])
 (C (.t 20) (Q (R [⟨S 2,O,.mv (.c (V (I .i64 3)))⟩])
 .ret) .skip))
 (Q (Q (R [⟨S 21,O,.mv (.t 3)⟩,⟨S 22,O,D 0 (.t 5)⟩,⟨S 23,O,L O (.t 22)⟩,⟨S 24,O,.lookup .string (V (.bool F)) (.t 21) (.t 23) F⟩])
 (C (.t 24) (Q (R [⟨S 2,O,.mv (.c (V (I .i64 4)))⟩])
 .ret) .skip))
 (Q (R [⟨S 25,O,.mv (.t 3)⟩,⟨S 26,O,D 0 (.t 5)⟩,⟨S 27,O,L O (.t 26)⟩,⟨O,O,.mapUpd .string (.t 25) (.t 27) (.c (V (.bool T)))⟩])
 (Q (Q (R [⟨S 28,O,D 1 (.t 5)⟩,⟨S 29,O,L O (.t 28)⟩,⟨S 30,O,.lenS (.t 29)⟩,⟨S 31,O,.bin .eql 3 T (.t 30) (.c (V (I .i64 0)))⟩])
 (C (.t 31) (Q (R [⟨S 2,O,.mv (.c (V (I .i64 13)))⟩])
 .ret) .skip))
 (Q (R [⟨S 32,O,D 1 (.t 5)⟩,⟨S 33,O,L O (.t 32)⟩,⟨S 34,O,.call 57 [.t 33]⟩,⟨S 6,O,.mv (.t 34)⟩])
 (Q (R [⟨S 35,O,.mv (.t 6)⟩,⟨S 36,O,.bin .neq 29 T (.t 35) (.c (V (I .i64 0)))⟩])
 (C (.t 36) (Q (R [⟨S 37,O,.mv (.t 6)⟩,⟨S 2,O,.mv (.t 37)⟩])
 .ret) .skip)))))))))
 (R [⟨S 38,O,.bin .add 3 T (.t 13) (.c (V (I .i64 1)))⟩,⟨S 13,O,.mv (.t 38)⟩]))))
def ux:ACode:=.loop fB
def f59:ACode:=(Q (R [⟨S 2,O,.mv (.c (V (I .i64 0)))⟩])
 (Q (Q (R [⟨S 7,O,.mv (.t 0)⟩,⟨S 8,O,.lenS (.t 7)⟩,⟨S 9,O,.bin .gtr 3 T (.t 8) (.c (V (I .i64 40)))⟩])
 (C (.t 9) (Q (R [⟨S 2,O,.mv (.c (V (I .i64 7)))⟩])
 .ret) .skip))
 (Q (R [⟨S 10,O,.mkMap⟩,⟨S 3,O,.mv (.t 10)⟩])
 (Q (Q (R [⟨S 11,O,.mv (.t 0)⟩,⟨S 12,O,.lenS (.t 11)⟩,⟨S 13,O,.mv (.c (V (I .i64 0)))⟩])
 (.block 0 ux))
 (Q (R [⟨S 2,O,.mv (.c (V (I .i64 0)))⟩])
 .ret)))))
def zr:AFun:=⟨f59,[.tmp 2]⟩
theorem f59_ok:funOf Tryz.prog 59=some zr:=by kernel_rfl
def iS:ACode:=(Q (R [⟨S 19,O,.bin .lss 3 F (.t 18) (.t 17)⟩])
 (Q (C (.t 19) .skip (.exit 0))
 (Q (.block 1 (Q (R [⟨S 20,O,X 4 (.t 16) (.t 18)⟩,⟨S 21,O,L (S 4) (.t 20)⟩,⟨S 9,O,.alloc [V (I .i64 0),V (G ⟨#[]⟩),V (I .i64 0),V (.slice O 0 0)]⟩,⟨O,O,.store 4 (.t 9) (.t 21)⟩])
 (Q (Q (R [⟨S 22,O,D 0 (.t 9)⟩,⟨S 23,O,L O (.t 22)⟩,⟨S 24,O,.bin .eql 44 T (.t 23) (.c (V (I .i64 5)))⟩,⟨S 25,O,.mv (.t 24)⟩,⟨S 26,S (25,T),D 3 (.t 9)⟩,⟨S 27,S (25,T),L O (.t 26)⟩,⟨S 28,S (25,T),.call 86 [.t 27]⟩,⟨S 29,S (25,T),.lenS (.t 28)⟩,⟨S 30,S (25,T),.bin .eql 3 T (.t 29) (.c (V (I .i64 0)))⟩,⟨S 31,O,.pick (.t 25) (.t 30) (.c (V (.bool F)))⟩])
 (C (.t 31) (.exit 1) .skip))
 (Q (R [⟨S 32,O,L (S 4) (.t 9)⟩,⟨S 33,O,.buildSlice 4 1 [V (I .i64 0),V (G ⟨#[]⟩),V (I .i64 0),V (.slice O 0 0)] [(0,4,(.t 32))]⟩,⟨S 34,O,.call 86 [.t 33]⟩,⟨S 35,O,.lenS (.t 34)⟩,⟨S 36,O,.bin .gtr 3 T (.t 35) (.c (V (I .i64 0)))⟩])
 (C (.t 36) (Q (R [⟨S 6,O,.mv (.c (V (I .i64 6)))⟩])
 .ret) .skip)))))
 (R [⟨S 37,O,.bin .add 3 T (.t 18) (.c (V (I .i64 1)))⟩,⟨S 18,O,.mv (.t 37)⟩]))))
def pi:ACode:=.loop iS
def f60:ACode:=(Q (R [⟨S 3,O,.box (.t 0)⟩,⟨S 4,O,.box (.t 1)⟩,⟨S 6,O,.mv (.c (V (I .i64 0)))⟩])
 (Q (Q (R [⟨S 10,O,L (S 3) (.t 3)⟩,⟨S 11,O,L (S 4) (.t 4)⟩,⟨S 12,O,.call 23 [.t 10,.t 11]⟩,⟨S 7,O,.mv (.t 12)⟩])
 (Q (R [⟨S 13,O,.mv (.t 7)⟩,⟨S 14,O,.bin .neq 29 T (.t 13) (.c (V (I .i64 0)))⟩])
 (C (.t 14) (Q (R [⟨S 15,O,.mv (.t 7)⟩,⟨S 6,O,.mv (.t 15)⟩])
 .ret) .skip)))
 (Q (Q (R [⟨S 16,O,.mv (.t 2)⟩,⟨S 17,O,.lenS (.t 16)⟩,⟨S 18,O,.mv (.c (V (I .i64 0)))⟩])
 (.block 0 pi))
 (Q (R [⟨S 6,O,.mv (.c (V (I .i64 0)))⟩])
 .ret))))
def zq:AFun:=⟨f60,[.tmp 6]⟩
theorem f60_ok:funOf Tryz.prog 60=some zq:=by kernel_rfl
def fa:List DOp:=[⟨⟨S 12,O,D 3 (.t 1)⟩,[1],[]⟩,⟨⟨S 13,O,L O (.t 12)⟩,[12],[]⟩,⟨⟨S 14,O,X 4 (.t 13) (.c (V (I .i64 0)))⟩,[13],[]⟩,⟨⟨S 15,O,L (S 4) (.t 14)⟩,[14],[]⟩,⟨⟨S 16,O,.call 61 [.t 15]⟩,[15],[]⟩,⟨⟨S 17,O,D 3 (.t 1)⟩,[1],[0,1,2,3,4]⟩,⟨⟨S 18,O,L O (.t 17)⟩,[17],[0,1,2,3,4]⟩,⟨⟨S 19,O,X 4 (.t 18) (.c (V (I .i64 1)))⟩,[18],[0,1,2,3,4]⟩,⟨⟨S 20,O,L (S 4) (.t 19)⟩,[19],[0,1,2,3,4]⟩,⟨⟨S 21,O,.call 61 [.t 20]⟩,[20],[]⟩,⟨⟨S 22,O,A 4 56 (.t 16) (.t 21)⟩,[16,21],[]⟩,⟨⟨S 2,O,.mv (.t 22)⟩,[22],[]⟩]
def f61_d0:ACode:=.draw fa
def f61:ACode:=(Q (R [⟨S 1,O,.box (.t 0)⟩,⟨S 2,O,.mv (.c (V (.slice O 0 0)))⟩])
 (Q (Q (R [⟨S 3,O,D 0 (.t 1)⟩,⟨S 4,O,L O (.t 3)⟩,⟨S 5,O,.bin .eql 44 T (.t 4) (.c (V (I .i64 15)))⟩,⟨S 6,O,.mv (.t 5)⟩,⟨S 7,S (6,T),D 3 (.t 1)⟩,⟨S 8,S (6,T),L O (.t 7)⟩,⟨S 9,S (6,T),.lenS (.t 8)⟩,⟨S 10,S (6,T),.bin .eql 3 T (.t 9) (.c (V (I .i64 2)))⟩,⟨S 11,O,.pick (.t 6) (.t 10) (.c (V (.bool F)))⟩])
 (C (.t 11) (Q f61_d0
 .ret) .skip))
 (Q (Q (R [⟨S 23,O,L (S 4) (.t 1)⟩,⟨S 24,O,.call 87 [.t 23]⟩])
 (C (.t 24) (Q (R [⟨S 2,O,.mv (.c (V (.slice O 0 0)))⟩])
 .ret) .skip))
 (Q (R [⟨S 25,O,L (S 4) (.t 1)⟩,⟨S 26,O,.call 88 [.t 25]⟩,⟨S 27,O,.buildSlice 4 1 [V (I .i64 0),V (G ⟨#[]⟩),V (I .i64 0),V (.slice O 0 0)] [(0,4,(.t 26))]⟩,⟨S 2,O,.mv (.t 27)⟩])
 .ret))))
def kc:AFun:=⟨f61,[.tmp 2]⟩
theorem f61_ok:funOf Tryz.prog 61=some kc:=by kernel_rfl
def kb:ACode:=(Q (R [⟨S 9,O,.bin .lss 3 F (.t 8) (.t 7)⟩])
 (Q (C (.t 9) .skip (.exit 0))
 (Q (.block 1 (Q (R [⟨S 10,O,.mv (.t 8)⟩,⟨S 5,O,.mv (.t 10)⟩])
 (Q (R [⟨S 11,O,.mv (.t 1)⟩,⟨S 12,O,.mv (.t 0)⟩,⟨S 13,O,.mv (.t 5)⟩,⟨S 14,O,X 1 (.t 12) (.t 13)⟩,⟨S 15,O,L O (.t 14)⟩,⟨S 16,O,.bin .eql 9 F (.t 11) (.t 15)⟩])
 (C (.t 16) (Q (R [⟨S 17,O,.mv (.t 5)⟩,⟨S 4,O,.mv (.t 17)⟩])
 .ret) .skip))))
 (R [⟨S 18,O,.bin .add 3 T (.t 8) (.c (V (I .i64 1)))⟩,⟨S 8,O,.mv (.t 18)⟩]))))
def uw:ACode:=.loop kb
def f72:ACode:=(Q (R [⟨S 4,O,.mv (.c (V (I .i64 0)))⟩])
 (Q (Q (R [⟨S 6,O,.mv (.t 0)⟩,⟨S 7,O,.lenS (.t 6)⟩,⟨S 8,O,.mv (.c (V (I .i64 0)))⟩])
 (.block 0 uw))
 (Q (R [⟨S 4,O,.mv (.c (V (I .i64 (-1))))⟩])
 .ret)))
def f72_fn:AFun:=⟨f72,[.tmp 4]⟩
theorem f72_ok:funOf Tryz.prog 72=some f72_fn:=by kernel_rfl
def ph:ACode:=(Q (R [⟨S 45,O,.bin .lss 3 F (.t 44) (.t 43)⟩])
 (Q (C (.t 45) .skip (.exit 4))
 (Q (.block 5 (Q (R [⟨S 46,O,X 2 (.t 42) (.t 44)⟩,⟨S 47,O,L (S 2) (.t 46)⟩,⟨S 13,O,.alloc [V (G ⟨#[]⟩),V (G ⟨#[]⟩)]⟩,⟨O,O,.store 2 (.t 13) (.t 47)⟩])
 (R [⟨S 48,O,.mv (.t 11)⟩,⟨S 49,O,D 0 (.t 13)⟩,⟨S 50,O,L O (.t 49)⟩,⟨S 51,O,.buildSlice 1 1 [V (G ⟨#[]⟩)] [(0,1,(.t 50))]⟩,⟨S 52,O,A 1 16 (.t 48) (.t 51)⟩,⟨S 11,O,.mv (.t 52)⟩])))
 (R [⟨S 53,O,.bin .add 3 T (.t 44) (.c (V (I .i64 1)))⟩,⟨S 44,O,.mv (.t 53)⟩]))))
def uv:ACode:=.loop ph
def kZ:ACode:=(Q (R [⟨S 33,O,.bin .lss 3 F (.t 32) (.t 31)⟩])
 (Q (C (.t 33) .skip (.exit 2))
 (Q (.block 3 (Q (R [⟨S 34,O,X 2 (.t 30) (.t 32)⟩,⟨S 35,O,L (S 2) (.t 34)⟩,⟨S 10,O,.alloc [V (G ⟨#[]⟩),V (.slice O 0 0)]⟩,⟨O,O,.store 2 (.t 10) (.t 35)⟩])
 (Q (Q (R [⟨S 36,O,D 0 (.t 10)⟩,⟨S 37,O,L O (.t 36)⟩,⟨S 38,O,D 1 (.t 3)⟩,⟨S 39,O,L O (.t 38)⟩,⟨S 40,O,.bin .neq 9 F (.t 37) (.t 39)⟩])
 (C (.t 40) (.exit 3) .skip))
 (Q (R [⟨S 11,O,.mv (.c (V (.slice O 0 0)))⟩])
 (Q (Q (R [⟨S 41,O,D 1 (.t 10)⟩,⟨S 42,O,L O (.t 41)⟩,⟨S 43,O,.lenS (.t 42)⟩,⟨S 44,O,.mv (.c (V (I .i64 0)))⟩])
 (.block 4 uv))
 (Q (R [⟨S 54,O,D 1 (.t 8)⟩,⟨S 55,O,L (S 4) (.t 54)⟩,⟨S 56,O,.mv (.t 11)⟩,⟨S 57,O,D 3 (.t 3)⟩,⟨S 58,O,L O (.t 57)⟩,⟨S 59,O,.call 109 [.t 55,.t 56,.t 58]⟩,⟨O,O,.store 4 (.t 6) (.t 59)⟩])
 .ret))))))
 (R [⟨S 60,O,.bin .add 3 T (.t 32) (.c (V (I .i64 1)))⟩,⟨S 32,O,.mv (.t 60)⟩]))))
def uu:ACode:=.loop kZ
def iR:ACode:=(Q (R [⟨S 17,O,.bin .lss 3 F (.t 16) (.t 15)⟩])
 (Q (C (.t 17) .skip (.exit 0))
 (Q (.block 1 (Q (R [⟨S 18,O,X 5 (.t 14) (.t 16)⟩,⟨S 19,O,L (S 5) (.t 18)⟩,⟨S 8,O,.alloc [V (G ⟨#[]⟩),V (I .i64 0),V (G ⟨#[]⟩),V (I .i64 0),V (.slice O 0 0)]⟩,⟨O,O,.store 5 (.t 8) (.t 19)⟩])
 (Q (Q (R [⟨S 20,O,D 0 (.t 8)⟩,⟨S 21,O,L O (.t 20)⟩,⟨S 22,O,D 1 (.t 3)⟩,⟨S 23,O,L O (.t 22)⟩,⟨S 24,O,.bin .neq 9 F (.t 21) (.t 23)⟩])
 (C (.t 24) (.exit 1) .skip))
 (Q (Q (R [⟨S 25,O,D 1 (.t 8)⟩,⟨S 26,O,L (S 4) (.t 25)⟩,⟨S 27,O,.build [V (I .i64 0),V (G ⟨#[]⟩),V (I .i64 0),V (.slice O 0 0)] []⟩,⟨S 28,O,.call 48 [.t 26,.t 27]⟩])
 (C (.t 28) (Q (R [⟨S 29,O,.call 108 [.c (V (.bool T))]⟩,⟨O,O,.store 4 (.t 6) (.t 29)⟩])
 .ret) .skip))
 (Q (Q (R [⟨S 30,O,.mv (.t 1)⟩,⟨S 31,O,.lenS (.t 30)⟩,⟨S 32,O,.mv (.c (V (I .i64 0)))⟩])
 (.block 2 uu))
 (Q (R [⟨S 61,O,.call 108 [.c (V (.bool T))]⟩,⟨O,O,.store 4 (.t 6) (.t 61)⟩])
 .ret))))))
 (R [⟨S 62,O,.bin .add 3 T (.t 16) (.c (V (I .i64 1)))⟩,⟨S 16,O,.mv (.t 62)⟩]))))
def ut:ACode:=.loop iR
def f73:ACode:=(Q (R [⟨S 3,O,.box (.t 0)⟩,⟨S 6,O,.alloc [V (I .i64 0),V (G ⟨#[]⟩),V (I .i64 0),V (.slice O 0 0)]⟩])
 (Q (Q (R [⟨S 14,O,.mv (.t 2)⟩,⟨S 15,O,.lenS (.t 14)⟩,⟨S 16,O,.mv (.c (V (I .i64 0)))⟩])
 (.block 0 ut))
 (Q (R [⟨S 63,O,.call 108 [.c (V (.bool T))]⟩,⟨O,O,.store 4 (.t 6) (.t 63)⟩])
 .ret)))
def f73_fn:AFun:=⟨f73,[.cell 6 (S 4)]⟩
theorem f73_ok:funOf Tryz.prog 73=some f73_fn:=by kernel_rfl
def uq:List DOp:=[⟨⟨S 18,O,.mv (.t 2)⟩,[2],[]⟩,⟨⟨S 19,O,.mv (.t 0)⟩,[0],[0]⟩,⟨⟨S 20,O,.mv (.t 7)⟩,[7],[0,1]⟩,⟨⟨S 21,O,X 4 (.t 19) (.t 20)⟩,[19,20],[0]⟩,⟨⟨S 22,O,L (S 4) (.t 21)⟩,[21],[0]⟩,⟨⟨S 23,O,.mv (.t 1)⟩,[1],[0,1,2,3,4]⟩,⟨⟨S 24,O,.mv (.t 7)⟩,[7],[0,1,2,3,4,5]⟩,⟨⟨S 25,O,X 4 (.t 23) (.t 24)⟩,[23,24],[0,1,2,3,4]⟩,⟨⟨S 26,O,L (S 4) (.t 25)⟩,[25],[0,1,2,3,4]⟩,⟨⟨S 27,O,.callv (.t 18) [.t 22,.t 26]⟩,[18,22,26],[]⟩,⟨⟨S 28,O,.un .not (.t 27)⟩,[27],[]⟩]
def f75_d0:ACode:=.draw uq
def pc:ACode:=(Q (R [⟨S 16,O,.bin .lss 3 F (.t 15) (.t 14)⟩])
 (Q (C (.t 16) .skip (.exit 0))
 (Q (.block 1 (Q (R [⟨S 17,O,.mv (.t 15)⟩,⟨S 7,O,.mv (.t 17)⟩])
 (Q f75_d0
 (C (.t 28) (Q (R [⟨S 6,O,.mv (.c (V (.bool F)))⟩])
 .ret) .skip))))
 (R [⟨S 29,O,.bin .add 3 T (.t 15) (.c (V (I .i64 1)))⟩,⟨S 15,O,.mv (.t 29)⟩]))))
def ur:ACode:=.loop pc
def f75:ACode:=(Q (R [⟨S 6,O,.mv (.c (V (.bool F)))⟩])
 (Q (Q (R [⟨S 8,O,.mv (.t 0)⟩,⟨S 9,O,.lenS (.t 8)⟩,⟨S 10,O,.mv (.t 1)⟩,⟨S 11,O,.lenS (.t 10)⟩,⟨S 12,O,.bin .neq 3 F (.t 9) (.t 11)⟩])
 (C (.t 12) (Q (R [⟨S 6,O,.mv (.c (V (.bool F)))⟩])
 .ret) .skip))
 (Q (Q (R [⟨S 13,O,.mv (.t 0)⟩,⟨S 14,O,.lenS (.t 13)⟩,⟨S 15,O,.mv (.c (V (I .i64 0)))⟩])
 (.block 0 ur))
 (Q (R [⟨S 6,O,.mv (.c (V (.bool T)))⟩])
 .ret))))
def zn:AFun:=⟨f75,[.tmp 6]⟩
theorem f75_ok:funOf Tryz.prog 75=some zn:=by kernel_rfl
def uo:ACode:=(R [⟨S 3,O,.alloc [V (I .i64 0),V (G ⟨#[]⟩),V (I .i64 0),V (.slice O 0 0)]⟩,⟨O,O,.store 4 (.t 3) (.t 13)⟩])
def mc:ACode:=(.block 1 (Q (R [⟨S 14,O,L (S 4) (.t 3)⟩,⟨S 15,O,.call 114 [.t 14]⟩,⟨S 4,O,.mv (.t 15)⟩])
 (Q (R [⟨S 16,O,.mv (.t 4)⟩,⟨S 17,O,.bin .neq 29 T (.t 16) (.c (V (I .i64 0)))⟩])
 (C (.t 17) (Q (R [⟨S 18,O,.mv (.t 4)⟩,⟨O,O,.store 1 (.t 2) (.t 18)⟩])
 .ret) .skip))))
def kY:ACode:=(Q (R [⟨S 15,O,.bin .lss 3 F (.t 14) (.t 13)⟩])
 (Q (C (.t 15) .skip (.exit 0))
 (Q (.block 1 (Q (R [⟨S 16,O,X 4 (.t 12) (.t 14)⟩,⟨S 17,O,L (S 4) (.t 16)⟩,⟨S 8,O,.alloc [V (I .i64 0),V (G ⟨#[]⟩),V (I .i64 0),V (.slice O 0 0)]⟩,⟨O,O,.store 4 (.t 8) (.t 17)⟩])
 (Q (R [⟨S 19,O,L O (.t 1)⟩,⟨S 20,O,L (S 4) (.t 8)⟩,⟨S 21,O,.callv (.t 19) [.t 20]⟩,⟨S 18,O,.mv (.t 21)⟩,⟨S 22,O,.extract 0 (.t 18)⟩,⟨S 23,O,.extract 1 (.t 18)⟩,⟨S 9,O,.mv (.t 22)⟩,⟨S 10,O,.mv (.t 23)⟩])
 (Q (Q (R [⟨S 24,O,.mv (.t 10)⟩,⟨S 25,O,.bin .neq 29 T (.t 24) (.c (V (I .i64 0)))⟩])
 (C (.t 25) (Q (R [⟨S 26,O,.mv (.t 10)⟩,⟨S 4,O,.mv (.c (V (G ⟨#[]⟩)))⟩,⟨S 5,O,.mv (.t 26)⟩])
 .ret) .skip))
 (R [⟨S 27,O,.mv (.t 6)⟩,⟨S 28,O,.mv (.t 9)⟩,⟨S 29,O,.buildSlice 1 1 [V (G ⟨#[]⟩)] [(0,1,(.t 28))]⟩,⟨S 30,O,A 1 16 (.t 27) (.t 29)⟩,⟨S 6,O,.mv (.t 30)⟩])))))
 (R [⟨S 31,O,.bin .add 3 T (.t 14) (.c (V (I .i64 1)))⟩,⟨S 14,O,.mv (.t 31)⟩]))))
def ul:ACode:=.loop kY
def f77:ACode:=(Q (R [⟨S 3,O,.box (.t 0)⟩,⟨S 4,O,.mv (.c (V (G ⟨#[]⟩)))⟩,⟨S 5,O,.mv (.c (V (I .i64 0)))⟩])
 (Q (R [⟨S 6,O,.mv (.c (V (.slice O 0 0)))⟩])
 (Q (Q (R [⟨S 11,O,D 3 (.t 3)⟩,⟨S 12,O,L O (.t 11)⟩,⟨S 13,O,.lenS (.t 12)⟩,⟨S 14,O,.mv (.c (V (I .i64 0)))⟩])
 (.block 0 ul))
 (Q (R [⟨S 32,O,L (S 3) (.t 2)⟩,⟨S 33,O,L (S 4) (.t 3)⟩,⟨S 34,O,.mv (.t 6)⟩,⟨S 35,O,.call 78 [.t 32,.t 33,.t 34]⟩,⟨S 36,O,.extract 0 (.t 35)⟩,⟨S 37,O,.extract 1 (.t 35)⟩,⟨S 4,O,.mv (.t 36)⟩,⟨S 5,O,.mv (.t 37)⟩])
 .ret))))
def f77_fn:AFun:=⟨f77,[.tmp 4,.tmp 5]⟩
theorem f77_ok:funOf Tryz.prog 77=some f77_fn:=by kernel_rfl
def f78:ACode:=(Q (R [⟨S 3,O,.box (.t 0)⟩,⟨S 4,O,.box (.t 1)⟩,⟨S 6,O,.mv (.c (V (G ⟨#[]⟩)))⟩,⟨S 7,O,.mv (.c (V (I .i64 0)))⟩])
 (Q (Q (R [⟨S 11,O,D 0 (.t 4)⟩,⟨S 12,O,L O (.t 11)⟩])
 (.block 0 (Q (R [⟨S 14,O,.bin .eql 44 T (.t 12) (.c (V (I .i64 1)))⟩,⟨S 13,O,.mv (.t 14)⟩])
 (C (.t 13) (Q (R [⟨S 6,O,.mv (.c (V (G ⟨#[73,110,116]⟩)))⟩,⟨S 7,O,.mv (.c (V (I .i64 0)))⟩])
 .ret) (Q (R [⟨S 16,O,.bin .eql 44 T (.t 12) (.c (V (I .i64 2)))⟩,⟨S 15,O,.mv (.t 16)⟩])
 (C (.t 15) (Q (R [⟨S 6,O,.mv (.c (V (G ⟨#[66,111,111,108]⟩)))⟩,⟨S 7,O,.mv (.c (V (I .i64 0)))⟩])
 .ret) (Q (R [⟨S 18,O,.bin .eql 44 T (.t 12) (.c (V (I .i64 3)))⟩,⟨S 17,O,.mv (.t 18)⟩])
 (C (.t 17) (Q (R [⟨S 20,O,L (S 3) (.t 3)⟩,⟨S 21,O,D 1 (.t 4)⟩,⟨S 22,O,L O (.t 21)⟩,⟨S 23,O,.call 115 [.t 20,.t 22]⟩,⟨S 19,O,.mv (.t 23)⟩,⟨S 24,O,.extract 0 (.t 19)⟩,⟨S 25,O,.extract 1 (.t 19)⟩,⟨S 8,O,.mv (.t 24)⟩,⟨S 9,O,.mv (.t 25)⟩])
 (Q (Q (R [⟨S 26,O,.mv (.t 9)⟩,⟨S 27,O,.un .not (.t 26)⟩])
 (C (.t 27) (Q (R [⟨S 6,O,.mv (.c (V (G ⟨#[]⟩)))⟩,⟨S 7,O,.mv (.c (V (I .i64 5)))⟩])
 .ret) .skip))
 (Q (R [⟨S 28,O,.mv (.t 8)⟩,⟨S 6,O,.mv (.t 28)⟩,⟨S 7,O,.mv (.c (V (I .i64 0)))⟩])
 .ret))) (Q (R [⟨S 30,O,.bin .eql 44 T (.t 12) (.c (V (I .i64 4)))⟩,⟨S 29,O,.mv (.t 30)⟩])
 (C (.t 29) (Q (R [⟨S 31,O,L (S 3) (.t 3)⟩,⟨S 32,O,D 1 (.t 4)⟩,⟨S 33,O,L O (.t 32)⟩,⟨S 34,O,.mv (.t 2)⟩,⟨S 35,O,.call 116 [.t 31,.t 33,.t 34]⟩,⟨S 36,O,.extract 0 (.t 35)⟩,⟨S 37,O,.extract 1 (.t 35)⟩,⟨S 6,O,.mv (.t 36)⟩,⟨S 7,O,.mv (.t 37)⟩])
 .ret) (Q (R [⟨S 39,O,.bin .eql 44 T (.t 12) (.c (V (I .i64 5)))⟩,⟨S 38,O,.mv (.t 39)⟩])
 (C (.t 38) (Q (R [⟨S 40,O,L (S 3) (.t 3)⟩,⟨S 41,O,D 1 (.t 4)⟩,⟨S 42,O,L O (.t 41)⟩,⟨S 43,O,.mv (.t 2)⟩,⟨S 44,O,.call 117 [.t 40,.t 42,.t 43]⟩,⟨S 45,O,.extract 0 (.t 44)⟩,⟨S 46,O,.extract 1 (.t 44)⟩,⟨S 6,O,.mv (.t 45)⟩,⟨S 7,O,.mv (.t 46)⟩])
 .ret) .skip))))))))))))
 (Q (R [⟨S 47,O,D 0 (.t 4)⟩,⟨S 48,O,L O (.t 47)⟩,⟨S 49,O,.call 118 [.t 48]⟩,⟨S 10,O,.alloc [V .nilFunc,V (G ⟨#[]⟩)]⟩,⟨O,O,.store 2 (.t 10) (.t 49)⟩])
 (Q (Q (R [⟨S 50,O,D 0 (.t 10)⟩,⟨S 51,O,L O (.t 50)⟩,⟨S 52,O,.mv (.t 2)⟩,⟨S 53,O,.callv (.t 51) [.t 52]⟩,⟨S 54,O,.un .not (.t 53)⟩])
 (C (.t 54) (Q (R [⟨S 6,O,.mv (.c (V (G ⟨#[]⟩)))⟩,⟨S 7,O,.mv (.c (V (I .i64 11)))⟩])
 .ret) .skip))
 (Q (R [⟨S 55,O,D 1 (.t 10)⟩,⟨S 56,O,L O (.t 55)⟩,⟨S 6,O,.mv (.t 56)⟩,⟨S 7,O,.mv (.c (V (I .i64 0)))⟩])
 .ret)))))
def fZ:AFun:=⟨f78,[.tmp 6,.tmp 7]⟩
theorem f78_ok:funOf Tryz.prog 78=some fZ:=by kernel_rfl
def f79:ACode:=(Q (R [⟨S 1,O,.box (.t 0)⟩,⟨S 2,O,.mv (.c (V (I .i64 0)))⟩])
 (Q (R [⟨S 4,O,D 0 (.t 1)⟩,⟨S 5,O,L O (.t 4)⟩,⟨S 6,O,.bin .eql 44 T (.t 5) (.c (V (I .i64 1)))⟩,⟨S 7,O,.mv (.t 6)⟩,⟨S 8,S (7,F),D 0 (.t 1)⟩,⟨S 9,S (7,F),L O (.t 8)⟩,⟨S 10,S (7,F),.bin .eql 44 T (.t 9) (.c (V (I .i64 2)))⟩,⟨S 11,O,.pick (.t 7) (.c (V (.bool T))) (.t 10)⟩,⟨S 3,O,.mv (.t 11)⟩])
 (Q (Q (R [⟨S 12,O,D 0 (.t 1)⟩,⟨S 13,O,L O (.t 12)⟩,⟨S 14,O,.bin .lss 44 T (.t 13) (.c (V (I .i64 1)))⟩,⟨S 15,O,.mv (.t 14)⟩,⟨S 16,S (15,F),D 0 (.t 1)⟩,⟨S 17,S (15,F),L O (.t 16)⟩,⟨S 18,S (15,F),.bin .gtr 44 T (.t 17) (.c (V (I .i64 18)))⟩,⟨S 19,O,.pick (.t 15) (.c (V (.bool T))) (.t 18)⟩,⟨S 20,O,.mv (.t 19)⟩,⟨S 21,S (20,F),D 1 (.t 1)⟩,⟨S 22,S (20,F),L O (.t 21)⟩,⟨S 23,S (20,F),.bin .neq 9 T (.t 22) (.c (V (G ⟨#[]⟩)))⟩,⟨S 24,S (20,F),.mv (.t 23)⟩,⟨S 25,S (24,T),D 0 (.t 1)⟩,⟨S 26,S (24,T),L O (.t 25)⟩,⟨S 27,S (24,T),.call 119 [.t 26]⟩,⟨S 28,S (24,T),.un .not (.t 27)⟩,⟨S 29,S (20,F),.pick (.t 24) (.t 28) (.c (V (.bool F)))⟩,⟨S 30,O,.pick (.t 20) (.c (V (.bool T))) (.t 29)⟩,⟨S 31,O,.mv (.t 30)⟩,⟨S 32,S (31,F),D 2 (.t 1)⟩,⟨S 33,S (31,F),L O (.t 32)⟩,⟨S 34,S (31,F),.bin .neq 3 T (.t 33) (.c (V (I .i64 0)))⟩,⟨S 35,S (31,F),.mv (.t 34)⟩,⟨S 36,S (35,T),.mv (.t 3)⟩,⟨S 37,S (35,T),.un .not (.t 36)⟩,⟨S 38,S (31,F),.pick (.t 35) (.t 37) (.c (V (.bool F)))⟩,⟨S 39,O,.pick (.t 31) (.c (V (.bool T))) (.t 38)⟩,⟨S 40,O,.mv (.t 39)⟩,⟨S 41,S (40,F),D 0 (.t 1)⟩,⟨S 42,S (40,F),L O (.t 41)⟩,⟨S 43,S (40,F),D 3 (.t 1)⟩,⟨S 44,S (40,F),L O (.t 43)⟩,⟨S 45,S (40,F),.lenS (.t 44)⟩,⟨S 46,S (40,F),.call 120 [.t 42,.t 45]⟩,⟨S 47,S (40,F),.un .not (.t 46)⟩,⟨S 48,O,.pick (.t 40) (.c (V (.bool T))) (.t 47)⟩])
 (C (.t 48) (Q (R [⟨S 2,O,.mv (.c (V (I .i64 1)))⟩])
 .ret) .skip))
 (Q (Q (R [⟨S 49,O,D 0 (.t 1)⟩,⟨S 50,O,L O (.t 49)⟩,⟨S 51,O,.bin .eql 44 T (.t 50) (.c (V (I .i64 1)))⟩,⟨S 52,O,.mv (.t 51)⟩,⟨S 53,S (52,T),D 2 (.t 1)⟩,⟨S 54,S (52,T),L O (.t 53)⟩,⟨S 55,S (52,T),.call 121 [.t 54]⟩,⟨S 56,S (52,T),.un .not (.t 55)⟩,⟨S 57,O,.pick (.t 52) (.t 56) (.c (V (.bool F)))⟩,⟨S 58,O,.mv (.t 57)⟩,⟨S 59,S (58,F),D 0 (.t 1)⟩,⟨S 60,S (58,F),L O (.t 59)⟩,⟨S 61,S (58,F),.bin .eql 44 T (.t 60) (.c (V (I .i64 2)))⟩,⟨S 62,S (58,F),.mv (.t 61)⟩,⟨S 63,S (62,T),D 2 (.t 1)⟩,⟨S 64,S (62,T),L O (.t 63)⟩,⟨S 65,S (62,T),.bin .lss 3 T (.t 64) (.c (V (I .i64 0)))⟩,⟨S 66,S (62,T),.mv (.t 65)⟩,⟨S 67,S (66,F),D 2 (.t 1)⟩,⟨S 68,S (66,F),L O (.t 67)⟩,⟨S 69,S (66,F),.bin .gtr 3 T (.t 68) (.c (V (I .i64 1)))⟩,⟨S 70,S (62,T),.pick (.t 66) (.c (V (.bool T))) (.t 69)⟩,⟨S 71,S (58,F),.pick (.t 62) (.t 70) (.c (V (.bool F)))⟩,⟨S 72,O,.pick (.t 58) (.c (V (.bool T))) (.t 71)⟩])
 (C (.t 72) (Q (R [⟨S 2,O,.mv (.c (V (I .i64 2)))⟩])
 .ret) .skip))
 (Q (Q (R [⟨S 73,O,L (S 4) (.t 1)⟩,⟨S 74,O,.call 122 [.t 73]⟩,⟨S 75,O,.un .not (.t 74)⟩])
 (C (.t 75) (Q (R [⟨S 2,O,.mv (.c (V (I .i64 3)))⟩])
 .ret) .skip))
 (Q (Q (R [⟨S 76,O,D 0 (.t 1)⟩,⟨S 77,O,L O (.t 76)⟩,⟨S 78,O,.bin .eql 44 T (.t 77) (.c (V (I .i64 8)))⟩,⟨S 79,O,.mv (.t 78)⟩,⟨S 80,S (79,T),D 3 (.t 1)⟩,⟨S 81,S (79,T),L O (.t 80)⟩,⟨S 82,S (79,T),X 4 (.t 81) (.c (V (I .i64 0)))⟩,⟨S 83,S (79,T),D 0 (.t 82)⟩,⟨S 84,S (79,T),L O (.t 83)⟩,⟨S 85,S (79,T),.bin .neq 44 T (.t 84) (.c (V (I .i64 1)))⟩,⟨S 86,O,.pick (.t 79) (.t 85) (.c (V (.bool F)))⟩])
 (C (.t 86) (Q (R [⟨S 2,O,.mv (.c (V (I .i64 6)))⟩])
 .ret) .skip))
 (Q (R [⟨S 2,O,.mv (.c (V (I .i64 0)))⟩])
 .ret)))))))
def bP:AFun:=⟨f79,[.tmp 2]⟩
theorem bd:funOf Tryz.prog 79=some bP:=by kernel_rfl
def di:List DOp:=[⟨⟨S 18,O,.mv (.t 5)⟩,[5],[]⟩,⟨⟨S 19,O,.bin .add 3 T (.t 18) (.c (V (I .i64 1)))⟩,[18],[]⟩,⟨⟨S 20,O,.mv (.t 0)⟩,[0],[0,1]⟩,⟨⟨S 21,O,.mv (.t 6)⟩,[6],[0,1,2]⟩,⟨⟨S 22,O,X 9 (.t 20) (.t 21)⟩,[20,21],[0,1]⟩,⟨⟨S 23,O,D 1 (.t 22)⟩,[22],[0,1]⟩,⟨⟨S 24,O,L O (.t 23)⟩,[23],[0,1]⟩,⟨⟨S 25,O,.lenStr (.t 24)⟩,[24],[0,1]⟩,⟨⟨S 26,O,.bin .quo 3 T (.t 25) (.c (V (I .i64 50)))⟩,[25],[0,1]⟩,⟨⟨S 27,O,.bin .add 3 F (.t 19) (.t 26)⟩,[19,26],[]⟩,⟨⟨S 28,O,.mv (.t 0)⟩,[0],[0,1,2,3,4,5,6,7,8,9]⟩,⟨⟨S 29,O,.mv (.t 6)⟩,[6],[0,1,2,3,4,5,6,7,8,9,10]⟩,⟨⟨S 30,O,X 9 (.t 28) (.t 29)⟩,[28,29],[0,1,2,3,4,5,6,7,8,9]⟩,⟨⟨S 31,O,D 3 (.t 30)⟩,[30],[0,1,2,3,4,5,6,7,8,9]⟩,⟨⟨S 32,O,L O (.t 31)⟩,[31],[0,1,2,3,4,5,6,7,8,9]⟩,⟨⟨S 33,O,.lenS (.t 32)⟩,[32],[0,1,2,3,4,5,6,7,8,9]⟩,⟨⟨S 34,O,.bin .add 3 F (.t 27) (.t 33)⟩,[27,33],[]⟩,⟨⟨S 35,O,.mv (.t 0)⟩,[0],[0,1,2,3,4,5,6,7,8,9,10,11,12,13,14,15,16]⟩,⟨⟨S 36,O,.mv (.t 6)⟩,[6],[0,1,2,3,4,5,6,7,8,9,10,11,12,13,14,15,16,17]⟩,⟨⟨S 37,O,X 9 (.t 35) (.t 36)⟩,[35,36],[0,1,2,3,4,5,6,7,8,9,10,11,12,13,14,15,16]⟩,⟨⟨S 38,O,D 4 (.t 37)⟩,[37],[0,1,2,3,4,5,6,7,8,9,10,11,12,13,14,15,16]⟩,⟨⟨S 39,O,L (S 4) (.t 38)⟩,[38],[0,1,2,3,4,5,6,7,8,9,10,11,12,13,14,15,16]⟩,⟨⟨S 40,O,.buildSlice 4 1 [V (I .i64 0),V (G ⟨#[]⟩),V (I .i64 0),V (.slice O 0 0)] [(0,4,(.t 39))]⟩,[39],[0,1,2,3,4,5,6,7,8,9,10,11,12,13,14,15,16]⟩,⟨⟨S 41,O,.mv (.t 0)⟩,[0],[0,1,2,3,4,5,6,7,8,9,10,11,12,13,14,15,16,17,18,19,20,21,22]⟩,⟨⟨S 42,O,.mv (.t 6)⟩,[6],[0,1,2,3,4,5,6,7,8,9,10,11,12,13,14,15,16,17,18,19,20,21,22,23]⟩,⟨⟨S 43,O,X 9 (.t 41) (.t 42)⟩,[41,42],[0,1,2,3,4,5,6,7,8,9,10,11,12,13,14,15,16,17,18,19,20,21,22]⟩,⟨⟨S 44,O,D 8 (.t 43)⟩,[43],[0,1,2,3,4,5,6,7,8,9,10,11,12,13,14,15,16,17,18,19,20,21,22]⟩,⟨⟨S 45,O,L O (.t 44)⟩,[44],[0,1,2,3,4,5,6,7,8,9,10,11,12,13,14,15,16,17,18,19,20,21,22]⟩,⟨⟨S 46,O,A 4 56 (.t 40) (.t 45)⟩,[40,45],[0,1,2,3,4,5,6,7,8,9,10,11,12,13,14,15,16]⟩,⟨⟨S 47,O,.mv (.t 1)⟩,[1],[0,1,2,3,4,5,6,7,8,9,10,11,12,13,14,15,16,17,18,19,20,21,22,23,24,25,26,27,28]⟩,⟨⟨S 48,O,.call 123 [.t 46,.t 47]⟩,[46,47],[0,1,2,3,4,5,6,7,8,9,10,11,12,13,14,15,16]⟩,⟨⟨S 49,O,.bin .add 3 F (.t 34) (.t 48)⟩,[34,48],[]⟩,⟨⟨S 5,O,.mv (.t 49)⟩,[49],[]⟩]
def f80_d0:ACode:=.draw di
def iQ:ACode:=(Q (Q (R [⟨S 7,O,.mv (.t 6)⟩,⟨S 8,O,.mv (.t 0)⟩,⟨S 9,O,.lenS (.t 8)⟩,⟨S 10,O,.bin .lss 3 F (.t 7) (.t 9)⟩,⟨S 11,O,.mv (.t 10)⟩,⟨S 12,S (11,T),.mv (.t 5)⟩,⟨S 13,S (11,T),.mv (.t 1)⟩,⟨S 14,S (11,T),.bin .leq 3 F (.t 12) (.t 13)⟩,⟨S 15,O,.pick (.t 11) (.t 14) (.c (V (.bool F)))⟩])
 (C (.t 15) .skip (.exit 0)))
 (Q (.block 1 (Q f80_d0
 (R [⟨S 50,O,.mv (.t 5)⟩,⟨S 51,O,.mv (.t 0)⟩,⟨S 52,O,.mv (.t 6)⟩,⟨S 53,O,X 9 (.t 51) (.t 52)⟩,⟨S 54,O,D 2 (.t 53)⟩,⟨S 55,O,L O (.t 54)⟩,⟨S 56,O,.mv (.t 1)⟩,⟨S 57,O,.mv (.t 5)⟩,⟨S 58,O,.bin .sub 3 F (.t 56) (.t 57)⟩,⟨S 59,O,.call 80 [.t 55,.t 58]⟩,⟨S 60,O,.bin .add 3 F (.t 50) (.t 59)⟩,⟨S 5,O,.mv (.t 60)⟩])))
 (R [⟨S 16,O,.mv (.t 6)⟩,⟨S 17,O,.bin .add 3 T (.t 16) (.c (V (I .i64 1)))⟩,⟨S 6,O,.mv (.t 17)⟩])))
def uk:ACode:=.loop iQ
def f80:ACode:=(Q (R [⟨S 4,O,.mv (.c (V (I .i64 0)))⟩])
 (Q (R [⟨S 5,O,.mv (.c (V (I .i64 0)))⟩])
 (Q (Q (R [⟨S 6,O,.mv (.c (V (I .i64 0)))⟩])
 (.block 0 uk))
 (Q (R [⟨S 61,O,.mv (.t 5)⟩,⟨S 4,O,.mv (.t 61)⟩])
 .ret))))
def zl:AFun:=⟨f80,[.tmp 4]⟩
theorem f80_ok:funOf Tryz.prog 80=some zl:=by kernel_rfl
def pb:ACode:=(Q (Q (R [⟨S 32,O,.mv (.t 5)⟩])
 (C (.t 32) .skip (.exit 0)))
 (.block 1 (Q (R [⟨S 6,O,.mv (.c (V (G ⟨#[]⟩)))⟩])
 (Q (R [⟨S 34,O,.mv (.t 4)⟩,⟨S 35,O,.call 127 [.t 34]⟩,⟨S 33,O,.mv (.t 35)⟩,⟨S 36,O,.extract 0 (.t 33)⟩,⟨S 37,O,.extract 1 (.t 33)⟩,⟨S 38,O,.extract 2 (.t 33)⟩,⟨S 6,O,.mv (.t 36)⟩,⟨S 4,O,.mv (.t 37)⟩,⟨S 5,O,.mv (.t 38)⟩])
 (Q (R [⟨S 39,O,.mv (.t 6)⟩,⟨S 40,O,.call 130 [.t 39]⟩,⟨S 41,O,.un .not (.t 40)⟩,⟨S 42,O,.mv (.t 41)⟩,⟨S 43,S (42,F),.mv (.t 6)⟩,⟨S 44,S (42,F),.call 131 [.t 43]⟩,⟨S 45,S (42,F),.un .not (.t 44)⟩,⟨S 46,S (42,F),.mv (.t 45)⟩,⟨S 47,S (46,T),.mv (.t 6)⟩,⟨S 48,S (46,T),.call 132 [.t 47]⟩,⟨S 49,S (46,T),.un .not (.t 48)⟩,⟨S 50,S (42,F),.pick (.t 46) (.t 49) (.c (V (.bool F)))⟩,⟨S 51,O,.pick (.t 42) (.c (V (.bool T))) (.t 50)⟩])
 (C (.t 51) (Q (R [⟨S 2,O,.mv (.c (V (I .i64 3)))⟩])
 .ret) .skip))))))
def uh:ACode:=.loop pb
def f83:ACode:=(Q (R [⟨S 2,O,.mv (.c (V (I .i64 0)))⟩])
 (Q (Q (R [⟨S 7,O,.mv (.t 0)⟩,⟨S 8,O,.lenStr (.t 7)⟩,⟨S 9,O,.bin .gtr 3 T (.t 8) (.c (V (I .i64 120)))⟩])
 (C (.t 9) (Q (R [⟨S 2,O,.mv (.c (V (I .i64 3)))⟩])
 .ret) .skip))
 (Q (R [⟨S 11,O,.mv (.t 0)⟩,⟨S 12,O,.call 127 [.t 11]⟩,⟨S 10,O,.mv (.t 12)⟩,⟨S 13,O,.extract 0 (.t 10)⟩,⟨S 14,O,.extract 1 (.t 10)⟩,⟨S 15,O,.extract 2 (.t 10)⟩,⟨S 3,O,.mv (.t 13)⟩,⟨S 4,O,.mv (.t 14)⟩,⟨S 5,O,.mv (.t 15)⟩])
 (Q (Q (R [⟨S 16,O,.mv (.t 3)⟩,⟨S 17,O,.call 128 [.t 16]⟩,⟨S 18,O,.un .not (.t 17)⟩,⟨S 19,O,.mv (.t 18)⟩,⟨S 20,S (19,T),.mv (.t 3)⟩,⟨S 21,S (19,T),.call 129 [.t 20]⟩,⟨S 22,S (19,T),.un .not (.t 21)⟩,⟨S 23,O,.pick (.t 19) (.t 22) (.c (V (.bool F)))⟩,⟨S 24,O,.mv (.t 23)⟩,⟨S 25,S (24,T),.mv (.t 3)⟩,⟨S 26,S (24,T),.bin .neq 9 T (.t 25) (.c (V (G ⟨#[118]⟩)))⟩,⟨S 27,S (24,T),.mv (.t 26)⟩,⟨S 28,S (27,F),.mv (.t 5)⟩,⟨S 29,S (27,F),.un .not (.t 28)⟩,⟨S 30,S (24,T),.pick (.t 27) (.c (V (.bool T))) (.t 29)⟩,⟨S 31,O,.pick (.t 24) (.t 30) (.c (V (.bool F)))⟩])
 (C (.t 31) (Q (R [⟨S 2,O,.mv (.c (V (I .i64 3)))⟩])
 .ret) .skip))
 (Q (.block 0 uh)
 (Q (R [⟨S 2,O,.mv (.c (V (I .i64 0)))⟩])
 .ret))))))
def uj:AFun:=⟨f83,[.tmp 2]⟩
theorem f83_ok:funOf Tryz.prog 83=some uj:=by kernel_rfl
def f84:ACode:=(Q (R [⟨S 2,O,.mv (.c (V (I .i64 0)))⟩])
 (Q (Q (R [⟨S 3,O,.mv (.t 0)⟩])
 (.block 0 (Q (Q (R [⟨S 5,O,.bin .eql 79 T (.t 3) (.c (V (G ⟨#[73,110,116]⟩)))⟩,⟨S 4,O,.mv (.t 5)⟩])
 (C (.t 4) .skip (Q (R [⟨S 6,O,.bin .eql 79 T (.t 3) (.c (V (G ⟨#[66,111,111,108]⟩)))⟩,⟨S 4,O,.mv (.t 6)⟩])
 (C (.t 4) .skip (R [⟨S 7,O,.bin .eql 79 T (.t 3) (.c (V (G ⟨#[67,101,108,108]⟩)))⟩,⟨S 4,O,.mv (.t 7)⟩])))))
 (C (.t 4) (Q (R [⟨S 2,O,.mv (.c (V (I .i64 0)))⟩])
 .ret) .skip))))
 (Q (Q (R [⟨S 8,O,.mv (.t 0)⟩,⟨S 9,O,.call 83 [.t 8]⟩,⟨S 10,O,.bin .neq 29 T (.t 9) (.c (V (I .i64 0)))⟩,⟨S 11,O,.mv (.t 10)⟩,⟨S 12,S (11,F),.mv (.t 0)⟩,⟨S 13,S (11,F),.idxStr (.t 12) (.c (V (I .i64 0)))⟩,⟨S 14,S (11,F),.bin .lss 5 T (.t 13) (.c (V (I .u8 65)))⟩,⟨S 15,O,.pick (.t 11) (.c (V (.bool T))) (.t 14)⟩,⟨S 16,O,.mv (.t 15)⟩,⟨S 17,S (16,F),.mv (.t 0)⟩,⟨S 18,S (16,F),.idxStr (.t 17) (.c (V (I .i64 0)))⟩,⟨S 19,S (16,F),.bin .gtr 5 T (.t 18) (.c (V (I .u8 90)))⟩,⟨S 20,O,.pick (.t 16) (.c (V (.bool T))) (.t 19)⟩])
 (C (.t 20) (Q (R [⟨S 2,O,.mv (.c (V (I .i64 11)))⟩])
 .ret) .skip))
 (Q (R [⟨S 2,O,.mv (.c (V (I .i64 0)))⟩])
 .ret))))
def fY:AFun:=⟨f84,[.tmp 2]⟩
theorem f84_ok:funOf Tryz.prog 84=some fY:=by kernel_rfl
def kX:ACode:=(Q (R [⟨S 24,O,.bin .lss 3 F (.t 23) (.t 22)⟩])
 (Q (C (.t 24) .skip (.exit 0))
 (Q (.block 1 (Q (R [⟨S 25,O,X 1 (.t 21) (.t 23)⟩,⟨S 26,O,L O (.t 25)⟩,⟨S 4,O,.mv (.t 26)⟩])
 (Q (R [⟨S 27,O,.mv (.t 4)⟩,⟨S 28,O,.call 84 [.t 27]⟩,⟨S 5,O,.mv (.t 28)⟩])
 (Q (R [⟨S 29,O,.mv (.t 5)⟩,⟨S 30,O,.bin .neq 29 T (.t 29) (.c (V (I .i64 0)))⟩])
 (C (.t 30) (Q (R [⟨S 31,O,.mv (.t 5)⟩,⟨S 2,O,.mv (.t 31)⟩])
 .ret) .skip)))))
 (R [⟨S 32,O,.bin .add 3 T (.t 23) (.c (V (I .i64 1)))⟩,⟨S 23,O,.mv (.t 32)⟩]))))
def ug:ACode:=.loop kX
def f85:ACode:=(Q (R [⟨S 1,O,.box (.t 0)⟩,⟨S 2,O,.mv (.c (V (I .i64 0)))⟩])
 (Q (Q (R [⟨S 6,O,D 0 (.t 1)⟩,⟨S 7,O,L O (.t 6)⟩,⟨S 8,O,.call 83 [.t 7]⟩,⟨S 9,O,.bin .neq 29 T (.t 8) (.c (V (I .i64 0)))⟩])
 (C (.t 9) (Q (R [⟨S 2,O,.mv (.c (V (I .i64 3)))⟩])
 .ret) .skip))
 (Q (Q (R [⟨S 10,O,D 1 (.t 1)⟩,⟨S 11,O,L O (.t 10)⟩,⟨S 12,O,.lenS (.t 11)⟩,⟨S 13,O,.bin .lss 3 T (.t 12) (.c (V (I .i64 1)))⟩,⟨S 14,O,.mv (.t 13)⟩,⟨S 15,S (14,F),D 1 (.t 1)⟩,⟨S 16,S (14,F),L O (.t 15)⟩,⟨S 17,S (14,F),.lenS (.t 16)⟩,⟨S 18,S (14,F),.bin .gtr 3 T (.t 17) (.c (V (I .i64 6)))⟩,⟨S 19,O,.pick (.t 14) (.c (V (.bool T))) (.t 18)⟩])
 (C (.t 19) (Q (R [⟨S 2,O,.mv (.c (V (I .i64 13)))⟩])
 .ret) .skip))
 (Q (Q (R [⟨S 20,O,D 1 (.t 1)⟩,⟨S 21,O,L O (.t 20)⟩,⟨S 22,O,.lenS (.t 21)⟩,⟨S 23,O,.mv (.c (V (I .i64 0)))⟩])
 (.block 0 ug))
 (Q (R [⟨S 33,O,D 2 (.t 1)⟩,⟨S 34,O,L O (.t 33)⟩,⟨S 35,O,.call 84 [.t 34]⟩,⟨S 2,O,.mv (.t 35)⟩])
 .ret)))))
def pY:AFun:=⟨f85,[.tmp 2]⟩
theorem f85_ok:funOf Tryz.prog 85=some pY:=by kernel_rfl
def pX:ACode:=(Q (R [⟨S 9,O,.bin .lss 3 F (.t 8) (.t 7)⟩])
 (Q (C (.t 9) .skip (.exit 0))
 (Q (.block 1 (Q (R [⟨S 10,O,X 4 (.t 6) (.t 8)⟩,⟨S 11,O,L (S 4) (.t 10)⟩,⟨S 5,O,.alloc [V (I .i64 0),V (G ⟨#[]⟩),V (I .i64 0),V (.slice O 0 0)]⟩,⟨O,O,.store 4 (.t 5) (.t 11)⟩])
 (R [⟨S 12,O,.mv (.t 3)⟩,⟨S 13,O,L (S 4) (.t 5)⟩,⟨S 14,O,.call 133 [.t 13]⟩,⟨S 15,O,A 4 56 (.t 12) (.t 14)⟩,⟨S 3,O,.mv (.t 15)⟩])))
 (R [⟨S 16,O,.bin .add 3 T (.t 8) (.c (V (I .i64 1)))⟩,⟨S 8,O,.mv (.t 16)⟩]))))
def uf:ACode:=.loop pX
def f86:ACode:=(Q (R [⟨S 2,O,.mv (.c (V (.slice O 0 0)))⟩])
 (Q (R [⟨S 3,O,.mv (.c (V (.slice O 0 0)))⟩])
 (Q (Q (R [⟨S 6,O,.mv (.t 0)⟩,⟨S 7,O,.lenS (.t 6)⟩,⟨S 8,O,.mv (.c (V (I .i64 0)))⟩])
 (.block 0 uf))
 (Q (R [⟨S 17,O,.mv (.t 3)⟩,⟨S 2,O,.mv (.t 17)⟩])
 .ret))))
def f86_fn:AFun:=⟨f86,[.tmp 2]⟩
theorem f86_ok:funOf Tryz.prog 86=some f86_fn:=by kernel_rfl
def ue:List DOp:=[⟨⟨S 3,O,L (S 4) (.t 1)⟩,[1],[]⟩,⟨⟨S 4,O,.build [V (I .i64 0),V (G ⟨#[]⟩),V (I .i64 0),V (.slice O 0 0)] []⟩,[],[0]⟩,⟨⟨S 5,O,.call 48 [.t 3,.t 4]⟩,[3,4],[]⟩,⟨⟨S 6,O,.mv (.t 5)⟩,[5],[]⟩,⟨⟨S 7,S (6,F),L (S 4) (.t 1)⟩,[1,6],[]⟩,⟨⟨S 8,S (6,F),.call 108 [.c (V (.bool T))]⟩,[6],[4]⟩,⟨⟨S 9,S (6,F),.call 48 [.t 7,.t 8]⟩,[7,8,6],[]⟩,⟨⟨S 10,O,.pick (.t 6) (.c (V (.bool T))) (.t 9)⟩,[6,9],[]⟩,⟨⟨S 2,O,.mv (.t 10)⟩,[10],[]⟩]
def f87_d0:ACode:=.draw ue
def f87:ACode:=(Q (R [⟨S 1,O,.box (.t 0)⟩,⟨S 2,O,.mv (.c (V (.bool F)))⟩])
 (Q f87_d0
 .ret))
def f87_fn:AFun:=⟨f87,[.tmp 2]⟩
theorem f87_ok:funOf Tryz.prog 87=some f87_fn:=by kernel_rfl
def uc:List DOp:=[⟨⟨S 20,O,D 3 (.t 3)⟩,[3],[]⟩,⟨⟨S 21,O,L O (.t 20)⟩,[20],[]⟩,⟨⟨S 22,O,L (S 4) (.t 5)⟩,[5],[0,1]⟩,⟨⟨S 23,O,.call 88 [.t 22]⟩,[22],[0,1]⟩,⟨⟨S 24,O,.buildSlice 4 1 [V (I .i64 0),V (G ⟨#[]⟩),V (I .i64 0),V (.slice O 0 0)] [(0,4,(.t 23))]⟩,[23],[0,1]⟩,⟨⟨S 25,O,A 4 56 (.t 21) (.t 24)⟩,[21,24],[]⟩,⟨⟨S 26,O,D 3 (.t 3)⟩,[3],[]⟩,⟨⟨O,O,.store 1 (.t 26) (.t 25)⟩,[26,25],[]⟩]
def f88_d0:ACode:=.draw uc
def pW:ACode:=(Q (R [⟨S 17,O,.bin .lss 3 F (.t 16) (.t 15)⟩])
 (Q (C (.t 17) .skip (.exit 0))
 (Q (.block 1 (Q (R [⟨S 18,O,X 4 (.t 14) (.t 16)⟩,⟨S 19,O,L (S 4) (.t 18)⟩,⟨S 5,O,.alloc [V (I .i64 0),V (G ⟨#[]⟩),V (I .i64 0),V (.slice O 0 0)]⟩,⟨O,O,.store 4 (.t 5) (.t 19)⟩])
 f88_d0))
 (R [⟨S 27,O,.bin .add 3 T (.t 16) (.c (V (I .i64 1)))⟩,⟨S 16,O,.mv (.t 27)⟩]))))
def ud:ACode:=.loop pW
def f88:ACode:=(Q (R [⟨S 1,O,.box (.t 0)⟩,⟨S 2,O,.alloc [V (I .i64 0),V (G ⟨#[]⟩),V (I .i64 0),V (.slice O 0 0)]⟩])
 (Q (R [⟨S 6,O,D 0 (.t 1)⟩,⟨S 7,O,L O (.t 6)⟩,⟨S 8,O,D 1 (.t 1)⟩,⟨S 9,O,L O (.t 8)⟩,⟨S 10,O,D 2 (.t 1)⟩,⟨S 11,O,L O (.t 10)⟩,⟨S 12,O,.build [V (I .i64 0),V (G ⟨#[]⟩),V (I .i64 0),V (.slice O 0 0)] [(0,1,(.t 7)),(1,1,(.t 9)),(2,1,(.t 11))]⟩,⟨S 3,O,.alloc [V (I .i64 0),V (G ⟨#[]⟩),V (I .i64 0),V (.slice O 0 0)]⟩,⟨O,O,.store 4 (.t 3) (.t 12)⟩])
 (Q (Q (R [⟨S 13,O,D 3 (.t 1)⟩,⟨S 14,O,L O (.t 13)⟩,⟨S 15,O,.lenS (.t 14)⟩,⟨S 16,O,.mv (.c (V (I .i64 0)))⟩])
 (.block 0 ud))
 (Q (R [⟨S 28,O,L (S 4) (.t 3)⟩,⟨O,O,.store 4 (.t 2) (.t 28)⟩])
 .ret))))
def f88_fn:AFun:=⟨f88,[.cell 2 (S 4)]⟩
theorem f88_ok:funOf Tryz.prog 88=some f88_fn:=by kernel_rfl
def pU:ACode:=(Q (R [⟨S 38,O,.bin .lss 3 F (.t 37) (.t 36)⟩])
 (Q (C (.t 38) .skip (.exit 0))
 (Q (.block 1 (Q (R [⟨S 39,O,X 1 (.t 35) (.t 37)⟩,⟨S 40,O,L O (.t 39)⟩,⟨S 5,O,.mv (.t 40)⟩])
 (Q (R [⟨S 41,O,.mv (.t 5)⟩,⟨S 42,O,.call 137 [.t 41]⟩,⟨S 43,O,.un .not (.t 42)⟩])
 (C (.t 43) (Q (R [⟨S 2,O,.mv (.c (V (I .i64 3)))⟩])
 .ret) .skip))))
 (R [⟨S 44,O,.bin .add 3 T (.t 37) (.c (V (I .i64 1)))⟩,⟨S 37,O,.mv (.t 44)⟩]))))
def ub:ACode:=.loop pU
def f89:ACode:=(Q (R [⟨S 2,O,.mv (.c (V (I .i64 0)))⟩])
 (Q (Q (R [⟨S 6,O,.mv (.t 0)⟩,⟨S 7,O,.lenStr (.t 6)⟩,⟨S 8,O,.bin .gtr 3 T (.t 7) (.c (V (I .i64 120)))⟩])
 (C (.t 8) (Q (R [⟨S 2,O,.mv (.c (V (I .i64 3)))⟩])
 .ret) .skip))
 (Q (R [⟨S 9,O,.mv (.t 0)⟩,⟨S 10,O,.call 134 [.t 9]⟩,⟨S 3,O,.mv (.t 10)⟩])
 (Q (Q (R [⟨S 11,O,.mv (.t 3)⟩,⟨S 12,O,X 1 (.t 11) (.c (V (I .i64 0)))⟩,⟨S 13,O,L O (.t 12)⟩,⟨S 14,O,.call 135 [.t 13]⟩,⟨S 15,O,.bin .neq 29 T (.t 14) (.c (V (I .i64 0)))⟩,⟨S 16,O,.mv (.t 15)⟩,⟨S 17,S (16,T),.mv (.t 3)⟩,⟨S 18,S (16,T),X 1 (.t 17) (.c (V (I .i64 0)))⟩,⟨S 19,S (16,T),L O (.t 18)⟩,⟨S 20,S (16,T),.call 136 [.t 19]⟩,⟨S 21,S (16,T),.bin .neq 29 T (.t 20) (.c (V (I .i64 0)))⟩,⟨S 22,O,.pick (.t 16) (.t 21) (.c (V (.bool F)))⟩,⟨S 23,O,.mv (.t 22)⟩,⟨S 24,S (23,T),.mv (.t 3)⟩,⟨S 25,S (23,T),X 1 (.t 24) (.c (V (I .i64 0)))⟩,⟨S 26,S (23,T),L O (.t 25)⟩,⟨S 27,S (23,T),.bin .neq 9 T (.t 26) (.c (V (G ⟨#[118]⟩)))⟩,⟨S 28,S (23,T),.mv (.t 27)⟩,⟨S 29,S (28,F),.mv (.t 3)⟩,⟨S 30,S (28,F),.lenS (.t 29)⟩,⟨S 31,S (28,F),.bin .eql 3 T (.t 30) (.c (V (I .i64 1)))⟩,⟨S 32,S (23,T),.pick (.t 28) (.c (V (.bool T))) (.t 31)⟩,⟨S 33,O,.pick (.t 23) (.t 32) (.c (V (.bool F)))⟩])
 (C (.t 33) (Q (R [⟨S 2,O,.mv (.c (V (I .i64 3)))⟩])
 .ret) .skip))
 (Q (Q (R [⟨S 34,O,.mv (.t 3)⟩,⟨S 35,O,.sliceS 1 (.t 34) (S (.c (V (I .i64 1)))) O O⟩,⟨S 36,O,.lenS (.t 35)⟩,⟨S 37,O,.mv (.c (V (I .i64 0)))⟩])
 (.block 0 ub))
 (Q (R [⟨S 2,O,.mv (.c (V (I .i64 0)))⟩])
 .ret))))))
def zh:AFun:=⟨f89,[.tmp 2]⟩
theorem f89_ok:funOf Tryz.prog 89=some zh:=by kernel_rfl
def f108:ACode:=(Q (R [⟨S 2,O,.alloc [V (I .i64 0),V (G ⟨#[]⟩),V (I .i64 0),V (.slice O 0 0)]⟩])
 (Q (Q (R [⟨S 3,O,.mv (.t 0)⟩])
 (C (.t 3) (Q (R [⟨S 4,O,.build [V (I .i64 0),V (G ⟨#[]⟩),V (I .i64 0),V (.slice O 0 0)] [(0,1,(.c (V (I .i64 2)))),(2,1,(.c (V (I .i64 1))))]⟩,⟨O,O,.store 4 (.t 2) (.t 4)⟩])
 .ret) .skip))
 (Q (R [⟨S 5,O,.build [V (I .i64 0),V (G ⟨#[]⟩),V (I .i64 0),V (.slice O 0 0)] [(0,1,(.c (V (I .i64 2))))]⟩,⟨O,O,.store 4 (.t 2) (.t 5)⟩])
 .ret)))
def f108_fn:AFun:=⟨f108,[.cell 2 (S 4)]⟩
theorem f108_ok:funOf Tryz.prog 108=some f108_fn:=by kernel_rfl
def nN:List DOp:=[⟨⟨S 45,O,D 3 (.t 8)⟩,[8],[]⟩,⟨⟨S 46,O,L O (.t 45)⟩,[45],[]⟩,⟨⟨S 47,O,L (S 4) (.t 10)⟩,[10],[0,1]⟩,⟨⟨S 48,O,.mv (.t 1)⟩,[1],[0,1,2]⟩,⟨⟨S 49,O,.mv (.t 2)⟩,[2],[0,1,2,3]⟩,⟨⟨S 50,O,.call 109 [.t 47,.t 48,.t 49]⟩,[47,48,49],[0,1]⟩,⟨⟨S 51,O,.buildSlice 4 1 [V (I .i64 0),V (G ⟨#[]⟩),V (I .i64 0),V (.slice O 0 0)] [(0,4,(.t 50))]⟩,[50],[0,1]⟩,⟨⟨S 52,O,A 4 56 (.t 46) (.t 51)⟩,[46,51],[]⟩,⟨⟨S 53,O,D 3 (.t 8)⟩,[8],[]⟩,⟨⟨O,O,.store 1 (.t 53) (.t 52)⟩,[53,52],[]⟩]
def f109_d0:ACode:=.draw nN
def jY:ACode:=(Q (R [⟨S 42,O,.bin .lss 3 F (.t 41) (.t 40)⟩])
 (Q (C (.t 42) .skip (.exit 0))
 (Q (.block 1 (Q (R [⟨S 43,O,X 4 (.t 39) (.t 41)⟩,⟨S 44,O,L (S 4) (.t 43)⟩,⟨S 10,O,.alloc [V (I .i64 0),V (G ⟨#[]⟩),V (I .i64 0),V (.slice O 0 0)]⟩,⟨O,O,.store 4 (.t 10) (.t 44)⟩])
 f109_d0))
 (R [⟨S 54,O,.bin .add 3 T (.t 41) (.c (V (I .i64 1)))⟩,⟨S 41,O,.mv (.t 54)⟩]))))
def jX:ACode:=.loop jY
def f109:ACode:=(Q (R [⟨S 3,O,.box (.t 0)⟩,⟨S 6,O,.alloc [V (I .i64 0),V (G ⟨#[]⟩),V (I .i64 0),V (.slice O 0 0)]⟩])
 (Q (Q (R [⟨S 11,O,D 0 (.t 3)⟩,⟨S 12,O,L O (.t 11)⟩,⟨S 13,O,.bin .eql 44 T (.t 12) (.c (V (I .i64 3)))⟩])
 (C (.t 13) (Q (R [⟨S 14,O,.mv (.t 1)⟩,⟨S 15,O,D 1 (.t 3)⟩,⟨S 16,O,L O (.t 15)⟩,⟨S 17,O,.call 41 [.t 14,.t 16]⟩,⟨S 7,O,.mv (.t 17)⟩])
 (Q (R [⟨S 18,O,.mv (.t 7)⟩,⟨S 19,O,.bin .geq 3 T (.t 18) (.c (V (I .i64 0)))⟩,⟨S 20,O,.mv (.t 19)⟩,⟨S 21,S (20,T),.mv (.t 7)⟩,⟨S 22,S (20,T),.mv (.t 2)⟩,⟨S 23,S (20,T),.lenS (.t 22)⟩,⟨S 24,S (20,T),.bin .lss 3 F (.t 21) (.t 23)⟩,⟨S 25,O,.pick (.t 20) (.t 24) (.c (V (.bool F)))⟩])
 (C (.t 25) (Q (R [⟨S 26,O,.mv (.t 2)⟩,⟨S 27,O,.mv (.t 7)⟩,⟨S 28,O,X 4 (.t 26) (.t 27)⟩,⟨S 29,O,L (S 4) (.t 28)⟩,⟨S 30,O,.call 88 [.t 29]⟩,⟨O,O,.store 4 (.t 6) (.t 30)⟩])
 .ret) .skip))) .skip))
 (Q (R [⟨S 31,O,D 0 (.t 3)⟩,⟨S 32,O,L O (.t 31)⟩,⟨S 33,O,D 1 (.t 3)⟩,⟨S 34,O,L O (.t 33)⟩,⟨S 35,O,D 2 (.t 3)⟩,⟨S 36,O,L O (.t 35)⟩,⟨S 37,O,.build [V (I .i64 0),V (G ⟨#[]⟩),V (I .i64 0),V (.slice O 0 0)] [(0,1,(.t 32)),(1,1,(.t 34)),(2,1,(.t 36))]⟩,⟨S 8,O,.alloc [V (I .i64 0),V (G ⟨#[]⟩),V (I .i64 0),V (.slice O 0 0)]⟩,⟨O,O,.store 4 (.t 8) (.t 37)⟩])
 (Q (Q (R [⟨S 38,O,D 3 (.t 3)⟩,⟨S 39,O,L O (.t 38)⟩,⟨S 40,O,.lenS (.t 39)⟩,⟨S 41,O,.mv (.c (V (I .i64 0)))⟩])
 (.block 0 jX))
 (Q (R [⟨S 55,O,L (S 4) (.t 8)⟩,⟨O,O,.store 4 (.t 6) (.t 55)⟩])
 .ret)))))
def ge:AFun:=⟨f109,[.cell 6 (S 4)]⟩
theorem f109_ok:funOf Tryz.prog 109=some ge:=by kernel_rfl
def jW:ACode:=(Q (R [⟨S 10,O,.bin .lss 3 F (.t 9) (.t 8)⟩])
 (Q (C (.t 10) .skip (.exit 0))
 (Q (.block 1 (Q (R [⟨S 11,O,X 4 (.t 7) (.t 9)⟩,⟨S 12,O,L (S 4) (.t 11)⟩,⟨S 5,O,.alloc [V (I .i64 0),V (G ⟨#[]⟩),V (I .i64 0),V (.slice O 0 0)]⟩,⟨O,O,.store 4 (.t 5) (.t 12)⟩])
 (R [⟨S 13,O,.mv (.t 3)⟩,⟨S 14,O,L (S 4) (.t 5)⟩,⟨S 15,O,.call 111 [.t 14]⟩,⟨S 16,O,.bin .add 3 F (.t 13) (.t 15)⟩,⟨S 3,O,.mv (.t 16)⟩])))
 (R [⟨S 17,O,.bin .add 3 T (.t 9) (.c (V (I .i64 1)))⟩,⟨S 9,O,.mv (.t 17)⟩]))))
def nM:ACode:=.loop jW
def f111:ACode:=(Q (R [⟨S 1,O,.box (.t 0)⟩,⟨S 2,O,.mv (.c (V (I .i64 0)))⟩])
 (Q (R [⟨S 3,O,.mv (.c (V (I .i64 1)))⟩])
 (Q (Q (R [⟨S 6,O,D 3 (.t 1)⟩,⟨S 7,O,L O (.t 6)⟩,⟨S 8,O,.lenS (.t 7)⟩,⟨S 9,O,.mv (.c (V (I .i64 0)))⟩])
 (.block 0 nM))
 (Q (R [⟨S 18,O,.mv (.t 3)⟩,⟨S 2,O,.mv (.t 18)⟩])
 .ret))))
def f111_fn:AFun:=⟨f111,[.tmp 2]⟩
theorem f111_ok:funOf Tryz.prog 111=some f111_fn:=by kernel_rfl
def jV:ACode:=(Q (R [⟨S 10,O,.bin .lss 3 F (.t 9) (.t 8)⟩])
 (Q (C (.t 10) .skip (.exit 0))
 (Q (.block 1 (Q (R [⟨S 11,O,X 4 (.t 7) (.t 9)⟩,⟨S 12,O,L (S 4) (.t 11)⟩,⟨S 5,O,.alloc [V (I .i64 0),V (G ⟨#[]⟩),V (I .i64 0),V (.slice O 0 0)]⟩,⟨O,O,.store 4 (.t 5) (.t 12)⟩])
 (R [⟨S 13,O,.mv (.t 3)⟩,⟨S 14,O,L (S 4) (.t 5)⟩,⟨S 15,O,.call 112 [.t 14]⟩,⟨S 16,O,.maxI [.t 13,.t 15]⟩,⟨S 3,O,.mv (.t 16)⟩])))
 (R [⟨S 17,O,.bin .add 3 T (.t 9) (.c (V (I .i64 1)))⟩,⟨S 9,O,.mv (.t 17)⟩]))))
def nL:ACode:=.loop jV
def f112:ACode:=(Q (R [⟨S 1,O,.box (.t 0)⟩,⟨S 2,O,.mv (.c (V (I .i64 0)))⟩])
 (Q (R [⟨S 3,O,.mv (.c (V (I .i64 0)))⟩])
 (Q (Q (R [⟨S 6,O,D 3 (.t 1)⟩,⟨S 7,O,L O (.t 6)⟩,⟨S 8,O,.lenS (.t 7)⟩,⟨S 9,O,.mv (.c (V (I .i64 0)))⟩])
 (.block 0 nL))
 (Q (R [⟨S 18,O,.mv (.t 3)⟩,⟨S 19,O,.bin .add 3 T (.t 18) (.c (V (I .i64 1)))⟩,⟨S 2,O,.mv (.t 19)⟩])
 .ret))))
def f112_fn:AFun:=⟨f112,[.tmp 2]⟩
theorem f112_ok:funOf Tryz.prog 112=some f112_fn:=by kernel_rfl
def f113:ACode:=(Q (R [⟨S 1,O,.box (.t 0)⟩,⟨S 2,O,.mv (.c (V .nilFunc))⟩])
 (Q (R [⟨S 3,O,.mkFunc (.func 146) [] [.t 1]⟩,⟨S 2,O,.mv (.t 3)⟩])
 .ret))
def f113_fn:AFun:=⟨f113,[.tmp 2]⟩
theorem f113_ok:funOf Tryz.prog 113=some f113_fn:=by kernel_rfl
def f114:ACode:=(Q (R [⟨S 1,O,.box (.t 0)⟩,⟨S 2,O,.mv (.c (V (I .i64 0)))⟩])
 (Q (Q (R [⟨S 7,O,D 0 (.t 1)⟩,⟨S 8,O,L O (.t 7)⟩,⟨S 9,O,.bin .lss 44 T (.t 8) (.c (V (I .i64 1)))⟩,⟨S 10,O,.mv (.t 9)⟩,⟨S 11,S (10,F),D 0 (.t 1)⟩,⟨S 12,S (10,F),L O (.t 11)⟩,⟨S 13,S (10,F),.bin .gtr 44 T (.t 12) (.c (V (I .i64 18)))⟩,⟨S 14,O,.pick (.t 10) (.c (V (.bool T))) (.t 13)⟩])
 (C (.t 14) (Q (R [⟨S 2,O,.mv (.c (V (I .i64 1)))⟩])
 .ret) .skip))
 (Q (R [⟨S 16,O,D 0 (.t 1)⟩,⟨S 17,O,L O (.t 16)⟩,⟨S 18,O,.call 148 [.t 17]⟩,⟨S 15,O,.mv (.t 18)⟩,⟨S 19,O,.extract 0 (.t 15)⟩,⟨S 20,O,.extract 1 (.t 15)⟩,⟨S 3,O,.mv (.t 19)⟩,⟨S 4,O,.mv (.t 20)⟩])
 (Q (Q (R [⟨S 21,O,D 0 (.t 1)⟩,⟨S 22,O,L O (.t 21)⟩,⟨S 23,O,.call 149 [.t 22]⟩,⟨S 24,O,.un .not (.t 23)⟩,⟨S 25,O,.mv (.t 24)⟩,⟨S 26,S (25,T),D 1 (.t 1)⟩,⟨S 27,S (25,T),L O (.t 26)⟩,⟨S 28,S (25,T),.bin .neq 9 T (.t 27) (.c (V (G ⟨#[]⟩)))⟩,⟨S 29,O,.pick (.t 25) (.t 28) (.c (V (.bool F)))⟩,⟨S 30,O,.mv (.t 29)⟩,⟨S 31,S (30,F),D 0 (.t 1)⟩,⟨S 32,S (30,F),L O (.t 31)⟩,⟨S 33,S (30,F),.bin .neq 44 T (.t 32) (.c (V (I .i64 1)))⟩,⟨S 34,S (30,F),.mv (.t 33)⟩,⟨S 35,S (34,T),D 0 (.t 1)⟩,⟨S 36,S (34,T),L O (.t 35)⟩,⟨S 37,S (34,T),.bin .neq 44 T (.t 36) (.c (V (I .i64 2)))⟩,⟨S 38,S (30,F),.pick (.t 34) (.t 37) (.c (V (.bool F)))⟩,⟨S 39,S (30,F),.mv (.t 38)⟩,⟨S 40,S (39,T),D 2 (.t 1)⟩,⟨S 41,S (39,T),L O (.t 40)⟩,⟨S 42,S (39,T),.bin .neq 3 T (.t 41) (.c (V (I .i64 0)))⟩,⟨S 43,S (30,F),.pick (.t 39) (.t 42) (.c (V (.bool F)))⟩,⟨S 44,O,.pick (.t 30) (.c (V (.bool T))) (.t 43)⟩,⟨S 45,O,.mv (.t 44)⟩,⟨S 46,S (45,F),D 3 (.t 1)⟩,⟨S 47,S (45,F),L O (.t 46)⟩,⟨S 48,S (45,F),.lenS (.t 47)⟩,⟨S 49,S (45,F),.mv (.t 3)⟩,⟨S 50,S (45,F),.bin .lss 3 F (.t 48) (.t 49)⟩,⟨S 51,O,.pick (.t 45) (.c (V (.bool T))) (.t 50)⟩,⟨S 52,O,.mv (.t 51)⟩,⟨S 53,S (52,F),D 3 (.t 1)⟩,⟨S 54,S (52,F),L O (.t 53)⟩,⟨S 55,S (52,F),.lenS (.t 54)⟩,⟨S 56,S (52,F),.mv (.t 4)⟩,⟨S 57,S (52,F),.bin .gtr 3 F (.t 55) (.t 56)⟩,⟨S 58,O,.pick (.t 52) (.c (V (.bool T))) (.t 57)⟩])
 (C (.t 58) (Q (R [⟨S 2,O,.mv (.c (V (I .i64 1)))⟩])
 .ret) .skip))
 (Q (Q (R [⟨S 59,O,D 0 (.t 1)⟩,⟨S 60,O,L O (.t 59)⟩,⟨S 61,O,.bin .eql 44 T (.t 60) (.c (V (I .i64 1)))⟩,⟨S 62,O,.mv (.t 61)⟩,⟨S 63,S (62,T),D 2 (.t 1)⟩,⟨S 64,S (62,T),L O (.t 63)⟩,⟨S 65,S (62,T),.call 150 [.t 64]⟩,⟨S 66,S (62,T),.un .not (.t 65)⟩,⟨S 67,O,.pick (.t 62) (.t 66) (.c (V (.bool F)))⟩,⟨S 68,O,.mv (.t 67)⟩,⟨S 69,S (68,F),D 0 (.t 1)⟩,⟨S 70,S (68,F),L O (.t 69)⟩,⟨S 71,S (68,F),.bin .eql 44 T (.t 70) (.c (V (I .i64 2)))⟩,⟨S 72,S (68,F),.mv (.t 71)⟩,⟨S 73,S (72,T),D 2 (.t 1)⟩,⟨S 74,S (72,T),L O (.t 73)⟩,⟨S 75,S (72,T),.bin .neq 3 T (.t 74) (.c (V (I .i64 0)))⟩,⟨S 76,S (68,F),.pick (.t 72) (.t 75) (.c (V (.bool F)))⟩,⟨S 77,S (68,F),.mv (.t 76)⟩,⟨S 78,S (77,T),D 2 (.t 1)⟩,⟨S 79,S (77,T),L O (.t 78)⟩,⟨S 80,S (77,T),.bin .neq 3 T (.t 79) (.c (V (I .i64 1)))⟩,⟨S 81,S (68,F),.pick (.t 77) (.t 80) (.c (V (.bool F)))⟩,⟨S 82,O,.pick (.t 68) (.c (V (.bool T))) (.t 81)⟩])
 (C (.t 82) (Q (R [⟨S 2,O,.mv (.c (V (I .i64 2)))⟩])
 .ret) .skip))
 (Q (Q (R [⟨S 83,O,D 0 (.t 1)⟩,⟨S 84,O,L O (.t 83)⟩,⟨S 85,O,.call 149 [.t 84]⟩,⟨S 86,O,.mv (.t 85)⟩,⟨S 87,S (86,T),D 1 (.t 1)⟩,⟨S 88,S (86,T),L O (.t 87)⟩,⟨S 89,S (86,T),.call 83 [.t 88]⟩,⟨S 90,S (86,T),.bin .neq 29 T (.t 89) (.c (V (I .i64 0)))⟩,⟨S 91,O,.pick (.t 86) (.t 90) (.c (V (.bool F)))⟩])
 (C (.t 91) (Q (R [⟨S 92,O,D 0 (.t 1)⟩,⟨S 93,O,L O (.t 92)⟩,⟨S 94,O,.bin .eql 44 T (.t 93) (.c (V (I .i64 3)))⟩,⟨S 95,O,.mv (.t 94)⟩,⟨S 96,S (95,T),D 1 (.t 1)⟩,⟨S 97,S (95,T),L O (.t 96)⟩,⟨S 98,S (95,T),.bin .eql 9 T (.t 97) (.c (V (G ⟨#[118]⟩)))⟩,⟨S 99,O,.pick (.t 95) (.t 98) (.c (V (.bool F)))⟩,⟨S 5,O,.mv (.t 99)⟩])
 (Q (R [⟨S 100,O,D 0 (.t 1)⟩,⟨S 101,O,L O (.t 100)⟩,⟨S 102,O,.bin .eql 44 T (.t 101) (.c (V (I .i64 4)))⟩,⟨S 103,O,.mv (.t 102)⟩,⟨S 104,S (103,T),D 1 (.t 1)⟩,⟨S 105,S (103,T),L O (.t 104)⟩,⟨S 106,S (103,T),.bin .eql 9 T (.t 105) (.c (V (G ⟨#[116,97,103]⟩)))⟩,⟨S 107,S (103,T),.mv (.t 106)⟩,⟨S 108,S (107,F),D 1 (.t 1)⟩,⟨S 109,S (107,F),L O (.t 108)⟩,⟨S 110,S (107,F),.bin .eql 9 T (.t 109) (.c (V (G ⟨#[118,97,108]⟩)))⟩,⟨S 111,S (103,T),.pick (.t 107) (.c (V (.bool T))) (.t 110)⟩,⟨S 112,O,.pick (.t 103) (.t 111) (.c (V (.bool F)))⟩,⟨S 6,O,.mv (.t 112)⟩])
 (Q (R [⟨S 113,O,.mv (.t 5)⟩,⟨S 114,O,.un .not (.t 113)⟩,⟨S 115,O,.mv (.t 114)⟩,⟨S 116,S (115,T),.mv (.t 6)⟩,⟨S 117,S (115,T),.un .not (.t 116)⟩,⟨S 118,O,.pick (.t 115) (.t 117) (.c (V (.bool F)))⟩])
 (C (.t 118) (Q (R [⟨S 2,O,.mv (.c (V (I .i64 3)))⟩])
 .ret) .skip)))) .skip))
 (Q (Q (R [⟨S 119,O,D 0 (.t 1)⟩,⟨S 120,O,L O (.t 119)⟩,⟨S 121,O,.bin .eql 44 T (.t 120) (.c (V (I .i64 8)))⟩,⟨S 122,O,.mv (.t 121)⟩,⟨S 123,S (122,T),D 3 (.t 1)⟩,⟨S 124,S (122,T),L O (.t 123)⟩,⟨S 125,S (122,T),X 4 (.t 124) (.c (V (I .i64 0)))⟩,⟨S 126,S (122,T),D 0 (.t 125)⟩,⟨S 127,S (122,T),L O (.t 126)⟩,⟨S 128,S (122,T),.bin .neq 44 T (.t 127) (.c (V (I .i64 1)))⟩,⟨S 129,O,.pick (.t 122) (.t 128) (.c (V (.bool F)))⟩])
 (C (.t 129) (Q (R [⟨S 2,O,.mv (.c (V (I .i64 6)))⟩])
 .ret) .skip))
 (Q (R [⟨S 2,O,.mv (.c (V (I .i64 0)))⟩])
 .ret))))))))
def aL:AFun:=⟨f114,[.tmp 2]⟩
theorem bC:funOf Tryz.prog 114=some aL:=by kernel_rfl
def gY:ACode:=(Q (Q (R [⟨S 11,O,.mv (.t 6)⟩,⟨S 12,O,.bin .geq 3 T (.t 11) (.c (V (I .i64 0)))⟩])
 (C (.t 12) .skip (.exit 0)))
 (Q (.block 1 (Q (R [⟨S 15,O,D 0 (.t 2)⟩,⟨S 16,O,L O (.t 15)⟩,⟨S 17,O,.mv (.t 6)⟩,⟨S 18,O,X 2 (.t 16) (.t 17)⟩,⟨S 19,O,D 0 (.t 18)⟩,⟨S 20,O,L O (.t 19)⟩,⟨S 21,O,.mv (.t 1)⟩,⟨S 22,O,.bin .eql 9 F (.t 20) (.t 21)⟩])
 (C (.t 22) (Q (R [⟨S 23,O,D 0 (.t 2)⟩,⟨S 24,O,L O (.t 23)⟩,⟨S 25,O,.mv (.t 6)⟩,⟨S 26,O,X 2 (.t 24) (.t 25)⟩,⟨S 27,O,D 1 (.t 26)⟩,⟨S 28,O,L O (.t 27)⟩,⟨S 4,O,.mv (.t 28)⟩,⟨S 5,O,.mv (.c (V (.bool T)))⟩])
 .ret) .skip)))
 (R [⟨S 13,O,.mv (.t 6)⟩,⟨S 14,O,.bin .sub 3 T (.t 13) (.c (V (I .i64 1)))⟩,⟨S 6,O,.mv (.t 14)⟩])))
def nK:ACode:=.loop gY
def f115:ACode:=(Q (R [⟨S 2,O,.box (.t 0)⟩,⟨S 4,O,.mv (.c (V (G ⟨#[]⟩)))⟩,⟨S 5,O,.mv (.c (V (.bool F)))⟩])
 (Q (Q (R [⟨S 7,O,D 0 (.t 2)⟩,⟨S 8,O,L O (.t 7)⟩,⟨S 9,O,.lenS (.t 8)⟩,⟨S 10,O,.bin .sub 3 T (.t 9) (.c (V (I .i64 1)))⟩,⟨S 6,O,.mv (.t 10)⟩])
 (.block 0 nK))
 (Q (R [⟨S 4,O,.mv (.c (V (G ⟨#[]⟩)))⟩,⟨S 5,O,.mv (.c (V (.bool F)))⟩])
 .ret)))
def f115_fn:AFun:=⟨f115,[.tmp 4,.tmp 5]⟩
theorem f115_ok:funOf Tryz.prog 115=some f115_fn:=by kernel_rfl
def gX:ACode:=(Q (R [⟨S 40,O,.bin .lss 3 F (.t 39) (.t 38)⟩])
 (Q (C (.t 40) .skip (.exit 0))
 (Q (.block 1 (Q (R [⟨S 41,O,.mv (.t 39)⟩,⟨S 42,O,X 1 (.t 37) (.t 39)⟩,⟨S 43,O,L O (.t 42)⟩,⟨S 10,O,.mv (.t 41)⟩,⟨S 11,O,.mv (.t 43)⟩])
 (Q (R [⟨S 44,O,.mv (.t 11)⟩,⟨S 45,O,D 1 (.t 8)⟩,⟨S 46,O,L O (.t 45)⟩,⟨S 47,O,.mv (.t 10)⟩,⟨S 48,O,X 1 (.t 46) (.t 47)⟩,⟨S 49,O,L O (.t 48)⟩,⟨S 50,O,.bin .neq 79 F (.t 44) (.t 49)⟩])
 (C (.t 50) (Q (R [⟨S 6,O,.mv (.c (V (G ⟨#[]⟩)))⟩,⟨S 7,O,.mv (.c (V (I .i64 11)))⟩])
 .ret) .skip))))
 (R [⟨S 51,O,.bin .add 3 T (.t 39) (.c (V (I .i64 1)))⟩,⟨S 39,O,.mv (.t 51)⟩]))))
def nJ:ACode:=.loop gX
def f116:ACode:=(Q (R [⟨S 3,O,.box (.t 0)⟩,⟨S 6,O,.mv (.c (V (G ⟨#[]⟩)))⟩,⟨S 7,O,.mv (.c (V (I .i64 0)))⟩])
 (Q (R [⟨S 13,O,L (S 3) (.t 3)⟩,⟨S 14,O,.mv (.t 1)⟩,⟨S 15,O,.call 151 [.t 13,.t 14]⟩,⟨S 12,O,.mv (.t 15)⟩,⟨S 16,O,.extract 0 (.t 12)⟩,⟨S 17,O,.extract 1 (.t 12)⟩,⟨S 8,O,.alloc [V (G ⟨#[]⟩),V (.slice O 0 0),V (G ⟨#[]⟩)]⟩,⟨O,O,.store 3 (.t 8) (.t 16)⟩,⟨S 9,O,.mv (.t 17)⟩])
 (Q (Q (R [⟨S 18,O,.mv (.t 9)⟩,⟨S 19,O,.un .not (.t 18)⟩])
 (C (.t 19) (Q (R [⟨S 6,O,.mv (.c (V (G ⟨#[]⟩)))⟩,⟨S 7,O,.mv (.c (V (I .i64 5)))⟩])
 .ret) .skip))
 (Q (Q (R [⟨S 20,O,.mv (.t 1)⟩,⟨S 21,O,.bin .eql 9 T (.t 20) (.c (V (G ⟨#[116,97,103]⟩)))⟩])
 (C (.t 21) (Q (Q (R [⟨S 22,O,.mv (.t 2)⟩,⟨S 23,O,.lenS (.t 22)⟩,⟨S 24,O,.bin .neq 3 T (.t 23) (.c (V (I .i64 1)))⟩])
 (C (.t 24) (Q (R [⟨S 6,O,.mv (.c (V (G ⟨#[]⟩)))⟩,⟨S 7,O,.mv (.c (V (I .i64 13)))⟩])
 .ret) .skip))
 (Q (Q (R [⟨S 25,O,.mv (.t 2)⟩,⟨S 26,O,X 1 (.t 25) (.c (V (I .i64 0)))⟩,⟨S 27,O,L O (.t 26)⟩,⟨S 28,O,.call 152 [.t 27]⟩])
 (C (.t 28) (Q (R [⟨S 6,O,.mv (.c (V (G ⟨#[]⟩)))⟩,⟨S 7,O,.mv (.c (V (I .i64 11)))⟩])
 .ret) .skip))
 (Q (R [⟨S 29,O,D 2 (.t 8)⟩,⟨S 30,O,L O (.t 29)⟩,⟨S 6,O,.mv (.t 30)⟩,⟨S 7,O,.mv (.c (V (I .i64 0)))⟩])
 .ret))) .skip))
 (Q (Q (R [⟨S 31,O,.mv (.t 2)⟩,⟨S 32,O,.lenS (.t 31)⟩,⟨S 33,O,D 1 (.t 8)⟩,⟨S 34,O,L O (.t 33)⟩,⟨S 35,O,.lenS (.t 34)⟩,⟨S 36,O,.bin .neq 3 F (.t 32) (.t 35)⟩])
 (C (.t 36) (Q (R [⟨S 6,O,.mv (.c (V (G ⟨#[]⟩)))⟩,⟨S 7,O,.mv (.c (V (I .i64 13)))⟩])
 .ret) .skip))
 (Q (Q (R [⟨S 37,O,.mv (.t 2)⟩,⟨S 38,O,.lenS (.t 37)⟩,⟨S 39,O,.mv (.c (V (I .i64 0)))⟩])
 (.block 0 nJ))
 (Q (R [⟨S 52,O,D 2 (.t 8)⟩,⟨S 53,O,L O (.t 52)⟩,⟨S 6,O,.mv (.t 53)⟩,⟨S 7,O,.mv (.c (V (I .i64 0)))⟩])
 .ret)))))))
def gW:AFun:=⟨f116,[.tmp 6,.tmp 7]⟩
theorem f116_ok:funOf Tryz.prog 116=some gW:=by kernel_rfl
def gV:ACode:=(Q (R [⟨S 29,O,.bin .lss 3 F (.t 28) (.t 27)⟩])
 (Q (C (.t 29) .skip (.exit 0))
 (Q (.block 1 (Q (R [⟨S 30,O,.mv (.t 28)⟩,⟨S 31,O,X 1 (.t 26) (.t 28)⟩,⟨S 32,O,L O (.t 31)⟩,⟨S 10,O,.mv (.t 30)⟩,⟨S 11,O,.mv (.t 32)⟩])
 (Q (R [⟨S 33,O,.mv (.t 11)⟩,⟨S 34,O,D 1 (.t 8)⟩,⟨S 35,O,L O (.t 34)⟩,⟨S 36,O,.mv (.t 10)⟩,⟨S 37,O,X 2 (.t 35) (.t 36)⟩,⟨S 38,O,D 1 (.t 37)⟩,⟨S 39,O,L O (.t 38)⟩,⟨S 40,O,.bin .neq 79 F (.t 33) (.t 39)⟩])
 (C (.t 40) (Q (R [⟨S 6,O,.mv (.c (V (G ⟨#[]⟩)))⟩,⟨S 7,O,.mv (.c (V (I .i64 11)))⟩])
 .ret) .skip))))
 (R [⟨S 41,O,.bin .add 3 T (.t 28) (.c (V (I .i64 1)))⟩,⟨S 28,O,.mv (.t 41)⟩]))))
def nH:ACode:=.loop gV
def f117:ACode:=(Q (R [⟨S 3,O,.box (.t 0)⟩,⟨S 6,O,.mv (.c (V (G ⟨#[]⟩)))⟩,⟨S 7,O,.mv (.c (V (I .i64 0)))⟩])
 (Q (R [⟨S 13,O,L (S 3) (.t 3)⟩,⟨S 14,O,.mv (.t 1)⟩,⟨S 15,O,.call 153 [.t 13,.t 14]⟩,⟨S 12,O,.mv (.t 15)⟩,⟨S 16,O,.extract 0 (.t 12)⟩,⟨S 17,O,.extract 1 (.t 12)⟩,⟨S 8,O,.alloc [V (G ⟨#[]⟩),V (.slice O 0 0)]⟩,⟨O,O,.store 2 (.t 8) (.t 16)⟩,⟨S 9,O,.mv (.t 17)⟩])
 (Q (Q (R [⟨S 18,O,.mv (.t 9)⟩,⟨S 19,O,.un .not (.t 18)⟩])
 (C (.t 19) (Q (R [⟨S 6,O,.mv (.c (V (G ⟨#[]⟩)))⟩,⟨S 7,O,.mv (.c (V (I .i64 5)))⟩])
 .ret) .skip))
 (Q (Q (R [⟨S 20,O,.mv (.t 2)⟩,⟨S 21,O,.lenS (.t 20)⟩,⟨S 22,O,D 1 (.t 8)⟩,⟨S 23,O,L O (.t 22)⟩,⟨S 24,O,.lenS (.t 23)⟩,⟨S 25,O,.bin .neq 3 F (.t 21) (.t 24)⟩])
 (C (.t 25) (Q (R [⟨S 6,O,.mv (.c (V (G ⟨#[]⟩)))⟩,⟨S 7,O,.mv (.c (V (I .i64 13)))⟩])
 .ret) .skip))
 (Q (Q (R [⟨S 26,O,.mv (.t 2)⟩,⟨S 27,O,.lenS (.t 26)⟩,⟨S 28,O,.mv (.c (V (I .i64 0)))⟩])
 (.block 0 nH))
 (Q (R [⟨S 6,O,.mv (.c (V (G ⟨#[66,111,111,108]⟩)))⟩,⟨S 7,O,.mv (.c (V (I .i64 0)))⟩])
 .ret))))))
def nI:AFun:=⟨f117,[.tmp 6,.tmp 7]⟩
theorem f117_ok:funOf Tryz.prog 117=some nI:=by kernel_rfl
def f118:ACode:=(Q (R [⟨S 2,O,.alloc [V .nilFunc,V (G ⟨#[]⟩)]⟩])
 (Q (Q (R [⟨S 3,O,.mv (.t 0)⟩])
 (.block 0 (Q (Q (R [⟨S 5,O,.bin .eql 44 T (.t 3) (.c (V (I .i64 6)))⟩,⟨S 4,O,.mv (.t 5)⟩])
 (C (.t 4) .skip (Q (R [⟨S 6,O,.bin .eql 44 T (.t 3) (.c (V (I .i64 7)))⟩,⟨S 4,O,.mv (.t 6)⟩])
 (C (.t 4) .skip (Q (R [⟨S 7,O,.bin .eql 44 T (.t 3) (.c (V (I .i64 8)))⟩,⟨S 4,O,.mv (.t 7)⟩])
 (C (.t 4) .skip (R [⟨S 8,O,.bin .eql 44 T (.t 3) (.c (V (I .i64 9)))⟩,⟨S 4,O,.mv (.t 8)⟩])))))))
 (C (.t 4) (Q (R [⟨S 9,O,.call 154 [.c (V (G ⟨#[73,110,116]⟩))]⟩,⟨S 10,O,.build [V .nilFunc,V (G ⟨#[]⟩)] [(0,1,(.t 9)),(1,1,(.c (V (G ⟨#[73,110,116]⟩))))]⟩,⟨O,O,.store 2 (.t 2) (.t 10)⟩])
 .ret) (Q (Q (R [⟨S 12,O,.bin .eql 44 T (.t 3) (.c (V (I .i64 12)))⟩,⟨S 11,O,.mv (.t 12)⟩])
 (C (.t 11) .skip (R [⟨S 13,O,.bin .eql 44 T (.t 3) (.c (V (I .i64 13)))⟩,⟨S 11,O,.mv (.t 13)⟩])))
 (C (.t 11) (Q (R [⟨S 14,O,.call 154 [.c (V (G ⟨#[73,110,116]⟩))]⟩,⟨S 15,O,.build [V .nilFunc,V (G ⟨#[]⟩)] [(0,1,(.t 14)),(1,1,(.c (V (G ⟨#[66,111,111,108]⟩))))]⟩,⟨O,O,.store 2 (.t 2) (.t 15)⟩])
 .ret) (Q (Q (R [⟨S 17,O,.bin .eql 44 T (.t 3) (.c (V (I .i64 10)))⟩,⟨S 16,O,.mv (.t 17)⟩])
 (C (.t 16) .skip (R [⟨S 18,O,.bin .eql 44 T (.t 3) (.c (V (I .i64 11)))⟩,⟨S 16,O,.mv (.t 18)⟩])))
 (C (.t 16) (Q (R [⟨S 19,O,.build [V .nilFunc,V (G ⟨#[]⟩)] [(0,1,(.c (.fn (.func 155) [] []))),(1,1,(.c (V (G ⟨#[66,111,111,108]⟩))))]⟩,⟨O,O,.store 2 (.t 2) (.t 19)⟩])
 .ret) .skip))))))))
 (Q (R [⟨S 20,O,.call 154 [.c (V (G ⟨#[66,111,111,108]⟩))]⟩,⟨S 21,O,.build [V .nilFunc,V (G ⟨#[]⟩)] [(0,1,(.t 20)),(1,1,(.c (V (G ⟨#[66,111,111,108]⟩))))]⟩,⟨O,O,.store 2 (.t 2) (.t 21)⟩])
 .ret)))
def fD:AFun:=⟨f118,[.cell 2 (S 2)]⟩
theorem f118_ok:funOf Tryz.prog 118=some fD:=by kernel_rfl
def f119:ACode:=(Q (R [⟨S 2,O,.mv (.c (V (.bool F)))⟩])
 (Q (R [⟨S 3,O,.mv (.t 0)⟩,⟨S 4,O,.bin .eql 44 T (.t 3) (.c (V (I .i64 3)))⟩,⟨S 5,O,.mv (.t 4)⟩,⟨S 6,S (5,F),.mv (.t 0)⟩,⟨S 7,S (5,F),.bin .eql 44 T (.t 6) (.c (V (I .i64 4)))⟩,⟨S 8,O,.pick (.t 5) (.c (V (.bool T))) (.t 7)⟩,⟨S 9,O,.mv (.t 8)⟩,⟨S 10,S (9,F),.mv (.t 0)⟩,⟨S 11,S (9,F),.bin .eql 44 T (.t 10) (.c (V (I .i64 5)))⟩,⟨S 12,O,.pick (.t 9) (.c (V (.bool T))) (.t 11)⟩,⟨S 2,O,.mv (.t 12)⟩])
 .ret))
def f119_fn:AFun:=⟨f119,[.tmp 2]⟩
theorem f119_ok:funOf Tryz.prog 119=some f119_fn:=by kernel_rfl
def f120:ACode:=(Q (R [⟨S 4,O,.mv (.c (V (.bool F)))⟩])
 (Q (Q (R [⟨S 5,O,.mv (.t 0)⟩])
 (.block 0 (Q (Q (R [⟨S 7,O,.bin .eql 44 T (.t 5) (.c (V (I .i64 1)))⟩,⟨S 6,O,.mv (.t 7)⟩])
 (C (.t 6) .skip (Q (R [⟨S 8,O,.bin .eql 44 T (.t 5) (.c (V (I .i64 2)))⟩,⟨S 6,O,.mv (.t 8)⟩])
 (C (.t 6) .skip (R [⟨S 9,O,.bin .eql 44 T (.t 5) (.c (V (I .i64 3)))⟩,⟨S 6,O,.mv (.t 9)⟩])))))
 (C (.t 6) (Q (R [⟨S 10,O,.mv (.t 1)⟩,⟨S 11,O,.bin .eql 3 T (.t 10) (.c (V (I .i64 0)))⟩,⟨S 4,O,.mv (.t 11)⟩])
 .ret) (Q (Q (R [⟨S 13,O,.bin .eql 44 T (.t 5) (.c (V (I .i64 4)))⟩,⟨S 12,O,.mv (.t 13)⟩])
 (C (.t 12) .skip (R [⟨S 14,O,.bin .eql 44 T (.t 5) (.c (V (I .i64 5)))⟩,⟨S 12,O,.mv (.t 14)⟩])))
 (C (.t 12) (Q (R [⟨S 15,O,.mv (.t 1)⟩,⟨S 16,O,.bin .geq 3 T (.t 15) (.c (V (I .i64 1)))⟩,⟨S 17,O,.mv (.t 16)⟩,⟨S 18,S (17,T),.mv (.t 1)⟩,⟨S 19,S (17,T),.bin .leq 3 T (.t 18) (.c (V (I .i64 24)))⟩,⟨S 20,O,.pick (.t 17) (.t 19) (.c (V (.bool F)))⟩,⟨S 4,O,.mv (.t 20)⟩])
 .ret) (Q (Q (R [⟨S 22,O,.bin .eql 44 T (.t 5) (.c (V (I .i64 9)))⟩,⟨S 21,O,.mv (.t 22)⟩])
 (C (.t 21) .skip (R [⟨S 23,O,.bin .eql 44 T (.t 5) (.c (V (I .i64 14)))⟩,⟨S 21,O,.mv (.t 23)⟩])))
 (C (.t 21) (Q (R [⟨S 24,O,.mv (.t 1)⟩,⟨S 25,O,.bin .eql 3 T (.t 24) (.c (V (I .i64 1)))⟩,⟨S 4,O,.mv (.t 25)⟩])
 .ret) .skip))))))))
 (Q (R [⟨S 26,O,.mv (.t 1)⟩,⟨S 27,O,.bin .eql 3 T (.t 26) (.c (V (I .i64 2)))⟩,⟨S 4,O,.mv (.t 27)⟩])
 .ret)))
def f120_fn:AFun:=⟨f120,[.tmp 4]⟩
theorem f120_ok:funOf Tryz.prog 120=some f120_fn:=by kernel_rfl
def f121:ACode:=(Q (R [⟨S 2,O,.mv (.c (V (.bool F)))⟩])
 (Q (R [⟨S 3,O,.mv (.t 0)⟩,⟨S 4,O,.bin .geq 3 T (.t 3) (.c (V (I .i64 (-1000000000000))))⟩,⟨S 5,O,.mv (.t 4)⟩,⟨S 6,S (5,T),.mv (.t 0)⟩,⟨S 7,S (5,T),.bin .leq 3 T (.t 6) (.c (V (I .i64 1000000000000)))⟩,⟨S 8,O,.pick (.t 5) (.t 7) (.c (V (.bool F)))⟩,⟨S 2,O,.mv (.t 8)⟩])
 .ret))
def f121_fn:AFun:=⟨f121,[.tmp 2]⟩
theorem f121_ok:funOf Tryz.prog 121=some f121_fn:=by kernel_rfl
def f122:ACode:=(Q (R [⟨S 1,O,.box (.t 0)⟩,⟨S 2,O,.mv (.c (V (.bool F)))⟩])
 (Q (Q (R [⟨S 3,O,D 0 (.t 1)⟩,⟨S 4,O,L O (.t 3)⟩])
 (.block 0 (Q (R [⟨S 6,O,.bin .eql 44 T (.t 4) (.c (V (I .i64 3)))⟩,⟨S 5,O,.mv (.t 6)⟩])
 (C (.t 5) (Q (R [⟨S 7,O,D 1 (.t 1)⟩,⟨S 8,O,L O (.t 7)⟩,⟨S 9,O,.bin .eql 9 T (.t 8) (.c (V (G ⟨#[118]⟩)))⟩,⟨S 10,O,.mv (.t 9)⟩,⟨S 11,S (10,F),D 1 (.t 1)⟩,⟨S 12,S (10,F),L O (.t 11)⟩,⟨S 13,S (10,F),.call 89 [.t 12]⟩,⟨S 14,S (10,F),.bin .eql 29 T (.t 13) (.c (V (I .i64 0)))⟩,⟨S 15,O,.pick (.t 10) (.c (V (.bool T))) (.t 14)⟩,⟨S 2,O,.mv (.t 15)⟩])
 .ret) (Q (R [⟨S 17,O,.bin .eql 44 T (.t 4) (.c (V (I .i64 4)))⟩,⟨S 16,O,.mv (.t 17)⟩])
 (C (.t 16) (Q (R [⟨S 18,O,D 1 (.t 1)⟩,⟨S 19,O,L O (.t 18)⟩,⟨S 20,O,.bin .eql 9 T (.t 19) (.c (V (G ⟨#[116,97,103]⟩)))⟩,⟨S 21,O,.mv (.t 20)⟩,⟨S 22,S (21,F),D 1 (.t 1)⟩,⟨S 23,S (21,F),L O (.t 22)⟩,⟨S 24,S (21,F),.bin .eql 9 T (.t 23) (.c (V (G ⟨#[118,97,108]⟩)))⟩,⟨S 25,O,.pick (.t 21) (.c (V (.bool T))) (.t 24)⟩,⟨S 26,O,.mv (.t 25)⟩,⟨S 27,S (26,F),D 1 (.t 1)⟩,⟨S 28,S (26,F),L O (.t 27)⟩,⟨S 29,S (26,F),.call 89 [.t 28]⟩,⟨S 30,S (26,F),.bin .eql 29 T (.t 29) (.c (V (I .i64 0)))⟩,⟨S 31,O,.pick (.t 26) (.c (V (.bool T))) (.t 30)⟩,⟨S 2,O,.mv (.t 31)⟩])
 .ret) (Q (R [⟨S 33,O,.bin .eql 44 T (.t 4) (.c (V (I .i64 5)))⟩,⟨S 32,O,.mv (.t 33)⟩])
 (C (.t 32) (Q (R [⟨S 34,O,D 1 (.t 1)⟩,⟨S 35,O,L O (.t 34)⟩,⟨S 36,O,.call 89 [.t 35]⟩,⟨S 37,O,.bin .eql 29 T (.t 36) (.c (V (I .i64 0)))⟩,⟨S 2,O,.mv (.t 37)⟩])
 .ret) .skip))))))))
 (Q (R [⟨S 2,O,.mv (.c (V (.bool T)))⟩])
 .ret)))
def vc:AFun:=⟨f122,[.tmp 2]⟩
theorem f122_ok:funOf Tryz.prog 122=some vc:=by kernel_rfl
def gU:ACode:=(Q (Q (R [⟨S 7,O,.mv (.t 6)⟩,⟨S 8,O,.mv (.t 0)⟩,⟨S 9,O,.lenS (.t 8)⟩,⟨S 10,O,.bin .lss 3 F (.t 7) (.t 9)⟩,⟨S 11,O,.mv (.t 10)⟩,⟨S 12,S (11,T),.mv (.t 5)⟩,⟨S 13,S (11,T),.mv (.t 1)⟩,⟨S 14,S (11,T),.bin .leq 3 F (.t 12) (.t 13)⟩,⟨S 15,O,.pick (.t 11) (.t 14) (.c (V (.bool F)))⟩])
 (C (.t 15) .skip (.exit 0)))
 (Q (.block 1 (Q (R [⟨S 18,O,.mv (.t 5)⟩,⟨S 19,O,.bin .add 3 T (.t 18) (.c (V (I .i64 1)))⟩,⟨S 20,O,.mv (.t 0)⟩,⟨S 21,O,.mv (.t 6)⟩,⟨S 22,O,X 4 (.t 20) (.t 21)⟩,⟨S 23,O,D 1 (.t 22)⟩,⟨S 24,O,L O (.t 23)⟩,⟨S 25,O,.lenStr (.t 24)⟩,⟨S 26,O,.bin .quo 3 T (.t 25) (.c (V (I .i64 50)))⟩,⟨S 27,O,.bin .add 3 F (.t 19) (.t 26)⟩,⟨S 5,O,.mv (.t 27)⟩])
 (R [⟨S 28,O,.mv (.t 5)⟩,⟨S 29,O,.mv (.t 0)⟩,⟨S 30,O,.mv (.t 6)⟩,⟨S 31,O,X 4 (.t 29) (.t 30)⟩,⟨S 32,O,D 3 (.t 31)⟩,⟨S 33,O,L O (.t 32)⟩,⟨S 34,O,.mv (.t 1)⟩,⟨S 35,O,.mv (.t 5)⟩,⟨S 36,O,.bin .sub 3 F (.t 34) (.t 35)⟩,⟨S 37,O,.call 123 [.t 33,.t 36]⟩,⟨S 38,O,.bin .add 3 F (.t 28) (.t 37)⟩,⟨S 5,O,.mv (.t 38)⟩])))
 (R [⟨S 16,O,.mv (.t 6)⟩,⟨S 17,O,.bin .add 3 T (.t 16) (.c (V (I .i64 1)))⟩,⟨S 6,O,.mv (.t 17)⟩])))
def nG:ACode:=.loop gU
def f123:ACode:=(Q (R [⟨S 4,O,.mv (.c (V (I .i64 0)))⟩])
 (Q (R [⟨S 5,O,.mv (.c (V (I .i64 0)))⟩])
 (Q (Q (R [⟨S 6,O,.mv (.c (V (I .i64 0)))⟩])
 (.block 0 nG))
 (Q (R [⟨S 39,O,.mv (.t 5)⟩,⟨S 4,O,.mv (.t 39)⟩])
 .ret))))
def f123_fn:AFun:=⟨f123,[.tmp 4]⟩
theorem f123_ok:funOf Tryz.prog 123=some f123_fn:=by kernel_rfl
def f127_o0:List DOp:=[⟨⟨S 16,O,.mv (.t 0)⟩,[0],[]⟩,⟨⟨S 17,O,.mv (.t 5)⟩,[5],[0]⟩,⟨⟨S 18,O,.sliceStr (.t 16) O (S (.t 17))⟩,[16,17],[]⟩,⟨⟨S 19,O,.mv (.t 0)⟩,[0],[0,1,2]⟩,⟨⟨S 20,O,.mv (.t 5)⟩,[5],[0,1,2,3]⟩,⟨⟨S 21,O,.bin .add 3 T (.t 20) (.c (V (I .i64 1)))⟩,[20],[0,1,2,3]⟩,⟨⟨S 22,O,.sliceStr (.t 19) (S (.t 21)) O⟩,[19,21],[0,1,2]⟩,⟨⟨S 2,O,.mv (.t 18)⟩,[18],[3,4,5,6]⟩,⟨⟨S 3,O,.mv (.t 22)⟩,[22],[]⟩,⟨⟨S 4,O,.mv (.c (V (.bool T)))⟩,[],[]⟩]
def nF:ACode:=.draw f127_o0
def dy:ACode:=(Q (Q (R [⟨S 6,O,.mv (.t 5)⟩,⟨S 7,O,.mv (.t 0)⟩,⟨S 8,O,.lenStr (.t 7)⟩,⟨S 9,O,.bin .lss 3 F (.t 6) (.t 8)⟩])
 (C (.t 9) .skip (.exit 0)))
 (Q (.block 1 (Q (R [⟨S 12,O,.mv (.t 0)⟩,⟨S 13,O,.mv (.t 5)⟩,⟨S 14,O,.idxStr (.t 12) (.t 13)⟩,⟨S 15,O,.bin .eql 5 T (.t 14) (.c (V (I .u8 46)))⟩])
 (C (.t 15) (Q nF
 .ret) .skip)))
 (R [⟨S 10,O,.mv (.t 5)⟩,⟨S 11,O,.bin .add 3 T (.t 10) (.c (V (I .i64 1)))⟩,⟨S 5,O,.mv (.t 11)⟩])))
def jU:ACode:=.loop dy
def f127:ACode:=(Q (R [⟨S 2,O,.mv (.c (V (G ⟨#[]⟩)))⟩,⟨S 3,O,.mv (.c (V (G ⟨#[]⟩)))⟩,⟨S 4,O,.mv (.c (V (.bool F)))⟩])
 (Q (Q (R [⟨S 5,O,.mv (.c (V (I .i64 0)))⟩])
 (.block 0 jU))
 (Q (R [⟨S 23,O,.mv (.t 0)⟩,⟨S 2,O,.mv (.t 23)⟩,⟨S 3,O,.mv (.c (V (G ⟨#[]⟩)))⟩,⟨S 4,O,.mv (.c (V (.bool F)))⟩])
 .ret)))
def va:AFun:=⟨f127,[.tmp 2,.tmp 3,.tmp 4]⟩
theorem f127_ok:funOf Tryz.prog 127=some va:=by kernel_rfl
def jT:ACode:=(Q (Q (R [⟨S 17,O,.mv (.t 3)⟩,⟨S 18,O,.mv (.t 0)⟩,⟨S 19,O,.lenStr (.t 18)⟩,⟨S 20,O,.bin .lss 3 F (.t 17) (.t 19)⟩])
 (C (.t 20) .skip (.exit 0)))
 (Q (.block 1 (Q (R [⟨S 23,O,.mv (.t 0)⟩,⟨S 24,O,.mv (.t 3)⟩,⟨S 25,O,.idxStr (.t 23) (.t 24)⟩,⟨S 26,O,.call 164 [.t 25]⟩,⟨S 27,O,.un .not (.t 26)⟩,⟨S 28,O,.mv (.t 27)⟩,⟨S 29,S (28,T),.mv (.t 0)⟩,⟨S 30,S (28,T),.mv (.t 3)⟩,⟨S 31,S (28,T),.idxStr (.t 29) (.t 30)⟩,⟨S 32,S (28,T),.call 166 [.t 31]⟩,⟨S 33,S (28,T),.un .not (.t 32)⟩,⟨S 34,O,.pick (.t 28) (.t 33) (.c (V (.bool F)))⟩,⟨S 35,O,.mv (.t 34)⟩,⟨S 36,S (35,T),.mv (.t 0)⟩,⟨S 37,S (35,T),.mv (.t 3)⟩,⟨S 38,S (35,T),.idxStr (.t 36) (.t 37)⟩,⟨S 39,S (35,T),.bin .neq 5 T (.t 38) (.c (V (I .u8 95)))⟩,⟨S 40,O,.pick (.t 35) (.t 39) (.c (V (.bool F)))⟩])
 (C (.t 40) (Q (R [⟨S 2,O,.mv (.c (V (.bool F)))⟩])
 .ret) .skip)))
 (R [⟨S 21,O,.mv (.t 3)⟩,⟨S 22,O,.bin .add 3 T (.t 21) (.c (V (I .i64 1)))⟩,⟨S 3,O,.mv (.t 22)⟩])))
def nE:ACode:=.loop jT
def f128:ACode:=(Q (R [⟨S 2,O,.mv (.c (V (.bool F)))⟩])
 (Q (Q (R [⟨S 4,O,.mv (.t 0)⟩,⟨S 5,O,.call 130 [.t 4]⟩,⟨S 6,O,.un .not (.t 5)⟩,⟨S 7,O,.mv (.t 6)⟩,⟨S 8,S (7,F),.mv (.t 0)⟩,⟨S 9,S (7,F),.idxStr (.t 8) (.c (V (I .i64 0)))⟩,⟨S 10,S (7,F),.call 164 [.t 9]⟩,⟨S 11,S (7,F),.un .not (.t 10)⟩,⟨S 12,O,.pick (.t 7) (.c (V (.bool T))) (.t 11)⟩,⟨S 13,O,.mv (.t 12)⟩,⟨S 14,S (13,F),.mv (.t 0)⟩,⟨S 15,S (13,F),.call 165 [.t 14]⟩,⟨S 16,O,.pick (.t 13) (.c (V (.bool T))) (.t 15)⟩])
 (C (.t 16) (Q (R [⟨S 2,O,.mv (.c (V (.bool F)))⟩])
 .ret) .skip))
 (Q (Q (R [⟨S 3,O,.mv (.c (V (I .i64 1)))⟩])
 (.block 0 nE))
 (Q (R [⟨S 2,O,.mv (.c (V (.bool T)))⟩])
 .ret))))
def jS:AFun:=⟨f128,[.tmp 2]⟩
theorem f128_ok:funOf Tryz.prog 128=some jS:=by kernel_rfl
def f129:ACode:=(Q (R [⟨S 2,O,.mv (.c (V (.bool F)))⟩])
 (Q (Q (R [⟨S 3,O,.mv (.t 0)⟩,⟨S 4,O,.call 130 [.t 3]⟩,⟨S 5,O,.un .not (.t 4)⟩,⟨S 6,O,.mv (.t 5)⟩,⟨S 7,S (6,F),.mv (.t 0)⟩,⟨S 8,S (6,F),.idxStr (.t 7) (.c (V (I .i64 0)))⟩,⟨S 9,S (6,F),.call 167 [.t 8]⟩,⟨S 10,S (6,F),.un .not (.t 9)⟩,⟨S 11,O,.pick (.t 6) (.c (V (.bool T))) (.t 10)⟩,⟨S 12,O,.mv (.t 11)⟩,⟨S 13,S (12,F),.mv (.t 0)⟩,⟨S 14,S (12,F),.call 131 [.t 13]⟩,⟨S 15,S (12,F),.un .not (.t 14)⟩,⟨S 16,O,.pick (.t 12) (.c (V (.bool T))) (.t 15)⟩])
 (C (.t 16) (Q (R [⟨S 2,O,.mv (.c (V (.bool F)))⟩])
 .ret) .skip))
 (Q (R [⟨S 17,O,.mv (.t 0)⟩,⟨S 18,O,.bin .neq 9 T (.t 17) (.c (V (G ⟨#[73,110,116]⟩)))⟩,⟨S 19,O,.mv (.t 18)⟩,⟨S 20,S (19,T),.mv (.t 0)⟩,⟨S 21,S (19,T),.bin .neq 9 T (.t 20) (.c (V (G ⟨#[66,111,111,108]⟩)))⟩,⟨S 22,O,.pick (.t 19) (.t 21) (.c (V (.bool F)))⟩,⟨S 23,O,.mv (.t 22)⟩,⟨S 24,S (23,T),.mv (.t 0)⟩,⟨S 25,S (23,T),.bin .neq 9 T (.t 24) (.c (V (G ⟨#[67,101,108,108]⟩)))⟩,⟨S 26,O,.pick (.t 23) (.t 25) (.c (V (.bool F)))⟩,⟨S 27,O,.mv (.t 26)⟩,⟨S 28,S (27,T),.mv (.t 0)⟩,⟨S 29,S (27,T),.bin .neq 9 T (.t 28) (.c (V (G ⟨#[70,117,110]⟩)))⟩,⟨S 30,O,.pick (.t 27) (.t 29) (.c (V (.bool F)))⟩,⟨S 2,O,.mv (.t 30)⟩])
 .ret)))
def jR:AFun:=⟨f129,[.tmp 2]⟩
theorem f129_ok:funOf Tryz.prog 129=some jR:=by kernel_rfl
def f130:ACode:=(Q (R [⟨S 2,O,.mv (.c (V (.bool F)))⟩])
 (Q (R [⟨S 3,O,.mv (.t 0)⟩,⟨S 4,O,.lenStr (.t 3)⟩,⟨S 5,O,.bin .geq 3 T (.t 4) (.c (V (I .i64 1)))⟩,⟨S 6,O,.mv (.t 5)⟩,⟨S 7,S (6,T),.mv (.t 0)⟩,⟨S 8,S (6,T),.lenStr (.t 7)⟩,⟨S 9,S (6,T),.bin .leq 3 T (.t 8) (.c (V (I .i64 24)))⟩,⟨S 10,O,.pick (.t 6) (.t 9) (.c (V (.bool F)))⟩,⟨S 2,O,.mv (.t 10)⟩])
 .ret))
def f130_fn:AFun:=⟨f130,[.tmp 2]⟩
theorem f130_ok:funOf Tryz.prog 130=some f130_fn:=by kernel_rfl
def jQ:ACode:=(Q (Q (R [⟨S 4,O,.mv (.t 3)⟩,⟨S 5,O,.mv (.t 0)⟩,⟨S 6,O,.lenStr (.t 5)⟩,⟨S 7,O,.bin .lss 3 F (.t 4) (.t 6)⟩])
 (C (.t 7) .skip (.exit 0)))
 (Q (.block 1 (Q (R [⟨S 10,O,.mv (.t 0)⟩,⟨S 11,O,.mv (.t 3)⟩,⟨S 12,O,.idxStr (.t 10) (.t 11)⟩,⟨S 13,O,.call 164 [.t 12]⟩,⟨S 14,O,.un .not (.t 13)⟩,⟨S 15,O,.mv (.t 14)⟩,⟨S 16,S (15,T),.mv (.t 0)⟩,⟨S 17,S (15,T),.mv (.t 3)⟩,⟨S 18,S (15,T),.idxStr (.t 16) (.t 17)⟩,⟨S 19,S (15,T),.call 167 [.t 18]⟩,⟨S 20,S (15,T),.un .not (.t 19)⟩,⟨S 21,O,.pick (.t 15) (.t 20) (.c (V (.bool F)))⟩,⟨S 22,O,.mv (.t 21)⟩,⟨S 23,S (22,T),.mv (.t 0)⟩,⟨S 24,S (22,T),.mv (.t 3)⟩,⟨S 25,S (22,T),.idxStr (.t 23) (.t 24)⟩,⟨S 26,S (22,T),.call 166 [.t 25]⟩,⟨S 27,S (22,T),.un .not (.t 26)⟩,⟨S 28,O,.pick (.t 22) (.t 27) (.c (V (.bool F)))⟩])
 (C (.t 28) (Q (R [⟨S 2,O,.mv (.c (V (.bool F)))⟩])
 .ret) .skip)))
 (R [⟨S 8,O,.mv (.t 3)⟩,⟨S 9,O,.bin .add 3 T (.t 8) (.c (V (I .i64 1)))⟩,⟨S 3,O,.mv (.t 9)⟩])))
def nD:ACode:=.loop jQ
def f131:ACode:=(Q (R [⟨S 2,O,.mv (.c (V (.bool F)))⟩])
 (Q (Q (R [⟨S 3,O,.mv (.c (V (I .i64 0)))⟩])
 (.block 0 nD))
 (Q (R [⟨S 2,O,.mv (.c (V (.bool T)))⟩])
 .ret)))
def f131_fn:AFun:=⟨f131,[.tmp 2]⟩
theorem f131_ok:funOf Tryz.prog 131=some f131_fn:=by kernel_rfl
def jP:ACode:=(Q (Q (R [⟨S 4,O,.mv (.t 3)⟩,⟨S 5,O,.mv (.t 0)⟩,⟨S 6,O,.lenStr (.t 5)⟩,⟨S 7,O,.bin .lss 3 F (.t 4) (.t 6)⟩])
 (C (.t 7) .skip (.exit 0)))
 (Q (.block 1 (Q (R [⟨S 10,O,.mv (.t 0)⟩,⟨S 11,O,.mv (.t 3)⟩,⟨S 12,O,.idxStr (.t 10) (.t 11)⟩,⟨S 13,O,.call 164 [.t 12]⟩,⟨S 14,O,.un .not (.t 13)⟩,⟨S 15,O,.mv (.t 14)⟩,⟨S 16,S (15,T),.mv (.t 3)⟩,⟨S 17,S (15,T),.bin .eql 3 T (.t 16) (.c (V (I .i64 0)))⟩,⟨S 18,S (15,T),.mv (.t 17)⟩,⟨S 19,S (18,F),.mv (.t 0)⟩,⟨S 20,S (18,F),.mv (.t 3)⟩,⟨S 21,S (18,F),.idxStr (.t 19) (.t 20)⟩,⟨S 22,S (18,F),.call 166 [.t 21]⟩,⟨S 23,S (18,F),.un .not (.t 22)⟩,⟨S 24,S (18,F),.mv (.t 23)⟩,⟨S 25,S (24,T),.mv (.t 0)⟩,⟨S 26,S (24,T),.mv (.t 3)⟩,⟨S 27,S (24,T),.idxStr (.t 25) (.t 26)⟩,⟨S 28,S (24,T),.bin .neq 5 T (.t 27) (.c (V (I .u8 95)))⟩,⟨S 29,S (18,F),.pick (.t 24) (.t 28) (.c (V (.bool F)))⟩,⟨S 30,S (15,T),.pick (.t 18) (.c (V (.bool T))) (.t 29)⟩,⟨S 31,O,.pick (.t 15) (.t 30) (.c (V (.bool F)))⟩])
 (C (.t 31) (Q (R [⟨S 2,O,.mv (.c (V (.bool F)))⟩])
 .ret) .skip)))
 (R [⟨S 8,O,.mv (.t 3)⟩,⟨S 9,O,.bin .add 3 T (.t 8) (.c (V (I .i64 1)))⟩,⟨S 3,O,.mv (.t 9)⟩])))
def mz:ACode:=.loop jP
def f132:ACode:=(Q (R [⟨S 2,O,.mv (.c (V (.bool F)))⟩])
 (Q (Q (R [⟨S 3,O,.mv (.c (V (I .i64 0)))⟩])
 (.block 0 mz))
 (Q (R [⟨S 2,O,.mv (.c (V (.bool T)))⟩])
 .ret)))
def f132_fn:AFun:=⟨f132,[.tmp 2]⟩
theorem f132_ok:funOf Tryz.prog 132=some f132_fn:=by kernel_rfl
def f133:ACode:=(Q (R [⟨S 1,O,.box (.t 0)⟩,⟨S 2,O,.mv (.c (V (.slice O 0 0)))⟩])
 (Q (R [⟨S 3,O,L (S 4) (.t 1)⟩,⟨S 4,O,.call 168 [.t 3,.c (V (I .i64 5)),.c (V (.slice O 0 0))]⟩,⟨S 2,O,.mv (.t 4)⟩])
 .ret))
def f133_fn:AFun:=⟨f133,[.tmp 2]⟩
theorem f133_ok:funOf Tryz.prog 133=some f133_fn:=by kernel_rfl
def gT:ACode:=(Q (R [⟨S 9,O,.bin .lss 3 F (.t 8) (.t 7)⟩])
 (Q (C (.t 9) .skip (.exit 0))
 (Q (.block 1 (Q (R [⟨S 10,O,.mv (.t 8)⟩,⟨S 5,O,.mv (.t 10)⟩])
 (Q (R [⟨S 11,O,.mv (.t 0)⟩,⟨S 12,O,.mv (.t 5)⟩,⟨S 13,O,.idxStr (.t 11) (.t 12)⟩,⟨S 14,O,.bin .eql 5 T (.t 13) (.c (V (I .u8 46)))⟩])
 (C (.t 14) (Q (R [⟨S 15,O,.mv (.t 3)⟩,⟨S 16,O,.mv (.t 0)⟩,⟨S 17,O,.mv (.t 4)⟩,⟨S 18,O,.mv (.t 5)⟩,⟨S 19,O,.sliceStr (.t 16) (S (.t 17)) (S (.t 18))⟩,⟨S 20,O,.buildSlice 1 1 [V (G ⟨#[]⟩)] [(0,1,(.t 19))]⟩,⟨S 21,O,A 1 16 (.t 15) (.t 20)⟩,⟨S 3,O,.mv (.t 21)⟩])
 (R [⟨S 22,O,.mv (.t 5)⟩,⟨S 23,O,.bin .add 3 T (.t 22) (.c (V (I .i64 1)))⟩,⟨S 4,O,.mv (.t 23)⟩])) .skip))))
 (R [⟨S 24,O,.bin .add 3 T (.t 8) (.c (V (I .i64 1)))⟩,⟨S 8,O,.mv (.t 24)⟩]))))
def my:ACode:=.loop gT
def f134:ACode:=(Q (R [⟨S 2,O,.mv (.c (V (.slice O 0 0)))⟩])
 (Q (R [⟨S 3,O,.mv (.c (V (.slice O 0 0)))⟩])
 (Q (R [⟨S 4,O,.mv (.c (V (I .i64 0)))⟩])
 (Q (Q (R [⟨S 6,O,.mv (.t 0)⟩,⟨S 7,O,.lenStr (.t 6)⟩,⟨S 8,O,.mv (.c (V (I .i64 0)))⟩])
 (.block 0 my))
 (Q (R [⟨S 25,O,.mv (.t 3)⟩,⟨S 26,O,.mv (.t 0)⟩,⟨S 27,O,.mv (.t 4)⟩,⟨S 28,O,.sliceStr (.t 26) (S (.t 27)) O⟩,⟨S 29,O,.buildSlice 1 1 [V (G ⟨#[]⟩)] [(0,1,(.t 28))]⟩,⟨S 30,O,A 1 16 (.t 25) (.t 29)⟩,⟨S 2,O,.mv (.t 30)⟩])
 .ret)))))
def f134_fn:AFun:=⟨f134,[.tmp 2]⟩
theorem f134_ok:funOf Tryz.prog 134=some f134_fn:=by kernel_rfl
def jO:ACode:=(Q (R [⟨S 25,O,.bin .lss 3 F (.t 24) (.t 23)⟩])
 (Q (C (.t 25) .skip (.exit 0))
 (Q (.block 1 (Q (R [⟨S 26,O,.mv (.t 24)⟩,⟨S 3,O,.mv (.t 26)⟩])
 (Q (R [⟨S 27,O,.mv (.t 0)⟩,⟨S 28,O,.mv (.t 3)⟩,⟨S 29,O,.idxStr (.t 27) (.t 28)⟩,⟨S 30,O,.call 169 [.t 29]⟩,⟨S 31,O,.un .not (.t 30)⟩,⟨S 32,O,.mv (.t 31)⟩,⟨S 33,S (32,T),.mv (.t 0)⟩,⟨S 34,S (32,T),.mv (.t 3)⟩,⟨S 35,S (32,T),.idxStr (.t 33) (.t 34)⟩,⟨S 36,S (32,T),.call 171 [.t 35]⟩,⟨S 37,S (32,T),.un .not (.t 36)⟩,⟨S 38,O,.pick (.t 32) (.t 37) (.c (V (.bool F)))⟩,⟨S 39,O,.mv (.t 38)⟩,⟨S 40,S (39,T),.mv (.t 0)⟩,⟨S 41,S (39,T),.mv (.t 3)⟩,⟨S 42,S (39,T),.idxStr (.t 40) (.t 41)⟩,⟨S 43,S (39,T),.bin .neq 5 T (.t 42) (.c (V (I .u8 95)))⟩,⟨S 44,O,.pick (.t 39) (.t 43) (.c (V (.bool F)))⟩])
 (C (.t 44) (Q (R [⟨S 2,O,.mv (.c (V (I .i64 3)))⟩])
 .ret) .skip))))
 (R [⟨S 45,O,.bin .add 3 T (.t 24) (.c (V (I .i64 1)))⟩,⟨S 24,O,.mv (.t 45)⟩]))))
def jN:ACode:=.loop jO
def f135:ACode:=(Q (R [⟨S 2,O,.mv (.c (V (I .i64 0)))⟩])
 (Q (Q (R [⟨S 4,O,.mv (.t 0)⟩,⟨S 5,O,.lenStr (.t 4)⟩,⟨S 6,O,.bin .lss 3 T (.t 5) (.c (V (I .i64 1)))⟩,⟨S 7,O,.mv (.t 6)⟩,⟨S 8,S (7,F),.mv (.t 0)⟩,⟨S 9,S (7,F),.lenStr (.t 8)⟩,⟨S 10,S (7,F),.bin .gtr 3 T (.t 9) (.c (V (I .i64 24)))⟩,⟨S 11,O,.pick (.t 7) (.c (V (.bool T))) (.t 10)⟩,⟨S 12,O,.mv (.t 11)⟩,⟨S 13,S (12,F),.mv (.t 0)⟩,⟨S 14,S (12,F),.idxStr (.t 13) (.c (V (I .i64 0)))⟩,⟨S 15,S (12,F),.call 169 [.t 14]⟩,⟨S 16,S (12,F),.un .not (.t 15)⟩,⟨S 17,O,.pick (.t 12) (.c (V (.bool T))) (.t 16)⟩,⟨S 18,O,.mv (.t 17)⟩,⟨S 19,S (18,F),.mv (.t 0)⟩,⟨S 20,S (18,F),.call 170 [.t 19]⟩,⟨S 21,O,.pick (.t 18) (.c (V (.bool T))) (.t 20)⟩])
 (C (.t 21) (Q (R [⟨S 2,O,.mv (.c (V (I .i64 3)))⟩])
 .ret) .skip))
 (Q (Q (R [⟨S 22,O,.mv (.t 0)⟩,⟨S 23,O,.lenStr (.t 22)⟩,⟨S 24,O,.mv (.c (V (I .i64 0)))⟩])
 (.block 0 jN))
 (Q (R [⟨S 2,O,.mv (.c (V (I .i64 0)))⟩])
 .ret))))
def mw:AFun:=⟨f135,[.tmp 2]⟩
theorem f135_ok:funOf Tryz.prog 135=some mw:=by kernel_rfl
def jM:ACode:=(Q (R [⟨S 37,O,.bin .lss 3 F (.t 36) (.t 35)⟩])
 (Q (C (.t 37) .skip (.exit 0))
 (Q (.block 1 (Q (R [⟨S 38,O,.mv (.t 36)⟩,⟨S 3,O,.mv (.t 38)⟩])
 (Q (R [⟨S 39,O,.mv (.t 0)⟩,⟨S 40,O,.mv (.t 3)⟩,⟨S 41,O,.idxStr (.t 39) (.t 40)⟩,⟨S 42,O,.call 169 [.t 41]⟩,⟨S 43,O,.un .not (.t 42)⟩,⟨S 44,O,.mv (.t 43)⟩,⟨S 45,S (44,T),.mv (.t 0)⟩,⟨S 46,S (44,T),.mv (.t 3)⟩,⟨S 47,S (44,T),.idxStr (.t 45) (.t 46)⟩,⟨S 48,S (44,T),.call 172 [.t 47]⟩,⟨S 49,S (44,T),.un .not (.t 48)⟩,⟨S 50,O,.pick (.t 44) (.t 49) (.c (V (.bool F)))⟩,⟨S 51,O,.mv (.t 50)⟩,⟨S 52,S (51,T),.mv (.t 0)⟩,⟨S 53,S (51,T),.mv (.t 3)⟩,⟨S 54,S (51,T),.idxStr (.t 52) (.t 53)⟩,⟨S 55,S (51,T),.call 171 [.t 54]⟩,⟨S 56,S (51,T),.un .not (.t 55)⟩,⟨S 57,O,.pick (.t 51) (.t 56) (.c (V (.bool F)))⟩])
 (C (.t 57) (Q (R [⟨S 2,O,.mv (.c (V (I .i64 3)))⟩])
 .ret) .skip))))
 (R [⟨S 58,O,.bin .add 3 T (.t 36) (.c (V (I .i64 1)))⟩,⟨S 36,O,.mv (.t 58)⟩]))))
def jL:ACode:=.loop jM
def f136:ACode:=(Q (R [⟨S 2,O,.mv (.c (V (I .i64 0)))⟩])
 (Q (Q (R [⟨S 4,O,.mv (.t 0)⟩,⟨S 5,O,.lenStr (.t 4)⟩,⟨S 6,O,.bin .lss 3 T (.t 5) (.c (V (I .i64 1)))⟩,⟨S 7,O,.mv (.t 6)⟩,⟨S 8,S (7,F),.mv (.t 0)⟩,⟨S 9,S (7,F),.lenStr (.t 8)⟩,⟨S 10,S (7,F),.bin .gtr 3 T (.t 9) (.c (V (I .i64 24)))⟩,⟨S 11,O,.pick (.t 7) (.c (V (.bool T))) (.t 10)⟩,⟨S 12,O,.mv (.t 11)⟩,⟨S 13,S (12,F),.mv (.t 0)⟩,⟨S 14,S (12,F),.idxStr (.t 13) (.c (V (I .i64 0)))⟩,⟨S 15,S (12,F),.call 172 [.t 14]⟩,⟨S 16,S (12,F),.un .not (.t 15)⟩,⟨S 17,O,.pick (.t 12) (.c (V (.bool T))) (.t 16)⟩,⟨S 18,O,.mv (.t 17)⟩,⟨S 19,S (18,F),.mv (.t 0)⟩,⟨S 20,S (18,F),.bin .eql 9 T (.t 19) (.c (V (G ⟨#[73,110,116]⟩)))⟩,⟨S 21,O,.pick (.t 18) (.c (V (.bool T))) (.t 20)⟩,⟨S 22,O,.mv (.t 21)⟩,⟨S 23,S (22,F),.mv (.t 0)⟩,⟨S 24,S (22,F),.bin .eql 9 T (.t 23) (.c (V (G ⟨#[66,111,111,108]⟩)))⟩,⟨S 25,O,.pick (.t 22) (.c (V (.bool T))) (.t 24)⟩,⟨S 26,O,.mv (.t 25)⟩,⟨S 27,S (26,F),.mv (.t 0)⟩,⟨S 28,S (26,F),.bin .eql 9 T (.t 27) (.c (V (G ⟨#[67,101,108,108]⟩)))⟩,⟨S 29,O,.pick (.t 26) (.c (V (.bool T))) (.t 28)⟩,⟨S 30,O,.mv (.t 29)⟩,⟨S 31,S (30,F),.mv (.t 0)⟩,⟨S 32,S (30,F),.bin .eql 9 T (.t 31) (.c (V (G ⟨#[70,117,110]⟩)))⟩,⟨S 33,O,.pick (.t 30) (.c (V (.bool T))) (.t 32)⟩])
 (C (.t 33) (Q (R [⟨S 2,O,.mv (.c (V (I .i64 3)))⟩])
 .ret) .skip))
 (Q (Q (R [⟨S 34,O,.mv (.t 0)⟩,⟨S 35,O,.lenStr (.t 34)⟩,⟨S 36,O,.mv (.c (V (I .i64 0)))⟩])
 (.block 0 jL))
 (Q (R [⟨S 2,O,.mv (.c (V (I .i64 0)))⟩])
 .ret))))
def mu:AFun:=⟨f136,[.tmp 2]⟩
theorem f136_ok:funOf Tryz.prog 136=some mu:=by kernel_rfl
def jK:ACode:=(Q (R [⟨S 20,O,.bin .lss 3 F (.t 19) (.t 18)⟩])
 (Q (C (.t 20) .skip (.exit 0))
 (Q (.block 1 (Q (R [⟨S 21,O,.mv (.t 19)⟩,⟨S 5,O,.mv (.t 21)⟩])
 (Q (R [⟨S 22,O,.mv (.t 3)⟩,⟨S 23,O,.mv (.t 22)⟩,⟨S 24,S (23,T),.mv (.t 0)⟩,⟨S 25,S (23,T),.mv (.t 5)⟩,⟨S 26,S (23,T),.idxStr (.t 24) (.t 25)⟩,⟨S 27,S (23,T),.call 169 [.t 26]⟩,⟨S 28,S (23,T),.mv (.t 27)⟩,⟨S 29,S (28,F),.mv (.t 0)⟩,⟨S 30,S (28,F),.mv (.t 5)⟩,⟨S 31,S (28,F),.idxStr (.t 29) (.t 30)⟩,⟨S 32,S (28,F),.call 172 [.t 31]⟩,⟨S 33,S (23,T),.pick (.t 28) (.c (V (.bool T))) (.t 32)⟩,⟨S 34,S (23,T),.mv (.t 33)⟩,⟨S 35,S (34,F),.mv (.t 0)⟩,⟨S 36,S (34,F),.mv (.t 5)⟩,⟨S 37,S (34,F),.idxStr (.t 35) (.t 36)⟩,⟨S 38,S (34,F),.call 171 [.t 37]⟩,⟨S 39,S (23,T),.pick (.t 34) (.c (V (.bool T))) (.t 38)⟩,⟨S 40,O,.pick (.t 23) (.t 39) (.c (V (.bool F)))⟩,⟨S 3,O,.mv (.t 40)⟩])
 (R [⟨S 41,O,.mv (.t 4)⟩,⟨S 42,O,.mv (.t 41)⟩,⟨S 43,S (42,T),.mv (.t 0)⟩,⟨S 44,S (42,T),.mv (.t 5)⟩,⟨S 45,S (42,T),.idxStr (.t 43) (.t 44)⟩,⟨S 46,S (42,T),.call 169 [.t 45]⟩,⟨S 47,S (42,T),.mv (.t 46)⟩,⟨S 48,S (47,F),.mv (.t 0)⟩,⟨S 49,S (47,F),.mv (.t 5)⟩,⟨S 50,S (47,F),.idxStr (.t 48) (.t 49)⟩,⟨S 51,S (47,F),.call 171 [.t 50]⟩,⟨S 52,S (42,T),.pick (.t 47) (.c (V (.bool T))) (.t 51)⟩,⟨S 53,S (42,T),.mv (.t 52)⟩,⟨S 54,S (53,F),.mv (.t 0)⟩,⟨S 55,S (53,F),.mv (.t 5)⟩,⟨S 56,S (53,F),.idxStr (.t 54) (.t 55)⟩,⟨S 57,S (53,F),.bin .eql 5 T (.t 56) (.c (V (I .u8 95)))⟩,⟨S 58,S (42,T),.pick (.t 53) (.c (V (.bool T))) (.t 57)⟩,⟨S 59,O,.pick (.t 42) (.t 58) (.c (V (.bool F)))⟩,⟨S 4,O,.mv (.t 59)⟩]))))
 (R [⟨S 60,O,.bin .add 3 T (.t 19) (.c (V (I .i64 1)))⟩,⟨S 19,O,.mv (.t 60)⟩]))))
def ms:ACode:=.loop jK
def f137:ACode:=(Q (R [⟨S 2,O,.mv (.c (V (.bool F)))⟩])
 (Q (Q (R [⟨S 6,O,.mv (.t 0)⟩,⟨S 7,O,.lenStr (.t 6)⟩,⟨S 8,O,.bin .lss 3 T (.t 7) (.c (V (I .i64 1)))⟩,⟨S 9,O,.mv (.t 8)⟩,⟨S 10,S (9,F),.mv (.t 0)⟩,⟨S 11,S (9,F),.lenStr (.t 10)⟩,⟨S 12,S (9,F),.bin .gtr 3 T (.t 11) (.c (V (I .i64 24)))⟩,⟨S 13,O,.pick (.t 9) (.c (V (.bool T))) (.t 12)⟩])
 (C (.t 13) (Q (R [⟨S 2,O,.mv (.c (V (.bool F)))⟩])
 .ret) .skip))
 (Q (R [⟨S 3,O,.mv (.c (V (.bool T)))⟩])
 (Q (R [⟨S 14,O,.mv (.t 0)⟩,⟨S 15,O,.idxStr (.t 14) (.c (V (I .i64 0)))⟩,⟨S 16,O,.call 169 [.t 15]⟩,⟨S 4,O,.mv (.t 16)⟩])
 (Q (Q (R [⟨S 17,O,.mv (.t 0)⟩,⟨S 18,O,.lenStr (.t 17)⟩,⟨S 19,O,.mv (.c (V (I .i64 0)))⟩])
 (.block 0 ms))
 (Q (R [⟨S 61,O,.mv (.t 3)⟩,⟨S 62,O,.mv (.t 61)⟩,⟨S 63,S (62,F),.mv (.t 4)⟩,⟨S 64,O,.pick (.t 62) (.c (V (.bool T))) (.t 63)⟩,⟨S 2,O,.mv (.t 64)⟩])
 .ret))))))
def mt:AFun:=⟨f137,[.tmp 2]⟩
theorem f137_ok:funOf Tryz.prog 137=some mt:=by kernel_rfl
def f146:ACode:=(R [⟨S 3,O,L (S 4) (.t 1)⟩,⟨S 4,O,.mv (.t 0)⟩,⟨S 5,O,.call 147 [.t 3,.t 4]⟩])
def f146_fn:AFun:=⟨f146,[]⟩
theorem f146_ok:funOf Tryz.prog 146=some f146_fn:=by kernel_rfl
def gS:ACode:=(Q (R [⟨S 15,O,.bin .lss 3 F (.t 14) (.t 13)⟩])
 (Q (C (.t 15) .skip (.exit 0))
 (Q (.block 1 (Q (R [⟨S 16,O,X 4 (.t 12) (.t 14)⟩,⟨S 17,O,L (S 4) (.t 16)⟩,⟨S 6,O,.alloc [V (I .i64 0),V (G ⟨#[]⟩),V (I .i64 0),V (.slice O 0 0)]⟩,⟨O,O,.store 4 (.t 6) (.t 17)⟩])
 (Q (R [⟨S 18,O,L (S 4) (.t 6)⟩,⟨S 19,O,.mv (.t 1)⟩,⟨S 20,O,.call 147 [.t 18,.t 19]⟩,⟨S 21,O,.un .not (.t 20)⟩])
 (C (.t 21) (Q (R [⟨S 4,O,.mv (.c (V (.bool F)))⟩])
 .ret) .skip))))
 (R [⟨S 22,O,.bin .add 3 T (.t 14) (.c (V (I .i64 1)))⟩,⟨S 14,O,.mv (.t 22)⟩]))))
def mr:ACode:=.loop gS
def f147:ACode:=(Q (R [⟨S 2,O,.box (.t 0)⟩,⟨S 4,O,.mv (.c (V (.bool F)))⟩])
 (Q (Q (R [⟨S 7,O,.mv (.t 1)⟩,⟨S 8,O,L (S 4) (.t 2)⟩,⟨S 9,O,.callv (.t 7) [.t 8]⟩,⟨S 10,O,.un .not (.t 9)⟩])
 (C (.t 10) (Q (R [⟨S 4,O,.mv (.c (V (.bool F)))⟩])
 .ret) .skip))
 (Q (Q (R [⟨S 11,O,D 3 (.t 2)⟩,⟨S 12,O,L O (.t 11)⟩,⟨S 13,O,.lenS (.t 12)⟩,⟨S 14,O,.mv (.c (V (I .i64 0)))⟩])
 (.block 0 mr))
 (Q (R [⟨S 4,O,.mv (.c (V (.bool T)))⟩])
 .ret))))
def vZ:AFun:=⟨f147,[.tmp 4]⟩
theorem f147_ok:funOf Tryz.prog 147=some vZ:=by kernel_rfl
def f148:ACode:=(Q (R [⟨S 2,O,.mv (.c (V (I .i64 0)))⟩,⟨S 3,O,.mv (.c (V (I .i64 0)))⟩])
 (Q (Q (R [⟨S 4,O,.mv (.t 0)⟩])
 (.block 0 (Q (Q (R [⟨S 6,O,.bin .eql 44 T (.t 4) (.c (V (I .i64 1)))⟩,⟨S 5,O,.mv (.t 6)⟩])
 (C (.t 5) .skip (Q (R [⟨S 7,O,.bin .eql 44 T (.t 4) (.c (V (I .i64 2)))⟩,⟨S 5,O,.mv (.t 7)⟩])
 (C (.t 5) .skip (R [⟨S 8,O,.bin .eql 44 T (.t 4) (.c (V (I .i64 3)))⟩,⟨S 5,O,.mv (.t 8)⟩])))))
 (C (.t 5) (Q (R [⟨S 2,O,.mv (.c (V (I .i64 0)))⟩,⟨S 3,O,.mv (.c (V (I .i64 0)))⟩])
 .ret) (Q (Q (R [⟨S 10,O,.bin .eql 44 T (.t 4) (.c (V (I .i64 4)))⟩,⟨S 9,O,.mv (.t 10)⟩])
 (C (.t 9) .skip (R [⟨S 11,O,.bin .eql 44 T (.t 4) (.c (V (I .i64 5)))⟩,⟨S 9,O,.mv (.t 11)⟩])))
 (C (.t 9) (Q (R [⟨S 2,O,.mv (.c (V (I .i64 1)))⟩,⟨S 3,O,.mv (.c (V (I .i64 24)))⟩])
 .ret) (Q (Q (R [⟨S 13,O,.bin .eql 44 T (.t 4) (.c (V (I .i64 9)))⟩,⟨S 12,O,.mv (.t 13)⟩])
 (C (.t 12) .skip (R [⟨S 14,O,.bin .eql 44 T (.t 4) (.c (V (I .i64 14)))⟩,⟨S 12,O,.mv (.t 14)⟩])))
 (C (.t 12) (Q (R [⟨S 2,O,.mv (.c (V (I .i64 1)))⟩,⟨S 3,O,.mv (.c (V (I .i64 1)))⟩])
 .ret) .skip))))))))
 (Q (R [⟨S 2,O,.mv (.c (V (I .i64 2)))⟩,⟨S 3,O,.mv (.c (V (I .i64 2)))⟩])
 .ret)))
def jJ:AFun:=⟨f148,[.tmp 2,.tmp 3]⟩
theorem mq:funOf Tryz.prog 148=some jJ:=by kernel_rfl
def f149:ACode:=(Q (R [⟨S 2,O,.mv (.c (V (.bool F)))⟩])
 (Q (R [⟨S 3,O,.mv (.t 0)⟩,⟨S 4,O,.bin .eql 44 T (.t 3) (.c (V (I .i64 3)))⟩,⟨S 5,O,.mv (.t 4)⟩,⟨S 6,S (5,F),.mv (.t 0)⟩,⟨S 7,S (5,F),.bin .eql 44 T (.t 6) (.c (V (I .i64 4)))⟩,⟨S 8,O,.pick (.t 5) (.c (V (.bool T))) (.t 7)⟩,⟨S 9,O,.mv (.t 8)⟩,⟨S 10,S (9,F),.mv (.t 0)⟩,⟨S 11,S (9,F),.bin .eql 44 T (.t 10) (.c (V (I .i64 5)))⟩,⟨S 12,O,.pick (.t 9) (.c (V (.bool T))) (.t 11)⟩,⟨S 2,O,.mv (.t 12)⟩])
 .ret))
def f149_fn:AFun:=⟨f149,[.tmp 2]⟩
theorem f149_ok:funOf Tryz.prog 149=some f149_fn:=by kernel_rfl
def f150:ACode:=(Q (R [⟨S 2,O,.mv (.c (V (.bool F)))⟩])
 (Q (R [⟨S 3,O,.mv (.t 0)⟩,⟨S 4,O,.bin .geq 3 T (.t 3) (.c (V (I .i64 (-1000000000000))))⟩,⟨S 5,O,.mv (.t 4)⟩,⟨S 6,S (5,T),.mv (.t 0)⟩,⟨S 7,S (5,T),.bin .leq 3 T (.t 6) (.c (V (I .i64 1000000000000)))⟩,⟨S 8,O,.pick (.t 5) (.t 7) (.c (V (.bool F)))⟩,⟨S 2,O,.mv (.t 8)⟩])
 .ret))
def f150_fn:AFun:=⟨f150,[.tmp 2]⟩
theorem f150_ok:funOf Tryz.prog 150=some f150_fn:=by kernel_rfl
def gR:ACode:=(Q (R [⟨S 20,O,.bin .lss 3 F (.t 19) (.t 18)⟩])
 (Q (C (.t 20) .skip (.exit 1))
 (Q (.block 2 (Q (R [⟨S 21,O,X 3 (.t 17) (.t 19)⟩,⟨S 22,O,L (S 3) (.t 21)⟩,⟨S 7,O,.alloc [V (G ⟨#[]⟩),V (.slice O 0 0),V (G ⟨#[]⟩)]⟩,⟨O,O,.store 3 (.t 7) (.t 22)⟩])
 (Q (R [⟨S 23,O,D 0 (.t 7)⟩,⟨S 24,O,L O (.t 23)⟩,⟨S 25,O,.mv (.t 1)⟩,⟨S 26,O,.bin .eql 9 F (.t 24) (.t 25)⟩])
 (C (.t 26) (Q (R [⟨S 27,O,D 1 (.t 7)⟩,⟨S 28,O,L O (.t 27)⟩,⟨S 29,O,.call 178 [.t 28]⟩,⟨S 30,O,D 1 (.t 7)⟩,⟨O,O,.store 1 (.t 30) (.t 29)⟩])
 (Q (R [⟨S 31,O,L (S 3) (.t 7)⟩,⟨O,O,.store 3 (.t 4) (.t 31)⟩,⟨S 5,O,.mv (.c (V (.bool T)))⟩])
 .ret)) .skip))))
 (R [⟨S 32,O,.bin .add 3 T (.t 19) (.c (V (I .i64 1)))⟩,⟨S 19,O,.mv (.t 32)⟩]))))
def mm:ACode:=.loop gR
def f151:ACode:=(Q (R [⟨S 2,O,.box (.t 0)⟩,⟨S 4,O,.alloc [V (G ⟨#[]⟩),V (.slice O 0 0),V (G ⟨#[]⟩)]⟩,⟨S 5,O,.mv (.c (V (.bool F)))⟩])
 (Q (Q (R [⟨S 8,O,.mv (.t 1)⟩])
 (.block 0 (Q (R [⟨S 10,O,.bin .eql 9 T (.t 8) (.c (V (G ⟨#[116,97,103]⟩)))⟩,⟨S 9,O,.mv (.t 10)⟩])
 (C (.t 9) (Q (R [⟨S 11,O,.build [V (G ⟨#[]⟩),V (.slice O 0 0),V (G ⟨#[]⟩)] [(0,1,(.c (V (G ⟨#[116,97,103]⟩)))),(2,1,(.c (V (G ⟨#[73,110,116]⟩))))]⟩,⟨O,O,.store 3 (.t 4) (.t 11)⟩,⟨S 5,O,.mv (.c (V (.bool T)))⟩])
 .ret) (Q (R [⟨S 13,O,.bin .eql 9 T (.t 8) (.c (V (G ⟨#[118,97,108]⟩)))⟩,⟨S 12,O,.mv (.t 13)⟩])
 (C (.t 12) (Q (R [⟨S 14,O,.buildSlice 1 1 [V (G ⟨#[]⟩)] [(0,1,(.c (V (G ⟨#[67,101,108,108]⟩))))]⟩,⟨S 15,O,.build [V (G ⟨#[]⟩),V (.slice O 0 0),V (G ⟨#[]⟩)] [(0,1,(.c (V (G ⟨#[118,97,108]⟩)))),(1,1,(.t 14)),(2,1,(.c (V (G ⟨#[73,110,116]⟩))))]⟩,⟨O,O,.store 3 (.t 4) (.t 15)⟩,⟨S 5,O,.mv (.c (V (.bool T)))⟩])
 .ret) .skip))))))
 (Q (Q (R [⟨S 16,O,D 1 (.t 2)⟩,⟨S 17,O,L O (.t 16)⟩,⟨S 18,O,.lenS (.t 17)⟩,⟨S 19,O,.mv (.c (V (I .i64 0)))⟩])
 (.block 1 mm))
 (Q (R [⟨S 33,O,.build [V (G ⟨#[]⟩),V (.slice O 0 0),V (G ⟨#[]⟩)] []⟩,⟨O,O,.store 3 (.t 4) (.t 33)⟩,⟨S 5,O,.mv (.c (V (.bool F)))⟩])
 .ret))))
def mn:AFun:=⟨f151,[.cell 4 (S 3),.tmp 5]⟩
theorem f151_ok:funOf Tryz.prog 151=some mn:=by kernel_rfl
def f152:ACode:=(Q (R [⟨S 2,O,.mv (.c (V (.bool F)))⟩])
 (Q (R [⟨S 3,O,.mv (.t 0)⟩,⟨S 4,O,.bin .eql 79 T (.t 3) (.c (V (G ⟨#[73,110,116]⟩)))⟩,⟨S 5,O,.mv (.t 4)⟩,⟨S 6,S (5,F),.mv (.t 0)⟩,⟨S 7,S (5,F),.bin .eql 79 T (.t 6) (.c (V (G ⟨#[66,111,111,108]⟩)))⟩,⟨S 8,O,.pick (.t 5) (.c (V (.bool T))) (.t 7)⟩,⟨S 9,O,.mv (.t 8)⟩,⟨S 10,S (9,F),.mv (.t 0)⟩,⟨S 11,S (9,F),.bin .eql 79 T (.t 10) (.c (V (G ⟨#[67,101,108,108]⟩)))⟩,⟨S 12,O,.pick (.t 9) (.c (V (.bool T))) (.t 11)⟩,⟨S 2,O,.mv (.t 12)⟩])
 .ret))
def ml:AFun:=⟨f152,[.tmp 2]⟩
theorem f152_ok:funOf Tryz.prog 152=some ml:=by kernel_rfl
def gQ:ACode:=(Q (R [⟨S 12,O,.bin .lss 3 F (.t 11) (.t 10)⟩])
 (Q (C (.t 12) .skip (.exit 0))
 (Q (.block 1 (Q (R [⟨S 13,O,X 2 (.t 9) (.t 11)⟩,⟨S 14,O,L (S 2) (.t 13)⟩,⟨S 7,O,.alloc [V (G ⟨#[]⟩),V (.slice O 0 0)]⟩,⟨O,O,.store 2 (.t 7) (.t 14)⟩])
 (Q (R [⟨S 15,O,D 0 (.t 7)⟩,⟨S 16,O,L O (.t 15)⟩,⟨S 17,O,.mv (.t 1)⟩,⟨S 18,O,.bin .eql 9 F (.t 16) (.t 17)⟩])
 (C (.t 18) (Q (R [⟨S 19,O,D 1 (.t 7)⟩,⟨S 20,O,L O (.t 19)⟩,⟨S 21,O,.call 45 [.t 20]⟩,⟨S 22,O,D 1 (.t 7)⟩,⟨O,O,.store 1 (.t 22) (.t 21)⟩])
 (Q (R [⟨S 23,O,L (S 2) (.t 7)⟩,⟨O,O,.store 2 (.t 4) (.t 23)⟩,⟨S 5,O,.mv (.c (V (.bool T)))⟩])
 .ret)) .skip))))
 (R [⟨S 24,O,.bin .add 3 T (.t 11) (.c (V (I .i64 1)))⟩,⟨S 11,O,.mv (.t 24)⟩]))))
def mj:ACode:=.loop gQ
def f153:ACode:=(Q (R [⟨S 2,O,.box (.t 0)⟩,⟨S 4,O,.alloc [V (G ⟨#[]⟩),V (.slice O 0 0)]⟩,⟨S 5,O,.mv (.c (V (.bool F)))⟩])
 (Q (Q (R [⟨S 8,O,D 2 (.t 2)⟩,⟨S 9,O,L O (.t 8)⟩,⟨S 10,O,.lenS (.t 9)⟩,⟨S 11,O,.mv (.c (V (I .i64 0)))⟩])
 (.block 0 mj))
 (Q (R [⟨S 25,O,.build [V (G ⟨#[]⟩),V (.slice O 0 0)] []⟩,⟨O,O,.store 2 (.t 4) (.t 25)⟩,⟨S 5,O,.mv (.c (V (.bool F)))⟩])
 .ret)))
def f153_fn:AFun:=⟨f153,[.cell 4 (S 2),.tmp 5]⟩
theorem f153_ok:funOf Tryz.prog 153=some f153_fn:=by kernel_rfl
def f154:ACode:=(Q (R [⟨S 1,O,.box (.t 0)⟩,⟨S 2,O,.mv (.c (V .nilFunc))⟩])
 (Q (R [⟨S 3,O,.mkFunc (.func 179) [] [.t 1]⟩,⟨S 2,O,.mv (.t 3)⟩])
 .ret))
def f154_fn:AFun:=⟨f154,[.tmp 2]⟩
theorem f154_ok:funOf Tryz.prog 154=some f154_fn:=by kernel_rfl
def f155_o0:List DOp:=[⟨⟨S 3,O,.mv (.t 0)⟩,[0],[]⟩,⟨⟨S 4,O,X 1 (.t 3) (.c (V (I .i64 0)))⟩,[3],[]⟩,⟨⟨S 5,O,L O (.t 4)⟩,[4],[]⟩,⟨⟨S 6,O,.mv (.t 0)⟩,[0],[0,1,2]⟩,⟨⟨S 7,O,X 1 (.t 6) (.c (V (I .i64 1)))⟩,[6],[0,1,2]⟩,⟨⟨S 8,O,L O (.t 7)⟩,[7],[0,1,2]⟩,⟨⟨S 9,O,.bin .eql 79 F (.t 5) (.t 8)⟩,[5,8],[]⟩,⟨⟨S 2,O,.mv (.t 9)⟩,[9],[]⟩]
def f155_d0:ACode:=.draw f155_o0
def f155:ACode:=(Q (R [⟨S 2,O,.mv (.c (V (.bool F)))⟩])
 (Q f155_d0
 .ret))
def f155_fn:AFun:=⟨f155,[.tmp 2]⟩
theorem f155_ok:funOf Tryz.prog 155=some f155_fn:=by kernel_rfl
def f164:ACode:=(Q (R [⟨S 2,O,.mv (.c (V (.bool F)))⟩])
 (Q (R [⟨S 3,O,.mv (.t 0)⟩,⟨S 4,O,.bin .leq 5 T (.c (V (I .u8 97))) (.t 3)⟩,⟨S 5,O,.mv (.t 4)⟩,⟨S 6,S (5,T),.mv (.t 0)⟩,⟨S 7,S (5,T),.bin .leq 5 T (.t 6) (.c (V (I .u8 122)))⟩,⟨S 8,O,.pick (.t 5) (.t 7) (.c (V (.bool F)))⟩,⟨S 2,O,.mv (.t 8)⟩])
 .ret))
def f164_fn:AFun:=⟨f164,[.tmp 2]⟩
theorem f164_ok:funOf Tryz.prog 164=some f164_fn:=by kernel_rfl
def jI:ACode:=(Q (R [⟨S 7,O,.bin .lss 3 T (.t 6) (.c (V (I .i64 42)))⟩])
 (Q (C (.t 7) .skip (.exit 0))
 (Q (.block 1 (Q (R [⟨S 8,O,.idxA 42 1 O (.t 5) (.t 6)⟩,⟨S 4,O,.mv (.t 8)⟩])
 (Q (R [⟨S 9,O,.mv (.t 4)⟩,⟨S 10,O,.mv (.t 0)⟩,⟨S 11,O,.bin .eql 9 F (.t 9) (.t 10)⟩])
 (C (.t 11) (Q (R [⟨S 2,O,.mv (.c (V (.bool T)))⟩])
 .ret) .skip))))
 (R [⟨S 12,O,.bin .add 3 T (.t 6) (.c (V (I .i64 1)))⟩,⟨S 6,O,.mv (.t 12)⟩]))))
def mi:ACode:=.loop jI
def f165:ACode:=(Q (R [⟨S 2,O,.mv (.c (V (.bool F)))⟩])
 (Q (Q (R [⟨S 5,O,L (S 42) (.c (V (.pointer (S ⟨0,0,O⟩))))⟩,⟨S 6,O,.mv (.c (V (I .i64 0)))⟩])
 (.block 0 mi))
 (Q (R [⟨S 2,O,.mv (.c (V (.bool F)))⟩])
 .ret)))
def f165_fn:AFun:=⟨f165,[.tmp 2]⟩
theorem f165_ok:funOf Tryz.prog 165=some f165_fn:=by kernel_rfl
def f166:ACode:=(Q (R [⟨S 2,O,.mv (.c (V (.bool F)))⟩])
 (Q (R [⟨S 3,O,.mv (.t 0)⟩,⟨S 4,O,.bin .leq 5 T (.c (V (I .u8 48))) (.t 3)⟩,⟨S 5,O,.mv (.t 4)⟩,⟨S 6,S (5,T),.mv (.t 0)⟩,⟨S 7,S (5,T),.bin .leq 5 T (.t 6) (.c (V (I .u8 57)))⟩,⟨S 8,O,.pick (.t 5) (.t 7) (.c (V (.bool F)))⟩,⟨S 2,O,.mv (.t 8)⟩])
 .ret))
def f166_fn:AFun:=⟨f166,[.tmp 2]⟩
theorem f166_ok:funOf Tryz.prog 166=some f166_fn:=by kernel_rfl
def f167:ACode:=(Q (R [⟨S 2,O,.mv (.c (V (.bool F)))⟩])
 (Q (R [⟨S 3,O,.mv (.t 0)⟩,⟨S 4,O,.bin .leq 5 T (.c (V (I .u8 65))) (.t 3)⟩,⟨S 5,O,.mv (.t 4)⟩,⟨S 6,S (5,T),.mv (.t 0)⟩,⟨S 7,S (5,T),.bin .leq 5 T (.t 6) (.c (V (I .u8 90)))⟩,⟨S 8,O,.pick (.t 5) (.t 7) (.c (V (.bool F)))⟩,⟨S 2,O,.mv (.t 8)⟩])
 .ret))
def f167_fn:AFun:=⟨f167,[.tmp 2]⟩
theorem f167_ok:funOf Tryz.prog 167=some f167_fn:=by kernel_rfl
def jH:ACode:=(Q (R [⟨S 13,O,.bin .lss 3 F (.t 12) (.t 11)⟩])
 (Q (C (.t 13) .skip (.exit 0))
 (Q (.block 1 (Q (R [⟨S 14,O,X 4 (.t 10) (.t 12)⟩,⟨S 15,O,L (S 4) (.t 14)⟩,⟨S 8,O,.alloc [V (I .i64 0),V (G ⟨#[]⟩),V (I .i64 0),V (.slice O 0 0)]⟩,⟨O,O,.store 4 (.t 8) (.t 15)⟩])
 (R [⟨S 16,O,L (S 4) (.t 8)⟩,⟨S 17,O,.mv (.t 1)⟩,⟨S 18,O,.mv (.t 2)⟩,⟨S 19,O,.call 168 [.t 16,.t 17,.t 18]⟩,⟨S 2,O,.mv (.t 19)⟩])))
 (R [⟨S 20,O,.bin .add 3 T (.t 12) (.c (V (I .i64 1)))⟩,⟨S 12,O,.mv (.t 20)⟩]))))
def mh:ACode:=.loop jH
def f168:ACode:=(Q (R [⟨S 3,O,.box (.t 0)⟩,⟨S 6,O,.mv (.c (V (.slice O 0 0)))⟩])
 (Q (Q (R [⟨S 9,O,D 3 (.t 3)⟩,⟨S 10,O,L O (.t 9)⟩,⟨S 11,O,.lenS (.t 10)⟩,⟨S 12,O,.mv (.c (V (I .i64 0)))⟩])
 (.block 0 mh))
 (Q (Q (R [⟨S 21,O,D 0 (.t 3)⟩,⟨S 22,O,L O (.t 21)⟩,⟨S 23,O,.mv (.t 1)⟩,⟨S 24,O,.bin .eql 44 F (.t 22) (.t 23)⟩,⟨S 25,O,.mv (.t 24)⟩,⟨S 26,S (25,T),.mv (.t 2)⟩,⟨S 27,S (25,T),L (S 4) (.t 3)⟩,⟨S 28,S (25,T),.call 191 [.t 26,.t 27,(.c (.fn (.func 48) [] []))]⟩,⟨S 29,S (25,T),.un .not (.t 28)⟩,⟨S 30,O,.pick (.t 25) (.t 29) (.c (V (.bool F)))⟩])
 (C (.t 30) (R [⟨S 31,O,.mv (.t 2)⟩,⟨S 32,O,L (S 4) (.t 3)⟩,⟨S 33,O,.call 88 [.t 32]⟩,⟨S 34,O,.buildSlice 4 1 [V (I .i64 0),V (G ⟨#[]⟩),V (I .i64 0),V (.slice O 0 0)] [(0,4,(.t 33))]⟩,⟨S 35,O,A 4 56 (.t 31) (.t 34)⟩,⟨S 2,O,.mv (.t 35)⟩]) .skip))
 (Q (R [⟨S 36,O,.mv (.t 2)⟩,⟨S 6,O,.mv (.t 36)⟩])
 .ret))))
def f168_fn:AFun:=⟨f168,[.tmp 6]⟩
theorem f168_ok:funOf Tryz.prog 168=some f168_fn:=by kernel_rfl
def f169:ACode:=(Q (R [⟨S 2,O,.mv (.c (V (.bool F)))⟩])
 (Q (R [⟨S 3,O,.mv (.t 0)⟩,⟨S 4,O,.bin .geq 5 T (.t 3) (.c (V (I .u8 97)))⟩,⟨S 5,O,.mv (.t 4)⟩,⟨S 6,S (5,T),.mv (.t 0)⟩,⟨S 7,S (5,T),.bin .leq 5 T (.t 6) (.c (V (I .u8 122)))⟩,⟨S 8,O,.pick (.t 5) (.t 7) (.c (V (.bool F)))⟩,⟨S 2,O,.mv (.t 8)⟩])
 .ret))
def f169_fn:AFun:=⟨f169,[.tmp 2]⟩
theorem f169_ok:funOf Tryz.prog 169=some f169_fn:=by kernel_rfl
def f170:ACode:=(Q (R [⟨S 2,O,.mv (.c (V (.bool F)))⟩])
 (Q (R [⟨S 3,O,.call 192 []⟩,⟨S 4,O,.mv (.t 0)⟩,⟨S 5,O,.call 42 [.t 3,.t 4]⟩,⟨S 6,O,.bin .geq 3 T (.t 5) (.c (V (I .i64 0)))⟩,⟨S 2,O,.mv (.t 6)⟩])
 .ret))
def f170_fn:AFun:=⟨f170,[.tmp 2]⟩
theorem f170_ok:funOf Tryz.prog 170=some f170_fn:=by kernel_rfl
def f171:ACode:=(Q (R [⟨S 2,O,.mv (.c (V (.bool F)))⟩])
 (Q (R [⟨S 3,O,.mv (.t 0)⟩,⟨S 4,O,.bin .geq 5 T (.t 3) (.c (V (I .u8 48)))⟩,⟨S 5,O,.mv (.t 4)⟩,⟨S 6,S (5,T),.mv (.t 0)⟩,⟨S 7,S (5,T),.bin .leq 5 T (.t 6) (.c (V (I .u8 57)))⟩,⟨S 8,O,.pick (.t 5) (.t 7) (.c (V (.bool F)))⟩,⟨S 2,O,.mv (.t 8)⟩])
 .ret))
def f171_fn:AFun:=⟨f171,[.tmp 2]⟩
theorem f171_ok:funOf Tryz.prog 171=some f171_fn:=by kernel_rfl
def f172:ACode:=(Q (R [⟨S 2,O,.mv (.c (V (.bool F)))⟩])
 (Q (R [⟨S 3,O,.mv (.t 0)⟩,⟨S 4,O,.bin .geq 5 T (.t 3) (.c (V (I .u8 65)))⟩,⟨S 5,O,.mv (.t 4)⟩,⟨S 6,S (5,T),.mv (.t 0)⟩,⟨S 7,S (5,T),.bin .leq 5 T (.t 6) (.c (V (I .u8 90)))⟩,⟨S 8,O,.pick (.t 5) (.t 7) (.c (V (.bool F)))⟩,⟨S 2,O,.mv (.t 8)⟩])
 .ret))
def f172_fn:AFun:=⟨f172,[.tmp 2]⟩
theorem f172_ok:funOf Tryz.prog 172=some f172_fn:=by kernel_rfl
def f178:ACode:=(Q (R [⟨S 2,O,.mv (.c (V (.slice O 0 0)))⟩])
 (Q (Q (R [⟨S 3,O,.mv (.t 0)⟩,⟨S 4,O,.bin .eql 88 T (.t 3) (.c (V (.slice O 0 0)))⟩])
 (C (.t 4) (Q (R [⟨S 2,O,.mv (.c (V (.slice O 0 0)))⟩])
 .ret) .skip))
 (Q (R [⟨S 5,O,.buildSlice 1 0 [] []⟩,⟨S 6,O,.mv (.t 0)⟩,⟨S 7,O,A 1 16 (.t 5) (.t 6)⟩,⟨S 2,O,.mv (.t 7)⟩])
 .ret)))
def mg:AFun:=⟨f178,[.tmp 2]⟩
theorem vY:funOf Tryz.prog 178=some mg:=by kernel_rfl
def gP:ACode:=(Q (R [⟨S 9,O,.bin .lss 3 F (.t 8) (.t 7)⟩])
 (Q (C (.t 9) .skip (.exit 0))
 (Q (.block 1 (Q (R [⟨S 10,O,X 1 (.t 6) (.t 8)⟩,⟨S 11,O,L O (.t 10)⟩,⟨S 5,O,.mv (.t 11)⟩])
 (Q (R [⟨S 12,O,.mv (.t 5)⟩,⟨S 13,O,L O (.t 1)⟩,⟨S 14,O,.bin .neq 79 F (.t 12) (.t 13)⟩])
 (C (.t 14) (Q (R [⟨S 3,O,.mv (.c (V (.bool F)))⟩])
 .ret) .skip))))
 (R [⟨S 15,O,.bin .add 3 T (.t 8) (.c (V (I .i64 1)))⟩,⟨S 8,O,.mv (.t 15)⟩]))))
def mf:ACode:=.loop gP
def f179:ACode:=(Q (R [⟨S 3,O,.mv (.c (V (.bool F)))⟩])
 (Q (Q (R [⟨S 6,O,.mv (.t 0)⟩,⟨S 7,O,.lenS (.t 6)⟩,⟨S 8,O,.mv (.c (V (I .i64 0)))⟩])
 (.block 0 mf))
 (Q (R [⟨S 3,O,.mv (.c (V (.bool T)))⟩])
 .ret)))
def f179_fn:AFun:=⟨f179,[.tmp 3]⟩
theorem f179_ok:funOf Tryz.prog 179=some f179_fn:=by kernel_rfl
def gN:ACode:=(Q (R [⟨S 12,O,.bin .lss 3 F (.t 11) (.t 10)⟩])
 (Q (C (.t 12) .skip (.exit 0))
 (Q (.block 1 (Q (R [⟨S 13,O,X 4 (.t 9) (.t 11)⟩,⟨S 14,O,L (S 4) (.t 13)⟩,⟨S 8,O,.alloc [V (I .i64 0),V (G ⟨#[]⟩),V (I .i64 0),V (.slice O 0 0)]⟩,⟨O,O,.store 4 (.t 8) (.t 14)⟩])
 (Q (R [⟨S 15,O,.mv (.t 2)⟩,⟨S 16,O,L (S 4) (.t 4)⟩,⟨S 17,O,L (S 4) (.t 8)⟩,⟨S 18,O,.callv (.t 15) [.t 16,.t 17]⟩])
 (C (.t 18) (Q (R [⟨S 6,O,.mv (.c (V (.bool T)))⟩])
 .ret) .skip))))
 (R [⟨S 19,O,.bin .add 3 T (.t 11) (.c (V (I .i64 1)))⟩,⟨S 11,O,.mv (.t 19)⟩]))))
def me:ACode:=.loop gN
def f191:ACode:=(Q (R [⟨S 4,O,.box (.t 1)⟩,⟨S 6,O,.mv (.c (V (.bool F)))⟩])
 (Q (Q (R [⟨S 9,O,.mv (.t 0)⟩,⟨S 10,O,.lenS (.t 9)⟩,⟨S 11,O,.mv (.c (V (I .i64 0)))⟩])
 (.block 0 me))
 (Q (R [⟨S 6,O,.mv (.c (V (.bool F)))⟩])
 .ret)))
def f191_fn:AFun:=⟨f191,[.tmp 6]⟩
theorem f191_ok:funOf Tryz.prog 191=some f191_fn:=by kernel_rfl
end Go.Proofs.YtkhblipgiijoiaaGreatDoor
