/- ZCodes ZCodesB ZCodesR -/
import Derived.Test.YtkhblipgiijoiaaGreatDoorE1
import Derived.Test.YtkhblipgiijoiaaGreatDoorW1

set_option linter.all false
open Go.Proofs.Tryz renaming prog → i7
namespace Go.Proofs.YtkhblipgiijoiaaGreatDoor
open Go Go.AM
abbrev m(d a:Nat):AOper:=⟨some d,none,.mv (.t a)⟩
abbrev n(d:Nat)(k:Int):AOper:=⟨some d,none,.mv (.c (.val (.int .i64 k)))⟩
abbrev zbf(d:Nat):AOper:=⟨some d,none,.mv (.c (.val (.bool false)))⟩
abbrev zbt(d:Nat):AOper:=⟨some d,none,.mv (.c (.val (.bool true)))⟩
abbrev zns(d:Nat):AOper:=⟨some d,none,.mv (.c (.val (.slice none 0 0)))⟩
abbrev l(d a:Nat):AOper:=⟨some d,none,.load none (.t a)⟩
abbrev zL(d k a:Nat):AOper:=⟨some d,none,.load (some k) (.t a)⟩
abbrev zD(d k a:Nat):AOper:=⟨some d,none,.fieldAddr k (.t a)⟩
abbrev zln(d a:Nat):AOper:=⟨some d,none,.lenS (.t a)⟩
abbrev zX(d k a b:Nat):AOper:=⟨some d,none,.idxAddrS k (.t a) (.t b)⟩
abbrev zc1(d f a:Nat):AOper:=⟨some d,none,.call f [.t a]⟩
abbrev zc2(d f a b:Nat):AOper:=⟨some d,none,.call f [.t a,.t b]⟩
abbrev zbx(d a:Nat):AOper:=⟨some d,none,.box (.t a)⟩
abbrev zpf(d a b:Nat):AOper:=⟨some d,none,.pick (.t a) (.t b) (.c (.val (.bool false)))⟩
abbrev zpt(d a b:Nat):AOper:=⟨some d,none,.pick (.t a) (.c (.val (.bool true))) (.t b)⟩
abbrev zex(d k a:Nat):AOper:=⟨some d,none,.extract k (.t a)⟩
abbrev zun(d a:Nat):AOper:=⟨some d,none,.un .not (.t a)⟩
abbrev zbk(o:BinOp)(d t a:Nat)(k:Int):AOper:=⟨some d,none,.bin o t true (.t a) (.c (.val (.int .i64 k)))⟩
abbrev zbv(o:BinOp)(d t a b:Nat):AOper:=⟨some d,none,.bin o t false (.t a) (.t b)⟩
abbrev zo(d:Nat)(p:AOp):AOper:=⟨some d,none,p⟩
abbrev zg(d g:Nat)(b:Bool)(p:AOp):AOper:=⟨some d,some (g,b),p⟩
open Option renaming some → S, none → O
open Bool renaming true → T, false → F
open Go.AM.ACode renaming region → R, seq → Q, cond → C
open Go.AM.AOp renaming fieldAddr → D, idxAddrS → X, load → L, append → A
open Go.AM.AV renaming val → V
open Go.Value renaming int → I, string → G
def tD:ACode:=(Q (Q (R [m 27 3,zD 28 1 1,l 29 28,zln 30 29,zbv .lss 31 3 27 30])
 (C (.t 31) .skip (.exit 0)))
 (Q (.block 1 (Q (R [zD 34 1 1,l 35 34,m 36 3,zX 37 2 35 36,zD 38 1 37,l 39 38,zln 40 39,zbk .gtr 41 3 40 26,m 42 41,zg 43 42 F (D 1 (.t 1)),zg 44 42 F (L O (.t 43)),zg 45 42 F (.mv (.t 3)),zg 46 42 F (X 2 (.t 44) (.t 45)),zg 47 42 F (D 0 (.t 46)),zg 48 42 F (L O (.t 47)),zg 49 42 F (.lenStr (.t 48)),zg 50 42 F (.bin .gtr 3 T (.t 49) (.c (V (I .i64 100)))),zpt 51 42 50])
 (C (.t 51) (Q (R [zbf 2])
 .ret) .skip)))
 (R [m 32 3,zbk .add 33 3 32 1,m 3 33])))
def Mv:ACode:=.loop tD
def bn:List DOp:=[⟨zD 64 0 5,[5],[]⟩,⟨l 65 64,[64],[]⟩,⟨zln 66 65,[65],[]⟩,⟨zbk .gtr 67 3 66 26,[66],[]⟩,⟨m 68 67,[67],[]⟩,⟨zg 69 68 F (D 1 (.t 5)),[5,68],[]⟩,⟨zg 70 68 F (L O (.t 69)),[69,68],[]⟩,⟨zg 71 68 F (.lenS (.t 70)),[70,68],[]⟩,⟨zg 72 68 F (.bin .gtr 3 T (.t 71) (.c (V (I .i64 6)))),[71,68],[]⟩,⟨zpt 73 68 72,[68,72],[]⟩,⟨m 74 73,[73],[]⟩,⟨zg 75 74 F (.buildSlice 4 0 [] []),[74],[]⟩,⟨zg 76 74 F (D 1 (.t 5)),[5,74],[11]⟩,⟨zg 77 74 F (L O (.t 76)),[76,74],[11]⟩,⟨zg 78 74 F (A 4 56 (.t 75) (.t 77)),[75,77,74],[]⟩,⟨zg 79 74 F (D 2 (.t 5)),[5,74],[11,12,13,14]⟩,⟨zg 80 74 F (L (S 4) (.t 79)),[79,74],[11,12,13,14]⟩,⟨⟨S 81,S (74,F),.buildSlice 4 1 [V (I .i64 0),V (G ⟨#[]⟩),V (I .i64 0),V (.slice O 0 0)] [(0,4,(.t 80))]⟩,[80,74],[11,12,13,14]⟩,⟨zg 82 74 F (A 4 56 (.t 78) (.t 81)),[78,81,74],[]⟩,⟨zg 83 74 F (.call 27 [.t 82,.c (V (I .i64 120))]),[82,74],[]⟩,⟨zg 84 74 F (.un .not (.t 83)),[83,74],[]⟩,⟨zpt 85 74 84,[74,84],[]⟩]
def aFC:ACode:=.draw bn
def Fk:ACode:=(Q (Q (R [m 52 4,zD 53 2 1,l 54 53,zln 55 54,zbv .lss 56 3 52 55])
 (C (.t 56) .skip (.exit 2)))
 (Q (.block 3 (Q (R [zD 59 2 1,l 60 59,m 61 4,zX 62 7 60 61,zL 63 7 62,zo 5 (.alloc [V (.slice O 0 0),V (.slice O 0 0),V (I .i64 0),V (G ⟨#[]⟩),V (I .i64 0),V (.slice O 0 0),V (I .i64 0)]),⟨O,O,.store 7 (.t 5) (.t 63)⟩])
 (Q aFC
 (C (.t 85) (Q (R [zbf 2])
 .ret) .skip))))
 (R [m 57 4,zbk .add 58 3 57 1,m 4 58])))
def Mu:ACode:=.loop Fk
def f5:ACode:=(Q (R [zbx 1 0,zbf 2])
 (Q (Q (R [zD 6 1 1,l 7 6,zln 8 7,zbk .gtr 9 3 8 8,m 10 9,zg 11 10 F (D 0 (.t 1)),zg 12 10 F (L O (.t 11)),zg 13 10 F (.lenS (.t 12)),zg 14 10 F (.bin .gtr 3 T (.t 13) (.c (V (I .i64 12)))),zpt 15 10 14,m 16 15,zg 17 16 F (D 2 (.t 1)),zg 18 16 F (L O (.t 17)),zg 19 16 F (.lenS (.t 18)),zg 20 16 F (.bin .gtr 3 T (.t 19) (.c (V (I .i64 15)))),zpt 21 16 20,m 22 21,zg 23 22 F (L (S 3) (.t 1)),zg 24 22 F (.call 26 [.t 23]),zg 25 22 F (.un .not (.t 24)),zpt 26 22 25])
 (C (.t 26) (Q (R [zbf 2])
 .ret) .skip))
 (Q (Q (R [n 3 0])
 (.block 0 Mv))
 (Q (Q (R [n 4 0])
 (.block 2 Mu))
 (Q (R [zbt 2])
 .ret)))))
def wG:AFun:=⟨f5,[.tmp 2]⟩
theorem aNH:funOf i7 5=some wG:=by kernel_rfl
def wF:ACode:=(Q (R [zbv .lss 31 3 30 29])
 (Q (C (.t 31) .skip (.exit 0))
 (Q (.block 1 (Q (R [m 32 30,zX 33 7 28 30,zL 34 7 33,zo 6 (.alloc [V (.slice O 0 0),V (.slice O 0 0),V (I .i64 0),V (G ⟨#[]⟩),V (I .i64 0),V (.slice O 0 0),V (I .i64 0)]),m 5 32,⟨O,O,.store 7 (.t 6) (.t 34)⟩])
 (Q (R [zL 35 3 1,zL 36 7 6,zc2 37 34 35 36,m 7 37])
 (Q (R [m 38 7,zbk .neq 39 29 38 0])
 (C (.t 39) (Q (R [m 40 5,m 41 7,m 2 40,m 3 41])
 .ret) .skip)))))
 (R [zbk .add 42 3 30 1,m 30 42]))))
def Ms:ACode:=.loop wF
def f7:ACode:=(Q (R [zbx 1 0,n 2 0,n 3 0])
 (Q (Q (R [zD 8 2 1,l 9 8,zln 10 9,zbk .gtr 11 3 10 400,m 12 11,zg 13 12 F (D 1 (.t 1)),zg 14 12 F (L O (.t 13)),zg 15 12 F (.lenS (.t 14)),zg 16 12 F (.bin .gtr 3 T (.t 15) (.c (V (I .i64 40)))),zpt 17 12 16])
 (C (.t 17) (Q (R [n 2 (-1),n 3 7])
 .ret) .skip))
 (Q (Q (R [zD 18 0 1,l 19 18,zD 20 1 1,l 21 20,zo 22 (.build [V (.slice O 0 0),V (.slice O 0 0),V (.slice O 0 0)] [(1,1,(.t 19)),(2,1,(.t 21))]),zc1 23 33 22,m 4 23])
 (Q (R [m 24 4,zbk .neq 25 29 24 0])
 (C (.t 25) (Q (R [m 26 4,n 2 (-1),m 3 26])
 .ret) .skip)))
 (Q (Q (R [zD 27 2 1,l 28 27,zln 29 28,n 30 0])
 (.block 0 Ms))
 (Q (R [n 2 (-1),n 3 0])
 .ret)))))
def Ew:AFun:=⟨f7,[.tmp 2,.tmp 3]⟩
theorem aNG:funOf i7 7=some Ew:=by kernel_rfl
def f20:ACode:=(Q (R [zbx 1 0,zns 2])
 (Q (R [zL 3 4 1,zo 4 (.call 47 [.t 3,.c (V (I .i64 5)),.c (V (.slice O 0 0))]),m 2 4])
 .ret))
def Xk:AFun:=⟨f20,[.tmp 2]⟩
theorem aJX:funOf i7 20=some Xk:=by kernel_rfl
def tU:ACode:=(Q (R [zbv .lss 10 3 9 8])
 (Q (C (.t 10) .skip (.exit 0))
 (Q (.block 1 (Q (R [zX 11 4 7 9,zL 12 4 11,zo 5 (.alloc [V (I .i64 0),V (G ⟨#[]⟩),V (I .i64 0),V (.slice O 0 0)]),⟨O,O,.store 4 (.t 5) (.t 12)⟩])
 (R [m 13 3,zL 14 4 5,zc1 15 21 14,zbv .add 16 3 13 15,m 3 16])))
 (R [zbk .add 17 3 9 1,m 9 17]))))
def zH:ACode:=.loop tU
def f21:ACode:=(Q (R [zbx 1 0,n 2 0])
 (Q (R [n 3 1])
 (Q (Q (R [zD 6 3 1,l 7 6,zln 8 7,n 9 0])
 (.block 0 zH))
 (Q (R [m 18 3,m 2 18])
 .ret))))
def Xj:AFun:=⟨f21,[.tmp 2]⟩
theorem aJW:funOf i7 21=some Xj:=by kernel_rfl
def tT:ACode:=(Q (R [zbv .lss 10 3 9 8])
 (Q (C (.t 10) .skip (.exit 0))
 (Q (.block 1 (Q (R [zX 11 4 7 9,zL 12 4 11,zo 5 (.alloc [V (I .i64 0),V (G ⟨#[]⟩),V (I .i64 0),V (.slice O 0 0)]),⟨O,O,.store 4 (.t 5) (.t 12)⟩])
 (R [m 13 3,zL 14 4 5,zc1 15 22 14,zo 16 (.maxI [.t 13,.t 15]),m 3 16])))
 (R [zbk .add 17 3 9 1,m 9 17]))))
def zG:ACode:=.loop tT
def f22:ACode:=(Q (R [zbx 1 0,n 2 0])
 (Q (R [n 3 0])
 (Q (Q (R [zD 6 3 1,l 7 6,zln 8 7,n 9 0])
 (.block 0 zG))
 (Q (R [m 18 3,zbk .add 19 3 18 1,m 2 19])
 .ret))))
def Xi:AFun:=⟨f22,[.tmp 2]⟩
theorem aJV:funOf i7 22=some Xi:=by kernel_rfl
def f23:ACode:=(Q (R [zbx 2 0,zbx 3 1,n 4 0])
 (Q (Q (R [zL 7 4 3,zo 8 (.build [V (I .i64 0),V (G ⟨#[]⟩),V (I .i64 0),V (.slice O 0 0)] []),zc2 9 48 7 8])
 (C (.t 9) (Q (R [n 4 0])
 .ret) .skip))
 (Q (R [zL 11 3 2,zL 12 4 3,zc2 13 49 11 12,m 10 13,zex 14 0 10,zex 15 1 10,m 5 14,m 6 15])
 (Q (Q (R [m 16 6,zbk .eql 17 29 16 0,m 18 17,zg 19 18 T (.mv (.t 5)),⟨S 20,S (18,T),.bin .neq 79 T (.t 19) (.c (V (G ⟨#[66,111,111,108]⟩)))⟩,zpf 21 18 20])
 (C (.t 21) (Q (R [n 4 11])
 .ret) .skip))
 (Q (R [m 22 6,m 4 22])
 .ret)))))
def tS:AFun:=⟨f23,[.tmp 4]⟩
theorem aJU:funOf i7 23=some tS:=by kernel_rfl
def zF:List DOp:=[⟨zD 5 0 3,[3],[]⟩,⟨l 6 5,[5],[]⟩,⟨zc1 7 45 6,[6],[]⟩,⟨zD 8 0 2,[2],[0,1,2]⟩,⟨l 9 8,[8],[0,1,2]⟩,⟨zc1 10 50 9,[9],[]⟩,⟨zD 11 1 2,[2],[0,1,2,3,4,5]⟩,⟨l 12 11,[11],[0,1,2,3,4,5]⟩,⟨zc1 13 51 12,[12],[]⟩,⟨zo 14 (.build [V (.slice O 0 0),V (.slice O 0 0),V (.slice O 0 0)] [(0,1,(.t 7)),(1,1,(.t 10)),(2,1,(.t 13))]),[7,10,13],[]⟩,⟨⟨O,O,.store 3 (.t 4) (.t 14)⟩,[4,14],[]⟩]
def Xh:ACode:=.draw zF
def f24:ACode:=(Q (R [zbx 2 0,zbx 3 1,zo 4 (.alloc [V (.slice O 0 0),V (.slice O 0 0),V (.slice O 0 0)])])
 (Q Xh
 .ret))
def Xg:AFun:=⟨f24,[.cell 4 (S 3)]⟩
theorem aJT:funOf i7 24=some Xg:=by kernel_rfl
def f25:ACode:=(Q (R [zbx 1 0,n 2 0])
 (Q (Q (R [zL 3 4 1,zc1 4 21 3,zbk .gtr 5 3 4 400])
 (C (.t 5) (Q (R [n 2 7])
 .ret) .skip))
 (Q (Q (R [zL 6 4 1,zc1 7 22 6,zbk .gtr 8 3 7 40])
 (C (.t 8) (Q (R [n 2 8])
 .ret) .skip))
 (Q (R [zL 9 4 1,zc1 10 52 9,m 2 10])
 .ret))))
def zE:AFun:=⟨f25,[.tmp 2]⟩
theorem aJS:funOf i7 25=some zE:=by kernel_rfl
def mg:ACode:=(Q (Q (R [m 12 4,zD 13 2 1,l 14 13,m 15 3,zX 16 7 14 15,zD 17 1 16,l 18 17,zln 19 18,zbv .lss 20 3 12 19])
 (C (.t 20) .skip (.exit 2)))
 (Q (.block 3 (Q (R [zD 23 2 1,l 24 23,m 25 3,zX 26 7 24 25,zD 27 1 26,l 28 27,m 29 4,zX 30 4 28 29,zL 31 4 30,zc1 32 53 31,zbk .gtr 33 3 32 2])
 (C (.t 33) (Q (R [zbf 2])
 .ret) .skip)))
 (R [m 21 4,zbk .add 22 3 21 1,m 4 22])))
def zC:ACode:=.loop mg
def tR:ACode:=(Q (Q (R [m 5 3,zD 6 2 1,l 7 6,zln 8 7,zbv .lss 9 3 5 8])
 (C (.t 9) .skip (.exit 0)))
 (Q (.block 1 (Q (Q (R [n 4 0])
 (.block 2 zC))
 (Q (R [zD 34 2 1,l 35 34,m 36 3,zX 37 7 35 36,zD 38 2 37,zL 39 4 38,zc1 40 53 39,zbk .gtr 41 3 40 2])
 (C (.t 41) (Q (R [zbf 2])
 .ret) .skip))))
 (R [m 10 3,zbk .add 11 3 10 1,m 3 11])))
def zB:ACode:=.loop tR
def f26:ACode:=(Q (R [zbx 1 0,zbf 2])
 (Q (Q (R [n 3 0])
 (.block 0 zB))
 (Q (R [zbt 2])
 .ret)))
def Xf:AFun:=⟨f26,[.tmp 2]⟩
theorem aJR:funOf i7 26=some Xf:=by kernel_rfl
def f27:ACode:=(Q (R [zbf 4])
 (Q (R [m 5 0,zo 6 (.build [V (I .i64 0),V (G ⟨#[]⟩),V (.slice O 0 0),V (.slice O 0 0),V (I .i64 0),V (G ⟨#[]⟩),V (I .i64 0),V (.slice O 0 0),V (.slice O 0 0)] [(8,1,(.t 5))]),zo 7 (.buildSlice 9 1 [V (I .i64 0),V (G ⟨#[]⟩),V (.slice O 0 0),V (.slice O 0 0),V (I .i64 0),V (G ⟨#[]⟩),V (I .i64 0),V (.slice O 0 0),V (.slice O 0 0)] [(0,9,(.t 6))]),zo 8 (.build [V (I .i64 0),V (G ⟨#[]⟩),V (I .i64 0),V (.slice O 0 0),V (.slice O 0 0),V (.slice O 0 0),V (.slice O 0 0)] [(6,1,(.t 7))]),m 9 1,zc2 10 54 8 9,m 11 1,zbv .leq 12 3 10 11,m 4 12])
 .ret))
def Xe:AFun:=⟨f27,[.tmp 4]⟩
theorem aJQ:funOf i7 27=some Xe:=by kernel_rfl
def f33:ACode:=(Q (R [zbx 1 0,n 2 0])
 (Q (Q (R [zD 5 0 1,l 6 5,zc1 7 57 6,m 3 7])
 (Q (R [m 8 3,zbk .neq 9 29 8 0])
 (C (.t 9) (Q (R [m 10 3,m 2 10])
 .ret) .skip)))
 (Q (Q (R [zD 11 1 1,l 12 11,zc1 13 58 12,m 4 13])
 (Q (R [m 14 4,zbk .neq 15 29 14 0])
 (C (.t 15) (Q (R [m 16 4,m 2 16])
 .ret) .skip)))
 (Q (R [zD 17 2 1,l 18 17,zc1 19 59 18,m 2 19])
 .ret))))
def zA:AFun:=⟨f33,[.tmp 2]⟩
theorem aJP:funOf i7 33=some zA:=by kernel_rfl
def jQ:List DOp:=[⟨zL 27 3 6,[6],[]⟩,⟨zL 28 4 8,[8],[0]⟩,⟨zL 29 4 8,[8],[0,1]⟩,⟨zc1 30 61 29,[29],[0,1]⟩,⟨zo 31 (.call 60 [.t 27,.t 28,.t 30]),[27,28,30],[]⟩,⟨m 9 31,[31],[]⟩]
def Xd:ACode:=.draw jQ
def tO:ACode:=(Q (R [zbv .lss 24 3 23 22])
 (Q (C (.t 24) .skip (.exit 0))
 (Q (.block 1 (Q (R [zX 25 4 21 23,zL 26 4 25,zo 8 (.alloc [V (I .i64 0),V (G ⟨#[]⟩),V (I .i64 0),V (.slice O 0 0)]),⟨O,O,.store 4 (.t 8) (.t 26)⟩])
 (Q Xd
 (Q (R [m 32 9,zbk .neq 33 29 32 0])
 (C (.t 33) (Q (R [m 34 9,m 4 34])
 .ret) .skip)))))
 (R [zbk .add 35 3 23 1,m 23 35]))))
def y9:ACode:=.loop tO
def f34:ACode:=(Q (R [zbx 2 0,zbx 3 1,n 4 0])
 (Q (Q (R [zD 10 0 3,l 11 10,zo 12 (.build [V (.slice O 0 0),V (.slice O 0 0),V (.slice O 0 0)] [(0,1,(.t 11))]),zc1 13 33 12,m 5 13])
 (Q (R [m 14 5,zbk .neq 15 29 14 0])
 (C (.t 15) (Q (R [m 16 5,m 4 16])
 .ret) .skip)))
 (Q (R [zL 17 3 2,zL 18 7 3,zc2 19 24 17 18,zo 6 (.alloc [V (.slice O 0 0),V (.slice O 0 0),V (.slice O 0 0)]),⟨O,O,.store 3 (.t 6) (.t 19)⟩])
 (Q (Q (R [zD 20 1 3,l 21 20,zln 22 21,n 23 0])
 (.block 0 y9))
 (Q (R [zL 36 3 6,zD 37 2 3,zL 38 4 37,zD 39 2 3,zL 40 4 39,zo 41 (.buildSlice 4 1 [V (I .i64 0),V (G ⟨#[]⟩),V (I .i64 0),V (.slice O 0 0)] [(0,4,(.t 40))]),zo 42 (.call 60 [.t 36,.t 38,.t 41]),m 4 42])
 .ret)))))
def Kl:AFun:=⟨f34,[.tmp 4]⟩
theorem aJO:funOf i7 34=some Kl:=by kernel_rfl
def f41:ACode:=(Q (R [n 4 0])
 (Q (R [m 5 0,m 6 1,zc2 7 72 5 6,m 4 7])
 .ret))
def Wx:AFun:=⟨f41,[.tmp 4]⟩
theorem aJI:funOf i7 41=some Wx:=by kernel_rfl
def mY:ACode:=(Q (R [zbv .lss 9 3 8 7])
 (Q (C (.t 9) .skip (.exit 0))
 (Q (.block 1 (Q (R [m 10 8,m 5 10])
 (Q (R [m 11 0,m 12 5,zX 13 1 11 12,l 14 13,m 15 1,zbv .eql 16 9 14 15])
 (C (.t 16) (Q (R [m 17 5,m 4 17])
 .ret) .skip))))
 (R [zbk .add 18 3 8 1,m 8 18]))))
def yu:ACode:=.loop mY
def f42:ACode:=(Q (R [n 4 0])
 (Q (Q (R [m 6 0,zln 7 6,n 8 0])
 (.block 0 yu))
 (Q (R [n 4 (-1)])
 .ret)))
def Ww:AFun:=⟨f42,[.tmp 4]⟩
theorem aJH:funOf i7 42=some Ww:=by kernel_rfl
def f45:ACode:=(Q (R [zns 2])
 (Q (Q (R [m 3 0,zo 4 (.bin .eql 42 T (.t 3) (.c (V (.slice O 0 0))))])
 (C (.t 4) (Q (R [zns 2])
 .ret) .skip))
 (Q (R [zo 5 (.buildSlice 2 0 [] []),m 6 0,zo 7 (A 2 32 (.t 5) (.t 6)),m 2 7])
 .ret)))
def yt:AFun:=⟨f45,[.tmp 2]⟩
theorem Ki:funOf i7 45=some yt:=by kernel_rfl
def tH:ACode:=(Q (R [zbv .lss 13 3 12 11])
 (Q (C (.t 13) .skip (.exit 0))
 (Q (.block 1 (Q (R [zX 14 4 10 12,zL 15 4 14,zo 8 (.alloc [V (I .i64 0),V (G ⟨#[]⟩),V (I .i64 0),V (.slice O 0 0)]),⟨O,O,.store 4 (.t 8) (.t 15)⟩])
 (R [zL 16 4 8,m 17 1,m 18 2,zo 19 (.call 47 [.t 16,.t 17,.t 18]),m 2 19])))
 (R [zbk .add 20 3 12 1,m 12 20]))))
def yq:ACode:=.loop tH
def f47:ACode:=(Q (R [zbx 3 0,zns 6])
 (Q (Q (R [zD 9 3 3,l 10 9,zln 11 10,n 12 0])
 (.block 0 yq))
 (Q (Q (R [zD 21 0 3,l 22 21,m 23 1,zbv .eql 24 44 22 23,m 25 24,zg 26 25 T (.mv (.t 2)),zg 27 25 T (L (S 4) (.t 3)),zg 28 25 T (.call 74 [.t 26,.t 27]),zg 29 25 T (.un .not (.t 28)),zpf 30 25 29])
 (C (.t 30) (R [m 31 2,zL 32 4 3,zo 33 (.buildSlice 4 1 [V (I .i64 0),V (G ⟨#[]⟩),V (I .i64 0),V (.slice O 0 0)] [(0,4,(.t 32))]),zo 34 (A 4 56 (.t 31) (.t 33)),m 2 34]) .skip))
 (Q (R [m 35 2,m 6 35])
 .ret))))
def Wv:AFun:=⟨f47,[.tmp 6]⟩
theorem aJG:funOf i7 47=some Wv:=by kernel_rfl
def f48:ACode:=(Q (R [zbx 2 0,zbx 3 1,zbf 4])
 (Q (R [zD 5 0 2,l 6 5,zD 7 0 3,l 8 7,zbv .eql 9 44 6 8,m 10 9,zg 11 10 T (D 1 (.t 2)),zg 12 10 T (L O (.t 11)),zg 13 10 T (D 1 (.t 3)),zg 14 10 T (L O (.t 13)),zg 15 10 T (.bin .eql 9 F (.t 12) (.t 14)),zpf 16 10 15,m 17 16,zg 18 17 T (D 2 (.t 2)),zg 19 17 T (L O (.t 18)),zg 20 17 T (D 2 (.t 3)),zg 21 17 T (L O (.t 20)),zg 22 17 T (.bin .eql 3 F (.t 19) (.t 21)),zpf 23 17 22,m 24 23,zg 25 24 T (D 3 (.t 2)),zg 26 24 T (L O (.t 25)),zg 27 24 T (D 3 (.t 3)),zg 28 24 T (L O (.t 27)),zg 29 24 T (.call 75 [.t 26,.t 28,(.c (.fn (.func 48) [] []))]),zpf 30 24 29,m 4 30])
 .ret))
def tG:AFun:=⟨f48,[.tmp 4]⟩
theorem aJF:funOf i7 48=some tG:=by kernel_rfl
def f49:ACode:=(Q (R [zbx 2 0,zbx 3 1,zo 4 (.mv (.c (V (G ⟨#[]⟩)))),n 5 0])
 (Q (Q (R [zL 8 4 3,zc1 9 76 8,m 6 9])
 (Q (R [m 10 6,zbk .neq 11 29 10 0])
 (C (.t 11) (Q (R [m 12 6,zo 4 (.mv (.c (V (G ⟨#[]⟩)))),m 5 12])
 .ret) .skip)))
 (Q (R [zo 7 (.alloc [V .nilFunc])])
 (Q (R [zo 13 (.mkFunc (.func 77) [] [.t 7,.t 2]),⟨O,O,.store 1 (.t 7) (.t 13)⟩])
 (Q (R [l 14 7,zL 15 4 3,zo 16 (.callv (.t 14) [.t 15]),zex 17 0 16,zex 18 1 16,m 4 17,m 5 18])
 .ret)))))
def Kh:AFun:=⟨f49,[.tmp 4,.tmp 5]⟩
theorem aJE:funOf i7 49=some Kh:=by kernel_rfl
def f50:ACode:=(Q (R [zns 2])
 (Q (Q (R [m 3 0,zo 4 (.bin .eql 22 T (.t 3) (.c (V (.slice O 0 0))))])
 (C (.t 4) (Q (R [zns 2])
 .ret) .skip))
 (Q (R [zo 5 (.buildSlice 3 0 [] []),m 6 0,zo 7 (A 3 56 (.t 5) (.t 6)),m 2 7])
 .ret)))
def yp:AFun:=⟨f50,[.tmp 2]⟩
theorem Kg:funOf i7 50=some yp:=by kernel_rfl
def f51:ACode:=(Q (R [zns 2])
 (Q (Q (R [m 3 0,zo 4 (.bin .eql 23 T (.t 3) (.c (V (.slice O 0 0))))])
 (C (.t 4) (Q (R [zns 2])
 .ret) .skip))
 (Q (R [zo 5 (.buildSlice 2 0 [] []),m 6 0,zo 7 (A 2 40 (.t 5) (.t 6)),m 2 7])
 .ret)))
def yo:AFun:=⟨f51,[.tmp 2]⟩
theorem Kf:funOf i7 51=some yo:=by kernel_rfl
def mX:ACode:=(Q (R [zbv .lss 16 3 15 14])
 (Q (C (.t 16) .skip (.exit 0))
 (Q (.block 1 (Q (R [zX 17 4 13 15,zL 18 4 17,zo 5 (.alloc [V (I .i64 0),V (G ⟨#[]⟩),V (I .i64 0),V (.slice O 0 0)]),⟨O,O,.store 4 (.t 5) (.t 18)⟩])
 (Q (R [zL 19 4 5,zc1 20 52 19,m 6 20])
 (Q (R [m 21 6,zbk .neq 22 29 21 0])
 (C (.t 22) (Q (R [m 23 6,m 2 23])
 .ret) .skip)))))
 (R [zbk .add 24 3 15 1,m 15 24]))))
def yn:ACode:=.loop mX
def f52:ACode:=(Q (R [zbx 1 0,n 2 0])
 (Q (Q (R [zL 7 4 1,zc1 8 79 7,m 3 8])
 (Q (R [m 9 3,zbk .neq 10 29 9 0])
 (C (.t 10) (Q (R [m 11 3,m 2 11])
 .ret) .skip)))
 (Q (Q (R [zD 12 3 1,l 13 12,zln 14 13,n 15 0])
 (.block 0 yn))
 (Q (R [n 2 0])
 .ret))))
def Ke:AFun:=⟨f52,[.tmp 2]⟩
theorem aJD:funOf i7 52=some Ke:=by kernel_rfl
def tF:ACode:=(Q (Q (R [m 5 4,zD 6 3 1,l 7 6,zln 8 7,zbv .lss 9 3 5 8])
 (C (.t 9) .skip (.exit 0)))
 (Q (.block 1 (R [m 12 3,zD 13 3 1,l 14 13,m 15 4,zX 16 4 14 15,zL 17 4 16,zc1 18 53 17,zo 19 (.maxI [.t 12,.t 18]),m 3 19]))
 (R [m 10 4,zbk .add 11 3 10 1,m 4 11])))
def ym:ACode:=.loop tF
def f53:ACode:=(Q (R [zbx 1 0,n 2 0])
 (Q (R [n 3 0])
 (Q (Q (R [n 4 0])
 (.block 0 ym))
 (Q (Q (R [zD 20 0 1,l 21 20,zbk .eql 22 44 21 5])
 (C (.t 22) (R [m 23 3,zbk .add 24 3 23 1,m 3 24]) .skip))
 (Q (R [m 25 3,m 2 25])
 .ret)))))
def Wu:AFun:=⟨f53,[.tmp 2]⟩
theorem aJC:funOf i7 53=some Wu:=by kernel_rfl
def Wp:List DOp:=[⟨zD 9 1 2,[2],[]⟩,⟨l 10 9,[9],[]⟩,⟨zo 11 (.lenStr (.t 10)),[10],[]⟩,⟨zbk .quo 12 3 11 50,[11],[]⟩,⟨zo 13 (.bin .add 3 T (.c (V (I .i64 1))) (.t 12)),[12],[]⟩,⟨zD 14 6 2,[2],[0,1,2,3,4]⟩,⟨l 15 14,[14],[0,1,2,3,4]⟩,⟨m 16 1,[1],[0,1,2,3,4,5,6]⟩,⟨zc2 17 80 15 16,[15,16],[0,1,2,3,4]⟩,⟨zbv .add 18 3 13 17,[13,17],[]⟩,⟨m 5 18,[18],[]⟩]
def aJB:ACode:=.draw Wp
def aIY:List DOp:=[⟨m 31 5,[5],[]⟩,⟨zbk .add 32 3 31 1,[31],[]⟩,⟨zD 33 4 2,[2],[0,1]⟩,⟨l 34 33,[33],[0,1]⟩,⟨m 35 6,[6],[0,1,2,3]⟩,⟨zX 36 10 34 35,[34,35],[0,1]⟩,⟨zD 37 0 36,[36],[0,1]⟩,⟨l 38 37,[37],[0,1]⟩,⟨zo 39 (.lenStr (.t 38)),[38],[0,1]⟩,⟨zbk .quo 40 3 39 50,[39],[0,1]⟩,⟨zbv .add 41 3 32 40,[32,40],[]⟩,⟨zD 42 4 2,[2],[0,1,2,3,4,5,6,7,8,9,10]⟩,⟨l 43 42,[42],[0,1,2,3,4,5,6,7,8,9,10]⟩,⟨m 44 6,[6],[0,1,2,3,4,5,6,7,8,9,10,11,12]⟩,⟨zX 45 10 43 44,[43,44],[0,1,2,3,4,5,6,7,8,9,10]⟩,⟨zD 46 1 45,[45],[0,1,2,3,4,5,6,7,8,9,10]⟩,⟨zL 47 9 46,[46],[0,1,2,3,4,5,6,7,8,9,10]⟩,⟨zo 48 (.buildSlice 9 1 [V (I .i64 0),V (G ⟨#[]⟩),V (.slice O 0 0),V (.slice O 0 0),V (I .i64 0),V (G ⟨#[]⟩),V (I .i64 0),V (.slice O 0 0),V (.slice O 0 0)] [(0,9,(.t 47))]),[47],[0,1,2,3,4,5,6,7,8,9,10]⟩,⟨m 49 1,[1],[0,1,2,3,4,5,6,7,8,9,10,11,12,13,14,15,16,17]⟩,⟨zc2 50 80 48 49,[48,49],[0,1,2,3,4,5,6,7,8,9,10]⟩,⟨zbv .add 51 3 41 50,[41,50],[]⟩,⟨m 5 51,[51],[]⟩]
def aJA:ACode:=.draw aIY
def Kd:ACode:=(Q (Q (R [m 19 6,zD 20 4 2,l 21 20,zln 22 21,zbv .lss 23 3 19 22,m 24 23,zg 25 24 T (.mv (.t 5)),zg 26 24 T (.mv (.t 1)),zg 27 24 T (.bin .leq 3 F (.t 25) (.t 26)),zpf 28 24 27])
 (C (.t 28) .skip (.exit 0)))
 (Q (.block 1 aJA)
 (R [m 29 6,zbk .add 30 3 29 1,m 6 30])))
def Ws:ACode:=.loop Kd
def Kc:ACode:=(Q (Q (R [m 52 7,zD 53 3 2,l 54 53,zln 55 54,zbv .lss 56 3 52 55,m 57 56,zg 58 57 T (.mv (.t 5)),zg 59 57 T (.mv (.t 1)),zg 60 57 T (.bin .leq 3 F (.t 58) (.t 59)),zpf 61 57 60])
 (C (.t 61) .skip (.exit 2)))
 (Q (.block 3 (R [m 64 5,zD 65 3 2,l 66 65,m 67 7,zX 68 7 66 67,zL 69 7 68,m 70 1,m 71 5,zbv .sub 72 3 70 71,zc2 73 54 69 72,zbv .add 74 3 64 73,m 5 74]))
 (R [m 62 7,zbk .add 63 3 62 1,m 7 63])))
def Wr:ACode:=.loop Kc
def aIX:List DOp:=[⟨m 87 5,[5],[]⟩,⟨zbk .add 88 3 87 1,[87],[]⟩,⟨zD 89 5 2,[2],[0,1]⟩,⟨l 90 89,[89],[0,1]⟩,⟨m 91 8,[8],[0,1,2,3]⟩,⟨zX 92 9 90 91,[90,91],[0,1]⟩,⟨zD 93 0 92,[92],[0,1]⟩,⟨l 94 93,[93],[0,1]⟩,⟨zo 95 (.lenStr (.t 94)),[94],[0,1]⟩,⟨zbk .quo 96 3 95 50,[95],[0,1]⟩,⟨zbv .add 97 3 88 96,[88,96],[]⟩,⟨zD 98 5 2,[2],[0,1,2,3,4,5,6,7,8,9,10]⟩,⟨l 99 98,[98],[0,1,2,3,4,5,6,7,8,9,10]⟩,⟨m 100 8,[8],[0,1,2,3,4,5,6,7,8,9,10,11,12]⟩,⟨zX 101 9 99 100,[99,100],[0,1,2,3,4,5,6,7,8,9,10]⟩,⟨zD 102 1 101,[101],[0,1,2,3,4,5,6,7,8,9,10]⟩,⟨l 103 102,[102],[0,1,2,3,4,5,6,7,8,9,10]⟩,⟨m 104 1,[1],[0,1,2,3,4,5,6,7,8,9,10,11,12,13,14,15,16]⟩,⟨zc2 105 81 103 104,[103,104],[0,1,2,3,4,5,6,7,8,9,10]⟩,⟨zbv .add 106 3 97 105,[97,105],[]⟩,⟨m 5 106,[106],[]⟩]
def aIZ:ACode:=.draw aIX
def Kb:ACode:=(Q (Q (R [m 75 8,zD 76 5 2,l 77 76,zln 78 77,zbv .lss 79 3 75 78,m 80 79,zg 81 80 T (.mv (.t 5)),zg 82 80 T (.mv (.t 1)),zg 83 80 T (.bin .leq 3 F (.t 81) (.t 82)),zpf 84 80 83])
 (C (.t 84) .skip (.exit 4)))
 (Q (.block 5 (Q aIZ
 (R [m 107 5,zD 108 5 2,l 109 108,m 110 8,zX 111 9 109 110,zD 112 2 111,zL 113 7 112,m 114 1,m 115 5,zbv .sub 116 3 114 115,zc2 117 54 113 116,zbv .add 118 3 107 117,m 5 118])))
 (R [m 85 8,zbk .add 86 3 85 1,m 8 86])))
def Wq:ACode:=.loop Kb
def f54:ACode:=(Q (R [zbx 2 0,n 4 0])
 (Q aJB
 (Q (Q (R [n 6 0])
 (.block 0 Ws))
 (Q (Q (R [n 7 0])
 (.block 2 Wr))
 (Q (Q (R [n 8 0])
 (.block 4 Wq))
 (Q (R [m 119 5,m 4 119])
 .ret))))))
def Wt:AFun:=⟨f54,[.tmp 4]⟩
theorem aIW:funOf i7 54=some Wt:=by kernel_rfl
def dx:ACode:=(Q (R [zbv .lss 14 3 13 12])
 (Q (C (.t 14) .skip (.exit 0))
 (Q (.block 1 (Q (R [zX 15 2 11 13,zL 16 2 15,zo 5 (.alloc [V (G ⟨#[]⟩),V (G ⟨#[]⟩)]),⟨O,O,.store 2 (.t 5) (.t 16)⟩])
 (Q (Q (R [zD 17 0 5,l 18 17,zo 19 (.bin .neq 9 T (.t 18) (.c (V (G ⟨#[118]⟩)))),m 20 19,zg 21 20 T (D 0 (.t 5)),zg 22 20 T (L O (.t 21)),zg 23 20 T (.call 83 [.t 22]),zg 24 20 T (.bin .neq 29 T (.t 23) (.c (V (I .i64 0)))),zpf 25 20 24])
 (C (.t 25) (Q (R [n 2 3])
 .ret) .skip))
 (Q (Q (R [m 26 3,zD 27 0 5,l 28 27,zo 29 (.lookup .string (V (.bool F)) (.t 26) (.t 28) F)])
 (C (.t 29) (Q (R [n 2 4])
 .ret) .skip))
 (Q (R [m 30 3,zD 31 0 5,l 32 31,⟨O,O,.mapUpd .string (.t 30) (.t 32) (.c (V (.bool T)))⟩])
 (Q (R [zD 33 1 5,l 34 33,zc1 35 84 34,m 6 35])
 (Q (R [m 36 6,zbk .neq 37 29 36 0])
 (C (.t 37) (Q (R [m 38 6,m 2 38])
 .ret) .skip))))))))
 (R [zbk .add 39 3 13 1,m 13 39]))))
def yl:ACode:=.loop dx
def f57:ACode:=(Q (R [n 2 0])
 (Q (Q (R [m 7 0,zln 8 7,zbk .gtr 9 3 8 24])
 (C (.t 9) (Q (R [n 2 7])
 .ret) .skip))
 (Q (R [zo 10 (.mkMap),m 3 10])
 (Q (Q (R [m 11 0,zln 12 11,n 13 0])
 (.block 0 yl))
 (Q (R [n 2 0])
 .ret)))))
def Ka:AFun:=⟨f57,[.tmp 2]⟩
theorem aIV:funOf i7 57=some Ka:=by kernel_rfl
def jO:ACode:=(Q (R [zbv .lss 14 3 13 12])
 (Q (C (.t 14) .skip (.exit 0))
 (Q (.block 1 (Q (R [zX 15 3 11 13,zL 16 3 15,zo 5 (.alloc [V (G ⟨#[]⟩),V (.slice O 0 0),V (G ⟨#[]⟩)]),⟨O,O,.store 3 (.t 5) (.t 16)⟩])
 (Q (Q (R [zL 17 3 5,zc1 18 85 17,m 6 18])
 (Q (R [m 19 6,zbk .neq 20 29 19 0])
 (C (.t 20) (Q (R [m 21 6,m 2 21])
 .ret) .skip)))
 (Q (Q (R [m 22 3,zD 23 0 5,l 24 23,zo 25 (.lookup .string (V (.bool F)) (.t 22) (.t 24) F)])
 (C (.t 25) (Q (R [n 2 4])
 .ret) .skip))
 (R [m 26 3,zD 27 0 5,l 28 27,⟨O,O,.mapUpd .string (.t 26) (.t 28) (.c (V (.bool T)))⟩])))))
 (R [zbk .add 29 3 13 1,m 13 29]))))
def yk:ACode:=.loop jO
def f58:ACode:=(Q (R [n 2 0])
 (Q (Q (R [m 7 0,zln 8 7,zbk .gtr 9 3 8 64])
 (C (.t 9) (Q (R [n 2 7])
 .ret) .skip))
 (Q (R [zo 10 (.mkMap),m 3 10])
 (Q (Q (R [m 11 0,zln 12 11,n 13 0])
 (.block 0 yk))
 (Q (R [n 2 0])
 .ret)))))
def Jz:AFun:=⟨f58,[.tmp 2]⟩
theorem aIU:funOf i7 58=some Jz:=by kernel_rfl
def fI:ACode:=(Q (R [zbv .lss 14 3 13 12])
 (Q (C (.t 14) .skip (.exit 0))
 (Q (.block 1 (Q (R [zX 15 2 11 13,zL 16 2 15,zo 5 (.alloc [V (G ⟨#[]⟩),V (.slice O 0 0)]),⟨O,O,.store 2 (.t 5) (.t 16)⟩])
 (Q (Q (R [zD 17 0 5,l 18 17,zc1 19 83 18,zbk .neq 20 29 19 0])
 (C (.t 20) (Q (R [n 2 3])
 .ret) .skip))
 (Q (Q (R [m 21 3,zD 22 0 5,l 23 22,zo 24 (.lookup .string (V (.bool F)) (.t 21) (.t 23) F)])
 (C (.t 24) (Q (R [n 2 4])
 .ret) .skip))
 (Q (R [m 25 3,zD 26 0 5,l 27 26,⟨O,O,.mapUpd .string (.t 25) (.t 27) (.c (V (.bool T)))⟩])
 (Q (Q (R [zD 28 1 5,l 29 28,zln 30 29,zbk .eql 31 3 30 0])
 (C (.t 31) (Q (R [n 2 13])
 .ret) .skip))
 (Q (R [zD 32 1 5,l 33 32,zc1 34 57 33,m 6 34])
 (Q (R [m 35 6,zbk .neq 36 29 35 0])
 (C (.t 36) (Q (R [m 37 6,m 2 37])
 .ret) .skip)))))))))
 (R [zbk .add 38 3 13 1,m 13 38]))))
def yj:ACode:=.loop fI
def f59:ACode:=(Q (R [n 2 0])
 (Q (Q (R [m 7 0,zln 8 7,zbk .gtr 9 3 8 40])
 (C (.t 9) (Q (R [n 2 7])
 .ret) .skip))
 (Q (R [zo 10 (.mkMap),m 3 10])
 (Q (Q (R [m 11 0,zln 12 11,n 13 0])
 (.block 0 yj))
 (Q (R [n 2 0])
 .ret)))))
def Jy:AFun:=⟨f59,[.tmp 2]⟩
theorem aIT:funOf i7 59=some Jy:=by kernel_rfl
def jN:ACode:=(Q (R [zbv .lss 19 3 18 17])
 (Q (C (.t 19) .skip (.exit 0))
 (Q (.block 1 (Q (R [zX 20 4 16 18,zL 21 4 20,zo 9 (.alloc [V (I .i64 0),V (G ⟨#[]⟩),V (I .i64 0),V (.slice O 0 0)]),⟨O,O,.store 4 (.t 9) (.t 21)⟩])
 (Q (Q (R [zD 22 0 9,l 23 22,zbk .eql 24 44 23 5,m 25 24,zg 26 25 T (D 3 (.t 9)),zg 27 25 T (L O (.t 26)),zg 28 25 T (.call 86 [.t 27]),zg 29 25 T (.lenS (.t 28)),zg 30 25 T (.bin .eql 3 T (.t 29) (.c (V (I .i64 0)))),zpf 31 25 30])
 (C (.t 31) (.exit 1) .skip))
 (Q (R [zL 32 4 9,zo 33 (.buildSlice 4 1 [V (I .i64 0),V (G ⟨#[]⟩),V (I .i64 0),V (.slice O 0 0)] [(0,4,(.t 32))]),zc1 34 86 33,zln 35 34,zbk .gtr 36 3 35 0])
 (C (.t 36) (Q (R [n 6 6])
 .ret) .skip)))))
 (R [zbk .add 37 3 18 1,m 18 37]))))
def tC:ACode:=.loop jN
def f60:ACode:=(Q (R [zbx 3 0,zbx 4 1,n 6 0])
 (Q (Q (R [zL 10 3 3,zL 11 4 4,zc2 12 23 10 11,m 7 12])
 (Q (R [m 13 7,zbk .neq 14 29 13 0])
 (C (.t 14) (Q (R [m 15 7,m 6 15])
 .ret) .skip)))
 (Q (Q (R [m 16 2,zln 17 16,n 18 0])
 (.block 0 tC))
 (Q (R [n 6 0])
 .ret))))
def Jx:AFun:=⟨f60,[.tmp 6]⟩
theorem aIS:funOf i7 60=some Jx:=by kernel_rfl
def fv:List DOp:=[⟨zD 12 3 1,[1],[]⟩,⟨l 13 12,[12],[]⟩,⟨zo 14 (X 4 (.t 13) (.c (V (I .i64 0)))),[13],[]⟩,⟨zL 15 4 14,[14],[]⟩,⟨zc1 16 61 15,[15],[]⟩,⟨zD 17 3 1,[1],[0,1,2,3,4]⟩,⟨l 18 17,[17],[0,1,2,3,4]⟩,⟨zo 19 (X 4 (.t 18) (.c (V (I .i64 1)))),[18],[0,1,2,3,4]⟩,⟨zL 20 4 19,[19],[0,1,2,3,4]⟩,⟨zc1 21 61 20,[20],[]⟩,⟨zo 22 (A 4 56 (.t 16) (.t 21)),[16,21],[]⟩,⟨m 2 22,[22],[]⟩]
def Wo:ACode:=.draw fv
def f61:ACode:=(Q (R [zbx 1 0,zns 2])
 (Q (Q (R [zD 3 0 1,l 4 3,zbk .eql 5 44 4 15,m 6 5,zg 7 6 T (D 3 (.t 1)),zg 8 6 T (L O (.t 7)),zg 9 6 T (.lenS (.t 8)),zg 10 6 T (.bin .eql 3 T (.t 9) (.c (V (I .i64 2)))),zpf 11 6 10])
 (C (.t 11) (Q Wo
 .ret) .skip))
 (Q (Q (R [zL 23 4 1,zc1 24 87 23])
 (C (.t 24) (Q (R [zns 2])
 .ret) .skip))
 (Q (R [zL 25 4 1,zc1 26 88 25,zo 27 (.buildSlice 4 1 [V (I .i64 0),V (G ⟨#[]⟩),V (I .i64 0),V (.slice O 0 0)] [(0,4,(.t 26))]),m 2 27])
 .ret))))
def mW:AFun:=⟨f61,[.tmp 2]⟩
theorem aIR:funOf i7 61=some mW:=by kernel_rfl
def mT:ACode:=(Q (R [zbv .lss 9 3 8 7])
 (Q (C (.t 9) .skip (.exit 0))
 (Q (.block 1 (Q (R [m 10 8,m 5 10])
 (Q (R [m 11 1,m 12 0,m 13 5,zX 14 1 12 13,l 15 14,zbv .eql 16 9 11 15])
 (C (.t 16) (Q (R [m 17 5,m 4 17])
 .ret) .skip))))
 (R [zbk .add 18 3 8 1,m 8 18]))))
def yf:ACode:=.loop mT
def f72:ACode:=(Q (R [n 4 0])
 (Q (Q (R [m 6 0,zln 7 6,n 8 0])
 (.block 0 yf))
 (Q (R [n 4 (-1)])
 .ret)))
def Wl:AFun:=⟨f72,[.tmp 4]⟩
theorem aIJ:funOf i7 72=some Wl:=by kernel_rfl
def mS:ACode:=(Q (R [zbv .lss 10 3 9 8])
 (Q (C (.t 10) .skip (.exit 0))
 (Q (.block 1 (Q (R [zX 11 4 7 9,zL 12 4 11,zo 6 (.alloc [V (I .i64 0),V (G ⟨#[]⟩),V (I .i64 0),V (.slice O 0 0)]),⟨O,O,.store 4 (.t 6) (.t 12)⟩])
 (Q (R [zL 13 4 6,zL 14 4 3,zc2 15 110 13 14])
 (C (.t 15) (Q (R [zbt 4])
 .ret) .skip))))
 (R [zbk .add 16 3 9 1,m 9 16]))))
def ye:ACode:=.loop mS
def f74:ACode:=(Q (R [zbx 3 1,zbf 4])
 (Q (Q (R [m 7 0,zln 8 7,n 9 0])
 (.block 0 ye))
 (Q (R [zbf 4])
 .ret)))
def Wj:AFun:=⟨f74,[.tmp 4]⟩
theorem aII:funOf i7 74=some Wj:=by kernel_rfl
def yc:List DOp:=[⟨m 18 2,[2],[]⟩,⟨m 19 0,[0],[0]⟩,⟨m 20 7,[7],[0,1]⟩,⟨zX 21 4 19 20,[19,20],[0]⟩,⟨zL 22 4 21,[21],[0]⟩,⟨m 23 1,[1],[0,1,2,3,4]⟩,⟨m 24 7,[7],[0,1,2,3,4,5]⟩,⟨zX 25 4 23 24,[23,24],[0,1,2,3,4]⟩,⟨zL 26 4 25,[25],[0,1,2,3,4]⟩,⟨zo 27 (.callv (.t 18) [.t 22,.t 26]),[18,22,26],[]⟩,⟨zun 28 27,[27],[]⟩]
def Wi:ACode:=.draw yc
def sz:ACode:=(Q (R [zbv .lss 16 3 15 14])
 (Q (C (.t 16) .skip (.exit 0))
 (Q (.block 1 (Q (R [m 17 15,m 7 17])
 (Q Wi
 (C (.t 28) (Q (R [zbf 6])
 .ret) .skip))))
 (R [zbk .add 29 3 15 1,m 15 29]))))
def yd:ACode:=.loop sz
def f75:ACode:=(Q (R [zbf 6])
 (Q (Q (R [m 8 0,zln 9 8,m 10 1,zln 11 10,zbv .neq 12 3 9 11])
 (C (.t 12) (Q (R [zbf 6])
 .ret) .skip))
 (Q (Q (R [m 13 0,zln 14 13,n 15 0])
 (.block 0 yd))
 (Q (R [zbt 6])
 .ret))))
def Jp:AFun:=⟨f75,[.tmp 6]⟩
theorem aIH:funOf i7 75=some Jp:=by kernel_rfl
def yb:ACode:=(R [zo 3 (.alloc [V (I .i64 0),V (G ⟨#[]⟩),V (I .i64 0),V (.slice O 0 0)]),⟨O,O,.store 4 (.t 3) (.t 13)⟩])
def pE:ACode:=(.block 1 (Q (R [zL 14 4 3,zc1 15 114 14,m 4 15])
 (Q (R [m 16 4,zbk .neq 17 29 16 0])
 (C (.t 17) (Q (R [m 18 4,⟨O,O,.store 1 (.t 2) (.t 18)⟩])
 .ret) .skip))))
def mR:ACode:=(Q (R [zbv .lss 15 3 14 13])
 (Q (C (.t 15) .skip (.exit 0))
 (Q (.block 1 (Q (R [zX 16 4 12 14,zL 17 4 16,zo 8 (.alloc [V (I .i64 0),V (G ⟨#[]⟩),V (I .i64 0),V (.slice O 0 0)]),⟨O,O,.store 4 (.t 8) (.t 17)⟩])
 (Q (R [l 19 1,zL 20 4 8,zo 21 (.callv (.t 19) [.t 20]),m 18 21,zex 22 0 18,zex 23 1 18,m 9 22,m 10 23])
 (Q (Q (R [m 24 10,zbk .neq 25 29 24 0])
 (C (.t 25) (Q (R [m 26 10,zo 4 (.mv (.c (V (G ⟨#[]⟩)))),m 5 26])
 .ret) .skip))
 (R [m 27 6,m 28 9,zo 29 (.buildSlice 1 1 [V (G ⟨#[]⟩)] [(0,1,(.t 28))]),zo 30 (A 1 16 (.t 27) (.t 29)),m 6 30])))))
 (R [zbk .add 31 3 14 1,m 14 31]))))
def yY:ACode:=.loop mR
def f77:ACode:=(Q (R [zbx 3 0,zo 4 (.mv (.c (V (G ⟨#[]⟩)))),n 5 0])
 (Q (R [zns 6])
 (Q (Q (R [zD 11 3 3,l 12 11,zln 13 12,n 14 0])
 (.block 0 yY))
 (Q (R [zL 32 3 2,zL 33 4 3,m 34 6,zo 35 (.call 78 [.t 32,.t 33,.t 34]),zex 36 0 35,zex 37 1 35,m 4 36,m 5 37])
 .ret))))
def Wh:AFun:=⟨f77,[.tmp 4,.tmp 5]⟩
theorem aIF:funOf i7 77=some Wh:=by kernel_rfl
def f78:ACode:=(Q (R [zbx 3 0,zbx 4 1,zo 6 (.mv (.c (V (G ⟨#[]⟩)))),n 7 0])
 (Q (Q (R [zD 11 0 4,l 12 11])
 (.block 0 (Q (R [zbk .eql 14 44 12 1,m 13 14])
 (C (.t 13) (Q (R [zo 6 (.mv (.c (V (G ⟨#[73,110,116]⟩)))),n 7 0])
 .ret) (Q (R [zbk .eql 16 44 12 2,m 15 16])
 (C (.t 15) (Q (R [zo 6 (.mv (.c (V (G ⟨#[66,111,111,108]⟩)))),n 7 0])
 .ret) (Q (R [zbk .eql 18 44 12 3,m 17 18])
 (C (.t 17) (Q (R [zL 20 3 3,zD 21 1 4,l 22 21,zc2 23 115 20 22,m 19 23,zex 24 0 19,zex 25 1 19,m 8 24,m 9 25])
 (Q (Q (R [m 26 9,zun 27 26])
 (C (.t 27) (Q (R [zo 6 (.mv (.c (V (G ⟨#[]⟩)))),n 7 5])
 .ret) .skip))
 (Q (R [m 28 8,m 6 28,n 7 0])
 .ret))) (Q (R [zbk .eql 30 44 12 4,m 29 30])
 (C (.t 29) (Q (R [zL 31 3 3,zD 32 1 4,l 33 32,m 34 2,zo 35 (.call 116 [.t 31,.t 33,.t 34]),zex 36 0 35,zex 37 1 35,m 6 36,m 7 37])
 .ret) (Q (R [zbk .eql 39 44 12 5,m 38 39])
 (C (.t 38) (Q (R [zL 40 3 3,zD 41 1 4,l 42 41,m 43 2,zo 44 (.call 117 [.t 40,.t 42,.t 43]),zex 45 0 44,zex 46 1 44,m 6 45,m 7 46])
 .ret) .skip))))))))))))
 (Q (R [zD 47 0 4,l 48 47,zc1 49 118 48,zo 10 (.alloc [V .nilFunc,V (G ⟨#[]⟩)]),⟨O,O,.store 2 (.t 10) (.t 49)⟩])
 (Q (Q (R [zD 50 0 10,l 51 50,m 52 2,zo 53 (.callv (.t 51) [.t 52]),zun 54 53])
 (C (.t 54) (Q (R [zo 6 (.mv (.c (V (G ⟨#[]⟩)))),n 7 11])
 .ret) .skip))
 (Q (R [zD 55 1 10,l 56 55,m 6 56,n 7 0])
 .ret)))))
def fu:AFun:=⟨f78,[.tmp 6,.tmp 7]⟩
theorem aIE:funOf i7 78=some fu:=by kernel_rfl
def f79:ACode:=(Q (R [zbx 1 0,n 2 0])
 (Q (R [zD 4 0 1,l 5 4,zbk .eql 6 44 5 1,m 7 6,zg 8 7 F (D 0 (.t 1)),zg 9 7 F (L O (.t 8)),zg 10 7 F (.bin .eql 44 T (.t 9) (.c (V (I .i64 2)))),zpt 11 7 10,m 3 11])
 (Q (Q (R [zD 12 0 1,l 13 12,zbk .lss 14 44 13 1,m 15 14,zg 16 15 F (D 0 (.t 1)),zg 17 15 F (L O (.t 16)),zg 18 15 F (.bin .gtr 44 T (.t 17) (.c (V (I .i64 18)))),zpt 19 15 18,m 20 19,zg 21 20 F (D 1 (.t 1)),zg 22 20 F (L O (.t 21)),⟨S 23,S (20,F),.bin .neq 9 T (.t 22) (.c (V (G ⟨#[]⟩)))⟩,zg 24 20 F (.mv (.t 23)),zg 25 24 T (D 0 (.t 1)),zg 26 24 T (L O (.t 25)),zg 27 24 T (.call 119 [.t 26]),zg 28 24 T (.un .not (.t 27)),zg 29 20 F (.pick (.t 24) (.t 28) (.c (V (.bool F)))),zpt 30 20 29,m 31 30,zg 32 31 F (D 2 (.t 1)),zg 33 31 F (L O (.t 32)),zg 34 31 F (.bin .neq 3 T (.t 33) (.c (V (I .i64 0)))),zg 35 31 F (.mv (.t 34)),zg 36 35 T (.mv (.t 3)),zg 37 35 T (.un .not (.t 36)),zg 38 31 F (.pick (.t 35) (.t 37) (.c (V (.bool F)))),zpt 39 31 38,m 40 39,zg 41 40 F (D 0 (.t 1)),zg 42 40 F (L O (.t 41)),zg 43 40 F (D 3 (.t 1)),zg 44 40 F (L O (.t 43)),zg 45 40 F (.lenS (.t 44)),zg 46 40 F (.call 120 [.t 42,.t 45]),zg 47 40 F (.un .not (.t 46)),zpt 48 40 47])
 (C (.t 48) (Q (R [n 2 1])
 .ret) .skip))
 (Q (Q (R [zD 49 0 1,l 50 49,zbk .eql 51 44 50 1,m 52 51,zg 53 52 T (D 2 (.t 1)),zg 54 52 T (L O (.t 53)),zg 55 52 T (.call 121 [.t 54]),zg 56 52 T (.un .not (.t 55)),zpf 57 52 56,m 58 57,zg 59 58 F (D 0 (.t 1)),zg 60 58 F (L O (.t 59)),zg 61 58 F (.bin .eql 44 T (.t 60) (.c (V (I .i64 2)))),zg 62 58 F (.mv (.t 61)),zg 63 62 T (D 2 (.t 1)),zg 64 62 T (L O (.t 63)),zg 65 62 T (.bin .lss 3 T (.t 64) (.c (V (I .i64 0)))),zg 66 62 T (.mv (.t 65)),zg 67 66 F (D 2 (.t 1)),zg 68 66 F (L O (.t 67)),zg 69 66 F (.bin .gtr 3 T (.t 68) (.c (V (I .i64 1)))),zg 70 62 T (.pick (.t 66) (.c (V (.bool T))) (.t 69)),zg 71 58 F (.pick (.t 62) (.t 70) (.c (V (.bool F)))),zpt 72 58 71])
 (C (.t 72) (Q (R [n 2 2])
 .ret) .skip))
 (Q (Q (R [zL 73 4 1,zc1 74 122 73,zun 75 74])
 (C (.t 75) (Q (R [n 2 3])
 .ret) .skip))
 (Q (Q (R [zD 76 0 1,l 77 76,zbk .eql 78 44 77 8,m 79 78,zg 80 79 T (D 3 (.t 1)),zg 81 79 T (L O (.t 80)),zg 82 79 T (X 4 (.t 81) (.c (V (I .i64 0)))),zg 83 79 T (D 0 (.t 82)),zg 84 79 T (L O (.t 83)),zg 85 79 T (.bin .neq 44 T (.t 84) (.c (V (I .i64 1)))),zpf 86 79 85])
 (C (.t 86) (Q (R [n 2 6])
 .ret) .skip))
 (Q (R [n 2 0])
 .ret)))))))
def bK:AFun:=⟨f79,[.tmp 2]⟩
theorem bd:funOf i7 79=some bK:=by kernel_rfl
def dw:List DOp:=[⟨m 18 5,[5],[]⟩,⟨zbk .add 19 3 18 1,[18],[]⟩,⟨m 20 0,[0],[0,1]⟩,⟨m 21 6,[6],[0,1,2]⟩,⟨zX 22 9 20 21,[20,21],[0,1]⟩,⟨zD 23 1 22,[22],[0,1]⟩,⟨l 24 23,[23],[0,1]⟩,⟨zo 25 (.lenStr (.t 24)),[24],[0,1]⟩,⟨zbk .quo 26 3 25 50,[25],[0,1]⟩,⟨zbv .add 27 3 19 26,[19,26],[]⟩,⟨m 28 0,[0],[0,1,2,3,4,5,6,7,8,9]⟩,⟨m 29 6,[6],[0,1,2,3,4,5,6,7,8,9,10]⟩,⟨zX 30 9 28 29,[28,29],[0,1,2,3,4,5,6,7,8,9]⟩,⟨zD 31 3 30,[30],[0,1,2,3,4,5,6,7,8,9]⟩,⟨l 32 31,[31],[0,1,2,3,4,5,6,7,8,9]⟩,⟨zln 33 32,[32],[0,1,2,3,4,5,6,7,8,9]⟩,⟨zbv .add 34 3 27 33,[27,33],[]⟩,⟨m 35 0,[0],[0,1,2,3,4,5,6,7,8,9,10,11,12,13,14,15,16]⟩,⟨m 36 6,[6],[0,1,2,3,4,5,6,7,8,9,10,11,12,13,14,15,16,17]⟩,⟨zX 37 9 35 36,[35,36],[0,1,2,3,4,5,6,7,8,9,10,11,12,13,14,15,16]⟩,⟨zD 38 4 37,[37],[0,1,2,3,4,5,6,7,8,9,10,11,12,13,14,15,16]⟩,⟨zL 39 4 38,[38],[0,1,2,3,4,5,6,7,8,9,10,11,12,13,14,15,16]⟩,⟨zo 40 (.buildSlice 4 1 [V (I .i64 0),V (G ⟨#[]⟩),V (I .i64 0),V (.slice O 0 0)] [(0,4,(.t 39))]),[39],[0,1,2,3,4,5,6,7,8,9,10,11,12,13,14,15,16]⟩,⟨m 41 0,[0],[0,1,2,3,4,5,6,7,8,9,10,11,12,13,14,15,16,17,18,19,20,21,22]⟩,⟨m 42 6,[6],[0,1,2,3,4,5,6,7,8,9,10,11,12,13,14,15,16,17,18,19,20,21,22,23]⟩,⟨zX 43 9 41 42,[41,42],[0,1,2,3,4,5,6,7,8,9,10,11,12,13,14,15,16,17,18,19,20,21,22]⟩,⟨zD 44 8 43,[43],[0,1,2,3,4,5,6,7,8,9,10,11,12,13,14,15,16,17,18,19,20,21,22]⟩,⟨l 45 44,[44],[0,1,2,3,4,5,6,7,8,9,10,11,12,13,14,15,16,17,18,19,20,21,22]⟩,⟨zo 46 (A 4 56 (.t 40) (.t 45)),[40,45],[0,1,2,3,4,5,6,7,8,9,10,11,12,13,14,15,16]⟩,⟨m 47 1,[1],[0,1,2,3,4,5,6,7,8,9,10,11,12,13,14,15,16,17,18,19,20,21,22,23,24,25,26,27,28]⟩,⟨zc2 48 123 46 47,[46,47],[0,1,2,3,4,5,6,7,8,9,10,11,12,13,14,15,16]⟩,⟨zbv .add 49 3 34 48,[34,48],[]⟩,⟨m 5 49,[49],[]⟩]
def Wg:ACode:=.draw dw
def jJ:ACode:=(Q (Q (R [m 7 6,m 8 0,zln 9 8,zbv .lss 10 3 7 9,m 11 10,zg 12 11 T (.mv (.t 5)),zg 13 11 T (.mv (.t 1)),zg 14 11 T (.bin .leq 3 F (.t 12) (.t 13)),zpf 15 11 14])
 (C (.t 15) .skip (.exit 0)))
 (Q (.block 1 (Q Wg
 (R [m 50 5,m 51 0,m 52 6,zX 53 9 51 52,zD 54 2 53,l 55 54,m 56 1,m 57 5,zbv .sub 58 3 56 57,zc2 59 80 55 58,zbv .add 60 3 50 59,m 5 60])))
 (R [m 16 6,zbk .add 17 3 16 1,m 6 17])))
def yX:ACode:=.loop jJ
def f80:ACode:=(Q (R [n 4 0])
 (Q (R [n 5 0])
 (Q (Q (R [n 6 0])
 (.block 0 yX))
 (Q (R [m 61 5,m 4 61])
 .ret))))
def Jn:AFun:=⟨f80,[.tmp 4]⟩
theorem Wf:funOf i7 80=some Jn:=by kernel_rfl
def sx:ACode:=(Q (Q (R [m 32 5])
 (C (.t 32) .skip (.exit 0)))
 (.block 1 (Q (R [zo 6 (.mv (.c (V (G ⟨#[]⟩))))])
 (Q (R [m 34 4,zc1 35 127 34,m 33 35,zex 36 0 33,zex 37 1 33,zex 38 2 33,m 6 36,m 4 37,m 5 38])
 (Q (R [m 39 6,zc1 40 130 39,zun 41 40,m 42 41,zg 43 42 F (.mv (.t 6)),zg 44 42 F (.call 131 [.t 43]),zg 45 42 F (.un .not (.t 44)),zg 46 42 F (.mv (.t 45)),zg 47 46 T (.mv (.t 6)),zg 48 46 T (.call 132 [.t 47]),zg 49 46 T (.un .not (.t 48)),zg 50 42 F (.pick (.t 46) (.t 49) (.c (V (.bool F)))),zpt 51 42 50])
 (C (.t 51) (Q (R [n 2 3])
 .ret) .skip))))))
def yW:ACode:=.loop sx
def f83:ACode:=(Q (R [n 2 0])
 (Q (Q (R [m 7 0,zo 8 (.lenStr (.t 7)),zbk .gtr 9 3 8 120])
 (C (.t 9) (Q (R [n 2 3])
 .ret) .skip))
 (Q (R [m 11 0,zc1 12 127 11,m 10 12,zex 13 0 10,zex 14 1 10,zex 15 2 10,m 3 13,m 4 14,m 5 15])
 (Q (Q (R [m 16 3,zc1 17 128 16,zun 18 17,m 19 18,zg 20 19 T (.mv (.t 3)),zg 21 19 T (.call 129 [.t 20]),zg 22 19 T (.un .not (.t 21)),zpf 23 19 22,m 24 23,zg 25 24 T (.mv (.t 3)),⟨S 26,S (24,T),.bin .neq 9 T (.t 25) (.c (V (G ⟨#[118]⟩)))⟩,zg 27 24 T (.mv (.t 26)),zg 28 27 F (.mv (.t 5)),zg 29 27 F (.un .not (.t 28)),zg 30 24 T (.pick (.t 27) (.c (V (.bool T))) (.t 29)),zpf 31 24 30])
 (C (.t 31) (Q (R [n 2 3])
 .ret) .skip))
 (Q (.block 0 yW)
 (Q (R [n 2 0])
 .ret))))))
def Jm:AFun:=⟨f83,[.tmp 2]⟩
theorem aID:funOf i7 83=some Jm:=by kernel_rfl
def f84:ACode:=(Q (R [n 2 0])
 (Q (Q (R [m 3 0])
 (.block 0 (Q (Q (R [zo 5 (.bin .eql 79 T (.t 3) (.c (V (G ⟨#[73,110,116]⟩)))),m 4 5])
 (C (.t 4) .skip (Q (R [zo 6 (.bin .eql 79 T (.t 3) (.c (V (G ⟨#[66,111,111,108]⟩)))),m 4 6])
 (C (.t 4) .skip (R [zo 7 (.bin .eql 79 T (.t 3) (.c (V (G ⟨#[67,101,108,108]⟩)))),m 4 7])))))
 (C (.t 4) (Q (R [n 2 0])
 .ret) .skip))))
 (Q (Q (R [m 8 0,zc1 9 83 8,zbk .neq 10 29 9 0,m 11 10,zg 12 11 F (.mv (.t 0)),zg 13 11 F (.idxStr (.t 12) (.c (V (I .i64 0)))),zg 14 11 F (.bin .lss 5 T (.t 13) (.c (V (I .u8 65)))),zpt 15 11 14,m 16 15,zg 17 16 F (.mv (.t 0)),zg 18 16 F (.idxStr (.t 17) (.c (V (I .i64 0)))),zg 19 16 F (.bin .gtr 5 T (.t 18) (.c (V (I .u8 90)))),zpt 20 16 19])
 (C (.t 20) (Q (R [n 2 11])
 .ret) .skip))
 (Q (R [n 2 0])
 .ret))))
def mQ:AFun:=⟨f84,[.tmp 2]⟩
theorem aIC:funOf i7 84=some mQ:=by kernel_rfl
def mP:ACode:=(Q (R [zbv .lss 24 3 23 22])
 (Q (C (.t 24) .skip (.exit 0))
 (Q (.block 1 (Q (R [zX 25 1 21 23,l 26 25,m 4 26])
 (Q (R [m 27 4,zc1 28 84 27,m 5 28])
 (Q (R [m 29 5,zbk .neq 30 29 29 0])
 (C (.t 30) (Q (R [m 31 5,m 2 31])
 .ret) .skip)))))
 (R [zbk .add 32 3 23 1,m 23 32]))))
def yV:ACode:=.loop mP
def f85:ACode:=(Q (R [zbx 1 0,n 2 0])
 (Q (Q (R [zD 6 0 1,l 7 6,zc1 8 83 7,zbk .neq 9 29 8 0])
 (C (.t 9) (Q (R [n 2 3])
 .ret) .skip))
 (Q (Q (R [zD 10 1 1,l 11 10,zln 12 11,zbk .lss 13 3 12 1,m 14 13,zg 15 14 F (D 1 (.t 1)),zg 16 14 F (L O (.t 15)),zg 17 14 F (.lenS (.t 16)),zg 18 14 F (.bin .gtr 3 T (.t 17) (.c (V (I .i64 6)))),zpt 19 14 18])
 (C (.t 19) (Q (R [n 2 13])
 .ret) .skip))
 (Q (Q (R [zD 20 1 1,l 21 20,zln 22 21,n 23 0])
 (.block 0 yV))
 (Q (R [zD 33 2 1,l 34 33,zc1 35 84 34,m 2 35])
 .ret)))))
def su:AFun:=⟨f85,[.tmp 2]⟩
theorem aIB:funOf i7 85=some su:=by kernel_rfl
def sr:ACode:=(Q (R [zbv .lss 9 3 8 7])
 (Q (C (.t 9) .skip (.exit 0))
 (Q (.block 1 (Q (R [zX 10 4 6 8,zL 11 4 10,zo 5 (.alloc [V (I .i64 0),V (G ⟨#[]⟩),V (I .i64 0),V (.slice O 0 0)]),⟨O,O,.store 4 (.t 5) (.t 11)⟩])
 (R [m 12 3,zL 13 4 5,zc1 14 133 13,zo 15 (A 4 56 (.t 12) (.t 14)),m 3 15])))
 (R [zbk .add 16 3 8 1,m 8 16]))))
def yU:ACode:=.loop sr
def f86:ACode:=(Q (R [zns 2])
 (Q (R [zns 3])
 (Q (Q (R [m 6 0,zln 7 6,n 8 0])
 (.block 0 yU))
 (Q (R [m 17 3,m 2 17])
 .ret))))
def We:AFun:=⟨f86,[.tmp 2]⟩
theorem aIA:funOf i7 86=some We:=by kernel_rfl
def yT:List DOp:=[⟨zL 3 4 1,[1],[]⟩,⟨zo 4 (.build [V (I .i64 0),V (G ⟨#[]⟩),V (I .i64 0),V (.slice O 0 0)] []),[],[0]⟩,⟨zc2 5 48 3 4,[3,4],[]⟩,⟨m 6 5,[5],[]⟩,⟨zg 7 6 F (L (S 4) (.t 1)),[1,6],[]⟩,⟨zg 8 6 F (.call 108 [.c (V (.bool T))]),[6],[4]⟩,⟨zg 9 6 F (.call 48 [.t 7,.t 8]),[7,8,6],[]⟩,⟨zpt 10 6 9,[6,9],[]⟩,⟨m 2 10,[10],[]⟩]
def Wd:ACode:=.draw yT
def f87:ACode:=(Q (R [zbx 1 0,zbf 2])
 (Q Wd
 .ret))
def Wc:AFun:=⟨f87,[.tmp 2]⟩
theorem aHZ:funOf i7 87=some Wc:=by kernel_rfl
def yR:List DOp:=[⟨zD 20 3 3,[3],[]⟩,⟨l 21 20,[20],[]⟩,⟨zL 22 4 5,[5],[0,1]⟩,⟨zc1 23 88 22,[22],[0,1]⟩,⟨zo 24 (.buildSlice 4 1 [V (I .i64 0),V (G ⟨#[]⟩),V (I .i64 0),V (.slice O 0 0)] [(0,4,(.t 23))]),[23],[0,1]⟩,⟨zo 25 (A 4 56 (.t 21) (.t 24)),[21,24],[]⟩,⟨zD 26 3 3,[3],[]⟩,⟨⟨O,O,.store 1 (.t 26) (.t 25)⟩,[26,25],[]⟩]
def Wb:ACode:=.draw yR
def sq:ACode:=(Q (R [zbv .lss 17 3 16 15])
 (Q (C (.t 17) .skip (.exit 0))
 (Q (.block 1 (Q (R [zX 18 4 14 16,zL 19 4 18,zo 5 (.alloc [V (I .i64 0),V (G ⟨#[]⟩),V (I .i64 0),V (.slice O 0 0)]),⟨O,O,.store 4 (.t 5) (.t 19)⟩])
 Wb))
 (R [zbk .add 27 3 16 1,m 16 27]))))
def yS:ACode:=.loop sq
def f88:ACode:=(Q (R [zbx 1 0,zo 2 (.alloc [V (I .i64 0),V (G ⟨#[]⟩),V (I .i64 0),V (.slice O 0 0)])])
 (Q (R [zD 6 0 1,l 7 6,zD 8 1 1,l 9 8,zD 10 2 1,l 11 10,zo 12 (.build [V (I .i64 0),V (G ⟨#[]⟩),V (I .i64 0),V (.slice O 0 0)] [(0,1,(.t 7)),(1,1,(.t 9)),(2,1,(.t 11))]),zo 3 (.alloc [V (I .i64 0),V (G ⟨#[]⟩),V (I .i64 0),V (.slice O 0 0)]),⟨O,O,.store 4 (.t 3) (.t 12)⟩])
 (Q (Q (R [zD 13 3 1,l 14 13,zln 15 14,n 16 0])
 (.block 0 yS))
 (Q (R [zL 28 4 3,⟨O,O,.store 4 (.t 2) (.t 28)⟩])
 .ret))))
def Wa:AFun:=⟨f88,[.cell 2 (S 4)]⟩
theorem aHY:funOf i7 88=some Wa:=by kernel_rfl
def sk:ACode:=(Q (R [zbv .lss 38 3 37 36])
 (Q (C (.t 38) .skip (.exit 0))
 (Q (.block 1 (Q (R [zX 39 1 35 37,l 40 39,m 5 40])
 (Q (R [m 41 5,zc1 42 137 41,zun 43 42])
 (C (.t 43) (Q (R [n 2 3])
 .ret) .skip))))
 (R [zbk .add 44 3 37 1,m 37 44]))))
def yQ:ACode:=.loop sk
def f89:ACode:=(Q (R [n 2 0])
 (Q (Q (R [m 6 0,zo 7 (.lenStr (.t 6)),zbk .gtr 8 3 7 120])
 (C (.t 8) (Q (R [n 2 3])
 .ret) .skip))
 (Q (R [m 9 0,zc1 10 134 9,m 3 10])
 (Q (Q (R [m 11 3,zo 12 (X 1 (.t 11) (.c (V (I .i64 0)))),l 13 12,zc1 14 135 13,zbk .neq 15 29 14 0,m 16 15,zg 17 16 T (.mv (.t 3)),zg 18 16 T (X 1 (.t 17) (.c (V (I .i64 0)))),zg 19 16 T (L O (.t 18)),zg 20 16 T (.call 136 [.t 19]),zg 21 16 T (.bin .neq 29 T (.t 20) (.c (V (I .i64 0)))),zpf 22 16 21,m 23 22,zg 24 23 T (.mv (.t 3)),zg 25 23 T (X 1 (.t 24) (.c (V (I .i64 0)))),zg 26 23 T (L O (.t 25)),⟨S 27,S (23,T),.bin .neq 9 T (.t 26) (.c (V (G ⟨#[118]⟩)))⟩,zg 28 23 T (.mv (.t 27)),zg 29 28 F (.mv (.t 3)),zg 30 28 F (.lenS (.t 29)),zg 31 28 F (.bin .eql 3 T (.t 30) (.c (V (I .i64 1)))),zg 32 23 T (.pick (.t 28) (.c (V (.bool T))) (.t 31)),zpf 33 23 32])
 (C (.t 33) (Q (R [n 2 3])
 .ret) .skip))
 (Q (Q (R [m 34 3,zo 35 (.sliceS 1 (.t 34) (S (.c (V (I .i64 1)))) O O),zln 36 35,n 37 0])
 (.block 0 yQ))
 (Q (R [n 2 0])
 .ret))))))
def Jj:AFun:=⟨f89,[.tmp 2]⟩
theorem aHX:funOf i7 89=some Jj:=by kernel_rfl
def f108:ACode:=(Q (R [zo 2 (.alloc [V (I .i64 0),V (G ⟨#[]⟩),V (I .i64 0),V (.slice O 0 0)])])
 (Q (Q (R [m 3 0])
 (C (.t 3) (Q (R [zo 4 (.build [V (I .i64 0),V (G ⟨#[]⟩),V (I .i64 0),V (.slice O 0 0)] [(0,1,(.c (V (I .i64 2)))),(2,1,(.c (V (I .i64 1))))]),⟨O,O,.store 4 (.t 2) (.t 4)⟩])
 .ret) .skip))
 (Q (R [zo 5 (.build [V (I .i64 0),V (G ⟨#[]⟩),V (I .i64 0),V (.slice O 0 0)] [(0,1,(.c (V (I .i64 2))))]),⟨O,O,.store 4 (.t 2) (.t 5)⟩])
 .ret)))
def Oz:AFun:=⟨f108,[.cell 2 (S 4)]⟩
theorem aDU:funOf i7 108=some Oz:=by kernel_rfl
def Ox:List DOp:=[⟨zD 40 3 2,[2],[]⟩,⟨l 41 40,[40],[]⟩,⟨m 42 5,[5],[0,1]⟩,⟨zX 43 4 41 42,[41,42],[]⟩,⟨zL 44 4 43,[43],[]⟩,⟨zD 45 3 3,[3],[0,1,2,3,4]⟩,⟨l 46 45,[45],[0,1,2,3,4]⟩,⟨m 47 5,[5],[0,1,2,3,4,5,6]⟩,⟨zX 48 4 46 47,[46,47],[0,1,2,3,4]⟩,⟨zL 49 4 48,[48],[0,1,2,3,4]⟩,⟨zc2 50 110 44 49,[44,49],[]⟩,⟨zun 51 50,[50],[]⟩]
def Oy:ACode:=.draw Ox
def lK:ACode:=(Q (R [zbv .lss 38 3 37 36])
 (Q (C (.t 38) .skip (.exit 0))
 (Q (.block 1 (Q (R [m 39 37,m 5 39])
 (Q Oy
 (C (.t 51) (Q (R [zbf 4])
 .ret) .skip))))
 (R [zbk .add 52 3 37 1,m 37 52]))))
def py:ACode:=.loop lK
def f110:ACode:=(Q (R [zbx 2 0,zbx 3 1,zbf 4])
 (Q (Q (R [zD 6 0 2,l 7 6,zD 8 0 3,l 9 8,zbv .neq 10 44 7 9,m 11 10,zg 12 11 F (D 1 (.t 2)),zg 13 11 F (L O (.t 12)),zg 14 11 F (D 1 (.t 3)),zg 15 11 F (L O (.t 14)),zg 16 11 F (.bin .neq 9 F (.t 13) (.t 15)),zpt 17 11 16,m 18 17,zg 19 18 F (D 2 (.t 2)),zg 20 18 F (L O (.t 19)),zg 21 18 F (D 2 (.t 3)),zg 22 18 F (L O (.t 21)),zg 23 18 F (.bin .neq 3 F (.t 20) (.t 22)),zpt 24 18 23,m 25 24,zg 26 25 F (D 3 (.t 2)),zg 27 25 F (L O (.t 26)),zg 28 25 F (.lenS (.t 27)),zg 29 25 F (D 3 (.t 3)),zg 30 25 F (L O (.t 29)),zg 31 25 F (.lenS (.t 30)),zg 32 25 F (.bin .neq 3 F (.t 28) (.t 31)),zpt 33 25 32])
 (C (.t 33) (Q (R [zbf 4])
 .ret) .skip))
 (Q (Q (R [zD 34 3 2,l 35 34,zln 36 35,n 37 0])
 (.block 0 py))
 (Q (R [zbt 4])
 .ret))))
def hG:AFun:=⟨f110,[.tmp 4]⟩
theorem aDS:funOf i7 110=some hG:=by kernel_rfl
def lJ:ACode:=(Q (R [zbv .lss 10 3 9 8])
 (Q (C (.t 10) .skip (.exit 0))
 (Q (.block 1 (Q (R [zX 11 4 7 9,zL 12 4 11,zo 5 (.alloc [V (I .i64 0),V (G ⟨#[]⟩),V (I .i64 0),V (.slice O 0 0)]),⟨O,O,.store 4 (.t 5) (.t 12)⟩])
 (R [m 13 3,zL 14 4 5,zc1 15 111 14,zbv .add 16 3 13 15,m 3 16])))
 (R [zbk .add 17 3 9 1,m 9 17]))))
def pw:ACode:=.loop lJ
def f111:ACode:=(Q (R [zbx 1 0,n 2 0])
 (Q (R [n 3 1])
 (Q (Q (R [zD 6 3 1,l 7 6,zln 8 7,n 9 0])
 (.block 0 pw))
 (Q (R [m 18 3,m 2 18])
 .ret))))
def Ow:AFun:=⟨f111,[.tmp 2]⟩
theorem aDR:funOf i7 111=some Ow:=by kernel_rfl
def lI:ACode:=(Q (R [zbv .lss 10 3 9 8])
 (Q (C (.t 10) .skip (.exit 0))
 (Q (.block 1 (Q (R [zX 11 4 7 9,zL 12 4 11,zo 5 (.alloc [V (I .i64 0),V (G ⟨#[]⟩),V (I .i64 0),V (.slice O 0 0)]),⟨O,O,.store 4 (.t 5) (.t 12)⟩])
 (R [m 13 3,zL 14 4 5,zc1 15 112 14,zo 16 (.maxI [.t 13,.t 15]),m 3 16])))
 (R [zbk .add 17 3 9 1,m 9 17]))))
def pv:ACode:=.loop lI
def f112:ACode:=(Q (R [zbx 1 0,n 2 0])
 (Q (R [n 3 0])
 (Q (Q (R [zD 6 3 1,l 7 6,zln 8 7,n 9 0])
 (.block 0 pv))
 (Q (R [m 18 3,zbk .add 19 3 18 1,m 2 19])
 .ret))))
def Ov:AFun:=⟨f112,[.tmp 2]⟩
theorem aDQ:funOf i7 112=some Ov:=by kernel_rfl
def f113:ACode:=(Q (R [zbx 1 0,zo 2 (.mv (.c (V .nilFunc)))])
 (Q (R [zo 3 (.mkFunc (.func 146) [] [.t 1]),m 2 3])
 .ret))
def Ou:AFun:=⟨f113,[.tmp 2]⟩
theorem aDP:funOf i7 113=some Ou:=by kernel_rfl
def f114:ACode:=(Q (R [zbx 1 0,n 2 0])
 (Q (Q (R [zD 7 0 1,l 8 7,zbk .lss 9 44 8 1,m 10 9,zg 11 10 F (D 0 (.t 1)),zg 12 10 F (L O (.t 11)),zg 13 10 F (.bin .gtr 44 T (.t 12) (.c (V (I .i64 18)))),zpt 14 10 13])
 (C (.t 14) (Q (R [n 2 1])
 .ret) .skip))
 (Q (R [zD 16 0 1,l 17 16,zc1 18 148 17,m 15 18,zex 19 0 15,zex 20 1 15,m 3 19,m 4 20])
 (Q (Q (R [zD 21 0 1,l 22 21,zc1 23 149 22,zun 24 23,m 25 24,zg 26 25 T (D 1 (.t 1)),zg 27 25 T (L O (.t 26)),⟨S 28,S (25,T),.bin .neq 9 T (.t 27) (.c (V (G ⟨#[]⟩)))⟩,zpf 29 25 28,m 30 29,zg 31 30 F (D 0 (.t 1)),zg 32 30 F (L O (.t 31)),zg 33 30 F (.bin .neq 44 T (.t 32) (.c (V (I .i64 1)))),zg 34 30 F (.mv (.t 33)),zg 35 34 T (D 0 (.t 1)),zg 36 34 T (L O (.t 35)),zg 37 34 T (.bin .neq 44 T (.t 36) (.c (V (I .i64 2)))),zg 38 30 F (.pick (.t 34) (.t 37) (.c (V (.bool F)))),zg 39 30 F (.mv (.t 38)),zg 40 39 T (D 2 (.t 1)),zg 41 39 T (L O (.t 40)),zg 42 39 T (.bin .neq 3 T (.t 41) (.c (V (I .i64 0)))),zg 43 30 F (.pick (.t 39) (.t 42) (.c (V (.bool F)))),zpt 44 30 43,m 45 44,zg 46 45 F (D 3 (.t 1)),zg 47 45 F (L O (.t 46)),zg 48 45 F (.lenS (.t 47)),zg 49 45 F (.mv (.t 3)),zg 50 45 F (.bin .lss 3 F (.t 48) (.t 49)),zpt 51 45 50,m 52 51,zg 53 52 F (D 3 (.t 1)),zg 54 52 F (L O (.t 53)),zg 55 52 F (.lenS (.t 54)),zg 56 52 F (.mv (.t 4)),zg 57 52 F (.bin .gtr 3 F (.t 55) (.t 56)),zpt 58 52 57])
 (C (.t 58) (Q (R [n 2 1])
 .ret) .skip))
 (Q (Q (R [zD 59 0 1,l 60 59,zbk .eql 61 44 60 1,m 62 61,zg 63 62 T (D 2 (.t 1)),zg 64 62 T (L O (.t 63)),zg 65 62 T (.call 150 [.t 64]),zg 66 62 T (.un .not (.t 65)),zpf 67 62 66,m 68 67,zg 69 68 F (D 0 (.t 1)),zg 70 68 F (L O (.t 69)),zg 71 68 F (.bin .eql 44 T (.t 70) (.c (V (I .i64 2)))),zg 72 68 F (.mv (.t 71)),zg 73 72 T (D 2 (.t 1)),zg 74 72 T (L O (.t 73)),zg 75 72 T (.bin .neq 3 T (.t 74) (.c (V (I .i64 0)))),zg 76 68 F (.pick (.t 72) (.t 75) (.c (V (.bool F)))),zg 77 68 F (.mv (.t 76)),zg 78 77 T (D 2 (.t 1)),zg 79 77 T (L O (.t 78)),zg 80 77 T (.bin .neq 3 T (.t 79) (.c (V (I .i64 1)))),zg 81 68 F (.pick (.t 77) (.t 80) (.c (V (.bool F)))),zpt 82 68 81])
 (C (.t 82) (Q (R [n 2 2])
 .ret) .skip))
 (Q (Q (R [zD 83 0 1,l 84 83,zc1 85 149 84,m 86 85,zg 87 86 T (D 1 (.t 1)),zg 88 86 T (L O (.t 87)),zg 89 86 T (.call 83 [.t 88]),zg 90 86 T (.bin .neq 29 T (.t 89) (.c (V (I .i64 0)))),zpf 91 86 90])
 (C (.t 91) (Q (R [zD 92 0 1,l 93 92,zbk .eql 94 44 93 3,m 95 94,zg 96 95 T (D 1 (.t 1)),zg 97 95 T (L O (.t 96)),⟨S 98,S (95,T),.bin .eql 9 T (.t 97) (.c (V (G ⟨#[118]⟩)))⟩,zpf 99 95 98,m 5 99])
 (Q (R [zD 100 0 1,l 101 100,zbk .eql 102 44 101 4,m 103 102,zg 104 103 T (D 1 (.t 1)),zg 105 103 T (L O (.t 104)),⟨S 106,S (103,T),.bin .eql 9 T (.t 105) (.c (V (G ⟨#[116,97,103]⟩)))⟩,zg 107 103 T (.mv (.t 106)),zg 108 107 F (D 1 (.t 1)),zg 109 107 F (L O (.t 108)),⟨S 110,S (107,F),.bin .eql 9 T (.t 109) (.c (V (G ⟨#[118,97,108]⟩)))⟩,zg 111 103 T (.pick (.t 107) (.c (V (.bool T))) (.t 110)),zpf 112 103 111,m 6 112])
 (Q (R [m 113 5,zun 114 113,m 115 114,zg 116 115 T (.mv (.t 6)),zg 117 115 T (.un .not (.t 116)),zpf 118 115 117])
 (C (.t 118) (Q (R [n 2 3])
 .ret) .skip)))) .skip))
 (Q (Q (R [zD 119 0 1,l 120 119,zbk .eql 121 44 120 8,m 122 121,zg 123 122 T (D 3 (.t 1)),zg 124 122 T (L O (.t 123)),zg 125 122 T (X 4 (.t 124) (.c (V (I .i64 0)))),zg 126 122 T (D 0 (.t 125)),zg 127 122 T (L O (.t 126)),zg 128 122 T (.bin .neq 44 T (.t 127) (.c (V (I .i64 1)))),zpf 129 122 128])
 (C (.t 129) (Q (R [n 2 6])
 .ret) .skip))
 (Q (R [n 2 0])
 .ret))))))))
def ag:AFun:=⟨f114,[.tmp 2]⟩
theorem bN:funOf i7 114=some ag:=by kernel_rfl
def g9:ACode:=(Q (Q (R [m 11 6,zbk .geq 12 3 11 0])
 (C (.t 12) .skip (.exit 0)))
 (Q (.block 1 (Q (R [zD 15 0 2,l 16 15,m 17 6,zX 18 2 16 17,zD 19 0 18,l 20 19,m 21 1,zbv .eql 22 9 20 21])
 (C (.t 22) (Q (R [zD 23 0 2,l 24 23,m 25 6,zX 26 2 24 25,zD 27 1 26,l 28 27,m 4 28,zbt 5])
 .ret) .skip)))
 (R [m 13 6,zbk .sub 14 3 13 1,m 6 14])))
def pu:ACode:=.loop g9
def f115:ACode:=(Q (R [zbx 2 0,zo 4 (.mv (.c (V (G ⟨#[]⟩)))),zbf 5])
 (Q (Q (R [zD 7 0 2,l 8 7,zln 9 8,zbk .sub 10 3 9 1,m 6 10])
 (.block 0 pu))
 (Q (R [zo 4 (.mv (.c (V (G ⟨#[]⟩)))),zbf 5])
 .ret)))
def Ot:AFun:=⟨f115,[.tmp 4,.tmp 5]⟩
theorem aDO:funOf i7 115=some Ot:=by kernel_rfl
def g8:ACode:=(Q (R [zbv .lss 40 3 39 38])
 (Q (C (.t 40) .skip (.exit 0))
 (Q (.block 1 (Q (R [m 41 39,zX 42 1 37 39,l 43 42,m 10 41,m 11 43])
 (Q (R [m 44 11,zD 45 1 8,l 46 45,m 47 10,zX 48 1 46 47,l 49 48,zbv .neq 50 79 44 49])
 (C (.t 50) (Q (R [zo 6 (.mv (.c (V (G ⟨#[]⟩)))),n 7 11])
 .ret) .skip))))
 (R [zbk .add 51 3 39 1,m 39 51]))))
def pq:ACode:=.loop g8
def f116:ACode:=(Q (R [zbx 3 0,zo 6 (.mv (.c (V (G ⟨#[]⟩)))),n 7 0])
 (Q (R [zL 13 3 3,m 14 1,zc2 15 151 13 14,m 12 15,zex 16 0 12,zex 17 1 12,zo 8 (.alloc [V (G ⟨#[]⟩),V (.slice O 0 0),V (G ⟨#[]⟩)]),⟨O,O,.store 3 (.t 8) (.t 16)⟩,m 9 17])
 (Q (Q (R [m 18 9,zun 19 18])
 (C (.t 19) (Q (R [zo 6 (.mv (.c (V (G ⟨#[]⟩)))),n 7 5])
 .ret) .skip))
 (Q (Q (R [m 20 1,zo 21 (.bin .eql 9 T (.t 20) (.c (V (G ⟨#[116,97,103]⟩))))])
 (C (.t 21) (Q (Q (R [m 22 2,zln 23 22,zbk .neq 24 3 23 1])
 (C (.t 24) (Q (R [zo 6 (.mv (.c (V (G ⟨#[]⟩)))),n 7 13])
 .ret) .skip))
 (Q (Q (R [m 25 2,zo 26 (X 1 (.t 25) (.c (V (I .i64 0)))),l 27 26,zc1 28 152 27])
 (C (.t 28) (Q (R [zo 6 (.mv (.c (V (G ⟨#[]⟩)))),n 7 11])
 .ret) .skip))
 (Q (R [zD 29 2 8,l 30 29,m 6 30,n 7 0])
 .ret))) .skip))
 (Q (Q (R [m 31 2,zln 32 31,zD 33 1 8,l 34 33,zln 35 34,zbv .neq 36 3 32 35])
 (C (.t 36) (Q (R [zo 6 (.mv (.c (V (G ⟨#[]⟩)))),n 7 13])
 .ret) .skip))
 (Q (Q (R [m 37 2,zln 38 37,n 39 0])
 (.block 0 pq))
 (Q (R [zD 52 2 8,l 53 52,m 6 53,n 7 0])
 .ret)))))))
def gz:AFun:=⟨f116,[.tmp 6,.tmp 7]⟩
theorem aDN:funOf i7 116=some gz:=by kernel_rfl
def gx:ACode:=(Q (R [zbv .lss 29 3 28 27])
 (Q (C (.t 29) .skip (.exit 0))
 (Q (.block 1 (Q (R [m 30 28,zX 31 1 26 28,l 32 31,m 10 30,m 11 32])
 (Q (R [m 33 11,zD 34 1 8,l 35 34,m 36 10,zX 37 2 35 36,zD 38 1 37,l 39 38,zbv .neq 40 79 33 39])
 (C (.t 40) (Q (R [zo 6 (.mv (.c (V (G ⟨#[]⟩)))),n 7 11])
 .ret) .skip))))
 (R [zbk .add 41 3 28 1,m 28 41]))))
def po:ACode:=.loop gx
def f117:ACode:=(Q (R [zbx 3 0,zo 6 (.mv (.c (V (G ⟨#[]⟩)))),n 7 0])
 (Q (R [zL 13 3 3,m 14 1,zc2 15 153 13 14,m 12 15,zex 16 0 12,zex 17 1 12,zo 8 (.alloc [V (G ⟨#[]⟩),V (.slice O 0 0)]),⟨O,O,.store 2 (.t 8) (.t 16)⟩,m 9 17])
 (Q (Q (R [m 18 9,zun 19 18])
 (C (.t 19) (Q (R [zo 6 (.mv (.c (V (G ⟨#[]⟩)))),n 7 5])
 .ret) .skip))
 (Q (Q (R [m 20 2,zln 21 20,zD 22 1 8,l 23 22,zln 24 23,zbv .neq 25 3 21 24])
 (C (.t 25) (Q (R [zo 6 (.mv (.c (V (G ⟨#[]⟩)))),n 7 13])
 .ret) .skip))
 (Q (Q (R [m 26 2,zln 27 26,n 28 0])
 (.block 0 po))
 (Q (R [zo 6 (.mv (.c (V (G ⟨#[66,111,111,108]⟩)))),n 7 0])
 .ret))))))
def pp:AFun:=⟨f117,[.tmp 6,.tmp 7]⟩
theorem aDM:funOf i7 117=some pp:=by kernel_rfl
def f118:ACode:=(Q (R [zo 2 (.alloc [V .nilFunc,V (G ⟨#[]⟩)])])
 (Q (Q (R [m 3 0])
 (.block 0 (Q (Q (R [zbk .eql 5 44 3 6,m 4 5])
 (C (.t 4) .skip (Q (R [zbk .eql 6 44 3 7,m 4 6])
 (C (.t 4) .skip (Q (R [zbk .eql 7 44 3 8,m 4 7])
 (C (.t 4) .skip (R [zbk .eql 8 44 3 9,m 4 8])))))))
 (C (.t 4) (Q (R [zo 9 (.call 154 [.c (V (G ⟨#[73,110,116]⟩))]),zo 10 (.build [V .nilFunc,V (G ⟨#[]⟩)] [(0,1,(.t 9)),(1,1,(.c (V (G ⟨#[73,110,116]⟩))))]),⟨O,O,.store 2 (.t 2) (.t 10)⟩])
 .ret) (Q (Q (R [zbk .eql 12 44 3 12,m 11 12])
 (C (.t 11) .skip (R [zbk .eql 13 44 3 13,m 11 13])))
 (C (.t 11) (Q (R [zo 14 (.call 154 [.c (V (G ⟨#[73,110,116]⟩))]),zo 15 (.build [V .nilFunc,V (G ⟨#[]⟩)] [(0,1,(.t 14)),(1,1,(.c (V (G ⟨#[66,111,111,108]⟩))))]),⟨O,O,.store 2 (.t 2) (.t 15)⟩])
 .ret) (Q (Q (R [zbk .eql 17 44 3 10,m 16 17])
 (C (.t 16) .skip (R [zbk .eql 18 44 3 11,m 16 18])))
 (C (.t 16) (Q (R [zo 19 (.build [V .nilFunc,V (G ⟨#[]⟩)] [(0,1,(.c (.fn (.func 155) [] []))),(1,1,(.c (V (G ⟨#[66,111,111,108]⟩))))]),⟨O,O,.store 2 (.t 2) (.t 19)⟩])
 .ret) .skip))))))))
 (Q (R [zo 20 (.call 154 [.c (V (G ⟨#[66,111,111,108]⟩))]),zo 21 (.build [V .nilFunc,V (G ⟨#[]⟩)] [(0,1,(.t 20)),(1,1,(.c (V (G ⟨#[66,111,111,108]⟩))))]),⟨O,O,.store 2 (.t 2) (.t 21)⟩])
 .ret)))
def fJ:AFun:=⟨f118,[.cell 2 (S 2)]⟩
theorem aDL:funOf i7 118=some fJ:=by kernel_rfl
def f119:ACode:=(Q (R [zbf 2])
 (Q (R [m 3 0,zbk .eql 4 44 3 3,m 5 4,zg 6 5 F (.mv (.t 0)),zg 7 5 F (.bin .eql 44 T (.t 6) (.c (V (I .i64 4)))),zpt 8 5 7,m 9 8,zg 10 9 F (.mv (.t 0)),zg 11 9 F (.bin .eql 44 T (.t 10) (.c (V (I .i64 5)))),zpt 12 9 11,m 2 12])
 .ret))
def Or:AFun:=⟨f119,[.tmp 2]⟩
theorem aDK:funOf i7 119=some Or:=by kernel_rfl
def f120:ACode:=(Q (R [zbf 4])
 (Q (Q (R [m 5 0])
 (.block 0 (Q (Q (R [zbk .eql 7 44 5 1,m 6 7])
 (C (.t 6) .skip (Q (R [zbk .eql 8 44 5 2,m 6 8])
 (C (.t 6) .skip (R [zbk .eql 9 44 5 3,m 6 9])))))
 (C (.t 6) (Q (R [m 10 1,zbk .eql 11 3 10 0,m 4 11])
 .ret) (Q (Q (R [zbk .eql 13 44 5 4,m 12 13])
 (C (.t 12) .skip (R [zbk .eql 14 44 5 5,m 12 14])))
 (C (.t 12) (Q (R [m 15 1,zbk .geq 16 3 15 1,m 17 16,zg 18 17 T (.mv (.t 1)),zg 19 17 T (.bin .leq 3 T (.t 18) (.c (V (I .i64 24)))),zpf 20 17 19,m 4 20])
 .ret) (Q (Q (R [zbk .eql 22 44 5 9,m 21 22])
 (C (.t 21) .skip (R [zbk .eql 23 44 5 14,m 21 23])))
 (C (.t 21) (Q (R [m 24 1,zbk .eql 25 3 24 1,m 4 25])
 .ret) .skip))))))))
 (Q (R [m 26 1,zbk .eql 27 3 26 2,m 4 27])
 .ret)))
def Oq:AFun:=⟨f120,[.tmp 4]⟩
theorem aDJ:funOf i7 120=some Oq:=by kernel_rfl
def f121:ACode:=(Q (R [zbf 2])
 (Q (R [m 3 0,zbk .geq 4 3 3 (-1000000000000),m 5 4,zg 6 5 T (.mv (.t 0)),zg 7 5 T (.bin .leq 3 T (.t 6) (.c (V (I .i64 1000000000000)))),zpf 8 5 7,m 2 8])
 .ret))
def Oo:AFun:=⟨f121,[.tmp 2]⟩
theorem aDI:funOf i7 121=some Oo:=by kernel_rfl
def f122:ACode:=(Q (R [zbx 1 0,zbf 2])
 (Q (Q (R [zD 3 0 1,l 4 3])
 (.block 0 (Q (R [zbk .eql 6 44 4 3,m 5 6])
 (C (.t 5) (Q (R [zD 7 1 1,l 8 7,zo 9 (.bin .eql 9 T (.t 8) (.c (V (G ⟨#[118]⟩)))),m 10 9,zg 11 10 F (D 1 (.t 1)),zg 12 10 F (L O (.t 11)),zg 13 10 F (.call 89 [.t 12]),zg 14 10 F (.bin .eql 29 T (.t 13) (.c (V (I .i64 0)))),zpt 15 10 14,m 2 15])
 .ret) (Q (R [zbk .eql 17 44 4 4,m 16 17])
 (C (.t 16) (Q (R [zD 18 1 1,l 19 18,zo 20 (.bin .eql 9 T (.t 19) (.c (V (G ⟨#[116,97,103]⟩)))),m 21 20,zg 22 21 F (D 1 (.t 1)),zg 23 21 F (L O (.t 22)),⟨S 24,S (21,F),.bin .eql 9 T (.t 23) (.c (V (G ⟨#[118,97,108]⟩)))⟩,zpt 25 21 24,m 26 25,zg 27 26 F (D 1 (.t 1)),zg 28 26 F (L O (.t 27)),zg 29 26 F (.call 89 [.t 28]),zg 30 26 F (.bin .eql 29 T (.t 29) (.c (V (I .i64 0)))),zpt 31 26 30,m 2 31])
 .ret) (Q (R [zbk .eql 33 44 4 5,m 32 33])
 (C (.t 32) (Q (R [zD 34 1 1,l 35 34,zc1 36 89 35,zbk .eql 37 29 36 0,m 2 37])
 .ret) .skip))))))))
 (Q (R [zbt 2])
 .ret)))
def zP:AFun:=⟨f122,[.tmp 2]⟩
theorem On:funOf i7 122=some zP:=by kernel_rfl
def gv:ACode:=(Q (Q (R [m 7 6,m 8 0,zln 9 8,zbv .lss 10 3 7 9,m 11 10,zg 12 11 T (.mv (.t 5)),zg 13 11 T (.mv (.t 1)),zg 14 11 T (.bin .leq 3 F (.t 12) (.t 13)),zpf 15 11 14])
 (C (.t 15) .skip (.exit 0)))
 (Q (.block 1 (Q (R [m 18 5,zbk .add 19 3 18 1,m 20 0,m 21 6,zX 22 4 20 21,zD 23 1 22,l 24 23,zo 25 (.lenStr (.t 24)),zbk .quo 26 3 25 50,zbv .add 27 3 19 26,m 5 27])
 (R [m 28 5,m 29 0,m 30 6,zX 31 4 29 30,zD 32 3 31,l 33 32,m 34 1,m 35 5,zbv .sub 36 3 34 35,zc2 37 123 33 36,zbv .add 38 3 28 37,m 5 38])))
 (R [m 16 6,zbk .add 17 3 16 1,m 6 17])))
def pn:ACode:=.loop gv
def f123:ACode:=(Q (R [n 4 0])
 (Q (R [n 5 0])
 (Q (Q (R [n 6 0])
 (.block 0 pn))
 (Q (R [m 39 5,m 4 39])
 .ret))))
def Om:AFun:=⟨f123,[.tmp 4]⟩
theorem aDH:funOf i7 123=some Om:=by kernel_rfl
def aDG:List DOp:=[⟨m 16 0,[0],[]⟩,⟨m 17 5,[5],[0]⟩,⟨zo 18 (.sliceStr (.t 16) O (S (.t 17))),[16,17],[]⟩,⟨m 19 0,[0],[0,1,2]⟩,⟨m 20 5,[5],[0,1,2,3]⟩,⟨zbk .add 21 3 20 1,[20],[0,1,2,3]⟩,⟨zo 22 (.sliceStr (.t 19) (S (.t 21)) O),[19,21],[0,1,2]⟩,⟨m 2 18,[18],[3,4,5,6]⟩,⟨m 3 22,[22],[]⟩,⟨zbt 4,[],[]⟩]
def pm:ACode:=.draw aDG
def gu:ACode:=(Q (Q (R [m 6 5,m 7 0,zo 8 (.lenStr (.t 7)),zbv .lss 9 3 6 8])
 (C (.t 9) .skip (.exit 0)))
 (Q (.block 1 (Q (R [m 12 0,m 13 5,zo 14 (.idxStr (.t 12) (.t 13)),zo 15 (.bin .eql 5 T (.t 14) (.c (V (I .u8 46))))])
 (C (.t 15) (Q pm
 .ret) .skip)))
 (R [m 10 5,zbk .add 11 3 10 1,m 5 11])))
def pl:ACode:=.loop gu
def f127:ACode:=(Q (R [zo 2 (.mv (.c (V (G ⟨#[]⟩)))),zo 3 (.mv (.c (V (G ⟨#[]⟩)))),zbf 4])
 (Q (Q (R [n 5 0])
 (.block 0 pl))
 (Q (R [m 23 0,m 2 23,zo 3 (.mv (.c (V (G ⟨#[]⟩)))),zbf 4])
 .ret)))
def Ol:AFun:=⟨f127,[.tmp 2,.tmp 3,.tmp 4]⟩
theorem aDF:funOf i7 127=some Ol:=by kernel_rfl
def lH:ACode:=(Q (Q (R [m 17 3,m 18 0,zo 19 (.lenStr (.t 18)),zbv .lss 20 3 17 19])
 (C (.t 20) .skip (.exit 0)))
 (Q (.block 1 (Q (R [m 23 0,m 24 3,zo 25 (.idxStr (.t 23) (.t 24)),zc1 26 164 25,zun 27 26,m 28 27,zg 29 28 T (.mv (.t 0)),zg 30 28 T (.mv (.t 3)),zg 31 28 T (.idxStr (.t 29) (.t 30)),zg 32 28 T (.call 166 [.t 31]),zg 33 28 T (.un .not (.t 32)),zpf 34 28 33,m 35 34,zg 36 35 T (.mv (.t 0)),zg 37 35 T (.mv (.t 3)),zg 38 35 T (.idxStr (.t 36) (.t 37)),zg 39 35 T (.bin .neq 5 T (.t 38) (.c (V (I .u8 95)))),zpf 40 35 39])
 (C (.t 40) (Q (R [zbf 2])
 .ret) .skip)))
 (R [m 21 3,zbk .add 22 3 21 1,m 3 22])))
def pk:ACode:=.loop lH
def f128:ACode:=(Q (R [zbf 2])
 (Q (Q (R [m 4 0,zc1 5 130 4,zun 6 5,m 7 6,zg 8 7 F (.mv (.t 0)),zg 9 7 F (.idxStr (.t 8) (.c (V (I .i64 0)))),zg 10 7 F (.call 164 [.t 9]),zg 11 7 F (.un .not (.t 10)),zpt 12 7 11,m 13 12,zg 14 13 F (.mv (.t 0)),zg 15 13 F (.call 165 [.t 14]),zpt 16 13 15])
 (C (.t 16) (Q (R [zbf 2])
 .ret) .skip))
 (Q (Q (R [n 3 1])
 (.block 0 pk))
 (Q (R [zbt 2])
 .ret))))
def gt:AFun:=⟨f128,[.tmp 2]⟩
theorem aDE:funOf i7 128=some gt:=by kernel_rfl
def f129:ACode:=(Q (R [zbf 2])
 (Q (Q (R [m 3 0,zc1 4 130 3,zun 5 4,m 6 5,zg 7 6 F (.mv (.t 0)),zg 8 6 F (.idxStr (.t 7) (.c (V (I .i64 0)))),zg 9 6 F (.call 167 [.t 8]),zg 10 6 F (.un .not (.t 9)),zpt 11 6 10,m 12 11,zg 13 12 F (.mv (.t 0)),zg 14 12 F (.call 131 [.t 13]),zg 15 12 F (.un .not (.t 14)),zpt 16 12 15])
 (C (.t 16) (Q (R [zbf 2])
 .ret) .skip))
 (Q (R [m 17 0,zo 18 (.bin .neq 9 T (.t 17) (.c (V (G ⟨#[73,110,116]⟩)))),m 19 18,zg 20 19 T (.mv (.t 0)),⟨S 21,S (19,T),.bin .neq 9 T (.t 20) (.c (V (G ⟨#[66,111,111,108]⟩)))⟩,zpf 22 19 21,m 23 22,zg 24 23 T (.mv (.t 0)),⟨S 25,S (23,T),.bin .neq 9 T (.t 24) (.c (V (G ⟨#[67,101,108,108]⟩)))⟩,zpf 26 23 25,m 27 26,zg 28 27 T (.mv (.t 0)),⟨S 29,S (27,T),.bin .neq 9 T (.t 28) (.c (V (G ⟨#[70,117,110]⟩)))⟩,zpf 30 27 29,m 2 30])
 .ret)))
def gr:AFun:=⟨f129,[.tmp 2]⟩
theorem aDD:funOf i7 129=some gr:=by kernel_rfl
def f130:ACode:=(Q (R [zbf 2])
 (Q (R [m 3 0,zo 4 (.lenStr (.t 3)),zbk .geq 5 3 4 1,m 6 5,zg 7 6 T (.mv (.t 0)),zg 8 6 T (.lenStr (.t 7)),zg 9 6 T (.bin .leq 3 T (.t 8) (.c (V (I .i64 24)))),zpf 10 6 9,m 2 10])
 .ret))
def Ok:AFun:=⟨f130,[.tmp 2]⟩
theorem aDC:funOf i7 130=some Ok:=by kernel_rfl
def lG:ACode:=(Q (Q (R [m 4 3,m 5 0,zo 6 (.lenStr (.t 5)),zbv .lss 7 3 4 6])
 (C (.t 7) .skip (.exit 0)))
 (Q (.block 1 (Q (R [m 10 0,m 11 3,zo 12 (.idxStr (.t 10) (.t 11)),zc1 13 164 12,zun 14 13,m 15 14,zg 16 15 T (.mv (.t 0)),zg 17 15 T (.mv (.t 3)),zg 18 15 T (.idxStr (.t 16) (.t 17)),zg 19 15 T (.call 167 [.t 18]),zg 20 15 T (.un .not (.t 19)),zpf 21 15 20,m 22 21,zg 23 22 T (.mv (.t 0)),zg 24 22 T (.mv (.t 3)),zg 25 22 T (.idxStr (.t 23) (.t 24)),zg 26 22 T (.call 166 [.t 25]),zg 27 22 T (.un .not (.t 26)),zpf 28 22 27])
 (C (.t 28) (Q (R [zbf 2])
 .ret) .skip)))
 (R [m 8 3,zbk .add 9 3 8 1,m 3 9])))
def pj:ACode:=.loop lG
def f131:ACode:=(Q (R [zbf 2])
 (Q (Q (R [n 3 0])
 (.block 0 pj))
 (Q (R [zbt 2])
 .ret)))
def Oj:AFun:=⟨f131,[.tmp 2]⟩
theorem aDB:funOf i7 131=some Oj:=by kernel_rfl
def lF:ACode:=(Q (Q (R [m 4 3,m 5 0,zo 6 (.lenStr (.t 5)),zbv .lss 7 3 4 6])
 (C (.t 7) .skip (.exit 0)))
 (Q (.block 1 (Q (R [m 10 0,m 11 3,zo 12 (.idxStr (.t 10) (.t 11)),zc1 13 164 12,zun 14 13,m 15 14,zg 16 15 T (.mv (.t 3)),zg 17 15 T (.bin .eql 3 T (.t 16) (.c (V (I .i64 0)))),zg 18 15 T (.mv (.t 17)),zg 19 18 F (.mv (.t 0)),zg 20 18 F (.mv (.t 3)),zg 21 18 F (.idxStr (.t 19) (.t 20)),zg 22 18 F (.call 166 [.t 21]),zg 23 18 F (.un .not (.t 22)),zg 24 18 F (.mv (.t 23)),zg 25 24 T (.mv (.t 0)),zg 26 24 T (.mv (.t 3)),zg 27 24 T (.idxStr (.t 25) (.t 26)),zg 28 24 T (.bin .neq 5 T (.t 27) (.c (V (I .u8 95)))),zg 29 18 F (.pick (.t 24) (.t 28) (.c (V (.bool F)))),zg 30 15 T (.pick (.t 18) (.c (V (.bool T))) (.t 29)),zpf 31 15 30])
 (C (.t 31) (Q (R [zbf 2])
 .ret) .skip)))
 (R [m 8 3,zbk .add 9 3 8 1,m 3 9])))
def ph:ACode:=.loop lF
def f132:ACode:=(Q (R [zbf 2])
 (Q (Q (R [n 3 0])
 (.block 0 ph))
 (Q (R [zbt 2])
 .ret)))
def Oi:AFun:=⟨f132,[.tmp 2]⟩
theorem aDA:funOf i7 132=some Oi:=by kernel_rfl
def f133:ACode:=(Q (R [zbx 1 0,zns 2])
 (Q (R [zL 3 4 1,zo 4 (.call 168 [.t 3,.c (V (I .i64 5)),.c (V (.slice O 0 0))]),m 2 4])
 .ret))
def Oh:AFun:=⟨f133,[.tmp 2]⟩
theorem aCZ:funOf i7 133=some Oh:=by kernel_rfl
def gq:ACode:=(Q (R [zbv .lss 9 3 8 7])
 (Q (C (.t 9) .skip (.exit 0))
 (Q (.block 1 (Q (R [m 10 8,m 5 10])
 (Q (R [m 11 0,m 12 5,zo 13 (.idxStr (.t 11) (.t 12)),zo 14 (.bin .eql 5 T (.t 13) (.c (V (I .u8 46))))])
 (C (.t 14) (Q (R [m 15 3,m 16 0,m 17 4,m 18 5,zo 19 (.sliceStr (.t 16) (S (.t 17)) (S (.t 18))),zo 20 (.buildSlice 1 1 [V (G ⟨#[]⟩)] [(0,1,(.t 19))]),zo 21 (A 1 16 (.t 15) (.t 20)),m 3 21])
 (R [m 22 5,zbk .add 23 3 22 1,m 4 23])) .skip))))
 (R [zbk .add 24 3 8 1,m 8 24]))))
def pg:ACode:=.loop gq
def f134:ACode:=(Q (R [zns 2])
 (Q (R [zns 3])
 (Q (R [n 4 0])
 (Q (Q (R [m 6 0,zo 7 (.lenStr (.t 6)),n 8 0])
 (.block 0 pg))
 (Q (R [m 25 3,m 26 0,m 27 4,zo 28 (.sliceStr (.t 26) (S (.t 27)) O),zo 29 (.buildSlice 1 1 [V (G ⟨#[]⟩)] [(0,1,(.t 28))]),zo 30 (A 1 16 (.t 25) (.t 29)),m 2 30])
 .ret)))))
def Og:AFun:=⟨f134,[.tmp 2]⟩
theorem aCY:funOf i7 134=some Og:=by kernel_rfl
def lE:ACode:=(Q (R [zbv .lss 25 3 24 23])
 (Q (C (.t 25) .skip (.exit 0))
 (Q (.block 1 (Q (R [m 26 24,m 3 26])
 (Q (R [m 27 0,m 28 3,zo 29 (.idxStr (.t 27) (.t 28)),zc1 30 169 29,zun 31 30,m 32 31,zg 33 32 T (.mv (.t 0)),zg 34 32 T (.mv (.t 3)),zg 35 32 T (.idxStr (.t 33) (.t 34)),zg 36 32 T (.call 171 [.t 35]),zg 37 32 T (.un .not (.t 36)),zpf 38 32 37,m 39 38,zg 40 39 T (.mv (.t 0)),zg 41 39 T (.mv (.t 3)),zg 42 39 T (.idxStr (.t 40) (.t 41)),zg 43 39 T (.bin .neq 5 T (.t 42) (.c (V (I .u8 95)))),zpf 44 39 43])
 (C (.t 44) (Q (R [n 2 3])
 .ret) .skip))))
 (R [zbk .add 45 3 24 1,m 24 45]))))
def pf:ACode:=.loop lE
def f135:ACode:=(Q (R [n 2 0])
 (Q (Q (R [m 4 0,zo 5 (.lenStr (.t 4)),zbk .lss 6 3 5 1,m 7 6,zg 8 7 F (.mv (.t 0)),zg 9 7 F (.lenStr (.t 8)),zg 10 7 F (.bin .gtr 3 T (.t 9) (.c (V (I .i64 24)))),zpt 11 7 10,m 12 11,zg 13 12 F (.mv (.t 0)),zg 14 12 F (.idxStr (.t 13) (.c (V (I .i64 0)))),zg 15 12 F (.call 169 [.t 14]),zg 16 12 F (.un .not (.t 15)),zpt 17 12 16,m 18 17,zg 19 18 F (.mv (.t 0)),zg 20 18 F (.call 170 [.t 19]),zpt 21 18 20])
 (C (.t 21) (Q (R [n 2 3])
 .ret) .skip))
 (Q (Q (R [m 22 0,zo 23 (.lenStr (.t 22)),n 24 0])
 (.block 0 pf))
 (Q (R [n 2 0])
 .ret))))
def gj:AFun:=⟨f135,[.tmp 2]⟩
theorem aCX:funOf i7 135=some gj:=by kernel_rfl
def lD:ACode:=(Q (R [zbv .lss 37 3 36 35])
 (Q (C (.t 37) .skip (.exit 0))
 (Q (.block 1 (Q (R [m 38 36,m 3 38])
 (Q (R [m 39 0,m 40 3,zo 41 (.idxStr (.t 39) (.t 40)),zc1 42 169 41,zun 43 42,m 44 43,zg 45 44 T (.mv (.t 0)),zg 46 44 T (.mv (.t 3)),zg 47 44 T (.idxStr (.t 45) (.t 46)),zg 48 44 T (.call 172 [.t 47]),zg 49 44 T (.un .not (.t 48)),zpf 50 44 49,m 51 50,zg 52 51 T (.mv (.t 0)),zg 53 51 T (.mv (.t 3)),zg 54 51 T (.idxStr (.t 52) (.t 53)),zg 55 51 T (.call 171 [.t 54]),zg 56 51 T (.un .not (.t 55)),zpf 57 51 56])
 (C (.t 57) (Q (R [n 2 3])
 .ret) .skip))))
 (R [zbk .add 58 3 36 1,m 36 58]))))
def pe:ACode:=.loop lD
def f136:ACode:=(Q (R [n 2 0])
 (Q (Q (R [m 4 0,zo 5 (.lenStr (.t 4)),zbk .lss 6 3 5 1,m 7 6,zg 8 7 F (.mv (.t 0)),zg 9 7 F (.lenStr (.t 8)),zg 10 7 F (.bin .gtr 3 T (.t 9) (.c (V (I .i64 24)))),zpt 11 7 10,m 12 11,zg 13 12 F (.mv (.t 0)),zg 14 12 F (.idxStr (.t 13) (.c (V (I .i64 0)))),zg 15 12 F (.call 172 [.t 14]),zg 16 12 F (.un .not (.t 15)),zpt 17 12 16,m 18 17,zg 19 18 F (.mv (.t 0)),⟨S 20,S (18,F),.bin .eql 9 T (.t 19) (.c (V (G ⟨#[73,110,116]⟩)))⟩,zpt 21 18 20,m 22 21,zg 23 22 F (.mv (.t 0)),⟨S 24,S (22,F),.bin .eql 9 T (.t 23) (.c (V (G ⟨#[66,111,111,108]⟩)))⟩,zpt 25 22 24,m 26 25,zg 27 26 F (.mv (.t 0)),⟨S 28,S (26,F),.bin .eql 9 T (.t 27) (.c (V (G ⟨#[67,101,108,108]⟩)))⟩,zpt 29 26 28,m 30 29,zg 31 30 F (.mv (.t 0)),⟨S 32,S (30,F),.bin .eql 9 T (.t 31) (.c (V (G ⟨#[70,117,110]⟩)))⟩,zpt 33 30 32])
 (C (.t 33) (Q (R [n 2 3])
 .ret) .skip))
 (Q (Q (R [m 34 0,zo 35 (.lenStr (.t 34)),n 36 0])
 (.block 0 pe))
 (Q (R [n 2 0])
 .ret))))
def lC:AFun:=⟨f136,[.tmp 2]⟩
theorem aCW:funOf i7 136=some lC:=by kernel_rfl
def lB:ACode:=(Q (R [zbv .lss 20 3 19 18])
 (Q (C (.t 20) .skip (.exit 0))
 (Q (.block 1 (Q (R [m 21 19,m 5 21])
 (Q (R [m 22 3,m 23 22,zg 24 23 T (.mv (.t 0)),zg 25 23 T (.mv (.t 5)),zg 26 23 T (.idxStr (.t 24) (.t 25)),zg 27 23 T (.call 169 [.t 26]),zg 28 23 T (.mv (.t 27)),zg 29 28 F (.mv (.t 0)),zg 30 28 F (.mv (.t 5)),zg 31 28 F (.idxStr (.t 29) (.t 30)),zg 32 28 F (.call 172 [.t 31]),zg 33 23 T (.pick (.t 28) (.c (V (.bool T))) (.t 32)),zg 34 23 T (.mv (.t 33)),zg 35 34 F (.mv (.t 0)),zg 36 34 F (.mv (.t 5)),zg 37 34 F (.idxStr (.t 35) (.t 36)),zg 38 34 F (.call 171 [.t 37]),zg 39 23 T (.pick (.t 34) (.c (V (.bool T))) (.t 38)),zpf 40 23 39,m 3 40])
 (R [m 41 4,m 42 41,zg 43 42 T (.mv (.t 0)),zg 44 42 T (.mv (.t 5)),zg 45 42 T (.idxStr (.t 43) (.t 44)),zg 46 42 T (.call 169 [.t 45]),zg 47 42 T (.mv (.t 46)),zg 48 47 F (.mv (.t 0)),zg 49 47 F (.mv (.t 5)),zg 50 47 F (.idxStr (.t 48) (.t 49)),zg 51 47 F (.call 171 [.t 50]),zg 52 42 T (.pick (.t 47) (.c (V (.bool T))) (.t 51)),zg 53 42 T (.mv (.t 52)),zg 54 53 F (.mv (.t 0)),zg 55 53 F (.mv (.t 5)),zg 56 53 F (.idxStr (.t 54) (.t 55)),zg 57 53 F (.bin .eql 5 T (.t 56) (.c (V (I .u8 95)))),zg 58 42 T (.pick (.t 53) (.c (V (.bool T))) (.t 57)),zpf 59 42 58,m 4 59]))))
 (R [zbk .add 60 3 19 1,m 19 60]))))
def lA:ACode:=.loop lB
def f137:ACode:=(Q (R [zbf 2])
 (Q (Q (R [m 6 0,zo 7 (.lenStr (.t 6)),zbk .lss 8 3 7 1,m 9 8,zg 10 9 F (.mv (.t 0)),zg 11 9 F (.lenStr (.t 10)),zg 12 9 F (.bin .gtr 3 T (.t 11) (.c (V (I .i64 24)))),zpt 13 9 12])
 (C (.t 13) (Q (R [zbf 2])
 .ret) .skip))
 (Q (R [zbt 3])
 (Q (R [m 14 0,zo 15 (.idxStr (.t 14) (.c (V (I .i64 0)))),zc1 16 169 15,m 4 16])
 (Q (Q (R [m 17 0,zo 18 (.lenStr (.t 17)),n 19 0])
 (.block 0 lA))
 (Q (R [m 61 3,m 62 61,zg 63 62 F (.mv (.t 4)),zpt 64 62 63,m 2 64])
 .ret))))))
def pc:AFun:=⟨f137,[.tmp 2]⟩
theorem aCV:funOf i7 137=some pc:=by kernel_rfl
def f146:ACode:=(R [zL 3 4 1,m 4 0,zc2 5 147 3 4])
def Ob:AFun:=⟨f146,[]⟩
theorem aCS:funOf i7 146=some Ob:=by kernel_rfl
def gi:ACode:=(Q (R [zbv .lss 15 3 14 13])
 (Q (C (.t 15) .skip (.exit 0))
 (Q (.block 1 (Q (R [zX 16 4 12 14,zL 17 4 16,zo 6 (.alloc [V (I .i64 0),V (G ⟨#[]⟩),V (I .i64 0),V (.slice O 0 0)]),⟨O,O,.store 4 (.t 6) (.t 17)⟩])
 (Q (R [zL 18 4 6,m 19 1,zc2 20 147 18 19,zun 21 20])
 (C (.t 21) (Q (R [zbf 4])
 .ret) .skip))))
 (R [zbk .add 22 3 14 1,m 14 22]))))
def pZ:ACode:=.loop gi
def f147:ACode:=(Q (R [zbx 2 0,zbf 4])
 (Q (Q (R [m 7 1,zL 8 4 2,zo 9 (.callv (.t 7) [.t 8]),zun 10 9])
 (C (.t 10) (Q (R [zbf 4])
 .ret) .skip))
 (Q (Q (R [zD 11 3 2,l 12 11,zln 13 12,n 14 0])
 (.block 0 pZ))
 (Q (R [zbt 4])
 .ret))))
def zO:AFun:=⟨f147,[.tmp 4]⟩
theorem aCR:funOf i7 147=some zO:=by kernel_rfl
def f148:ACode:=(Q (R [n 2 0,n 3 0])
 (Q (Q (R [m 4 0])
 (.block 0 (Q (Q (R [zbk .eql 6 44 4 1,m 5 6])
 (C (.t 5) .skip (Q (R [zbk .eql 7 44 4 2,m 5 7])
 (C (.t 5) .skip (R [zbk .eql 8 44 4 3,m 5 8])))))
 (C (.t 5) (Q (R [n 2 0,n 3 0])
 .ret) (Q (Q (R [zbk .eql 10 44 4 4,m 9 10])
 (C (.t 9) .skip (R [zbk .eql 11 44 4 5,m 9 11])))
 (C (.t 9) (Q (R [n 2 1,n 3 24])
 .ret) (Q (Q (R [zbk .eql 13 44 4 9,m 12 13])
 (C (.t 12) .skip (R [zbk .eql 14 44 4 14,m 12 14])))
 (C (.t 12) (Q (R [n 2 1,n 3 1])
 .ret) .skip))))))))
 (Q (R [n 2 2,n 3 2])
 .ret)))
def ky:AFun:=⟨f148,[.tmp 2,.tmp 3]⟩
theorem pY:funOf i7 148=some ky:=by kernel_rfl
def f149:ACode:=(Q (R [zbf 2])
 (Q (R [m 3 0,zbk .eql 4 44 3 3,m 5 4,zg 6 5 F (.mv (.t 0)),zg 7 5 F (.bin .eql 44 T (.t 6) (.c (V (I .i64 4)))),zpt 8 5 7,m 9 8,zg 10 9 F (.mv (.t 0)),zg 11 9 F (.bin .eql 44 T (.t 10) (.c (V (I .i64 5)))),zpt 12 9 11,m 2 12])
 .ret))
def Oa:AFun:=⟨f149,[.tmp 2]⟩
theorem aCQ:funOf i7 149=some Oa:=by kernel_rfl
def f150:ACode:=(Q (R [zbf 2])
 (Q (R [m 3 0,zbk .geq 4 3 3 (-1000000000000),m 5 4,zg 6 5 T (.mv (.t 0)),zg 7 5 T (.bin .leq 3 T (.t 6) (.c (V (I .i64 1000000000000)))),zpf 8 5 7,m 2 8])
 .ret))
def Nz:AFun:=⟨f150,[.tmp 2]⟩
theorem aCP:funOf i7 150=some Nz:=by kernel_rfl
def gh:ACode:=(Q (R [zbv .lss 20 3 19 18])
 (Q (C (.t 20) .skip (.exit 1))
 (Q (.block 2 (Q (R [zX 21 3 17 19,zL 22 3 21,zo 7 (.alloc [V (G ⟨#[]⟩),V (.slice O 0 0),V (G ⟨#[]⟩)]),⟨O,O,.store 3 (.t 7) (.t 22)⟩])
 (Q (R [zD 23 0 7,l 24 23,m 25 1,zbv .eql 26 9 24 25])
 (C (.t 26) (Q (R [zD 27 1 7,l 28 27,zc1 29 178 28,zD 30 1 7,⟨O,O,.store 1 (.t 30) (.t 29)⟩])
 (Q (R [zL 31 3 7,⟨O,O,.store 3 (.t 4) (.t 31)⟩,zbt 5])
 .ret)) .skip))))
 (R [zbk .add 32 3 19 1,m 19 32]))))
def pW:ACode:=.loop gh
def f151:ACode:=(Q (R [zbx 2 0,zo 4 (.alloc [V (G ⟨#[]⟩),V (.slice O 0 0),V (G ⟨#[]⟩)]),zbf 5])
 (Q (Q (R [m 8 1])
 (.block 0 (Q (R [zo 10 (.bin .eql 9 T (.t 8) (.c (V (G ⟨#[116,97,103]⟩)))),m 9 10])
 (C (.t 9) (Q (R [zo 11 (.build [V (G ⟨#[]⟩),V (.slice O 0 0),V (G ⟨#[]⟩)] [(0,1,(.c (V (G ⟨#[116,97,103]⟩)))),(2,1,(.c (V (G ⟨#[73,110,116]⟩))))]),⟨O,O,.store 3 (.t 4) (.t 11)⟩,zbt 5])
 .ret) (Q (R [zo 13 (.bin .eql 9 T (.t 8) (.c (V (G ⟨#[118,97,108]⟩)))),m 12 13])
 (C (.t 12) (Q (R [zo 14 (.buildSlice 1 1 [V (G ⟨#[]⟩)] [(0,1,(.c (V (G ⟨#[67,101,108,108]⟩))))]),zo 15 (.build [V (G ⟨#[]⟩),V (.slice O 0 0),V (G ⟨#[]⟩)] [(0,1,(.c (V (G ⟨#[118,97,108]⟩)))),(1,1,(.t 14)),(2,1,(.c (V (G ⟨#[73,110,116]⟩))))]),⟨O,O,.store 3 (.t 4) (.t 15)⟩,zbt 5])
 .ret) .skip))))))
 (Q (Q (R [zD 16 1 2,l 17 16,zln 18 17,n 19 0])
 (.block 1 pW))
 (Q (R [zo 33 (.build [V (G ⟨#[]⟩),V (.slice O 0 0),V (G ⟨#[]⟩)] []),⟨O,O,.store 3 (.t 4) (.t 33)⟩,zbf 5])
 .ret))))
def pX:AFun:=⟨f151,[.cell 4 (S 3),.tmp 5]⟩
theorem aCO:funOf i7 151=some pX:=by kernel_rfl
def f152:ACode:=(Q (R [zbf 2])
 (Q (R [m 3 0,zo 4 (.bin .eql 79 T (.t 3) (.c (V (G ⟨#[73,110,116]⟩)))),m 5 4,zg 6 5 F (.mv (.t 0)),⟨S 7,S (5,F),.bin .eql 79 T (.t 6) (.c (V (G ⟨#[66,111,111,108]⟩)))⟩,zpt 8 5 7,m 9 8,zg 10 9 F (.mv (.t 0)),⟨S 11,S (9,F),.bin .eql 79 T (.t 10) (.c (V (G ⟨#[67,101,108,108]⟩)))⟩,zpt 12 9 11,m 2 12])
 .ret))
def pV:AFun:=⟨f152,[.tmp 2]⟩
theorem aCN:funOf i7 152=some pV:=by kernel_rfl
def ge:ACode:=(Q (R [zbv .lss 12 3 11 10])
 (Q (C (.t 12) .skip (.exit 0))
 (Q (.block 1 (Q (R [zX 13 2 9 11,zL 14 2 13,zo 7 (.alloc [V (G ⟨#[]⟩),V (.slice O 0 0)]),⟨O,O,.store 2 (.t 7) (.t 14)⟩])
 (Q (R [zD 15 0 7,l 16 15,m 17 1,zbv .eql 18 9 16 17])
 (C (.t 18) (Q (R [zD 19 1 7,l 20 19,zc1 21 45 20,zD 22 1 7,⟨O,O,.store 1 (.t 22) (.t 21)⟩])
 (Q (R [zL 23 2 7,⟨O,O,.store 2 (.t 4) (.t 23)⟩,zbt 5])
 .ret)) .skip))))
 (R [zbk .add 24 3 11 1,m 11 24]))))
def pU:ACode:=.loop ge
def f153:ACode:=(Q (R [zbx 2 0,zo 4 (.alloc [V (G ⟨#[]⟩),V (.slice O 0 0)]),zbf 5])
 (Q (Q (R [zD 8 2 2,l 9 8,zln 10 9,n 11 0])
 (.block 0 pU))
 (Q (R [zo 25 (.build [V (G ⟨#[]⟩),V (.slice O 0 0)] []),⟨O,O,.store 2 (.t 4) (.t 25)⟩,zbf 5])
 .ret)))
def Ny:AFun:=⟨f153,[.cell 4 (S 2),.tmp 5]⟩
theorem aCM:funOf i7 153=some Ny:=by kernel_rfl
def f154:ACode:=(Q (R [zbx 1 0,zo 2 (.mv (.c (V .nilFunc)))])
 (Q (R [zo 3 (.mkFunc (.func 179) [] [.t 1]),m 2 3])
 .ret))
def Nx:AFun:=⟨f154,[.tmp 2]⟩
theorem aCL:funOf i7 154=some Nx:=by kernel_rfl
def Nv:List DOp:=[⟨m 3 0,[0],[]⟩,⟨zo 4 (X 1 (.t 3) (.c (V (I .i64 0)))),[3],[]⟩,⟨l 5 4,[4],[]⟩,⟨m 6 0,[0],[0,1,2]⟩,⟨zo 7 (X 1 (.t 6) (.c (V (I .i64 1)))),[6],[0,1,2]⟩,⟨l 8 7,[7],[0,1,2]⟩,⟨zbv .eql 9 79 5 8,[5,8],[]⟩,⟨m 2 9,[9],[]⟩]
def aCK:ACode:=.draw Nv
def f155:ACode:=(Q (R [zbf 2])
 (Q aCK
 .ret))
def Nw:AFun:=⟨f155,[.tmp 2]⟩
theorem aCJ:funOf i7 155=some Nw:=by kernel_rfl
def f164:ACode:=(Q (R [zbf 2])
 (Q (R [m 3 0,zo 4 (.bin .leq 5 T (.c (V (I .u8 97))) (.t 3)),m 5 4,zg 6 5 T (.mv (.t 0)),zg 7 5 T (.bin .leq 5 T (.t 6) (.c (V (I .u8 122)))),zpf 8 5 7,m 2 8])
 .ret))
def Nu:AFun:=⟨f164,[.tmp 2]⟩
theorem aCI:funOf i7 164=some Nu:=by kernel_rfl
def kx:ACode:=(Q (R [zbk .lss 7 3 6 42])
 (Q (C (.t 7) .skip (.exit 0))
 (Q (.block 1 (Q (R [zo 8 (.idxA 42 1 O (.t 5) (.t 6)),m 4 8])
 (Q (R [m 9 4,m 10 0,zbv .eql 11 9 9 10])
 (C (.t 11) (Q (R [zbt 2])
 .ret) .skip))))
 (R [zbk .add 12 3 6 1,m 6 12]))))
def pT:ACode:=.loop kx
def f165:ACode:=(Q (R [zbf 2])
 (Q (Q (R [zo 5 (L (S 42) (.c (V (.pointer (S ⟨0,0,O⟩))))),n 6 0])
 (.block 0 pT))
 (Q (R [zbf 2])
 .ret)))
def Nt:AFun:=⟨f165,[.tmp 2]⟩
theorem aCH:funOf i7 165=some Nt:=by kernel_rfl
def f166:ACode:=(Q (R [zbf 2])
 (Q (R [m 3 0,zo 4 (.bin .leq 5 T (.c (V (I .u8 48))) (.t 3)),m 5 4,zg 6 5 T (.mv (.t 0)),zg 7 5 T (.bin .leq 5 T (.t 6) (.c (V (I .u8 57)))),zpf 8 5 7,m 2 8])
 .ret))
def Ns:AFun:=⟨f166,[.tmp 2]⟩
theorem aCG:funOf i7 166=some Ns:=by kernel_rfl
def f167:ACode:=(Q (R [zbf 2])
 (Q (R [m 3 0,zo 4 (.bin .leq 5 T (.c (V (I .u8 65))) (.t 3)),m 5 4,zg 6 5 T (.mv (.t 0)),zg 7 5 T (.bin .leq 5 T (.t 6) (.c (V (I .u8 90)))),zpf 8 5 7,m 2 8])
 .ret))
def Nr:AFun:=⟨f167,[.tmp 2]⟩
theorem aCF:funOf i7 167=some Nr:=by kernel_rfl
def kw:ACode:=(Q (R [zbv .lss 13 3 12 11])
 (Q (C (.t 13) .skip (.exit 0))
 (Q (.block 1 (Q (R [zX 14 4 10 12,zL 15 4 14,zo 8 (.alloc [V (I .i64 0),V (G ⟨#[]⟩),V (I .i64 0),V (.slice O 0 0)]),⟨O,O,.store 4 (.t 8) (.t 15)⟩])
 (R [zL 16 4 8,m 17 1,m 18 2,zo 19 (.call 168 [.t 16,.t 17,.t 18]),m 2 19])))
 (R [zbk .add 20 3 12 1,m 12 20]))))
def pS:ACode:=.loop kw
def f168:ACode:=(Q (R [zbx 3 0,zns 6])
 (Q (Q (R [zD 9 3 3,l 10 9,zln 11 10,n 12 0])
 (.block 0 pS))
 (Q (Q (R [zD 21 0 3,l 22 21,m 23 1,zbv .eql 24 44 22 23,m 25 24,zg 26 25 T (.mv (.t 2)),zg 27 25 T (L (S 4) (.t 3)),zg 28 25 T (.call 191 [.t 26,.t 27,(.c (.fn (.func 48) [] []))]),zg 29 25 T (.un .not (.t 28)),zpf 30 25 29])
 (C (.t 30) (R [m 31 2,zL 32 4 3,zc1 33 88 32,zo 34 (.buildSlice 4 1 [V (I .i64 0),V (G ⟨#[]⟩),V (I .i64 0),V (.slice O 0 0)] [(0,4,(.t 33))]),zo 35 (A 4 56 (.t 31) (.t 34)),m 2 35]) .skip))
 (Q (R [m 36 2,m 6 36])
 .ret))))
def Nq:AFun:=⟨f168,[.tmp 6]⟩
theorem aCE:funOf i7 168=some Nq:=by kernel_rfl
def f169:ACode:=(Q (R [zbf 2])
 (Q (R [m 3 0,zo 4 (.bin .geq 5 T (.t 3) (.c (V (I .u8 97)))),m 5 4,zg 6 5 T (.mv (.t 0)),zg 7 5 T (.bin .leq 5 T (.t 6) (.c (V (I .u8 122)))),zpf 8 5 7,m 2 8])
 .ret))
def Np:AFun:=⟨f169,[.tmp 2]⟩
theorem aCD:funOf i7 169=some Np:=by kernel_rfl
def f170:ACode:=(Q (R [zbf 2])
 (Q (R [zo 3 (.call 192 []),m 4 0,zc2 5 42 3 4,zbk .geq 6 3 5 0,m 2 6])
 .ret))
def Nn:AFun:=⟨f170,[.tmp 2]⟩
theorem aCC:funOf i7 170=some Nn:=by kernel_rfl
def f171:ACode:=(Q (R [zbf 2])
 (Q (R [m 3 0,zo 4 (.bin .geq 5 T (.t 3) (.c (V (I .u8 48)))),m 5 4,zg 6 5 T (.mv (.t 0)),zg 7 5 T (.bin .leq 5 T (.t 6) (.c (V (I .u8 57)))),zpf 8 5 7,m 2 8])
 .ret))
def Nm:AFun:=⟨f171,[.tmp 2]⟩
theorem aCB:funOf i7 171=some Nm:=by kernel_rfl
def f172:ACode:=(Q (R [zbf 2])
 (Q (R [m 3 0,zo 4 (.bin .geq 5 T (.t 3) (.c (V (I .u8 65)))),m 5 4,zg 6 5 T (.mv (.t 0)),zg 7 5 T (.bin .leq 5 T (.t 6) (.c (V (I .u8 90)))),zpf 8 5 7,m 2 8])
 .ret))
def Nl:AFun:=⟨f172,[.tmp 2]⟩
theorem aCA:funOf i7 172=some Nl:=by kernel_rfl
def f178:ACode:=(Q (R [zns 2])
 (Q (Q (R [m 3 0,zo 4 (.bin .eql 88 T (.t 3) (.c (V (.slice O 0 0))))])
 (C (.t 4) (Q (R [zns 2])
 .ret) .skip))
 (Q (R [zo 5 (.buildSlice 1 0 [] []),m 6 0,zo 7 (A 1 16 (.t 5) (.t 6)),m 2 7])
 .ret)))
def pN:AFun:=⟨f178,[.tmp 2]⟩
theorem zJ:funOf i7 178=some pN:=by kernel_rfl
def gY:ACode:=(Q (R [zbv .lss 9 3 8 7])
 (Q (C (.t 9) .skip (.exit 0))
 (Q (.block 1 (Q (R [zX 10 1 6 8,l 11 10,m 5 11])
 (Q (R [m 12 5,l 13 1,zbv .neq 14 79 12 13])
 (C (.t 14) (Q (R [zbf 3])
 .ret) .skip))))
 (R [zbk .add 15 3 8 1,m 8 15]))))
def pM:ACode:=.loop gY
def f179:ACode:=(Q (R [zbf 3])
 (Q (Q (R [m 6 0,zln 7 6,n 8 0])
 (.block 0 pM))
 (Q (R [zbt 3])
 .ret)))
def Nf:AFun:=⟨f179,[.tmp 3]⟩
theorem aBV:funOf i7 179=some Nf:=by kernel_rfl
def gX:ACode:=(Q (R [zbv .lss 12 3 11 10])
 (Q (C (.t 12) .skip (.exit 0))
 (Q (.block 1 (Q (R [zX 13 4 9 11,zL 14 4 13,zo 8 (.alloc [V (I .i64 0),V (G ⟨#[]⟩),V (I .i64 0),V (.slice O 0 0)]),⟨O,O,.store 4 (.t 8) (.t 14)⟩])
 (Q (R [m 15 2,zL 16 4 4,zL 17 4 8,zo 18 (.callv (.t 15) [.t 16,.t 17])])
 (C (.t 18) (Q (R [zbt 6])
 .ret) .skip))))
 (R [zbk .add 19 3 11 1,m 11 19]))))
def pL:ACode:=.loop gX
def f191:ACode:=(Q (R [zbx 4 1,zbf 6])
 (Q (Q (R [m 9 0,zln 10 9,n 11 0])
 (.block 0 pL))
 (Q (R [zbf 6])
 .ret)))
def Nd:AFun:=⟨f191,[.tmp 6]⟩
theorem aBU:funOf i7 191=some Nd:=by kernel_rfl
end Go.Proofs.YtkhblipgiijoiaaGreatDoor
namespace Go.Proofs.YtkhblipgiijoiaaGreatDoor
open Go Go.AM
open Option renaming some → S, none → O
open Bool renaming true → T, false → F
open Go.AM.ACode renaming region → R, seq → Q, cond → C
open Go.AM.AOp renaming fieldAddr → D, idxAddrS → X, load → L, append → A
open Go.AM.AV renaming val → V
open Go.Value renaming int → I, string → G
def eM:List DOp:=[⟨m 28 5,[5],[]⟩,⟨m 29 7,[7],[0]⟩,⟨zbv .eql 30 3 28 29,[28,29],[]⟩,⟨m 31 30,[30],[]⟩,⟨zg 32 31 T (.mv (.t 6)),[6,31],[]⟩,⟨zg 33 31 T (.mv (.t 8)),[8,31],[4]⟩,⟨zg 34 31 T (.bin .eql 29 F (.t 32) (.t 33)),[32,33,31],[]⟩,⟨zpf 35 31 34,[31,34],[]⟩,⟨m 36 35,[35],[]⟩,⟨zg 37 36 T (L (S 3) (.t 2)),[2,36],[]⟩,⟨zg 38 36 T (.mv (.t 1)),[1,36],[9]⟩,⟨zg 39 36 T (.call 10 [.t 37,.t 38]),[37,38,36],[]⟩,⟨zg 40 36 T (L (S 3) (.t 2)),[2,36],[9,10,11]⟩,⟨zg 41 36 T (.mv (.t 1)),[1,36],[9,10,11,12]⟩,⟨zg 42 36 T (.call 11 [.t 40,.t 41]),[40,41,36],[]⟩,⟨zg 43 36 T (.call 9 [.t 39,.t 42]),[39,42,36],[]⟩,⟨zpf 44 36 43,[36,43],[]⟩,⟨m 45 44,[44],[]⟩,⟨zg 46 45 T (L (S 3) (.t 2)),[2,45],[]⟩,⟨zg 47 45 T (.mv (.t 1)),[1,45],[18]⟩,⟨zg 48 45 T (.call 12 [.t 46,.t 47]),[46,47,45],[]⟩,⟨zg 49 45 T (L (S 3) (.t 2)),[2,45],[18,19,20]⟩,⟨zg 50 45 T (.mv (.t 1)),[1,45],[18,19,20,21]⟩,⟨zg 51 45 T (.call 13 [.t 49,.t 50]),[49,50,45],[]⟩,⟨zg 52 45 T (.bin .eql 4 F (.t 48) (.t 51)),[48,51,45],[]⟩,⟨zpf 53 45 52,[45,52],[]⟩,⟨m 54 53,[53],[]⟩,⟨zg 55 54 T (L (S 3) (.t 2)),[2,54],[]⟩,⟨zg 56 54 T (.call 15 [.t 55]),[55,54],[]⟩,⟨zg 57 54 T (L (S 3) (.t 2)),[2,54],[27,28]⟩,⟨zg 58 54 T (.call 16 [.t 57]),[57,54],[]⟩,⟨zg 59 54 T (.call 14 [.t 56,.t 58]),[56,58,54],[]⟩,⟨zpf 60 54 59,[54,59],[]⟩,⟨m 61 60,[60],[]⟩,⟨zg 62 61 T (.call 6 []),[61],[]⟩,⟨zpf 63 61 62,[61,62],[]⟩,⟨m 4 63,[63],[]⟩]
def aFD:ACode:=.draw eM
def f3:ACode:=(Q (R [zbx 2 0,zbf 4])
 (Q (Q (R [zL 9 3 2,zc1 10 5 9,zun 11 10,m 12 11,zg 13 12 F (.mv (.t 1)),zg 14 12 F (.lenStr (.t 13)),zg 15 12 F (.bin .gtr 3 T (.t 14) (.c (V (I .i64 100)))),zpt 16 12 15])
 (C (.t 16) (Q (R [zo 17 (.call 6 []),m 4 17])
 .ret) .skip))
 (Q (R [zL 19 3 2,zc1 20 7 19,m 18 20,zex 21 0 18,zex 22 1 18,m 5 21,m 6 22])
 (Q (R [zL 24 3 2,zc1 25 8 24,m 23 25,zex 26 0 23,zex 27 1 23,m 7 26,m 8 27])
 (Q aFD
 .ret)))))
def Mw:AFun:=⟨f3,[.tmp 4]⟩
theorem aNI:funOf i7 3=some Mw:=by kernel_rfl
def aFA:List DOp:=[⟨zL 32 3 1,[1],[]⟩,⟨zD 33 2 1,[1],[0]⟩,⟨l 34 33,[33],[0]⟩,⟨m 35 5,[5],[0,1,2]⟩,⟨zX 36 7 34 35,[34,35],[0]⟩,⟨zL 37 7 36,[36],[0]⟩,⟨zc2 38 36 32 37,[32,37],[]⟩,⟨m 4 38,[38],[]⟩]
def aFB:ACode:=.draw aFA
def Ep:ACode:=(Q (Q (R [m 25 5,zD 26 2 1,l 27 26,zln 28 27,zbv .lss 29 3 25 28])
 (C (.t 29) .skip (.exit 0)))
 (Q (.block 1 (Q aFB
 (Q (R [m 39 4,zbk .neq 40 29 39 0])
 (C (.t 40) (Q (R [m 41 5,m 42 4,m 2 41,m 3 42])
 .ret) .skip))))
 (R [m 30 5,zbk .add 31 3 30 1,m 5 31])))
def Mr:ACode:=.loop Ep
def f8:ACode:=(Q (R [zbx 1 0,n 2 0,n 3 0])
 (Q (Q (R [zD 6 2 1,l 7 6,zln 8 7,zbk .gtr 9 3 8 400,m 10 9,zg 11 10 F (D 1 (.t 1)),zg 12 10 F (L O (.t 11)),zg 13 10 F (.lenS (.t 12)),zg 14 10 F (.bin .gtr 3 T (.t 13) (.c (V (I .i64 40)))),zpt 15 10 14])
 (C (.t 15) (Q (R [n 2 (-1),n 3 7])
 .ret) .skip))
 (Q (R [zD 16 0 1,l 17 16,zD 18 1 1,l 19 18,zo 20 (.build [V (.slice O 0 0),V (.slice O 0 0),V (.slice O 0 0)] [(1,1,(.t 17)),(2,1,(.t 19))]),zc1 21 35 20,m 4 21])
 (Q (Q (R [m 22 4,zbk .neq 23 29 22 0])
 (C (.t 23) (Q (R [m 24 4,n 2 (-1),m 3 24])
 .ret) .skip))
 (Q (Q (R [n 5 0])
 (.block 0 Mr))
 (Q (R [n 2 (-1),n 3 0])
 .ret))))))
def Eo:AFun:=⟨f8,[.tmp 2,.tmp 3]⟩
theorem aNF:funOf i7 8=some Eo:=by kernel_rfl
def aEY:List DOp:=[⟨m 17 0,[0],[]⟩,⟨m 18 5,[5],[0]⟩,⟨zX 19 1 17 18,[17,18],[]⟩,⟨l 20 19,[19],[]⟩,⟨m 21 1,[1],[0,1,2,3]⟩,⟨m 22 5,[5],[0,1,2,3,4]⟩,⟨zX 23 1 21 22,[21,22],[0,1,2,3]⟩,⟨l 24 23,[23],[0,1,2,3]⟩,⟨zbv .neq 25 9 20 24,[20,24],[]⟩]
def aEZ:ACode:=.draw aEY
def El:ACode:=(Q (Q (R [m 11 5,m 12 0,zln 13 12,zbv .lss 14 3 11 13])
 (C (.t 14) .skip (.exit 0)))
 (Q (.block 1 (Q aEZ
 (C (.t 25) (Q (R [zbf 4])
 .ret) .skip)))
 (R [m 15 5,zbk .add 16 3 15 1,m 5 16])))
def Mo:ACode:=.loop El
def f9:ACode:=(Q (R [zbf 4])
 (Q (Q (R [m 6 0,zln 7 6,m 8 1,zln 9 8,zbv .neq 10 3 7 9])
 (C (.t 10) (Q (R [zbf 4])
 .ret) .skip))
 (Q (Q (R [n 5 0])
 (.block 0 Mo))
 (Q (R [zbt 4])
 .ret))))
def Vs:AFun:=⟨f9,[.tmp 4]⟩
theorem aNE:funOf i7 9=some Vs:=by kernel_rfl
def Xu:List DOp:=[⟨m 20 5,[5],[]⟩,⟨zL 21 3 2,[2],[0]⟩,⟨m 22 5,[5],[0,1]⟩,⟨m 23 7,[7],[0,1,2]⟩,⟨zX 24 1 22 23,[22,23],[0,1]⟩,⟨l 25 24,[24],[0,1]⟩,⟨zc2 26 40 21 25,[21,25],[0]⟩,⟨zc2 27 39 20 26,[20,26],[]⟩,⟨m 8 27,[27],[]⟩]
def Xw:ACode:=.draw Xu
def jS:ACode:=(Q (Q (R [m 14 7,m 15 5,zln 16 15,zbv .lss 17 3 14 16])
 (C (.t 17) .skip (.exit 2)))
 (Q (.block 3 (Q Xw
 (Q (R [m 28 8,zln 29 28,m 30 5,zln 31 30,zbv .gtr 32 3 29 31])
 (C (.t 32) (Q (R [m 33 8,m 5 33])
 (R [zbt 6])) .skip))))
 (R [m 18 7,zbk .add 19 3 18 1,m 7 19])))
def tZ:ACode:=.loop jS
def jR:ACode:=(Q (Q (R [m 13 6])
 (C (.t 13) .skip (.exit 0)))
 (.block 1 (Q (R [zbf 6])
 (Q (R [n 7 0])
 (.block 2 tZ)))))
def tY:ACode:=.loop jR
def f11:ACode:=(Q (R [zbx 2 0,zns 4])
 (Q (R [zL 9 3 2,m 10 1,zc2 11 40 9 10,zo 12 (.call 39 [.t 11,.c (V (.slice O 0 0))]),m 5 12])
 (Q (Q (R [zbt 6])
 (.block 0 tY))
 (Q (R [m 34 5,m 4 34])
 .ret))))
def Xv:AFun:=⟨f11,[.tmp 4]⟩
theorem aKD:funOf i7 11=some Xv:=by kernel_rfl
def f12:ACode:=(Q (R [zbx 2 0,zbf 4])
 (Q (R [zL 5 3 2,m 6 1,zc2 7 10 5 6,m 8 1,zc2 9 41 7 8,zbk .geq 10 3 9 0,m 4 10])
 .ret))
def Xt:AFun:=⟨f12,[.tmp 4]⟩
theorem aKC:funOf i7 12=some Xt:=by kernel_rfl
def f13:ACode:=(Q (R [zbx 2 0,zbf 4])
 (Q (R [zL 5 3 2,m 6 1,zc2 7 11 5 6,m 8 1,zc2 9 42 7 8,zbk .geq 10 3 9 0,m 4 10])
 .ret))
def Xs:AFun:=⟨f13,[.tmp 4]⟩
theorem aKB:funOf i7 13=some Xs:=by kernel_rfl
def Xp:List DOp:=[⟨m 17 0,[0],[]⟩,⟨m 18 5,[5],[0]⟩,⟨zX 19 1 17 18,[17,18],[]⟩,⟨l 20 19,[19],[]⟩,⟨m 21 1,[1],[0,1,2,3]⟩,⟨m 22 5,[5],[0,1,2,3,4]⟩,⟨zX 23 1 21 22,[21,22],[0,1,2,3]⟩,⟨l 24 23,[23],[0,1,2,3]⟩,⟨zbv .neq 25 3 20 24,[20,24],[]⟩]
def Xr:ACode:=.draw Xp
def tX:ACode:=(Q (Q (R [m 11 5,m 12 0,zln 13 12,zbv .lss 14 3 11 13])
 (C (.t 14) .skip (.exit 0)))
 (Q (.block 1 (Q Xr
 (C (.t 25) (Q (R [zbf 4])
 .ret) .skip)))
 (R [m 15 5,zbk .add 16 3 15 1,m 5 16])))
def zN:ACode:=.loop tX
def f14:ACode:=(Q (R [zbf 4])
 (Q (Q (R [m 6 0,zln 7 6,m 8 1,zln 9 8,zbv .neq 10 3 7 9])
 (C (.t 10) (Q (R [zbf 4])
 .ret) .skip))
 (Q (Q (R [n 5 0])
 (.block 0 zN))
 (Q (R [zbt 4])
 .ret))))
def Kp:AFun:=⟨f14,[.tmp 4]⟩
theorem aKA:funOf i7 14=some Kp:=by kernel_rfl
def mi:ACode:=(Q (R [zbv .lss 10 3 9 8])
 (Q (C (.t 10) .skip (.exit 0))
 (Q (.block 1 (Q (R [m 11 9,zX 12 7 7 9,zL 13 7 12,zo 5 (.alloc [V (.slice O 0 0),V (.slice O 0 0),V (I .i64 0),V (G ⟨#[]⟩),V (I .i64 0),V (.slice O 0 0),V (I .i64 0)]),m 4 11,⟨O,O,.store 7 (.t 5) (.t 13)⟩])
 (Q (R [zD 14 2 5,zD 15 0 14,l 16 15,zbk .neq 17 44 16 5])
 (C (.t 17) (R [m 18 3,m 19 4,zo 20 (.buildSlice 1 1 [V (I .i64 0)] [(0,1,(.t 19))]),zo 21 (A 1 8 (.t 18) (.t 20)),m 3 21]) .skip))))
 (R [zbk .add 22 3 9 1,m 9 22]))))
def zM:ACode:=.loop mi
def f15:ACode:=(Q (R [zbx 1 0,zns 2])
 (Q (R [zns 3])
 (Q (Q (R [zD 6 2 1,l 7 6,zln 8 7,n 9 0])
 (.block 0 zM))
 (Q (R [m 23 3,m 2 23])
 .ret))))
def Xm:AFun:=⟨f15,[.tmp 2]⟩
theorem aJZ:funOf i7 15=some Xm:=by kernel_rfl
def mh:ACode:=(Q (Q (R [m 5 4,zD 6 2 1,l 7 6,zln 8 7,zbv .lss 9 3 5 8])
 (C (.t 9) .skip (.exit 0)))
 (Q (.block 1 (Q (R [zD 12 2 1,l 13 12,m 14 4,zX 15 7 13 14,zD 16 2 15,zD 17 0 16,l 18 17,zbk .neq 19 44 18 5])
 (C (.t 19) (R [m 20 3,m 21 4,zo 22 (.buildSlice 1 1 [V (I .i64 0)] [(0,1,(.t 21))]),zo 23 (A 1 8 (.t 20) (.t 22)),m 3 23]) .skip)))
 (R [m 10 4,zbk .add 11 3 10 1,m 4 11])))
def zK:ACode:=.loop mh
def f16:ACode:=(Q (R [zbx 1 0,zns 2])
 (Q (R [zns 3])
 (Q (Q (R [n 4 0])
 (.block 0 zK))
 (Q (R [m 24 3,m 2 24])
 .ret))))
def Xl:AFun:=⟨f16,[.tmp 2]⟩
theorem aJY:funOf i7 16=some Xl:=by kernel_rfl
def f35:ACode:=(Q (R [zbx 1 0,n 2 0])
 (Q (R [zD 4 0 1,l 5 4,zc1 6 62 5,m 3 6])
 (Q (Q (R [m 7 3,zbk .eql 8 29 7 0])
 (C (.t 8) (R [zD 9 1 1,l 10 9,zc1 11 63 10,m 3 11]) .skip))
 (Q (Q (R [m 12 3,zbk .eql 13 29 12 0])
 (C (.t 13) (R [zD 14 2 1,l 15 14,zc1 16 64 15,m 3 16]) .skip))
 (Q (R [m 17 3,m 2 17])
 .ret)))))
def y8:AFun:=⟨f35,[.tmp 2]⟩
theorem aJN:funOf i7 35=some y8:=by kernel_rfl
def Xb:List DOp:=[⟨zL 27 3 6,[6],[]⟩,⟨zD 28 1 3,[3],[0]⟩,⟨l 29 28,[28],[0]⟩,⟨m 30 7,[7],[0,1,2]⟩,⟨zX 31 4 29 30,[29,30],[0]⟩,⟨zL 32 4 31,[31],[0]⟩,⟨zc2 33 66 27 32,[27,32],[]⟩,⟨m 5 33,[33],[]⟩]
def Xc:ACode:=.draw Xb
def mf:ACode:=(Q (Q (R [m 43 9,m 44 8,zln 45 44,zbv .lss 46 3 43 45])
 (C (.t 46) .skip (.exit 2)))
 (Q (.block 3 (Q (R [m 49 8,m 50 9,zX 51 4 49 50,zL 52 4 51,zc1 53 68 52,zun 54 53])
 (C (.t 54) (Q (R [n 4 6])
 .ret) .skip)))
 (R [m 47 9,zbk .add 48 3 47 1,m 9 48])))
def y7:ACode:=.loop mf
def tN:ACode:=(Q (Q (R [m 20 7,zD 21 1 3,l 22 21,zln 23 22,zbv .lss 24 3 20 23])
 (C (.t 24) .skip (.exit 0)))
 (Q (.block 1 (Q Xc
 (Q (Q (R [m 34 5,zbk .neq 35 29 34 0])
 (C (.t 35) (Q (R [m 36 5,m 4 36])
 .ret) .skip))
 (Q (R [zD 37 1 3,l 38 37,m 39 7,zX 40 4 38 39,zL 41 4 40,zc1 42 67 41,m 8 42])
 (Q (R [n 9 0])
 (.block 2 y7))))))
 (R [m 25 7,zbk .add 26 3 25 1,m 7 26])))
def y6:ACode:=.loop tN
def f36:ACode:=(Q (R [zbx 2 0,zbx 3 1,n 4 0])
 (Q (R [zD 10 0 3,l 11 10,zo 12 (.build [V (.slice O 0 0),V (.slice O 0 0),V (.slice O 0 0)] [(0,1,(.t 11))]),zc1 13 35 12,m 5 13])
 (Q (Q (R [m 14 5,zbk .neq 15 29 14 0])
 (C (.t 15) (Q (R [m 16 5,m 4 16])
 .ret) .skip))
 (Q (R [zL 17 3 2,zL 18 7 3,zc2 19 65 17 18,zo 6 (.alloc [V (.slice O 0 0),V (.slice O 0 0),V (.slice O 0 0)]),⟨O,O,.store 3 (.t 6) (.t 19)⟩])
 (Q (Q (R [n 7 0])
 (.block 0 y6))
 (Q (R [zL 55 3 6,zD 56 2 3,zL 57 4 56,zc2 58 66 55 57,m 5 58])
 (Q (Q (R [m 59 5,zbk .eql 60 29 59 0,m 61 60,zg 62 61 T (D 2 (.t 3)),zg 63 61 T (L (S 4) (.t 62)),zg 64 61 T (.call 68 [.t 63]),zg 65 61 T (.un .not (.t 64)),zpf 66 61 65])
 (C (.t 66) (R [n 5 6]) .skip))
 (Q (R [m 67 5,m 4 67])
 .ret))))))))
def Kj:AFun:=⟨f36,[.tmp 4]⟩
theorem aJM:funOf i7 36=some Kj:=by kernel_rfl
def me:ACode:=(Q (R [zbv .lss 19 3 18 17])
 (Q (C (.t 19) .skip (.exit 2))
 (Q (.block 3 (Q (R [zX 20 4 16 18,zL 21 4 20,zo 7 (.alloc [V (I .i64 0),V (G ⟨#[]⟩),V (I .i64 0),V (.slice O 0 0)]),⟨O,O,.store 4 (.t 7) (.t 21)⟩])
 (Q (R [zD 22 0 7,l 23 22,zbk .eql 24 44 23 5])
 (C (.t 24) (R [m 25 3,zD 26 1 7,l 27 26,zo 28 (.buildSlice 1 1 [V (G ⟨#[]⟩)] [(0,1,(.t 27))]),zo 29 (A 1 16 (.t 25) (.t 28)),m 3 29]) .skip))))
 (R [zbk .add 30 3 18 1,m 18 30]))))
def y5:ACode:=.loop me
def tM:ACode:=(Q (R [zbv .lss 12 3 11 10])
 (Q (C (.t 12) .skip (.exit 0))
 (Q (.block 1 (Q (R [zX 13 4 9 11,zL 14 4 13,zo 5 (.alloc [V (I .i64 0),V (G ⟨#[]⟩),V (I .i64 0),V (.slice O 0 0)]),⟨O,O,.store 4 (.t 5) (.t 14)⟩])
 (Q (R [zL 15 4 5,zc1 16 61 15,zln 17 16,n 18 0])
 (.block 2 y5))))
 (R [zbk .add 31 3 11 1,m 11 31]))))
def yz:ACode:=.loop tM
def f37:ACode:=(Q (R [zbx 1 0,zns 2])
 (Q (R [zns 3])
 (Q (Q (R [zD 8 1 1,l 9 8,zln 10 9,n 11 0])
 (.block 0 yz))
 (Q (R [m 32 3,m 2 32])
 .ret))))
def Xa:AFun:=⟨f37,[.tmp 2]⟩
theorem aJL:funOf i7 37=some Xa:=by kernel_rfl
def tL:ACode:=(Q (R [zbv .lss 11 3 10 9])
 (Q (C (.t 11) .skip (.exit 0))
 (Q (.block 1 (Q (R [m 12 10,m 6 12])
 (R [m 13 5,m 14 0,m 15 6,zX 16 1 14 15,l 17 16,zc2 18 71 13 17,m 5 18])))
 (R [zbk .add 19 3 10 1,m 10 19]))))
def yy:ACode:=.loop tL
def tK:ACode:=(Q (R [zbv .lss 23 3 22 21])
 (Q (C (.t 23) .skip (.exit 2))
 (Q (.block 3 (Q (R [m 24 22,m 7 24])
 (R [m 25 5,m 26 1,m 27 7,zX 28 1 26 27,l 29 28,zc2 30 71 25 29,m 5 30])))
 (R [zbk .add 31 3 22 1,m 22 31]))))
def yx:ACode:=.loop tK
def f39:ACode:=(Q (R [zns 4])
 (Q (R [zns 5])
 (Q (Q (R [m 8 0,zln 9 8,n 10 0])
 (.block 0 yy))
 (Q (Q (R [m 20 1,zln 21 20,n 22 0])
 (.block 2 yx))
 (Q (R [m 32 5,m 4 32])
 .ret)))))
def Wz:AFun:=⟨f39,[.tmp 4]⟩
theorem aJK:funOf i7 39=some Wz:=by kernel_rfl
def mb:ACode:=(Q (Q (R [m 47 10,m 48 9,zln 49 48,zbv .lss 50 3 47 49])
 (C (.t 50) .skip (.exit 4)))
 (Q (.block 5 (Q (R [m 53 9,m 54 10,zX 55 4 53 54,zD 56 0 55,l 57 56,zbk .eql 58 44 57 5])
 (C (.t 58) (R [m 59 5,m 60 9,m 61 10,zX 62 4 60 61,zD 63 1 62,l 64 63,zo 65 (.buildSlice 1 1 [V (G ⟨#[]⟩)] [(0,1,(.t 64))]),zo 66 (A 1 16 (.t 59) (.t 65)),m 5 66]) .skip)))
 (R [m 51 10,zbk .add 52 3 51 1,m 10 52])))
def yw:ACode:=.loop mb
def tJ:ACode:=(Q (Q (R [m 34 8,zD 35 1 7,l 36 35,zln 37 36,zbv .lss 38 3 34 37])
 (C (.t 38) .skip (.exit 2)))
 (Q (.block 3 (Q (R [zD 41 1 7,l 42 41,m 43 8,zX 44 4 42 43,zL 45 4 44,zc1 46 67 45,m 9 46])
 (Q (R [n 10 0])
 (.block 4 yw))))
 (R [m 39 8,zbk .add 40 3 39 1,m 8 40])))
def yv:ACode:=.loop tJ
def jP:ACode:=(Q (Q (R [m 11 6,zD 12 2 2,l 13 12,zln 14 13,zbv .lss 15 3 11 14])
 (C (.t 15) .skip (.exit 0)))
 (Q (.block 1 (Q (R [zD 18 2 2,l 19 18,m 20 6,zX 21 7 19 20,zL 22 7 21,zo 7 (.alloc [V (.slice O 0 0),V (.slice O 0 0),V (I .i64 0),V (G ⟨#[]⟩),V (I .i64 0),V (.slice O 0 0),V (I .i64 0)]),⟨O,O,.store 7 (.t 7) (.t 22)⟩])
 (Q (Q (R [zD 23 2 7,zD 24 0 23,l 25 24,zbk .neq 26 44 25 5,m 27 26,zg 28 27 F (D 2 (.t 7)),zg 29 27 F (D 1 (.t 28)),zg 30 27 F (L O (.t 29)),zg 31 27 F (.mv (.t 1)),zg 32 27 F (.bin .neq 9 F (.t 30) (.t 31)),zpt 33 27 32])
 (C (.t 33) (.exit 1) .skip))
 (Q (R [n 8 0])
 (.block 2 yv)))))
 (R [m 16 6,zbk .add 17 3 16 1,m 6 17])))
def tI:ACode:=.loop jP
def f40:ACode:=(Q (R [zbx 2 0,zns 4])
 (Q (R [zns 5])
 (Q (Q (R [n 6 0])
 (.block 0 tI))
 (Q (R [m 67 5,m 4 67])
 .ret))))
def Wy:AFun:=⟨f40,[.tmp 4]⟩
theorem aJJ:funOf i7 40=some Wy:=by kernel_rfl
def jM:ACode:=(Q (Q (R [m 8 4,m 9 0,zln 10 9,zbv .lss 11 3 8 10])
 (C (.t 11) .skip (.exit 0)))
 (Q (.block 1 (Q (Q (R [m 14 0,m 15 4,zX 16 2 14 15,zD 17 0 16,l 18 17,zo 19 (.bin .neq 9 T (.t 18) (.c (V (G ⟨#[118]⟩)))),m 20 19,zg 21 20 T (.mv (.t 0)),zg 22 20 T (.mv (.t 4)),zg 23 20 T (X 2 (.t 21) (.t 22)),zg 24 20 T (D 0 (.t 23)),zg 25 20 T (L O (.t 24)),zg 26 20 T (.call 89 [.t 25]),zg 27 20 T (.bin .neq 29 T (.t 26) (.c (V (I .i64 0)))),zpf 28 20 27])
 (C (.t 28) (Q (R [n 2 3])
 .ret) .skip))
 (Q (Q (R [m 29 3,m 30 0,m 31 4,zX 32 2 30 31,zD 33 0 32,l 34 33,zc2 35 90 29 34])
 (C (.t 35) (Q (R [n 2 4])
 .ret) .skip))
 (Q (R [m 36 3,m 37 0,m 38 4,zX 39 2 37 38,zD 40 0 39,l 41 40,zo 42 (.buildSlice 1 1 [V (G ⟨#[]⟩)] [(0,1,(.t 41))]),zo 43 (A 1 16 (.t 36) (.t 42)),m 3 43])
 (Q (R [m 44 0,m 45 4,zX 46 2 44 45,zD 47 1 46,l 48 47,zc1 49 91 48,zbk .neq 50 29 49 0])
 (C (.t 50) (Q (R [n 2 11])
 .ret) .skip))))))
 (R [m 12 4,zbk .add 13 3 12 1,m 4 13])))
def tB:ACode:=.loop jM
def f62:ACode:=(Q (R [n 2 0])
 (Q (Q (R [m 5 0,zln 6 5,zbk .gtr 7 3 6 24])
 (C (.t 7) (Q (R [n 2 7])
 .ret) .skip))
 (Q (R [zns 3])
 (Q (Q (R [n 4 0])
 (.block 0 tB))
 (Q (R [n 2 0])
 .ret)))))
def Jv:AFun:=⟨f62,[.tmp 2]⟩
theorem aIQ:funOf i7 62=some Jv:=by kernel_rfl
def jL:ACode:=(Q (Q (R [m 9 4,m 10 0,zln 11 10,zbv .lss 12 3 9 11])
 (C (.t 12) .skip (.exit 0)))
 (Q (.block 1 (Q (R [m 15 0,m 16 4,zX 17 3 15 16,zL 18 3 17,zc1 19 92 18,m 5 19])
 (Q (Q (R [m 20 5,zbk .neq 21 29 20 0])
 (C (.t 21) (Q (R [m 22 5,m 2 22])
 .ret) .skip))
 (Q (Q (R [m 23 3,m 24 0,m 25 4,zX 26 3 24 25,zD 27 0 26,l 28 27,zc2 29 90 23 28])
 (C (.t 29) (Q (R [n 2 4])
 .ret) .skip))
 (R [m 30 3,m 31 0,m 32 4,zX 33 3 31 32,zD 34 0 33,l 35 34,zo 36 (.buildSlice 1 1 [V (G ⟨#[]⟩)] [(0,1,(.t 35))]),zo 37 (A 1 16 (.t 30) (.t 36)),m 3 37])))))
 (R [m 13 4,zbk .add 14 3 13 1,m 4 14])))
def tA:ACode:=.loop jL
def f63:ACode:=(Q (R [n 2 0])
 (Q (Q (R [m 6 0,zln 7 6,zbk .gtr 8 3 7 64])
 (C (.t 8) (Q (R [n 2 7])
 .ret) .skip))
 (Q (R [zns 3])
 (Q (Q (R [n 4 0])
 (.block 0 tA))
 (Q (R [n 2 0])
 .ret)))))
def Ju:AFun:=⟨f63,[.tmp 2]⟩
theorem aIP:funOf i7 63=some Ju:=by kernel_rfl
def jK:ACode:=(Q (Q (R [m 9 4,m 10 0,zln 11 10,zbv .lss 12 3 9 11])
 (C (.t 12) .skip (.exit 0)))
 (Q (.block 1 (Q (Q (R [m 15 0,m 16 4,zX 17 2 15 16,zD 18 0 17,l 19 18,zc1 20 89 19,zbk .neq 21 29 20 0])
 (C (.t 21) (Q (R [n 2 3])
 .ret) .skip))
 (Q (Q (R [m 22 3,m 23 0,m 24 4,zX 25 2 23 24,zD 26 0 25,l 27 26,zc2 28 90 22 27])
 (C (.t 28) (Q (R [n 2 4])
 .ret) .skip))
 (Q (R [m 29 3,m 30 0,m 31 4,zX 32 2 30 31,zD 33 0 32,l 34 33,zo 35 (.buildSlice 1 1 [V (G ⟨#[]⟩)] [(0,1,(.t 34))]),zo 36 (A 1 16 (.t 29) (.t 35)),m 3 36])
 (Q (Q (R [m 37 0,m 38 4,zX 39 2 37 38,zD 40 1 39,l 41 40,zln 42 41,zbk .eql 43 3 42 0])
 (C (.t 43) (Q (R [n 2 13])
 .ret) .skip))
 (Q (R [m 44 0,m 45 4,zX 46 2 44 45,zD 47 1 46,l 48 47,zc1 49 62 48,m 5 49])
 (Q (R [m 50 5,zbk .neq 51 29 50 0])
 (C (.t 51) (Q (R [m 52 5,m 2 52])
 .ret) .skip))))))))
 (R [m 13 4,zbk .add 14 3 13 1,m 4 14])))
def s9:ACode:=.loop jK
def f64:ACode:=(Q (R [n 2 0])
 (Q (Q (R [m 6 0,zln 7 6,zbk .gtr 8 3 7 40])
 (C (.t 8) (Q (R [n 2 7])
 .ret) .skip))
 (Q (R [zns 3])
 (Q (Q (R [n 4 0])
 (.block 0 s9))
 (Q (R [n 2 0])
 .ret)))))
def Jt:AFun:=⟨f64,[.tmp 2]⟩
theorem aIO:funOf i7 64=some Jt:=by kernel_rfl
def f65:ACode:=(Q (R [zbx 2 0,zbx 3 1,zo 4 (.alloc [V (.slice O 0 0),V (.slice O 0 0),V (.slice O 0 0)])])
 (Q (R [zD 5 0 3,l 6 5,zD 7 0 2,l 8 7,zD 9 1 2,l 10 9,zo 11 (.build [V (.slice O 0 0),V (.slice O 0 0),V (.slice O 0 0)] [(0,1,(.t 6)),(1,1,(.t 8)),(2,1,(.t 10))]),⟨O,O,.store 3 (.t 4) (.t 11)⟩])
 .ret))
def Wn:AFun:=⟨f65,[.cell 4 (S 3)]⟩
theorem aIN:funOf i7 65=some Wn:=by kernel_rfl
def f66:ACode:=(Q (R [zbx 2 0,zbx 3 1,n 4 0])
 (Q (Q (R [zL 7 4 3,zc1 8 93 7])
 (C (.t 8) (Q (R [n 4 0])
 .ret) .skip))
 (Q (R [zL 10 3 2,zL 11 4 3,zc2 12 94 10 11,m 9 12,zex 13 0 9,zex 14 1 9,m 5 13,m 6 14])
 (Q (Q (R [m 15 6,zbk .neq 16 29 15 0])
 (C (.t 16) (Q (R [m 17 6,m 4 17])
 .ret) .skip))
 (Q (Q (R [m 18 5,zo 19 (.bin .neq 79 T (.t 18) (.c (V (G ⟨#[66,111,111,108]⟩))))])
 (C (.t 19) (Q (R [n 4 11])
 .ret) .skip))
 (Q (R [n 4 0])
 .ret))))))
def s8:AFun:=⟨f66,[.tmp 4]⟩
theorem aIM:funOf i7 66=some s8:=by kernel_rfl
def f67:ACode:=(Q (R [zbx 1 0,zns 2])
 (Q (Q (R [zD 4 0 1,l 5 4,zbk .eql 6 44 5 15,m 7 6,zg 8 7 T (D 3 (.t 1)),zg 9 7 T (L O (.t 8)),zg 10 7 T (.lenS (.t 9)),zg 11 7 T (.bin .eql 3 T (.t 10) (.c (V (I .i64 2)))),zpf 12 7 11])
 (C (.t 12) (Q (R [zns 3])
 (Q (R [m 13 3,zD 14 3 1,l 15 14,zo 16 (X 4 (.t 15) (.c (V (I .i64 0)))),zL 17 4 16,zc1 18 67 17,zo 19 (A 4 56 (.t 13) (.t 18)),m 3 19])
 (Q (R [m 20 3,zD 21 3 1,l 22 21,zo 23 (X 4 (.t 22) (.c (V (I .i64 1)))),zL 24 4 23,zc1 25 67 24,zo 26 (A 4 56 (.t 20) (.t 25)),m 3 26])
 (Q (R [m 27 3,m 2 27])
 .ret)))) .skip))
 (Q (Q (R [zL 28 4 1,zc1 29 95 28])
 (C (.t 29) (Q (R [zns 2])
 .ret) .skip))
 (Q (R [zL 30 4 1,zo 31 (.buildSlice 4 1 [V (I .i64 0),V (G ⟨#[]⟩),V (I .i64 0),V (.slice O 0 0)] [(0,4,(.t 30))]),m 2 31])
 .ret))))
def yi:AFun:=⟨f67,[.tmp 2]⟩
theorem Js:funOf i7 67=some yi:=by kernel_rfl
def mV:ACode:=(Q (Q (R [m 9 3,zD 10 3 1,l 11 10,zln 12 11,zbv .lss 13 3 9 12])
 (C (.t 13) .skip (.exit 0)))
 (Q (.block 1 (Q (R [zD 16 3 1,l 17 16,m 18 3,zX 19 4 17 18,zL 20 4 19,zc1 21 96 20,zun 22 21])
 (C (.t 22) (Q (R [zbf 2])
 .ret) .skip)))
 (R [m 14 3,zbk .add 15 3 14 1,m 3 15])))
def yh:ACode:=.loop mV
def f68:ACode:=(Q (R [zbx 1 0,zbf 2])
 (Q (Q (R [zD 4 0 1,l 5 4,zbk .neq 6 44 5 5])
 (C (.t 6) (Q (R [zL 7 4 1,zc1 8 96 7,m 2 8])
 .ret) .skip))
 (Q (Q (R [n 3 0])
 (.block 0 yh))
 (Q (R [zbt 2])
 .ret))))
def Jr:AFun:=⟨f68,[.tmp 2]⟩
theorem aIL:funOf i7 68=some Jr:=by kernel_rfl
def mU:ACode:=(Q (Q (R [m 7 6,m 8 0,zln 9 8,zbv .lss 10 3 7 9,m 11 10,zg 12 11 T (.mv (.t 0)),zg 13 11 T (.mv (.t 6)),zg 14 11 T (X 1 (.t 12) (.t 13)),zg 15 11 T (L O (.t 14)),zg 16 11 T (.mv (.t 1)),zg 17 11 T (.bin .lss 9 F (.t 15) (.t 16)),zpf 18 11 17])
 (C (.t 18) .skip (.exit 0)))
 (.block 1 (Q (R [m 19 5,m 20 0,m 21 6,zX 22 1 20 21,l 23 22,zo 24 (.buildSlice 1 1 [V (G ⟨#[]⟩)] [(0,1,(.t 23))]),zo 25 (A 1 16 (.t 19) (.t 24)),m 5 25])
 (R [m 26 6,zbk .add 27 3 26 1,m 6 27]))))
def yg:ACode:=.loop mU
def f71:ACode:=(Q (R [zns 4])
 (Q (R [zns 5])
 (Q (R [n 6 0])
 (Q (.block 0 yg)
 (Q (R [m 28 5,m 29 1,zo 30 (.buildSlice 1 1 [V (G ⟨#[]⟩)] [(0,1,(.t 29))]),zo 31 (A 1 16 (.t 28) (.t 30)),m 5 31])
 (Q (Q (R [m 32 6,m 33 0,zln 34 33,zbv .lss 35 3 32 34,m 36 35,zg 37 36 T (.mv (.t 0)),zg 38 36 T (.mv (.t 6)),zg 39 36 T (X 1 (.t 37) (.t 38)),zg 40 36 T (L O (.t 39)),zg 41 36 T (.mv (.t 1)),zg 42 36 T (.bin .eql 9 F (.t 40) (.t 41)),zpf 43 36 42])
 (C (.t 43) (R [m 44 6,zbk .add 45 3 44 1,m 6 45]) .skip))
 (Q (R [m 46 5,m 47 0,m 48 6,zo 49 (.sliceS 1 (.t 47) (S (.t 48)) O O),zo 50 (A 1 16 (.t 46) (.t 49)),m 5 50])
 (Q (R [m 51 5,m 4 51])
 .ret))))))))
def Wm:AFun:=⟨f71,[.tmp 4]⟩
theorem aIK:funOf i7 71=some Wm:=by kernel_rfl
def mO:ACode:=(Q (Q (R [m 6 5,m 7 0,zln 8 7,zbv .lss 9 3 6 8])
 (C (.t 9) .skip (.exit 0)))
 (Q (.block 1 (Q (R [m 12 0,m 13 5,zX 14 1 12 13,l 15 14,m 16 1,zbv .eql 17 9 15 16])
 (C (.t 17) (Q (R [zbt 4])
 .ret) .skip)))
 (R [m 10 5,zbk .add 11 3 10 1,m 5 11])))
def yP:ACode:=.loop mO
def f90:ACode:=(Q (R [zbf 4])
 (Q (Q (R [n 5 0])
 (.block 0 yP))
 (Q (R [zbf 4])
 .ret)))
def Vz:AFun:=⟨f90,[.tmp 4]⟩
theorem aHW:funOf i7 90=some Vz:=by kernel_rfl
def f91:ACode:=(Q (R [n 2 0])
 (Q (Q (R [m 3 0,zo 4 (.bin .eql 79 T (.t 3) (.c (V (G ⟨#[73,110,116]⟩)))),m 5 4,zg 6 5 F (.mv (.t 0)),⟨S 7,S (5,F),.bin .eql 79 T (.t 6) (.c (V (G ⟨#[66,111,111,108]⟩)))⟩,zpt 8 5 7,m 9 8,zg 10 9 F (.mv (.t 0)),⟨S 11,S (9,F),.bin .eql 79 T (.t 10) (.c (V (G ⟨#[67,101,108,108]⟩)))⟩,zpt 12 9 11])
 (C (.t 12) (Q (R [n 2 0])
 .ret) .skip))
 (Q (Q (R [m 13 0,zo 14 (.lenStr (.t 13)),zbk .gtr 15 3 14 0,m 16 15,zg 17 16 T (.mv (.t 0)),zg 18 16 T (.idxStr (.t 17) (.c (V (I .i64 0)))),zg 19 16 T (.bin .geq 5 T (.t 18) (.c (V (I .u8 65)))),zpf 20 16 19,m 21 20,zg 22 21 T (.mv (.t 0)),zg 23 21 T (.idxStr (.t 22) (.c (V (I .i64 0)))),zg 24 21 T (.bin .leq 5 T (.t 23) (.c (V (I .u8 90)))),zpf 25 21 24,m 26 25,zg 27 26 T (.mv (.t 0)),zg 28 26 T (.call 89 [.t 27]),zg 29 26 T (.bin .eql 29 T (.t 28) (.c (V (I .i64 0)))),zpf 30 26 29])
 (C (.t 30) (Q (R [n 2 0])
 .ret) .skip))
 (Q (R [n 2 11])
 .ret))))
def mN:AFun:=⟨f91,[.tmp 2]⟩
theorem aHV:funOf i7 91=some mN:=by kernel_rfl
def mM:ACode:=(Q (Q (R [m 18 3,zD 19 1 1,l 20 19,zln 21 20,zbv .lss 22 3 18 21])
 (C (.t 22) .skip (.exit 0)))
 (Q (.block 1 (Q (R [zD 25 1 1,l 26 25,m 27 3,zX 28 1 26 27,l 29 28,zc1 30 91 29,zbk .neq 31 29 30 0])
 (C (.t 31) (Q (R [n 2 11])
 .ret) .skip)))
 (R [m 23 3,zbk .add 24 3 23 1,m 3 24])))
def yO:ACode:=.loop mM
def f92:ACode:=(Q (R [zbx 1 0,n 2 0])
 (Q (Q (R [zD 4 0 1,l 5 4,zc1 6 89 5,zbk .neq 7 29 6 0])
 (C (.t 7) (Q (R [n 2 3])
 .ret) .skip))
 (Q (Q (R [zD 8 1 1,l 9 8,zln 10 9,zbk .lss 11 3 10 1,m 12 11,zg 13 12 F (D 1 (.t 1)),zg 14 12 F (L O (.t 13)),zg 15 12 F (.lenS (.t 14)),zg 16 12 F (.bin .gtr 3 T (.t 15) (.c (V (I .i64 6)))),zpt 17 12 16])
 (C (.t 17) (Q (R [n 2 13])
 .ret) .skip))
 (Q (Q (R [n 3 0])
 (.block 0 yO))
 (Q (R [zD 32 2 1,l 33 32,zc1 34 91 33,m 2 34])
 .ret)))))
def sj:AFun:=⟨f92,[.tmp 2]⟩
theorem aHU:funOf i7 92=some sj:=by kernel_rfl
def f93:ACode:=(Q (R [zbx 1 0,zbf 2])
 (Q (R [zD 3 0 1,l 4 3,zbk .eql 5 44 4 0,m 6 5,zg 7 6 T (D 1 (.t 1)),zg 8 6 T (L O (.t 7)),⟨S 9,S (6,T),.bin .eql 9 T (.t 8) (.c (V (G ⟨#[]⟩)))⟩,zpf 10 6 9,m 11 10,zg 12 11 T (D 2 (.t 1)),zg 13 11 T (L O (.t 12)),zg 14 11 T (.bin .eql 3 T (.t 13) (.c (V (I .i64 0)))),zpf 15 11 14,m 16 15,zg 17 16 T (D 3 (.t 1)),zg 18 16 T (L O (.t 17)),zg 19 16 T (.lenS (.t 18)),zg 20 16 T (.bin .eql 3 T (.t 19) (.c (V (I .i64 0)))),zpf 21 16 20,m 2 21])
 .ret))
def Vy:AFun:=⟨f93,[.tmp 2]⟩
theorem aHT:funOf i7 93=some Vy:=by kernel_rfl
def f94:ACode:=(Q (R [zbx 2 0,zbx 3 1,zo 4 (.mv (.c (V (G ⟨#[]⟩)))),n 5 0])
 (Q (R [zL 7 4 3,zc1 8 25 7,m 6 8])
 (Q (Q (R [m 9 6,zbk .neq 10 29 9 0])
 (C (.t 10) (Q (R [m 11 6,zo 4 (.mv (.c (V (G ⟨#[]⟩)))),m 5 11])
 .ret) .skip))
 (Q (R [zL 12 3 2,zL 13 4 3,zc2 14 138 12 13,zex 15 0 14,zex 16 1 14,m 4 15,m 5 16])
 .ret))))
def Ji:AFun:=⟨f94,[.tmp 4,.tmp 5]⟩
theorem aHS:funOf i7 94=some Ji:=by kernel_rfl
def Jh:List DOp:=[⟨zL 3 4 1,[1],[]⟩,⟨zo 4 (.call 139 []),[],[0]⟩,⟨zc2 5 110 3 4,[3,4],[]⟩,⟨m 6 5,[5],[]⟩,⟨zg 7 6 F (L (S 4) (.t 1)),[1,6],[]⟩,⟨⟨S 8,S (6,F),.build [V (I .i64 0),V (G ⟨#[]⟩),V (I .i64 0),V (.slice O 0 0)] []⟩,[6],[4]⟩,⟨zg 9 6 F (.call 110 [.t 7,.t 8]),[7,8,6],[]⟩,⟨zpt 10 6 9,[6,9],[]⟩,⟨m 2 10,[10],[]⟩]
def Vw:ACode:=.draw Jh
def f95:ACode:=(Q (R [zbx 1 0,zbf 2])
 (Q Vw
 .ret))
def Vu:AFun:=⟨f95,[.tmp 2]⟩
theorem aHR:funOf i7 95=some Vu:=by kernel_rfl
def f96:ACode:=(Q (R [zbx 1 0,zbf 2])
 (Q (R [zL 3 4 1,zc1 4 20 3,zln 5 4,zbk .eql 6 3 5 0,m 2 6])
 .ret))
def Vt:AFun:=⟨f96,[.tmp 2]⟩
theorem aHQ:funOf i7 96=some Vt:=by kernel_rfl
def Od:List DOp:=[⟨zL 20 3 2,[2],[]⟩,⟨zD 21 3 3,[3],[0]⟩,⟨l 22 21,[21],[0]⟩,⟨m 23 7,[7],[0,1,2]⟩,⟨zX 24 4 22 23,[22,23],[0]⟩,⟨zL 25 4 24,[24],[0]⟩,⟨zc2 26 138 20 25,[20,25],[]⟩,⟨m 19 26,[26],[]⟩,⟨zex 27 0 19,[19],[]⟩,⟨zex 28 1 19,[19],[8]⟩,⟨m 8 27,[27],[9]⟩,⟨m 9 28,[28],[]⟩]
def Of:ACode:=.draw Od
def kz:ACode:=(Q (Q (R [m 12 7,zD 13 3 3,l 14 13,zln 15 14,zbv .lss 16 3 12 15])
 (C (.t 16) .skip (.exit 0)))
 (Q (.block 1 (Q Of
 (Q (Q (R [m 29 9,zbk .neq 30 29 29 0])
 (C (.t 30) (Q (R [m 31 9,zo 4 (.mv (.c (V (G ⟨#[]⟩)))),m 5 31])
 .ret) .skip))
 (R [m 32 6,m 33 8,zo 34 (.buildSlice 1 1 [V (G ⟨#[]⟩)] [(0,1,(.t 33))]),zo 35 (A 1 16 (.t 32) (.t 34)),m 6 35]))))
 (R [m 17 7,zbk .add 18 3 17 1,m 7 18])))
def pb:ACode:=.loop kz
def f138:ACode:=(Q (R [zbx 2 0,zbx 3 1,zo 4 (.mv (.c (V (G ⟨#[]⟩)))),n 5 0])
 (Q (R [zns 6])
 (Q (Q (R [n 7 0])
 (.block 0 pb))
 (Q (Q (R [zD 36 0 3,l 37 36])
 (.block 2 (Q (R [zbk .eql 39 44 37 1,m 38 39])
 (C (.t 38) (Q (R [zo 4 (.mv (.c (V (G ⟨#[73,110,116]⟩)))),n 5 0])
 .ret) (Q (R [zbk .eql 41 44 37 2,m 40 41])
 (C (.t 40) (Q (R [zo 4 (.mv (.c (V (G ⟨#[66,111,111,108]⟩)))),n 5 0])
 .ret) (Q (R [zbk .eql 43 44 37 3,m 42 43])
 (C (.t 42) (Q (R [zL 45 3 2,zD 46 1 3,l 47 46,zc2 48 173 45 47,m 44 48,zex 49 0 44,zex 50 1 44,m 10 49,m 11 50])
 (Q (Q (R [m 51 11,zun 52 51])
 (C (.t 52) (Q (R [zo 4 (.mv (.c (V (G ⟨#[]⟩)))),n 5 5])
 .ret) .skip))
 (Q (R [m 53 10,m 4 53,n 5 0])
 .ret))) (Q (R [zbk .eql 55 44 37 4,m 54 55])
 (C (.t 54) (Q (R [zL 56 3 2,zD 57 1 3,l 58 57,m 59 6,zo 60 (.call 174 [.t 56,.t 58,.t 59]),zex 61 0 60,zex 62 1 60,m 4 61,m 5 62])
 .ret) (Q (R [zbk .eql 64 44 37 5,m 63 64])
 (C (.t 63) (Q (R [zL 65 3 2,zD 66 1 3,l 67 66,m 68 6,zo 69 (.call 175 [.t 65,.t 67,.t 68]),zex 70 0 69,zex 71 1 69,m 4 70,m 5 71])
 .ret) .skip))))))))))))
 (Q (R [zD 72 0 3,l 73 72,m 74 6,zc2 75 176 73 74,zex 76 0 75,zex 77 1 75,m 4 76,m 5 77])
 .ret)))))
def Oe:AFun:=⟨f138,[.tmp 4,.tmp 5]⟩
theorem aCU:funOf i7 138=some Oe:=by kernel_rfl
def f139:ACode:=(Q (R [zo 0 (.alloc [V (I .i64 0),V (G ⟨#[]⟩),V (I .i64 0),V (.slice O 0 0)])])
 (Q (R [zo 1 (.build [V (I .i64 0),V (G ⟨#[]⟩),V (I .i64 0),V (.slice O 0 0)] [(0,1,(.c (V (I .i64 2)))),(2,1,(.c (V (I .i64 1))))]),⟨O,O,.store 4 (.t 0) (.t 1)⟩])
 .ret))
def Oc:AFun:=⟨f139,[.cell 0 (S 4)]⟩
theorem aCT:funOf i7 139=some Oc:=by kernel_rfl
def gZ:ACode:=(Q (Q (R [m 11 6,zbk .geq 12 3 11 0])
 (C (.t 12) .skip (.exit 0)))
 (Q (.block 1 (Q (R [zD 15 0 2,l 16 15,m 17 6,zX 18 2 16 17,zD 19 0 18,l 20 19,m 21 1,zbv .eql 22 9 20 21])
 (C (.t 22) (Q (R [zD 23 0 2,l 24 23,m 25 6,zX 26 2 24 25,zD 27 1 26,l 28 27,m 4 28,zbt 5])
 .ret) .skip)))
 (R [m 13 6,zbk .sub 14 3 13 1,m 6 14])))
def pR:ACode:=.loop gZ
def f173:ACode:=(Q (R [zbx 2 0,zo 4 (.mv (.c (V (G ⟨#[]⟩)))),zbf 5])
 (Q (Q (R [zD 7 0 2,l 8 7,zln 9 8,zbk .sub 10 3 9 1,m 6 10])
 (.block 0 pR))
 (Q (R [zo 4 (.mv (.c (V (G ⟨#[]⟩)))),zbf 5])
 .ret)))
def Nk:AFun:=⟨f173,[.tmp 4,.tmp 5]⟩
theorem aBZ:funOf i7 173=some Nk:=by kernel_rfl
def f174:ACode:=(Q (R [zbx 3 0,zo 6 (.mv (.c (V (G ⟨#[]⟩)))),n 7 0])
 (Q (R [zL 11 3 3,m 12 1,zc2 13 193 11 12,m 10 13,zex 14 0 10,zex 15 1 10,zo 8 (.alloc [V (G ⟨#[]⟩),V (.slice O 0 0),V (G ⟨#[]⟩)]),⟨O,O,.store 3 (.t 8) (.t 14)⟩,m 9 15])
 (Q (Q (R [m 16 9,zun 17 16])
 (C (.t 17) (Q (R [zo 6 (.mv (.c (V (G ⟨#[]⟩)))),n 7 5])
 .ret) .skip))
 (Q (Q (R [m 18 1,zo 19 (.bin .eql 9 T (.t 18) (.c (V (G ⟨#[116,97,103]⟩))))])
 (C (.t 19) (Q (Q (R [m 20 2,zln 21 20,zbk .neq 22 3 21 1])
 (C (.t 22) (Q (R [zo 6 (.mv (.c (V (G ⟨#[]⟩)))),n 7 13])
 .ret) .skip))
 (Q (Q (R [m 23 2,zo 24 (X 1 (.t 23) (.c (V (I .i64 0)))),l 25 24,zo 26 (.bin .eql 79 T (.t 25) (.c (V (G ⟨#[73,110,116]⟩)))),m 27 26,zg 28 27 F (.mv (.t 2)),zg 29 27 F (X 1 (.t 28) (.c (V (I .i64 0)))),zg 30 27 F (L O (.t 29)),⟨S 31,S (27,F),.bin .eql 79 T (.t 30) (.c (V (G ⟨#[66,111,111,108]⟩)))⟩,zpt 32 27 31,m 33 32,zg 34 33 F (.mv (.t 2)),zg 35 33 F (X 1 (.t 34) (.c (V (I .i64 0)))),zg 36 33 F (L O (.t 35)),⟨S 37,S (33,F),.bin .eql 79 T (.t 36) (.c (V (G ⟨#[67,101,108,108]⟩)))⟩,zpt 38 33 37])
 (C (.t 38) (Q (R [zo 6 (.mv (.c (V (G ⟨#[]⟩)))),n 7 11])
 .ret) .skip))
 (Q (R [zo 6 (.mv (.c (V (G ⟨#[73,110,116]⟩)))),n 7 0])
 .ret))) .skip))
 (Q (Q (R [m 39 2,zln 40 39,zD 41 1 8,l 42 41,zln 43 42,zbv .neq 44 3 40 43])
 (C (.t 44) (Q (R [zo 6 (.mv (.c (V (G ⟨#[]⟩)))),n 7 13])
 .ret) .skip))
 (Q (Q (R [m 45 2,zD 46 1 8,l 47 46,zc2 48 194 45 47,zun 49 48])
 (C (.t 49) (Q (R [zo 6 (.mv (.c (V (G ⟨#[]⟩)))),n 7 11])
 .ret) .skip))
 (Q (R [zD 50 2 8,l 51 50,m 6 51,n 7 0])
 .ret)))))))
def ku:AFun:=⟨f174,[.tmp 6,.tmp 7]⟩
theorem aBY:funOf i7 174=some ku:=by kernel_rfl
def Ni:List DOp:=[⟨m 31 2,[2],[]⟩,⟨m 32 10,[10],[0]⟩,⟨zX 33 1 31 32,[31,32],[]⟩,⟨l 34 33,[33],[]⟩,⟨zD 35 1 8,[8],[0,1,2,3]⟩,⟨l 36 35,[35],[0,1,2,3]⟩,⟨m 37 10,[10],[0,1,2,3,4,5]⟩,⟨zX 38 2 36 37,[36,37],[0,1,2,3]⟩,⟨zD 39 1 38,[38],[0,1,2,3]⟩,⟨l 40 39,[39],[0,1,2,3]⟩,⟨zbv .neq 41 79 34 40,[34,40],[]⟩]
def Nj:ACode:=.draw Ni
def kq:ACode:=(Q (Q (R [m 25 10,m 26 2,zln 27 26,zbv .lss 28 3 25 27])
 (C (.t 28) .skip (.exit 0)))
 (Q (.block 1 (Q Nj
 (C (.t 41) (Q (R [zo 6 (.mv (.c (V (G ⟨#[]⟩)))),n 7 11])
 .ret) .skip)))
 (R [m 29 10,zbk .add 30 3 29 1,m 10 30])))
def pP:ACode:=.loop kq
def f175:ACode:=(Q (R [zbx 3 0,zo 6 (.mv (.c (V (G ⟨#[]⟩)))),n 7 0])
 (Q (R [zL 12 3 3,m 13 1,zc2 14 195 12 13,m 11 14,zex 15 0 11,zex 16 1 11,zo 8 (.alloc [V (G ⟨#[]⟩),V (.slice O 0 0)]),⟨O,O,.store 2 (.t 8) (.t 15)⟩,m 9 16])
 (Q (Q (R [m 17 9,zun 18 17])
 (C (.t 18) (Q (R [zo 6 (.mv (.c (V (G ⟨#[]⟩)))),n 7 5])
 .ret) .skip))
 (Q (Q (R [m 19 2,zln 20 19,zD 21 1 8,l 22 21,zln 23 22,zbv .neq 24 3 20 23])
 (C (.t 24) (Q (R [zo 6 (.mv (.c (V (G ⟨#[]⟩)))),n 7 13])
 .ret) .skip))
 (Q (Q (R [n 10 0])
 (.block 0 pP))
 (Q (R [zo 6 (.mv (.c (V (G ⟨#[66,111,111,108]⟩)))),n 7 0])
 .ret))))))
def pQ:AFun:=⟨f175,[.tmp 6,.tmp 7]⟩
theorem aBX:funOf i7 175=some pQ:=by kernel_rfl
def Ng:List DOp:=[⟨m 19 1,[1],[]⟩,⟨zo 20 (X 1 (.t 19) (.c (V (I .i64 0)))),[19],[]⟩,⟨l 21 20,[20],[]⟩,⟨m 22 1,[1],[0,1,2]⟩,⟨zo 23 (X 1 (.t 22) (.c (V (I .i64 1)))),[22],[0,1,2]⟩,⟨l 24 23,[23],[0,1,2]⟩,⟨zbv .eql 25 79 21 24,[21,24],[]⟩]
def Nh:ACode:=.draw Ng
def f176:ACode:=(Q (R [zo 4 (.mv (.c (V (G ⟨#[]⟩)))),n 5 0])
 (Q (Q (R [m 6 0])
 (.block 0 (Q (Q (R [zbk .eql 10 44 6 6,m 9 10])
 (C (.t 9) .skip (Q (R [zbk .eql 11 44 6 7,m 9 11])
 (C (.t 9) .skip (Q (R [zbk .eql 12 44 6 8,m 9 12])
 (C (.t 9) .skip (R [zbk .eql 13 44 6 9,m 9 13])))))))
 (C (.t 9) (Q (R [m 14 1,zo 15 (.call 196 [.t 14,.c (V (G ⟨#[73,110,116]⟩))])])
 (C (.t 15) (Q (R [zo 4 (.mv (.c (V (G ⟨#[73,110,116]⟩)))),n 5 0])
 .ret) .skip)) (Q (Q (R [zbk .eql 17 44 6 10,m 16 17])
 (C (.t 16) .skip (R [zbk .eql 18 44 6 11,m 16 18])))
 (C (.t 16) (Q Nh
 (C (.t 25) (Q (R [zo 4 (.mv (.c (V (G ⟨#[66,111,111,108]⟩)))),n 5 0])
 .ret) .skip)) (Q (Q (R [zbk .eql 27 44 6 12,m 26 27])
 (C (.t 26) .skip (R [zbk .eql 28 44 6 13,m 26 28])))
 (C (.t 26) (Q (R [m 29 1,zo 30 (.call 196 [.t 29,.c (V (G ⟨#[73,110,116]⟩))])])
 (C (.t 30) (Q (R [zo 4 (.mv (.c (V (G ⟨#[66,111,111,108]⟩)))),n 5 0])
 .ret) .skip)) (Q (R [m 7 1,zo 8 (.call 196 [.t 7,.c (V (G ⟨#[66,111,111,108]⟩))])])
 (C (.t 8) (Q (R [zo 4 (.mv (.c (V (G ⟨#[66,111,111,108]⟩)))),n 5 0])
 .ret) .skip))))))))))
 (Q (R [zo 4 (.mv (.c (V (G ⟨#[]⟩)))),n 5 11])
 .ret)))
def pO:AFun:=⟨f176,[.tmp 4,.tmp 5]⟩
theorem aBW:funOf i7 176=some pO:=by kernel_rfl
def gW:ACode:=(Q (Q (R [m 14 6,zD 15 1 2,l 16 15,zln 17 16,zbv .lss 18 3 14 17])
 (C (.t 18) .skip (.exit 0)))
 (Q (.block 1 (Q (R [zD 21 1 2,l 22 21,m 23 6,zX 24 3 22 23,zD 25 0 24,l 26 25,m 27 1,zbv .eql 28 9 26 27])
 (C (.t 28) (Q (R [zD 29 1 2,l 30 29,m 31 6,zX 32 3 30 31,zL 33 3 32,⟨O,O,.store 3 (.t 4) (.t 33)⟩,zbt 5])
 .ret) .skip)))
 (R [m 19 6,zbk .add 20 3 19 1,m 6 20])))
def pJ:ACode:=.loop gW
def f193:ACode:=(Q (R [zbx 2 0,zo 4 (.alloc [V (G ⟨#[]⟩),V (.slice O 0 0),V (G ⟨#[]⟩)]),zbf 5])
 (Q (Q (R [m 7 1,zo 8 (.bin .eql 9 T (.t 7) (.c (V (G ⟨#[116,97,103]⟩))))])
 (C (.t 8) (Q (R [zo 9 (.build [V (G ⟨#[]⟩),V (.slice O 0 0),V (G ⟨#[]⟩)] [(0,1,(.c (V (G ⟨#[116,97,103]⟩)))),(2,1,(.c (V (G ⟨#[73,110,116]⟩))))]),⟨O,O,.store 3 (.t 4) (.t 9)⟩,zbt 5])
 .ret) .skip))
 (Q (Q (R [m 10 1,zo 11 (.bin .eql 9 T (.t 10) (.c (V (G ⟨#[118,97,108]⟩))))])
 (C (.t 11) (Q (R [zo 12 (.buildSlice 1 1 [V (G ⟨#[]⟩)] [(0,1,(.c (V (G ⟨#[67,101,108,108]⟩))))]),zo 13 (.build [V (G ⟨#[]⟩),V (.slice O 0 0),V (G ⟨#[]⟩)] [(0,1,(.c (V (G ⟨#[118,97,108]⟩)))),(1,1,(.t 12)),(2,1,(.c (V (G ⟨#[73,110,116]⟩))))]),⟨O,O,.store 3 (.t 4) (.t 13)⟩,zbt 5])
 .ret) .skip))
 (Q (Q (R [n 6 0])
 (.block 0 pJ))
 (Q (R [zo 34 (.build [V (G ⟨#[]⟩),V (.slice O 0 0),V (G ⟨#[]⟩)] []),⟨O,O,.store 3 (.t 4) (.t 34)⟩,zbf 5])
 .ret)))))
def pK:AFun:=⟨f193,[.cell 4 (S 3),.tmp 5]⟩
theorem aBT:funOf i7 193=some pK:=by kernel_rfl
def Mz:List DOp:=[⟨m 17 0,[0],[]⟩,⟨m 18 5,[5],[0]⟩,⟨zX 19 1 17 18,[17,18],[]⟩,⟨l 20 19,[19],[]⟩,⟨m 21 1,[1],[0,1,2,3]⟩,⟨m 22 5,[5],[0,1,2,3,4]⟩,⟨zX 23 1 21 22,[21,22],[0,1,2,3]⟩,⟨l 24 23,[23],[0,1,2,3]⟩,⟨zbv .neq 25 79 20 24,[20,24],[]⟩]
def Nc:ACode:=.draw Mz
def kp:ACode:=(Q (Q (R [m 11 5,m 12 0,zln 13 12,zbv .lss 14 3 11 13])
 (C (.t 14) .skip (.exit 0)))
 (Q (.block 1 (Q Nc
 (C (.t 25) (Q (R [zbf 4])
 .ret) .skip)))
 (R [m 15 5,zbk .add 16 3 15 1,m 5 16])))
def pH:ACode:=.loop kp
def f194:ACode:=(Q (R [zbf 4])
 (Q (Q (R [m 6 0,zln 7 6,m 8 1,zln 9 8,zbv .neq 10 3 7 9])
 (C (.t 10) (Q (R [zbf 4])
 .ret) .skip))
 (Q (Q (R [n 5 0])
 (.block 0 pH))
 (Q (R [zbt 4])
 .ret))))
def zI:AFun:=⟨f194,[.tmp 4]⟩
theorem aBS:funOf i7 194=some zI:=by kernel_rfl
def gV:ACode:=(Q (Q (R [m 7 6,zD 8 2 2,l 9 8,zln 10 9,zbv .lss 11 3 7 10])
 (C (.t 11) .skip (.exit 0)))
 (Q (.block 1 (Q (R [zD 14 2 2,l 15 14,m 16 6,zX 17 2 15 16,zD 18 0 17,l 19 18,m 20 1,zbv .eql 21 9 19 20])
 (C (.t 21) (Q (R [zD 22 2 2,l 23 22,m 24 6,zX 25 2 23 24,zL 26 2 25,⟨O,O,.store 2 (.t 4) (.t 26)⟩,zbt 5])
 .ret) .skip)))
 (R [m 12 6,zbk .add 13 3 12 1,m 6 13])))
def pG:ACode:=.loop gV
def f195:ACode:=(Q (R [zbx 2 0,zo 4 (.alloc [V (G ⟨#[]⟩),V (.slice O 0 0)]),zbf 5])
 (Q (Q (R [n 6 0])
 (.block 0 pG))
 (Q (R [zo 27 (.build [V (G ⟨#[]⟩),V (.slice O 0 0)] []),⟨O,O,.store 2 (.t 4) (.t 27)⟩,zbf 5])
 .ret)))
def My:AFun:=⟨f195,[.cell 4 (S 2),.tmp 5]⟩
theorem aBR:funOf i7 195=some My:=by kernel_rfl
def gU:ACode:=(Q (Q (R [m 6 5,m 7 0,zln 8 7,zbv .lss 9 3 6 8])
 (C (.t 9) .skip (.exit 0)))
 (Q (.block 1 (Q (R [m 12 0,m 13 5,zX 14 1 12 13,l 15 14,m 16 1,zbv .neq 17 79 15 16])
 (C (.t 17) (Q (R [zbf 4])
 .ret) .skip)))
 (R [m 10 5,zbk .add 11 3 10 1,m 5 11])))
def pF:ACode:=.loop gU
def f196:ACode:=(Q (R [zbf 4])
 (Q (Q (R [n 5 0])
 (.block 0 pF))
 (Q (R [zbt 4])
 .ret)))
def Mx:AFun:=⟨f196,[.tmp 4]⟩
theorem aBQ:funOf i7 196=some Mx:=by kernel_rfl
end Go.Proofs.YtkhblipgiijoiaaGreatDoor
namespace Go.Proofs.YtkhblipgiijoiaaGreatDoor
open Go Go.AM
open Option renaming some → S, none → O
open Bool renaming true → T, false → F
open Go.AM.ACode renaming region → R, seq → Q, cond → C
open Go.AM.AOp renaming fieldAddr → D, idxAddrS → X, load → L, append → A
open Go.AM.AV renaming val → V
open Go.Value renaming int → I, string → G
def mm:ACode:=(Q (R [zbv .lss 47 3 46 45])
 (Q (C (.t 47) .skip (.exit 4))
 (Q (.block 5 (Q (R [zX 48 1 44 46,l 49 48,m 11 49])
 (Q (R [m 50 5,m 51 11,zo 52 (.lookup .string (V (.bool F)) (.t 50) (.t 51) F),zun 53 52])
 (C (.t 53) (Q (R [m 54 5,m 55 11,⟨O,O,.mapUpd .string (.t 54) (.t 55) (.c (V (.bool T)))⟩])
 (R [m 56 6,m 57 11,zo 58 (.buildSlice 1 1 [V (G ⟨#[]⟩)] [(0,1,(.t 57))]),zo 59 (A 1 16 (.t 56) (.t 58)),m 6 59])) .skip))))
 (R [zbk .add 60 3 46 1,m 46 60]))))
def zQ:ACode:=.loop mm
def jV:ACode:=(Q (R [zbv .lss 29 3 28 27])
 (Q (C (.t 29) .skip (.exit 2))
 (Q (.block 3 (Q (R [zX 30 7 26 28,zL 31 7 30,zo 9 (.alloc [V (.slice O 0 0),V (.slice O 0 0),V (I .i64 0),V (G ⟨#[]⟩),V (I .i64 0),V (.slice O 0 0),V (I .i64 0)]),⟨O,O,.store 7 (.t 9) (.t 31)⟩])
 (Q (Q (R [zD 32 2 9,zD 33 0 32,l 34 33,zbk .neq 35 44 34 5,m 36 35,zg 37 36 F (D 2 (.t 9)),zg 38 36 F (D 1 (.t 37)),zg 39 36 F (L O (.t 38)),zg 40 36 F (.mv (.t 7)),zg 41 36 F (.bin .neq 9 F (.t 39) (.t 40)),zpt 42 36 41])
 (C (.t 42) (.exit 3) .skip))
 (Q (R [zL 43 7 9,zc1 44 37 43,zln 45 44,n 46 0])
 (.block 4 zQ)))))
 (R [zbk .add 61 3 28 1,m 28 61]))))
def td:ACode:=.loop jV
def jU:ACode:=(.block 1 (Q (Q (R [m 17 6,zln 18 17,zbk .eql 19 3 18 0])
 (C (.t 19) (.exit 0) .skip))
 (Q (R [m 20 6,zo 21 (X 1 (.t 20) (.c (V (I .i64 0)))),l 22 21,m 7 22])
 (Q (R [m 23 6,zo 24 (.sliceS 1 (.t 23) (S (.c (V (I .i64 1)))) O O),m 6 24])
 (Q (R [zD 25 2 2,l 26 25,zln 27 26,n 28 0])
 (.block 2 td))))))
def tc:ACode:=.loop jU
def zR:ACode:=(Q (R [zo 64 (.nextMap (.t 63)),zex 65 0 64])
 (Q (C (.t 65) .skip (.exit 6))
 (.block 7 (Q (R [zo 66 (.curMap (.t 63)),zex 67 0 66,m 13 67])
 (R [m 68 12,m 69 13,zo 70 (.buildSlice 1 1 [V (G ⟨#[]⟩)] [(0,1,(.t 69))]),zo 71 (A 1 16 (.t 68) (.t 70)),m 12 71])))))
def jT:ACode:=.loop zR
def f10:ACode:=(Q (R [zbx 2 0,zns 4])
 (Q .skip
 (Q (R [zo 14 (.mkMap),m 5 14])
 (Q (R [m 15 1,zo 16 (.buildSlice 1 1 [V (G ⟨#[]⟩)] [(0,1,(.t 15))]),m 6 16])
 (Q .skip
 (Q (.block 0 tc)
 (Q (R [zns 12])
 (Q (Q (R [m 62 5,zo 63 (.rangeMap (.t 62))])
 (.block 6 jT))
 (Q (R [m 72 12,zc1 73 38 72])
 (Q (R [m 74 12,m 4 74])
 .ret))))))))))
def te:AFun:=⟨f10,[.tmp 4]⟩
theorem aKE:funOf i7 10=some te:=by kernel_rfl
end Go.Proofs.YtkhblipgiijoiaaGreatDoor
