/- TCodes -/
import Derived.Test.YtkmoeaplhnabcaaGreatDoorE1
import Derived.Test.YtkmoeaplhnabcaaGreatDoorW1

set_option linter.all false
open Go.Proofs.Tryz renaming prog → i3
namespace Go.Proofs.YtkmoeaplhnabcaaGreatDoor
open Go Go.AM
abbrev m(d a:Nat):AOper:=⟨some d,none,.mv (.t a)⟩
abbrev n(d:Nat)(k:Int):AOper:=⟨some d,none,.mv (.c (.val (.int .i64 k)))⟩
abbrev zbf(d:Nat):AOper:=⟨some d,none,.mv (.c (.val (.bool false)))⟩
abbrev zbt(d:Nat):AOper:=⟨some d,none,.mv (.c (.val (.bool true)))⟩
abbrev zns(d:Nat):AOper:=⟨some d,none,.mv (.c (.val (.slice none 0 0)))⟩
abbrev l(d a:Nat):AOper:=⟨some d,none,.load none (.t a)⟩
abbrev zL(d k a:Nat):AOper:=⟨some d,none,.load (some k) (.t a)⟩
abbrev zD(d k a:Nat):AOper:=⟨some d,none,.fieldAddr k (.t a)⟩
abbrev zln(d a:Nat):AOper:=⟨some d,none,.lenS (.t a)⟩
abbrev zX(d k a b:Nat):AOper:=⟨some d,none,.idxAddrS k (.t a) (.t b)⟩
abbrev zc1(d f a:Nat):AOper:=⟨some d,none,.call f [.t a]⟩
abbrev zc2(d f a b:Nat):AOper:=⟨some d,none,.call f [.t a,.t b]⟩
abbrev zbx(d a:Nat):AOper:=⟨some d,none,.box (.t a)⟩
abbrev zpf(d a b:Nat):AOper:=⟨some d,none,.pick (.t a) (.t b) (.c (.val (.bool false)))⟩
abbrev zpt(d a b:Nat):AOper:=⟨some d,none,.pick (.t a) (.c (.val (.bool true))) (.t b)⟩
abbrev zex(d k a:Nat):AOper:=⟨some d,none,.extract k (.t a)⟩
abbrev zun(d a:Nat):AOper:=⟨some d,none,.un .not (.t a)⟩
abbrev zbk(o:BinOp)(d t a:Nat)(k:Int):AOper:=⟨some d,none,.bin o t true (.t a) (.c (.val (.int .i64 k)))⟩
abbrev zbv(o:BinOp)(d t a b:Nat):AOper:=⟨some d,none,.bin o t false (.t a) (.t b)⟩
abbrev zo(d:Nat)(p:AOp):AOper:=⟨some d,none,p⟩
abbrev zg(d g:Nat)(b:Bool)(p:AOp):AOper:=⟨some d,some (g,b),p⟩
open Option renaming some → S, none → O
open Bool renaming true → T, false → F
open Go.AM.ACode renaming region → R, seq → Q, cond → C
open Go.AM.AOp renaming fieldAddr → D, idxAddrS → X, load → L, append → A
open Go.AM.AV renaming val → V
open Go.Value renaming int → I, string → G
def Sk:List DOp:=[⟨zL 17 6 2,[2],[]⟩,⟨zc1 18 7 17,[17],[]⟩,⟨zL 19 6 2,[2],[0,1]⟩,⟨zc1 20 8 19,[19],[]⟩,⟨m 5 18,[18],[]⟩,⟨m 6 20,[20],[]⟩]
def So:ACode:=.draw Sk
def Sj:List DOp:=[⟨m 32 5,[5],[]⟩,⟨m 33 7,[7],[0]⟩,⟨zX 34 1 32 33,[32,33],[]⟩,⟨l 35 34,[34],[]⟩,⟨m 36 6,[6],[0,1,2,3]⟩,⟨m 37 7,[7],[0,1,2,3,4]⟩,⟨zX 38 1 36 37,[36,37],[0,1,2,3]⟩,⟨l 39 38,[38],[0,1,2,3]⟩,⟨zc2 40 9 35 39,[35,39],[]⟩,⟨zun 41 40,[40],[]⟩]
def Sn:ACode:=.draw Sj
def Sp:ACode:=(Q (Q (R [m 26 7,m 27 5,zln 28 27,zbv .lss 29 3 26 28])
 (C (.t 29) .skip (.exit 0)))
 (Q (.block 1 (Q Sn
 (C (.t 41) (Q (R [zbf 4])
 .ret) .skip)))
 (R [m 30 7,zbk .add 31 3 30 1,m 7 31])))
def Sl:ACode:=.loop Sp
def Si:List DOp:=[⟨zL 42 6 2,[2],[]⟩,⟨m 43 1,[1],[0]⟩,⟨zc2 44 10 42 43,[42,43],[]⟩,⟨zL 45 6 2,[2],[0,1,2]⟩,⟨m 46 1,[1],[0,1,2,3]⟩,⟨zc2 47 11 45 46,[45,46],[]⟩,⟨zbv .eql 48 4 44 47,[44,47],[]⟩,⟨m 49 48,[48],[]⟩,⟨zg 50 49 T (.call 6 []),[49],[]⟩,⟨zpf 51 49 50,[49,50],[]⟩,⟨m 4 51,[51],[]⟩]
def Sm:ACode:=.draw Si
def f3:ACode:=(Q (R [zbx 2 0,zbf 4])
 (Q (Q (R [zL 8 6 2,zc1 9 5 8,zun 10 9,m 11 10,zg 12 11 F (.mv (.t 1)),zg 13 11 F (.lenStr (.t 12)),zg 14 11 F (.bin .gtr 3 T (.t 13) (.c (V (I .i64 100)))),zpt 15 11 14])
 (C (.t 15) (Q (R [zo 16 (.call 6 []),m 4 16])
 .ret) .skip))
 (Q So
 (Q (Q (R [m 21 5,zln 22 21,m 23 6,zln 24 23,zbv .neq 25 3 22 24])
 (C (.t 25) (Q (R [zbf 4])
 .ret) .skip))
 (Q (Q (R [n 7 0])
 (.block 0 Sl))
 (Q Sm
 .ret))))))
def Ce:List DOp:=[⟨zL 37 6 1,[1],[]⟩,⟨m 38 3,[3],[0]⟩,⟨m 39 5,[5],[0,1]⟩,⟨zX 40 1 38 39,[38,39],[0]⟩,⟨l 41 40,[40],[0]⟩,⟨m 42 6,[6],[0,1,2,3,4]⟩,⟨zX 43 1 41 42,[41,42],[0]⟩,⟨l 44 43,[43],[0]⟩,⟨zc2 45 12 37 44,[37,44],[]⟩,⟨m 7 45,[45],[]⟩]
def Iu:ACode:=.draw Ce
def dt:List DOp:=[⟨m 52 4,[4],[]⟩,⟨m 53 7,[7],[0]⟩,⟨m 54 8,[8],[0,1]⟩,⟨zX 55 1 53 54,[53,54],[0]⟩,⟨l 56 55,[55],[0]⟩,⟨zc2 57 13 52 56,[52,56],[]⟩,⟨zbk .lss 58 3 57 0,[57],[]⟩,⟨m 59 58,[58],[]⟩,⟨zg 60 59 T (L (S 6) (.t 1)),[1,59],[]⟩,⟨zg 61 59 T (.mv (.t 7)),[7,59],[8]⟩,⟨zg 62 59 T (.mv (.t 8)),[8,59],[8,9]⟩,⟨zg 63 59 T (X 1 (.t 61) (.t 62)),[61,62,59],[8]⟩,⟨zg 64 59 T (L O (.t 63)),[63,59],[8]⟩,⟨zg 65 59 T (.call 12 [.t 60,.t 64]),[60,64,59],[]⟩,⟨zg 66 59 T (.mv (.t 3)),[3,59],[8,9,10,11,12,13]⟩,⟨zg 67 59 T (.mv (.t 5)),[5,59],[8,9,10,11,12,13,14]⟩,⟨zg 68 59 T (X 1 (.t 66) (.t 67)),[66,67,59],[8,9,10,11,12,13]⟩,⟨zg 69 59 T (L O (.t 68)),[68,59],[8,9,10,11,12,13]⟩,⟨zg 70 59 T (.mv (.t 6)),[6,59],[8,9,10,11,12,13,14,15,16,17]⟩,⟨zg 71 59 T (X 1 (.t 69) (.t 70)),[69,70,59],[8,9,10,11,12,13]⟩,⟨zg 72 59 T (L O (.t 71)),[71,59],[8,9,10,11,12,13]⟩,⟨zg 73 59 T (.call 13 [.t 65,.t 72]),[65,72,59],[]⟩,⟨zg 74 59 T (.bin .lss 3 T (.t 73) (.c (V (I .i64 0)))),[73,59],[]⟩,⟨zpf 75 59 74,[59,74],[]⟩]
def It:ACode:=.draw dt
def sT:ACode:=(Q (Q (R [m 46 8,m 47 7,zln 48 47,zbv .lss 49 3 46 48])
 (C (.t 49) .skip (.exit 4)))
 (Q (.block 5 (Q It
 (C (.t 75) (Q (R [zbf 2])
 .ret) .skip)))
 (R [m 50 8,zbk .add 51 3 50 1,m 8 51])))
def wD:ACode:=.loop sT
def sS:ACode:=(Q (Q (R [m 28 6,m 29 3,m 30 5,zX 31 1 29 30,l 32 31,zln 33 32,zbv .lss 34 3 28 33])
 (C (.t 34) .skip (.exit 2)))
 (Q (.block 3 (Q Iu
 (Q (R [n 8 0])
 (.block 4 wD))))
 (R [m 35 6,zbk .add 36 3 35 1,m 6 36])))
def wC:ACode:=.loop sS
def sR:ACode:=(Q (Q (R [m 16 5,m 17 3,zln 18 17,zbv .lss 19 3 16 18])
 (C (.t 19) .skip (.exit 0)))
 (Q (.block 1 (Q (R [m 22 4,m 23 3,m 24 5,zX 25 1 23 24,l 26 25,zo 27 (A 1 16 (.t 22) (.t 26)),m 4 27])
 (Q (R [n 6 0])
 (.block 2 wC))))
 (R [m 20 5,zbk .add 21 3 20 1,m 5 21])))
def wB:ACode:=.loop sR
def sQ:ACode:=(Q (Q (R [m 87 9,zD 88 5 1,l 89 88,zln 90 89,zbv .lss 91 3 87 90])
 (C (.t 91) .skip (.exit 6)))
 (Q (.block 7 (Q (R [m 94 4,zD 95 5 1,l 96 95,m 97 9,zX 98 25 96 97,zD 99 0 98,l 100 99,zc2 101 13 94 100,zbk .lss 102 3 101 0])
 (C (.t 102) (Q (R [zbf 2])
 .ret) .skip)))
 (R [m 92 9,zbk .add 93 3 92 1,m 9 93])))
def wA:ACode:=.loop sQ
def f4:ACode:=(Q (R [zbx 1 0,zbf 2])
 (Q (Q (R [zL 10 6 1,zc1 11 5 10,zun 12 11])
 (C (.t 12) (Q (R [zo 13 (.call 6 []),m 2 13])
 .ret) .skip))
 (Q (R [zL 14 6 1,zc1 15 7 14,m 3 15])
 (Q (R [zns 4])
 (Q (Q (R [n 5 0])
 (.block 0 wB))
 (Q (Q (R [m 76 4,zln 77 76,zD 78 5 1,l 79 78,zln 80 79,zbv .neq 81 3 77 80,m 82 81,zg 83 82 F (.mv (.t 4)),zg 84 82 F (.call 14 [.t 83]),zg 85 82 F (.un .not (.t 84)),zpt 86 82 85])
 (C (.t 86) (Q (R [zbf 2])
 .ret) .skip))
 (Q (Q (R [n 9 0])
 (.block 6 wA))
 (Q (R [zo 103 (.call 6 []),m 2 103])
 .ret))))))))
def Cg:AFun:=⟨f4,[.tmp 2]⟩
theorem Sh:funOf i3 4=some Cg:=by kernel_rfl
def zr:List DOp:=[⟨m 38 3,[3],[]⟩,⟨zD 39 5 1,[1],[0]⟩,⟨l 40 39,[39],[0]⟩,⟨m 41 5,[5],[0,1,2]⟩,⟨zX 42 25 40 41,[40,41],[0]⟩,⟨zD 43 1 42,[42],[0]⟩,⟨l 44 43,[43],[0]⟩,⟨zln 45 44,[44],[0]⟩,⟨zbv .add 46 3 38 45,[38,45],[]⟩,⟨zD 47 5 1,[1],[0,1,2,3,4,5,6,7,8]⟩,⟨l 48 47,[47],[0,1,2,3,4,5,6,7,8]⟩,⟨m 49 5,[5],[0,1,2,3,4,5,6,7,8,9,10]⟩,⟨zX 50 25 48 49,[48,49],[0,1,2,3,4,5,6,7,8]⟩,⟨zD 51 2 50,[50],[0,1,2,3,4,5,6,7,8]⟩,⟨zL 52 7 51,[51],[0,1,2,3,4,5,6,7,8]⟩,⟨zo 53 (.call 15 [.t 52,.c (V (I .i64 1500))]),[52],[0,1,2,3,4,5,6,7,8]⟩,⟨zbv .add 54 3 46 53,[46,53],[]⟩,⟨m 3 54,[54],[]⟩]
def Is:ACode:=.draw zr
def kL:ACode:=(Q (Q (R [m 6 5,zD 7 5 1,l 8 7,zln 9 8,zbv .lss 10 3 6 9,m 11 10,zg 12 11 T (.mv (.t 3)),zg 13 11 T (.bin .leq 3 T (.t 12) (.c (V (I .i64 1500)))),zpf 14 11 13])
 (C (.t 14) .skip (.exit 0)))
 (Q (.block 1 (Q (Q (R [m 17 5,zbk .geq 18 3 17 20,m 19 18,zg 20 19 F (D 5 (.t 1)),zg 21 19 F (L O (.t 20)),zg 22 19 F (.mv (.t 5)),zg 23 19 F (X 25 (.t 21) (.t 22)),zg 24 19 F (D 0 (.t 23)),zg 25 19 F (L O (.t 24)),zg 26 19 F (.lenStr (.t 25)),zg 27 19 F (.bin .gtr 3 T (.t 26) (.c (V (I .i64 100)))),zpt 28 19 27])
 (C (.t 28) (Q (R [zbf 2])
 .ret) .skip))
 (Q (R [m 29 4,zD 30 5 1,l 31 30,m 32 5,zX 33 25 31 32,zD 34 0 33,l 35 34,zo 36 (.buildSlice 1 1 [V (G ⟨#[]⟩)] [(0,1,(.t 35))]),zo 37 (A 1 16 (.t 29) (.t 36)),m 4 37])
 Is)))
 (R [m 15 5,zbk .add 16 3 15 1,m 5 16])))
def v8:ACode:=.loop kL
def f5:ACode:=(Q (R [zbx 1 0,zbf 2])
 (Q (R [n 3 0])
 (Q (R [zns 4])
 (Q (Q (R [n 5 0])
 (.block 0 v8))
 (Q (R [m 55 3,zbk .leq 56 3 55 1500,m 57 56,zg 58 57 T (.mv (.t 4)),zg 59 57 T (.call 14 [.t 58]),zpf 60 57 59,m 2 60])
 .ret)))))
def Ir:AFun:=⟨f5,[.tmp 2]⟩
theorem Sg:funOf i3 5=some Ir:=by kernel_rfl
def zb:List DOp:=[⟨zL 25 6 1,[1],[]⟩,⟨m 26 7,[7],[0]⟩,⟨zo 27 (X 1 (.t 26) (.c (V (I .i64 0)))),[26],[0]⟩,⟨l 28 27,[27],[0]⟩,⟨zc2 29 23 25 28,[25,28],[]⟩,⟨m 30 5,[5],[0,1,2,3,4]⟩,⟨zbv .eql 31 3 29 30,[29,30],[]⟩]
def Im:ACode:=.draw zb
def sE:ACode:=(Q (R [zbv .lss 17 3 16 15])
 (Q (C (.t 17) .skip (.exit 0))
 (Q (.block 1 (Q (R [m 18 16,zX 19 25 14 16,zL 20 25 19,zo 6 (.alloc [V (G ⟨#[]⟩),V (.slice O 0 0),V (I .i64 0),V (G ⟨#[]⟩),V (I .i64 0),V (.slice O 0 0),V (.slice O 0 0),V (.slice O 0 0),V (.slice O 0 0),V (I .i64 0),V (.bool F),V (.slice O 0 0),V (.slice O 0 0),V (.slice O 0 0),V (.slice O 0 0),V (I .i64 0),V (G ⟨#[]⟩),V (.slice O 0 0),V (.slice O 0 0),V (I .i64 0),V (G ⟨#[]⟩),V (I .i64 0),V (.slice O 0 0),V (.slice O 0 0),V (.slice O 0 0)]),m 5 18,⟨O,O,.store 25 (.t 6) (.t 20)⟩])
 (Q (R [zL 21 6 1,zD 22 0 6,l 23 22,zc2 24 22 21 23,m 7 24])
 (Q Im
 (C (.t 31) (R [m 32 3,m 33 7,zo 34 (.buildSlice 1 1 [V (.slice O 0 0)] [(0,1,(.t 33))]),zo 35 (A 1 24 (.t 32) (.t 34)),m 3 35]) .skip)))))
 (R [zbk .add 36 3 16 1,m 16 36]))))
def vy:ACode:=.loop sE
def kK:ACode:=(Q (R [zbv .lss 50 3 49 48])
 (Q (C (.t 50) .skip (.exit 6))
 (Q (.block 7 (Q (R [m 51 49,zX 52 1 47 49,l 53 52,m 11 51,m 12 53])
 (R [m 54 10,m 55 54,zg 56 55 F (.mv (.t 11)),zg 57 55 F (.mv (.t 8)),zg 58 55 F (.bin .neq 3 F (.t 56) (.t 57)),zg 59 55 F (.mv (.t 58)),zg 60 59 T (L (S 6) (.t 1)),zg 61 59 T (.mv (.t 9)),zg 62 59 T (.mv (.t 12)),zg 63 59 T (.call 24 [.t 60,.t 61,.t 62]),zg 64 55 F (.pick (.t 59) (.t 63) (.c (V (.bool F)))),zg 65 55 F (.mv (.t 64)),zg 66 65 T (L (S 6) (.t 1)),zg 67 65 T (.mv (.t 12)),zg 68 65 T (.mv (.t 9)),zg 69 65 T (.call 24 [.t 66,.t 67,.t 68]),zg 70 65 T (.un .not (.t 69)),zg 71 55 F (.pick (.t 65) (.t 70) (.c (V (.bool F)))),zpt 72 55 71,m 10 72])))
 (R [zbk .add 73 3 49 1,m 49 73]))))
def sB:ACode:=.loop kK
def sD:ACode:=(Q (R [zbv .lss 43 3 42 41])
 (Q (C (.t 43) .skip (.exit 4))
 (Q (.block 5 (Q (R [m 44 42,zX 45 1 40 42,l 46 45,m 8 44,m 9 46])
 (Q (R [zbf 10])
 (Q (Q (R [m 47 3,zln 48 47,n 49 0])
 (.block 6 sB))
 (Q (Q (R [m 74 10])
 (C (.t 74) (.exit 5) .skip))
 (Q (R [m 75 4,m 76 9,zo 77 (.buildSlice 1 1 [V (.slice O 0 0)] [(0,1,(.t 76))]),zo 78 (A 1 24 (.t 75) (.t 77)),m 4 78])
 (Q (R [m 79 3,m 80 8,m 81 8,zbk .add 82 3 81 1,zo 83 (.call 25 [.t 79,.t 80,.t 82]),m 3 83])
 (.exit 3))))))))
 (R [zbk .add 84 3 42 1,m 42 84]))))
def vx:ACode:=.loop sD
def sC:ACode:=(Q (Q (R [m 37 3,zln 38 37,zbk .gtr 39 3 38 0])
 (C (.t 39) .skip (.exit 2)))
 (.block 3 (Q (Q (R [m 40 3,zln 41 40,n 42 0])
 (.block 4 vx))
 (.exit 2))))
def vw:ACode:=.loop sC
def f7:ACode:=(Q (R [zbx 1 0,zns 2])
 (Q .skip
 (Q (R [zns 3,zns 4])
 (Q (Q (R [zD 13 5 1,l 14 13,zln 15 14,n 16 0])
 (.block 0 vy))
 (Q .skip
 (Q (.block 2 vw)
 (Q (R [m 85 4,m 2 85])
 .ret)))))))
def Il:AFun:=⟨f7,[.tmp 2]⟩
theorem Sf:funOf i3 7=some Il:=by kernel_rfl
def p9:List DOp:=[⟨zL 22 6 2,[2],[]⟩,⟨m 23 5,[5],[0]⟩,⟨m 24 6,[6],[0,1]⟩,⟨zX 25 1 23 24,[23,24],[0]⟩,⟨l 26 25,[25],[0]⟩,⟨zc2 27 31 22 26,[22,26],[]⟩,⟨m 21 27,[27],[]⟩,⟨zex 28 0 21,[21],[]⟩,⟨zex 29 1 21,[21],[7]⟩,⟨zo 7 (.alloc [V (G ⟨#[]⟩),V (.slice O 0 0),V (I .i64 0),V (G ⟨#[]⟩),V (I .i64 0),V (.slice O 0 0),V (.slice O 0 0),V (.slice O 0 0),V (.slice O 0 0),V (I .i64 0),V (.bool F),V (.slice O 0 0),V (.slice O 0 0),V (.slice O 0 0),V (.slice O 0 0),V (I .i64 0),V (G ⟨#[]⟩),V (.slice O 0 0),V (.slice O 0 0),V (I .i64 0),V (G ⟨#[]⟩),V (I .i64 0),V (.slice O 0 0),V (.slice O 0 0),V (.slice O 0 0)]),[],[0,1,2,3,4,5,6,7,8]⟩,⟨⟨O,O,.store 25 (.t 7) (.t 28)⟩,[7,28],[8]⟩,⟨m 8 29,[29],[]⟩]
def Dp:ACode:=.draw p9
def p8:List DOp:=[⟨zL 40 6 2,[2],[]⟩,⟨m 41 9,[9],[0]⟩,⟨m 42 10,[10],[0,1]⟩,⟨zX 43 1 41 42,[41,42],[0]⟩,⟨l 44 43,[43],[0]⟩,⟨zc2 45 31 40 44,[40,44],[]⟩,⟨m 39 45,[45],[]⟩,⟨zex 46 0 39,[39],[]⟩,⟨zex 47 1 39,[39],[7]⟩,⟨zo 11 (.alloc [V (G ⟨#[]⟩),V (.slice O 0 0),V (I .i64 0),V (G ⟨#[]⟩),V (I .i64 0),V (.slice O 0 0),V (.slice O 0 0),V (.slice O 0 0),V (.slice O 0 0),V (I .i64 0),V (.bool F),V (.slice O 0 0),V (.slice O 0 0),V (.slice O 0 0),V (.slice O 0 0),V (I .i64 0),V (G ⟨#[]⟩),V (.slice O 0 0),V (.slice O 0 0),V (I .i64 0),V (G ⟨#[]⟩),V (I .i64 0),V (.slice O 0 0),V (.slice O 0 0),V (.slice O 0 0)]),[],[0,1,2,3,4,5,6,7,8]⟩,⟨⟨O,O,.store 25 (.t 11) (.t 46)⟩,[11,46],[8]⟩,⟨m 12 47,[47],[]⟩]
def Do:ACode:=.draw p8
def fk:List DOp:=[⟨m 48 12,[12],[]⟩,⟨m 49 48,[48],[]⟩,⟨zg 50 49 T (D 1 (.t 7)),[7,49],[]⟩,⟨zg 51 49 T (L O (.t 50)),[50,49],[]⟩,⟨zg 52 49 T (.mv (.t 9)),[9,49],[2,3]⟩,⟨zg 53 49 T (.mv (.t 10)),[10,49],[2,3,4]⟩,⟨zg 54 49 T (X 1 (.t 52) (.t 53)),[52,53,49],[2,3]⟩,⟨zg 55 49 T (L O (.t 54)),[54,49],[2,3]⟩,⟨zg 56 49 T (.call 13 [.t 51,.t 55]),[51,55,49],[]⟩,⟨zg 57 49 T (.bin .lss 3 T (.t 56) (.c (V (I .i64 0)))),[56,49],[]⟩,⟨zpf 58 49 57,[49,57],[]⟩,⟨m 59 58,[58],[]⟩,⟨zg 60 59 T (.mv (.t 5)),[5,59],[]⟩,⟨zg 61 59 T (.mv (.t 9)),[9,59],[12]⟩,⟨zg 62 59 T (.mv (.t 10)),[10,59],[12,13]⟩,⟨zg 63 59 T (X 1 (.t 61) (.t 62)),[61,62,59],[12]⟩,⟨zg 64 59 T (L O (.t 63)),[63,59],[12]⟩,⟨zg 65 59 T (.call 13 [.t 60,.t 64]),[60,64,59],[]⟩,⟨zg 66 59 T (.bin .lss 3 T (.t 65) (.c (V (I .i64 0)))),[65,59],[]⟩,⟨zpf 67 59 66,[59,66],[]⟩]
def Dn:ACode:=.draw fk
def mS:ACode:=(Q (Q (R [m 33 10,m 34 9,zln 35 34,zbv .lss 36 3 33 35])
 (C (.t 36) .skip (.exit 2)))
 (Q (.block 3 (Q Do
 (Q Dn
 (C (.t 67) (R [m 68 5,m 69 9,m 70 10,zX 71 1 69 70,l 72 71,zo 73 (.buildSlice 1 1 [V (G ⟨#[]⟩)] [(0,1,(.t 72))]),zo 74 (A 1 16 (.t 68) (.t 73)),m 5 74]) .skip))))
 (R [m 37 10,zbk .add 38 3 37 1,m 10 38])))
def qA:ACode:=.loop mS
def qB:ACode:=(Q (Q (R [m 15 6,m 16 5,zln 17 16,zbv .lss 18 3 15 17])
 (C (.t 18) .skip (.exit 0)))
 (Q (.block 1 (Q Dp
 (Q (R [zD 30 2 7,zL 31 7 30,zc1 32 32 31,m 9 32])
 (Q (R [n 10 0])
 (.block 2 qA)))))
 (R [m 19 6,zbk .add 20 3 19 1,m 6 20])))
def uh:ACode:=.loop qB
def f12:ACode:=(Q (R [zbx 2 0,zns 4])
 (Q (R [m 13 1,zo 14 (.buildSlice 1 1 [V (G ⟨#[]⟩)] [(0,1,(.t 13))]),m 5 14])
 (Q (Q (R [n 6 0])
 (.block 0 uh))
 (Q (R [m 75 5,m 4 75])
 .ret))))
def Dm:AFun:=⟨f12,[.tmp 4]⟩
theorem Nf:funOf i3 12=some Dm:=by kernel_rfl
def jH:ACode:=(Q (R [zbv .lss 9 3 8 7])
 (Q (C (.t 9) .skip (.exit 0))
 (Q (.block 1 (Q (R [m 10 8,m 5 10])
 (Q (R [m 11 0,m 12 5,zX 13 1 11 12,l 14 13,m 15 1,zbv .eql 16 9 14 15])
 (C (.t 16) (Q (R [m 17 5,m 4 17])
 .ret) .skip))))
 (R [zbk .add 18 3 8 1,m 8 18]))))
def p7:ACode:=.loop jH
def f13:ACode:=(Q (R [n 4 0])
 (Q (Q (R [m 6 0,zln 7 6,n 8 0])
 (.block 0 p7))
 (Q (R [n 4 (-1)])
 .ret)))
def Dl:AFun:=⟨f13,[.tmp 4]⟩
theorem Nd:funOf i3 13=some Dl:=by kernel_rfl
def jG:ACode:=(Q (R [zbv .lss 7 3 6 5])
 (Q (C (.t 7) .skip (.exit 0))
 (Q (.block 1 (Q (R [m 8 6,m 3 8])
 (Q (R [m 9 0,m 10 0,m 11 3,zX 12 1 10 11,l 13 12,zc2 14 13 9 13,m 15 3,zbv .neq 16 3 14 15])
 (C (.t 16) (Q (R [zbf 2])
 .ret) .skip))))
 (R [zbk .add 17 3 6 1,m 6 17]))))
def pz:ACode:=.loop jG
def f14:ACode:=(Q (R [zbf 2])
 (Q (Q (R [m 4 0,zln 5 4,n 6 0])
 (.block 0 pz))
 (Q (R [zbt 2])
 .ret)))
def Dk:AFun:=⟨f14,[.tmp 2]⟩
theorem Nc:funOf i3 14=some Dk:=by kernel_rfl
def ud:List DOp:=[⟨zD 9 1 2,[2],[]⟩,⟨l 10 9,[9],[]⟩,⟨zo 11 (.lenStr (.t 10)),[10],[]⟩,⟨zbk .quo 12 3 11 50,[11],[]⟩,⟨zo 13 (.bin .add 3 T (.c (V (I .i64 1))) (.t 12)),[12],[]⟩,⟨zD 14 6 2,[2],[0,1,2,3,4]⟩,⟨l 15 14,[14],[0,1,2,3,4]⟩,⟨m 16 1,[1],[0,1,2,3,4,5,6]⟩,⟨zc2 17 33 15 16,[15,16],[0,1,2,3,4]⟩,⟨zbv .add 18 3 13 17,[13,17],[]⟩,⟨m 5 18,[18],[]⟩]
def Dj:ACode:=.draw ud
def fj:List DOp:=[⟨m 31 5,[5],[]⟩,⟨zbk .add 32 3 31 1,[31],[]⟩,⟨zD 33 4 2,[2],[0,1]⟩,⟨l 34 33,[33],[0,1]⟩,⟨m 35 6,[6],[0,1,2,3]⟩,⟨zX 36 10 34 35,[34,35],[0,1]⟩,⟨zD 37 0 36,[36],[0,1]⟩,⟨l 38 37,[37],[0,1]⟩,⟨zo 39 (.lenStr (.t 38)),[38],[0,1]⟩,⟨zbk .quo 40 3 39 50,[39],[0,1]⟩,⟨zbv .add 41 3 32 40,[32,40],[]⟩,⟨zD 42 4 2,[2],[0,1,2,3,4,5,6,7,8,9,10]⟩,⟨l 43 42,[42],[0,1,2,3,4,5,6,7,8,9,10]⟩,⟨m 44 6,[6],[0,1,2,3,4,5,6,7,8,9,10,11,12]⟩,⟨zX 45 10 43 44,[43,44],[0,1,2,3,4,5,6,7,8,9,10]⟩,⟨zD 46 1 45,[45],[0,1,2,3,4,5,6,7,8,9,10]⟩,⟨zL 47 9 46,[46],[0,1,2,3,4,5,6,7,8,9,10]⟩,⟨zo 48 (.buildSlice 9 1 [V (I .i64 0),V (G ⟨#[]⟩),V (.slice O 0 0),V (.slice O 0 0),V (I .i64 0),V (G ⟨#[]⟩),V (I .i64 0),V (.slice O 0 0),V (.slice O 0 0)] [(0,9,(.t 47))]),[47],[0,1,2,3,4,5,6,7,8,9,10]⟩,⟨m 49 1,[1],[0,1,2,3,4,5,6,7,8,9,10,11,12,13,14,15,16,17]⟩,⟨zc2 50 33 48 49,[48,49],[0,1,2,3,4,5,6,7,8,9,10]⟩,⟨zbv .add 51 3 41 50,[41,50],[]⟩,⟨m 5 51,[51],[]⟩]
def Di:ACode:=.draw fj
def jF:ACode:=(Q (Q (R [m 19 6,zD 20 4 2,l 21 20,zln 22 21,zbv .lss 23 3 19 22,m 24 23,zg 25 24 T (.mv (.t 5)),zg 26 24 T (.mv (.t 1)),zg 27 24 T (.bin .leq 3 F (.t 25) (.t 26)),zpf 28 24 27])
 (C (.t 28) .skip (.exit 0)))
 (Q (.block 1 Di)
 (R [m 29 6,zbk .add 30 3 29 1,m 6 30])))
def py:ACode:=.loop jF
def jE:ACode:=(Q (Q (R [m 52 7,zD 53 3 2,l 54 53,zln 55 54,zbv .lss 56 3 52 55,m 57 56,zg 58 57 T (.mv (.t 5)),zg 59 57 T (.mv (.t 1)),zg 60 57 T (.bin .leq 3 F (.t 58) (.t 59)),zpf 61 57 60])
 (C (.t 61) .skip (.exit 2)))
 (Q (.block 3 (R [m 64 5,zD 65 3 2,l 66 65,m 67 7,zX 68 7 66 67,zL 69 7 68,m 70 1,m 71 5,zbv .sub 72 3 70 71,zc2 73 15 69 72,zbv .add 74 3 64 73,m 5 74]))
 (R [m 62 7,zbk .add 63 3 62 1,m 7 63])))
def pw:ACode:=.loop jE
def uc:List DOp:=[⟨m 87 5,[5],[]⟩,⟨zbk .add 88 3 87 1,[87],[]⟩,⟨zD 89 5 2,[2],[0,1]⟩,⟨l 90 89,[89],[0,1]⟩,⟨m 91 8,[8],[0,1,2,3]⟩,⟨zX 92 9 90 91,[90,91],[0,1]⟩,⟨zD 93 0 92,[92],[0,1]⟩,⟨l 94 93,[93],[0,1]⟩,⟨zo 95 (.lenStr (.t 94)),[94],[0,1]⟩,⟨zbk .quo 96 3 95 50,[95],[0,1]⟩,⟨zbv .add 97 3 88 96,[88,96],[]⟩,⟨zD 98 5 2,[2],[0,1,2,3,4,5,6,7,8,9,10]⟩,⟨l 99 98,[98],[0,1,2,3,4,5,6,7,8,9,10]⟩,⟨m 100 8,[8],[0,1,2,3,4,5,6,7,8,9,10,11,12]⟩,⟨zX 101 9 99 100,[99,100],[0,1,2,3,4,5,6,7,8,9,10]⟩,⟨zD 102 1 101,[101],[0,1,2,3,4,5,6,7,8,9,10]⟩,⟨l 103 102,[102],[0,1,2,3,4,5,6,7,8,9,10]⟩,⟨m 104 1,[1],[0,1,2,3,4,5,6,7,8,9,10,11,12,13,14,15,16]⟩,⟨zc2 105 34 103 104,[103,104],[0,1,2,3,4,5,6,7,8,9,10]⟩,⟨zbv .add 106 3 97 105,[97,105],[]⟩,⟨m 5 106,[106],[]⟩]
def Dh:ACode:=.draw uc
def jD:ACode:=(Q (Q (R [m 75 8,zD 76 5 2,l 77 76,zln 78 77,zbv .lss 79 3 75 78,m 80 79,zg 81 80 T (.mv (.t 5)),zg 82 80 T (.mv (.t 1)),zg 83 80 T (.bin .leq 3 F (.t 81) (.t 82)),zpf 84 80 83])
 (C (.t 84) .skip (.exit 4)))
 (Q (.block 5 (Q Dh
 (R [m 107 5,zD 108 5 2,l 109 108,m 110 8,zX 111 9 109 110,zD 112 2 111,zL 113 7 112,m 114 1,m 115 5,zbv .sub 116 3 114 115,zc2 117 15 113 116,zbv .add 118 3 107 117,m 5 118])))
 (R [m 85 8,zbk .add 86 3 85 1,m 8 86])))
def pv:ACode:=.loop jD
def f15:ACode:=(Q (R [zbx 2 0,n 4 0])
 (Q Dj
 (Q (Q (R [n 6 0])
 (.block 0 py))
 (Q (Q (R [n 7 0])
 (.block 2 pw))
 (Q (Q (R [n 8 0])
 (.block 4 pv))
 (Q (R [m 119 5,m 4 119])
 .ret))))))
def Dg:AFun:=⟨f15,[.tmp 4]⟩
theorem Nb:funOf i3 15=some Dg:=by kernel_rfl
def fi:ACode:=(Q (R [zbv .lss 12 3 11 10])
 (Q (C (.t 12) .skip (.exit 0))
 (Q (.block 1 (Q (R [zX 13 25 9 11,zL 14 25 13,zo 7 (.alloc [V (G ⟨#[]⟩),V (.slice O 0 0),V (I .i64 0),V (G ⟨#[]⟩),V (I .i64 0),V (.slice O 0 0),V (.slice O 0 0),V (.slice O 0 0),V (.slice O 0 0),V (I .i64 0),V (.bool F),V (.slice O 0 0),V (.slice O 0 0),V (.slice O 0 0),V (.slice O 0 0),V (I .i64 0),V (G ⟨#[]⟩),V (.slice O 0 0),V (.slice O 0 0),V (I .i64 0),V (G ⟨#[]⟩),V (I .i64 0),V (.slice O 0 0),V (.slice O 0 0),V (.slice O 0 0)]),⟨O,O,.store 25 (.t 7) (.t 14)⟩])
 (Q (R [zD 15 0 7,l 16 15,m 17 1,zbv .eql 18 9 16 17,m 19 18,zg 20 19 F (L (S 6) (.t 2)),zg 21 19 F (.mv (.t 1)),zg 22 19 F (D 0 (.t 7)),zg 23 19 F (L O (.t 22)),zg 24 19 F (.call 29 [.t 20,.t 21,.t 23]),zpt 25 19 24])
 (C (.t 25) (R [m 26 5,zD 27 0 7,l 28 27,zo 29 (.buildSlice 1 1 [V (G ⟨#[]⟩)] [(0,1,(.t 28))]),zo 30 (A 1 16 (.t 26) (.t 29)),m 5 30]) .skip))))
 (R [zbk .add 31 3 11 1,m 11 31]))))
def mR:ACode:=.loop fi
def f22:ACode:=(Q (R [zbx 2 0,zns 4])
 (Q (R [zns 5])
 (Q (Q (R [zD 8 5 2,l 9 8,zln 10 9,n 11 0])
 (.block 0 mR))
 (Q (R [m 32 5,m 4 32])
 .ret))))
def De:AFun:=⟨f22,[.tmp 4]⟩
theorem Na:funOf i3 22=some De:=by kernel_rfl
def f23:ACode:=(Q (R [zbx 2 0,zbx 3 1,n 4 0])
 (Q (R [zD 5 5 2,l 6 5,zo 7 (.mkFunc (.func 43) [] [.t 3]),zc2 8 42 6 7,m 4 8])
 .ret))
def Dd:AFun:=⟨f23,[.tmp 4]⟩
theorem Mz:funOf i3 23=some Dd:=by kernel_rfl
def mQ:ACode:=(Q (R [zbv .lss 13 3 12 11])
 (Q (C (.t 13) .skip (.exit 0))
 (Q (.block 1 (Q (R [zX 14 1 10 12,l 15 14,m 8 15])
 (Q (R [zL 16 6 3,m 17 8,zc2 18 44 16 17,zo 9 (.alloc [V (.map O)]),⟨O,O,.store 1 (.t 9) (.t 18)⟩])
 (Q (R [m 19 2,zo 20 (.mkFunc (.func 46) [] [.t 9]),zc2 21 45 19 20])
 (C (.t 21) (Q (R [zbt 6])
 .ret) .skip)))))
 (R [zbk .add 22 3 12 1,m 12 22]))))
def pp:ACode:=.loop mQ
def f24:ACode:=(Q (R [zbx 3 0,zbf 6])
 (Q (Q (R [m 10 1,zln 11 10,n 12 0])
 (.block 0 pp))
 (Q (R [zbf 6])
 .ret)))
def Dc:AFun:=⟨f24,[.tmp 6]⟩
theorem My:funOf i3 24=some Dc:=by kernel_rfl
def mP:List DOp:=[⟨m 20 0,[0],[]⟩,⟨m 21 1,[1],[0]⟩,⟨zo 22 (.sliceS 1 (.t 20) O (S (.t 21)) O),[20,21],[]⟩,⟨m 23 0,[0],[0,1,2]⟩,⟨m 24 2,[2],[0,1,2,3]⟩,⟨zo 25 (.sliceS 1 (.t 23) (S (.t 24)) O O),[23,24],[0,1,2]⟩,⟨zo 26 (A 1 24 (.t 22) (.t 25)),[22,25],[]⟩,⟨m 0 26,[26],[]⟩]
def Mx:ACode:=.draw mP
def f25:ACode:=(Q (R [zns 6])
 (Q (R [m 8 0,m 9 1,m 10 2,m 11 0,zln 12 11,zo 13 (.sliceS 1 (.t 8) (S (.t 9)) (S (.t 10)) (S (.t 12)))])
 (Q (Q (R [m 14 1,m 15 2,zbv .eql 16 3 14 15])
 (C (.t 16) (Q (R [m 17 0,m 6 17])
 .ret) .skip))
 (Q (R [m 18 0,zln 19 18,m 7 19])
 (Q Mx
 (Q (R [m 27 0,m 28 0,zln 29 28,m 30 7,zo 31 (.sliceS 1 (.t 27) (S (.t 29)) (S (.t 30)) O),⟨O,O,.clearS 1 [V (.slice O 0 0)] (.t 31)⟩])
 (Q (R [m 32 0,m 6 32])
 .ret)))))))
def Db:AFun:=⟨f25,[.tmp 6]⟩
theorem Mw:funOf i3 25=some Db:=by kernel_rfl
def f29:ACode:=(Q (R [zbx 3 0,zbf 6])
 (Q (R [zL 7 6 3,m 8 1,zc2 9 49 7 8,m 10 2,zc2 11 48 9 10,zbk .geq 12 3 11 0,m 13 12,zg 14 13 T (L (S 6) (.t 3)),zg 15 13 T (.mv (.t 2)),zg 16 13 T (.call 49 [.t 14,.t 15]),zg 17 13 T (.mv (.t 1)),zg 18 13 T (.call 48 [.t 16,.t 17]),zg 19 13 T (.bin .geq 3 T (.t 18) (.c (V (I .i64 0)))),zpf 20 13 19,m 6 20])
 .ret))
def ub:AFun:=⟨f29,[.tmp 6]⟩
theorem Mv:funOf i3 29=some ub:=by kernel_rfl
def jC:ACode:=(Q (Q (R [m 7 6,zD 8 5 2,l 9 8,zln 10 9,zbv .lss 11 3 7 10])
 (C (.t 11) .skip (.exit 0)))
 (Q (.block 1 (Q (R [zD 14 5 2,l 15 14,m 16 6,zX 17 25 15 16,zD 18 0 17,l 19 18,m 20 1,zbv .eql 21 9 19 20])
 (C (.t 21) (Q (R [zD 22 5 2,l 23 22,m 24 6,zX 25 25 23 24,zL 26 25 25,⟨O,O,.store 25 (.t 4) (.t 26)⟩,zbt 5])
 .ret) .skip)))
 (R [m 12 6,zbk .add 13 3 12 1,m 6 13])))
def po:ACode:=.loop jC
def f31:ACode:=(Q (R [zbx 2 0,zo 4 (.alloc [V (G ⟨#[]⟩),V (.slice O 0 0),V (I .i64 0),V (G ⟨#[]⟩),V (I .i64 0),V (.slice O 0 0),V (.slice O 0 0),V (.slice O 0 0),V (.slice O 0 0),V (I .i64 0),V (.bool F),V (.slice O 0 0),V (.slice O 0 0),V (.slice O 0 0),V (.slice O 0 0),V (I .i64 0),V (G ⟨#[]⟩),V (.slice O 0 0),V (.slice O 0 0),V (I .i64 0),V (G ⟨#[]⟩),V (I .i64 0),V (.slice O 0 0),V (.slice O 0 0),V (.slice O 0 0)]),zbf 5])
 (Q (Q (R [n 6 0])
 (.block 0 po))
 (Q (R [zo 27 (.build [V (G ⟨#[]⟩),V (.slice O 0 0),V (I .i64 0),V (G ⟨#[]⟩),V (I .i64 0),V (.slice O 0 0),V (.slice O 0 0),V (.slice O 0 0),V (.slice O 0 0),V (I .i64 0),V (.bool F),V (.slice O 0 0),V (.slice O 0 0),V (.slice O 0 0),V (.slice O 0 0),V (I .i64 0),V (G ⟨#[]⟩),V (.slice O 0 0),V (.slice O 0 0),V (I .i64 0),V (G ⟨#[]⟩),V (I .i64 0),V (.slice O 0 0),V (.slice O 0 0),V (.slice O 0 0)] []),⟨O,O,.store 25 (.t 4) (.t 27)⟩,zbf 5])
 .ret)))
def Da:AFun:=⟨f31,[.cell 4 (S 25),.tmp 5]⟩
theorem Mu:funOf i3 31=some Da:=by kernel_rfl
def f32:ACode:=(Q (R [zbx 1 0,zns 2])
 (Q (R [zL 3 7 1,zo 4 (.call 53 [.t 3,.c (V (.slice O 0 0)),.c (V (.bool F))]),zo 5 (.call 52 [.t 4,.c (V (.slice O 0 0))]),m 2 5])
 .ret))
def Cz:AFun:=⟨f32,[.tmp 2]⟩
theorem Mt:funOf i3 32=some Cz:=by kernel_rfl
def cJ:List DOp:=[⟨m 18 5,[5],[]⟩,⟨zbk .add 19 3 18 1,[18],[]⟩,⟨m 20 0,[0],[0,1]⟩,⟨m 21 6,[6],[0,1,2]⟩,⟨zX 22 9 20 21,[20,21],[0,1]⟩,⟨zD 23 1 22,[22],[0,1]⟩,⟨l 24 23,[23],[0,1]⟩,⟨zo 25 (.lenStr (.t 24)),[24],[0,1]⟩,⟨zbk .quo 26 3 25 50,[25],[0,1]⟩,⟨zbv .add 27 3 19 26,[19,26],[]⟩,⟨m 28 0,[0],[0,1,2,3,4,5,6,7,8,9]⟩,⟨m 29 6,[6],[0,1,2,3,4,5,6,7,8,9,10]⟩,⟨zX 30 9 28 29,[28,29],[0,1,2,3,4,5,6,7,8,9]⟩,⟨zD 31 3 30,[30],[0,1,2,3,4,5,6,7,8,9]⟩,⟨l 32 31,[31],[0,1,2,3,4,5,6,7,8,9]⟩,⟨zln 33 32,[32],[0,1,2,3,4,5,6,7,8,9]⟩,⟨zbv .add 34 3 27 33,[27,33],[]⟩,⟨m 35 0,[0],[0,1,2,3,4,5,6,7,8,9,10,11,12,13,14,15,16]⟩,⟨m 36 6,[6],[0,1,2,3,4,5,6,7,8,9,10,11,12,13,14,15,16,17]⟩,⟨zX 37 9 35 36,[35,36],[0,1,2,3,4,5,6,7,8,9,10,11,12,13,14,15,16]⟩,⟨zD 38 4 37,[37],[0,1,2,3,4,5,6,7,8,9,10,11,12,13,14,15,16]⟩,⟨zL 39 4 38,[38],[0,1,2,3,4,5,6,7,8,9,10,11,12,13,14,15,16]⟩,⟨zo 40 (.buildSlice 4 1 [V (I .i64 0),V (G ⟨#[]⟩),V (I .i64 0),V (.slice O 0 0)] [(0,4,(.t 39))]),[39],[0,1,2,3,4,5,6,7,8,9,10,11,12,13,14,15,16]⟩,⟨m 41 0,[0],[0,1,2,3,4,5,6,7,8,9,10,11,12,13,14,15,16,17,18,19,20,21,22]⟩,⟨m 42 6,[6],[0,1,2,3,4,5,6,7,8,9,10,11,12,13,14,15,16,17,18,19,20,21,22,23]⟩,⟨zX 43 9 41 42,[41,42],[0,1,2,3,4,5,6,7,8,9,10,11,12,13,14,15,16,17,18,19,20,21,22]⟩,⟨zD 44 8 43,[43],[0,1,2,3,4,5,6,7,8,9,10,11,12,13,14,15,16,17,18,19,20,21,22]⟩,⟨l 45 44,[44],[0,1,2,3,4,5,6,7,8,9,10,11,12,13,14,15,16,17,18,19,20,21,22]⟩,⟨zo 46 (A 4 56 (.t 40) (.t 45)),[40,45],[0,1,2,3,4,5,6,7,8,9,10,11,12,13,14,15,16]⟩,⟨m 47 1,[1],[0,1,2,3,4,5,6,7,8,9,10,11,12,13,14,15,16,17,18,19,20,21,22,23,24,25,26,27,28]⟩,⟨zc2 48 54 46 47,[46,47],[0,1,2,3,4,5,6,7,8,9,10,11,12,13,14,15,16]⟩,⟨zbv .add 49 3 34 48,[34,48],[]⟩,⟨m 5 49,[49],[]⟩]
def Cy:ACode:=.draw cJ
def jB:ACode:=(Q (Q (R [m 7 6,m 8 0,zln 9 8,zbv .lss 10 3 7 9,m 11 10,zg 12 11 T (.mv (.t 5)),zg 13 11 T (.mv (.t 1)),zg 14 11 T (.bin .leq 3 F (.t 12) (.t 13)),zpf 15 11 14])
 (C (.t 15) .skip (.exit 0)))
 (Q (.block 1 (Q Cy
 (R [m 50 5,m 51 0,m 52 6,zX 53 9 51 52,zD 54 2 53,l 55 54,m 56 1,m 57 5,zbv .sub 58 3 56 57,zc2 59 33 55 58,zbv .add 60 3 50 59,m 5 60])))
 (R [m 16 6,zbk .add 17 3 16 1,m 6 17])))
def pn:ACode:=.loop jB
def f33:ACode:=(Q (R [n 4 0])
 (Q (R [n 5 0])
 (Q (Q (R [n 6 0])
 (.block 0 pn))
 (Q (R [m 61 5,m 4 61])
 .ret))))
def Cx:AFun:=⟨f33,[.tmp 4]⟩
theorem Ms:funOf i3 33=some Cx:=by kernel_rfl
def jA:ACode:=(Q (Q (R [m 7 6,m 8 0,zln 9 8,zbv .lss 10 3 7 9,m 11 10,zg 12 11 T (.mv (.t 5)),zg 13 11 T (.mv (.t 1)),zg 14 11 T (.bin .leq 3 F (.t 12) (.t 13)),zpf 15 11 14])
 (C (.t 15) .skip (.exit 0)))
 (Q (.block 1 (R [m 18 5,zbk .add 19 3 18 1,m 20 0,m 21 6,zX 22 1 20 21,l 23 22,zo 24 (.lenStr (.t 23)),zbk .quo 25 3 24 50,zbv .add 26 3 19 25,m 5 26]))
 (R [m 16 6,zbk .add 17 3 16 1,m 6 17])))
def pl:ACode:=.loop jA
def f34:ACode:=(Q (R [n 4 0])
 (Q (R [n 5 0])
 (Q (Q (R [n 6 0])
 (.block 0 pl))
 (Q (R [m 27 5,m 4 27])
 .ret))))
def Cw:AFun:=⟨f34,[.tmp 4]⟩
theorem Mr:funOf i3 34=some Cw:=by kernel_rfl
def iZ:ACode:=(Q (R [zbv .lss 12 3 11 10])
 (Q (C (.t 12) .skip (.exit 0))
 (Q (.block 1 (Q (R [zX 13 25 9 11,zL 14 25 13,zo 7 (.alloc [V (G ⟨#[]⟩),V (.slice O 0 0),V (I .i64 0),V (G ⟨#[]⟩),V (I .i64 0),V (.slice O 0 0),V (.slice O 0 0),V (.slice O 0 0),V (.slice O 0 0),V (I .i64 0),V (.bool F),V (.slice O 0 0),V (.slice O 0 0),V (.slice O 0 0),V (.slice O 0 0),V (I .i64 0),V (G ⟨#[]⟩),V (.slice O 0 0),V (.slice O 0 0),V (I .i64 0),V (G ⟨#[]⟩),V (I .i64 0),V (.slice O 0 0),V (.slice O 0 0),V (.slice O 0 0)]),⟨O,O,.store 25 (.t 7) (.t 14)⟩])
 (Q (R [zD 15 0 7,l 16 15,m 17 1,zbv .eql 18 9 16 17])
 (C (.t 18) (Q (R [zL 19 25 7,⟨O,O,.store 25 (.t 4) (.t 19)⟩,zbt 5])
 .ret) .skip))))
 (R [zbk .add 20 3 11 1,m 11 20]))))
def pj:ACode:=.loop iZ
def f36:ACode:=(Q (R [zbx 2 0,zo 4 (.alloc [V (G ⟨#[]⟩),V (.slice O 0 0),V (I .i64 0),V (G ⟨#[]⟩),V (I .i64 0),V (.slice O 0 0),V (.slice O 0 0),V (.slice O 0 0),V (.slice O 0 0),V (I .i64 0),V (.bool F),V (.slice O 0 0),V (.slice O 0 0),V (.slice O 0 0),V (.slice O 0 0),V (I .i64 0),V (G ⟨#[]⟩),V (.slice O 0 0),V (.slice O 0 0),V (I .i64 0),V (G ⟨#[]⟩),V (I .i64 0),V (.slice O 0 0),V (.slice O 0 0),V (.slice O 0 0)]),zbf 5])
 (Q (Q (R [zD 8 5 2,l 9 8,zln 10 9,n 11 0])
 (.block 0 pj))
 (Q (R [zo 21 (.build [V (G ⟨#[]⟩),V (.slice O 0 0),V (I .i64 0),V (G ⟨#[]⟩),V (I .i64 0),V (.slice O 0 0),V (.slice O 0 0),V (.slice O 0 0),V (.slice O 0 0),V (I .i64 0),V (.bool F),V (.slice O 0 0),V (.slice O 0 0),V (.slice O 0 0),V (.slice O 0 0),V (I .i64 0),V (G ⟨#[]⟩),V (.slice O 0 0),V (.slice O 0 0),V (I .i64 0),V (G ⟨#[]⟩),V (I .i64 0),V (.slice O 0 0),V (.slice O 0 0),V (.slice O 0 0)] []),⟨O,O,.store 25 (.t 4) (.t 21)⟩,zbf 5])
 .ret)))
def Cv:AFun:=⟨f36,[.cell 4 (S 25),.tmp 5]⟩
theorem Mp:funOf i3 36=some Cv:=by kernel_rfl
def mO:ACode:=(Q (R [zbv .lss 9 3 8 7])
 (Q (C (.t 9) .skip (.exit 0))
 (Q (.block 1 (Q (R [m 10 8,m 5 10])
 (Q (R [m 11 1,m 12 0,m 13 5,zX 14 25 12 13,zL 15 25 14,zo 16 (.callv (.t 11) [.t 15])])
 (C (.t 16) (Q (R [m 17 5,m 4 17])
 .ret) .skip))))
 (R [zbk .add 18 3 8 1,m 8 18]))))
def pi:ACode:=.loop mO
def f42:ACode:=(Q (R [n 4 0])
 (Q (Q (R [m 6 0,zln 7 6,n 8 0])
 (.block 0 pi))
 (Q (R [n 4 (-1)])
 .ret)))
def Cu:AFun:=⟨f42,[.tmp 4]⟩
theorem Mo:funOf i3 42=some Cu:=by kernel_rfl
def f43:ACode:=(Q (R [zbx 2 0,zbf 3])
 (Q (R [zD 4 0 2,l 5 4,l 6 1,zbv .eql 7 9 5 6,m 3 7])
 .ret))
def Ct:AFun:=⟨f43,[.tmp 3]⟩
theorem Mn:funOf i3 43=some Ct:=by kernel_rfl
def pg:List DOp:=[⟨zL 18 6 2,[2],[]⟩,⟨m 19 6,[6],[0]⟩,⟨zo 20 (X 1 (.t 19) (.c (V (I .i64 0)))),[19],[0]⟩,⟨l 21 20,[20],[0]⟩,⟨zc2 22 36 18 21,[18,21],[]⟩,⟨m 17 22,[22],[]⟩,⟨zex 23 0 17,[17],[]⟩,⟨zex 24 1 17,[17],[6]⟩,⟨zo 7 (.alloc [V (G ⟨#[]⟩),V (.slice O 0 0),V (I .i64 0),V (G ⟨#[]⟩),V (I .i64 0),V (.slice O 0 0),V (.slice O 0 0),V (.slice O 0 0),V (.slice O 0 0),V (I .i64 0),V (.bool F),V (.slice O 0 0),V (.slice O 0 0),V (.slice O 0 0),V (.slice O 0 0),V (I .i64 0),V (G ⟨#[]⟩),V (.slice O 0 0),V (.slice O 0 0),V (I .i64 0),V (G ⟨#[]⟩),V (I .i64 0),V (.slice O 0 0),V (.slice O 0 0),V (.slice O 0 0)]),[],[0,1,2,3,4,5,6,7]⟩,⟨⟨O,O,.store 25 (.t 7) (.t 23)⟩,[7,23],[7]⟩,⟨m 8 24,[24],[]⟩]
def Cs:ACode:=.draw pg
def iY:ACode:=(Q (R [zbv .lss 32 3 31 30])
 (Q (C (.t 32) .skip (.exit 2))
 (Q (.block 3 (Q (R [zX 33 1 29 31,l 34 33,m 10 34])
 (Q (R [m 35 5,m 36 10,zo 37 (.lookup .string (V (.bool F)) (.t 35) (.t 36) F),zun 38 37])
 (C (.t 38) (Q (R [m 39 5,m 40 10,⟨O,O,.mapUpd .string (.t 39) (.t 40) (.c (V (.bool T)))⟩])
 (R [m 41 6,m 42 10,zo 43 (.buildSlice 1 1 [V (G ⟨#[]⟩)] [(0,1,(.t 42))]),zo 44 (A 1 16 (.t 41) (.t 43)),m 6 44])) .skip))))
 (R [zbk .add 45 3 31 1,m 31 45]))))
def ph:ACode:=.loop iY
def fh:ACode:=(Q (Q (R [m 14 6,zln 15 14,zbk .gtr 16 3 15 0])
 (C (.t 16) .skip (.exit 0)))
 (.block 1 (Q Cs
 (Q (R [m 25 6,zo 26 (.sliceS 1 (.t 25) (S (.c (V (I .i64 1)))) O O),m 6 26])
 (Q (R [zL 27 6 2,zL 28 25 7,zc2 29 69 27 28,zln 30 29,n 31 0])
 (.block 2 ph))))))
def mN:ACode:=.loop fh
def f44:ACode:=(Q (R [zbx 2 0,zo 4 (.mv (.c (V (.map O))))])
 (Q (R [zo 11 (.mkMap),m 5 11])
 (Q (R [m 12 1,zo 13 (.buildSlice 1 1 [V (G ⟨#[]⟩)] [(0,1,(.t 12))]),m 6 13])
 (Q (.block 0 mN)
 (Q (R [m 46 5,m 4 46])
 .ret)))))
def Cr:AFun:=⟨f44,[.tmp 4]⟩
theorem Mm:funOf i3 44=some Cr:=by kernel_rfl
def f45:ACode:=(Q (R [zbf 4])
 (Q (R [m 5 0,m 6 1,zc2 7 70 5 6,zbk .geq 8 3 7 0,m 4 8])
 .ret))
def Cq:AFun:=⟨f45,[.tmp 4]⟩
theorem Ml:funOf i3 45=some Cq:=by kernel_rfl
def f46:ACode:=(Q (R [zbf 3])
 (Q (R [l 4 1,m 5 0,zo 6 (.lookup .string (V (.bool F)) (.t 4) (.t 5) F),m 3 6])
 .ret))
def Cp:AFun:=⟨f46,[.tmp 3]⟩
theorem Mk:funOf i3 46=some Cp:=by kernel_rfl
def f48:ACode:=(Q (R [n 4 0])
 (Q (R [m 5 0,m 6 1,zc2 7 72 5 6,m 4 7])
 .ret))
def Co:AFun:=⟨f48,[.tmp 4]⟩
theorem Mj:funOf i3 48=some Co:=by kernel_rfl
def f49:ACode:=(Q (R [zbx 2 0,zns 4])
 (Q (R [zo 7 (.call 73 [.c (V (.slice O 0 0))]),zo 5 (.alloc [V (.pointer O)]),⟨O,O,.store 1 (.t 5) (.t 7)⟩])
 (Q (R [zo 6 (.alloc [V .nilFunc])])
 (Q (R [zo 8 (.mkFunc (.func 74) [] [.t 2,.t 5,.t 6]),⟨O,O,.store 1 (.t 6) (.t 8)⟩])
 (Q (R [l 9 6,m 10 1,zo 11 (.callv (.t 9) [.t 10])])
 (Q (R [l 12 5,zc1 13 77 12,m 4 13])
 .ret))))))
def uY:AFun:=⟨f49,[.tmp 4]⟩
theorem Mi:funOf i3 49=some uY:=by kernel_rfl
def f50:ACode:=(Q (R [zbf 4])
 (Q (R [m 5 0,m 6 1,zc2 7 13 5 6,zbk .geq 8 3 7 0,m 4 8])
 .ret))
def zz:AFun:=⟨f50,[.tmp 4]⟩
theorem Mh:funOf i3 50=some zz:=by kernel_rfl
def mM:ACode:=(Q (R [zbv .lss 11 3 10 9])
 (Q (C (.t 11) .skip (.exit 0))
 (Q (.block 1 (Q (R [m 12 10,m 6 12])
 (R [m 13 5,m 14 0,m 15 6,zX 16 1 14 15,l 17 16,zc2 18 79 13 17,m 5 18])))
 (R [zbk .add 19 3 10 1,m 10 19]))))
def pf:ACode:=.loop mM
def mL:ACode:=(Q (R [zbv .lss 23 3 22 21])
 (Q (C (.t 23) .skip (.exit 2))
 (Q (.block 3 (Q (R [m 24 22,m 7 24])
 (R [m 25 5,m 26 1,m 27 7,zX 28 1 26 27,l 29 28,zc2 30 79 25 29,m 5 30])))
 (R [zbk .add 31 3 22 1,m 22 31]))))
def pe:ACode:=.loop mL
def f52:ACode:=(Q (R [zns 4])
 (Q (R [zns 5])
 (Q (Q (R [m 8 0,zln 9 8,n 10 0])
 (.block 0 pf))
 (Q (Q (R [m 20 1,zln 21 20,n 22 0])
 (.block 2 pe))
 (Q (R [m 32 5,m 4 32])
 .ret)))))
def zy:AFun:=⟨f52,[.tmp 4]⟩
theorem Mg:funOf i3 52=some zy:=by kernel_rfl
def mE:List DOp:=[⟨m 42 7,[7],[]⟩,⟨zD 43 3 3,[3],[0]⟩,⟨l 44 43,[43],[0]⟩,⟨m 45 8,[8],[0,1,2]⟩,⟨zX 46 7 44 45,[44,45],[0]⟩,⟨zL 47 7 46,[46],[0]⟩,⟨zL 48 7 3,[3],[0,1,2,3,4,5]⟩,⟨m 49 8,[8],[0,1,2,3,4,5,6]⟩,⟨m 50 1,[1],[0,1,2,3,4,5,6,7]⟩,⟨zo 51 (.call 80 [.t 48,.t 49,.t 50]),[48,49,50],[0,1,2,3,4,5]⟩,⟨m 52 2,[2],[0,1,2,3,4,5,6,7,8,9]⟩,⟨zo 53 (.call 53 [.t 47,.t 51,.t 52]),[47,51,52],[0]⟩,⟨zo 54 (A 1 16 (.t 42) (.t 53)),[42,53],[]⟩,⟨m 7 54,[54],[]⟩]
def zx:ACode:=.draw mE
def mK:ACode:=(Q (Q (R [m 35 8,zD 36 3 3,l 37 36,zln 38 37,zbv .lss 39 3 35 38])
 (C (.t 39) .skip (.exit 0)))
 (Q (.block 1 zx)
 (R [m 40 8,zbk .add 41 3 40 1,m 8 41])))
def mG:ACode:=.loop mK
def pc:List DOp:=[⟨zo 62 (.buildSlice 1 0 [] []),[],[]⟩,⟨m 63 1,[1],[0]⟩,⟨zo 64 (A 1 16 (.t 62) (.t 63)),[62,63],[]⟩,⟨zD 65 5 3,[3],[0,1,2]⟩,⟨l 66 65,[65],[0,1,2]⟩,⟨m 67 9,[9],[0,1,2,3,4]⟩,⟨zX 68 9 66 67,[66,67],[0,1,2]⟩,⟨zD 69 1 68,[68],[0,1,2]⟩,⟨l 70 69,[69],[0,1,2]⟩,⟨zo 71 (A 1 16 (.t 64) (.t 70)),[64,70],[]⟩,⟨m 10 71,[71],[]⟩]
def zw:ACode:=.draw pc
def mJ:ACode:=(Q (Q (R [m 55 9,zD 56 5 3,l 57 56,zln 58 57,zbv .lss 59 3 55 58])
 (C (.t 59) .skip (.exit 2)))
 (Q (.block 3 (Q zw
 (R [m 72 7,zD 73 5 3,l 74 73,m 75 9,zX 76 9 74 75,zD 77 2 76,zL 78 7 77,m 79 10,m 80 2,zo 81 (.call 53 [.t 78,.t 79,.t 80]),zo 82 (A 1 16 (.t 72) (.t 81)),m 7 82])))
 (R [m 60 9,zbk .add 61 3 60 1,m 9 61])))
def mF:ACode:=.loop mJ
def f53:ACode:=(Q (R [zbx 3 0,zns 6])
 (Q (R [zns 7])
 (Q (Q (R [zD 11 0 3,l 12 11,zbk .eql 13 40 12 5,m 14 13,zg 15 14 F (D 0 (.t 3)),zg 16 14 F (L O (.t 15)),zg 17 14 F (.bin .eql 40 T (.t 16) (.c (V (I .i64 3)))),zg 18 14 F (.mv (.t 17)),zg 19 18 T (.mv (.t 2)),zg 20 18 T (.un .not (.t 19)),zg 21 14 F (.pick (.t 18) (.t 20) (.c (V (.bool F)))),zpt 22 14 21,m 23 22,zg 24 23 T (.mv (.t 1)),zg 25 23 T (D 1 (.t 3)),zg 26 23 T (L O (.t 25)),zg 27 23 T (.call 50 [.t 24,.t 26]),zg 28 23 T (.un .not (.t 27)),zpf 29 23 28])
 (C (.t 29) (R [m 30 7,zD 31 1 3,l 32 31,zo 33 (.buildSlice 1 1 [V (G ⟨#[]⟩)] [(0,1,(.t 32))]),zo 34 (A 1 16 (.t 30) (.t 33)),m 7 34]) .skip))
 (Q (Q (R [n 8 0])
 (.block 0 mG))
 (Q (Q (R [n 9 0])
 (.block 2 mF))
 (Q (R [m 83 7,m 6 83])
 .ret))))))
def uV:AFun:=⟨f53,[.tmp 6]⟩
theorem Me:funOf i3 53=some uV:=by kernel_rfl
def iW:ACode:=(Q (Q (R [m 7 6,m 8 0,zln 9 8,zbv .lss 10 3 7 9,m 11 10,zg 12 11 T (.mv (.t 5)),zg 13 11 T (.mv (.t 1)),zg 14 11 T (.bin .leq 3 F (.t 12) (.t 13)),zpf 15 11 14])
 (C (.t 15) .skip (.exit 0)))
 (Q (.block 1 (Q (R [m 18 5,zbk .add 19 3 18 1,m 20 0,m 21 6,zX 22 4 20 21,zD 23 1 22,l 24 23,zo 25 (.lenStr (.t 24)),zbk .quo 26 3 25 50,zbv .add 27 3 19 26,m 5 27])
 (R [m 28 5,m 29 0,m 30 6,zX 31 4 29 30,zD 32 3 31,l 33 32,m 34 1,m 35 5,zbv .sub 36 3 34 35,zc2 37 54 33 36,zbv .add 38 3 28 37,m 5 38])))
 (R [m 16 6,zbk .add 17 3 16 1,m 6 17])))
def pb:ACode:=.loop iW
def f54:ACode:=(Q (R [n 4 0])
 (Q (R [n 5 0])
 (Q (Q (R [n 6 0])
 (.block 0 pb))
 (Q (R [m 39 5,m 4 39])
 .ret))))
def zt:AFun:=⟨f54,[.tmp 4]⟩
theorem Mc:funOf i3 54=some zt:=by kernel_rfl
def f60:ACode:=(Q (R [zns 2])
 (Q (Q (R [m 3 0,zo 4 (.bin .eql 35 T (.t 3) (.c (V (.slice O 0 0))))])
 (C (.t 4) (Q (R [zns 2])
 .ret) .skip))
 (Q (R [zo 5 (.buildSlice 1 0 [] []),m 6 0,zo 7 (A 1 16 (.t 5) (.t 6)),m 2 7])
 .ret)))
def uU:AFun:=⟨f60,[.tmp 2]⟩
theorem zq:funOf i3 60=some uU:=by kernel_rfl
def f69:ACode:=(Q (R [zbx 2 0,zbx 3 1,zns 4])
 (Q (R [zD 5 2 3,zL 6 7 5,zc1 7 83 6,zo 8 (.mkFunc (.func 110) [] [.t 3,.t 2]),zc2 9 109 7 8,m 4 9])
 .ret))
def uT:AFun:=⟨f69,[.tmp 4]⟩
theorem Mb:funOf i3 69=some uT:=by kernel_rfl
def ei:ACode:=(Q (R [zbv .lss 9 3 8 7])
 (Q (C (.t 9) .skip (.exit 0))
 (Q (.block 1 (Q (R [m 10 8,m 5 10])
 (Q (R [m 11 1,m 12 0,m 13 5,zX 14 1 12 13,l 15 14,zo 16 (.callv (.t 11) [.t 15])])
 (C (.t 16) (Q (R [m 17 5,m 4 17])
 .ret) .skip))))
 (R [zbk .add 18 3 8 1,m 8 18]))))
def ff:ACode:=.loop ei
def f70:ACode:=(Q (R [n 4 0])
 (Q (Q (R [m 6 0,zln 7 6,n 8 0])
 (.block 0 ff))
 (Q (R [n 4 (-1)])
 .ret)))
def uS:AFun:=⟨f70,[.tmp 4]⟩
theorem zp:funOf i3 70=some uS:=by kernel_rfl
def iV:ACode:=(Q (R [zbv .lss 9 3 8 7])
 (Q (C (.t 9) .skip (.exit 0))
 (Q (.block 1 (Q (R [m 10 8,m 5 10])
 (Q (R [m 11 1,m 12 0,m 13 5,zX 14 1 12 13,l 15 14,zbv .eql 16 9 11 15])
 (C (.t 16) (Q (R [m 17 5,m 4 17])
 .ret) .skip))))
 (R [zbk .add 18 3 8 1,m 8 18]))))
def pZ:ACode:=.loop iV
def f72:ACode:=(Q (R [n 4 0])
 (Q (Q (R [m 6 0,zln 7 6,n 8 0])
 (.block 0 pZ))
 (Q (R [n 4 (-1)])
 .ret)))
def zn:AFun:=⟨f72,[.tmp 4]⟩
theorem Ma:funOf i3 72=some zn:=by kernel_rfl
def f73:ACode:=(Q (R [zo 2 (.mv (.c (V (.pointer O))))])
 (Q (R [zo 4 (.mkMap),zo 5 (.build [V (.map O)] [(0,1,(.t 4))]),zbx 6 5,m 3 6])
 (Q (R [m 7 3,m 8 0,zc2 9 76 7 8])
 (Q (R [m 10 3,m 2 10])
 .ret))))
def zm:AFun:=⟨f73,[.tmp 2]⟩
theorem Lz:funOf i3 73=some zm:=by kernel_rfl
def fe:ACode:=(Q (R [zbv .lss 23 3 22 21])
 (Q (C (.t 23) .skip (.exit 0))
 (Q (.block 1 (Q (R [zX 24 1 20 22,l 25 24,m 8 25])
 (Q (R [zL 27 6 1,m 28 8,zc2 29 36 27 28,m 26 29,zex 30 0 26,zex 31 1 26,zo 9 (.alloc [V (G ⟨#[]⟩),V (.slice O 0 0),V (I .i64 0),V (G ⟨#[]⟩),V (I .i64 0),V (.slice O 0 0),V (.slice O 0 0),V (.slice O 0 0),V (.slice O 0 0),V (I .i64 0),V (.bool F),V (.slice O 0 0),V (.slice O 0 0),V (.slice O 0 0),V (.slice O 0 0),V (I .i64 0),V (G ⟨#[]⟩),V (.slice O 0 0),V (.slice O 0 0),V (I .i64 0),V (G ⟨#[]⟩),V (I .i64 0),V (.slice O 0 0),V (.slice O 0 0),V (.slice O 0 0)]),⟨O,O,.store 25 (.t 9) (.t 30)⟩,m 10 31])
 (Q (R [m 32 10,m 33 32,zg 34 33 T (L O (.t 2)),zg 35 33 T (.nilck (.t 34)),zg 36 33 T (D 0 (.t 35)),zg 37 33 T (L O (.t 36)),zg 38 33 T (.mv (.t 8)),zg 39 33 T (.lookup .string (V (.bool F)) (.t 37) (.t 38) F),zg 40 33 T (.un .not (.t 39)),zpf 41 33 40])
 (C (.t 41) (Q (R [l 42 2,m 43 8,zo 44 (.buildSlice 1 1 [V (G ⟨#[]⟩)] [(0,1,(.t 43))]),zc2 45 76 42 44])
 (R [l 46 3,m 47 8,zo 48 (.callv (.t 46) [.t 47])])) .skip)))))
 (R [zbk .add 49 3 22 1,m 22 49]))))
def mD:ACode:=.loop fe
def f74:ACode:=(Q (R [zL 12 6 1,m 13 0,zc2 14 36 12 13,m 11 14,zex 15 0 11,zex 16 1 11,zo 5 (.alloc [V (G ⟨#[]⟩),V (.slice O 0 0),V (I .i64 0),V (G ⟨#[]⟩),V (I .i64 0),V (.slice O 0 0),V (.slice O 0 0),V (.slice O 0 0),V (.slice O 0 0),V (I .i64 0),V (.bool F),V (.slice O 0 0),V (.slice O 0 0),V (.slice O 0 0),V (.slice O 0 0),V (I .i64 0),V (G ⟨#[]⟩),V (.slice O 0 0),V (.slice O 0 0),V (I .i64 0),V (G ⟨#[]⟩),V (I .i64 0),V (.slice O 0 0),V (.slice O 0 0),V (.slice O 0 0)]),⟨O,O,.store 25 (.t 5) (.t 15)⟩,m 6 16])
 (Q (Q (R [m 17 6,zun 18 17])
 (C (.t 18) .ret .skip))
 (Q (R [zL 19 25 5,zc1 20 75 19,zln 21 20,n 22 0])
 (.block 0 mD))))
def uR:AFun:=⟨f74,[]⟩
theorem Ly:funOf i3 74=some uR:=by kernel_rfl
def f75:ACode:=(Q (R [zbx 1 0,zns 2])
 (Q (R [zD 3 2 1,zL 4 7 3,zc1 5 112 4,zo 6 (.mkFunc (.func 113) [] [.t 1]),zc2 7 109 5 6,m 2 7])
 .ret))
def zl:AFun:=⟨f75,[.tmp 2]⟩
theorem Lx:funOf i3 75=some zl:=by kernel_rfl
def fc:ACode:=(Q (R [zbv .lss 9 3 8 7])
 (Q (C (.t 9) .skip (.exit 0))
 (Q (.block 1 (Q (R [zX 10 1 6 8,l 11 10,m 5 11])
 (R [m 12 0,zo 13 (.nilck (.t 12)),zD 14 0 13,l 15 14,m 16 5,⟨O,O,.mapUpd .string (.t 15) (.t 16) (.c (V (.bool T)))⟩])))
 (R [zbk .add 17 3 8 1,m 8 17]))))
def pY:ACode:=.loop fc
def f76:ACode:=(Q (R [m 6 1,zln 7 6,n 8 0])
 (.block 0 pY))
def uQ:AFun:=⟨f76,[]⟩
theorem zk:funOf i3 76=some uQ:=by kernel_rfl
def pX:ACode:=(Q (R [zo 10 (.nextMap (.t 9)),zex 11 0 10])
 (Q (C (.t 11) .skip (.exit 0))
 (.block 1 (Q (R [zo 12 (.curMap (.t 9)),zex 13 0 12,m 4 13])
 (R [m 14 3,m 15 4,zo 16 (.buildSlice 1 1 [V (G ⟨#[]⟩)] [(0,1,(.t 15))]),zo 17 (A 1 16 (.t 14) (.t 16)),m 3 17])))))
def fb:ACode:=.loop pX
def f77:ACode:=(Q (R [zns 2])
 (Q (R [zns 3])
 (Q (Q (R [m 5 0,zo 6 (.nilck (.t 5)),zD 7 0 6,l 8 7,zo 9 (.rangeMap (.t 8))])
 (.block 0 fb))
 (Q (R [m 18 3,zc1 19 114 18])
 (Q (R [m 20 3,m 2 20])
 .ret)))))
def uP:AFun:=⟨f77,[.tmp 2]⟩
theorem Lv:funOf i3 77=some uP:=by kernel_rfl
def iU:ACode:=(Q (Q (R [m 7 6,m 8 0,zln 9 8,zbv .lss 10 3 7 9,m 11 10,zg 12 11 T (.mv (.t 0)),zg 13 11 T (.mv (.t 6)),zg 14 11 T (X 1 (.t 12) (.t 13)),zg 15 11 T (L O (.t 14)),zg 16 11 T (.mv (.t 1)),zg 17 11 T (.bin .lss 9 F (.t 15) (.t 16)),zpf 18 11 17])
 (C (.t 18) .skip (.exit 0)))
 (.block 1 (Q (R [m 19 5,m 20 0,m 21 6,zX 22 1 20 21,l 23 22,zo 24 (.buildSlice 1 1 [V (G ⟨#[]⟩)] [(0,1,(.t 23))]),zo 25 (A 1 16 (.t 19) (.t 24)),m 5 25])
 (R [m 26 6,zbk .add 27 3 26 1,m 6 27]))))
def pW:ACode:=.loop iU
def f79:ACode:=(Q (R [zns 4])
 (Q (R [zns 5])
 (Q (R [n 6 0])
 (Q (.block 0 pW)
 (Q (R [m 28 5,m 29 1,zo 30 (.buildSlice 1 1 [V (G ⟨#[]⟩)] [(0,1,(.t 29))]),zo 31 (A 1 16 (.t 28) (.t 30)),m 5 31])
 (Q (Q (R [m 32 6,m 33 0,zln 34 33,zbv .lss 35 3 32 34,m 36 35,zg 37 36 T (.mv (.t 0)),zg 38 36 T (.mv (.t 6)),zg 39 36 T (X 1 (.t 37) (.t 38)),zg 40 36 T (L O (.t 39)),zg 41 36 T (.mv (.t 1)),zg 42 36 T (.bin .eql 9 F (.t 40) (.t 41)),zpf 43 36 42])
 (C (.t 43) (R [m 44 6,zbk .add 45 3 44 1,m 6 45]) .skip))
 (Q (R [m 46 5,m 47 0,m 48 6,zo 49 (.sliceS 1 (.t 47) (S (.t 48)) O O),zo 50 (A 1 16 (.t 46) (.t 49)),m 5 50])
 (Q (R [m 51 5,m 4 51])
 .ret))))))))
def zd:AFun:=⟨f79,[.tmp 4]⟩
theorem Lu:funOf i3 79=some zd:=by kernel_rfl
def iT:ACode:=(Q (Q (R [m 24 8,zD 25 4 3,l 26 25,zln 27 26,zbv .lss 28 3 24 27,m 29 28,zg 30 29 T (D 0 (.t 3)),zg 31 29 T (L O (.t 30)),zg 32 29 T (.bin .eql 40 T (.t 31) (.c (V (I .i64 6)))),zpf 33 29 32])
 (C (.t 33) .skip (.exit 0)))
 (Q (.block 1 (R [m 36 7,zD 37 4 3,l 38 37,m 39 8,zX 40 10 38 39,zD 41 0 40,l 42 41,zo 43 (.buildSlice 1 1 [V (G ⟨#[]⟩)] [(0,1,(.t 42))]),zo 44 (A 1 16 (.t 36) (.t 43)),m 7 44]))
 (R [m 34 8,zbk .add 35 3 34 1,m 8 35])))
def mB:ACode:=.loop iT
def f80:ACode:=(Q (R [zbx 3 0,zns 6])
 (Q (R [zo 9 (.buildSlice 1 0 [] []),m 10 2,zo 11 (A 1 16 (.t 9) (.t 10)),m 7 11])
 (Q (Q (R [zD 12 0 3,l 13 12,zbk .eql 14 40 13 7,m 15 14,zg 16 15 T (.mv (.t 1)),zg 17 15 T (.bin .gtr 3 T (.t 16) (.c (V (I .i64 0)))),zpf 18 15 17])
 (C (.t 18) (R [m 19 7,zD 20 1 3,l 21 20,zo 22 (.buildSlice 1 1 [V (G ⟨#[]⟩)] [(0,1,(.t 21))]),zo 23 (A 1 16 (.t 19) (.t 22)),m 7 23]) .skip))
 (Q (Q (R [n 8 0])
 (.block 0 mB))
 (Q (R [m 45 7,m 6 45])
 .ret)))))
def za:AFun:=⟨f80,[.tmp 6]⟩
theorem Lt:funOf i3 80=some za:=by kernel_rfl
def f83:ACode:=(Q (R [zbx 1 0,zns 2])
 (Q (R [zo 4 (.call 73 [.c (V (.slice O 0 0))]),zo 3 (.alloc [V (.pointer O)]),⟨O,O,.store 1 (.t 3) (.t 4)⟩])
 (Q (R [zL 5 7 1,zo 6 (.mkFunc (.func 121) [] [.t 3]),zo 7 (.call 120 [.t 5,.c (V (.slice O 0 0)),.t 6])])
 (Q (R [l 8 3,zc1 9 77 8,m 2 9])
 .ret))))
def uO:AFun:=⟨f83,[.tmp 2]⟩
theorem Ls:funOf i3 83=some uO:=by kernel_rfl
def gx:ACode:=(Q (Q (R [m 16 6,m 17 0,zln 18 17,zbv .lss 19 3 16 18])
 (C (.t 19) .skip (.exit 0)))
 (Q (.block 1 (Q (R [m 22 0,m 23 6,zX 24 1 22 23,l 25 24,m 7 25])
 (Q (R [m 26 1,m 27 7,zo 28 (.callv (.t 26) [.t 27]),zun 29 28])
 (C (.t 29) (Q (R [m 30 0,m 31 5,m 32 7,zX 33 1 30 31,⟨O,O,.store 1 (.t 33) (.t 32)⟩])
 (R [m 34 5,zbk .add 35 3 34 1,m 5 35])) .skip))))
 (R [m 20 6,zbk .add 21 3 20 1,m 6 21])))
def kh:ACode:=.loop gx
def f109:ACode:=(Q (R [zns 4])
 (Q (R [m 8 0,m 9 1,zc2 10 70 8 9,m 5 10])
 (Q (Q (R [m 11 5,zbk .eql 12 3 11 (-1)])
 (C (.t 12) (Q (R [m 13 0,m 4 13])
 .ret) .skip))
 (Q (Q (R [m 14 5,zbk .add 15 3 14 1,m 6 15])
 (.block 0 kh))
 (Q (R [m 36 0,m 37 5,zo 38 (.sliceS 1 (.t 36) (S (.t 37)) O O),⟨O,O,.clearS 1 [V (G ⟨#[]⟩)] (.t 38)⟩])
 (Q (R [m 39 0,m 40 5,zo 41 (.sliceS 1 (.t 39) O (S (.t 40)) O),m 4 41])
 .ret))))))
def wL:AFun:=⟨f109,[.tmp 4]⟩
theorem Hp:funOf i3 109=some wL:=by kernel_rfl
def f110:ACode:=(Q (R [zbf 4])
 (Q (R [zD 5 1 1,l 6 5,m 7 0,zc2 8 48 6 7,zbk .geq 9 3 8 0,m 10 9,zg 11 10 F (L (S 6) (.t 2)),zg 12 10 F (.mv (.t 0)),zg 13 10 F (.call 23 [.t 11,.t 12]),zg 14 10 F (.bin .lss 3 T (.t 13) (.c (V (I .i64 0)))),zpt 15 10 14,m 4 15])
 .ret))
def qC:AFun:=⟨f110,[.tmp 4]⟩
theorem Ho:funOf i3 110=some qC:=by kernel_rfl
def f112:ACode:=(Q (R [zbx 1 0,zns 2])
 (Q (R [zo 3 (.alloc [V (.slice O 0 0)])])
 (Q (R [zL 4 7 1,zo 5 (.mkFunc (.func 165) [] [.t 3]),zo 6 (.call 120 [.t 4,.c (V (.slice O 0 0)),.t 5])])
 (Q (R [l 7 3,m 2 7])
 .ret))))
def wK:AFun:=⟨f112,[.tmp 2]⟩
theorem Hn:funOf i3 112=some wK:=by kernel_rfl
def f113:ACode:=(Q (R [zbf 3])
 (Q (R [zD 4 1 1,l 5 4,m 6 0,zc2 7 48 5 6,zbk .geq 8 3 7 0,m 3 8])
 .ret))
def wJ:AFun:=⟨f113,[.tmp 3]⟩
theorem Hm:funOf i3 113=some wJ:=by kernel_rfl
def kg:List DOp:=[⟨zL 30 7 7,[7],[]⟩,⟨m 31 1,[1],[0]⟩,⟨zc1 32 60 31,[31],[0]⟩,⟨zL 33 7 3,[3],[0,1,2]⟩,⟨m 34 6,[6],[0,1,2,3]⟩,⟨zc2 35 173 33 34,[33,34],[0]⟩,⟨zo 36 (A 1 16 (.t 32) (.t 35)),[32,35],[0]⟩,⟨m 37 2,[2],[0,1,2,3,4,5,6]⟩,⟨zo 38 (.call 120 [.t 30,.t 36,.t 37]),[30,36,37],[]⟩]
def wI:ACode:=.draw kg
def gv:ACode:=(Q (R [zbv .lss 26 3 25 24])
 (Q (C (.t 26) .skip (.exit 0))
 (Q (.block 1 (Q (R [m 27 25,zX 28 7 23 25,zL 29 7 28,zo 7 (.alloc [V (I .i64 0),V (G ⟨#[]⟩),V (I .i64 0),V (.slice O 0 0),V (.slice O 0 0),V (.slice O 0 0),V (.slice O 0 0)]),m 6 27,⟨O,O,.store 7 (.t 7) (.t 29)⟩])
 wI))
 (R [zbk .add 39 3 25 1,m 25 39]))))
def gt:ACode:=.loop gv
def kf:List DOp:=[⟨zD 47 2 9,[9],[]⟩,⟨zL 48 7 47,[47],[]⟩,⟨m 49 1,[1],[0,1]⟩,⟨zc1 50 60 49,[49],[0,1]⟩,⟨zD 51 1 9,[9],[0,1,2,3]⟩,⟨l 52 51,[51],[0,1,2,3]⟩,⟨zo 53 (A 1 16 (.t 50) (.t 52)),[50,52],[0,1]⟩,⟨m 54 2,[2],[0,1,2,3,4,5,6]⟩,⟨zo 55 (.call 120 [.t 48,.t 53,.t 54]),[48,53,54],[]⟩]
def wH:ACode:=.draw kf
def gu:ACode:=(Q (R [zbv .lss 44 3 43 42])
 (Q (C (.t 44) .skip (.exit 2))
 (Q (.block 3 (Q (R [zX 45 9 41 43,zL 46 9 45,zo 9 (.alloc [V (G ⟨#[]⟩),V (.slice O 0 0),V (I .i64 0),V (G ⟨#[]⟩),V (I .i64 0),V (.slice O 0 0),V (.slice O 0 0),V (.slice O 0 0),V (.slice O 0 0)]),⟨O,O,.store 9 (.t 9) (.t 46)⟩])
 wH))
 (R [zbk .add 56 3 43 1,m 43 56]))))
def gp:ACode:=.loop gu
def f120:ACode:=(Q (R [zbx 3 0])
 (Q (Q (R [zL 10 7 3,zc1 11 172 10,m 12 11,zg 13 12 T (.mv (.t 1)),zg 14 12 T (D 1 (.t 3)),zg 15 12 T (L O (.t 14)),zg 16 12 T (.call 48 [.t 13,.t 15]),zg 17 12 T (.bin .lss 3 T (.t 16) (.c (V (I .i64 0)))),zpf 18 12 17])
 (C (.t 18) (R [m 19 2,zL 20 7 3,zo 21 (.callv (.t 19) [.t 20])]) .skip))
 (Q (Q (R [zD 22 3 3,l 23 22,zln 24 23,n 25 0])
 (.block 0 gt))
 (Q (R [zD 40 5 3,l 41 40,zln 42 41,n 43 0])
 (.block 2 gp)))))
def Hk:AFun:=⟨f120,[]⟩
theorem Hj:funOf i3 120=some Hk:=by kernel_rfl
def f121:ACode:=(Q (R [zbx 2 0])
 (R [l 3 1,zD 4 1 2,l 5 4,zo 6 (.buildSlice 1 1 [V (G ⟨#[]⟩)] [(0,1,(.t 5))]),zc2 7 76 3 6]))
def wG:AFun:=⟨f121,[]⟩
theorem Hi:funOf i3 121=some wG:=by kernel_rfl
def f165:ACode:=(Q (R [zbx 2 0])
 (Q (R [zD 3 0 2,l 4 3,zbk .eql 5 40 4 5])
 (C (.t 5) (R [l 6 1,zD 7 1 2,l 8 7,zo 9 (.buildSlice 1 1 [V (G ⟨#[]⟩)] [(0,1,(.t 8))]),zo 10 (A 1 16 (.t 6) (.t 9)),⟨O,O,.store 1 (.t 1) (.t 10)⟩]) .skip)))
def pu:AFun:=⟨f165,[]⟩
theorem Hh:funOf i3 165=some pu:=by kernel_rfl
def f172:ACode:=(Q (R [zbx 1 0,zbf 2])
 (Q (R [zD 3 0 1,l 4 3,zbk .eql 5 40 4 3,m 6 5,zg 7 6 F (D 0 (.t 1)),zg 8 6 F (L O (.t 7)),zg 9 6 F (.bin .eql 40 T (.t 8) (.c (V (I .i64 5)))),zpt 10 6 9,m 2 10])
 .ret))
def pq:AFun:=⟨f172,[.tmp 2]⟩
theorem Hg:funOf i3 172=some pq:=by kernel_rfl
def f173:ACode:=(Q (R [zbx 2 0,zns 4])
 (Q (.block 0 (Q (R [zD 6 0 2,l 7 6,zbk .eql 8 40 7 7,m 9 8,zg 10 9 T (.mv (.t 1)),zg 11 9 T (.bin .gtr 3 T (.t 10) (.c (V (I .i64 0)))),zpf 12 9 11,m 5 12])
 (C (.t 5) (Q (R [zD 13 1 2,l 14 13,zo 15 (.buildSlice 1 1 [V (G ⟨#[]⟩)] [(0,1,(.t 14))]),m 4 15])
 .ret) (Q (R [zD 17 0 2,l 18 17,zbk .eql 19 40 18 6,m 16 19])
 (C (.t 16) (Q (R [zD 20 4 2,l 21 20,zc1 22 258 21,m 4 22])
 .ret) .skip)))))
 (Q (R [zns 4])
 .ret)))
def gn:AFun:=⟨f173,[.tmp 4]⟩
theorem wF:funOf i3 173=some gn:=by kernel_rfl
def gj:ACode:=(Q (R [zbv .lss 9 3 8 7])
 (Q (C (.t 9) .skip (.exit 0))
 (Q (.block 1 (Q (R [zX 10 10 6 8,zL 11 10 10,zo 5 (.alloc [V (G ⟨#[]⟩),V (I .i64 0),V (G ⟨#[]⟩),V (.slice O 0 0),V (.slice O 0 0),V (I .i64 0),V (G ⟨#[]⟩),V (I .i64 0),V (.slice O 0 0),V (.slice O 0 0)]),⟨O,O,.store 10 (.t 5) (.t 11)⟩])
 (R [m 12 3,zD 13 0 5,l 14 13,zo 15 (.buildSlice 1 1 [V (G ⟨#[]⟩)] [(0,1,(.t 14))]),zo 16 (A 1 16 (.t 12) (.t 15)),m 3 16])))
 (R [zbk .add 17 3 8 1,m 8 17]))))
def ke:ACode:=.loop gj
def f258:ACode:=(Q (R [zns 2])
 (Q (R [zns 3])
 (Q (Q (R [m 6 0,zln 7 6,n 8 0])
 (.block 0 ke))
 (Q (R [m 18 3,m 2 18])
 .ret))))
def wE:AFun:=⟨f258,[.tmp 2]⟩
theorem Hf:funOf i3 258=some wE:=by kernel_rfl
end Go.Proofs.YtkmoeaplhnabcaaGreatDoor
