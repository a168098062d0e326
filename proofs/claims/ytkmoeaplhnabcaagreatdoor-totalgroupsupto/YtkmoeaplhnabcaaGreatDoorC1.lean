/- TCodes -/
import Derived.Test.YtkmoeaplhnabcaaGreatDoorU0
import Derived.Test.YtkmoeaplhnabcaaGreatDoorE1
import Derived.Test.YtkmoeaplhnabcaaGreatDoorW1

set_option linter.all false
open Go.Proofs.Tryz renaming prog → i3
namespace Go.Proofs.YtkmoeaplhnabcaaGreatDoor
open Go Go.AM
abbrev m(d a:Nat):AOper:=⟨some d,none,.mv (.t a)⟩
abbrev n(d:Nat)(k:Int):AOper:=⟨some d,none,.mv (.c (.val (.int .i64 k)))⟩
abbrev zbf(d:Nat):AOper:=⟨some d,none,.mv (.c (.val (.bool false)))⟩
abbrev zbt(d:Nat):AOper:=⟨some d,none,.mv (.c (.val (.bool true)))⟩
abbrev zns(d:Nat):AOper:=⟨some d,none,.mv (.c (.val (.slice none 0 0)))⟩
abbrev l(d a:Nat):AOper:=⟨some d,none,.load none (.t a)⟩
abbrev zL(d k a:Nat):AOper:=⟨some d,none,.load (some k) (.t a)⟩
abbrev zD(d k a:Nat):AOper:=⟨some d,none,.fieldAddr k (.t a)⟩
abbrev zln(d a:Nat):AOper:=⟨some d,none,.lenS (.t a)⟩
abbrev zX(d k a b:Nat):AOper:=⟨some d,none,.idxAddrS k (.t a) (.t b)⟩
abbrev zc1(d f a:Nat):AOper:=⟨some d,none,.call f [.t a]⟩
abbrev zc2(d f a b:Nat):AOper:=⟨some d,none,.call f [.t a,.t b]⟩
abbrev zbx(d a:Nat):AOper:=⟨some d,none,.box (.t a)⟩
abbrev zpf(d a b:Nat):AOper:=⟨some d,none,.pick (.t a) (.t b) (.c (.val (.bool false)))⟩
abbrev zpt(d a b:Nat):AOper:=⟨some d,none,.pick (.t a) (.c (.val (.bool true))) (.t b)⟩
abbrev zex(d k a:Nat):AOper:=⟨some d,none,.extract k (.t a)⟩
abbrev zun(d a:Nat):AOper:=⟨some d,none,.un .not (.t a)⟩
abbrev zbk(o:BinOp)(d t a:Nat)(k:Int):AOper:=⟨some d,none,.bin o t true (.t a) (.c (.val (.int .i64 k)))⟩
abbrev zbv(o:BinOp)(d t a b:Nat):AOper:=⟨some d,none,.bin o t false (.t a) (.t b)⟩
abbrev zo(d:Nat)(p:AOp):AOper:=⟨some d,none,p⟩
abbrev zg(d g:Nat)(b:Bool)(p:AOp):AOper:=⟨some d,some (g,b),p⟩
open Option renaming some → S, none → O
open Bool renaming true → T, false → F
open Go.AM.ACode renaming region → R, seq → Q, cond → C
open Go.AM.AOp renaming fieldAddr → D, idxAddrS → X, load → L, append → A
open Go.AM.AV renaming val → V
open Go.Value renaming int → I, string → G
def Ha:List DOp:=[⟨zL 17 6 2,[2],[]⟩,⟨zc1 18 7 17,[17],[]⟩,⟨zL 19 6 2,[2],[0,1]⟩,⟨zc1 20 8 19,[19],[]⟩,⟨m 5 18,[18],[]⟩,⟨m 6 20,[20],[]⟩]
def Nd:ACode:=.draw Ha
def Gz:List DOp:=[⟨m 32 5,[5],[]⟩,⟨m 33 7,[7],[0]⟩,⟨zX 34 1 32 33,[32,33],[]⟩,⟨l 35 34,[34],[]⟩,⟨m 36 6,[6],[0,1,2,3]⟩,⟨m 37 7,[7],[0,1,2,3,4]⟩,⟨zX 38 1 36 37,[36,37],[0,1,2,3]⟩,⟨l 39 38,[38],[0,1,2,3]⟩,⟨zc2 40 9 35 39,[35,39],[]⟩,⟨zun 41 40,[40],[]⟩]
def Nc:ACode:=.draw Gz
def uB:ACode:=(Q (Q (R [m 26 7,m 27 5,zln 28 27,zbv .lss 29 3 26 28])
 (C (.t 29) .skip (.exit 0)))
 (Q (.block 1 (Q Nc
 (C (.t 41) (Q (R [zbf 4])
 .ret) .skip)))
 (R [m 30 7,zbk .add 31 3 30 1,m 7 31])))
def xi:ACode:=.loop uB
def Gy:List DOp:=[⟨zL 42 6 2,[2],[]⟩,⟨m 43 1,[1],[0]⟩,⟨zc2 44 10 42 43,[42,43],[]⟩,⟨zL 45 6 2,[2],[0,1,2]⟩,⟨m 46 1,[1],[0,1,2,3]⟩,⟨zc2 47 11 45 46,[45,46],[]⟩,⟨zbv .eql 48 4 44 47,[44,47],[]⟩,⟨m 49 48,[48],[]⟩,⟨zg 50 49 T (.call 6 []),[49],[]⟩,⟨zpf 51 49 50,[49,50],[]⟩,⟨m 4 51,[51],[]⟩]
def Nb:ACode:=.draw Gy
def f3:ACode:=(Q (R [zbx 2 0,zbf 4])
 (Q (Q (R [zL 8 6 2,zc1 9 5 8,zun 10 9,m 11 10,zg 12 11 F (.mv (.t 1)),zg 13 11 F (.lenStr (.t 12)),zg 14 11 F (.bin .gtr 3 T (.t 13) (.c (V (I .i64 100)))),zpt 15 11 14])
 (C (.t 15) (Q (R [zo 16 (.call 6 []),m 4 16])
 .ret) .skip))
 (Q Nd
 (Q (Q (R [m 21 5,zln 22 21,m 23 6,zln 24 23,zbv .neq 25 3 22 24])
 (C (.t 25) (Q (R [zbf 4])
 .ret) .skip))
 (Q (Q (R [n 7 0])
 (.block 0 xi))
 (Q Nb
 .ret))))))
def xj:AFun:=⟨f3,[.tmp 4]⟩
theorem Xo:funOf i3 3=some xj:=by kernel_rfl
def Xd:List DOp:=[⟨zL 37 6 1,[1],[]⟩,⟨m 38 3,[3],[0]⟩,⟨m 39 5,[5],[0,1]⟩,⟨zX 40 1 38 39,[38,39],[0]⟩,⟨l 41 40,[40],[0]⟩,⟨m 42 6,[6],[0,1,2,3,4]⟩,⟨zX 43 1 41 42,[41,42],[0]⟩,⟨l 44 43,[43],[0]⟩,⟨zc2 45 12 37 44,[37,44],[]⟩,⟨m 7 45,[45],[]⟩]
def Xj:ACode:=.draw Xd
def Xc:List DOp:=[⟨m 52 4,[4],[]⟩,⟨m 53 7,[7],[0]⟩,⟨m 54 8,[8],[0,1]⟩,⟨zX 55 1 53 54,[53,54],[0]⟩,⟨l 56 55,[55],[0]⟩,⟨zc2 57 13 52 56,[52,56],[]⟩,⟨zbk .lss 58 3 57 0,[57],[]⟩,⟨m 59 58,[58],[]⟩,⟨zg 60 59 T (L (S 6) (.t 1)),[1,59],[]⟩,⟨zg 61 59 T (.mv (.t 7)),[7,59],[8]⟩,⟨zg 62 59 T (.mv (.t 8)),[8,59],[8,9]⟩,⟨zg 63 59 T (X 1 (.t 61) (.t 62)),[61,62,59],[8]⟩,⟨zg 64 59 T (L O (.t 63)),[63,59],[8]⟩,⟨zg 65 59 T (.call 12 [.t 60,.t 64]),[60,64,59],[]⟩,⟨zg 66 59 T (.mv (.t 3)),[3,59],[8,9,10,11,12,13]⟩,⟨zg 67 59 T (.mv (.t 5)),[5,59],[8,9,10,11,12,13,14]⟩,⟨zg 68 59 T (X 1 (.t 66) (.t 67)),[66,67,59],[8,9,10,11,12,13]⟩,⟨zg 69 59 T (L O (.t 68)),[68,59],[8,9,10,11,12,13]⟩,⟨zg 70 59 T (.mv (.t 6)),[6,59],[8,9,10,11,12,13,14,15,16,17]⟩,⟨zg 71 59 T (X 1 (.t 69) (.t 70)),[69,70,59],[8,9,10,11,12,13]⟩,⟨zg 72 59 T (L O (.t 71)),[71,59],[8,9,10,11,12,13]⟩,⟨zg 73 59 T (.call 13 [.t 65,.t 72]),[65,72,59],[]⟩,⟨zg 74 59 T (.bin .lss 3 T (.t 73) (.c (V (I .i64 0)))),[73,59],[]⟩,⟨zpf 75 59 74,[59,74],[]⟩]
def Xi:ACode:=.draw Xc
def Xn:ACode:=(Q (Q (R [m 46 8,m 47 7,zln 48 47,zbv .lss 49 3 46 48])
 (C (.t 49) .skip (.exit 4)))
 (Q (.block 5 (Q Xi
 (C (.t 75) (Q (R [zbf 2])
 .ret) .skip)))
 (R [m 50 8,zbk .add 51 3 50 1,m 8 51])))
def Xh:ACode:=.loop Xn
def Xm:ACode:=(Q (Q (R [m 28 6,m 29 3,m 30 5,zX 31 1 29 30,l 32 31,zln 33 32,zbv .lss 34 3 28 33])
 (C (.t 34) .skip (.exit 2)))
 (Q (.block 3 (Q Xj
 (Q (R [n 8 0])
 (.block 4 Xh))))
 (R [m 35 6,zbk .add 36 3 35 1,m 6 36])))
def Xg:ACode:=.loop Xm
def Xl:ACode:=(Q (Q (R [m 16 5,m 17 3,zln 18 17,zbv .lss 19 3 16 18])
 (C (.t 19) .skip (.exit 0)))
 (Q (.block 1 (Q (R [m 22 4,m 23 3,m 24 5,zX 25 1 23 24,l 26 25,zo 27 (A 1 16 (.t 22) (.t 26)),m 4 27])
 (Q (R [n 6 0])
 (.block 2 Xg))))
 (R [m 20 5,zbk .add 21 3 20 1,m 5 21])))
def Xf:ACode:=.loop Xl
def Xk:ACode:=(Q (Q (R [m 87 9,zD 88 5 1,l 89 88,zln 90 89,zbv .lss 91 3 87 90])
 (C (.t 91) .skip (.exit 6)))
 (Q (.block 7 (Q (R [m 94 4,zD 95 5 1,l 96 95,m 97 9,zX 98 25 96 97,zD 99 0 98,l 100 99,zc2 101 13 94 100,zbk .lss 102 3 101 0])
 (C (.t 102) (Q (R [zbf 2])
 .ret) .skip)))
 (R [m 92 9,zbk .add 93 3 92 1,m 9 93])))
def Xe:ACode:=.loop Xk
def f4:ACode:=(Q (R [zbx 1 0,zbf 2])
 (Q (Q (R [zL 10 6 1,zc1 11 5 10,zun 12 11])
 (C (.t 12) (Q (R [zo 13 (.call 6 []),m 2 13])
 .ret) .skip))
 (Q (R [zL 14 6 1,zc1 15 7 14,m 3 15])
 (Q (R [zns 4])
 (Q (Q (R [n 5 0])
 (.block 0 Xf))
 (Q (Q (R [m 76 4,zln 77 76,zD 78 5 1,l 79 78,zln 80 79,zbv .neq 81 3 77 80,m 82 81,zg 83 82 F (.mv (.t 4)),zg 84 82 F (.call 14 [.t 83]),zg 85 82 F (.un .not (.t 84)),zpt 86 82 85])
 (C (.t 86) (Q (R [zbf 2])
 .ret) .skip))
 (Q (Q (R [n 9 0])
 (.block 6 Xe))
 (Q (R [zo 103 (.call 6 []),m 2 103])
 .ret))))))))
def Gf:List DOp:=[⟨m 38 3,[3],[]⟩,⟨zD 39 5 1,[1],[0]⟩,⟨l 40 39,[39],[0]⟩,⟨m 41 5,[5],[0,1,2]⟩,⟨zX 42 25 40 41,[40,41],[0]⟩,⟨zD 43 1 42,[42],[0]⟩,⟨l 44 43,[43],[0]⟩,⟨zln 45 44,[44],[0]⟩,⟨zbv .add 46 3 38 45,[38,45],[]⟩,⟨zD 47 5 1,[1],[0,1,2,3,4,5,6,7,8]⟩,⟨l 48 47,[47],[0,1,2,3,4,5,6,7,8]⟩,⟨m 49 5,[5],[0,1,2,3,4,5,6,7,8,9,10]⟩,⟨zX 50 25 48 49,[48,49],[0,1,2,3,4,5,6,7,8]⟩,⟨zD 51 2 50,[50],[0,1,2,3,4,5,6,7,8]⟩,⟨zL 52 7 51,[51],[0,1,2,3,4,5,6,7,8]⟩,⟨zo 53 (.call 15 [.t 52,.c (V (I .i64 1500))]),[52],[0,1,2,3,4,5,6,7,8]⟩,⟨zbv .add 54 3 46 53,[46,53],[]⟩,⟨m 3 54,[54],[]⟩]
def Na:ACode:=.draw Gf
def lD:ACode:=(Q (Q (R [m 6 5,zD 7 5 1,l 8 7,zln 9 8,zbv .lss 10 3 6 9,m 11 10,zg 12 11 T (.mv (.t 3)),zg 13 11 T (.bin .leq 3 T (.t 12) (.c (V (I .i64 1500)))),zpf 14 11 13])
 (C (.t 14) .skip (.exit 0)))
 (Q (.block 1 (Q (Q (R [m 17 5,zbk .geq 18 3 17 20,m 19 18,zg 20 19 F (D 5 (.t 1)),zg 21 19 F (L O (.t 20)),zg 22 19 F (.mv (.t 5)),zg 23 19 F (X 25 (.t 21) (.t 22)),zg 24 19 F (D 0 (.t 23)),zg 25 19 F (L O (.t 24)),zg 26 19 F (.lenStr (.t 25)),zg 27 19 F (.bin .gtr 3 T (.t 26) (.c (V (I .i64 100)))),zpt 28 19 27])
 (C (.t 28) (Q (R [zbf 2])
 .ret) .skip))
 (Q (R [m 29 4,zD 30 5 1,l 31 30,m 32 5,zX 33 25 31 32,zD 34 0 33,l 35 34,zo 36 (.buildSlice 1 1 [V (G ⟨#[]⟩)] [(0,1,(.t 35))]),zo 37 (A 1 16 (.t 29) (.t 36)),m 4 37])
 Na)))
 (R [m 15 5,zbk .add 16 3 15 1,m 5 16])))
def xg:ACode:=.loop lD
def f5:ACode:=(Q (R [zbx 1 0,zbf 2])
 (Q (R [n 3 0])
 (Q (R [zns 4])
 (Q (Q (R [n 5 0])
 (.block 0 xg))
 (Q (R [m 55 3,zbk .leq 56 3 55 1500,m 57 56,zg 58 57 T (.mv (.t 4)),zg 59 57 T (.call 14 [.t 58]),zpf 60 57 59,m 2 60])
 .ret)))))
def Mz:AFun:=⟨f5,[.tmp 2]⟩
theorem Xb:funOf i3 5=some Mz:=by kernel_rfl
def Fm:List DOp:=[⟨zL 25 6 1,[1],[]⟩,⟨m 26 7,[7],[0]⟩,⟨zo 27 (X 1 (.t 26) (.c (V (I .i64 0)))),[26],[0]⟩,⟨l 28 27,[27],[0]⟩,⟨zc2 29 23 25 28,[25,28],[]⟩,⟨m 30 5,[5],[0,1,2,3,4]⟩,⟨zbv .eql 31 3 29 30,[29,30],[]⟩]
def Mv:ACode:=.draw Fm
def tj:ACode:=(Q (R [zbv .lss 17 3 16 15])
 (Q (C (.t 17) .skip (.exit 0))
 (Q (.block 1 (Q (R [m 18 16,zX 19 25 14 16,zL 20 25 19,zo 6 (.alloc [V (G ⟨#[]⟩),V (.slice O 0 0),V (I .i64 0),V (G ⟨#[]⟩),V (I .i64 0),V (.slice O 0 0),V (.slice O 0 0),V (.slice O 0 0),V (.slice O 0 0),V (I .i64 0),V (.bool F),V (.slice O 0 0),V (.slice O 0 0),V (.slice O 0 0),V (.slice O 0 0),V (I .i64 0),V (G ⟨#[]⟩),V (.slice O 0 0),V (.slice O 0 0),V (I .i64 0),V (G ⟨#[]⟩),V (I .i64 0),V (.slice O 0 0),V (.slice O 0 0),V (.slice O 0 0)]),m 5 18,⟨O,O,.store 25 (.t 6) (.t 20)⟩])
 (Q (R [zL 21 6 1,zD 22 0 6,l 23 22,zc2 24 22 21 23,m 7 24])
 (Q Mv
 (C (.t 31) (R [m 32 3,m 33 7,zo 34 (.buildSlice 1 1 [V (.slice O 0 0)] [(0,1,(.t 33))]),zo 35 (A 1 24 (.t 32) (.t 34)),m 3 35]) .skip)))))
 (R [zbk .add 36 3 16 1,m 16 36]))))
def xe:ACode:=.loop tj
def lA:ACode:=(Q (R [zbv .lss 50 3 49 48])
 (Q (C (.t 50) .skip (.exit 6))
 (Q (.block 7 (Q (R [m 51 49,zX 52 1 47 49,l 53 52,m 11 51,m 12 53])
 (R [m 54 10,m 55 54,zg 56 55 F (.mv (.t 11)),zg 57 55 F (.mv (.t 8)),zg 58 55 F (.bin .neq 3 F (.t 56) (.t 57)),zg 59 55 F (.mv (.t 58)),zg 60 59 T (L (S 6) (.t 1)),zg 61 59 T (.mv (.t 9)),zg 62 59 T (.mv (.t 12)),zg 63 59 T (.call 24 [.t 60,.t 61,.t 62]),zg 64 55 F (.pick (.t 59) (.t 63) (.c (V (.bool F)))),zg 65 55 F (.mv (.t 64)),zg 66 65 T (L (S 6) (.t 1)),zg 67 65 T (.mv (.t 12)),zg 68 65 T (.mv (.t 9)),zg 69 65 T (.call 24 [.t 66,.t 67,.t 68]),zg 70 65 T (.un .not (.t 69)),zg 71 55 F (.pick (.t 65) (.t 70) (.c (V (.bool F)))),zpt 72 55 71,m 10 72])))
 (R [zbk .add 73 3 49 1,m 49 73]))))
def te:ACode:=.loop lA
def th:ACode:=(Q (R [zbv .lss 43 3 42 41])
 (Q (C (.t 43) .skip (.exit 4))
 (Q (.block 5 (Q (R [m 44 42,zX 45 1 40 42,l 46 45,m 8 44,m 9 46])
 (Q (R [zbf 10])
 (Q (Q (R [m 47 3,zln 48 47,n 49 0])
 (.block 6 te))
 (Q (Q (R [m 74 10])
 (C (.t 74) (.exit 5) .skip))
 (Q (R [m 75 4,m 76 9,zo 77 (.buildSlice 1 1 [V (.slice O 0 0)] [(0,1,(.t 76))]),zo 78 (A 1 24 (.t 75) (.t 77)),m 4 78])
 (Q (R [m 79 3,m 80 8,m 81 8,zbk .add 82 3 81 1,zo 83 (.call 25 [.t 79,.t 80,.t 82]),m 3 83])
 (.exit 3))))))))
 (R [zbk .add 84 3 42 1,m 42 84]))))
def xd:ACode:=.loop th
def tf:ACode:=(Q (Q (R [m 37 3,zln 38 37,zbk .gtr 39 3 38 0])
 (C (.t 39) .skip (.exit 2)))
 (.block 3 (Q (Q (R [m 40 3,zln 41 40,n 42 0])
 (.block 4 xd))
 (.exit 2))))
def xc:ACode:=.loop tf
def f7:ACode:=(Q (R [zbx 1 0,zns 2])
 (Q .skip
 (Q (R [zns 3,zns 4])
 (Q (Q (R [zD 13 5 1,l 14 13,zln 15 14,n 16 0])
 (.block 0 xe))
 (Q .skip
 (Q (.block 2 xc)
 (Q (R [m 85 4,m 2 85])
 .ret)))))))
def Mu:AFun:=⟨f7,[.tmp 2]⟩
theorem Xa:funOf i3 7=some Mu:=by kernel_rfl
def Fk:List DOp:=[⟨zL 28 6 1,[1],[]⟩,⟨zD 29 5 1,[1],[0]⟩,⟨l 30 29,[29],[0]⟩,⟨m 31 6,[6],[0,1,2]⟩,⟨zX 32 25 30 31,[30,31],[0]⟩,⟨zD 33 0 32,[32],[0]⟩,⟨l 34 33,[33],[0]⟩,⟨zc2 35 27 28 34,[28,34],[]⟩,⟨m 7 35,[35],[]⟩]
def Mt:ACode:=.draw Fk
def k9:ACode:=(Q (Q (R [m 9 6,zD 10 5 1,l 11 10,zln 12 11,zbv .lss 13 3 9 12,m 14 13,zg 15 14 T (.mv (.t 5)),zg 16 14 T (.un .not (.t 15)),zpf 17 14 16])
 (C (.t 17) .skip (.exit 2)))
 (Q (.block 3 (Q (Q (R [m 20 4,zD 21 5 1,l 22 21,m 23 6,zX 24 25 22 23,zD 25 0 24,l 26 25,zc2 27 26 20 26])
 (C (.t 27) (.exit 3) .skip))
 (Q Mt
 (Q (R [zL 36 6 1,m 37 7,m 38 4,zo 39 (.call 28 [.t 36,.t 37,.t 38])])
 (C (.t 39) (Q (R [m 40 3,m 41 7,zo 42 (.buildSlice 1 1 [V (.slice O 0 0)] [(0,1,(.t 41))]),zo 43 (A 1 24 (.t 40) (.t 42)),m 3 43])
 (Q (R [m 44 4,m 45 7,zo 46 (A 1 16 (.t 44) (.t 45)),m 4 46])
 (R [zbt 5]))) .skip)))))
 (R [m 18 6,zbk .add 19 3 18 1,m 6 19])))
def tY:ACode:=.loop k9
def mq:ACode:=(Q (Q (R [m 8 5])
 (C (.t 8) .skip (.exit 0)))
 (.block 1 (Q (R [zbf 5])
 (Q (R [n 6 0])
 (.block 2 tY)))))
def tX:ACode:=.loop mq
def f8:ACode:=(Q (R [zbx 1 0,zns 2])
 (Q (R [zns 3])
 (Q (R [zns 4])
 (Q (Q (R [zbt 5])
 (.block 0 tX))
 (Q (R [m 47 3,m 2 47])
 .ret)))))
def Ms:AFun:=⟨f8,[.tmp 2]⟩
theorem Wz:funOf i3 8=some Ms:=by kernel_rfl
def Mp:List DOp:=[⟨m 17 0,[0],[]⟩,⟨m 18 5,[5],[0]⟩,⟨zX 19 1 17 18,[17,18],[]⟩,⟨l 20 19,[19],[]⟩,⟨m 21 1,[1],[0,1,2,3]⟩,⟨m 22 5,[5],[0,1,2,3,4]⟩,⟨zX 23 1 21 22,[21,22],[0,1,2,3]⟩,⟨l 24 23,[23],[0,1,2,3]⟩,⟨zbv .neq 25 9 20 24,[20,24],[]⟩]
def Mr:ACode:=.draw Mp
def tW:ACode:=(Q (Q (R [m 11 5,m 12 0,zln 13 12,zbv .lss 14 3 11 13])
 (C (.t 14) .skip (.exit 0)))
 (Q (.block 1 (Q Mr
 (C (.t 25) (Q (R [zbf 4])
 .ret) .skip)))
 (R [m 15 5,zbk .add 16 3 15 1,m 5 16])))
def xb:ACode:=.loop tW
def f9:ACode:=(Q (R [zbf 4])
 (Q (Q (R [m 6 0,zln 7 6,m 8 1,zln 9 8,zbv .neq 10 3 7 9])
 (C (.t 10) (Q (R [zbf 4])
 .ret) .skip))
 (Q (Q (R [n 5 0])
 (.block 0 xb))
 (Q (R [zbt 4])
 .ret))))
def Fi:AFun:=⟨f9,[.tmp 4]⟩
theorem Wy:funOf i3 9=some Fi:=by kernel_rfl
def f10:ACode:=(Q (R [zbx 2 0,zbf 4])
 (Q (R [zL 5 6 2,m 6 1,m 7 1,zo 8 (.call 29 [.t 5,.t 6,.t 7]),m 4 8])
 .ret))
def Hx:AFun:=⟨f10,[.tmp 4]⟩
theorem Rz:funOf i3 10=some Hx:=by kernel_rfl
def f11:ACode:=(Q (R [zbx 2 0,zbf 4])
 (Q (R [zL 5 6 2,m 6 1,m 7 1,zo 8 (.call 30 [.t 5,.t 6,.t 7]),m 4 8])
 .ret))
def Hw:AFun:=⟨f11,[.tmp 4]⟩
theorem Ry:funOf i3 11=some Hw:=by kernel_rfl
def kL:ACode:=(Q (R [zbv .lss 9 3 8 7])
 (Q (C (.t 9) .skip (.exit 0))
 (Q (.block 1 (Q (R [m 10 8,m 5 10])
 (Q (R [m 11 0,m 12 5,zX 13 1 11 12,l 14 13,m 15 1,zbv .eql 16 9 14 15])
 (C (.t 16) (Q (R [m 17 5,m 4 17])
 .ret) .skip))))
 (R [zbk .add 18 3 8 1,m 8 18]))))
def rf:ACode:=.loop kL
def f13:ACode:=(Q (R [n 4 0])
 (Q (Q (R [m 6 0,zln 7 6,n 8 0])
 (.block 0 rf))
 (Q (R [n 4 (-1)])
 .ret)))
def Hv:AFun:=⟨f13,[.tmp 4]⟩
theorem Rx:funOf i3 13=some Hv:=by kernel_rfl
def kK:ACode:=(Q (R [zbv .lss 7 3 6 5])
 (Q (C (.t 7) .skip (.exit 0))
 (Q (.block 1 (Q (R [m 8 6,m 3 8])
 (Q (R [m 9 0,m 10 0,m 11 3,zX 12 1 10 11,l 13 12,zc2 14 13 9 13,m 15 3,zbv .neq 16 3 14 15])
 (C (.t 16) (Q (R [zbf 2])
 .ret) .skip))))
 (R [zbk .add 17 3 6 1,m 6 17]))))
def re:ACode:=.loop kK
def f14:ACode:=(Q (R [zbf 2])
 (Q (Q (R [m 4 0,zln 5 4,n 6 0])
 (.block 0 re))
 (Q (R [zbt 2])
 .ret)))
def Hu:AFun:=⟨f14,[.tmp 2]⟩
theorem Rw:funOf i3 14=some Hu:=by kernel_rfl
def wW:List DOp:=[⟨zD 9 1 2,[2],[]⟩,⟨l 10 9,[9],[]⟩,⟨zo 11 (.lenStr (.t 10)),[10],[]⟩,⟨zbk .quo 12 3 11 50,[11],[]⟩,⟨zo 13 (.bin .add 3 T (.c (V (I .i64 1))) (.t 12)),[12],[]⟩,⟨zD 14 6 2,[2],[0,1,2,3,4]⟩,⟨l 15 14,[14],[0,1,2,3,4]⟩,⟨m 16 1,[1],[0,1,2,3,4,5,6]⟩,⟨zc2 17 33 15 16,[15,16],[0,1,2,3,4]⟩,⟨zbv .add 18 3 13 17,[13,17],[]⟩,⟨m 5 18,[18],[]⟩]
def Ht:ACode:=.draw wW
def gD:List DOp:=[⟨m 31 5,[5],[]⟩,⟨zbk .add 32 3 31 1,[31],[]⟩,⟨zD 33 4 2,[2],[0,1]⟩,⟨l 34 33,[33],[0,1]⟩,⟨m 35 6,[6],[0,1,2,3]⟩,⟨zX 36 10 34 35,[34,35],[0,1]⟩,⟨zD 37 0 36,[36],[0,1]⟩,⟨l 38 37,[37],[0,1]⟩,⟨zo 39 (.lenStr (.t 38)),[38],[0,1]⟩,⟨zbk .quo 40 3 39 50,[39],[0,1]⟩,⟨zbv .add 41 3 32 40,[32,40],[]⟩,⟨zD 42 4 2,[2],[0,1,2,3,4,5,6,7,8,9,10]⟩,⟨l 43 42,[42],[0,1,2,3,4,5,6,7,8,9,10]⟩,⟨m 44 6,[6],[0,1,2,3,4,5,6,7,8,9,10,11,12]⟩,⟨zX 45 10 43 44,[43,44],[0,1,2,3,4,5,6,7,8,9,10]⟩,⟨zD 46 1 45,[45],[0,1,2,3,4,5,6,7,8,9,10]⟩,⟨zL 47 9 46,[46],[0,1,2,3,4,5,6,7,8,9,10]⟩,⟨zo 48 (.buildSlice 9 1 [V (I .i64 0),V (G ⟨#[]⟩),V (.slice O 0 0),V (.slice O 0 0),V (I .i64 0),V (G ⟨#[]⟩),V (I .i64 0),V (.slice O 0 0),V (.slice O 0 0)] [(0,9,(.t 47))]),[47],[0,1,2,3,4,5,6,7,8,9,10]⟩,⟨m 49 1,[1],[0,1,2,3,4,5,6,7,8,9,10,11,12,13,14,15,16,17]⟩,⟨zc2 50 33 48 49,[48,49],[0,1,2,3,4,5,6,7,8,9,10]⟩,⟨zbv .add 51 3 41 50,[41,50],[]⟩,⟨m 5 51,[51],[]⟩]
def Hs:ACode:=.draw gD
def kJ:ACode:=(Q (Q (R [m 19 6,zD 20 4 2,l 21 20,zln 22 21,zbv .lss 23 3 19 22,m 24 23,zg 25 24 T (.mv (.t 5)),zg 26 24 T (.mv (.t 1)),zg 27 24 T (.bin .leq 3 F (.t 25) (.t 26)),zpf 28 24 27])
 (C (.t 28) .skip (.exit 0)))
 (Q (.block 1 Hs)
 (R [m 29 6,zbk .add 30 3 29 1,m 6 30])))
def rZ:ACode:=.loop kJ
def kI:ACode:=(Q (Q (R [m 52 7,zD 53 3 2,l 54 53,zln 55 54,zbv .lss 56 3 52 55,m 57 56,zg 58 57 T (.mv (.t 5)),zg 59 57 T (.mv (.t 1)),zg 60 57 T (.bin .leq 3 F (.t 58) (.t 59)),zpf 61 57 60])
 (C (.t 61) .skip (.exit 2)))
 (Q (.block 3 (R [m 64 5,zD 65 3 2,l 66 65,m 67 7,zX 68 7 66 67,zL 69 7 68,m 70 1,m 71 5,zbv .sub 72 3 70 71,zc2 73 15 69 72,zbv .add 74 3 64 73,m 5 74]))
 (R [m 62 7,zbk .add 63 3 62 1,m 7 63])))
def rY:ACode:=.loop kI
def wV:List DOp:=[⟨m 87 5,[5],[]⟩,⟨zbk .add 88 3 87 1,[87],[]⟩,⟨zD 89 5 2,[2],[0,1]⟩,⟨l 90 89,[89],[0,1]⟩,⟨m 91 8,[8],[0,1,2,3]⟩,⟨zX 92 9 90 91,[90,91],[0,1]⟩,⟨zD 93 0 92,[92],[0,1]⟩,⟨l 94 93,[93],[0,1]⟩,⟨zo 95 (.lenStr (.t 94)),[94],[0,1]⟩,⟨zbk .quo 96 3 95 50,[95],[0,1]⟩,⟨zbv .add 97 3 88 96,[88,96],[]⟩,⟨zD 98 5 2,[2],[0,1,2,3,4,5,6,7,8,9,10]⟩,⟨l 99 98,[98],[0,1,2,3,4,5,6,7,8,9,10]⟩,⟨m 100 8,[8],[0,1,2,3,4,5,6,7,8,9,10,11,12]⟩,⟨zX 101 9 99 100,[99,100],[0,1,2,3,4,5,6,7,8,9,10]⟩,⟨zD 102 1 101,[101],[0,1,2,3,4,5,6,7,8,9,10]⟩,⟨l 103 102,[102],[0,1,2,3,4,5,6,7,8,9,10]⟩,⟨m 104 1,[1],[0,1,2,3,4,5,6,7,8,9,10,11,12,13,14,15,16]⟩,⟨zc2 105 34 103 104,[103,104],[0,1,2,3,4,5,6,7,8,9,10]⟩,⟨zbv .add 106 3 97 105,[97,105],[]⟩,⟨m 5 106,[106],[]⟩]
def Hr:ACode:=.draw wV
def kH:ACode:=(Q (Q (R [m 75 8,zD 76 5 2,l 77 76,zln 78 77,zbv .lss 79 3 75 78,m 80 79,zg 81 80 T (.mv (.t 5)),zg 82 80 T (.mv (.t 1)),zg 83 80 T (.bin .leq 3 F (.t 81) (.t 82)),zpf 84 80 83])
 (C (.t 84) .skip (.exit 4)))
 (Q (.block 5 (Q Hr
 (R [m 107 5,zD 108 5 2,l 109 108,m 110 8,zX 111 9 109 110,zD 112 2 111,zL 113 7 112,m 114 1,m 115 5,zbv .sub 116 3 114 115,zc2 117 15 113 116,zbv .add 118 3 107 117,m 5 118])))
 (R [m 85 8,zbk .add 86 3 85 1,m 8 86])))
def rX:ACode:=.loop kH
def f15:ACode:=(Q (R [zbx 2 0,n 4 0])
 (Q Ht
 (Q (Q (R [n 6 0])
 (.block 0 rZ))
 (Q (Q (R [n 7 0])
 (.block 2 rY))
 (Q (Q (R [n 8 0])
 (.block 4 rX))
 (Q (R [m 119 5,m 4 119])
 .ret))))))
def Hq:AFun:=⟨f15,[.tmp 4]⟩
theorem Rv:funOf i3 15=some Hq:=by kernel_rfl
def fy:ACode:=(Q (R [zbv .lss 12 3 11 10])
 (Q (C (.t 12) .skip (.exit 0))
 (Q (.block 1 (Q (R [zX 13 25 9 11,zL 14 25 13,zo 7 (.alloc [V (G ⟨#[]⟩),V (.slice O 0 0),V (I .i64 0),V (G ⟨#[]⟩),V (I .i64 0),V (.slice O 0 0),V (.slice O 0 0),V (.slice O 0 0),V (.slice O 0 0),V (I .i64 0),V (.bool F),V (.slice O 0 0),V (.slice O 0 0),V (.slice O 0 0),V (.slice O 0 0),V (I .i64 0),V (G ⟨#[]⟩),V (.slice O 0 0),V (.slice O 0 0),V (I .i64 0),V (G ⟨#[]⟩),V (I .i64 0),V (.slice O 0 0),V (.slice O 0 0),V (.slice O 0 0)]),⟨O,O,.store 25 (.t 7) (.t 14)⟩])
 (Q (R [zD 15 0 7,l 16 15,m 17 1,zbv .eql 18 9 16 17,m 19 18,zg 20 19 F (L (S 6) (.t 2)),zg 21 19 F (.mv (.t 1)),zg 22 19 F (D 0 (.t 7)),zg 23 19 F (L O (.t 22)),zg 24 19 F (.call 29 [.t 20,.t 21,.t 23]),zpt 25 19 24])
 (C (.t 25) (R [m 26 5,zD 27 0 7,l 28 27,zo 29 (.buildSlice 1 1 [V (G ⟨#[]⟩)] [(0,1,(.t 28))]),zo 30 (A 1 16 (.t 26) (.t 29)),m 5 30]) .skip))))
 (R [zbk .add 31 3 11 1,m 11 31]))))
def nT:ACode:=.loop fy
def f22:ACode:=(Q (R [zbx 2 0,zns 4])
 (Q (R [zns 5])
 (Q (Q (R [zD 8 5 2,l 9 8,zln 10 9,n 11 0])
 (.block 0 nT))
 (Q (R [m 32 5,m 4 32])
 .ret))))
def Hp:AFun:=⟨f22,[.tmp 4]⟩
theorem Ru:funOf i3 22=some Hp:=by kernel_rfl
def f23:ACode:=(Q (R [zbx 2 0,zbx 3 1,n 4 0])
 (Q (R [zD 5 5 2,l 6 5,zo 7 (.mkFunc (.func 43) [] [.t 3]),zc2 8 42 6 7,m 4 8])
 .ret))
def Ho:AFun:=⟨f23,[.tmp 4]⟩
theorem Rt:funOf i3 23=some Ho:=by kernel_rfl
def nR:ACode:=(Q (R [zbv .lss 13 3 12 11])
 (Q (C (.t 13) .skip (.exit 0))
 (Q (.block 1 (Q (R [zX 14 1 10 12,l 15 14,m 8 15])
 (Q (R [zL 16 6 3,m 17 8,zc2 18 44 16 17,zo 9 (.alloc [V (.map O)]),⟨O,O,.store 1 (.t 9) (.t 18)⟩])
 (Q (R [m 19 2,zo 20 (.mkFunc (.func 46) [] [.t 9]),zc2 21 45 19 20])
 (C (.t 21) (Q (R [zbt 6])
 .ret) .skip)))))
 (R [zbk .add 22 3 12 1,m 12 22]))))
def rU:ACode:=.loop nR
def f24:ACode:=(Q (R [zbx 3 0,zbf 6])
 (Q (Q (R [m 10 1,zln 11 10,n 12 0])
 (.block 0 rU))
 (Q (R [zbf 6])
 .ret)))
def Hn:AFun:=⟨f24,[.tmp 6]⟩
theorem Rs:funOf i3 24=some Hn:=by kernel_rfl
def nQ:List DOp:=[⟨m 20 0,[0],[]⟩,⟨m 21 1,[1],[0]⟩,⟨zo 22 (.sliceS 1 (.t 20) O (S (.t 21)) O),[20,21],[]⟩,⟨m 23 0,[0],[0,1,2]⟩,⟨m 24 2,[2],[0,1,2,3]⟩,⟨zo 25 (.sliceS 1 (.t 23) (S (.t 24)) O O),[23,24],[0,1,2]⟩,⟨zo 26 (A 1 24 (.t 22) (.t 25)),[22,25],[]⟩,⟨m 0 26,[26],[]⟩]
def Rr:ACode:=.draw nQ
def f25:ACode:=(Q (R [zns 6])
 (Q (R [m 8 0,m 9 1,m 10 2,m 11 0,zln 12 11,zo 13 (.sliceS 1 (.t 8) (S (.t 9)) (S (.t 10)) (S (.t 12)))])
 (Q (Q (R [m 14 1,m 15 2,zbv .eql 16 3 14 15])
 (C (.t 16) (Q (R [m 17 0,m 6 17])
 .ret) .skip))
 (Q (R [m 18 0,zln 19 18,m 7 19])
 (Q Rr
 (Q (R [m 27 0,m 28 0,zln 29 28,m 30 7,zo 31 (.sliceS 1 (.t 27) (S (.t 29)) (S (.t 30)) O),⟨O,O,.clearS 1 [V (.slice O 0 0)] (.t 31)⟩])
 (Q (R [m 32 0,m 6 32])
 .ret)))))))
def Hm:AFun:=⟨f25,[.tmp 6]⟩
theorem Rq:funOf i3 25=some Hm:=by kernel_rfl
def f26:ACode:=(Q (R [zbf 4])
 (Q (R [m 5 0,m 6 1,zc2 7 13 5 6,zbk .geq 8 3 7 0,m 4 8])
 .ret))
def Hl:AFun:=⟨f26,[.tmp 4]⟩
theorem Rp:funOf i3 26=some Hl:=by kernel_rfl
def rS:List DOp:=[⟨zD 14 5 2,[2],[]⟩,⟨l 15 14,[14],[]⟩,⟨m 16 6,[6],[0,1]⟩,⟨zX 17 25 15 16,[15,16],[]⟩,⟨zD 18 0 17,[17],[]⟩,⟨l 19 18,[18],[]⟩,⟨m 20 1,[1],[0,1,2,3,4,5]⟩,⟨zbv .eql 21 9 19 20,[19,20],[]⟩,⟨m 22 21,[21],[]⟩,⟨zg 23 22 F (L (S 6) (.t 2)),[2,22],[]⟩,⟨zg 24 22 F (.mv (.t 1)),[1,22],[9]⟩,⟨zg 25 22 F (D 5 (.t 2)),[2,22],[9,10]⟩,⟨zg 26 22 F (L O (.t 25)),[25,22],[9,10]⟩,⟨zg 27 22 F (.mv (.t 6)),[6,22],[9,10,11,12]⟩,⟨zg 28 22 F (X 25 (.t 26) (.t 27)),[26,27,22],[9,10]⟩,⟨zg 29 22 F (D 0 (.t 28)),[28,22],[9,10]⟩,⟨zg 30 22 F (L O (.t 29)),[29,22],[9,10]⟩,⟨zg 31 22 F (.call 30 [.t 23,.t 24,.t 30]),[23,24,30,22],[]⟩,⟨zpt 32 22 31,[22,31],[]⟩]
def Hk:ACode:=.draw rS
def nP:ACode:=(Q (Q (R [m 7 6,zD 8 5 2,l 9 8,zln 10 9,zbv .lss 11 3 7 10])
 (C (.t 11) .skip (.exit 0)))
 (Q (.block 1 (Q Hk
 (C (.t 32) (R [m 33 5,zD 34 5 2,l 35 34,m 36 6,zX 37 25 35 36,zD 38 0 37,l 39 38,zo 40 (.buildSlice 1 1 [V (G ⟨#[]⟩)] [(0,1,(.t 39))]),zo 41 (A 1 16 (.t 33) (.t 40)),m 5 41]) .skip)))
 (R [m 12 6,zbk .add 13 3 12 1,m 6 13])))
def rT:ACode:=.loop nP
def f27:ACode:=(Q (R [zbx 2 0,zns 4])
 (Q (R [zns 5])
 (Q (Q (R [n 6 0])
 (.block 0 rT))
 (Q (R [m 42 5,m 4 42])
 .ret))))
def Hj:AFun:=⟨f27,[.tmp 4]⟩
theorem Rn:funOf i3 27=some Hj:=by kernel_rfl
def wS:List DOp:=[⟨zL 16 6 3,[3],[]⟩,⟨zD 17 5 3,[3],[0]⟩,⟨l 18 17,[17],[0]⟩,⟨m 19 7,[7],[0,1,2]⟩,⟨zX 20 25 18 19,[18,19],[0]⟩,⟨zD 21 0 20,[20],[0]⟩,⟨l 22 21,[21],[0]⟩,⟨zc2 23 27 16 22,[16,22],[]⟩,⟨m 8 23,[23],[]⟩]
def Hi:ACode:=.draw wS
def nN:ACode:=(Q (Q (R [m 9 7,zD 10 5 3,l 11 10,zln 12 11,zbv .lss 13 3 9 12])
 (C (.t 13) .skip (.exit 0)))
 (Q (.block 1 (Q Hi
 (Q (R [m 24 2,zD 25 5 3,l 26 25,m 27 7,zX 28 25 26 27,zD 29 0 28,l 30 29,zc2 31 26 24 30,zun 32 31,m 33 32,zg 34 33 T (.mv (.t 1)),zg 35 33 T (D 5 (.t 3)),zg 36 33 T (L O (.t 35)),zg 37 33 T (.mv (.t 7)),zg 38 33 T (X 25 (.t 36) (.t 37)),zg 39 33 T (D 0 (.t 38)),zg 40 33 T (L O (.t 39)),zg 41 33 T (.call 26 [.t 34,.t 40]),zg 42 33 T (.un .not (.t 41)),zpf 43 33 42,m 44 43,zg 45 44 T (L (S 6) (.t 3)),zg 46 44 T (.mv (.t 1)),zg 47 44 T (.mv (.t 8)),zg 48 44 T (.call 47 [.t 45,.t 46,.t 47]),zpf 49 44 48,m 50 49,zg 51 50 T (L (S 6) (.t 3)),zg 52 50 T (.mv (.t 8)),zg 53 50 T (.mv (.t 1)),zg 54 50 T (.call 47 [.t 51,.t 52,.t 53]),zg 55 50 T (.un .not (.t 54)),zpf 56 50 55])
 (C (.t 56) (Q (R [zbf 6])
 .ret) .skip))))
 (R [m 14 7,zbk .add 15 3 14 1,m 7 15])))
def nL:ACode:=.loop nN
def f28:ACode:=(Q (R [zbx 3 0,zbf 6])
 (Q (Q (R [n 7 0])
 (.block 0 nL))
 (Q (R [zbt 6])
 .ret)))
def Hh:AFun:=⟨f28,[.tmp 6]⟩
theorem Rm:funOf i3 28=some Hh:=by kernel_rfl
def f29:ACode:=(Q (R [zbx 3 0,zbf 6])
 (Q (R [zL 7 6 3,m 8 1,zc2 9 49 7 8,m 10 2,zc2 11 48 9 10,zbk .geq 12 3 11 0,m 13 12,zg 14 13 T (L (S 6) (.t 3)),zg 15 13 T (.mv (.t 2)),zg 16 13 T (.call 49 [.t 14,.t 15]),zg 17 13 T (.mv (.t 1)),zg 18 13 T (.call 48 [.t 16,.t 17]),zg 19 13 T (.bin .geq 3 T (.t 18) (.c (V (I .i64 0)))),zpf 20 13 19,m 6 20])
 .ret))
def wR:AFun:=⟨f29,[.tmp 6]⟩
theorem Rl:funOf i3 29=some wR:=by kernel_rfl
def f30:ACode:=(Q (R [zbx 3 0,zbf 6])
 (Q (R [zL 7 6 3,m 8 1,zc2 9 51 7 8,m 10 2,zc2 11 50 9 10,m 12 11,zg 13 12 T (L (S 6) (.t 3)),zg 14 12 T (.mv (.t 2)),zg 15 12 T (.call 51 [.t 13,.t 14]),zg 16 12 T (.mv (.t 1)),zg 17 12 T (.call 50 [.t 15,.t 16]),zpf 18 12 17,m 6 18])
 .ret))
def wQ:AFun:=⟨f30,[.tmp 6]⟩
theorem Rk:funOf i3 30=some wQ:=by kernel_rfl
def kG:ACode:=(Q (Q (R [m 7 6,zD 8 5 2,l 9 8,zln 10 9,zbv .lss 11 3 7 10])
 (C (.t 11) .skip (.exit 0)))
 (Q (.block 1 (Q (R [zD 14 5 2,l 15 14,m 16 6,zX 17 25 15 16,zD 18 0 17,l 19 18,m 20 1,zbv .eql 21 9 19 20])
 (C (.t 21) (Q (R [zD 22 5 2,l 23 22,m 24 6,zX 25 25 23 24,zL 26 25 25,⟨O,O,.store 25 (.t 4) (.t 26)⟩,zbt 5])
 .ret) .skip)))
 (R [m 12 6,zbk .add 13 3 12 1,m 6 13])))
def rR:ACode:=.loop kG
def f31:ACode:=(Q (R [zbx 2 0,zo 4 (.alloc [V (G ⟨#[]⟩),V (.slice O 0 0),V (I .i64 0),V (G ⟨#[]⟩),V (I .i64 0),V (.slice O 0 0),V (.slice O 0 0),V (.slice O 0 0),V (.slice O 0 0),V (I .i64 0),V (.bool F),V (.slice O 0 0),V (.slice O 0 0),V (.slice O 0 0),V (.slice O 0 0),V (I .i64 0),V (G ⟨#[]⟩),V (.slice O 0 0),V (.slice O 0 0),V (I .i64 0),V (G ⟨#[]⟩),V (I .i64 0),V (.slice O 0 0),V (.slice O 0 0),V (.slice O 0 0)]),zbf 5])
 (Q (Q (R [n 6 0])
 (.block 0 rR))
 (Q (R [zo 27 (.build [V (G ⟨#[]⟩),V (.slice O 0 0),V (I .i64 0),V (G ⟨#[]⟩),V (I .i64 0),V (.slice O 0 0),V (.slice O 0 0),V (.slice O 0 0),V (.slice O 0 0),V (I .i64 0),V (.bool F),V (.slice O 0 0),V (.slice O 0 0),V (.slice O 0 0),V (.slice O 0 0),V (I .i64 0),V (G ⟨#[]⟩),V (.slice O 0 0),V (.slice O 0 0),V (I .i64 0),V (G ⟨#[]⟩),V (I .i64 0),V (.slice O 0 0),V (.slice O 0 0),V (.slice O 0 0)] []),⟨O,O,.store 25 (.t 4) (.t 27)⟩,zbf 5])
 .ret)))
def Hg:AFun:=⟨f31,[.cell 4 (S 25),.tmp 5]⟩
theorem Rj:funOf i3 31=some Hg:=by kernel_rfl
def f32:ACode:=(Q (R [zbx 1 0,zns 2])
 (Q (R [zL 3 7 1,zo 4 (.call 53 [.t 3,.c (V (.slice O 0 0)),.c (V (.bool F))]),zo 5 (.call 52 [.t 4,.c (V (.slice O 0 0))]),m 2 5])
 .ret))
def Hf:AFun:=⟨f32,[.tmp 2]⟩
theorem Ri:funOf i3 32=some Hf:=by kernel_rfl
def cU:List DOp:=[⟨m 18 5,[5],[]⟩,⟨zbk .add 19 3 18 1,[18],[]⟩,⟨m 20 0,[0],[0,1]⟩,⟨m 21 6,[6],[0,1,2]⟩,⟨zX 22 9 20 21,[20,21],[0,1]⟩,⟨zD 23 1 22,[22],[0,1]⟩,⟨l 24 23,[23],[0,1]⟩,⟨zo 25 (.lenStr (.t 24)),[24],[0,1]⟩,⟨zbk .quo 26 3 25 50,[25],[0,1]⟩,⟨zbv .add 27 3 19 26,[19,26],[]⟩,⟨m 28 0,[0],[0,1,2,3,4,5,6,7,8,9]⟩,⟨m 29 6,[6],[0,1,2,3,4,5,6,7,8,9,10]⟩,⟨zX 30 9 28 29,[28,29],[0,1,2,3,4,5,6,7,8,9]⟩,⟨zD 31 3 30,[30],[0,1,2,3,4,5,6,7,8,9]⟩,⟨l 32 31,[31],[0,1,2,3,4,5,6,7,8,9]⟩,⟨zln 33 32,[32],[0,1,2,3,4,5,6,7,8,9]⟩,⟨zbv .add 34 3 27 33,[27,33],[]⟩,⟨m 35 0,[0],[0,1,2,3,4,5,6,7,8,9,10,11,12,13,14,15,16]⟩,⟨m 36 6,[6],[0,1,2,3,4,5,6,7,8,9,10,11,12,13,14,15,16,17]⟩,⟨zX 37 9 35 36,[35,36],[0,1,2,3,4,5,6,7,8,9,10,11,12,13,14,15,16]⟩,⟨zD 38 4 37,[37],[0,1,2,3,4,5,6,7,8,9,10,11,12,13,14,15,16]⟩,⟨zL 39 4 38,[38],[0,1,2,3,4,5,6,7,8,9,10,11,12,13,14,15,16]⟩,⟨zo 40 (.buildSlice 4 1 [V (I .i64 0),V (G ⟨#[]⟩),V (I .i64 0),V (.slice O 0 0)] [(0,4,(.t 39))]),[39],[0,1,2,3,4,5,6,7,8,9,10,11,12,13,14,15,16]⟩,⟨m 41 0,[0],[0,1,2,3,4,5,6,7,8,9,10,11,12,13,14,15,16,17,18,19,20,21,22]⟩,⟨m 42 6,[6],[0,1,2,3,4,5,6,7,8,9,10,11,12,13,14,15,16,17,18,19,20,21,22,23]⟩,⟨zX 43 9 41 42,[41,42],[0,1,2,3,4,5,6,7,8,9,10,11,12,13,14,15,16,17,18,19,20,21,22]⟩,⟨zD 44 8 43,[43],[0,1,2,3,4,5,6,7,8,9,10,11,12,13,14,15,16,17,18,19,20,21,22]⟩,⟨l 45 44,[44],[0,1,2,3,4,5,6,7,8,9,10,11,12,13,14,15,16,17,18,19,20,21,22]⟩,⟨zo 46 (A 4 56 (.t 40) (.t 45)),[40,45],[0,1,2,3,4,5,6,7,8,9,10,11,12,13,14,15,16]⟩,⟨m 47 1,[1],[0,1,2,3,4,5,6,7,8,9,10,11,12,13,14,15,16,17,18,19,20,21,22,23,24,25,26,27,28]⟩,⟨zc2 48 54 46 47,[46,47],[0,1,2,3,4,5,6,7,8,9,10,11,12,13,14,15,16]⟩,⟨zbv .add 49 3 34 48,[34,48],[]⟩,⟨m 5 49,[49],[]⟩]
def He:ACode:=.draw cU
def kF:ACode:=(Q (Q (R [m 7 6,m 8 0,zln 9 8,zbv .lss 10 3 7 9,m 11 10,zg 12 11 T (.mv (.t 5)),zg 13 11 T (.mv (.t 1)),zg 14 11 T (.bin .leq 3 F (.t 12) (.t 13)),zpf 15 11 14])
 (C (.t 15) .skip (.exit 0)))
 (Q (.block 1 (Q He
 (R [m 50 5,m 51 0,m 52 6,zX 53 9 51 52,zD 54 2 53,l 55 54,m 56 1,m 57 5,zbv .sub 58 3 56 57,zc2 59 33 55 58,zbv .add 60 3 50 59,m 5 60])))
 (R [m 16 6,zbk .add 17 3 16 1,m 6 17])))
def rQ:ACode:=.loop kF
def f33:ACode:=(Q (R [n 4 0])
 (Q (R [n 5 0])
 (Q (Q (R [n 6 0])
 (.block 0 rQ))
 (Q (R [m 61 5,m 4 61])
 .ret))))
def Hd:AFun:=⟨f33,[.tmp 4]⟩
theorem Rh:funOf i3 33=some Hd:=by kernel_rfl
def kE:ACode:=(Q (Q (R [m 7 6,m 8 0,zln 9 8,zbv .lss 10 3 7 9,m 11 10,zg 12 11 T (.mv (.t 5)),zg 13 11 T (.mv (.t 1)),zg 14 11 T (.bin .leq 3 F (.t 12) (.t 13)),zpf 15 11 14])
 (C (.t 15) .skip (.exit 0)))
 (Q (.block 1 (R [m 18 5,zbk .add 19 3 18 1,m 20 0,m 21 6,zX 22 1 20 21,l 23 22,zo 24 (.lenStr (.t 23)),zbk .quo 25 3 24 50,zbv .add 26 3 19 25,m 5 26]))
 (R [m 16 6,zbk .add 17 3 16 1,m 6 17])))
def rP:ACode:=.loop kE
def f34:ACode:=(Q (R [n 4 0])
 (Q (R [n 5 0])
 (Q (Q (R [n 6 0])
 (.block 0 rP))
 (Q (R [m 27 5,m 4 27])
 .ret))))
def Hc:AFun:=⟨f34,[.tmp 4]⟩
theorem Rg:funOf i3 34=some Hc:=by kernel_rfl
def kD:ACode:=(Q (R [zbv .lss 12 3 11 10])
 (Q (C (.t 12) .skip (.exit 0))
 (Q (.block 1 (Q (R [zX 13 25 9 11,zL 14 25 13,zo 7 (.alloc [V (G ⟨#[]⟩),V (.slice O 0 0),V (I .i64 0),V (G ⟨#[]⟩),V (I .i64 0),V (.slice O 0 0),V (.slice O 0 0),V (.slice O 0 0),V (.slice O 0 0),V (I .i64 0),V (.bool F),V (.slice O 0 0),V (.slice O 0 0),V (.slice O 0 0),V (.slice O 0 0),V (I .i64 0),V (G ⟨#[]⟩),V (.slice O 0 0),V (.slice O 0 0),V (I .i64 0),V (G ⟨#[]⟩),V (I .i64 0),V (.slice O 0 0),V (.slice O 0 0),V (.slice O 0 0)]),⟨O,O,.store 25 (.t 7) (.t 14)⟩])
 (Q (R [zD 15 0 7,l 16 15,m 17 1,zbv .eql 18 9 16 17])
 (C (.t 18) (Q (R [zL 19 25 7,⟨O,O,.store 25 (.t 4) (.t 19)⟩,zbt 5])
 .ret) .skip))))
 (R [zbk .add 20 3 11 1,m 11 20]))))
def rO:ACode:=.loop kD
def f36:ACode:=(Q (R [zbx 2 0,zo 4 (.alloc [V (G ⟨#[]⟩),V (.slice O 0 0),V (I .i64 0),V (G ⟨#[]⟩),V (I .i64 0),V (.slice O 0 0),V (.slice O 0 0),V (.slice O 0 0),V (.slice O 0 0),V (I .i64 0),V (.bool F),V (.slice O 0 0),V (.slice O 0 0),V (.slice O 0 0),V (.slice O 0 0),V (I .i64 0),V (G ⟨#[]⟩),V (.slice O 0 0),V (.slice O 0 0),V (I .i64 0),V (G ⟨#[]⟩),V (I .i64 0),V (.slice O 0 0),V (.slice O 0 0),V (.slice O 0 0)]),zbf 5])
 (Q (Q (R [zD 8 5 2,l 9 8,zln 10 9,n 11 0])
 (.block 0 rO))
 (Q (R [zo 21 (.build [V (G ⟨#[]⟩),V (.slice O 0 0),V (I .i64 0),V (G ⟨#[]⟩),V (I .i64 0),V (.slice O 0 0),V (.slice O 0 0),V (.slice O 0 0),V (.slice O 0 0),V (I .i64 0),V (.bool F),V (.slice O 0 0),V (.slice O 0 0),V (.slice O 0 0),V (.slice O 0 0),V (I .i64 0),V (G ⟨#[]⟩),V (.slice O 0 0),V (.slice O 0 0),V (I .i64 0),V (G ⟨#[]⟩),V (I .i64 0),V (.slice O 0 0),V (.slice O 0 0),V (.slice O 0 0)] []),⟨O,O,.store 25 (.t 4) (.t 21)⟩,zbf 5])
 .ret)))
def Hb:AFun:=⟨f36,[.cell 4 (S 25),.tmp 5]⟩
theorem Rf:funOf i3 36=some Hb:=by kernel_rfl
def nK:ACode:=(Q (R [zbv .lss 9 3 8 7])
 (Q (C (.t 9) .skip (.exit 0))
 (Q (.block 1 (Q (R [m 10 8,m 5 10])
 (Q (R [m 11 1,m 12 0,m 13 5,zX 14 25 12 13,zL 15 25 14,zo 16 (.callv (.t 11) [.t 15])])
 (C (.t 16) (Q (R [m 17 5,m 4 17])
 .ret) .skip))))
 (R [zbk .add 18 3 8 1,m 8 18]))))
def rN:ACode:=.loop nK
def f42:ACode:=(Q (R [n 4 0])
 (Q (Q (R [m 6 0,zln 7 6,n 8 0])
 (.block 0 rN))
 (Q (R [n 4 (-1)])
 .ret)))
def Gx:AFun:=⟨f42,[.tmp 4]⟩
theorem Re:funOf i3 42=some Gx:=by kernel_rfl
def f43:ACode:=(Q (R [zbx 2 0,zbf 3])
 (Q (R [zD 4 0 2,l 5 4,l 6 1,zbv .eql 7 9 5 6,m 3 7])
 .ret))
def Gw:AFun:=⟨f43,[.tmp 3]⟩
theorem Rd:funOf i3 43=some Gw:=by kernel_rfl
def rL:List DOp:=[⟨zL 18 6 2,[2],[]⟩,⟨m 19 6,[6],[0]⟩,⟨zo 20 (X 1 (.t 19) (.c (V (I .i64 0)))),[19],[0]⟩,⟨l 21 20,[20],[0]⟩,⟨zc2 22 36 18 21,[18,21],[]⟩,⟨m 17 22,[22],[]⟩,⟨zex 23 0 17,[17],[]⟩,⟨zex 24 1 17,[17],[6]⟩,⟨zo 7 (.alloc [V (G ⟨#[]⟩),V (.slice O 0 0),V (I .i64 0),V (G ⟨#[]⟩),V (I .i64 0),V (.slice O 0 0),V (.slice O 0 0),V (.slice O 0 0),V (.slice O 0 0),V (I .i64 0),V (.bool F),V (.slice O 0 0),V (.slice O 0 0),V (.slice O 0 0),V (.slice O 0 0),V (I .i64 0),V (G ⟨#[]⟩),V (.slice O 0 0),V (.slice O 0 0),V (I .i64 0),V (G ⟨#[]⟩),V (I .i64 0),V (.slice O 0 0),V (.slice O 0 0),V (.slice O 0 0)]),[],[0,1,2,3,4,5,6,7]⟩,⟨⟨O,O,.store 25 (.t 7) (.t 23)⟩,[7,23],[7]⟩,⟨m 8 24,[24],[]⟩]
def Gv:ACode:=.draw rL
def kC:ACode:=(Q (R [zbv .lss 32 3 31 30])
 (Q (C (.t 32) .skip (.exit 2))
 (Q (.block 3 (Q (R [zX 33 1 29 31,l 34 33,m 10 34])
 (Q (R [m 35 5,m 36 10,zo 37 (.lookup .string (V (.bool F)) (.t 35) (.t 36) F),zun 38 37])
 (C (.t 38) (Q (R [m 39 5,m 40 10,⟨O,O,.mapUpd .string (.t 39) (.t 40) (.c (V (.bool T)))⟩])
 (R [m 41 6,m 42 10,zo 43 (.buildSlice 1 1 [V (G ⟨#[]⟩)] [(0,1,(.t 42))]),zo 44 (A 1 16 (.t 41) (.t 43)),m 6 44])) .skip))))
 (R [zbk .add 45 3 31 1,m 31 45]))))
def rM:ACode:=.loop kC
def fx:ACode:=(Q (Q (R [m 14 6,zln 15 14,zbk .gtr 16 3 15 0])
 (C (.t 16) .skip (.exit 0)))
 (.block 1 (Q Gv
 (Q (R [m 25 6,zo 26 (.sliceS 1 (.t 25) (S (.c (V (I .i64 1)))) O O),m 6 26])
 (Q (R [zL 27 6 2,zL 28 25 7,zc2 29 69 27 28,zln 30 29,n 31 0])
 (.block 2 rM))))))
def nJ:ACode:=.loop fx
def f44:ACode:=(Q (R [zbx 2 0,zo 4 (.mv (.c (V (.map O))))])
 (Q (R [zo 11 (.mkMap),m 5 11])
 (Q (R [m 12 1,zo 13 (.buildSlice 1 1 [V (G ⟨#[]⟩)] [(0,1,(.t 12))]),m 6 13])
 (Q (.block 0 nJ)
 (Q (R [m 46 5,m 4 46])
 .ret)))))
def Gu:AFun:=⟨f44,[.tmp 4]⟩
theorem Rc:funOf i3 44=some Gu:=by kernel_rfl
def f45:ACode:=(Q (R [zbf 4])
 (Q (R [m 5 0,m 6 1,zc2 7 70 5 6,zbk .geq 8 3 7 0,m 4 8])
 .ret))
def Gt:AFun:=⟨f45,[.tmp 4]⟩
theorem Rb:funOf i3 45=some Gt:=by kernel_rfl
def f46:ACode:=(Q (R [zbf 3])
 (Q (R [l 4 1,m 5 0,zo 6 (.lookup .string (V (.bool F)) (.t 4) (.t 5) F),m 3 6])
 .ret))
def Gs:AFun:=⟨f46,[.tmp 3]⟩
theorem Ra:funOf i3 46=some Gs:=by kernel_rfl
def wM:List DOp:=[⟨zL 16 6 3,[3],[]⟩,⟨m 17 1,[1],[0]⟩,⟨m 18 7,[7],[0,1]⟩,⟨zX 19 1 17 18,[17,18],[0]⟩,⟨l 20 19,[19],[0]⟩,⟨zc2 21 71 16 20,[16,20],[]⟩,⟨m 8 21,[21],[]⟩]
def Gr:ACode:=.draw wM
def jZ:ACode:=(Q (Q (R [m 22 9,m 23 8,zln 24 23,zbv .lss 25 3 22 24])
 (C (.t 25) .skip (.exit 2)))
 (Q (.block 3 (Q (R [m 28 2,m 29 8,m 30 9,zX 31 1 29 30,l 32 31,zc2 33 26 28 32])
 (C (.t 33) (Q (R [zbt 6])
 .ret) .skip)))
 (R [m 26 9,zbk .add 27 3 26 1,m 9 27])))
def rK:ACode:=.loop jZ
def nI:ACode:=(Q (Q (R [m 10 7,m 11 1,zln 12 11,zbv .lss 13 3 10 12])
 (C (.t 13) .skip (.exit 0)))
 (Q (.block 1 (Q Gr
 (Q (R [n 9 0])
 (.block 2 rK))))
 (R [m 14 7,zbk .add 15 3 14 1,m 7 15])))
def rJ:ACode:=.loop nI
def f47:ACode:=(Q (R [zbx 3 0,zbf 6])
 (Q (Q (R [n 7 0])
 (.block 0 rJ))
 (Q (R [zbf 6])
 .ret)))
def Gq:AFun:=⟨f47,[.tmp 6]⟩
theorem Qz:funOf i3 47=some Gq:=by kernel_rfl
def f48:ACode:=(Q (R [n 4 0])
 (Q (R [m 5 0,m 6 1,zc2 7 72 5 6,m 4 7])
 .ret))
def Gp:AFun:=⟨f48,[.tmp 4]⟩
theorem Qy:funOf i3 48=some Gp:=by kernel_rfl
def f49:ACode:=(Q (R [zbx 2 0,zns 4])
 (Q (R [zo 7 (.call 73 [.c (V (.slice O 0 0))]),zo 5 (.alloc [V (.pointer O)]),⟨O,O,.store 1 (.t 5) (.t 7)⟩])
 (Q (R [zo 6 (.alloc [V .nilFunc])])
 (Q (R [zo 8 (.mkFunc (.func 74) [] [.t 2,.t 5,.t 6]),⟨O,O,.store 1 (.t 6) (.t 8)⟩])
 (Q (R [l 9 6,m 10 1,zo 11 (.callv (.t 9) [.t 10])])
 (Q (R [l 12 5,zc1 13 77 12,m 4 13])
 .ret))))))
def wL:AFun:=⟨f49,[.tmp 4]⟩
theorem Qx:funOf i3 49=some wL:=by kernel_rfl
def f50:ACode:=(Q (R [zbf 4])
 (Q (R [m 5 0,m 6 1,zc2 7 13 5 6,zbk .geq 8 3 7 0,m 4 8])
 .ret))
def Gn:AFun:=⟨f50,[.tmp 4]⟩
theorem Qw:funOf i3 50=some Gn:=by kernel_rfl
def nG:List DOp:=[⟨zL 18 6 2,[2],[]⟩,⟨m 19 5,[5],[0]⟩,⟨m 20 6,[6],[0,1]⟩,⟨zX 21 1 19 20,[19,20],[0]⟩,⟨l 22 21,[21],[0]⟩,⟨zc2 23 78 18 22,[18,22],[]⟩,⟨m 7 23,[23],[]⟩]
def Gm:ACode:=.draw nG
def nH:ACode:=(Q (Q (R [m 24 8,m 25 7,zln 26 25,zbv .lss 27 3 24 26])
 (C (.t 27) .skip (.exit 2)))
 (Q (.block 3 (Q (R [m 30 5,m 31 7,m 32 8,zX 33 1 31 32,l 34 33,zc2 35 50 30 34,zun 36 35])
 (C (.t 36) (R [m 37 5,m 38 7,m 39 8,zX 40 1 38 39,l 41 40,zo 42 (.buildSlice 1 1 [V (G ⟨#[]⟩)] [(0,1,(.t 41))]),zo 43 (A 1 16 (.t 37) (.t 42)),m 5 43]) .skip)))
 (R [m 28 8,zbk .add 29 3 28 1,m 8 29])))
def rH:ACode:=.loop nH
def rI:ACode:=(Q (Q (R [m 12 6,m 13 5,zln 14 13,zbv .lss 15 3 12 14])
 (C (.t 15) .skip (.exit 0)))
 (Q (.block 1 (Q Gm
 (Q (R [n 8 0])
 (.block 2 rH))))
 (R [m 16 6,zbk .add 17 3 16 1,m 6 17])))
def wJ:ACode:=.loop rI
def f51:ACode:=(Q (R [zbx 2 0,zns 4])
 (Q (R [zL 9 6 2,m 10 1,zc2 11 78 9 10,m 5 11])
 (Q (Q (R [n 6 0])
 (.block 0 wJ))
 (Q (R [m 44 5,zo 45 (.call 52 [.t 44,.c (V (.slice O 0 0))]),m 4 45])
 .ret))))
def Gl:AFun:=⟨f51,[.tmp 4]⟩
theorem Qv:funOf i3 51=some Gl:=by kernel_rfl
def nF:ACode:=(Q (R [zbv .lss 11 3 10 9])
 (Q (C (.t 11) .skip (.exit 0))
 (Q (.block 1 (Q (R [m 12 10,m 6 12])
 (R [m 13 5,m 14 0,m 15 6,zX 16 1 14 15,l 17 16,zc2 18 79 13 17,m 5 18])))
 (R [zbk .add 19 3 10 1,m 10 19]))))
def rG:ACode:=.loop nF
def nE:ACode:=(Q (R [zbv .lss 23 3 22 21])
 (Q (C (.t 23) .skip (.exit 2))
 (Q (.block 3 (Q (R [m 24 22,m 7 24])
 (R [m 25 5,m 26 1,m 27 7,zX 28 1 26 27,l 29 28,zc2 30 79 25 29,m 5 30])))
 (R [zbk .add 31 3 22 1,m 22 31]))))
def qz:ACode:=.loop nE
def f52:ACode:=(Q (R [zns 4])
 (Q (R [zns 5])
 (Q (Q (R [m 8 0,zln 9 8,n 10 0])
 (.block 0 rG))
 (Q (Q (R [m 20 1,zln 21 20,n 22 0])
 (.block 2 qz))
 (Q (R [m 32 5,m 4 32])
 .ret)))))
def Gk:AFun:=⟨f52,[.tmp 4]⟩
theorem Qu:funOf i3 52=some Gk:=by kernel_rfl
def m4:List DOp:=[⟨m 42 7,[7],[]⟩,⟨zD 43 3 3,[3],[0]⟩,⟨l 44 43,[43],[0]⟩,⟨m 45 8,[8],[0,1,2]⟩,⟨zX 46 7 44 45,[44,45],[0]⟩,⟨zL 47 7 46,[46],[0]⟩,⟨zL 48 7 3,[3],[0,1,2,3,4,5]⟩,⟨m 49 8,[8],[0,1,2,3,4,5,6]⟩,⟨m 50 1,[1],[0,1,2,3,4,5,6,7]⟩,⟨zo 51 (.call 80 [.t 48,.t 49,.t 50]),[48,49,50],[0,1,2,3,4,5]⟩,⟨m 52 2,[2],[0,1,2,3,4,5,6,7,8,9]⟩,⟨zo 53 (.call 53 [.t 47,.t 51,.t 52]),[47,51,52],[0]⟩,⟨zo 54 (A 1 16 (.t 42) (.t 53)),[42,53],[]⟩,⟨m 7 54,[54],[]⟩]
def Gj:ACode:=.draw m4
def nD:ACode:=(Q (Q (R [m 35 8,zD 36 3 3,l 37 36,zln 38 37,zbv .lss 39 3 35 38])
 (C (.t 39) .skip (.exit 0)))
 (Q (.block 1 Gj)
 (R [m 40 8,zbk .add 41 3 40 1,m 8 41])))
def m7:ACode:=.loop nD
def qy:List DOp:=[⟨zo 62 (.buildSlice 1 0 [] []),[],[]⟩,⟨m 63 1,[1],[0]⟩,⟨zo 64 (A 1 16 (.t 62) (.t 63)),[62,63],[]⟩,⟨zD 65 5 3,[3],[0,1,2]⟩,⟨l 66 65,[65],[0,1,2]⟩,⟨m 67 9,[9],[0,1,2,3,4]⟩,⟨zX 68 9 66 67,[66,67],[0,1,2]⟩,⟨zD 69 1 68,[68],[0,1,2]⟩,⟨l 70 69,[69],[0,1,2]⟩,⟨zo 71 (A 1 16 (.t 64) (.t 70)),[64,70],[]⟩,⟨m 10 71,[71],[]⟩]
def Gi:ACode:=.draw qy
def nA:ACode:=(Q (Q (R [m 55 9,zD 56 5 3,l 57 56,zln 58 57,zbv .lss 59 3 55 58])
 (C (.t 59) .skip (.exit 2)))
 (Q (.block 3 (Q Gi
 (R [m 72 7,zD 73 5 3,l 74 73,m 75 9,zX 76 9 74 75,zD 77 2 76,zL 78 7 77,m 79 10,m 80 2,zo 81 (.call 53 [.t 78,.t 79,.t 80]),zo 82 (A 1 16 (.t 72) (.t 81)),m 7 82])))
 (R [m 60 9,zbk .add 61 3 60 1,m 9 61])))
def m5:ACode:=.loop nA
def f53:ACode:=(Q (R [zbx 3 0,zns 6])
 (Q (R [zns 7])
 (Q (Q (R [zD 11 0 3,l 12 11,zbk .eql 13 40 12 5,m 14 13,zg 15 14 F (D 0 (.t 3)),zg 16 14 F (L O (.t 15)),zg 17 14 F (.bin .eql 40 T (.t 16) (.c (V (I .i64 3)))),zg 18 14 F (.mv (.t 17)),zg 19 18 T (.mv (.t 2)),zg 20 18 T (.un .not (.t 19)),zg 21 14 F (.pick (.t 18) (.t 20) (.c (V (.bool F)))),zpt 22 14 21,m 23 22,zg 24 23 T (.mv (.t 1)),zg 25 23 T (D 1 (.t 3)),zg 26 23 T (L O (.t 25)),zg 27 23 T (.call 50 [.t 24,.t 26]),zg 28 23 T (.un .not (.t 27)),zpf 29 23 28])
 (C (.t 29) (R [m 30 7,zD 31 1 3,l 32 31,zo 33 (.buildSlice 1 1 [V (G ⟨#[]⟩)] [(0,1,(.t 32))]),zo 34 (A 1 16 (.t 30) (.t 33)),m 7 34]) .skip))
 (Q (Q (R [n 8 0])
 (.block 0 m7))
 (Q (Q (R [n 9 0])
 (.block 2 m5))
 (Q (R [m 83 7,m 6 83])
 .ret))))))
def wG:AFun:=⟨f53,[.tmp 6]⟩
theorem Qs:funOf i3 53=some wG:=by kernel_rfl
def jX:ACode:=(Q (Q (R [m 7 6,m 8 0,zln 9 8,zbv .lss 10 3 7 9,m 11 10,zg 12 11 T (.mv (.t 5)),zg 13 11 T (.mv (.t 1)),zg 14 11 T (.bin .leq 3 F (.t 12) (.t 13)),zpf 15 11 14])
 (C (.t 15) .skip (.exit 0)))
 (Q (.block 1 (Q (R [m 18 5,zbk .add 19 3 18 1,m 20 0,m 21 6,zX 22 4 20 21,zD 23 1 22,l 24 23,zo 25 (.lenStr (.t 24)),zbk .quo 26 3 25 50,zbv .add 27 3 19 26,m 5 27])
 (R [m 28 5,m 29 0,m 30 6,zX 31 4 29 30,zD 32 3 31,l 33 32,m 34 1,m 35 5,zbv .sub 36 3 34 35,zc2 37 54 33 36,zbv .add 38 3 28 37,m 5 38])))
 (R [m 16 6,zbk .add 17 3 16 1,m 6 17])))
def qx:ACode:=.loop jX
def f54:ACode:=(Q (R [n 4 0])
 (Q (R [n 5 0])
 (Q (Q (R [n 6 0])
 (.block 0 qx))
 (Q (R [m 39 5,m 4 39])
 .ret))))
def Gg:AFun:=⟨f54,[.tmp 4]⟩
theorem Qr:funOf i3 54=some Gg:=by kernel_rfl
def f60:ACode:=(Q (R [zns 2])
 (Q (Q (R [m 3 0,zo 4 (.bin .eql 35 T (.t 3) (.c (V (.slice O 0 0))))])
 (C (.t 4) (Q (R [zns 2])
 .ret) .skip))
 (Q (R [zo 5 (.buildSlice 1 0 [] []),m 6 0,zo 7 (A 1 16 (.t 5) (.t 6)),m 2 7])
 .ret)))
def wF:AFun:=⟨f60,[.tmp 2]⟩
theorem Ge:funOf i3 60=some wF:=by kernel_rfl
def f69:ACode:=(Q (R [zbx 2 0,zbx 3 1,zns 4])
 (Q (R [zD 5 2 3,zL 6 7 5,zc1 7 83 6,zo 8 (.mkFunc (.func 110) [] [.t 3,.t 2]),zc2 9 109 7 8,m 4 9])
 .ret))
def wE:AFun:=⟨f69,[.tmp 4]⟩
theorem Qq:funOf i3 69=some wE:=by kernel_rfl
def fC:ACode:=(Q (R [zbv .lss 9 3 8 7])
 (Q (C (.t 9) .skip (.exit 0))
 (Q (.block 1 (Q (R [m 10 8,m 5 10])
 (Q (R [m 11 1,m 12 0,m 13 5,zX 14 1 12 13,l 15 14,zo 16 (.callv (.t 11) [.t 15])])
 (C (.t 16) (Q (R [m 17 5,m 4 17])
 .ret) .skip))))
 (R [zbk .add 18 3 8 1,m 8 18]))))
def fw:ACode:=.loop fC
def f70:ACode:=(Q (R [n 4 0])
 (Q (Q (R [m 6 0,zln 7 6,n 8 0])
 (.block 0 fw))
 (Q (R [n 4 (-1)])
 .ret)))
def wD:AFun:=⟨f70,[.tmp 4]⟩
theorem Gd:funOf i3 70=some wD:=by kernel_rfl
def my:List DOp:=[⟨zL 18 6 2,[2],[]⟩,⟨m 19 5,[5],[0]⟩,⟨m 20 6,[6],[0,1]⟩,⟨zX 21 1 19 20,[19,20],[0]⟩,⟨l 22 21,[21],[0]⟩,⟨zc2 23 111 18 22,[18,22],[]⟩,⟨m 7 23,[23],[]⟩]
def Gc:ACode:=.draw my
def mz:ACode:=(Q (Q (R [m 24 8,m 25 7,zln 26 25,zbv .lss 27 3 24 26])
 (C (.t 27) .skip (.exit 2)))
 (Q (.block 3 (Q (R [m 30 5,m 31 7,m 32 8,zX 33 1 31 32,l 34 33,zc2 35 26 30 34,zun 36 35])
 (C (.t 36) (R [m 37 5,m 38 7,m 39 8,zX 40 1 38 39,l 41 40,zo 42 (.buildSlice 1 1 [V (G ⟨#[]⟩)] [(0,1,(.t 41))]),zo 43 (A 1 16 (.t 37) (.t 42)),m 5 43]) .skip)))
 (R [m 28 8,zbk .add 29 3 28 1,m 8 29])))
def qu:ACode:=.loop mz
def qw:ACode:=(Q (Q (R [m 12 6,m 13 5,zln 14 13,zbv .lss 15 3 12 14])
 (C (.t 15) .skip (.exit 0)))
 (Q (.block 1 (Q Gc
 (Q (R [n 8 0])
 (.block 2 qu))))
 (R [m 16 6,zbk .add 17 3 16 1,m 6 17])))
def wB:ACode:=.loop qw
def f71:ACode:=(Q (R [zbx 2 0,zns 4])
 (Q (R [zL 9 6 2,m 10 1,zc2 11 111 9 10,m 5 11])
 (Q (Q (R [n 6 0])
 (.block 0 wB))
 (Q (R [m 44 5,m 4 44])
 .ret))))
def Gb:AFun:=⟨f71,[.tmp 4]⟩
theorem Qp:funOf i3 71=some Gb:=by kernel_rfl
def jV:ACode:=(Q (R [zbv .lss 9 3 8 7])
 (Q (C (.t 9) .skip (.exit 0))
 (Q (.block 1 (Q (R [m 10 8,m 5 10])
 (Q (R [m 11 1,m 12 0,m 13 5,zX 14 1 12 13,l 15 14,zbv .eql 16 9 11 15])
 (C (.t 16) (Q (R [m 17 5,m 4 17])
 .ret) .skip))))
 (R [zbk .add 18 3 8 1,m 8 18]))))
def qt:ACode:=.loop jV
def f72:ACode:=(Q (R [n 4 0])
 (Q (Q (R [m 6 0,zln 7 6,n 8 0])
 (.block 0 qt))
 (Q (R [n 4 (-1)])
 .ret)))
def Ga:AFun:=⟨f72,[.tmp 4]⟩
theorem Qo:funOf i3 72=some Ga:=by kernel_rfl
def f73:ACode:=(Q (R [zo 2 (.mv (.c (V (.pointer O))))])
 (Q (R [zo 4 (.mkMap),zo 5 (.build [V (.map O)] [(0,1,(.t 4))]),zbx 6 5,m 3 6])
 (Q (R [m 7 3,m 8 0,zc2 9 76 7 8])
 (Q (R [m 10 3,m 2 10])
 .ret))))
def Fy:AFun:=⟨f73,[.tmp 2]⟩
theorem Qn:funOf i3 73=some Fy:=by kernel_rfl
def fv:ACode:=(Q (R [zbv .lss 23 3 22 21])
 (Q (C (.t 23) .skip (.exit 0))
 (Q (.block 1 (Q (R [zX 24 1 20 22,l 25 24,m 8 25])
 (Q (R [zL 27 6 1,m 28 8,zc2 29 36 27 28,m 26 29,zex 30 0 26,zex 31 1 26,zo 9 (.alloc [V (G ⟨#[]⟩),V (.slice O 0 0),V (I .i64 0),V (G ⟨#[]⟩),V (I .i64 0),V (.slice O 0 0),V (.slice O 0 0),V (.slice O 0 0),V (.slice O 0 0),V (I .i64 0),V (.bool F),V (.slice O 0 0),V (.slice O 0 0),V (.slice O 0 0),V (.slice O 0 0),V (I .i64 0),V (G ⟨#[]⟩),V (.slice O 0 0),V (.slice O 0 0),V (I .i64 0),V (G ⟨#[]⟩),V (I .i64 0),V (.slice O 0 0),V (.slice O 0 0),V (.slice O 0 0)]),⟨O,O,.store 25 (.t 9) (.t 30)⟩,m 10 31])
 (Q (R [m 32 10,m 33 32,zg 34 33 T (L O (.t 2)),zg 35 33 T (.nilck (.t 34)),zg 36 33 T (D 0 (.t 35)),zg 37 33 T (L O (.t 36)),zg 38 33 T (.mv (.t 8)),zg 39 33 T (.lookup .string (V (.bool F)) (.t 37) (.t 38) F),zg 40 33 T (.un .not (.t 39)),zpf 41 33 40])
 (C (.t 41) (Q (R [l 42 2,m 43 8,zo 44 (.buildSlice 1 1 [V (G ⟨#[]⟩)] [(0,1,(.t 43))]),zc2 45 76 42 44])
 (R [l 46 3,m 47 8,zo 48 (.callv (.t 46) [.t 47])])) .skip)))))
 (R [zbk .add 49 3 22 1,m 22 49]))))
def mw:ACode:=.loop fv
def f74:ACode:=(Q (R [zL 12 6 1,m 13 0,zc2 14 36 12 13,m 11 14,zex 15 0 11,zex 16 1 11,zo 5 (.alloc [V (G ⟨#[]⟩),V (.slice O 0 0),V (I .i64 0),V (G ⟨#[]⟩),V (I .i64 0),V (.slice O 0 0),V (.slice O 0 0),V (.slice O 0 0),V (.slice O 0 0),V (I .i64 0),V (.bool F),V (.slice O 0 0),V (.slice O 0 0),V (.slice O 0 0),V (.slice O 0 0),V (I .i64 0),V (G ⟨#[]⟩),V (.slice O 0 0),V (.slice O 0 0),V (I .i64 0),V (G ⟨#[]⟩),V (I .i64 0),V (.slice O 0 0),V (.slice O 0 0),V (.slice O 0 0)]),⟨O,O,.store 25 (.t 5) (.t 15)⟩,m 6 16])
 (Q (Q (R [m 17 6,zun 18 17])
 (C (.t 18) .ret .skip))
 (Q (R [zL 19 25 5,zc1 20 75 19,zln 21 20,n 22 0])
 (.block 0 mw))))
def wA:AFun:=⟨f74,[]⟩
theorem Qm:funOf i3 74=some wA:=by kernel_rfl
def f75:ACode:=(Q (R [zbx 1 0,zns 2])
 (Q (R [zD 3 2 1,zL 4 7 3,zc1 5 112 4,zo 6 (.mkFunc (.func 113) [] [.t 1]),zc2 7 109 5 6,m 2 7])
 .ret))
def Fx:AFun:=⟨f75,[.tmp 2]⟩
theorem Ql:funOf i3 75=some Fx:=by kernel_rfl
def fu:ACode:=(Q (R [zbv .lss 9 3 8 7])
 (Q (C (.t 9) .skip (.exit 0))
 (Q (.block 1 (Q (R [zX 10 1 6 8,l 11 10,m 5 11])
 (R [m 12 0,zo 13 (.nilck (.t 12)),zD 14 0 13,l 15 14,m 16 5,⟨O,O,.mapUpd .string (.t 15) (.t 16) (.c (V (.bool T)))⟩])))
 (R [zbk .add 17 3 8 1,m 8 17]))))
def qs:ACode:=.loop fu
def f76:ACode:=(Q (R [m 6 1,zln 7 6,n 8 0])
 (.block 0 qs))
def vz:AFun:=⟨f76,[]⟩
theorem Fw:funOf i3 76=some vz:=by kernel_rfl
def qr:ACode:=(Q (R [zo 10 (.nextMap (.t 9)),zex 11 0 10])
 (Q (C (.t 11) .skip (.exit 0))
 (.block 1 (Q (R [zo 12 (.curMap (.t 9)),zex 13 0 12,m 4 13])
 (R [m 14 3,m 15 4,zo 16 (.buildSlice 1 1 [V (G ⟨#[]⟩)] [(0,1,(.t 15))]),zo 17 (A 1 16 (.t 14) (.t 16)),m 3 17])))))
def ft:ACode:=.loop qr
def f77:ACode:=(Q (R [zns 2])
 (Q (R [zns 3])
 (Q (Q (R [m 5 0,zo 6 (.nilck (.t 5)),zD 7 0 6,l 8 7,zo 9 (.rangeMap (.t 8))])
 (.block 0 ft))
 (Q (R [m 18 3,zc1 19 114 18])
 (Q (R [m 20 3,m 2 20])
 .ret)))))
def vy:AFun:=⟨f77,[.tmp 2]⟩
theorem Qj:funOf i3 77=some vy:=by kernel_rfl
def qp:List DOp:=[⟨zL 30 6 2,[2],[]⟩,⟨m 31 8,[8],[0]⟩,⟨m 32 9,[9],[0,1]⟩,⟨zX 33 1 31 32,[31,32],[0]⟩,⟨l 34 33,[33],[0]⟩,⟨zc2 35 31 30 34,[30,34],[]⟩,⟨m 29 35,[35],[]⟩,⟨zex 36 0 29,[29],[]⟩,⟨zex 37 1 29,[29],[7]⟩,⟨zo 10 (.alloc [V (G ⟨#[]⟩),V (.slice O 0 0),V (I .i64 0),V (G ⟨#[]⟩),V (I .i64 0),V (.slice O 0 0),V (.slice O 0 0),V (.slice O 0 0),V (.slice O 0 0),V (I .i64 0),V (.bool F),V (.slice O 0 0),V (.slice O 0 0),V (.slice O 0 0),V (.slice O 0 0),V (I .i64 0),V (G ⟨#[]⟩),V (.slice O 0 0),V (.slice O 0 0),V (I .i64 0),V (G ⟨#[]⟩),V (I .i64 0),V (.slice O 0 0),V (.slice O 0 0),V (.slice O 0 0)]),[],[0,1,2,3,4,5,6,7,8]⟩,⟨⟨O,O,.store 25 (.t 10) (.t 36)⟩,[10,36],[8]⟩,⟨m 11 37,[37],[]⟩]
def Fr:ACode:=.draw qp
def fq:List DOp:=[⟨m 38 11,[11],[]⟩,⟨m 39 38,[38],[]⟩,⟨zg 40 39 T (D 1 (.t 5)),[5,39],[]⟩,⟨zg 41 39 T (L O (.t 40)),[40,39],[]⟩,⟨zg 42 39 T (.mv (.t 8)),[8,39],[2,3]⟩,⟨zg 43 39 T (.mv (.t 9)),[9,39],[2,3,4]⟩,⟨zg 44 39 T (X 1 (.t 42) (.t 43)),[42,43,39],[2,3]⟩,⟨zg 45 39 T (L O (.t 44)),[44,39],[2,3]⟩,⟨zg 46 39 T (.call 50 [.t 41,.t 45]),[41,45,39],[]⟩,⟨zg 47 39 T (.un .not (.t 46)),[46,39],[]⟩,⟨zpf 48 39 47,[39,47],[]⟩,⟨m 49 48,[48],[]⟩,⟨zg 50 49 T (.mv (.t 7)),[7,49],[]⟩,⟨zg 51 49 T (.mv (.t 8)),[8,49],[12]⟩,⟨zg 52 49 T (.mv (.t 9)),[9,49],[12,13]⟩,⟨zg 53 49 T (X 1 (.t 51) (.t 52)),[51,52,49],[12]⟩,⟨zg 54 49 T (L O (.t 53)),[53,49],[12]⟩,⟨zg 55 49 T (.call 50 [.t 50,.t 54]),[50,54,49],[]⟩,⟨zg 56 49 T (.un .not (.t 55)),[55,49],[]⟩,⟨zpf 57 49 56,[49,56],[]⟩]
def Fq:ACode:=.draw fq
def mu:ACode:=(Q (Q (R [m 23 9,m 24 8,zln 25 24,zbv .lss 26 3 23 25])
 (C (.t 26) .skip (.exit 0)))
 (Q (.block 1 (Q Fr
 (Q Fq
 (C (.t 57) (R [m 58 7,m 59 8,m 60 9,zX 61 1 59 60,l 62 61,zo 63 (.buildSlice 1 1 [V (G ⟨#[]⟩)] [(0,1,(.t 62))]),zo 64 (A 1 16 (.t 58) (.t 63)),m 7 64]) .skip))))
 (R [m 27 9,zbk .add 28 3 27 1,m 9 28])))
def qq:ACode:=.loop mu
def f78:ACode:=(Q (R [zbx 2 0,zns 4])
 (Q (R [zL 13 6 2,m 14 1,zc2 15 31 13 14,m 12 15,zex 16 0 12,zex 17 1 12,zo 5 (.alloc [V (G ⟨#[]⟩),V (.slice O 0 0),V (I .i64 0),V (G ⟨#[]⟩),V (I .i64 0),V (.slice O 0 0),V (.slice O 0 0),V (.slice O 0 0),V (.slice O 0 0),V (I .i64 0),V (.bool F),V (.slice O 0 0),V (.slice O 0 0),V (.slice O 0 0),V (.slice O 0 0),V (I .i64 0),V (G ⟨#[]⟩),V (.slice O 0 0),V (.slice O 0 0),V (I .i64 0),V (G ⟨#[]⟩),V (I .i64 0),V (.slice O 0 0),V (.slice O 0 0),V (.slice O 0 0)]),⟨O,O,.store 25 (.t 5) (.t 16)⟩,m 6 17])
 (Q (Q (R [m 18 6,zun 19 18])
 (C (.t 19) (Q (R [zns 4])
 .ret) .skip))
 (Q (R [zns 7])
 (Q (R [zD 20 2 5,zL 21 7 20,zc1 22 115 21,m 8 22])
 (Q (Q (R [n 9 0])
 (.block 0 qq))
 (Q (R [m 65 7,m 4 65])
 .ret)))))))
def vv:AFun:=⟨f78,[.tmp 4]⟩
theorem Qi:funOf i3 78=some vv:=by kernel_rfl
def jU:ACode:=(Q (Q (R [m 7 6,m 8 0,zln 9 8,zbv .lss 10 3 7 9,m 11 10,zg 12 11 T (.mv (.t 0)),zg 13 11 T (.mv (.t 6)),zg 14 11 T (X 1 (.t 12) (.t 13)),zg 15 11 T (L O (.t 14)),zg 16 11 T (.mv (.t 1)),zg 17 11 T (.bin .lss 9 F (.t 15) (.t 16)),zpf 18 11 17])
 (C (.t 18) .skip (.exit 0)))
 (.block 1 (Q (R [m 19 5,m 20 0,m 21 6,zX 22 1 20 21,l 23 22,zo 24 (.buildSlice 1 1 [V (G ⟨#[]⟩)] [(0,1,(.t 23))]),zo 25 (A 1 16 (.t 19) (.t 24)),m 5 25])
 (R [m 26 6,zbk .add 27 3 26 1,m 6 27]))))
def qo:ACode:=.loop jU
def f79:ACode:=(Q (R [zns 4])
 (Q (R [zns 5])
 (Q (R [n 6 0])
 (Q (.block 0 qo)
 (Q (R [m 28 5,m 29 1,zo 30 (.buildSlice 1 1 [V (G ⟨#[]⟩)] [(0,1,(.t 29))]),zo 31 (A 1 16 (.t 28) (.t 30)),m 5 31])
 (Q (Q (R [m 32 6,m 33 0,zln 34 33,zbv .lss 35 3 32 34,m 36 35,zg 37 36 T (.mv (.t 0)),zg 38 36 T (.mv (.t 6)),zg 39 36 T (X 1 (.t 37) (.t 38)),zg 40 36 T (L O (.t 39)),zg 41 36 T (.mv (.t 1)),zg 42 36 T (.bin .eql 9 F (.t 40) (.t 41)),zpf 43 36 42])
 (C (.t 43) (R [m 44 6,zbk .add 45 3 44 1,m 6 45]) .skip))
 (Q (R [m 46 5,m 47 0,m 48 6,zo 49 (.sliceS 1 (.t 47) (S (.t 48)) O O),zo 50 (A 1 16 (.t 46) (.t 49)),m 5 50])
 (Q (R [m 51 5,m 4 51])
 .ret))))))))
def Fp:AFun:=⟨f79,[.tmp 4]⟩
theorem Qh:funOf i3 79=some Fp:=by kernel_rfl
def jT:ACode:=(Q (Q (R [m 24 8,zD 25 4 3,l 26 25,zln 27 26,zbv .lss 28 3 24 27,m 29 28,zg 30 29 T (D 0 (.t 3)),zg 31 29 T (L O (.t 30)),zg 32 29 T (.bin .eql 40 T (.t 31) (.c (V (I .i64 6)))),zpf 33 29 32])
 (C (.t 33) .skip (.exit 0)))
 (Q (.block 1 (R [m 36 7,zD 37 4 3,l 38 37,m 39 8,zX 40 10 38 39,zD 41 0 40,l 42 41,zo 43 (.buildSlice 1 1 [V (G ⟨#[]⟩)] [(0,1,(.t 42))]),zo 44 (A 1 16 (.t 36) (.t 43)),m 7 44]))
 (R [m 34 8,zbk .add 35 3 34 1,m 8 35])))
def mr:ACode:=.loop jT
def f80:ACode:=(Q (R [zbx 3 0,zns 6])
 (Q (R [zo 9 (.buildSlice 1 0 [] []),m 10 2,zo 11 (A 1 16 (.t 9) (.t 10)),m 7 11])
 (Q (Q (R [zD 12 0 3,l 13 12,zbk .eql 14 40 13 7,m 15 14,zg 16 15 T (.mv (.t 1)),zg 17 15 T (.bin .gtr 3 T (.t 16) (.c (V (I .i64 0)))),zpf 18 15 17])
 (C (.t 18) (R [m 19 7,zD 20 1 3,l 21 20,zo 22 (.buildSlice 1 1 [V (G ⟨#[]⟩)] [(0,1,(.t 21))]),zo 23 (A 1 16 (.t 19) (.t 22)),m 7 23]) .skip))
 (Q (Q (R [n 8 0])
 (.block 0 mr))
 (Q (R [m 45 7,m 6 45])
 .ret)))))
def Fl:AFun:=⟨f80,[.tmp 6]⟩
theorem Qg:funOf i3 80=some Fl:=by kernel_rfl
def f83:ACode:=(Q (R [zbx 1 0,zns 2])
 (Q (R [zo 4 (.call 73 [.c (V (.slice O 0 0))]),zo 3 (.alloc [V (.pointer O)]),⟨O,O,.store 1 (.t 3) (.t 4)⟩])
 (Q (R [zL 5 7 1,zo 6 (.mkFunc (.func 121) [] [.t 3]),zo 7 (.call 120 [.t 5,.c (V (.slice O 0 0)),.t 6])])
 (Q (R [l 8 3,zc1 9 77 8,m 2 9])
 .ret))))
def vu:AFun:=⟨f83,[.tmp 2]⟩
theorem Qf:funOf i3 83=some vu:=by kernel_rfl
def iS:ACode:=(Q (Q (R [m 16 6,m 17 0,zln 18 17,zbv .lss 19 3 16 18])
 (C (.t 19) .skip (.exit 0)))
 (Q (.block 1 (Q (R [m 22 0,m 23 6,zX 24 1 22 23,l 25 24,m 7 25])
 (Q (R [m 26 1,m 27 7,zo 28 (.callv (.t 26) [.t 27]),zun 29 28])
 (C (.t 29) (Q (R [m 30 0,m 31 5,m 32 7,zX 33 1 30 31,⟨O,O,.store 1 (.t 33) (.t 32)⟩])
 (R [m 34 5,zbk .add 35 3 34 1,m 5 35])) .skip))))
 (R [m 20 6,zbk .add 21 3 20 1,m 6 21])))
def lg:ACode:=.loop iS
def f109:ACode:=(Q (R [zns 4])
 (Q (R [m 8 0,m 9 1,zc2 10 70 8 9,m 5 10])
 (Q (Q (R [m 11 5,zbk .eql 12 3 11 (-1)])
 (C (.t 12) (Q (R [m 13 0,m 4 13])
 .ret) .skip))
 (Q (Q (R [m 14 5,zbk .add 15 3 14 1,m 6 15])
 (.block 0 lg))
 (Q (R [m 36 0,m 37 5,zo 38 (.sliceS 1 (.t 36) (S (.t 37)) O O),⟨O,O,.clearS 1 [V (G ⟨#[]⟩)] (.t 38)⟩])
 (Q (R [m 39 0,m 40 5,zo 41 (.sliceS 1 (.t 39) O (S (.t 40)) O),m 4 41])
 .ret))))))
def xy:AFun:=⟨f109,[.tmp 4]⟩
theorem Lw:funOf i3 109=some xy:=by kernel_rfl
def f110:ACode:=(Q (R [zbf 4])
 (Q (R [zD 5 1 1,l 6 5,m 7 0,zc2 8 48 6 7,zbk .geq 9 3 8 0,m 10 9,zg 11 10 F (L (S 6) (.t 2)),zg 12 10 F (.mv (.t 0)),zg 13 10 F (.call 23 [.t 11,.t 12]),zg 14 10 F (.bin .lss 3 T (.t 13) (.c (V (I .i64 0)))),zpt 15 10 14,m 4 15])
 .ret))
def rh:AFun:=⟨f110,[.tmp 4]⟩
theorem Lv:funOf i3 110=some rh:=by kernel_rfl
def lf:List DOp:=[⟨zL 31 6 2,[2],[]⟩,⟨m 32 8,[8],[0]⟩,⟨m 33 9,[9],[0,1]⟩,⟨zX 34 1 32 33,[32,33],[0]⟩,⟨l 35 34,[34],[0]⟩,⟨zc2 36 31 31 35,[31,35],[]⟩,⟨m 30 36,[36],[]⟩,⟨zex 37 0 30,[30],[]⟩,⟨zex 38 1 30,[30],[7]⟩,⟨zo 10 (.alloc [V (G ⟨#[]⟩),V (.slice O 0 0),V (I .i64 0),V (G ⟨#[]⟩),V (I .i64 0),V (.slice O 0 0),V (.slice O 0 0),V (.slice O 0 0),V (.slice O 0 0),V (I .i64 0),V (.bool F),V (.slice O 0 0),V (.slice O 0 0),V (.slice O 0 0),V (.slice O 0 0),V (I .i64 0),V (G ⟨#[]⟩),V (.slice O 0 0),V (.slice O 0 0),V (I .i64 0),V (G ⟨#[]⟩),V (I .i64 0),V (.slice O 0 0),V (.slice O 0 0),V (.slice O 0 0)]),[],[0,1,2,3,4,5,6,7,8]⟩,⟨⟨O,O,.store 25 (.t 10) (.t 37)⟩,[10,37],[8]⟩,⟨m 11 38,[38],[]⟩]
def xw:ACode:=.draw lf
def lc:List DOp:=[⟨m 39 11,[11],[]⟩,⟨m 40 39,[39],[]⟩,⟨zg 41 40 T (D 1 (.t 5)),[5,40],[]⟩,⟨zg 42 40 T (L O (.t 41)),[41,40],[]⟩,⟨zg 43 40 T (.mv (.t 8)),[8,40],[2,3]⟩,⟨zg 44 40 T (.mv (.t 9)),[9,40],[2,3,4]⟩,⟨zg 45 40 T (X 1 (.t 43) (.t 44)),[43,44,40],[2,3]⟩,⟨zg 46 40 T (L O (.t 45)),[45,40],[2,3]⟩,⟨zg 47 40 T (.call 26 [.t 42,.t 46]),[42,46,40],[]⟩,⟨zg 48 40 T (.un .not (.t 47)),[47,40],[]⟩,⟨zpf 49 40 48,[40,48],[]⟩]
def xu:ACode:=.draw lc
def dv:ACode:=(Q (Q (R [m 21 9,m 22 8,zln 23 22,zbv .lss 24 3 21 23,m 25 24,zg 26 25 T (.mv (.t 6)),zpf 27 25 26])
 (C (.t 27) .skip (.exit 0)))
 (Q (.block 1 (Q xw
 (Q xu
 (C (.t 49) (R [m 50 7,m 51 8,m 52 9,zX 53 1 51 52,l 54 53,zo 55 (.buildSlice 1 1 [V (G ⟨#[]⟩)] [(0,1,(.t 54))]),zo 56 (A 1 16 (.t 50) (.t 55)),m 7 56]) .skip))))
 (R [m 28 9,zbk .add 29 3 28 1,m 9 29])))
def iR:ACode:=.loop dv
def f111:ACode:=(Q (R [zbx 2 0,zns 4])
 (Q (R [zL 13 6 2,m 14 1,zc2 15 31 13 14,m 12 15,zex 16 0 12,zex 17 1 12,zo 5 (.alloc [V (G ⟨#[]⟩),V (.slice O 0 0),V (I .i64 0),V (G ⟨#[]⟩),V (I .i64 0),V (.slice O 0 0),V (.slice O 0 0),V (.slice O 0 0),V (.slice O 0 0),V (I .i64 0),V (.bool F),V (.slice O 0 0),V (.slice O 0 0),V (.slice O 0 0),V (.slice O 0 0),V (I .i64 0),V (G ⟨#[]⟩),V (.slice O 0 0),V (.slice O 0 0),V (I .i64 0),V (G ⟨#[]⟩),V (I .i64 0),V (.slice O 0 0),V (.slice O 0 0),V (.slice O 0 0)]),⟨O,O,.store 25 (.t 5) (.t 16)⟩,m 6 17])
 (Q (R [zns 7])
 (Q (R [zD 18 2 5,zL 19 7 18,zc1 20 32 19,m 8 20])
 (Q (Q (R [n 9 0])
 (.block 0 iR))
 (Q (R [m 57 7,m 4 57])
 .ret))))))
def rg:AFun:=⟨f111,[.tmp 4]⟩
theorem Lu:funOf i3 111=some rg:=by kernel_rfl
def f112:ACode:=(Q (R [zbx 1 0,zns 2])
 (Q (R [zo 3 (.alloc [V (.slice O 0 0)])])
 (Q (R [zL 4 7 1,zo 5 (.mkFunc (.func 165) [] [.t 3]),zo 6 (.call 120 [.t 4,.c (V (.slice O 0 0)),.t 5])])
 (Q (R [l 7 3,m 2 7])
 .ret))))
def xr:AFun:=⟨f112,[.tmp 2]⟩
theorem Lt:funOf i3 112=some xr:=by kernel_rfl
def f113:ACode:=(Q (R [zbf 3])
 (Q (R [zD 4 1 1,l 5 4,m 6 0,zc2 7 48 5 6,zbk .geq 8 3 7 0,m 3 8])
 .ret))
def xq:AFun:=⟨f113,[.tmp 3]⟩
theorem Ls:funOf i3 113=some xq:=by kernel_rfl
def f115:ACode:=(Q (R [zbx 1 0,zns 2])
 (Q (R [zL 3 7 1,zo 4 (.call 53 [.t 3,.c (V (.slice O 0 0)),.c (V (.bool T))]),m 2 4])
 .ret))
def xp:AFun:=⟨f115,[.tmp 2]⟩
theorem Lr:funOf i3 115=some xp:=by kernel_rfl
def lZ:List DOp:=[⟨zL 30 7 7,[7],[]⟩,⟨m 31 1,[1],[0]⟩,⟨zc1 32 60 31,[31],[0]⟩,⟨zL 33 7 3,[3],[0,1,2]⟩,⟨m 34 6,[6],[0,1,2,3]⟩,⟨zc2 35 173 33 34,[33,34],[0]⟩,⟨zo 36 (A 1 16 (.t 32) (.t 35)),[32,35],[0]⟩,⟨m 37 2,[2],[0,1,2,3,4,5,6]⟩,⟨zo 38 (.call 120 [.t 30,.t 36,.t 37]),[30,36,37],[]⟩]
def xo:ACode:=.draw lZ
def iQ:ACode:=(Q (R [zbv .lss 26 3 25 24])
 (Q (C (.t 26) .skip (.exit 0))
 (Q (.block 1 (Q (R [m 27 25,zX 28 7 23 25,zL 29 7 28,zo 7 (.alloc [V (I .i64 0),V (G ⟨#[]⟩),V (I .i64 0),V (.slice O 0 0),V (.slice O 0 0),V (.slice O 0 0),V (.slice O 0 0)]),m 6 27,⟨O,O,.store 7 (.t 7) (.t 29)⟩])
 xo))
 (R [zbk .add 39 3 25 1,m 25 39]))))
def iO:ACode:=.loop iQ
def lY:List DOp:=[⟨zD 47 2 9,[9],[]⟩,⟨zL 48 7 47,[47],[]⟩,⟨m 49 1,[1],[0,1]⟩,⟨zc1 50 60 49,[49],[0,1]⟩,⟨zD 51 1 9,[9],[0,1,2,3]⟩,⟨l 52 51,[51],[0,1,2,3]⟩,⟨zo 53 (A 1 16 (.t 50) (.t 52)),[50,52],[0,1]⟩,⟨m 54 2,[2],[0,1,2,3,4,5,6]⟩,⟨zo 55 (.call 120 [.t 48,.t 53,.t 54]),[48,53,54],[]⟩]
def xn:ACode:=.draw lY
def iP:ACode:=(Q (R [zbv .lss 44 3 43 42])
 (Q (C (.t 44) .skip (.exit 2))
 (Q (.block 3 (Q (R [zX 45 9 41 43,zL 46 9 45,zo 9 (.alloc [V (G ⟨#[]⟩),V (.slice O 0 0),V (I .i64 0),V (G ⟨#[]⟩),V (I .i64 0),V (.slice O 0 0),V (.slice O 0 0),V (.slice O 0 0),V (.slice O 0 0)]),⟨O,O,.store 9 (.t 9) (.t 46)⟩])
 xn))
 (R [zbk .add 56 3 43 1,m 43 56]))))
def iN:ACode:=.loop iP
def f120:ACode:=(Q (R [zbx 3 0])
 (Q (Q (R [zL 10 7 3,zc1 11 172 10,m 12 11,zg 13 12 T (.mv (.t 1)),zg 14 12 T (D 1 (.t 3)),zg 15 12 T (L O (.t 14)),zg 16 12 T (.call 48 [.t 13,.t 15]),zg 17 12 T (.bin .lss 3 T (.t 16) (.c (V (I .i64 0)))),zpf 18 12 17])
 (C (.t 18) (R [m 19 2,zL 20 7 3,zo 21 (.callv (.t 19) [.t 20])]) .skip))
 (Q (Q (R [zD 22 3 3,l 23 22,zln 24 23,n 25 0])
 (.block 0 iO))
 (Q (R [zD 40 5 3,l 41 40,zln 42 41,n 43 0])
 (.block 2 iN)))))
def Lp:AFun:=⟨f120,[]⟩
theorem Lo:funOf i3 120=some Lp:=by kernel_rfl
def f121:ACode:=(Q (R [zbx 2 0])
 (R [l 3 1,zD 4 1 2,l 5 4,zo 6 (.buildSlice 1 1 [V (G ⟨#[]⟩)] [(0,1,(.t 5))]),zc2 7 76 3 6]))
def xm:AFun:=⟨f121,[]⟩
theorem Ln:funOf i3 121=some xm:=by kernel_rfl
def f165:ACode:=(Q (R [zbx 2 0])
 (Q (R [zD 3 0 2,l 4 3,zbk .eql 5 40 4 5])
 (C (.t 5) (R [l 6 1,zD 7 1 2,l 8 7,zo 9 (.buildSlice 1 1 [V (G ⟨#[]⟩)] [(0,1,(.t 8))]),zo 10 (A 1 16 (.t 6) (.t 9)),⟨O,O,.store 1 (.t 1) (.t 10)⟩]) .skip)))
def rW:AFun:=⟨f165,[]⟩
theorem Lm:funOf i3 165=some rW:=by kernel_rfl
def f172:ACode:=(Q (R [zbx 1 0,zbf 2])
 (Q (R [zD 3 0 1,l 4 3,zbk .eql 5 40 4 3,m 6 5,zg 7 6 F (D 0 (.t 1)),zg 8 6 F (L O (.t 7)),zg 9 6 F (.bin .eql 40 T (.t 8) (.c (V (I .i64 5)))),zpt 10 6 9,m 2 10])
 .ret))
def rV:AFun:=⟨f172,[.tmp 2]⟩
theorem Ll:funOf i3 172=some rV:=by kernel_rfl
def f173:ACode:=(Q (R [zbx 2 0,zns 4])
 (Q (.block 0 (Q (R [zD 6 0 2,l 7 6,zbk .eql 8 40 7 7,m 9 8,zg 10 9 T (.mv (.t 1)),zg 11 9 T (.bin .gtr 3 T (.t 10) (.c (V (I .i64 0)))),zpf 12 9 11,m 5 12])
 (C (.t 5) (Q (R [zD 13 1 2,l 14 13,zo 15 (.buildSlice 1 1 [V (G ⟨#[]⟩)] [(0,1,(.t 14))]),m 4 15])
 .ret) (Q (R [zD 17 0 2,l 18 17,zbk .eql 19 40 18 6,m 16 19])
 (C (.t 16) (Q (R [zD 20 4 2,l 21 20,zc1 22 258 21,m 4 22])
 .ret) .skip)))))
 (Q (R [zns 4])
 .ret)))
def iM:AFun:=⟨f173,[.tmp 4]⟩
theorem xl:funOf i3 173=some iM:=by kernel_rfl
def iK:ACode:=(Q (R [zbv .lss 9 3 8 7])
 (Q (C (.t 9) .skip (.exit 0))
 (Q (.block 1 (Q (R [zX 10 10 6 8,zL 11 10 10,zo 5 (.alloc [V (G ⟨#[]⟩),V (I .i64 0),V (G ⟨#[]⟩),V (.slice O 0 0),V (.slice O 0 0),V (I .i64 0),V (G ⟨#[]⟩),V (I .i64 0),V (.slice O 0 0),V (.slice O 0 0)]),⟨O,O,.store 10 (.t 5) (.t 11)⟩])
 (R [m 12 3,zD 13 0 5,l 14 13,zo 15 (.buildSlice 1 1 [V (G ⟨#[]⟩)] [(0,1,(.t 14))]),zo 16 (A 1 16 (.t 12) (.t 15)),m 3 16])))
 (R [zbk .add 17 3 8 1,m 8 17]))))
def lX:ACode:=.loop iK
def f258:ACode:=(Q (R [zns 2])
 (Q (R [zns 3])
 (Q (Q (R [m 6 0,zln 7 6,n 8 0])
 (.block 0 lX))
 (Q (R [m 18 3,m 2 18])
 .ret))))
def xk:AFun:=⟨f258,[.tmp 2]⟩
theorem Lk:funOf i3 258=some xk:=by kernel_rfl
end Go.Proofs.YtkmoeaplhnabcaaGreatDoor
