/- VCodes -/
import Derived.Test.YtmbabhlmdhghdaaGreatDoorE1
import Derived.Test.YtmbabhlmdhghdaaGreatDoorW1
set_option linter.all false
open Go.Proofs.Tryz renaming prog->ib
namespace Go.Proofs.YtmbabhlmdhghdaaGreatDoor
open Go Go.AM
abbrev m(d a:Nat):aW:=⟨some d,none,.mv (.t a)⟩
abbrev n(d:Nat)(k:Int):aW:=⟨some d,none,.mv (.c (.val (.int .i64 k)))⟩
abbrev zbf(d:Nat):aW:=⟨some d,none,.mv (.c (.val (.bool false)))⟩
abbrev zbt(d:Nat):aW:=⟨some d,none,.mv (.c (.val (.bool true)))⟩
abbrev zns(d:Nat):aW:=⟨some d,none,.mv (.c (.val (.slice none 0 0)))⟩
abbrev l(d a:Nat):aW:=⟨some d,none,.load none (.t a)⟩
abbrev zL(d k a:Nat):aW:=⟨some d,none,.load (some k) (.t a)⟩
abbrev zD(d k a:Nat):aW:=⟨some d,none,.fieldAddr k (.t a)⟩
abbrev zln(d a:Nat):aW:=⟨some d,none,.fI (.t a)⟩
abbrev zX(d k a b:Nat):aW:=⟨some d,none,.bT k (.t a) (.t b)⟩
abbrev zc1(d f a:Nat):aW:=⟨some d,none,.call f [.t a]⟩
abbrev zc2(d f a b:Nat):aW:=⟨some d,none,.call f [.t a,.t b]⟩
abbrev zbx(d a:Nat):aW:=⟨some d,none,.box (.t a)⟩
abbrev zpf(d a b:Nat):aW:=⟨some d,none,.pick (.t a) (.t b) (.c (.val (.bool false)))⟩
abbrev zpt(d a b:Nat):aW:=⟨some d,none,.pick (.t a) (.c (.val (.bool true))) (.t b)⟩
abbrev zex(d k a:Nat):aW:=⟨some d,none,.extract k (.t a)⟩
abbrev zun(d a:Nat):aW:=⟨some d,none,.un .not (.t a)⟩
abbrev zbk(o:BinOp)(d t a:Nat)(k:Int):aW:=⟨some d,none,.bin o t true (.t a) (.c (.val (.int .i64 k)))⟩
abbrev zbv(o:BinOp)(d t a b:Nat):aW:=⟨some d,none,.bin o t false (.t a) (.t b)⟩
abbrev zo(d:Nat)(p:AOp):aW:=⟨some d,none,p⟩
abbrev zg(d g:Nat)(b:Bool)(p:AOp):aW:=⟨some d,some (g,b),p⟩
abbrev zA:List AV:=[.val (.int .i64 0),.val (.string ⟨#[]⟩),.val (.int .i64 0),.val (.slice none 0 0)]
abbrev zs(n a x:Nat):aW:=⟨none,none,.store n (.t a) (.t x)⟩
abbrev zdm(d a:Nat)(f:List Nat):DOp:=⟨m d a,[a],f⟩
abbrev zdl(d a:Nat)(f:List Nat):DOp:=⟨l d a,[a],f⟩
abbrev zdn(d a:Nat)(f:List Nat):DOp:=⟨zln d a,[a],f⟩
abbrev zdD(d k a:Nat)(f:List Nat):DOp:=⟨zD d k a,[a],f⟩
abbrev zdL(d k a:Nat)(f:List Nat):DOp:=⟨zL d k a,[a],f⟩
abbrev zdc(d k a:Nat)(f:List Nat):DOp:=⟨zc1 d k a,[a],f⟩
abbrev zdX(d k a b:Nat)(f:List Nat):DOp:=⟨zX d k a b,[a,b],f⟩
abbrev zde(d k a b:Nat)(f:List Nat):DOp:=⟨zc2 d k a b,[a,b],f⟩
abbrev zK(l:List aW)(c:aF):aF:=.seq (.region l) c
abbrev zS:AV:=.val (.slice none 0 0)
abbrev zI:AV:=.val (.int .i64 0)
abbrev zT:AV:=.val (.string ⟨#[]⟩)
abbrev zgD(d g:Nat)(b:Bool)(k a:Nat):aW:=⟨some d,some (g,b),.fieldAddr k (.t a)⟩
abbrev zgl(d g:Nat)(b:Bool)(a:Nat):aW:=⟨some d,some (g,b),.load none (.t a)⟩
abbrev zgL(d g:Nat)(b:Bool)(k a:Nat):aW:=⟨some d,some (g,b),.load (some k) (.t a)⟩
abbrev zgn(d g:Nat)(b:Bool)(a:Nat):aW:=⟨some d,some (g,b),.fI (.t a)⟩
abbrev zgm(d g:Nat)(b:Bool)(a:Nat):aW:=⟨some d,some (g,b),.mv (.t a)⟩
abbrev zgc(d g:Nat)(b:Bool)(f a:Nat):aW:=⟨some d,some (g,b),.call f [.t a]⟩
abbrev zge(d g:Nat)(b:Bool)(f a c:Nat):aW:=⟨some d,some (g,b),.call f [.t a,.t c]⟩
abbrev zgX(d g:Nat)(b:Bool)(k a c:Nat):aW:=⟨some d,some (g,b),.bT k (.t a) (.t c)⟩
abbrev zgk(o:BinOp)(d g:Nat)(b:Bool)(t a:Nat)(k:Int):aW:=⟨some d,some (g,b),.bin o t true (.t a) (.c (.val (.int .i64 k)))⟩
abbrev zr(c d:Nat):aF:=.cond (.t c) (zK [zbf d] .ret) .skip
abbrev zx(c e:Nat)(b:aF):aF:=.seq (.cond (.t c) .skip (.exit e)) b
abbrev zj(d k:Nat):aF:=.region [zbk .add d 3 k 1,m k d]
open Option renaming some -> S, none -> O
open Bool renaming true -> T, false -> F
open Go.AM.aF renaming region -> R, seq -> Q, cond -> C
open Go.AM.AOp renaming fieldAddr -> D, bT -> X, load -> L, append -> A
open Go.AM.AV renaming val -> V
open Go.Value renaming int -> I, string -> G
def bIG:List DOp:=[zdL 12 3 2 [],zdm 13 1 [0],zde 14 6 12 13 [],zdL 15 3 2 [0,1,2],zdm 16 1 [0,1,2,3],zde 17 7 15 16 [],zdm 5 14 [],zdm 6 17 []]
def bII:aF:=.draw bIG
def bIF:List DOp:=[zdm 18 5 [],zdm 19 6 [0],zde 20 8 18 19 [],zdm 21 20 [],⟨zgL 22 21 T 3 2,[2,21],[]⟩,⟨zgm 23 21 T 6,[6,21],[4]⟩,⟨zge 24 21 T 10 22 23,[22,23,21],[]⟩,⟨zgL 25 21 T 3 2,[2,21],[4,5,6]⟩,⟨zgm 26 21 T 6,[6,21],[4,5,6,7]⟩,⟨zge 27 21 T 11 25 26,[25,26,21],[]⟩,⟨zge 28 21 T 9 24 27,[24,27,21],[]⟩,⟨zpf 29 21 28,[21,28],[]⟩,zdm 30 29 [],⟨zgL 31 30 T 3 2,[2,30],[]⟩,⟨zg 32 30 T (.call 10 [.t 31,.c (V (.slice O 0 0))]),[31,30],[]⟩,⟨zgL 33 30 T 3 2,[2,30],[13,14]⟩,⟨zg 34 30 T (.call 11 [.t 33,.c (V (.slice O 0 0))]),[33,30],[]⟩,⟨zge 35 30 T 9 32 34,[32,34,30],[]⟩,⟨zpf 36 30 35,[30,35],[]⟩,zdm 37 36 [],⟨zg 38 37 T (.call 5 []),[37],[]⟩,⟨zpf 39 37 38,[37,38],[]⟩,zdm 4 39 []]
def bIH:aF:=.draw bIF
def f3:aF:=(zK [zbx 2 0,zbf 4]
 (Q (zK [zL 7 3 2,m 8 1,zc2 9 4 7 8,zun 10 9]
 (C (.t 10) (zK [zo 11 (.call 5 []),m 4 11]
 .ret) .skip))
 (Q bII
 (Q bIH
 .ret))))
def aXO:ax:=⟨f3,[.tmp 4]⟩
theorem bSE:aR ib 3=some aXO:=kr
def Pg:aF:=(zK [zbv .lss 49 3 48 47]
 (zx 49 0
 (Q (.block 1 (zK [zX 50 2 46 48,zL 51 2 50,zo 6 (.alloc [zT,zS]),zs 2 6 51]
 (zK [zD 52 1 6,l 53 52,zln 54 53,zbk .gtr 55 3 54 4]
 (zr 55 4))))
 (zj 56 48))))
def aIY:aF:=.loop Pg
def Pf:aF:=(zK [zbv .lss 60 3 59 58]
 (zx 60 2
 (Q (.block 3 (zK [zX 61 6 57 59,zL 62 6 61,zo 8 (.alloc [zT,zS,zI,zT,zI,zS]),zs 6 8 62]
 (zK [zD 63 2 8,zL 64 4 63,zc1 65 13 64,zbk .gtr 66 3 65 12,m 67 66,zgD 68 67 F 1 8,zgl 69 67 F 68,zgn 70 67 F 69,zgk .gtr 71 67 F 3 70 4,zpt 72 67 71]
 (zr 72 4))))
 (zj 73 59))))
def aIX:aF:=.loop Pf
def bIC:List DOp:=[zdL 74 3 2 [],zdL 75 3 2 [0],zdm 76 1 [0,1],zde 77 7 75 76 [0],zde 78 11 74 77 [],zdm 9 78 []]
def bIE:aF:=.draw bIC
def Pe:aF:=(zK [zbv .lss 82 3 81 80]
 (zx 82 4
 (Q (.block 5 (zK [zX 83 5 79 81,zL 84 5 83,zo 11 (.alloc [zT,zI,zT,zI,zS]),zs 5 11 84]
 (zK [zD 85 1 11,zL 86 4 85,zc1 87 13 86,zbk .gtr 88 3 87 60]
 (zr 88 4))))
 (zj 89 81))))
def aIW:aF:=.loop Pe
def qO:aF:=(zK [zbv .lss 123 3 122 121]
 (zx 123 8
 (Q (.block 9 (zK [zX 124 4 120 122,zL 125 4 124,zo 15 (.alloc zA),zs 4 15 125]
 (zK [zL 126 4 15,zc1 127 13 126,zbk .gtr 128 3 127 20,m 129 128,zgL 130 129 F 4 15,zgc 131 129 F 14 130,zgk .gtr 132 129 F 3 131 5,zpt 133 129 132]
 (zr 133 4))))
 (zj 134 122))))
def aIV:aF:=.loop qO
def bIB:List DOp:=[zdL 140 3 2 [],zdL 141 7 13 [0],zde 142 17 140 141 [],zdD 143 1 16 [0,1,2],zdl 144 143 [0,1,2],zdD 145 2 16 [0,1,2,3,4],zdL 146 4 145 [0,1,2,3,4],⟨zo 147 (.call 16 [.t 142,.t 144,.t 146]),[142,144,146],[]⟩,zdm 139 147 [],⟨zex 148 0 139,[139],[]⟩,⟨zex 149 1 139,[139],[9]⟩,⟨zo 17 (.alloc [zI,zT,zI,zS,zS]),[],[0,1,2,3,4,5,6,7,8,9,10]⟩,⟨zs 5 17 148,[17,148],[10]⟩,zdm 18 149 []]
def bID:aF:=.draw bIB
def mm:aF:=(zK [zbv .lss 94 3 93 92]
 (zx 94 6
 (Q (.block 7 (zK [zX 95 7 91 93,zL 96 7 95,zo 13 (.alloc [zS,zS,zI,zT,zI,zS,zI]),zs 7 13 96]
 (Q (zK [zD 97 1 13,l 98 97,zln 99 98,zbk .gtr 100 3 99 3,m 101 100,zgD 102 101 F 0 13,zgl 103 101 F 102,zgn 104 101 F 103,zgk .gtr 105 101 F 3 104 5,zpt 106 101 105,m 107 106,zgD 108 107 F 2 13,zgL 109 107 F 4 108,zgc 110 107 F 13 109,zgk .gtr 111 107 F 3 110 20,zpt 112 107 111,m 113 112,zgD 114 113 F 2 13,zgL 115 113 F 4 114,zgc 116 113 F 14 115,zgk .gtr 117 113 F 3 116 5,zpt 118 113 117]
 (zr 118 4))
 (Q (zK [zD 119 1 13,l 120 119,zln 121 120,n 122 0]
 (.block 8 aIV))
 (zK [zL 135 3 2,m 136 9,zL 137 7 13,zo 138 (.call 15 [.t 135,.t 136,.t 137]),zo 16 (.alloc [zS,zS,zI,zT,zI,zS,zI]),zs 7 16 138]
 (Q bID
 (zK [m 150 18,zbk .eql 151 55 150 0,m 152 151,zgD 153 152 T 4 17,zgl 154 152 T 153,zgn 155 152 T 154,zgk .gtr 156 152 T 3 155 8,zpf 157 152 156]
 (zr 157 4))))))))
 (zj 158 93))))
def aIU:aF:=.loop mm
def f4:aF:=(zK [zbx 2 0,zbf 4]
 (Q (zK [zD 19 1 2,l 20 19,zln 21 20,zbk .gtr 22 3 21 3,m 23 22,zgD 24 23 F 2 2,zgl 25 23 F 24,zgn 26 23 F 25,zgk .gtr 27 23 F 3 26 6,zpt 28 23 27,m 29 28,zgD 30 29 F 0 2,zgl 31 29 F 30,zgn 32 29 F 31,zgk .gtr 33 29 F 3 32 5,zpt 34 29 33,m 35 34,zgm 36 35 F 1,zgn 37 35 F 36,zgk .gtr 38 35 F 3 37 4,zpt 39 35 38,m 40 39,zgL 41 40 F 3 2,zgc 42 40 F 12 41,zg 43 40 F (.un .not (.t 42)),zpt 44 40 43]
 (zr 44 4))
 (Q (zK [zD 45 1 2,l 46 45,zln 47 46,n 48 0]
 (.block 0 aIY))
 (Q (zK [m 57 1,zln 58 57,n 59 0]
 (.block 2 aIX))
 (Q bIE
 (Q (zK [m 79 9,zln 80 79,n 81 0]
 (.block 4 aIW))
 (Q (zK [zD 90 2 2,l 91 90,zln 92 91,n 93 0]
 (.block 6 aIU))
 (zK [zbt 4]
 .ret))))))))
def aIZ:ax:=⟨f4,[.tmp 4]⟩
theorem bSD:aR ib 4=some aIZ:=kr
def aAP:aF:=(zK [zbv .lss 12 3 11 10]
 (zx 12 0
 (Q (.block 1 (zK [zX 13 2 9 11,zL 14 2 13,zo 7 (.alloc [zT,zS]),zs 2 7 14]
 (R [m 15 5,m 16 1,zL 17 2 7,zc2 18 26 16 17,zo 19 (.buildSlice 1 1 [zS] [(0,1,(.t 18))]),zo 20 (A 1 24 (.t 15) (.t 19)),m 5 20])))
 (zj 21 11))))
def aIT:aF:=.loop aAP
def f6:aF:=(zK [zbx 2 0,zns 4]
 (zK [zns 5]
 (Q (zK [zD 8 1 2,l 9 8,zln 10 9,n 11 0]
 (.block 0 aIT))
 (zK [m 22 5,m 4 22]
 .ret))))
def bIA:ax:=⟨f6,[.tmp 4]⟩
theorem bSC:aR ib 6=some bIA:=kr
def aAO:aF:=(zK [zbv .lss 12 3 11 10]
 (zx 12 0
 (Q (.block 1 (zK [zX 13 2 9 11,zL 14 2 13,zo 7 (.alloc [zT,zS]),zs 2 7 14]
 (R [m 15 5,m 16 1,zL 17 2 7,zc2 18 27 16 17,zo 19 (.buildSlice 1 1 [zS] [(0,1,(.t 18))]),zo 20 (A 1 24 (.t 15) (.t 19)),m 5 20])))
 (zj 21 11))))
def aIR:aF:=.loop aAO
def f7:aF:=(zK [zbx 2 0,zns 4]
 (zK [zns 5]
 (Q (zK [zD 8 1 2,l 9 8,zln 10 9,n 11 0]
 (.block 0 aIR))
 (zK [m 22 5,m 4 22]
 .ret))))
def bHZ:ax:=⟨f7,[.tmp 4]⟩
theorem bSB:aR ib 7=some bHZ:=kr
def aAK:aF:=(zK [zbv .lss 14 3 13 12]
 (zx 14 0
 (Q (.block 1 (zK [m 15 13,m 5 15]
 (zK [zns 6,zns 7]
 (Q (zK [m 16 5,m 17 0,zln 18 17,zbv .lss 19 3 16 18]
 (C (.t 19) (R [m 20 0,m 21 5,zX 22 1 20 21,l 23 22,m 6 23]) .skip))
 (Q (zK [m 24 5,m 25 1,zln 26 25,zbv .lss 27 3 24 26]
 (C (.t 27) (R [m 28 1,m 29 5,zX 30 1 28 29,l 31 30,m 7 31]) .skip))
 (zK [m 32 6,m 33 7,zc2 34 28 32 33,zun 35 34]
 (zr 35 4)))))))
 (zj 36 13))))
def aIP:aF:=.loop aAK
def f8:aF:=(zK [zbf 4]
 (Q (zK [m 8 0,zln 9 8,m 10 1,zln 11 10,zo 12 (.maxI [.t 9,.t 11]),n 13 0]
 (.block 0 aIP))
 (zK [zbt 4]
 .ret)))
def bHY:ax:=⟨f8,[.tmp 4]⟩
theorem bSA:aR ib 8=some bHY:=kr
def aVA:List DOp:=[zdm 16 0 [],zdm 17 5 [0],zdX 18 5 16 17 [],zdD 19 0 18 [],zdl 20 19 [],zdm 21 1 [0,1,2,3,4],zdm 22 5 [0,1,2,3,4,5],zdX 23 5 21 22 [0,1,2,3,4],zdD 24 0 23 [0,1,2,3,4],zdl 25 24 [0,1,2,3,4],⟨zbv .neq 26 9 20 25,[20,25],[]⟩,zdm 27 26 [],⟨zgm 28 27 F 0,[0,27],[]⟩,⟨zgm 29 27 F 5,[5,27],[12]⟩,⟨zgX 30 27 F 5 28 29,[28,29,27],[]⟩,⟨zgD 31 27 F 1 30,[30,27],[]⟩,⟨zgL 32 27 F 4 31,[31,27],[]⟩,⟨zgm 33 27 F 1,[1,27],[12,13,14,15,16]⟩,⟨zgm 34 27 F 5,[5,27],[12,13,14,15,16,17]⟩,⟨zgX 35 27 F 5 33 34,[33,34,27],[12,13,14,15,16]⟩,⟨zgD 36 27 F 1 35,[35,27],[12,13,14,15,16]⟩,⟨zgL 37 27 F 4 36,[36,27],[12,13,14,15,16]⟩,⟨zge 38 27 F 21 32 37,[32,37,27],[]⟩,⟨zg 39 27 F (.un .not (.t 38)),[38,27],[]⟩,⟨zpt 40 27 39,[27,39],[]⟩]
def bHX:aF:=.draw aVA
def aAI:aF:=(zK [zbv .lss 14 3 13 12]
 (zx 14 0
 (Q (.block 1 (zK [m 15 13,m 5 15]
 (Q bHX
 (zr 40 4))))
 (zj 41 13))))
def aIN:aF:=.loop aAI
def f9:aF:=(zK [zbf 4]
 (Q (zK [m 6 0,zln 7 6,m 8 1,zln 9 8,zbv .neq 10 3 7 9]
 (zr 10 4))
 (Q (zK [m 11 0,zln 12 11,n 13 0]
 (.block 0 aIN))
 (zK [zbt 4]
 .ret))))
def bHW:ax:=⟨f9,[.tmp 4]⟩
theorem bRZ:aR ib 9=some bHW:=kr
def qY:List DOp:=[zdm 16 5 [],zdD 17 0 7 [0],zdl 18 17 [0],zdm 19 1 [0,1,2],zdm 20 6 [0,1,2,3],zde 21 30 19 20 [0,1,2],zdc 22 29 21 [0,1,2],⟨zo 23 (.build [zT,zI,zT,zI,zS] [(0,1,(.t 18)),(1,4,(.t 22))]),[18,22],[0]⟩,⟨zo 24 (.buildSlice 5 1 [zT,zI,zT,zI,zS] [(0,5,(.t 23))]),[23],[0]⟩,⟨zo 25 (A 5 72 (.t 16) (.t 24)),[16,24],[]⟩,zdm 5 25 []]
def aYZ:aF:=.draw qY
def rH:aF:=(zK [zbv .lss 12 3 11 10]
 (zx 12 0
 (Q (.block 1 (zK [m 13 11,zX 14 2 9 11,zL 15 2 14,zo 7 (.alloc [zT,zS]),m 6 13,zs 2 7 15]
 aYZ))
 (zj 26 11))))
def Vw:aF:=.loop rH
def f10:aF:=(zK [zbx 2 0,zns 4]
 (zK [zns 5]
 (Q (zK [zD 8 1 2,l 9 8,zln 10 9,n 11 0]
 (.block 0 Vw))
 (zK [m 27 5,m 4 27]
 .ret))))
def aYY:ax:=⟨f10,[.tmp 4]⟩
theorem bNU:aR ib 10=some aYY:=kr
def qq:List DOp:=[zdm 16 5 [],zdD 17 0 7 [0],zdl 18 17 [0],zdm 19 1 [0,1,2],zdm 20 6 [0,1,2,3],zde 21 32 19 20 [0,1,2],zdc 22 31 21 [0,1,2],⟨zo 23 (.build [zT,zI,zT,zI,zS] [(0,1,(.t 18)),(1,4,(.t 22))]),[18,22],[0]⟩,⟨zo 24 (.buildSlice 5 1 [zT,zI,zT,zI,zS] [(0,5,(.t 23))]),[23],[0]⟩,⟨zo 25 (A 5 72 (.t 16) (.t 24)),[16,24],[]⟩,zdm 5 25 []]
def aYX:aF:=.draw qq
def qK:aF:=(zK [zbv .lss 12 3 11 10]
 (zx 12 0
 (Q (.block 1 (zK [m 13 11,zX 14 2 9 11,zL 15 2 14,zo 7 (.alloc [zT,zS]),m 6 13,zs 2 7 15]
 aYX))
 (zj 26 11))))
def Vv:aF:=.loop qK
def f11:aF:=(zK [zbx 2 0,zns 4]
 (zK [zns 5]
 (Q (zK [zD 8 1 2,l 9 8,zln 10 9,n 11 0]
 (.block 0 Vv))
 (zK [m 27 5,m 4 27]
 .ret))))
def aYW:ax:=⟨f11,[.tmp 4]⟩
theorem bNT:aR ib 11=some aYW:=kr
def ng:aF:=(Q (zK [m 12 4,zD 13 2 1,l 14 13,m 15 3,zX 16 7 14 15,zD 17 1 16,l 18 17,zln 19 18,zbv .lss 20 3 12 19]
 (C (.t 20) .skip (.exit 2)))
 (Q (.block 3 (zK [zD 23 2 1,l 24 23,m 25 3,zX 26 7 24 25,zD 27 1 26,l 28 27,m 29 4,zX 30 4 28 29,zL 31 4 30,zc1 32 33 31,zbk .gtr 33 3 32 2]
 (zr 33 2)))
 (R [m 21 4,zbk .add 22 3 21 1,m 4 22])))
def Vq:aF:=.loop ng
def qL:aF:=(Q (zK [m 5 3,zD 6 2 1,l 7 6,zln 8 7,zbv .lss 9 3 5 8]
 (C (.t 9) .skip (.exit 0)))
 (Q (.block 1 (Q (zK [n 4 0]
 (.block 2 Vq))
 (zK [zD 34 2 1,l 35 34,m 36 3,zX 37 7 35 36,zD 38 2 37,zL 39 4 38,zc1 40 33 39,zbk .gtr 41 3 40 2]
 (zr 41 2))))
 (R [m 10 3,zbk .add 11 3 10 1,m 3 11])))
def Vp:aF:=.loop qL
def f12:aF:=(zK [zbx 1 0,zbf 2]
 (Q (zK [n 3 0]
 (.block 0 Vp))
 (zK [zbt 2]
 .ret)))
def aYV:ax:=⟨f12,[.tmp 2]⟩
theorem bNS:aR ib 12=some aYV:=kr
def po:aF:=(zK [zbv .lss 10 3 9 8]
 (zx 10 0
 (Q (.block 1 (zK [zX 11 4 7 9,zL 12 4 11,zo 5 (.alloc zA),zs 4 5 12]
 (R [m 13 3,zL 14 4 5,zc1 15 13 14,zbv .add 16 3 13 15,m 3 16])))
 (zj 17 9))))
def Vn:aF:=.loop po
def f13:aF:=(zK [zbx 1 0,n 2 0]
 (zK [n 3 1]
 (Q (zK [zD 6 3 1,l 7 6,zln 8 7,n 9 0]
 (.block 0 Vn))
 (zK [m 18 3,m 2 18]
 .ret))))
def aYU:ax:=⟨f13,[.tmp 2]⟩
theorem bNR:aR ib 13=some aYU:=kr
def rM:aF:=(zK [zbv .lss 10 3 9 8]
 (zx 10 0
 (Q (.block 1 (zK [zX 11 4 7 9,zL 12 4 11,zo 5 (.alloc zA),zs 4 5 12]
 (R [m 13 3,zL 14 4 5,zc1 15 14 14,zo 16 (.maxI [.t 13,.t 15]),m 3 16])))
 (zj 17 9))))
def Vm:aF:=.loop rM
def f14:aF:=(zK [zbx 1 0,n 2 0]
 (zK [n 3 0]
 (Q (zK [zD 6 3 1,l 7 6,zln 8 7,n 9 0]
 (.block 0 Vm))
 (zK [m 18 3,zbk .add 19 3 18 1,m 2 19]
 .ret))))
def aYT:ax:=⟨f14,[.tmp 2]⟩
theorem bNQ:aR ib 14=some aYT:=kr
def aYP:List DOp:=[⟨zo 9 (.buildSlice 2 0 [] []),[],[]⟩,zdD 10 0 5 [0],zdl 11 10 [0],⟨zo 12 (A 2 32 (.t 9) (.t 11)),[9,11],[]⟩,zdD 13 2 5 [0,1,2,3],zdL 14 4 13 [0,1,2,3],zdD 15 1 3 [0,1,2,3,4,5],zdl 16 15 [0,1,2,3,4,5],zdm 17 1 [0,1,2,3,4,5,6,7],⟨zo 18 (.call 34 [.t 14,.t 16,.t 17]),[14,16,17],[]⟩,zdD 19 6 5 [0,1,2,3,4,5,6,7,8,9],zdl 20 19 [0,1,2,3,4,5,6,7,8,9],⟨zo 21 (.build [zS,zS,zI,zT,zI,zS,zI] [(0,1,(.t 12)),(2,4,(.t 18)),(6,1,(.t 20))]),[12,18,20],[]⟩,⟨zo 7 (.alloc [zS,zS,zI,zT,zI,zS,zI]),[],[0,1,2,3,4,5,6,7,8,9,10,11,12]⟩,⟨zs 7 7 21,[7,21],[]⟩]
def aYS:aF:=.draw aYP
def aYO:List DOp:=[zdD 29 1 7 [],zdl 30 29 [],zdD 31 1 5 [0,1],zdl 32 31 [0,1],zdm 33 8 [0,1,2,3],zdX 34 4 32 33 [0,1],zdL 35 4 34 [0,1],zdD 36 1 3 [0,1,2,3,4,5,6],zdl 37 36 [0,1,2,3,4,5,6],zdm 38 1 [0,1,2,3,4,5,6,7,8],⟨zo 39 (.call 34 [.t 35,.t 37,.t 38]),[35,37,38],[0,1]⟩,⟨zo 40 (.buildSlice 4 1 zA [(0,4,(.t 39))]),[39],[0,1]⟩,⟨zo 41 (A 4 56 (.t 30) (.t 40)),[30,40],[]⟩,zdD 42 1 7 [],⟨zs 1 42 41,[42,41],[]⟩]
def aYR:aF:=.draw aYO
def rS:aF:=(Q (zK [m 22 8,zD 23 1 5,l 24 23,zln 25 24,zbv .lss 26 3 22 25]
 (C (.t 26) .skip (.exit 0)))
 (Q (.block 1 aYR)
 (R [m 27 8,zbk .add 28 3 27 1,m 8 28])))
def Vj:aF:=.loop rS
def f15:aF:=(zK [zbx 3 0,zbx 5 2,zo 6 (.alloc [zS,zS,zI,zT,zI,zS,zI])]
 (Q aYS
 (Q (zK [n 8 0]
 (.block 0 Vj))
 (zK [zL 43 7 7,zs 7 6 43]
 .ret))))
def aYQ:ax:=⟨f15,[.cell 6 (S 7)]⟩
theorem bNP:aR ib 15=some aYQ:=kr
def aYL:List DOp:=[zdL 12 3 3 [],zdm 13 8 [0],zdL 14 4 5 [0,1],zdc 15 36 14 [0,1],⟨zo 16 (.buildSlice 4 1 zA [(0,4,(.t 15))]),[15],[0,1]⟩,⟨zo 17 (A 4 56 (.t 13) (.t 16)),[13,16],[0]⟩,zdc 18 31 17 [0],zde 19 35 12 18 [],⟨zex 20 0 19,[19],[]⟩,⟨zex 21 1 19,[19],[8]⟩,⟨zs 5 6 20,[6,20],[]⟩,zdm 7 21 []]
def aYN:aF:=.draw aYL
def f16:aF:=(zK [zbx 3 0,zbx 5 2,zo 6 (.alloc [zI,zT,zI,zS,zS]),n 7 0]
 (zK [zo 9 (.buildSlice 4 0 [] []),m 10 1,zo 11 (A 4 56 (.t 9) (.t 10)),m 8 11]
 (Q aYN
 .ret)))
def aYM:ax:=⟨f16,[.cell 6 (S 5),.tmp 7]⟩
theorem bNO:aR ib 16=some aYM:=kr
def f17:aF:=(zK [zbx 2 0,zbx 3 1,zo 4 (.alloc [zS,zS,zS])]
 (zK [zD 5 0 3,l 6 5,zD 7 0 2,l 8 7,zD 9 1 2,l 10 9,zo 11 (.build [zS,zS,zS] [(0,1,(.t 6)),(1,1,(.t 8)),(2,1,(.t 10))]),zs 3 4 11]
 .ret))
def aYK:ax:=⟨f17,[.cell 4 (S 3)]⟩
theorem bNN:aR ib 17=some aYK:=kr
def aYH:List DOp:=[zdD 40 3 2 [],zdl 41 40 [],zdm 42 5 [0,1],zdX 43 4 41 42 [],zdL 44 4 43 [],zdD 45 3 3 [0,1,2,3,4],zdl 46 45 [0,1,2,3,4],zdm 47 5 [0,1,2,3,4,5,6],zdX 48 4 46 47 [0,1,2,3,4],zdL 49 4 48 [0,1,2,3,4],zde 50 21 44 49 [],⟨zun 51 50,[50],[]⟩]
def aYJ:aF:=.draw aYH
def rK:aF:=(zK [zbv .lss 38 3 37 36]
 (zx 38 0
 (Q (.block 1 (zK [m 39 37,m 5 39]
 (Q aYJ
 (zr 51 4))))
 (zj 52 37))))
def Uv:aF:=.loop rK
def f21:aF:=(zK [zbx 2 0,zbx 3 1,zbf 4]
 (Q (zK [zD 6 0 2,l 7 6,zD 8 0 3,l 9 8,zbv .neq 10 40 7 9,m 11 10,zgD 12 11 F 1 2,zgl 13 11 F 12,zgD 14 11 F 1 3,zgl 15 11 F 14,zg 16 11 F (.bin .neq 9 F (.t 13) (.t 15)),zpt 17 11 16,m 18 17,zgD 19 18 F 2 2,zgl 20 18 F 19,zgD 21 18 F 2 3,zgl 22 18 F 21,zg 23 18 F (.bin .neq 3 F (.t 20) (.t 22)),zpt 24 18 23,m 25 24,zgD 26 25 F 3 2,zgl 27 25 F 26,zgn 28 25 F 27,zgD 29 25 F 3 3,zgl 30 25 F 29,zgn 31 25 F 30,zg 32 25 F (.bin .neq 3 F (.t 28) (.t 31)),zpt 33 25 32]
 (zr 33 4))
 (Q (zK [zD 34 3 2,l 35 34,zln 36 35,n 37 0]
 (.block 0 Uv))
 (zK [zbt 4]
 .ret))))
def nE:ax:=⟨f21,[.tmp 4]⟩
theorem bNM:aR ib 21=some nE:=kr
def nD:aF:=(zK [zbv .lss 21 3 20 19]
 (zx 21 2
 (Q (.block 3 (zK [zX 22 4 18 20,zL 23 4 22,zo 9 (.alloc zA),zs 4 9 23]
 (zK [m 24 5,zln 25 24,zbk .lss 26 3 25 100,m 27 26,zgm 28 27 T 5,zg 29 27 T (.fy (.func 47) [] [.t 9]),zge 30 27 T 46 28 29,zg 31 27 T (.un .not (.t 30)),zpf 32 27 31]
 (C (.t 32) (R [m 33 5,zL 34 4 9,zo 35 (.buildSlice 4 1 zA [(0,4,(.t 34))]),zo 36 (A 4 56 (.t 33) (.t 35)),m 5 36]) .skip))))
 (zj 37 20))))
def Us:aF:=.loop nD
def qM:aF:=(zK [zbv .lss 13 3 12 11]
 (zx 13 0
 (Q (.block 1 (zK [zX 14 6 10 12,zL 15 6 14,zo 7 (.alloc [zT,zS,zI,zT,zI,zS]),zs 6 7 15]
 (zK [zL 16 6 7,zL 17 2 3,zc2 18 45 16 17,zln 19 18,n 20 0]
 (.block 2 Us))))
 (zj 38 12))))
def Ur:aF:=.loop qM
def f26:aF:=(zK [zbx 3 1,zns 4]
 (zK [zns 5]
 (Q (zK [m 10 0,zln 11 10,n 12 0]
 (.block 0 Ur))
 (zK [m 39 5,m 4 39]
 .ret))))
def aYG:ax:=⟨f26,[.tmp 4]⟩
theorem bNL:aR ib 26=some aYG:=kr
def aYD:List DOp:=[zdm 15 0 [],zdm 16 6 [0],zdX 17 6 15 16 [],zdL 18 6 17 [],zdL 19 2 3 [0,1,2,3],zde 20 49 18 19 [],zdm 7 20 []]
def aYF:aF:=.draw aYD
def nW:aF:=(Q (zK [m 21 8,m 22 7,zln 23 22,zbv .lss 24 3 21 23]
 (C (.t 24) .skip (.exit 2)))
 (Q (.block 3 (zK [m 27 5,zln 28 27,zbk .lss 29 3 28 100,m 30 29,zgm 31 30 T 5,zgm 32 30 T 7,zgm 33 30 T 8,zgX 34 30 T 4 32 33,zgL 35 30 T 4 34,zge 36 30 T 50 31 35,zg 37 30 T (.un .not (.t 36)),zpf 38 30 37]
 (C (.t 38) (R [m 39 5,m 40 7,m 41 8,zX 42 4 40 41,zL 43 4 42,zo 44 (.buildSlice 4 1 zA [(0,4,(.t 43))]),zo 45 (A 4 56 (.t 39) (.t 44)),m 5 45]) .skip)))
 (R [m 25 8,zbk .add 26 3 25 1,m 8 26])))
def Up:aF:=.loop nW
def pz:aF:=(Q (zK [m 9 6,m 10 0,zln 11 10,zbv .lss 12 3 9 11]
 (C (.t 12) .skip (.exit 0)))
 (Q (.block 1 (Q aYF
 (zK [n 8 0]
 (.block 2 Up))))
 (R [m 13 6,zbk .add 14 3 13 1,m 6 14])))
def Uo:aF:=.loop pz
def f27:aF:=(zK [zbx 3 1,zns 4]
 (zK [zns 5]
 (Q (zK [n 6 0]
 (.block 0 Uo))
 (zK [m 46 5,m 4 46]
 .ret))))
def aYE:ax:=⟨f27,[.tmp 4]⟩
theorem bNK:aR ib 27=some aYE:=kr
def aYA:List DOp:=[zdm 16 0 [],zdm 17 5 [0],zdX 18 4 16 17 [],zdL 19 4 18 [],zdm 20 1 [0,1,2,3],zdm 21 5 [0,1,2,3,4],zdX 22 4 20 21 [0,1,2,3],zdL 23 4 22 [0,1,2,3],zde 24 21 19 23 [],⟨zun 25 24,[24],[]⟩]
def aYC:aF:=.draw aYA
def pY:aF:=(zK [zbv .lss 14 3 13 12]
 (zx 14 0
 (Q (.block 1 (zK [m 15 13,m 5 15]
 (Q aYC
 (zr 25 4))))
 (zj 26 13))))
def Un:aF:=.loop pY
def f28:aF:=(zK [zbf 4]
 (Q (zK [m 6 0,zln 7 6,m 8 1,zln 9 8,zbv .neq 10 3 7 9]
 (zr 10 4))
 (Q (zK [m 11 0,zln 12 11,n 13 0]
 (.block 0 Un))
 (zK [zbt 4]
 .ret))))
def aGN:ax:=⟨f28,[.tmp 4]⟩
theorem bNJ:aR ib 28=some aGN:=kr
def aGK:List DOp:=[zdL 20 4 6 [],⟨zo 21 (.call 51 [.c (V (.bool F))]),[],[0]⟩,zde 22 48 20 21 [],zdm 19 22 []]
def aXZ:aF:=.draw aGK
def qf:List DOp:=[zdL 26 4 3 [],zdL 27 4 6 [0],zdc 28 53 27 [0],⟨zo 29 (.buildSlice 4 2 [zI,zT,zI,zS,zI,zT,zI,zS] [(0,4,(.t 26)),(4,4,(.t 28))]),[26,28],[]⟩,⟨zo 30 (.build zA [(0,1,(.c (V (I .i64 15)))),(3,1,(.t 29))]),[29],[]⟩,⟨zs 4 3 30,[3,30],[]⟩]
def aXY:aF:=.draw qf
def lU:aF:=(zK [zbv .lss 11 3 10 9]
 (zx 11 0
 (Q (.block 1 (zK [zX 12 4 8 10,zL 13 4 12,zo 6 (.alloc zA),zs 4 6 13]
 (.block 2 (zK [zL 17 4 6,zc1 18 52 17,m 16 18]
 (C (.t 16) (.exit 1) (Q aXZ
 (C (.t 19) (zK [zo 23 (.call 51 [.c (V (.bool F))]),zs 4 2 23]
 .ret) (zK [m 25 4,m 24 25]
 (C (.t 24) aXY (R [zL 14 4 6,zc1 15 53 14,zs 4 3 15,zbt 4]))))))))))
 (zj 31 10))))
def ph:aF:=.loop lU
def f29:aF:=(zK [zo 2 (.alloc zA)]
 (zK [zo 7 (.call 51 [.c (V (.bool T))]),zo 3 (.alloc zA),zs 4 3 7,zbf 4]
 (Q (zK [m 8 0,zln 9 8,n 10 0]
 (.block 0 ph))
 (zK [zL 32 4 3,zs 4 2 32]
 .ret))))
def aXX:ax:=⟨f29,[.cell 2 (S 4)]⟩
theorem bNI:aR ib 29=some aXX:=kr
def f30:aF:=(zK [zns 4]
 (Q (zK [m 5 1,m 6 0,zln 7 6,zbv .lss 8 3 5 7]
 (C (.t 8) (zK [m 9 0,m 10 1,zX 11 1 9 10,l 12 11,m 4 12]
 .ret) .skip))
 (zK [zns 4]
 .ret)))
def aGJ:ax:=⟨f30,[.tmp 4]⟩
theorem bNH:aR ib 30=some aGJ:=kr
def aGH:List DOp:=[zdL 13 4 5 [],⟨zo 14 (.call 55 []),[],[0]⟩,zde 15 21 13 14 []]
def aXW:aF:=.draw aGH
def qW:aF:=(zK [zbv .lss 10 3 9 8]
 (zx 10 0
 (Q (.block 1 (zK [zX 11 4 7 9,zL 12 4 11,zo 5 (.alloc zA),zs 4 5 12]
 (Q (Q aXW
 (C (.t 15) (zK [zo 16 (.call 55 []),zs 4 2 16]
 .ret) .skip))
 (Q (zK [zL 17 4 5,zc1 18 56 17]
 (C (.t 18) (.exit 1) .skip))
 (zK [zL 19 4 3,zc1 20 56 19]
 (C (.t 20) (R [zL 21 4 5,zs 4 3 21]) (R [zL 22 4 3,zL 23 4 5,zo 24 (.buildSlice 4 2 [zI,zT,zI,zS,zI,zT,zI,zS] [(0,4,(.t 22)),(4,4,(.t 23))]),zo 25 (.build zA [(0,1,(.c (V (I .i64 15)))),(3,1,(.t 24))]),zs 4 3 25])))))))
 (zj 26 9))))
def Um:aF:=.loop qW
def f31:aF:=(zK [zo 2 (.alloc zA)]
 (zK [zo 6 (.call 54 []),zo 3 (.alloc zA),zs 4 3 6]
 (Q (zK [m 7 0,zln 8 7,n 9 0]
 (.block 0 Um))
 (zK [zL 27 4 3,zs 4 2 27]
 .ret))))
def aXV:ax:=⟨f31,[.cell 2 (S 4)]⟩
theorem bNG:aR ib 31=some aXV:=kr
def f32:aF:=(zK [zns 4]
 (Q (zK [m 5 1,m 6 0,zln 7 6,zbv .lss 8 3 5 7]
 (C (.t 8) (zK [m 9 0,m 10 1,zX 11 1 9 10,l 12 11,m 4 12]
 .ret) .skip))
 (zK [zns 4]
 .ret)))
def aGG:ax:=⟨f32,[.tmp 4]⟩
theorem bNF:aR ib 32=some aGG:=kr
def pw:aF:=(Q (zK [m 5 4,zD 6 3 1,l 7 6,zln 8 7,zbv .lss 9 3 5 8]
 (C (.t 9) .skip (.exit 0)))
 (Q (.block 1 (R [m 12 3,zD 13 3 1,l 14 13,m 15 4,zX 16 4 14 15,zL 17 4 16,zc1 18 33 17,zo 19 (.maxI [.t 12,.t 18]),m 3 19]))
 (R [m 10 4,zbk .add 11 3 10 1,m 4 11])))
def Ul:aF:=.loop pw
def f33:aF:=(zK [zbx 1 0,n 2 0]
 (zK [n 3 0]
 (Q (zK [n 4 0]
 (.block 0 Ul))
 (Q (zK [zD 20 0 1,l 21 20,zbk .eql 22 40 21 5]
 (C (.t 22) (R [m 23 3,zbk .add 24 3 23 1,m 3 24]) .skip))
 (zK [m 25 3,m 2 25]
 .ret)))))
def aXU:ax:=⟨f33,[.tmp 2]⟩
theorem bNE:aR ib 33=some aXU:=kr
def qm:aF:=(zK [zbv .lss 15 3 14 13]
 (zx 15 0
 (Q (.block 1 (zK [zX 16 4 12 14,zL 17 4 16,zo 9 (.alloc zA),zs 4 9 17]
 (R [m 18 7,zL 19 4 9,m 20 1,m 21 2,zo 22 (.call 34 [.t 19,.t 20,.t 21]),zo 23 (.buildSlice 4 1 zA [(0,4,(.t 22))]),zo 24 (A 4 56 (.t 18) (.t 23)),m 7 24])))
 (zj 25 14))))
def Uk:aF:=.loop qm
def f34:aF:=(zK [zbx 3 0,zo 6 (.alloc zA)]
 (zK [zns 7]
 (Q (zK [zD 11 3 3,l 12 11,zln 13 12,n 14 0]
 (.block 0 Uk))
 (zK [zL 26 4 3,m 27 7,zc2 28 57 26 27,zo 10 (.alloc zA),zs 4 10 28]
 (Q (zK [zD 29 0 3,l 30 29,zbk .eql 31 40 30 5]
 (C (.t 31) (zK [zL 32 4 10,m 33 1,m 34 2,zo 35 (.call 58 [.t 32,.t 33,.t 34]),zs 4 6 35]
 .ret) .skip))
 (zK [zL 36 4 10,zs 4 6 36]
 .ret))))))
def aXT:ax:=⟨f34,[.cell 6 (S 4)]⟩
theorem bND:aR ib 34=some aXT:=kr
def aXR:List DOp:=[zdL 36 3 2 [],zdL 37 4 3 [0],zdc 38 64 37 [0],zde 39 63 36 38 [],zdm 9 39 []]
def Uj:aF:=.draw aXR
def rG:aF:=(Q (zK [m 40 10,m 41 9,zln 42 41,zbv .lss 43 3 40 42]
 (C (.t 43) .skip (.exit 0)))
 (Q (.block 1 (R [m 46 8,m 47 7,m 48 9,m 49 10,zX 50 4 48 49,zL 51 4 50,zc2 52 62 47 51,zo 53 (.buildSlice 4 1 zA [(0,4,(.t 52))]),zo 54 (A 4 56 (.t 46) (.t 53)),m 8 54]))
 (R [m 44 10,zbk .add 45 3 44 1,m 10 45])))
def m9:aF:=.loop rG
def aXQ:List DOp:=[zdm 64 8 [],zdm 65 7 [0],zdm 66 7 [0,1],⟨zo 67 (.cE (.t 66)),[66],[0,1]⟩,zdD 68 4 67 [0,1],zdl 69 68 [0,1],zdm 70 11 [0,1,2,3,4,5],zdX 71 4 69 70 [0,1],zdL 72 4 71 [0,1],⟨zo 73 (.call 66 [.t 72,.c (V (I .i64 (-1))),.c (V (I .i64 0))]),[72],[0,1]⟩,zde 74 65 65 73 [0],zdm 75 7 [0,1,2,3,4,5,6,7,8,9,10],zdm 76 7 [0,1,2,3,4,5,6,7,8,9,10,11],⟨zo 77 (.cE (.t 76)),[76],[0,1,2,3,4,5,6,7,8,9,10,11]⟩,zdD 78 4 77 [0,1,2,3,4,5,6,7,8,9,10,11],zdl 79 78 [0,1,2,3,4,5,6,7,8,9,10,11],zdm 80 11 [0,1,2,3,4,5,6,7,8,9,10,11,12,13,14,15],zdX 81 4 79 80 [0,1,2,3,4,5,6,7,8,9,10,11],zdL 82 4 81 [0,1,2,3,4,5,6,7,8,9,10,11],⟨zo 83 (.call 66 [.t 82,.c (V (I .i64 1)),.c (V (I .i64 (-1)))]),[82],[0,11]⟩,zde 84 65 75 83 [0],⟨zo 85 (.buildSlice 4 2 [zI,zT,zI,zS,zI,zT,zI,zS] [(0,4,(.t 74)),(4,4,(.t 84))]),[74,84],[0]⟩,⟨zo 86 (A 4 56 (.t 64) (.t 85)),[64,85],[]⟩,zdm 8 86 []]
def aXS:aF:=.draw aXQ
def rJ:aF:=(Q (zK [m 55 11,m 56 7,zo 57 (.cE (.t 56)),zD 58 4 57,l 59 58,zln 60 59,zbv .lss 61 3 55 60]
 (C (.t 61) .skip (.exit 2)))
 (Q (.block 3 aXS)
 (R [m 62 11,zbk .add 63 3 62 1,m 11 63])))
def m8:aF:=.loop rJ
def aGE:List DOp:=[zdm 97 8 [],zdc 98 31 97 [],zdm 99 7 [0,1],⟨zo 100 (.cE (.t 99)),[99],[0,1]⟩,zdD 101 3 100 [0,1],zdl 102 101 [0,1],⟨zo 103 (.build [zI,zT,zI,zS,zS] [(0,4,(.t 98)),(4,1,(.t 102))]),[98,102],[]⟩,⟨zs 5 4 103,[4,103],[]⟩,⟨n 5 0,[],[]⟩]
def Ui:aF:=.draw aGE
def f35:aF:=(zK [zbx 2 0,zbx 3 1,zo 4 (.alloc [zI,zT,zI,zS,zS]),n 5 0]
 (zK [zL 12 3 2,zL 13 4 3,zc2 14 59 12 13,m 6 14]
 (Q (zK [m 15 6,zbk .neq 16 55 15 0]
 (C (.t 16) (zK [zo 17 (.build [zI,zT,zI,zS,zS] []),m 18 6,zs 5 4 17,m 5 18]
 .ret) .skip))
 (Q (zK [zL 19 4 3,zc1 20 60 19,zln 21 20,zbk .gtr 22 3 21 0]
 (C (.t 22) (zK [zo 23 (.build [zI,zT,zI,zS,zS] []),zs 5 4 23,n 5 6]
 .ret) .skip))
 (zK [zL 24 3 2,zo 25 (.build [zS,zS,zS,zS,zS,V (.bool F),V (.bool F)] [(0,3,(.t 24))]),zbx 26 25,m 7 26]
 (zK [zns 8]
 (Q (zK [zL 27 4 3,zc1 28 61 27,zun 29 28]
 (C (.t 29) (R [m 30 8,m 31 7,zL 32 4 3,zc2 33 62 31 32,zo 34 (.buildSlice 4 1 zA [(0,4,(.t 33))]),zo 35 (A 4 56 (.t 30) (.t 34)),m 8 35]) .skip))
 (Q Uj
 (Q (zK [n 10 0]
 (.block 0 m9))
 (Q (zK [n 11 0]
 (.block 2 m8))
 (Q (zK [m 87 7,zo 88 (.cE (.t 87)),zD 89 6 88,l 90 89]
 (C (.t 90) (zK [zo 91 (.build [zI,zT,zI,zS,zS] []),zs 5 4 91,n 5 2]
 .ret) .skip))
 (Q (zK [m 92 7,zo 93 (.cE (.t 92)),zD 94 5 93,l 95 94]
 (C (.t 95) (zK [zo 96 (.build [zI,zT,zI,zS,zS] []),zs 5 4 96,n 5 7]
 .ret) .skip))
 (Q Ui
 .ret)))))))))))))
def pZ:ax:=⟨f35,[.cell 4 (S 5),.tmp 5]⟩
theorem bNC:aR ib 35=some pZ:=kr
def aGB:List DOp:=[zdL 19 4 1 [],⟨zo 20 (.call 55 []),[],[0]⟩,zde 21 21 19 20 []]
def aGD:aF:=.draw aGB
def f36:aF:=(zK [zbx 1 0,zo 2 (.alloc zA)]
 (Q (zK [zD 3 0 1,l 4 3,zbk .eql 5 40 4 14,m 6 5,zgD 7 6 T 3 1,zgl 8 6 T 7,zgn 9 6 T 8,zgk .eql 10 6 T 3 9 1,zpf 11 6 10]
 (C (.t 11) (zK [zD 12 3 1,l 13 12,zo 14 (X 4 (.t 13) (.c (V (I .i64 0)))),zL 15 4 14,zs 4 2 15]
 .ret) .skip))
 (Q (zK [zL 16 4 1,zc1 17 56 16]
 (C (.t 17) (zK [zo 18 (.call 55 []),zs 4 2 18]
 .ret) .skip))
 (Q (Q aGD
 (C (.t 21) (zK [zo 22 (.call 54 []),zs 4 2 22]
 .ret) .skip))
 (zK [zL 23 4 1,zo 24 (.buildSlice 4 1 zA [(0,4,(.t 23))]),zo 25 (.build zA [(0,1,(.c (V (I .i64 14)))),(3,1,(.t 24))]),zs 4 2 25]
 .ret)))))
def ny:ax:=⟨f36,[.cell 2 (S 4)]⟩
theorem bNA:aR ib 36=some ny:=kr
def oW:aF:=(R [m 9 49])
def rP:List DOp:=[zdl 50 8 [],zdD 51 2 2 [0],zdL 52 4 51 [0],zdl 53 5 [0,1,2],zdm 54 9 [0,1,2,3],⟨zo 55 (.call 74 [.t 52,.t 53,.t 54]),[52,53,54],[0]⟩,zdn 56 50 [1,2,3,4,5],⟨zo 57 (.buildSlice 4 1 zA [(0,4,(.c (.agg zA)))]),[],[0,1,2,3,4,5,6]⟩,⟨zo 58 (A 4 56 (.t 50) (.t 57)),[50,57],[]⟩,zdX 59 4 58 56 [],⟨zs 4 59 55,[59,55],[]⟩,⟨zs 1 8 58,[8,58],[9,10]⟩]
def aGA:aF:=.draw rP
def oq:aF:=(.block 3 aGA)
def f46:aF:=(zK [zbf 4]
 (zK [m 5 0,m 6 1,zc2 7 84 5 6,zbk .geq 8 3 7 0,m 4 8]
 .ret))
def aXN:ax:=⟨f46,[.tmp 4]⟩
theorem bMY:aR ib 46=some aXN:=kr
def f47:aF:=(zK [zbx 2 0,zbf 3]
 (zK [zL 4 4 2,zL 5 4 1,zc2 6 48 4 5,m 3 6]
 .ret))
def aXM:ax:=⟨f47,[.tmp 3]⟩
theorem bMX:aR ib 47=some aXM:=kr
def f48:aF:=(zK [zbx 2 0,zbx 3 1,zbf 4]
 (zK [zD 5 0 2,l 6 5,zD 7 0 3,l 8 7,zbv .eql 9 40 6 8,m 10 9,zgD 11 10 T 1 2,zgl 12 10 T 11,zgD 13 10 T 1 3,zgl 14 10 T 13,zg 15 10 T (.bin .eql 9 F (.t 12) (.t 14)),zpf 16 10 15,m 17 16,zgD 18 17 T 2 2,zgl 19 17 T 18,zgD 20 17 T 2 3,zgl 21 17 T 20,zg 22 17 T (.bin .eql 3 F (.t 19) (.t 21)),zpf 23 17 22,m 24 23,zgD 25 24 T 3 2,zgl 26 24 T 25,zgD 27 24 T 3 3,zgl 28 24 T 27,zg 29 24 T (.call 85 [.t 26,.t 28,(.c (.fn (.func 48) [] []))]),zpf 30 24 29,m 4 30]
 .ret))
def pX:ax:=⟨f48,[.tmp 4]⟩
theorem bMW:aR ib 48=some pX:=kr
def qS:List DOp:=[zdD 5 1 2 [],zdl 6 5 [],zdn 7 6 [],⟨zbk .eql 8 3 7 0,[7],[]⟩,zdm 9 8 [],⟨zgD 10 9 F 1 3,[3,9],[]⟩,⟨zgl 11 9 F 10,[10,9],[]⟩,⟨zgn 12 9 F 11,[11,9],[]⟩,⟨zgk .eql 13 9 F 3 12 0,[12,9],[]⟩,⟨zpt 14 9 13,[9,13],[]⟩,zdm 15 14 [],⟨zgD 16 15 F 1 2,[2,15],[]⟩,⟨zgl 17 15 F 16,[16,15],[]⟩,⟨zg 18 15 F (X 2 (.t 17) (.c (V (I .i64 0)))),[17,15],[]⟩,⟨zgD 19 15 F 1 18,[18,15],[]⟩,⟨zgl 20 15 F 19,[19,15],[]⟩,⟨zgD 21 15 F 1 3,[3,15],[11,12,13,14,15]⟩,⟨zgl 22 15 F 21,[21,15],[11,12,13,14,15]⟩,⟨zg 23 15 F (X 2 (.t 22) (.c (V (I .i64 0)))),[22,15],[11,12,13,14,15]⟩,⟨zgD 24 15 F 1 23,[23,15],[11,12,13,14,15]⟩,⟨zgl 25 15 F 24,[24,15],[11,12,13,14,15]⟩,⟨zg 26 15 F (.bin .neq 79 F (.t 20) (.t 25)),[20,25,15],[]⟩,⟨zpt 27 15 26,[15,26],[]⟩]
def bMV:aF:=.draw qS
def f49:aF:=(zK [zbx 2 0,zbx 3 1,zns 4]
 (Q (Q bMV
 (C (.t 27) (zK [zns 4]
 .ret) .skip))
 (zK [zL 28 6 2,zL 29 2 3,zo 30 (.buildSlice 1 1 [zI] [(0,1,(.c (V (I .i64 0))))]),zo 31 (.call 86 [.t 28,.t 29,.t 30]),m 4 31]
 .ret)))
def pu:ax:=⟨f49,[.tmp 4]⟩
theorem Ud:aR ib 49=some pu:=kr
def aXI:List DOp:=[zdm 12 0 [],zdm 13 5 [0],zdX 14 4 12 13 [],zdL 15 4 14 [],zdL 16 4 3 [0,1,2,3],zde 17 21 15 16 []]
def aXL:aF:=.draw aXI
def qh:aF:=(Q (zK [m 6 5,m 7 0,zln 8 7,zbv .lss 9 3 6 8]
 (C (.t 9) .skip (.exit 0)))
 (Q (.block 1 (Q aXL
 (C (.t 17) (zK [zbt 4]
 .ret) .skip)))
 (R [m 10 5,zbk .add 11 3 10 1,m 5 11])))
def Uc:aF:=.loop qh
def f50:aF:=(zK [zbx 3 1,zbf 4]
 (Q (zK [n 5 0]
 (.block 0 Uc))
 (zK [zbf 4]
 .ret)))
def aXJ:ax:=⟨f50,[.tmp 4]⟩
theorem bMU:aR ib 50=some aXJ:=kr
def f51:aF:=(zK [zo 2 (.alloc zA)]
 (Q (zK [m 3 0]
 (C (.t 3) (zK [zo 4 (.build zA [(0,1,(.c (V (I .i64 2)))),(2,1,(.c (V (I .i64 1))))]),zs 4 2 4]
 .ret) .skip))
 (zK [zo 5 (.build zA [(0,1,(.c (V (I .i64 2))))]),zs 4 2 5]
 .ret)))
def aFZ:ax:=⟨f51,[.cell 2 (S 4)]⟩
theorem aXH:aR ib 51=some aFZ:=kr
def aFX:List DOp:=[zdL 3 4 1 [],⟨zo 4 (.build zA []),[],[0]⟩,zde 5 48 3 4 [],zdm 6 5 [],⟨zgL 7 6 F 4 1,[1,6],[]⟩,⟨zg 8 6 F (.call 51 [.c (V (.bool T))]),[6],[4]⟩,⟨zge 9 6 F 48 7 8,[7,8,6],[]⟩,⟨zpt 10 6 9,[6,9],[]⟩,zdm 2 10 []]
def aXG:aF:=.draw aFX
def f52:aF:=(zK [zbx 1 0,zbf 2]
 (Q aXG
 .ret))
def aXF:ax:=⟨f52,[.tmp 2]⟩
theorem bMT:aR ib 52=some aXF:=kr
def nR:List DOp:=[zdD 20 3 3 [],zdl 21 20 [],zdL 22 4 5 [0,1],zdc 23 53 22 [0,1],⟨zo 24 (.buildSlice 4 1 zA [(0,4,(.t 23))]),[23],[0,1]⟩,⟨zo 25 (A 4 56 (.t 21) (.t 24)),[21,24],[]⟩,zdD 26 3 3 [],⟨zs 1 26 25,[26,25],[]⟩]
def aXE:aF:=.draw nR
def qC:aF:=(zK [zbv .lss 17 3 16 15]
 (zx 17 0
 (Q (.block 1 (zK [zX 18 4 14 16,zL 19 4 18,zo 5 (.alloc zA),zs 4 5 19]
 aXE))
 (zj 27 16))))
def Ub:aF:=.loop qC
def f53:aF:=(zK [zbx 1 0,zo 2 (.alloc zA)]
 (zK [zD 6 0 1,l 7 6,zD 8 1 1,l 9 8,zD 10 2 1,l 11 10,zo 12 (.build zA [(0,1,(.t 7)),(1,1,(.t 9)),(2,1,(.t 11))]),zo 3 (.alloc zA),zs 4 3 12]
 (Q (zK [zD 13 3 1,l 14 13,zln 15 14,n 16 0]
 (.block 0 Ub))
 (zK [zL 28 4 3,zs 4 2 28]
 .ret))))
def aXD:ax:=⟨f53,[.cell 2 (S 4)]⟩
theorem bMS:aR ib 53=some aXD:=kr
def f54:aF:=(zK [zo 0 (.alloc zA)]
 (zK [zo 1 (.build zA [(0,1,(.c (V (I .i64 2)))),(2,1,(.c (V (I .i64 1))))]),zs 4 0 1]
 .ret))
def aXC:ax:=⟨f54,[.cell 0 (S 4)]⟩
theorem bMR:aR ib 54=some aXC:=kr
def f55:aF:=(zK [zo 0 (.alloc zA)]
 (zK [zo 1 (.build zA [(0,1,(.c (V (I .i64 2))))]),zs 4 0 1]
 .ret))
def aXB:ax:=⟨f55,[.cell 0 (S 4)]⟩
theorem bMQ:aR ib 55=some aXB:=kr
def aWX:List DOp:=[zdL 3 4 1 [],⟨zo 4 (.call 54 []),[],[0]⟩,zde 5 21 3 4 [],zdm 6 5 [],⟨zgL 7 6 F 4 1,[1,6],[]⟩,⟨⟨S 8,S (6,F),.build zA []⟩,[6],[4]⟩,⟨zge 9 6 F 21 7 8,[7,8,6],[]⟩,⟨zpt 10 6 9,[6,9],[]⟩,zdm 2 10 []]
def aXA:aF:=.draw aWX
def f56:aF:=(zK [zbx 1 0,zbf 2]
 (Q aXA
 .ret))
def aWY:ax:=⟨f56,[.tmp 2]⟩
theorem bMP:aR ib 56=some aWY:=kr
def f57:aF:=(zK [zbx 2 0,zo 4 (.alloc zA)]
 (zK [zD 5 0 2,l 6 5,zD 7 1 2,l 8 7,zD 9 2 2,l 10 9,m 11 1,zo 12 (.build zA [(0,1,(.t 6)),(1,1,(.t 8)),(2,1,(.t 10)),(3,1,(.t 11))]),zs 4 4 12]
 .ret))
def aWW:ax:=⟨f57,[.cell 4 (S 4)]⟩
theorem bMO:aR ib 57=some aWW:=kr
def qQ:aF:=(zK [zbv .lss 29 3 28 27]
 (zx 29 2
 (Q (.block 3 (zK [zX 30 2 26 28,zL 31 2 30,zo 11 (.alloc [zT,zT]),zs 2 11 31]
 (R [m 32 9,zD 33 0 11,l 34 33,zo 35 (.buildSlice 1 1 [zT] [(0,1,(.t 34))]),zo 36 (A 1 16 (.t 32) (.t 35)),m 9 36])))
 (zj 37 28))))
def Ua:aF:=.loop qQ
def lX:aF:=(zK [zbv .lss 41 3 40 39]
 (zx 41 4
 (Q (.block 5 (zK [zX 42 5 38 40,zL 43 5 42,zo 13 (.alloc [zT,zI,zT,zI,zS]),zs 5 13 43]
 (zK [zD 44 0 13,l 45 44,zD 46 1 3,l 47 46,zbv .eql 48 9 45 47]
 (C (.t 48) (Q (zK [zD 49 1 13,zL 50 4 49,zc1 51 56 50]
 (C (.t 51) (zK [zo 52 (.call 54 []),zs 4 6 52]
 .ret) .skip))
 (zK [zD 53 1 13,zL 54 4 53,m 55 9,zD 56 3 3,l 57 56,zo 58 (.call 87 [.t 54,.t 55,.t 57]),zs 4 6 58]
 .ret)) .skip))))
 (zj 59 40))))
def Tz:aF:=.loop lX
def nZ:aF:=(zK [zbv .lss 17 3 16 15]
 (zx 17 0
 (Q (.block 1 (zK [zX 18 2 14 16,zL 19 2 18,zo 8 (.alloc [zT,zS]),zs 2 8 19]
 (Q (zK [zD 20 0 8,l 21 20,zD 22 1 3,l 23 22,zbv .neq 24 9 21 23]
 (C (.t 24) (.exit 1) .skip))
 (zK [zns 9]
 (Q (zK [zD 25 1 8,l 26 25,zln 27 26,n 28 0]
 (.block 2 Ua))
 (Q (zK [m 38 2,zln 39 38,n 40 0]
 (.block 4 Tz))
 (zK [zo 60 (.call 54 []),zs 4 6 60]
 .ret)))))))
 (zj 61 16))))
def Tx:aF:=.loop nZ
def f58:aF:=(zK [zbx 3 0,zo 6 (.alloc zA)]
 (Q (zK [m 14 1,zln 15 14,n 16 0]
 (.block 0 Tx))
 (zK [zo 62 (.call 54 []),zs 4 6 62]
 .ret)))
def aWV:ax:=⟨f58,[.cell 6 (S 4)]⟩
theorem bMN:aR ib 58=some aWV:=kr
def f59:aF:=(zK [zbx 2 0,zbx 3 1,n 4 0]
 (Q (zK [zL 7 4 3,zc1 8 61 7]
 (C (.t 8) (zK [n 4 0]
 .ret) .skip))
 (zK [zL 10 3 2,zL 11 4 3,zc2 12 88 10 11,m 9 12,zex 13 0 9,zex 14 1 9,m 5 13,m 6 14]
 (Q (zK [m 15 6,zbk .neq 16 55 15 0]
 (C (.t 16) (zK [m 17 6,m 4 17]
 .ret) .skip))
 (Q (zK [m 18 5,zo 19 (.bin .neq 79 T (.t 18) (.c (V (G ⟨#[66,111,111,108]⟩))))]
 (C (.t 19) (zK [n 4 11]
 .ret) .skip))
 (zK [n 4 0]
 .ret))))))
def pU:ax:=⟨f59,[.tmp 4]⟩
theorem bMM:aR ib 59=some pU:=kr
def f60:aF:=(zK [zbx 1 0,zns 2]
 (zK [zL 3 4 1,zo 4 (.call 89 [.t 3,.c (V (I .i64 5)),.c (V (.slice O 0 0))]),m 2 4]
 .ret))
def aWU:ax:=⟨f60,[.tmp 2]⟩
theorem bML:aR ib 60=some aWU:=kr
def f61:aF:=(zK [zbx 1 0,zbf 2]
 (zK [zD 3 0 1,l 4 3,zbk .eql 5 40 4 0,m 6 5,zgD 7 6 T 1 1,zgl 8 6 T 7,⟨S 9,S (6,T),.bin .eql 9 T (.t 8) (.c (V (G ⟨#[]⟩)))⟩,zpf 10 6 9,m 11 10,zgD 12 11 T 2 1,zgl 13 11 T 12,zgk .eql 14 11 T 3 13 0,zpf 15 11 14,m 16 15,zgD 17 16 T 3 1,zgl 18 16 T 17,zgn 19 16 T 18,zgk .eql 20 16 T 3 19 0,zpf 21 16 20,m 2 21]
 .ret))
def aWT:ax:=⟨f61,[.tmp 2]⟩
theorem bMK:aR ib 61=some aWT:=kr
def aWO:List DOp:=[zdD 23 0 3 [],zdl 24 23 [],zdm 25 0 [0,1],zdD 26 3 3 [0,1,2],zdl 27 26 [0,1,2],zde 28 91 25 27 [0,1],⟨zo 29 (.build zA [(0,1,(.t 24)),(3,1,(.t 28))]),[24,28],[]⟩,⟨zs 4 4 29,[4,29],[]⟩]
def aWS:aF:=.draw aWO
def aWN:List DOp:=[zdm 46 0 [],zdm 47 0 [0],zdD 48 3 3 [0,1],zdl 49 48 [0,1],⟨zo 50 (X 4 (.t 49) (.c (V (I .i64 0)))),[49],[0,1]⟩,zdL 51 4 50 [0,1],zdD 52 3 3 [0,1,2,3,4,5],zdl 53 52 [0,1,2,3,4,5],⟨zo 54 (X 4 (.t 53) (.c (V (I .i64 1)))),[53],[0,1,2,3,4,5]⟩,zdL 55 4 54 [0,1,2,3,4,5],⟨zo 56 (.call 94 [.t 47,.t 51,.t 55]),[47,51,55],[0]⟩,zde 57 93 46 56 [],⟨zs 4 5 57,[5,57],[]⟩]
def aWR:aF:=.draw aWN
def aWM:List DOp:=[zdm 67 0 [],zdm 68 0 [0],zdD 69 3 3 [0,1],zdl 70 69 [0,1],⟨zo 71 (X 4 (.t 70) (.c (V (I .i64 0)))),[70],[0,1]⟩,zdL 72 4 71 [0,1],zdD 73 3 3 [0,1,2,3,4,5],zdl 74 73 [0,1,2,3,4,5],⟨zo 75 (X 4 (.t 74) (.c (V (I .i64 1)))),[74],[0,1,2,3,4,5]⟩,zdL 76 4 75 [0,1,2,3,4,5],⟨zo 77 (.call 94 [.t 68,.t 72,.t 76]),[68,72,76],[0]⟩,zde 78 65 67 77 [],⟨zs 4 4 78,[4,78],[]⟩]
def aWQ:aF:=.draw aWM
def aWL:List DOp:=[zdm 79 0 [],zdm 80 0 [0],zdD 81 3 3 [0,1],zdl 82 81 [0,1],⟨zo 83 (X 4 (.t 82) (.c (V (I .i64 0)))),[82],[0,1]⟩,zdL 84 4 83 [0,1],zdD 85 3 3 [0,1,2,3,4,5],zdl 86 85 [0,1,2,3,4,5],⟨zo 87 (X 4 (.t 86) (.c (V (I .i64 1)))),[86],[0,1,2,3,4,5]⟩,zdL 88 4 87 [0,1,2,3,4,5],⟨zo 89 (.call 94 [.t 80,.t 84,.t 88]),[80,84,88],[0]⟩,zde 90 96 79 89 [],⟨zs 4 4 90,[4,90],[]⟩]
def aWP:aF:=.draw aWL
def f62:aF:=(zK [zbx 3 1,zo 4 (.alloc zA)]
 (Q (zK [zD 6 0 3,l 7 6]
 (.block 0 (zK [zbk .eql 9 40 7 2,m 8 9]
 (C (.t 8) (zK [zL 10 4 3,zs 4 4 10]
 .ret) (Q (zK [zbk .eql 12 40 7 3,m 11 12]
 (C (.t 11) .skip (R [zbk .eql 13 40 7 4,m 11 13])))
 (C (.t 11) (zK [m 14 0,zL 15 4 3,zc2 16 90 14 15,zs 4 4 16]
 .ret) (Q (zK [zbk .eql 18 40 7 14,m 17 18]
 (C (.t 17) .skip (zK [zbk .eql 19 40 7 15,m 17 19]
 (C (.t 17) .skip (zK [zbk .eql 20 40 7 16,m 17 20]
 (C (.t 17) .skip (zK [zbk .eql 21 40 7 17,m 17 21]
 (C (.t 17) .skip (R [zbk .eql 22 40 7 18,m 17 22])))))))))
 (C (.t 17) (Q aWS
 .ret) (Q (zK [zbk .eql 31 40 7 10,m 30 31]
 (C (.t 30) .skip (R [zbk .eql 32 40 7 11,m 30 32])))
 (C (.t 30) (zK [zo 33 (.build zA []),zo 5 (.alloc zA),zs 4 5 33]
 (Q (zK [m 34 0,zD 35 3 3,l 36 35,zo 37 (X 4 (.t 36) (.c (V (I .i64 0)))),zL 38 4 37,zc2 39 92 34 38,zo 40 (.bin .eql 79 T (.t 39) (.c (V (G ⟨#[66,111,111,108]⟩))))]
 (C (.t 40) (R [m 41 0,zD 42 3 3,l 43 42,zc2 44 91 41 43,zo 45 (.build zA [(0,1,(.c (V (I .i64 18)))),(3,1,(.t 44))]),zs 4 5 45]) aWR))
 (Q (zK [zD 58 0 3,l 59 58,zbk .eql 60 40 59 11]
 (C (.t 60) (zK [zL 61 4 5,zo 62 (.buildSlice 4 1 zA [(0,4,(.t 61))]),zo 63 (.call 95 [.c (V (I .i64 14)),.t 62]),zs 4 4 63]
 .ret) .skip))
 (zK [zL 64 4 5,zs 4 4 64]
 .ret)))) (zK [zbk .eql 66 40 7 13,m 65 66]
 (C (.t 65) (Q aWQ
 .ret) .skip))))))))))))
 (Q aWP
 .ret)))
def fJ:ax:=⟨f62,[.cell 4 (S 4)]⟩
theorem bMJ:aR ib 62=some fJ:=kr
def aWE:List DOp:=[zdm 31 1 [],zdm 32 6 [0],zdX 33 4 31 32 [],zdL 34 4 33 [],zdm 35 1 [0,1,2,3],zdm 36 7 [0,1,2,3,4],zdX 37 4 35 36 [0,1,2,3],zdL 38 4 37 [0,1,2,3],⟨zo 8 (.alloc zA),[],[0,1,2,3,4,5,6,7]⟩,⟨zo 9 (.alloc zA),[],[0,1,2,3,4,5,6,7,8]⟩,⟨zs 4 8 34,[8,34],[4,5,6,7]⟩,⟨zs 4 9 38,[9,38],[]⟩]
def aWK:aF:=.draw aWE
def aWD:List DOp:=[zdL 71 3 2 [],zdD 72 3 8 [0],zdl 73 72 [0],zdm 74 12 [0,1,2],zdX 75 4 73 74 [0],zdL 76 4 75 [0],zde 77 88 71 76 [],zdm 70 77 [],⟨zex 78 0 70,[70],[]⟩,⟨zex 79 1 70,[70],[8]⟩,zdm 13 78 [9],zdm 14 79 []]
def aWJ:aF:=.draw aWD
def aWC:List DOp:=[zdL 81 3 2 [],zdD 82 3 9 [0],zdl 83 82 [0],zdm 84 12 [0,1,2],zdX 85 4 83 84 [0],zdL 86 4 85 [0],zde 87 88 81 86 [],zdm 80 87 [],⟨zex 88 0 80,[80],[]⟩,⟨zex 89 1 80,[80],[8]⟩,zdm 15 88 [9],zdm 16 89 []]
def aWI:aF:=.draw aWC
def aFR:List DOp:=[zdm 96 10 [],zdL 97 3 2 [0],zdD 98 3 8 [0,1],zdl 99 98 [0,1],zdm 100 12 [0,1,2,3],zdX 101 4 99 100 [0,1],zdL 102 4 101 [0,1],zdD 103 3 9 [0,1,2,3,4,5,6],zdl 104 103 [0,1,2,3,4,5,6],zdm 105 12 [0,1,2,3,4,5,6,7,8],zdX 106 4 104 105 [0,1,2,3,4,5,6],zdL 107 4 106 [0,1,2,3,4,5,6],⟨zo 108 (.call 97 [.t 97,.t 102,.t 107]),[97,102,107],[0]⟩,⟨zo 109 (.buildSlice 4 1 zA [(0,4,(.t 108))]),[108],[0]⟩,⟨zo 110 (A 4 56 (.t 96) (.t 109)),[96,109],[]⟩,zdm 10 110 []]
def aWH:aF:=.draw aFR
def rQ:aF:=(Q (zK [m 63 12,zD 64 3 8,l 65 64,zln 66 65,zbv .lss 67 3 63 66]
 (C (.t 67) .skip (.exit 4)))
 (Q (.block 5 (Q aWJ
 (Q aWI
 (zK [m 90 11,m 91 90,zgm 92 91 T 13,zgm 93 91 T 15,zg 94 91 T (.bin .eql 79 F (.t 92) (.t 93)),zpf 95 91 94,m 11 95]
 aWH))))
 (R [m 68 12,zbk .add 69 3 68 1,m 12 69])))
def Tw:aF:=.loop rQ
def aFQ:List DOp:=[zdm 113 5 [],zdm 114 10 [0],zdc 115 31 114 [0],zdL 116 3 2 [0,1,2],zdL 117 4 8 [0,1,2,3],zdL 118 4 9 [0,1,2,3,4],⟨zo 119 (.call 97 [.t 116,.t 117,.t 118]),[116,117,118],[0]⟩,⟨zo 120 (.buildSlice 4 2 [zI,zT,zI,zS,zI,zT,zI,zS] [(0,4,(.t 115)),(4,4,(.t 119))]),[115,119],[0]⟩,⟨zo 121 (.build zA [(0,1,(.c (V (I .i64 17)))),(3,1,(.t 120))]),[120],[0]⟩,⟨zo 122 (.buildSlice 4 1 zA [(0,4,(.t 121))]),[121],[0]⟩,⟨zo 123 (A 4 56 (.t 113) (.t 122)),[113,122],[]⟩,zdm 5 123 []]
def aWG:aF:=.draw aFQ
def qg:aF:=(Q (zK [m 25 7,m 26 1,zln 27 26,zbv .lss 28 3 25 27]
 (C (.t 28) .skip (.exit 2)))
 (Q (.block 3 (Q aWK
 (Q (zK [zD 39 0 8,l 40 39,zbk .neq 41 40 40 4,m 42 41,zgD 43 42 F 0 9,zgl 44 42 F 43,zgk .neq 45 42 F 40 44 4,zpt 46 42 45,m 47 46,zgD 48 47 F 1 8,zgl 49 47 F 48,zgD 50 47 F 1 9,zgl 51 47 F 50,zg 52 47 F (.bin .neq 9 F (.t 49) (.t 51)),zpt 53 47 52,m 54 53,zgD 55 54 F 3 8,zgl 56 54 F 55,zgn 57 54 F 56,zgD 58 54 F 3 9,zgl 59 54 F 58,zgn 60 54 F 59,zg 61 54 F (.bin .neq 3 F (.t 57) (.t 60)),zpt 62 54 61]
 (C (.t 62) (.exit 3) .skip))
 (zK [zns 10]
 (zK [zbt 11]
 (Q (zK [n 12 0]
 (.block 4 Tw))
 (Q (zK [m 111 11,zun 112 111]
 (C (.t 112) (.exit 3) .skip))
 aWG)))))))
 (R [m 29 7,zbk .add 30 3 29 1,m 7 30])))
def rO:aF:=.loop qg
def qt:aF:=(Q (zK [m 17 6,m 18 1,zln 19 18,zbv .lss 20 3 17 19]
 (C (.t 20) .skip (.exit 0)))
 (Q (.block 1 (zK [m 23 6,zbk .add 24 3 23 1,m 7 24]
 (.block 2 rO)))
 (R [m 21 6,zbk .add 22 3 21 1,m 6 22])))
def Tv:aF:=.loop qt
def f63:aF:=(zK [zbx 2 0,zns 4]
 (zK [zns 5]
 (Q (zK [n 6 0]
 (.block 0 Tv))
 (zK [m 124 5,m 4 124]
 .ret))))
def aWF:ax:=⟨f63,[.tmp 4]⟩
theorem bMI:aR ib 63=some aWF:=kr
def f64:aF:=(zK [zbx 1 0,zns 2]
 (zK [zL 3 4 1,zo 4 (.call 89 [.t 3,.c (V (I .i64 4)),.c (V (.slice O 0 0))]),m 2 4]
 .ret))
def aWB:ax:=⟨f64,[.tmp 2]⟩
theorem bMH:aR ib 64=some aWB:=kr
def f65:aF:=(zK [zbx 3 1,zo 4 (.alloc zA)]
 (Q (zK [zD 8 0 3,l 9 8,zln 10 9,zbk .eql 11 3 10 0]
 (C (.t 11) (zK [zD 12 1 3,l 13 12,zbk .leq 14 3 13 0,zc1 15 98 14,zs 4 4 15]
 .ret) .skip))
 (zK [zL 17 2 3,zc1 18 99 17,m 16 18,zex 19 0 16,zex 20 1 16,zo 5 (.alloc [zS,zI]),zs 2 5 19,m 6 20]
 (zK [m 21 0,zL 22 2 5,zc2 23 100 21 22,m 7 23]
 (Q (zK [m 24 6,zbk .eql 25 3 24 1]
 (C (.t 25) (zK [m 26 7,zo 27 (.call 101 [.c (V (I .i64 13)),.t 26]),zs 4 4 27]
 .ret) .skip))
 (zK [m 28 7,zo 29 (.call 101 [.c (V (I .i64 13)),.t 28]),zo 30 (.buildSlice 4 1 zA [(0,4,(.t 29))]),zo 31 (.call 95 [.c (V (I .i64 14)),.t 30]),m 32 7,zo 33 (.call 101 [.c (V (I .i64 10)),.t 32]),zo 34 (.buildSlice 4 2 [zI,zT,zI,zS,zI,zT,zI,zS] [(0,4,(.t 31)),(4,4,(.t 33))]),zo 35 (.call 95 [.c (V (I .i64 16)),.t 34]),zs 4 4 35]
 .ret))))))
def aFP:ax:=⟨f65,[.cell 4 (S 4)]⟩
theorem bMG:aR ib 65=some aFP:=kr
def f66:aF:=(zK [zbx 3 0,zo 6 (.alloc [zS,zI])]
 (zK [zL 7 4 3,zc1 8 102 7,zo 9 (.field 1 O (.t 8)),m 10 1,zo 11 (.build [zT,zI] [(0,1,(.t 9)),(1,1,(.t 10))]),zo 12 (.buildSlice 2 1 [zT,zI] [(0,2,(.t 11))]),m 13 2,zo 14 (.build [zS,zI] [(0,1,(.t 12)),(1,1,(.t 13))]),zs 2 6 14]
 .ret))
def aWA:ax:=⟨f66,[.cell 6 (S 2)]⟩
theorem bMF:aR ib 66=some aWA:=kr
def nH:List DOp:=[zdD 45 3 8 [],zdl 46 45 [],zdL 47 4 10 [0,1],zdm 48 1 [0,1,2],zdm 49 2 [0,1,2,3],⟨zo 50 (.call 74 [.t 47,.t 48,.t 49]),[47,48,49],[0,1]⟩,⟨zo 51 (.buildSlice 4 1 zA [(0,4,(.t 50))]),[50],[0,1]⟩,⟨zo 52 (A 4 56 (.t 46) (.t 51)),[46,51],[]⟩,zdD 53 3 8 [],⟨zs 1 53 52,[53,52],[]⟩]
def aVZ:aF:=.draw nH
def pe:aF:=(zK [zbv .lss 42 3 41 40]
 (zx 42 0
 (Q (.block 1 (zK [zX 43 4 39 41,zL 44 4 43,zo 10 (.alloc zA),zs 4 10 44]
 aVZ))
 (zj 54 41))))
def py:aF:=.loop pe
def f74:aF:=(zK [zbx 3 0,zo 6 (.alloc zA)]
 (Q (zK [zD 11 0 3,l 12 11,zbk .eql 13 40 12 3]
 (C (.t 13) (zK [m 14 1,zD 15 1 3,l 16 15,zc2 17 112 14 16,m 7 17]
 (zK [m 18 7,zbk .geq 19 3 18 0,m 20 19,zgm 21 20 T 7,zgm 22 20 T 2,zgn 23 20 T 22,zg 24 20 T (.bin .lss 3 F (.t 21) (.t 23)),zpf 25 20 24]
 (C (.t 25) (zK [m 26 2,m 27 7,zX 28 4 26 27,zL 29 4 28,zc1 30 53 29,zs 4 6 30]
 .ret) .skip))) .skip))
 (zK [zD 31 0 3,l 32 31,zD 33 1 3,l 34 33,zD 35 2 3,l 36 35,zo 37 (.build zA [(0,1,(.t 32)),(1,1,(.t 34)),(2,1,(.t 36))]),zo 8 (.alloc zA),zs 4 8 37]
 (Q (zK [zD 38 3 3,l 39 38,zln 40 39,n 41 0]
 (.block 0 py))
 (zK [zL 55 4 8,zs 4 6 55]
 .ret)))))
def np:ax:=⟨f74,[.cell 6 (S 4)]⟩
theorem bMD:aR ib 74=some np:=kr
def f83:aF:=(zK [zbx 2 0,zbx 3 1,zo 4 (.mv (.c (V .nilFunc)))]
 (zK [zo 5 (.fy (.func 121) [] [.t 3,.t 2]),m 4 5]
 .ret))
def aVY:ax:=⟨f83,[.tmp 4]⟩
theorem bMC:aR ib 83=some aVY:=kr
def qD:aF:=(zK [zbv .lss 9 3 8 7]
 (zx 9 0
 (Q (.block 1 (zK [m 10 8,m 5 10]
 (zK [m 11 1,m 12 0,m 13 5,zX 14 4 12 13,zL 15 4 14,zo 16 (.dR (.t 11) [.t 15])]
 (C (.t 16) (zK [m 17 5,m 4 17]
 .ret) .skip))))
 (zj 18 8))))
def Tu:aF:=.loop qD
def f84:aF:=(zK [n 4 0]
 (Q (zK [m 6 0,zln 7 6,n 8 0]
 (.block 0 Tu))
 (zK [n 4 (-1)]
 .ret)))
def aVX:ax:=⟨f84,[.tmp 4]⟩
theorem bMB:aR ib 84=some aVX:=kr
def aVV:List DOp:=[zdm 18 2 [],zdm 19 0 [0],zdm 20 7 [0,1],zdX 21 4 19 20 [0],zdL 22 4 21 [0],zdm 23 1 [0,1,2,3,4],zdm 24 7 [0,1,2,3,4,5],zdX 25 4 23 24 [0,1,2,3,4],zdL 26 4 25 [0,1,2,3,4],⟨zo 27 (.dR (.t 18) [.t 22,.t 26]),[18,22,26],[]⟩,⟨zun 28 27,[27],[]⟩]
def aVW:aF:=.draw aVV
def qw:aF:=(zK [zbv .lss 16 3 15 14]
 (zx 16 0
 (Q (.block 1 (zK [m 17 15,m 7 17]
 (Q aVW
 (zr 28 6))))
 (zj 29 15))))
def Tt:aF:=.loop qw
def f85:aF:=(zK [zbf 6]
 (Q (zK [m 8 0,zln 9 8,m 10 1,zln 11 10,zbv .neq 12 3 9 11]
 (zr 12 6))
 (Q (zK [m 13 0,zln 14 13,n 15 0]
 (.block 0 Tt))
 (zK [zbt 6]
 .ret))))
def aFM:ax:=⟨f85,[.tmp 6]⟩
theorem bMA:aR ib 85=some aFM:=kr
def aVU:List DOp:=[zdm 33 8 [],zdD 34 1 4 [0],zdl 35 34 [0],zdm 36 2 [0,1,2],zdm 37 9 [0,1,2,3],zdX 38 1 36 37 [0,1,2],zdl 39 38 [0,1,2],zdX 40 2 35 39 [0],zdD 41 0 40 [0],zdl 42 41 [0],⟨zo 43 (.build zA [(0,1,(.c (V (I .i64 3)))),(1,1,(.t 42))]),[42],[0]⟩,⟨zo 44 (.buildSlice 4 1 zA [(0,4,(.t 43))]),[43],[0]⟩,⟨zo 45 (A 4 56 (.t 33) (.t 44)),[33,44],[]⟩,zdm 8 45 []]
def bLZ:aF:=.draw aVU
def qU:aF:=(Q (zK [m 18 9,m 19 2,zln 20 19,zbv .lss 21 3 18 20]
 (C (.t 21) .skip (.exit 0)))
 (Q (.block 1 (zK [m 24 7,zD 25 1 3,l 26 25,m 27 9,zX 28 2 26 27,zD 29 0 28,l 30 29,zo 31 (.buildSlice 1 1 [zT] [(0,1,(.t 30))]),zo 32 (A 1 16 (.t 24) (.t 31)),m 7 32]
 bLZ))
 (R [m 22 9,zbk .add 23 3 22 1,m 9 23])))
def Ts:aF:=.loop qU
def aFK:List DOp:=[zdm 59 2 [],zdm 60 11 [0],zde 61 124 59 60 [],⟨zun 62 61,[61],[]⟩,zdm 63 62 [],⟨zgD 64 63 T 1 4,[4,63],[]⟩,⟨zgl 65 63 T 64,[64,63],[]⟩,⟨zgm 66 63 T 11,[11,63],[5,6]⟩,⟨zgX 67 63 T 2 65 66,[65,66,63],[]⟩,⟨zgD 68 63 T 1 67,[67,63],[]⟩,⟨zgl 69 63 T 68,[68,63],[]⟩,⟨zgD 70 63 T 1 3,[3,63],[5,6,7,8,9,10]⟩,⟨zgl 71 63 T 70,[70,63],[5,6,7,8,9,10]⟩,⟨zgm 72 63 T 2,[2,63],[5,6,7,8,9,10,11,12]⟩,⟨zgn 73 63 T 72,[72,63],[5,6,7,8,9,10,11,12]⟩,⟨zgX 74 63 T 2 71 73,[71,73,63],[5,6,7,8,9,10]⟩,⟨zgD 75 63 T 1 74,[74,63],[5,6,7,8,9,10]⟩,⟨zgl 76 63 T 75,[75,63],[5,6,7,8,9,10]⟩,⟨zg 77 63 T (.bin .eql 79 F (.t 69) (.t 76)),[69,76,63],[]⟩,⟨zpf 78 63 77,[63,77],[]⟩]
def bLY:aF:=.draw aFK
def aVT:List DOp:=[zdm 79 10 [],zdL 80 6 3 [0],zdL 81 2 4 [0,1],⟨zo 82 (.buildSlice 1 0 [] []),[],[0,1,2]⟩,zdm 83 2 [0,1,2,3],⟨zo 84 (A 1 8 (.t 82) (.t 83)),[82,83],[0,1,2]⟩,zdm 85 11 [0,1,2,3,4,5],⟨zo 86 (.buildSlice 1 1 [zI] [(0,1,(.t 85))]),[85],[0,1,2,3,4,5]⟩,⟨zo 87 (A 1 8 (.t 84) (.t 86)),[84,86],[0,1,2]⟩,⟨zo 88 (.call 86 [.t 80,.t 81,.t 87]),[80,81,87],[0]⟩,⟨zo 89 (A 4 56 (.t 79) (.t 88)),[79,88],[]⟩,zdm 10 89 []]
def bLX:aF:=.draw aVT
def qG:aF:=(Q (zK [m 52 11,zD 53 1 4,l 54 53,zln 55 54,zbv .lss 56 3 52 55]
 (C (.t 56) .skip (.exit 2)))
 (Q (.block 3 (Q bLY
 (C (.t 78) bLX .skip)))
 (R [m 57 11,zbk .add 58 3 57 1,m 11 58])))
def pW:aF:=.loop qG
def f86:aF:=(zK [zbx 3 0,zbx 4 1,zns 6]
 (Q (zK [m 12 2,zln 13 12,zD 14 1 3,l 15 14,zln 16 15,zbv .eql 17 3 13 16]
 (C (.t 17) (zK [zns 7]
 (zK [zns 8]
 (Q (zK [n 9 0]
 (.block 0 Ts))
 (zK [zD 46 2 3,zL 47 4 46,m 48 7,m 49 8,zo 50 (.call 87 [.t 47,.t 48,.t 49]),zo 51 (.buildSlice 4 1 zA [(0,4,(.t 50))]),m 6 51]
 .ret)))) .skip))
 (zK [zns 10]
 (Q (zK [n 11 1]
 (.block 2 pW))
 (zK [m 90 10,m 6 90]
 .ret)))))
def aFL:ax:=⟨f86,[.tmp 6]⟩
theorem aVS:aR ib 86=some aFL:=kr
def qR:aF:=(zK [zbv .lss 34 3 33 32]
 (zx 34 0
 (Q (.block 1 (zK [zX 35 4 31 33,zL 36 4 35,zo 10 (.alloc zA),zs 4 10 36]
 (R [m 37 8,zL 38 4 10,m 39 1,m 40 2,zo 41 (.call 87 [.t 38,.t 39,.t 40]),zo 42 (.buildSlice 4 1 zA [(0,4,(.t 41))]),zo 43 (A 4 56 (.t 37) (.t 42)),m 8 43])))
 (zj 44 33))))
def qz:aF:=.loop qR
def f87:aF:=(zK [zbx 3 0,zo 6 (.alloc zA)]
 (Q (zK [zD 11 0 3,l 12 11,zbk .eql 13 40 12 3]
 (C (.t 13) (zK [m 14 1,zD 15 1 3,l 16 15,zc2 17 125 14 16,m 7 17]
 (zK [m 18 7,zbk .geq 19 3 18 0,m 20 19,zgm 21 20 T 7,zgm 22 20 T 2,zgn 23 20 T 22,zg 24 20 T (.bin .lss 3 F (.t 21) (.t 23)),zpf 25 20 24]
 (C (.t 25) (zK [m 26 2,m 27 7,zX 28 4 26 27,zL 29 4 28,zs 4 6 29]
 .ret) .skip))) .skip))
 (zK [zns 8]
 (Q (zK [zD 30 3 3,l 31 30,zln 32 31,n 33 0]
 (.block 0 qz))
 (zK [zL 45 4 3,m 46 8,zc2 47 57 45 46,zs 4 6 47]
 .ret)))))
def nI:ax:=⟨f87,[.cell 6 (S 4)]⟩
theorem bLV:aR ib 87=some nI:=kr
def f88:aF:=(zK [zbx 2 0,zbx 3 1,zo 4 (.mv (.c (V (G ⟨#[]⟩)))),n 5 0]
 (zK [zL 7 4 3,zc1 8 126 7,m 6 8]
 (Q (zK [m 9 6,zbk .neq 10 55 9 0]
 (C (.t 10) (zK [m 11 6,zo 4 (.mv (.c (V (G ⟨#[]⟩)))),m 5 11]
 .ret) .skip))
 (zK [zL 12 3 2,zL 13 4 3,zc2 14 127 12 13,zex 15 0 14,zex 16 1 14,m 4 15,m 5 16]
 .ret))))
def aFJ:ax:=⟨f88,[.tmp 4,.tmp 5]⟩
theorem bLU:aR ib 88=some aFJ:=kr
def rT:aF:=(zK [zbv .lss 13 3 12 11]
 (zx 13 0
 (Q (.block 1 (zK [zX 14 4 10 12,zL 15 4 14,zo 8 (.alloc zA),zs 4 8 15]
 (R [zL 16 4 8,m 17 1,m 18 2,zo 19 (.call 89 [.t 16,.t 17,.t 18]),m 2 19])))
 (zj 20 12))))
def Tp:aF:=.loop rT
def f89:aF:=(zK [zbx 3 0,zns 6]
 (Q (zK [zD 9 3 3,l 10 9,zln 11 10,n 12 0]
 (.block 0 Tp))
 (Q (zK [zD 21 0 3,l 22 21,m 23 1,zbv .eql 24 40 22 23,m 25 24,zgm 26 25 T 2,zgL 27 25 T 4 3,zge 28 25 T 128 26 27,zg 29 25 T (.un .not (.t 28)),zpf 30 25 29]
 (C (.t 30) (R [m 31 2,zL 32 4 3,zo 33 (.buildSlice 4 1 zA [(0,4,(.t 32))]),zo 34 (A 4 56 (.t 31) (.t 33)),m 2 34]) .skip))
 (zK [m 35 2,m 6 35]
 .ret))))
def aVR:ax:=⟨f89,[.tmp 6]⟩
theorem bLT:aR ib 89=some aVR:=kr
def aFG:List DOp:=[zdm 26 6 [],zdm 27 26 [],⟨zgm 28 27 F 0,[0,27],[]⟩,⟨zg 29 27 F (.cE (.t 28)),[28,27],[]⟩,⟨zgD 30 27 F 4 29,[29,27],[]⟩,⟨zgl 31 27 F 30,[30,27],[]⟩,⟨zgm 32 27 F 7,[7,27],[2,3,4,5]⟩,⟨zgX 33 27 F 4 31 32,[31,32,27],[]⟩,⟨zgL 34 27 F 4 33,[33,27],[]⟩,⟨zgL 35 27 F 4 3,[3,27],[2,3,4,5,6,7,8]⟩,⟨zge 36 27 F 21 34 35,[34,35,27],[]⟩,⟨zpt 37 27 36,[27,36],[]⟩,zdm 6 37 []]
def aVQ:aF:=.draw aFG
def ql:aF:=(Q (zK [m 17 7,m 18 0,zo 19 (.cE (.t 18)),zD 20 4 19,l 21 20,zln 22 21,zbv .lss 23 3 17 22]
 (C (.t 23) .skip (.exit 0)))
 (Q (.block 1 aVQ)
 (R [m 24 7,zbk .add 25 3 24 1,m 7 25])))
def To:aF:=.loop ql
def aVO:List DOp:=[zdm 40 0 [],⟨zo 41 (.cE (.t 40)),[40],[]⟩,zdD 42 4 41 [],zdl 43 42 [],zdL 44 4 3 [0,1,2,3],zdn 45 43 [4],⟨zo 46 (.buildSlice 4 1 zA [(0,4,(.c (.agg zA)))]),[],[0,1,2,3,4,5]⟩,⟨zo 47 (A 4 56 (.t 43) (.t 46)),[43,46],[]⟩,zdX 48 4 47 45 [],⟨zs 4 48 44,[48,44],[]⟩,⟨zo 49 (.cE (.t 40)),[40],[8,9]⟩,zdD 50 4 49 [8,9],⟨zs 1 50 47,[50,47],[8,9]⟩]
def aVP:aF:=.draw aVO
def f90:aF:=(zK [zbx 3 1,zo 4 (.alloc zA)]
 (zK [zL 8 4 3,zo 9 (.call 66 [.t 8,.c (V (I .i64 1)),.c (V (I .i64 (-1)))]),zo 5 (.alloc [zS,zI]),zs 2 5 9]
 (Q (zK [zL 10 2 5,zc1 11 129 10,zbk .neq 12 55 11 0]
 (C (.t 12) (zK [m 13 0,zo 14 (.cE (.t 13)),zD 15 6 14,⟨O,O,.store 1 (.t 15) (.c (V (.bool T)))⟩]
 (zK [zo 16 (.call 98 [.c (V (.bool F))]),zs 4 4 16]
 .ret)) .skip))
 (zK [zbf 6]
 (Q (zK [n 7 0]
 (.block 0 To))
 (Q (zK [m 38 6,zun 39 38]
 (C (.t 39) aVP .skip))
 (zK [m 51 0,zL 52 2 5,zc2 53 93 51 52,zs 4 4 53]
 .ret)))))))
def aFH:ax:=⟨f90,[.cell 4 (S 4)]⟩
theorem bLS:aR ib 90=some aFH:=kr
def qv:aF:=(Q (zK [m 7 6,m 8 1,zln 9 8,zbv .lss 10 3 7 9]
 (C (.t 10) .skip (.exit 0)))
 (Q (.block 1 (R [m 13 5,m 14 0,m 15 1,m 16 6,zX 17 4 15 16,zL 18 4 17,zc2 19 62 14 18,zo 20 (.buildSlice 4 1 zA [(0,4,(.t 19))]),zo 21 (A 4 56 (.t 13) (.t 20)),m 5 21]))
 (R [m 11 6,zbk .add 12 3 11 1,m 6 12])))
def Tn:aF:=.loop qv
def f91:aF:=(zK [zns 4]
 (zK [zns 5]
 (Q (zK [n 6 0]
 (.block 0 Tn))
 (zK [m 22 5,m 4 22]
 .ret))))
def aVN:ax:=⟨f91,[.tmp 4]⟩
theorem bLR:aR ib 91=some aVN:=kr
def aVK:List DOp:=[zdm 8 0 [],⟨zo 9 (.cE (.t 8)),[8],[]⟩,zdD 10 0 9 [],zdL 11 3 10 [],zdL 12 4 3 [0,1,2,3],zde 13 88 11 12 [],zdm 7 13 [],⟨zex 14 0 7,[7],[]⟩,⟨zex 15 1 7,[7],[7]⟩,zdm 5 14 [8],zdm 6 15 []]
def aVM:aF:=.draw aVK
def f92:aF:=(zK [zbx 3 1,zo 4 (.mv (.c (V (G ⟨#[]⟩))))]
 (Q aVM
 (zK [m 16 5,m 4 16]
 .ret)))
def aVL:ax:=⟨f92,[.tmp 4]⟩
theorem bLQ:aR ib 92=some aVL:=kr
def f93:aF:=(zK [zbx 3 1,zo 4 (.alloc zA)]
 (Q (zK [zD 7 0 3,l 8 7,zln 9 8,zbk .eql 10 3 9 0]
 (C (.t 10) (zK [zD 11 1 3,l 12 11,zbk .eql 13 3 12 0,zc1 14 98 13,zs 4 4 14]
 .ret) .skip))
 (zK [zL 16 2 3,zc1 17 99 16,m 15 17,zex 18 0 15,zex 19 1 15,zo 5 (.alloc [zS,zI]),zs 2 5 18,m 6 19]
 (zK [m 20 0,zL 21 2 5,zc2 22 100 20 21,zo 23 (.call 101 [.c (V (I .i64 10)),.t 22]),zs 4 4 23]
 .ret))))
def aFF:ax:=⟨f93,[.cell 4 (S 4)]⟩
theorem bLP:aR ib 93=some aFF:=kr
def aVH:List DOp:=[zdL 10 4 4 [],zdc 11 102 10 [],zdL 12 4 5 [0,1],zdc 13 102 12 [],⟨zo 14 (.buildSlice 4 2 [zI,zT,zI,zS,zI,zT,zI,zS] [(0,4,(.t 11)),(4,4,(.t 13))]),[11,13],[]⟩,⟨zo 15 (.call 95 [.c (V (I .i64 7)),.t 14]),[14],[]⟩,zdc 16 130 15 [],zdm 9 16 [],⟨zex 17 0 9,[9],[]⟩,⟨zex 18 1 9,[9],[8]⟩,⟨zo 7 (.alloc [zS,zI]),[],[0,1,2,3,4,5,6,7,8,9]⟩,⟨zs 2 7 17,[7,17],[9]⟩,zdm 8 18 []]
def aVJ:aF:=.draw aVH
def f94:aF:=(zK [zbx 4 1,zbx 5 2,zo 6 (.alloc [zS,zI])]
 (Q aVJ
 (Q (zK [m 19 8,zun 20 19]
 (C (.t 20) (zK [m 21 0,zo 22 (.cE (.t 21)),zD 23 6 22,⟨O,O,.store 1 (.t 23) (.c (V (.bool T)))⟩]
 (zK [zo 24 (.build [zS,zI] []),zs 2 6 24]
 .ret)) .skip))
 (zK [zL 25 2 7,zs 2 6 25]
 .ret))))
def aVI:ax:=⟨f94,[.cell 6 (S 2)]⟩
theorem bLO:aR ib 94=some aVI:=kr
def f95:aF:=(zK [zo 4 (.alloc zA)]
 (zK [m 5 0,m 6 1,zo 7 (.build zA [(0,1,(.t 5)),(3,1,(.t 6))]),zs 4 4 7]
 .ret))
def aVG:ax:=⟨f95,[.cell 4 (S 4)]⟩
theorem bLN:aR ib 95=some aVG:=kr
def f96:aF:=(zK [zbx 3 1,zo 4 (.alloc zA)]
 (Q (zK [zD 8 0 3,l 9 8,zln 10 9,zbk .eql 11 3 10 0]
 (C (.t 11) (zK [zD 12 1 3,l 13 12,zbk .lss 14 3 13 0,zc1 15 98 14,zs 4 4 15]
 .ret) .skip))
 (zK [zL 17 2 3,zc1 18 99 17,m 16 18,zex 19 0 16,zex 20 1 16,zo 5 (.alloc [zS,zI]),zs 2 5 19,m 6 20]
 (zK [m 21 0,zL 22 2 5,zc2 23 100 21 22,m 7 23]
 (Q (zK [m 24 6,zbk .eql 25 3 24 1]
 (C (.t 25) (zK [m 26 7,zo 27 (.call 101 [.c (V (I .i64 13)),.t 26]),m 28 7,zo 29 (.call 101 [.c (V (I .i64 10)),.t 28]),zo 30 (.buildSlice 4 1 zA [(0,4,(.t 29))]),zo 31 (.call 95 [.c (V (I .i64 14)),.t 30]),zo 32 (.buildSlice 4 2 [zI,zT,zI,zS,zI,zT,zI,zS] [(0,4,(.t 27)),(4,4,(.t 31))]),zo 33 (.call 95 [.c (V (I .i64 15)),.t 32]),zs 4 4 33]
 .ret) .skip))
 (zK [m 34 7,zo 35 (.call 101 [.c (V (I .i64 13)),.t 34]),zo 36 (.buildSlice 4 1 zA [(0,4,(.t 35))]),zo 37 (.call 95 [.c (V (I .i64 14)),.t 36]),zs 4 4 37]
 .ret))))))
def aFE:ax:=⟨f96,[.cell 4 (S 4)]⟩
theorem bLM:aR ib 96=some aFE:=kr
def f97:aF:=(zK [zbx 3 0,zbx 4 1,zbx 5 2,zo 6 (.alloc zA)]
 (zK [n 7 10]
 (zK [zL 11 3 3,zL 12 4 4,zc2 13 88 11 12,m 10 13,zex 14 0 10,zex 15 1 10,m 8 14,m 9 15]
 (Q (zK [m 16 9,zbk .eql 17 55 16 0,m 18 17,zgm 19 18 T 8,⟨S 20,S (18,T),.bin .eql 79 T (.t 19) (.c (V (G ⟨#[66,111,111,108]⟩)))⟩,zpf 21 18 20]
 (C (.t 21) (R [n 7 18]) .skip))
 (zK [m 22 7,zL 23 4 4,zL 24 4 5,zo 25 (.buildSlice 4 2 [zI,zT,zI,zS,zI,zT,zI,zS] [(0,4,(.t 23)),(4,4,(.t 24))]),zo 26 (.build zA [(0,1,(.t 22)),(3,1,(.t 25))]),zs 4 6 26]
 .ret)))))
def Tl:ax:=⟨f97,[.cell 6 (S 4)]⟩
theorem bLL:aR ib 97=some Tl:=kr
def f98:aF:=(zK [zo 2 (.alloc zA)]
 (Q (zK [m 3 0]
 (C (.t 3) (zK [zo 4 (.build zA [(0,1,(.c (V (I .i64 2)))),(2,1,(.c (V (I .i64 1))))]),zs 4 2 4]
 .ret) .skip))
 (zK [zo 5 (.build zA [(0,1,(.c (V (I .i64 2))))]),zs 4 2 5]
 .ret)))
def aVF:ax:=⟨f98,[.cell 2 (S 4)]⟩
theorem bLK:aR ib 98=some aVF:=kr
def aVC:List DOp:=[zdL 25 2 1 [],zdc 26 132 25 [],zdD 27 1 1 [0,1],zdl 28 27 [0,1],zde 29 131 26 28 [],zdm 4 29 []]
def aVE:aF:=.draw aVC
def aVB:List DOp:=[zdL 36 2 1 [],zdm 37 4 [0],zdm 38 5 [0,1],⟨zbv .mul 39 3 37 38,[37,38],[0]⟩,zdD 40 1 1 [0,1,2,3],zdl 41 40 [0,1,2,3],zdm 42 4 [0,1,2,3,4,5],zdm 43 5 [0,1,2,3,4,5,6],⟨zbv .mul 44 3 42 43,[42,43],[0,1,2,3,4,5]⟩,⟨zbv .quo 45 3 41 44,[41,44],[0,1,2,3]⟩,⟨zo 46 (.call 133 [.t 36,.t 39,.t 45]),[36,39,45],[]⟩,zdm 47 5 [0,1,2,3,4,5,6,7,8,9,10],⟨zs 2 2 46,[2,46],[11]⟩,zdm 3 47 []]
def aVD:aF:=.draw aVB
def f99:aF:=(zK [zbx 1 0,zo 2 (.alloc [zS,zI]),n 3 0]
 (Q (zK [zL 6 2 1,zc1 7 129 6,zbk .neq 8 55 7 0]
 (C (.t 8) (zK [zo 9 (.build [zS,zI] []),zs 2 2 9,n 3 0]
 .ret) .skip))
 (Q (zK [zD 10 0 1,l 11 10,zln 12 11,zbk .eql 13 3 12 0]
 (C (.t 13) (Q (.block 0 (zK [zD 15 1 1,l 16 15,zbk .gtr 17 3 16 0,m 14 17]
 (C (.t 14) (zK [zo 18 (.build [zS,zI] [(1,1,(.c (V (I .i64 1))))]),zs 2 2 18,n 3 1]
 .ret) (zK [zD 20 1 1,l 21 20,zbk .lss 22 3 21 0,m 19 22]
 (C (.t 19) (zK [zo 23 (.build [zS,zI] [(1,1,(.c (V (I .i64 1))))]),zs 2 2 23,n 3 (-1)]
 .ret) .skip)))))
 (zK [zo 24 (.build [zS,zI] []),zs 2 2 24,n 3 1]
 .ret)) .skip))
 (Q aVE
 (zK [n 5 1]
 (Q (zK [zD 30 0 1,l 31 30,zo 32 (X 2 (.t 31) (.c (V (I .i64 0)))),zD 33 1 32,l 34 33,zbk .lss 35 3 34 0]
 (C (.t 35) (R [n 5 (-1)]) .skip))
 (Q aVD
 .ret)))))))
def Tk:ax:=⟨f99,[.cell 2 (S 2),.tmp 3]⟩
theorem bLJ:aR ib 99=some Tk:=kr
def aLD:List DOp:=[zdm 15 0 [],⟨zo 16 (.cE (.t 15)),[15],[]⟩,zdD 17 3 16 [],zdl 18 17 [],zdm 19 5 [0,1,2,3],zdX 20 2 18 19 [],zdL 21 2 20 [],zdL 22 2 3 [0,1,2,3,4,5,6],zde 23 134 21 22 []]
def aLF:aF:=.draw aLD
def mC:aF:=(Q (zK [m 6 5,m 7 0,zo 8 (.cE (.t 7)),zD 9 3 8,l 10 9,zln 11 10,zbv .lss 12 3 6 11]
 (C (.t 12) .skip (.exit 0)))
 (Q (.block 1 (Q aLF
 (C (.t 23) (zK [m 24 5,m 4 24]
 .ret) .skip)))
 (R [m 13 5,zbk .add 14 3 13 1,m 5 14])))
def oT:aF:=.loop mC
def aLC:List DOp:=[zdm 25 0 [],zdm 26 0 [0],⟨zo 27 (.cE (.t 26)),[26],[0]⟩,zdD 28 3 27 [0],zdl 29 28 [0],zdL 30 2 3 [0,1,2,3,4],⟨zo 31 (.buildSlice 2 1 [zS,zI] [(0,2,(.t 30))]),[30],[0,1,2,3,4]⟩,⟨zo 32 (A 2 32 (.t 29) (.t 31)),[29,31],[0]⟩,⟨zo 33 (.cE (.t 25)),[25],[]⟩,zdD 34 3 33 [],⟨zs 1 34 32,[34,32],[]⟩]
def bGD:aF:=.draw aLC
def f100:aF:=(zK [zbx 3 1,n 4 0]
 (Q (zK [n 5 0]
 (.block 0 oT))
 (Q bGD
 (Q (zK [m 35 0,zo 36 (.cE (.t 35)),zD 37 3 36,l 38 37,zln 39 38,zbk .gtr 40 3 39 40]
 (C (.t 40) (R [m 41 0,zo 42 (.cE (.t 41)),zD 43 5 42,⟨O,O,.store 1 (.t 43) (.c (V (.bool T)))⟩]) .skip))
 (zK [m 44 0,zo 45 (.cE (.t 44)),zD 46 3 45,l 47 46,zln 48 47,zbk .sub 49 3 48 1,m 4 49]
 .ret)))))
def aLE:ax:=⟨f100,[.tmp 4]⟩
theorem bGC:aR ib 100=some aLE:=kr
def f101:aF:=(zK [zo 4 (.alloc zA)]
 (zK [m 5 0,m 6 1,zc1 7 135 6,zo 8 (.build zA [(0,1,(.c (V (I .i64 3)))),(1,1,(.t 7))]),zo 9 (.build zA [(0,1,(.c (V (I .i64 1))))]),zo 10 (.buildSlice 4 2 [zI,zT,zI,zS,zI,zT,zI,zS] [(0,4,(.t 8)),(4,4,(.t 9))]),zc2 11 95 5 10,zs 4 4 11]
 .ret))
def aLB:ax:=⟨f101,[.cell 4 (S 4)]⟩
theorem bGB:aR ib 101=some aLB:=kr
def aKZ:List DOp:=[zdD 25 3 3 [],zdl 26 25 [],zdD 27 3 1 [0,1],zdl 28 27 [0,1],zdm 29 4 [0,1,2,3],zdX 30 4 28 29 [0,1],zdL 31 4 30 [0,1],zdc 32 102 31 [0,1],⟨zo 33 (.buildSlice 4 1 zA [(0,4,(.t 32))]),[32],[0,1]⟩,⟨zo 34 (A 4 56 (.t 26) (.t 33)),[26,33],[]⟩,zdD 35 3 3 [],⟨zs 1 35 34,[35,34],[]⟩]
def aLA:aF:=.draw aKZ
def lh:aF:=(Q (zK [m 18 4,zD 19 3 1,l 20 19,zln 21 20,zbv .lss 22 3 18 21]
 (C (.t 22) .skip (.exit 0)))
 (Q (.block 1 aLA)
 (R [m 23 4,zbk .add 24 3 23 1,m 4 24])))
def oz:aF:=.loop lh
def f102:aF:=(zK [zbx 1 0,zo 2 (.alloc zA)]
 (Q (zK [zD 5 0 1,l 6 5,zbk .eql 7 40 6 4]
 (C (.t 7) (zK [zL 8 4 1,zc1 9 136 8,zo 10 (.build zA [(0,1,(.c (V (I .i64 3)))),(1,1,(.t 9))]),zs 4 2 10]
 .ret) .skip))
 (zK [zD 11 0 1,l 12 11,zD 13 1 1,l 14 13,zD 15 2 1,l 16 15,zo 17 (.build zA [(0,1,(.t 12)),(1,1,(.t 14)),(2,1,(.t 16))]),zo 3 (.alloc zA),zs 4 3 17]
 (Q (zK [n 4 0]
 (.block 0 oz))
 (zK [zL 36 4 3,zs 4 2 36]
 .ret)))))
def Vy:ax:=⟨f102,[.cell 2 (S 4)]⟩
theorem bGA:aR ib 102=some Vy:=kr
def f112:aF:=(zK [n 4 0]
 (zK [m 5 0,m 6 1,zc2 7 142 5 6,m 4 7]
 .ret))
def aKY:ax:=⟨f112,[.tmp 4]⟩
theorem bFZ:aR ib 112=some aKY:=kr
def f121:aF:=(zK [zbx 3 0]
 (zK [zD 7 1 1,l 8 7,zln 9 8,zo 10 (.cP 1 1 [V (.bool F)] (.t 9) (.t 9)),zo 4 (.alloc [zS]),zs 1 4 10]
 (zK [zD 11 1 1,l 12 11,zo 13 (X 2 (.t 12) (.c (V (I .i64 0)))),zD 14 0 13,l 15 14,zo 16 (.build zA [(0,1,(.c (V (I .i64 3)))),(1,1,(.t 15))]),zo 17 (.buildSlice 4 1 zA [(0,4,(.t 16))]),zo 5 (.alloc [zS]),zs 1 5 17]
 (zK [zo 6 (.alloc [V .nilFunc])]
 (zK [zo 18 (.fy (.func 122) [] [.t 2,.t 3,.t 5,.t 1,.t 4,.t 6]),zs 1 6 18]
 (R [l 19 6,zo 20 (.dR (.t 19) [.c (V (I .i64 1))])]))))))
def aKX:ax:=⟨f121,[]⟩
theorem bFY:aR ib 121=some aKX:=kr
def aKV:List DOp:=[zdl 16 2 [],zdl 17 3 [0],zdc 18 123 17 [0],⟨zo 19 (.dR (.t 16) [.t 18]),[16,18],[]⟩,zdm 8 19 []]
def bFX:aF:=.draw aKV
def Vu:List DOp:=[zdl 27 5 [],zdm 28 9 [0],zdX 29 1 27 28 [],zdl 30 29 [],zdm 31 30 [],⟨zgD 32 31 F 1 4,[4,31],[]⟩,⟨zgl 33 31 F 32,[32,31],[]⟩,⟨zgm 34 31 F 9,[9,31],[5,6]⟩,⟨zgX 35 31 F 2 33 34,[33,34,31],[]⟩,⟨zgD 36 31 F 1 35,[35,31],[]⟩,⟨zgl 37 31 F 36,[36,31],[]⟩,⟨zgD 38 31 F 1 1,[1,31],[5,6,7,8,9,10]⟩,⟨zgl 39 31 F 38,[38,31],[5,6,7,8,9,10]⟩,⟨zgm 40 31 F 0,[0,31],[5,6,7,8,9,10,11,12]⟩,⟨zgX 41 31 F 2 39 40,[39,40,31],[5,6,7,8,9,10]⟩,⟨zgD 42 31 F 1 41,[41,31],[5,6,7,8,9,10]⟩,⟨zgl 43 31 F 42,[42,31],[5,6,7,8,9,10]⟩,⟨zg 44 31 F (.bin .neq 79 F (.t 37) (.t 43)),[37,43,31],[]⟩,⟨zpt 45 31 44,[31,44],[]⟩]
def bFW:aF:=.draw Vu
def aKU:List DOp:=[zdl 49 3 [],zdD 50 1 4 [0],zdl 51 50 [0],zdm 52 9 [0,1,2],zdX 53 2 51 52 [0],zdD 54 0 53 [0],zdl 55 54 [0],⟨zo 56 (.build zA [(0,1,(.c (V (I .i64 3)))),(1,1,(.t 55))]),[55],[0]⟩,zdn 57 49 [1,2,3,4,5,6,7],⟨zo 58 (.buildSlice 4 1 zA [(0,4,(.c (.agg zA)))]),[],[0,1,2,3,4,5,6,7,8]⟩,⟨zo 59 (A 4 56 (.t 49) (.t 58)),[49,58],[]⟩,zdX 60 4 59 57 [],⟨zs 4 60 56,[60,56],[]⟩,⟨zs 1 3 59,[3,59],[11,12]⟩]
def bFV:aF:=.draw aKU
def l6:aF:=(Q (zK [m 20 9,zD 21 1 4,l 22 21,zln 23 22,zbv .lss 24 3 20 23]
 (C (.t 24) .skip (.exit 0)))
 (Q (.block 1 (Q (Q bFW
 (C (.t 45) (.exit 1) .skip))
 (zK [l 46 5,m 47 9,zX 48 1 46 47,⟨O,O,.store 1 (.t 48) (.c (V (.bool T)))⟩]
 (Q bFV
 (zK [l 61 6,m 62 0,zbk .add 63 3 62 1,zo 64 (.dR (.t 61) [.t 63]),m 10 64]
 (zK [l 65 3,l 66 3,zln 67 66,zbk .sub 68 3 67 1,zo 69 (.dE 4 (.t 65) O (S (.t 68)) O),zs 1 3 69]
 (zK [l 70 5,m 71 9,zX 72 1 70 71,⟨O,O,.store 1 (.t 72) (.c (V (.bool F)))⟩]
 (zK [m 73 10,zun 74 73]
 (zr 74 8)))))))))
 (R [m 25 9,zbk .add 26 3 25 1,m 9 26])))
def mL:aF:=.loop l6
def f122:aF:=(zK [zbf 8]
 (Q (zK [m 11 0,zD 12 1 1,l 13 12,zln 14 13,zbv .eql 15 3 11 14]
 (C (.t 15) (Q bFX
 .ret) .skip))
 (Q (zK [n 9 1]
 (.block 0 mL))
 (zK [zbt 8]
 .ret))))
def aKW:ax:=⟨f122,[.tmp 8]⟩
theorem bFU:aR ib 122=some aKW:=kr
def f123:aF:=(zK [zns 2]
 (Q (zK [m 3 0,zo 4 (.bin .eql 41 T (.t 3) (.c (V (.slice O 0 0))))]
 (C (.t 4) (zK [zns 2]
 .ret) .skip))
 (zK [zo 5 (.buildSlice 4 0 [] []),m 6 0,zo 7 (A 4 56 (.t 5) (.t 6)),m 2 7]
 .ret)))
def aKT:ax:=⟨f123,[.tmp 2]⟩
theorem bFT:aR ib 123=some aKT:=kr
def kz:aF:=(Q (zK [m 6 5,m 7 0,zln 8 7,zbv .lss 9 3 6 8]
 (C (.t 9) .skip (.exit 0)))
 (Q (.block 1 (zK [m 12 0,m 13 5,zX 14 1 12 13,l 15 14,m 16 1,zbv .eql 17 3 15 16]
 (C (.t 17) (zK [zbt 4]
 .ret) .skip)))
 (R [m 10 5,zbk .add 11 3 10 1,m 5 11])))
def oY:aF:=.loop kz
def f124:aF:=(zK [zbf 4]
 (Q (zK [n 5 0]
 (.block 0 oY))
 (zK [zbf 4]
 .ret)))
def aKS:ax:=⟨f124,[.tmp 4]⟩
theorem bFS:aR ib 124=some aKS:=kr
def k9:aF:=(zK [zbv .lss 9 3 8 7]
 (zx 9 0
 (Q (.block 1 (zK [m 10 8,m 5 10]
 (zK [m 11 0,m 12 5,zX 13 1 11 12,l 14 13,m 15 1,zbv .eql 16 9 14 15]
 (C (.t 16) (zK [m 17 5,m 4 17]
 .ret) .skip))))
 (zj 18 8))))
def oZ:aF:=.loop k9
def f125:aF:=(zK [n 4 0]
 (Q (zK [m 6 0,zln 7 6,n 8 0]
 (.block 0 oZ))
 (zK [n 4 (-1)]
 .ret)))
def aKR:ax:=⟨f125,[.tmp 4]⟩
theorem bFR:aR ib 125=some aKR:=kr
def f126:aF:=(zK [zbx 1 0,n 2 0]
 (Q (zK [zL 3 4 1,zc1 4 13 3,zbk .gtr 5 3 4 400]
 (C (.t 5) (zK [n 2 7]
 .ret) .skip))
 (Q (zK [zL 6 4 1,zc1 7 14 6,zbk .gtr 8 3 7 40]
 (C (.t 8) (zK [n 2 8]
 .ret) .skip))
 (zK [zL 9 4 1,zc1 10 158 9,m 2 10]
 .ret))))
def pP:ax:=⟨f126,[.tmp 2]⟩
theorem bFQ:aR ib 126=some pP:=kr
def aKO:List DOp:=[zdL 20 3 2 [],zdD 21 3 3 [0],zdl 22 21 [0],zdm 23 7 [0,1,2],zdX 24 4 22 23 [0],zdL 25 4 24 [0],zde 26 127 20 25 [],zdm 19 26 [],⟨zex 27 0 19,[19],[]⟩,⟨zex 28 1 19,[19],[8]⟩,zdm 8 27 [9],zdm 9 28 []]
def aKQ:aF:=.draw aKO
def mu:aF:=(Q (zK [m 12 7,zD 13 3 3,l 14 13,zln 15 14,zbv .lss 16 3 12 15]
 (C (.t 16) .skip (.exit 0)))
 (Q (.block 1 (Q aKQ
 (Q (zK [m 29 9,zbk .neq 30 55 29 0]
 (C (.t 30) (zK [m 31 9,zo 4 (.mv (.c (V (G ⟨#[]⟩)))),m 5 31]
 .ret) .skip))
 (R [m 32 6,m 33 8,zo 34 (.buildSlice 1 1 [zT] [(0,1,(.t 33))]),zo 35 (A 1 16 (.t 32) (.t 34)),m 6 35]))))
 (R [m 17 7,zbk .add 18 3 17 1,m 7 18])))
def oU:aF:=.loop mu
def f127:aF:=(zK [zbx 2 0,zbx 3 1,zo 4 (.mv (.c (V (G ⟨#[]⟩)))),n 5 0]
 (zK [zns 6]
 (Q (zK [n 7 0]
 (.block 0 oU))
 (Q (zK [zD 36 0 3,l 37 36]
 (.block 2 (zK [zbk .eql 39 40 37 1,m 38 39]
 (C (.t 38) (zK [zo 4 (.mv (.c (V (G ⟨#[73,110,116]⟩)))),n 5 0]
 .ret) (zK [zbk .eql 41 40 37 2,m 40 41]
 (C (.t 40) (zK [zo 4 (.mv (.c (V (G ⟨#[66,111,111,108]⟩)))),n 5 0]
 .ret) (zK [zbk .eql 43 40 37 3,m 42 43]
 (C (.t 42) (zK [zL 45 3 2,zD 46 1 3,l 47 46,zc2 48 159 45 47,m 44 48,zex 49 0 44,zex 50 1 44,m 10 49,m 11 50]
 (Q (zK [m 51 11,zun 52 51]
 (C (.t 52) (zK [zo 4 (.mv (.c (V (G ⟨#[]⟩)))),n 5 5]
 .ret) .skip))
 (zK [m 53 10,m 4 53,n 5 0]
 .ret))) (zK [zbk .eql 55 40 37 4,m 54 55]
 (C (.t 54) (zK [zL 56 3 2,zD 57 1 3,l 58 57,m 59 6,zo 60 (.call 160 [.t 56,.t 58,.t 59]),zex 61 0 60,zex 62 1 60,m 4 61,m 5 62]
 .ret) (zK [zbk .eql 64 40 37 5,m 63 64]
 (C (.t 63) (zK [zL 65 3 2,zD 66 1 3,l 67 66,m 68 6,zo 69 (.call 161 [.t 65,.t 67,.t 68]),zex 70 0 69,zex 71 1 69,m 4 70,m 5 71]
 .ret) .skip))))))))))))
 (zK [zD 72 0 3,l 73 72,m 74 6,zc2 75 162 73 74,zex 76 0 75,zex 77 1 75,m 4 76,m 5 77]
 .ret)))))
def aKP:ax:=⟨f127,[.tmp 4,.tmp 5]⟩
theorem bFP:aR ib 127=some aKP:=kr
def ky:aF:=(zK [zbv .lss 10 3 9 8]
 (zx 10 0
 (Q (.block 1 (zK [zX 11 4 7 9,zL 12 4 11,zo 6 (.alloc zA),zs 4 6 12]
 (zK [zL 13 4 6,zL 14 4 3,zc2 15 21 13 14]
 (C (.t 15) (zK [zbt 4]
 .ret) .skip))))
 (zj 16 9))))
def o8:aF:=.loop ky
def f128:aF:=(zK [zbx 3 1,zbf 4]
 (Q (zK [m 7 0,zln 8 7,n 9 0]
 (.block 0 o8))
 (zK [zbf 4]
 .ret)))
def aKN:ax:=⟨f128,[.tmp 4]⟩
theorem bFO:aR ib 128=some aKN:=kr
def Vs:List DOp:=[zdm 42 3 [],⟨zbk .gtr 43 3 42 0,[42],[]⟩,zdm 44 43 [],⟨zgD 45 44 T 0 4,[4,44],[]⟩,⟨zgl 46 44 T 45,[45,44],[]⟩,⟨zgD 47 44 T 0 1,[1,44],[3,4]⟩,⟨zgl 48 44 T 47,[47,44],[3,4]⟩,⟨zgm 49 44 T 3,[3,44],[3,4,5,6]⟩,⟨zgk .sub 50 44 T 3 49 1,[49,44],[3,4,5,6]⟩,⟨zgX 51 44 T 2 48 50,[48,50,44],[3,4]⟩,⟨zgD 52 44 T 0 51,[51,44],[3,4]⟩,⟨zgl 53 44 T 52,[52,44],[3,4]⟩,⟨zg 54 44 T (.bin .leq 9 F (.t 46) (.t 53)),[46,53,44],[]⟩,⟨zpf 55 44 54,[44,54],[]⟩,zdm 41 55 []]
def aKM:aF:=.draw Vs
def gJ:aF:=(Q (zK [m 9 3,zD 10 0 1,l 11 10,zln 12 11,zbv .lss 13 3 9 12]
 (C (.t 13) .skip (.exit 0)))
 (Q (.block 1 (zK [zD 16 0 1,l 17 16,m 18 3,zX 19 2 17 18,zL 20 2 19,zo 4 (.alloc [zT,zI]),zs 2 4 20]
 (.block 2 (zK [zD 22 0 4,l 23 22,zo 24 (.bin .eql 9 T (.t 23) (.c (V (G ⟨#[]⟩)))),m 25 24,zgD 26 25 F 0 4,zgl 27 25 F 26,zg 28 25 F (.b7 (.t 27)),zgk .gtr 29 25 F 3 28 400,zpt 30 25 29,m 21 30]
 (C (.t 21) (zK [n 2 3]
 .ret) (zK [zD 32 1 4,l 33 32,zbk .eql 34 3 33 0,m 35 34,zgD 36 35 F 1 4,zgl 37 35 F 36,zgc 38 35 F 163 37,zg 39 35 F (.un .not (.t 38)),zpt 40 35 39,m 31 40]
 (C (.t 31) (zK [n 2 2]
 .ret) (Q aKM
 (C (.t 41) (zK [n 2 9]
 .ret) .skip)))))))))
 (R [m 14 3,zbk .add 15 3 14 1,m 3 15])))
def pK:aF:=.loop gJ
def f129:aF:=(zK [zbx 1 0,n 2 0]
 (Q (zK [zD 5 0 1,l 6 5,zln 7 6,zbk .gtr 8 3 7 24]
 (C (.t 8) (zK [n 2 7]
 .ret) .skip))
 (Q (zK [n 3 0]
 (.block 0 pK))
 (Q (zK [zD 56 1 1,l 57 56,zc1 58 163 57,zun 59 58]
 (C (.t 59) (zK [n 2 2]
 .ret) .skip))
 (zK [n 2 0]
 .ret)))))
def Vt:ax:=⟨f129,[.tmp 2]⟩
theorem bFN:aR ib 129=some Vt:=kr
def aKI:List DOp:=[zdL 21 2 4 [],zdL 22 2 4 [0],zdc 23 129 22 [0],⟨zbk .eql 24 55 23 0,[23],[0]⟩,⟨zs 2 2 21,[2,21],[3]⟩,zdm 3 24 []]
def aKL:aF:=.draw aKI
def aKH:List DOp:=[zdL 32 2 5 [],zdL 33 2 5 [0],zdc 34 129 33 [0],⟨zbk .eql 35 55 34 0,[34],[0]⟩,⟨zs 2 2 32,[2,32],[3]⟩,zdm 3 35 []]
def aKK:aF:=.draw aKH
def aKG:List DOp:=[zdL 66 2 8 [],zdD 67 3 1 [0],zdl 68 67 [0],⟨zo 69 (X 4 (.t 68) (.c (V (I .i64 0)))),[68],[0]⟩,zdD 70 2 69 [0],zdl 71 70 [0],zde 72 164 66 71 [],⟨zex 73 0 72,[72],[]⟩,⟨zex 74 1 72,[72],[7]⟩,⟨zs 2 2 73,[2,73],[]⟩,zdm 3 74 []]
def aKJ:aF:=.draw aKG
def f130:aF:=(zK [zbx 1 0,zo 2 (.alloc [zS,zI]),zbf 3]
 (Q (zK [zD 14 0 1,l 15 14]
 (.block 0 (zK [zbk .eql 17 40 15 1,m 16 17]
 (C (.t 16) (zK [zD 18 2 1,l 19 18,zo 20 (.build [zS,zI] [(1,1,(.t 19))]),zo 4 (.alloc [zS,zI]),zs 2 4 20]
 (Q aKL
 .ret)) (zK [zbk .eql 26 40 15 3,m 25 26]
 (C (.t 25) (zK [zD 27 1 1,l 28 27,zo 29 (.build [zT,zI] [(0,1,(.t 28)),(1,1,(.c (V (I .i64 1))))]),zo 30 (.buildSlice 2 1 [zT,zI] [(0,2,(.t 29))]),zo 31 (.build [zS,zI] [(0,1,(.t 30))]),zo 5 (.alloc [zS,zI]),zs 2 5 31]
 (Q aKK
 .ret)) (zK [zbk .eql 37 40 15 9,m 36 37]
 (C (.t 36) (zK [zD 39 3 1,l 40 39,zo 41 (X 4 (.t 40) (.c (V (I .i64 0)))),zL 42 4 41,zc1 43 130 42,m 38 43,zex 44 0 38,zex 45 1 38,zo 6 (.alloc [zS,zI]),zs 2 6 44,m 7 45]
 (Q (zK [m 46 7,zun 47 46]
 (C (.t 47) (zK [zo 48 (.build [zS,zI] []),zs 2 2 48,zbf 3]
 .ret) .skip))
 (zK [zL 49 2 6,zo 50 (.call 164 [.t 49,.c (V (I .i64 (-1)))]),zex 51 0 50,zex 52 1 50,zs 2 2 51,m 3 52]
 .ret))) (zK [zbk .eql 54 40 15 8,m 53 54]
 (C (.t 53) (zK [zD 56 3 1,l 57 56,zo 58 (X 4 (.t 57) (.c (V (I .i64 1)))),zL 59 4 58,zc1 60 130 59,m 55 60,zex 61 0 55,zex 62 1 55,zo 8 (.alloc [zS,zI]),zs 2 8 61,m 9 62]
 (Q (zK [m 63 9,zun 64 63]
 (C (.t 64) (zK [zo 65 (.build [zS,zI] []),zs 2 2 65,zbf 3]
 .ret) .skip))
 (Q aKJ
 .ret))) (Q (zK [zbk .eql 76 40 15 6,m 75 76]
 (C (.t 75) .skip (R [zbk .eql 77 40 15 7,m 75 77])))
 (C (.t 75) (zK [zD 79 3 1,l 80 79,zo 81 (X 4 (.t 80) (.c (V (I .i64 0)))),zL 82 4 81,zc1 83 130 82,m 78 83,zex 84 0 78,zex 85 1 78,zo 10 (.alloc [zS,zI]),zs 2 10 84,m 11 85]
 (zK [zD 87 3 1,l 88 87,zo 89 (X 4 (.t 88) (.c (V (I .i64 1)))),zL 90 4 89,zc1 91 130 90,m 86 91,zex 92 0 86,zex 93 1 86,zo 12 (.alloc [zS,zI]),zs 2 12 92,m 13 93]
 (Q (zK [m 94 13,m 95 94,zgD 96 95 T 0 1,zgl 97 95 T 96,zgk .eql 98 95 T 40 97 7,zpf 99 95 98]
 (C (.t 99) (R [zL 101 2 12,zo 102 (.call 164 [.t 101,.c (V (I .i64 (-1)))]),m 100 102,zex 103 0 100,zex 104 1 100,zs 2 12 103,m 13 104]) .skip))
 (Q (zK [m 105 11,zun 106 105,m 107 106,zgm 108 107 F 13,zg 109 107 F (.un .not (.t 108)),zpt 110 107 109]
 (C (.t 110) (zK [zo 111 (.build [zS,zI] []),zs 2 2 111,zbf 3]
 .ret) .skip))
 (zK [zL 112 2 10,zL 113 2 12,zc2 114 165 112 113,zex 115 0 114,zex 116 1 114,zs 2 2 115,m 3 116]
 .ret))))) .skip))))))))))))
 (zK [zo 117 (.build [zS,zI] []),zs 2 2 117,zbf 3]
 .ret)))
def eN:ax:=⟨f130,[.cell 2 (S 2),.tmp 3]⟩
theorem bFM:aR ib 130=some eN:=kr
def mF:aF:=(Q (zK [m 10 1,zbk .gtr 11 3 10 0]
 (C (.t 11) .skip (.exit 0)))
 (.block 1 (zK [m 12 0,m 13 1,zbv .rem 14 3 12 13,m 5 14]
 (zK [m 15 1,m 0 15]
 (R [m 16 5,m 1 16])))))
def pG:aF:=.loop mF
def f131:aF:=(zK [n 4 0]
 (zK [m 6 0,zc1 7 166 6,m 0 7]
 (zK [m 8 1,zc1 9 166 8,m 1 9]
 (Q (.block 0 pG)
 (zK [m 17 0,m 4 17]
 .ret)))))
def aKF:ax:=⟨f131,[.tmp 4]⟩
theorem bFL:aR ib 131=some aKF:=kr
def mV:aF:=(Q (zK [m 5 4,zD 6 0 1,l 7 6,zln 8 7,zbv .lss 9 3 5 8]
 (C (.t 9) .skip (.exit 0)))
 (Q (.block 1 (R [m 12 3,zD 13 0 1,l 14 13,m 15 4,zX 16 2 14 15,zD 17 1 16,l 18 17,zc2 19 131 12 18,m 3 19]))
 (R [m 10 4,zbk .add 11 3 10 1,m 4 11])))
def oS:aF:=.loop mV
def f132:aF:=(zK [zbx 1 0,n 2 0]
 (zK [n 3 0]
 (Q (zK [n 4 0]
 (.block 0 oS))
 (zK [m 20 3,m 2 20]
 .ret))))
def aKE:ax:=⟨f132,[.tmp 2]⟩
theorem bFK:aR ib 132=some aKE:=kr
def aKB:List DOp:=[zdD 18 0 7 [],zdl 19 18 [],zdD 20 0 3 [0,1],zdl 21 20 [0,1],zdm 22 8 [0,1,2,3],zdX 23 2 21 22 [0,1],zdD 24 0 23 [0,1],zdl 25 24 [0,1],zdD 26 0 3 [0,1,2,3,4,5,6,7],zdl 27 26 [0,1,2,3,4,5,6,7],zdm 28 8 [0,1,2,3,4,5,6,7,8,9],zdX 29 2 27 28 [0,1,2,3,4,5,6,7],zdD 30 1 29 [0,1,2,3,4,5,6,7],zdl 31 30 [0,1,2,3,4,5,6,7],zdm 32 1 [0,1,2,3,4,5,6,7,8,9,10,11,12,13],⟨zbv .quo 33 3 31 32,[31,32],[0,1,2,3,4,5,6,7]⟩,⟨zo 34 (.build [zT,zI] [(0,1,(.t 25)),(1,1,(.t 33))]),[25,33],[0,1]⟩,⟨zo 35 (.buildSlice 2 1 [zT,zI] [(0,2,(.t 34))]),[34],[0,1]⟩,⟨zo 36 (A 2 24 (.t 19) (.t 35)),[19,35],[]⟩,zdD 37 0 7 [],⟨zs 1 37 36,[37,36],[]⟩]
def aKD:aF:=.draw aKB
def l9:aF:=(Q (zK [m 11 8,zD 12 0 3,l 13 12,zln 14 13,zbv .lss 15 3 11 14]
 (C (.t 15) .skip (.exit 0)))
 (Q (.block 1 aKD)
 (R [m 16 8,zbk .add 17 3 16 1,m 8 17])))
def ox:aF:=.loop l9
def f133:aF:=(zK [zbx 3 0,zo 6 (.alloc [zS,zI])]
 (zK [m 9 2,zo 10 (.build [zS,zI] [(1,1,(.t 9))]),zo 7 (.alloc [zS,zI]),zs 2 7 10]
 (Q (zK [n 8 0]
 (.block 0 ox))
 (zK [zL 38 2 7,zs 2 6 38]
 .ret))))
def aKC:ax:=⟨f133,[.cell 6 (S 2)]⟩
theorem bFJ:aR ib 133=some aKC:=kr
def aJZ:List DOp:=[zdD 27 0 2 [],zdl 28 27 [],zdm 29 5 [0,1],zdX 30 2 28 29 [],zdL 31 2 30 [],zdD 32 0 3 [0,1,2,3,4],zdl 33 32 [0,1,2,3,4],zdm 34 5 [0,1,2,3,4,5,6],zdX 35 2 33 34 [0,1,2,3,4],zdL 36 2 35 [0,1,2,3,4],⟨zbv .neq 37 146 31 36,[31,36],[]⟩]
def aKA:aF:=.draw aJZ
def mf:aF:=(Q (zK [m 20 5,zD 21 0 2,l 22 21,zln 23 22,zbv .lss 24 3 20 23]
 (C (.t 24) .skip (.exit 0)))
 (Q (.block 1 (Q aKA
 (zr 37 4)))
 (R [m 25 5,zbk .add 26 3 25 1,m 5 26])))
def oR:aF:=.loop mf
def f134:aF:=(zK [zbx 2 0,zbx 3 1,zbf 4]
 (Q (zK [zD 6 0 2,l 7 6,zln 8 7,zD 9 0 3,l 10 9,zln 11 10,zbv .neq 12 3 8 11,m 13 12,zgD 14 13 F 1 2,zgl 15 13 F 14,zgD 16 13 F 1 3,zgl 17 13 F 16,zg 18 13 F (.bin .neq 3 F (.t 15) (.t 17)),zpt 19 13 18]
 (zr 19 4))
 (Q (zK [n 5 0]
 (.block 0 oR))
 (zK [zbt 4]
 .ret))))
def Vo:ax:=⟨f134,[.tmp 4]⟩
theorem bFI:aR ib 134=some Vo:=kr
def f135:aF:=(zK [zo 2 (.mv (.c (V (G ⟨#[]⟩))))]
 (Q (zK [m 3 0,zbk .lss 4 3 3 0]
 (C (.t 4) (Q (zK [m 5 0,zbk .gtr 6 3 5 (-10)]
 (C (.t 6) (zK [m 7 0,zo 8 (.un .neg (.t 7)),zc1 9 135 8,zo 10 (.bin .add 9 T (.c (V (G ⟨#[45]⟩))) (.t 9)),m 2 10]
 .ret) .skip))
 (zK [m 11 0,zbk .quo 12 3 11 10,zo 13 (.un .neg (.t 12)),zc1 14 135 13,zo 15 (.bin .add 9 T (.c (V (G ⟨#[45]⟩))) (.t 14)),m 16 0,zbk .rem 17 3 16 10,zo 18 (.un .neg (.t 17)),zc1 19 135 18,zbv .add 20 9 15 19,m 2 20]
 .ret)) .skip))
 (Q (zK [m 21 0,zbk .lss 22 3 21 10]
 (C (.t 22) (zK [m 23 0,m 24 0,zbk .add 25 3 24 1,zo 26 (.fC (.c (V (G ⟨#[48,49,50,51,52,53,54,55,56,57]⟩))) (S (.t 23)) (S (.t 25))),m 2 26]
 .ret) .skip))
 (zK [m 27 0,zbk .quo 28 3 27 10,zc1 29 135 28,m 30 0,zbk .rem 31 3 30 10,zc1 32 135 31,zbv .add 33 9 29 32,m 2 33]
 .ret))))
def mW:ax:=⟨f135,[.tmp 2]⟩
theorem Gq:aR ib 135=some mW:=kr
def kw:aF:=(Q (zK [m 35 4,zD 36 3 1,l 37 36,zln 38 37,zbv .lss 39 3 35 38]
 (C (.t 39) .skip (.exit 1)))
 (Q (.block 2 (Q (zK [m 42 4,zbk .gtr 43 3 42 0]
 (C (.t 43) (R [m 44 3,zo 45 (.bin .add 9 T (.t 44) (.c (V (G ⟨#[44]⟩)))),m 3 45]) .skip))
 (R [m 46 3,zD 47 3 1,l 48 47,m 49 4,zX 50 4 48 49,zL 51 4 50,zc1 52 136 51,zbv .add 53 9 46 52,m 3 53])))
 (R [m 40 4,zbk .add 41 3 40 1,m 4 41])))
def oX:aF:=.loop kw
def f136:aF:=(zK [zbx 1 0,zo 2 (.mv (.c (V (G ⟨#[]⟩))))]
 (zK [zD 5 0 1,l 6 5,zc1 7 167 6,m 3 7]
 (Q (zK [zD 8 0 1,l 9 8]
 (.block 0 (zK [zbk .eql 11 40 9 1,m 10 11]
 (C (.t 10) (zK [zD 12 2 1,l 13 12,zc1 14 135 13,m 2 14]
 .ret) (zK [zbk .eql 16 40 9 2,m 15 16]
 (C (.t 15) (Q (zK [zD 17 2 1,l 18 17,zbk .eql 19 3 18 1]
 (C (.t 19) (zK [zo 2 (.mv (.c (V (G ⟨#[116,114,117,101]⟩))))]
 .ret) .skip))
 (zK [zo 2 (.mv (.c (V (G ⟨#[102,97,108,115,101]⟩))))]
 .ret)) (zK [zbk .eql 21 40 9 3,m 20 21]
 (C (.t 20) (zK [zD 22 1 1,l 23 22,m 2 23]
 .ret) (zK [zbk .eql 25 40 9 4,m 24 25]
 (C (.t 24) (R [zD 26 1 1,l 27 26,m 3 27]) (zK [zbk .eql 29 40 9 5,m 28 29]
 (C (.t 28) (R [zD 30 1 1,l 31 30,zo 32 (.bin .add 9 T (.c (V (G ⟨#[63]⟩))) (.t 31)),m 3 32]) .skip))))))))))))
 (zK [m 33 3,zo 34 (.bin .add 9 T (.t 33) (.c (V (G ⟨#[40]⟩)))),m 3 34]
 (Q (zK [n 4 0]
 (.block 1 oX))
 (zK [m 54 3,zo 55 (.bin .add 9 T (.t 54) (.c (V (G ⟨#[41]⟩)))),m 2 55]
 .ret))))))
def gm:ax:=⟨f136,[.tmp 2]⟩
theorem bFH:aR ib 136=some gm:=kr
def k6:aF:=(zK [zbv .lss 9 3 8 7]
 (zx 9 0
 (Q (.block 1 (zK [m 10 8,m 5 10]
 (zK [m 11 1,m 12 0,m 13 5,zX 14 1 12 13,l 15 14,zbv .eql 16 9 11 15]
 (C (.t 16) (zK [m 17 5,m 4 17]
 .ret) .skip))))
 (zj 18 8))))
def og:aF:=.loop k6
def f142:aF:=(zK [n 4 0]
 (Q (zK [m 6 0,zln 7 6,n 8 0]
 (.block 0 og))
 (zK [n 4 (-1)]
 .ret)))
def aJY:ax:=⟨f142,[.tmp 4]⟩
theorem bFG:aR ib 142=some aJY:=kr
def lF:aF:=(zK [zbv .lss 16 3 15 14]
 (zx 16 0
 (Q (.block 1 (zK [zX 17 4 13 15,zL 18 4 17,zo 5 (.alloc zA),zs 4 5 18]
 (zK [zL 19 4 5,zc1 20 158 19,m 6 20]
 (zK [m 21 6,zbk .neq 22 55 21 0]
 (C (.t 22) (zK [m 23 6,m 2 23]
 .ret) .skip)))))
 (zj 24 15))))
def pN:aF:=.loop lF
def f158:aF:=(zK [zbx 1 0,n 2 0]
 (Q (zK [zL 7 4 1,zc1 8 204 7,m 3 8]
 (zK [m 9 3,zbk .neq 10 55 9 0]
 (C (.t 10) (zK [m 11 3,m 2 11]
 .ret) .skip)))
 (Q (zK [zD 12 3 1,l 13 12,zln 14 13,n 15 0]
 (.block 0 pN))
 (zK [n 2 0]
 .ret))))
def Vk:ax:=⟨f158,[.tmp 2]⟩
theorem bFF:aR ib 158=some Vk:=kr
def lD:aF:=(Q (zK [m 11 6,zbk .geq 12 3 11 0]
 (C (.t 12) .skip (.exit 0)))
 (Q (.block 1 (zK [zD 15 0 2,l 16 15,m 17 6,zX 18 2 16 17,zD 19 0 18,l 20 19,m 21 1,zbv .eql 22 9 20 21]
 (C (.t 22) (zK [zD 23 0 2,l 24 23,m 25 6,zX 26 2 24 25,zD 27 1 26,l 28 27,m 4 28,zbt 5]
 .ret) .skip)))
 (R [m 13 6,zbk .sub 14 3 13 1,m 6 14])))
def oQ:aF:=.loop lD
def f159:aF:=(zK [zbx 2 0,zo 4 (.mv (.c (V (G ⟨#[]⟩)))),zbf 5]
 (Q (zK [zD 7 0 2,l 8 7,zln 9 8,zbk .sub 10 3 9 1,m 6 10]
 (.block 0 oQ))
 (zK [zo 4 (.mv (.c (V (G ⟨#[]⟩)))),zbf 5]
 .ret)))
def aJX:ax:=⟨f159,[.tmp 4,.tmp 5]⟩
theorem bFE:aR ib 159=some aJX:=kr
def f160:aF:=(zK [zbx 3 0,zo 6 (.mv (.c (V (G ⟨#[]⟩)))),n 7 0]
 (zK [zL 11 3 3,m 12 1,zc2 13 205 11 12,m 10 13,zex 14 0 10,zex 15 1 10,zo 8 (.alloc [zT,zS,zT]),zs 3 8 14,m 9 15]
 (Q (zK [m 16 9,zun 17 16]
 (C (.t 17) (zK [zo 6 (.mv (.c (V (G ⟨#[]⟩)))),n 7 5]
 .ret) .skip))
 (Q (zK [m 18 1,zo 19 (.bin .eql 9 T (.t 18) (.c (V (G ⟨#[116,97,103]⟩))))]
 (C (.t 19) (Q (zK [m 20 2,zln 21 20,zbk .neq 22 3 21 1]
 (C (.t 22) (zK [zo 6 (.mv (.c (V (G ⟨#[]⟩)))),n 7 13]
 .ret) .skip))
 (Q (zK [m 23 2,zo 24 (X 1 (.t 23) (.c (V (I .i64 0)))),l 25 24,zo 26 (.bin .eql 79 T (.t 25) (.c (V (G ⟨#[73,110,116]⟩)))),m 27 26,zgm 28 27 F 2,zg 29 27 F (X 1 (.t 28) (.c (V (I .i64 0)))),zgl 30 27 F 29,⟨S 31,S (27,F),.bin .eql 79 T (.t 30) (.c (V (G ⟨#[66,111,111,108]⟩)))⟩,zpt 32 27 31,m 33 32,zgm 34 33 F 2,zg 35 33 F (X 1 (.t 34) (.c (V (I .i64 0)))),zgl 36 33 F 35,⟨S 37,S (33,F),.bin .eql 79 T (.t 36) (.c (V (G ⟨#[67,101,108,108]⟩)))⟩,zpt 38 33 37]
 (C (.t 38) (zK [zo 6 (.mv (.c (V (G ⟨#[]⟩)))),n 7 11]
 .ret) .skip))
 (zK [zo 6 (.mv (.c (V (G ⟨#[73,110,116]⟩)))),n 7 0]
 .ret))) .skip))
 (Q (zK [m 39 2,zln 40 39,zD 41 1 8,l 42 41,zln 43 42,zbv .neq 44 3 40 43]
 (C (.t 44) (zK [zo 6 (.mv (.c (V (G ⟨#[]⟩)))),n 7 13]
 .ret) .skip))
 (Q (zK [m 45 2,zD 46 1 8,l 47 46,zc2 48 206 45 47,zun 49 48]
 (C (.t 49) (zK [zo 6 (.mv (.c (V (G ⟨#[]⟩)))),n 7 11]
 .ret) .skip))
 (zK [zD 50 2 8,l 51 50,m 6 51,n 7 0]
 .ret)))))))
def ko:ax:=⟨f160,[.tmp 6,.tmp 7]⟩
theorem bFD:aR ib 160=some ko:=kr
def aJV:List DOp:=[zdm 31 2 [],zdm 32 10 [0],zdX 33 1 31 32 [],zdl 34 33 [],zdD 35 1 8 [0,1,2,3],zdl 36 35 [0,1,2,3],zdm 37 10 [0,1,2,3,4,5],zdX 38 2 36 37 [0,1,2,3],zdD 39 1 38 [0,1,2,3],zdl 40 39 [0,1,2,3],⟨zbv .neq 41 79 34 40,[34,40],[]⟩]
def aJW:aF:=.draw aJV
def mZ:aF:=(Q (zK [m 25 10,m 26 2,zln 27 26,zbv .lss 28 3 25 27]
 (C (.t 28) .skip (.exit 0)))
 (Q (.block 1 (Q aJW
 (C (.t 41) (zK [zo 6 (.mv (.c (V (G ⟨#[]⟩)))),n 7 11]
 .ret) .skip)))
 (R [m 29 10,zbk .add 30 3 29 1,m 10 30])))
def oy:aF:=.loop mZ
def f161:aF:=(zK [zbx 3 0,zo 6 (.mv (.c (V (G ⟨#[]⟩)))),n 7 0]
 (zK [zL 12 3 3,m 13 1,zc2 14 207 12 13,m 11 14,zex 15 0 11,zex 16 1 11,zo 8 (.alloc [zT,zS]),zs 2 8 15,m 9 16]
 (Q (zK [m 17 9,zun 18 17]
 (C (.t 18) (zK [zo 6 (.mv (.c (V (G ⟨#[]⟩)))),n 7 5]
 .ret) .skip))
 (Q (zK [m 19 2,zln 20 19,zD 21 1 8,l 22 21,zln 23 22,zbv .neq 24 3 20 23]
 (C (.t 24) (zK [zo 6 (.mv (.c (V (G ⟨#[]⟩)))),n 7 13]
 .ret) .skip))
 (Q (zK [n 10 0]
 (.block 0 oy))
 (zK [zo 6 (.mv (.c (V (G ⟨#[66,111,111,108]⟩)))),n 7 0]
 .ret))))))
def oP:ax:=⟨f161,[.tmp 6,.tmp 7]⟩
theorem bFC:aR ib 161=some oP:=kr
def aJT:List DOp:=[zdm 19 1 [],⟨zo 20 (X 1 (.t 19) (.c (V (I .i64 0)))),[19],[]⟩,zdl 21 20 [],zdm 22 1 [0,1,2],⟨zo 23 (X 1 (.t 22) (.c (V (I .i64 1)))),[22],[0,1,2]⟩,zdl 24 23 [0,1,2],⟨zbv .eql 25 79 21 24,[21,24],[]⟩]
def aJU:aF:=.draw aJT
def f162:aF:=(zK [zo 4 (.mv (.c (V (G ⟨#[]⟩)))),n 5 0]
 (Q (zK [m 6 0]
 (.block 0 (Q (zK [zbk .eql 10 40 6 6,m 9 10]
 (C (.t 9) .skip (zK [zbk .eql 11 40 6 7,m 9 11]
 (C (.t 9) .skip (zK [zbk .eql 12 40 6 8,m 9 12]
 (C (.t 9) .skip (R [zbk .eql 13 40 6 9,m 9 13])))))))
 (C (.t 9) (zK [m 14 1,zo 15 (.call 208 [.t 14,.c (V (G ⟨#[73,110,116]⟩))])]
 (C (.t 15) (zK [zo 4 (.mv (.c (V (G ⟨#[73,110,116]⟩)))),n 5 0]
 .ret) .skip)) (Q (zK [zbk .eql 17 40 6 10,m 16 17]
 (C (.t 16) .skip (R [zbk .eql 18 40 6 11,m 16 18])))
 (C (.t 16) (Q aJU
 (C (.t 25) (zK [zo 4 (.mv (.c (V (G ⟨#[66,111,111,108]⟩)))),n 5 0]
 .ret) .skip)) (Q (zK [zbk .eql 27 40 6 12,m 26 27]
 (C (.t 26) .skip (R [zbk .eql 28 40 6 13,m 26 28])))
 (C (.t 26) (zK [m 29 1,zo 30 (.call 208 [.t 29,.c (V (G ⟨#[73,110,116]⟩))])]
 (C (.t 30) (zK [zo 4 (.mv (.c (V (G ⟨#[66,111,111,108]⟩)))),n 5 0]
 .ret) .skip)) (zK [m 7 1,zo 8 (.call 208 [.t 7,.c (V (G ⟨#[66,111,111,108]⟩))])]
 (C (.t 8) (zK [zo 4 (.mv (.c (V (G ⟨#[66,111,111,108]⟩)))),n 5 0]
 .ret) .skip))))))))))
 (zK [zo 4 (.mv (.c (V (G ⟨#[]⟩)))),n 5 11]
 .ret)))
def mU:ax:=⟨f162,[.tmp 4,.tmp 5]⟩
theorem bFB:aR ib 162=some mU:=kr
def f163:aF:=(zK [zbf 2]
 (zK [m 3 0,zbk .geq 4 3 3 (-1000000000000),m 5 4,zgm 6 5 T 0,zgk .leq 7 5 T 3 6 1000000000000,zpf 8 5 7,m 2 8]
 .ret))
def aJS:ax:=⟨f163,[.tmp 2]⟩
theorem bFA:aR ib 163=some aJS:=kr
def aJQ:List DOp:=[zdD 41 0 6 [],zdl 42 41 [],zdD 43 0 2 [0,1],zdl 44 43 [0,1],zdm 45 7 [0,1,2,3],zdX 46 2 44 45 [0,1],zdD 47 0 46 [0,1],zdl 48 47 [0,1],zdm 49 8 [0,1,2,3,4,5,6,7],⟨zo 50 (.build [zT,zI] [(0,1,(.t 48)),(1,1,(.t 49))]),[48,49],[0,1]⟩,⟨zo 51 (.buildSlice 2 1 [zT,zI] [(0,2,(.t 50))]),[50],[0,1]⟩,⟨zo 52 (A 2 24 (.t 42) (.t 51)),[42,51],[]⟩,zdD 53 0 6 [],⟨zs 1 53 52,[53,52],[]⟩]
def aJR:aF:=.draw aJQ
def ku:aF:=(Q (zK [m 20 7,zD 21 0 2,l 22 21,zln 23 22,zbv .lss 24 3 20 23]
 (C (.t 24) .skip (.exit 0)))
 (Q (.block 1 (zK [zD 28 0 2,l 29 28,m 30 7,zX 31 2 29 30,zD 32 1 31,l 33 32,m 34 1,zc2 35 209 33 34,m 27 35,zex 36 0 27,zex 37 1 27,m 8 36,m 9 37]
 (Q (zK [m 38 9,zun 39 38]
 (C (.t 39) (zK [zo 40 (.build [zS,zI] []),zs 2 4 40,zbf 5]
 .ret) .skip))
 aJR)))
 (R [m 25 7,zbk .add 26 3 25 1,m 7 26])))
def o6:aF:=.loop ku
def f164:aF:=(zK [zbx 2 0,zo 4 (.alloc [zS,zI]),zbf 5]
 (Q (zK [zL 12 2 2,zc1 13 129 12,zbk .neq 14 55 13 0]
 (C (.t 14) (zK [zo 15 (.build [zS,zI] []),zs 2 4 15,zbf 5]
 .ret) .skip))
 (Q (zK [m 16 1,zbk .eql 17 3 16 0]
 (C (.t 17) (zK [zo 18 (.build [zS,zI] []),zs 2 4 18,zbt 5]
 .ret) .skip))
 (zK [zo 19 (.build [zS,zI] []),zo 6 (.alloc [zS,zI]),zs 2 6 19]
 (Q (zK [n 7 0]
 (.block 0 o6))
 (Q (zK [zD 54 1 2,l 55 54,zbk .neq 56 3 55 0]
 (C (.t 56) (zK [zD 58 1 2,l 59 58,m 60 1,zc2 61 209 59 60,m 57 61,zex 62 0 57,zex 63 1 57,m 10 62,m 11 63]
 (Q (zK [m 64 11,zun 65 64]
 (C (.t 65) (zK [zo 66 (.build [zS,zI] []),zs 2 4 66,zbf 5]
 .ret) .skip))
 (R [m 67 10,zD 68 1 6,zs 1 68 67]))) .skip))
 (zK [zL 69 2 6,zs 2 4 69,zbt 5]
 .ret)))))))
def o9:ax:=⟨f164,[.cell 4 (S 2),.tmp 5]⟩
theorem bEZ:aR ib 164=some o9:=kr
def oV:List DOp:=[zdm 70 8 [],zdD 71 0 3 [0],zdl 72 71 [0],zdn 73 72 [0],⟨zbv .eql 74 3 70 73,[70,73],[]⟩,zdm 75 74 [],⟨zgm 76 75 F 7,[7,75],[]⟩,⟨zgD 77 75 F 0 2,[2,75],[6]⟩,⟨zgl 78 75 F 77,[77,75],[6]⟩,⟨zgn 79 75 F 78,[78,75],[6]⟩,⟨zg 80 75 F (.bin .lss 3 F (.t 76) (.t 79)),[76,79,75],[]⟩,⟨zgm 81 75 F 80,[80,75],[]⟩,⟨zgD 82 81 T 0 2,[2,81],[]⟩,⟨zgl 83 81 T 82,[82,81],[]⟩,⟨zgm 84 81 T 7,[7,81],[12,13]⟩,⟨zgX 85 81 T 2 83 84,[83,84,81],[]⟩,⟨zgD 86 81 T 0 85,[85,81],[]⟩,⟨zgl 87 81 T 86,[86,81],[]⟩,⟨zgD 88 81 T 0 3,[3,81],[12,13,14,15,16,17]⟩,⟨zgl 89 81 T 88,[88,81],[12,13,14,15,16,17]⟩,⟨zgm 90 81 T 8,[8,81],[12,13,14,15,16,17,18,19]⟩,⟨zgX 91 81 T 2 89 90,[89,90,81],[12,13,14,15,16,17]⟩,⟨zgD 92 81 T 0 91,[91,81],[12,13,14,15,16,17]⟩,⟨zgl 93 81 T 92,[92,81],[12,13,14,15,16,17]⟩,⟨zg 94 81 T (.bin .lss 9 F (.t 87) (.t 93)),[87,93,81],[]⟩,⟨zg 95 75 F (.pick (.t 81) (.t 94) (.c (V (.bool F)))),[81,94,75],[]⟩,⟨zpt 96 75 95,[75,95],[]⟩,zdm 69 96 []]
def Vi:aF:=.draw oV
def aJP:List DOp:=[zdD 97 0 6 [],zdl 98 97 [],zdD 99 0 2 [0,1],zdl 100 99 [0,1],zdm 101 7 [0,1,2,3],zdX 102 2 100 101 [0,1],zdL 103 2 102 [0,1],⟨zo 104 (.buildSlice 2 1 [zT,zI] [(0,2,(.t 103))]),[103],[0,1]⟩,⟨zo 105 (A 2 24 (.t 98) (.t 104)),[98,104],[]⟩,zdD 106 0 6 [],⟨zs 1 106 105,[106,105],[]⟩]
def Vh:aF:=.draw aJP
def Va:List DOp:=[zdm 110 7 [],zdD 111 0 2 [0],zdl 112 111 [0],zdn 113 112 [0],⟨zbv .eql 114 3 110 113,[110,113],[]⟩,zdm 115 114 [],⟨zgD 116 115 F 0 3,[3,115],[]⟩,⟨zgl 117 115 F 116,[116,115],[]⟩,⟨zgm 118 115 F 8,[8,115],[6,7]⟩,⟨zgX 119 115 F 2 117 118,[117,118,115],[]⟩,⟨zgD 120 115 F 0 119,[119,115],[]⟩,⟨zgl 121 115 F 120,[120,115],[]⟩,⟨zgD 122 115 F 0 2,[2,115],[6,7,8,9,10,11]⟩,⟨zgl 123 115 F 122,[122,115],[6,7,8,9,10,11]⟩,⟨zgm 124 115 F 7,[7,115],[6,7,8,9,10,11,12,13]⟩,⟨zgX 125 115 F 2 123 124,[123,124,115],[6,7,8,9,10,11]⟩,⟨zgD 126 115 F 0 125,[125,115],[6,7,8,9,10,11]⟩,⟨zgl 127 115 F 126,[126,115],[6,7,8,9,10,11]⟩,⟨zg 128 115 F (.bin .lss 9 F (.t 121) (.t 127)),[121,127,115],[]⟩,⟨zpt 129 115 128,[115,128],[]⟩,zdm 109 129 []]
def Vg:aF:=.draw Va
def aJO:List DOp:=[zdD 130 0 6 [],zdl 131 130 [],zdD 132 0 3 [0,1],zdl 133 132 [0,1],zdm 134 8 [0,1,2,3],zdX 135 2 133 134 [0,1],zdL 136 2 135 [0,1],⟨zo 137 (.buildSlice 2 1 [zT,zI] [(0,2,(.t 136))]),[136],[0,1]⟩,⟨zo 138 (A 2 24 (.t 131) (.t 137)),[131,137],[]⟩,zdD 139 0 6 [],⟨zs 1 139 138,[139,138],[]⟩]
def Vf:aF:=.draw aJO
def aJN:List DOp:=[zdD 37 0 2 [],zdl 38 37 [],zdm 39 7 [0,1],zdX 40 2 38 39 [],zdD 41 1 40 [],zdl 42 41 [],zdD 43 0 3 [0,1,2,3,4,5],zdl 44 43 [0,1,2,3,4,5],zdm 45 8 [0,1,2,3,4,5,6,7],zdX 46 2 44 45 [0,1,2,3,4,5],zdD 47 1 46 [0,1,2,3,4,5],zdl 48 47 [0,1,2,3,4,5],⟨zbv .add 49 3 42 48,[42,48],[]⟩,zdm 9 49 []]
def Ve:aF:=.draw aJN
def aJM:List DOp:=[zdD 52 0 6 [],zdl 53 52 [],zdD 54 0 2 [0,1],zdl 55 54 [0,1],zdm 56 7 [0,1,2,3],zdX 57 2 55 56 [0,1],zdD 58 0 57 [0,1],zdl 59 58 [0,1],zdm 60 9 [0,1,2,3,4,5,6,7],⟨zo 61 (.build [zT,zI] [(0,1,(.t 59)),(1,1,(.t 60))]),[59,60],[0,1]⟩,⟨zo 62 (.buildSlice 2 1 [zT,zI] [(0,2,(.t 61))]),[61],[0,1]⟩,⟨zo 63 (A 2 24 (.t 53) (.t 62)),[53,62],[]⟩,zdD 64 0 6 [],⟨zs 1 64 63,[64,63],[]⟩]
def Vd:aF:=.draw aJM
def bEY:aF:=(Q (zK [m 25 7,zD 26 0 2,l 27 26,zln 28 27,zbv .lss 29 3 25 28,m 30 29,zgm 31 30 F 8,zgD 32 30 F 0 3,zgl 33 30 F 32,zgn 34 30 F 33,zg 35 30 F (.bin .lss 3 F (.t 31) (.t 34)),zpt 36 30 35]
 (C (.t 36) .skip (.exit 0)))
 (.block 1 (.block 2 (Q Vi
 (C (.t 69) (Q Vh
 (R [m 107 7,zbk .add 108 3 107 1,m 7 108])) (Q Vg
 (C (.t 109) (Q Vf
 (R [m 140 8,zbk .add 141 3 140 1,m 8 141])) (Q Ve
 (Q (zK [m 50 9,zbk .neq 51 3 50 0]
 (C (.t 51) Vd .skip))
 (zK [m 65 7,zbk .add 66 3 65 1,m 7 66]
 (R [m 67 8,zbk .add 68 3 67 1,m 8 68])))))))))))
def o7:aF:=.loop bEY
def f165:aF:=(zK [zbx 2 0,zbx 3 1,zo 4 (.alloc [zS,zI]),zbf 5]
 (Q (zK [zL 10 2 2,zc1 11 129 10,zbk .neq 12 55 11 0,m 13 12,zgL 14 13 F 2 3,zgc 15 13 F 129 14,zgk .neq 16 13 F 55 15 0,zpt 17 13 16]
 (C (.t 17) (zK [zo 18 (.build [zS,zI] []),zs 2 4 18,zbf 5]
 .ret) .skip))
 (zK [zD 19 1 2,l 20 19,zD 21 1 3,l 22 21,zbv .add 23 3 20 22,zo 24 (.build [zS,zI] [(1,1,(.t 23))]),zo 6 (.alloc [zS,zI]),zs 2 6 24]
 (zK [n 7 0,n 8 0]
 (Q (.block 0 o7)
 (zK [zL 142 2 6,zc1 143 210 142,zex 144 0 143,zex 145 1 143,zs 2 4 144,m 5 145]
 .ret))))))
def pM:ax:=⟨f165,[.cell 4 (S 2),.tmp 5]⟩
theorem bEX:aR ib 165=some pM:=kr
def f166:aF:=(zK [n 2 0]
 (Q (zK [m 3 0,zbk .eql 4 3 3 (-9223372036854775808)]
 (C (.t 4) (zK [n 2 1000000000000]
 .ret) .skip))
 (Q (zK [m 5 0,zbk .lss 6 3 5 0]
 (C (.t 6) (zK [m 7 0,zo 8 (.un .neg (.t 7)),m 2 8]
 .ret) .skip))
 (zK [m 9 0,m 2 9]
 .ret))))
def Uz:ax:=⟨f166,[.tmp 2]⟩
theorem bEW:aR ib 166=some Uz:=kr
def f167:aF:=(zK [zo 2 (.mv (.c (V (G ⟨#[]⟩))))]
 (zK [zo 4 (.buildSlice 1 13 [zT,zT,zT,zT,zT,zT,zT,zT,zT,zT,zT,zT,zT] [(0,1,(.c (V (G ⟨#[43]⟩)))),(1,1,(.c (V (G ⟨#[45]⟩)))),(2,1,(.c (V (G ⟨#[42]⟩)))),(3,1,(.c (V (G ⟨#[45]⟩)))),(4,1,(.c (V (G ⟨#[61]⟩)))),(5,1,(.c (V (G ⟨#[33,61]⟩)))),(6,1,(.c (V (G ⟨#[60]⟩)))),(7,1,(.c (V (G ⟨#[60,61]⟩)))),(8,1,(.c (V (G ⟨#[33]⟩)))),(9,1,(.c (V (G ⟨#[38]⟩)))),(10,1,(.c (V (G ⟨#[124]⟩)))),(11,1,(.c (V (G ⟨#[61,62]⟩)))),(12,1,(.c (V (G ⟨#[60,61,62]⟩))))]),m 3 4]
 (Q (zK [m 5 0,zbk .lss 6 40 5 6,m 7 6,zgm 8 7 F 0,zgk .gtr 9 7 F 40 8 18,zpt 10 7 9]
 (C (.t 10) (zK [zo 2 (.mv (.c (V (G ⟨#[]⟩))))]
 .ret) .skip))
 (zK [m 11 3,m 12 0,zbk .sub 13 40 12 6,zX 14 1 11 13,l 15 14,m 2 15]
 .ret))))
def Uy:ax:=⟨f167,[.tmp 2]⟩
theorem bEV:aR ib 167=some Uy:=kr
def f204:aF:=(zK [zbx 1 0,n 2 0]
 (zK [zD 4 0 1,l 5 4,zbk .eql 6 40 5 1,m 7 6,zgD 8 7 F 0 1,zgl 9 7 F 8,zgk .eql 10 7 F 40 9 2,zpt 11 7 10,m 3 11]
 (Q (zK [zD 12 0 1,l 13 12,zbk .lss 14 40 13 1,m 15 14,zgD 16 15 F 0 1,zgl 17 15 F 16,zgk .gtr 18 15 F 40 17 18,zpt 19 15 18,m 20 19,zgD 21 20 F 1 1,zgl 22 20 F 21,⟨S 23,S (20,F),.bin .neq 9 T (.t 22) (.c (V (G ⟨#[]⟩)))⟩,zgm 24 20 F 23,zgD 25 24 T 0 1,zgl 26 24 T 25,zgc 27 24 T 256 26,zg 28 24 T (.un .not (.t 27)),zg 29 20 F (.pick (.t 24) (.t 28) (.c (V (.bool F)))),zpt 30 20 29,m 31 30,zgD 32 31 F 2 1,zgl 33 31 F 32,zgk .neq 34 31 F 3 33 0,zgm 35 31 F 34,zgm 36 35 T 3,zg 37 35 T (.un .not (.t 36)),zg 38 31 F (.pick (.t 35) (.t 37) (.c (V (.bool F)))),zpt 39 31 38,m 40 39,zgD 41 40 F 0 1,zgl 42 40 F 41,zgD 43 40 F 3 1,zgl 44 40 F 43,zgn 45 40 F 44,zge 46 40 F 257 42 45,zg 47 40 F (.un .not (.t 46)),zpt 48 40 47]
 (C (.t 48) (zK [n 2 1]
 .ret) .skip))
 (Q (zK [zD 49 0 1,l 50 49,zbk .eql 51 40 50 1,m 52 51,zgD 53 52 T 2 1,zgl 54 52 T 53,zgc 55 52 T 163 54,zg 56 52 T (.un .not (.t 55)),zpf 57 52 56,m 58 57,zgD 59 58 F 0 1,zgl 60 58 F 59,zgk .eql 61 58 F 40 60 2,zgm 62 58 F 61,zgD 63 62 T 2 1,zgl 64 62 T 63,zgk .lss 65 62 T 3 64 0,zgm 66 62 T 65,zgD 67 66 F 2 1,zgl 68 66 F 67,zgk .gtr 69 66 F 3 68 1,zg 70 62 T (.pick (.t 66) (.c (V (.bool T))) (.t 69)),zg 71 58 F (.pick (.t 62) (.t 70) (.c (V (.bool F)))),zpt 72 58 71]
 (C (.t 72) (zK [n 2 2]
 .ret) .skip))
 (Q (zK [zL 73 4 1,zc1 74 258 73,zun 75 74]
 (C (.t 75) (zK [n 2 3]
 .ret) .skip))
 (Q (zK [zD 76 0 1,l 77 76,zbk .eql 78 40 77 8,m 79 78,zgD 80 79 T 3 1,zgl 81 79 T 80,zg 82 79 T (X 4 (.t 81) (.c (V (I .i64 0)))),zgD 83 79 T 0 82,zgl 84 79 T 83,zgk .neq 85 79 T 40 84 1,zpf 86 79 85]
 (C (.t 86) (zK [n 2 6]
 .ret) .skip))
 (zK [n 2 0]
 .ret)))))))
def bx:ax:=⟨f204,[.tmp 2]⟩
theorem sS:aR ib 204=some bx:=kr
def lE:aF:=(Q (zK [m 14 6,zD 15 1 2,l 16 15,zln 17 16,zbv .lss 18 3 14 17]
 (C (.t 18) .skip (.exit 0)))
 (Q (.block 1 (zK [zD 21 1 2,l 22 21,m 23 6,zX 24 3 22 23,zD 25 0 24,l 26 25,m 27 1,zbv .eql 28 9 26 27]
 (C (.t 28) (zK [zD 29 1 2,l 30 29,m 31 6,zX 32 3 30 31,zL 33 3 32,zs 3 4 33,zbt 5]
 .ret) .skip)))
 (R [m 19 6,zbk .add 20 3 19 1,m 6 20])))
def oe:aF:=.loop lE
def f205:aF:=(zK [zbx 2 0,zo 4 (.alloc [zT,zS,zT]),zbf 5]
 (Q (zK [m 7 1,zo 8 (.bin .eql 9 T (.t 7) (.c (V (G ⟨#[116,97,103]⟩))))]
 (C (.t 8) (zK [zo 9 (.build [zT,zS,zT] [(0,1,(.c (V (G ⟨#[116,97,103]⟩)))),(2,1,(.c (V (G ⟨#[73,110,116]⟩))))]),zs 3 4 9,zbt 5]
 .ret) .skip))
 (Q (zK [m 10 1,zo 11 (.bin .eql 9 T (.t 10) (.c (V (G ⟨#[118,97,108]⟩))))]
 (C (.t 11) (zK [zo 12 (.buildSlice 1 1 [zT] [(0,1,(.c (V (G ⟨#[67,101,108,108]⟩))))]),zo 13 (.build [zT,zS,zT] [(0,1,(.c (V (G ⟨#[118,97,108]⟩)))),(1,1,(.t 12)),(2,1,(.c (V (G ⟨#[73,110,116]⟩))))]),zs 3 4 13,zbt 5]
 .ret) .skip))
 (Q (zK [n 6 0]
 (.block 0 oe))
 (zK [zo 34 (.build [zT,zS,zT] []),zs 3 4 34,zbf 5]
 .ret)))))
def pE:ax:=⟨f205,[.cell 4 (S 3),.tmp 5]⟩
theorem bEU:aR ib 205=some pE:=kr
def aJK:List DOp:=[zdm 17 0 [],zdm 18 5 [0],zdX 19 1 17 18 [],zdl 20 19 [],zdm 21 1 [0,1,2,3],zdm 22 5 [0,1,2,3,4],zdX 23 1 21 22 [0,1,2,3],zdl 24 23 [0,1,2,3],⟨zbv .neq 25 79 20 24,[20,24],[]⟩]
def aJL:aF:=.draw aJK
def mr:aF:=(Q (zK [m 11 5,m 12 0,zln 13 12,zbv .lss 14 3 11 13]
 (C (.t 14) .skip (.exit 0)))
 (Q (.block 1 (Q aJL
 (zr 25 4)))
 (R [m 15 5,zbk .add 16 3 15 1,m 5 16])))
def oc:aF:=.loop mr
def f206:aF:=(zK [zbf 4]
 (Q (zK [m 6 0,zln 7 6,m 8 1,zln 9 8,zbv .neq 10 3 7 9]
 (zr 10 4))
 (Q (zK [n 5 0]
 (.block 0 oc))
 (zK [zbt 4]
 .ret))))
def Ux:ax:=⟨f206,[.tmp 4]⟩
theorem bET:aR ib 206=some Ux:=kr
def km:aF:=(Q (zK [m 7 6,zD 8 2 2,l 9 8,zln 10 9,zbv .lss 11 3 7 10]
 (C (.t 11) .skip (.exit 0)))
 (Q (.block 1 (zK [zD 14 2 2,l 15 14,m 16 6,zX 17 2 15 16,zD 18 0 17,l 19 18,m 20 1,zbv .eql 21 9 19 20]
 (C (.t 21) (zK [zD 22 2 2,l 23 22,m 24 6,zX 25 2 23 24,zL 26 2 25,zs 2 4 26,zbt 5]
 .ret) .skip)))
 (R [m 12 6,zbk .add 13 3 12 1,m 6 13])))
def ou:aF:=.loop km
def f207:aF:=(zK [zbx 2 0,zo 4 (.alloc [zT,zS]),zbf 5]
 (Q (zK [n 6 0]
 (.block 0 ou))
 (zK [zo 27 (.build [zT,zS] []),zs 2 4 27,zbf 5]
 .ret)))
def aJJ:ax:=⟨f207,[.cell 4 (S 2),.tmp 5]⟩
theorem bES:aR ib 207=some aJJ:=kr
def kj:aF:=(Q (zK [m 6 5,m 7 0,zln 8 7,zbv .lss 9 3 6 8]
 (C (.t 9) .skip (.exit 0)))
 (Q (.block 1 (zK [m 12 0,m 13 5,zX 14 1 12 13,l 15 14,m 16 1,zbv .neq 17 79 15 16]
 (zr 17 4)))
 (R [m 10 5,zbk .add 11 3 10 1,m 5 11])))
def ot:aF:=.loop kj
def f208:aF:=(zK [zbf 4]
 (Q (zK [n 5 0]
 (.block 0 ot))
 (zK [zbt 4]
 .ret)))
def aJI:ax:=⟨f208,[.tmp 4]⟩
theorem bER:aR ib 208=some aJI:=kr
def f209:aF:=(zK [n 4 0,zbf 5]
 (Q (zK [m 8 0,zc1 9 163 8,zun 10 9,m 11 10,zgm 12 11 F 1,zgc 13 11 F 163 12,zg 14 11 F (.un .not (.t 13)),zpt 15 11 14]
 (C (.t 15) (zK [n 4 0,zbf 5]
 .ret) .skip))
 (Q (zK [m 16 0,zbk .eql 17 3 16 0,m 18 17,zgm 19 18 F 1,zgk .eql 20 18 F 3 19 0,zpt 21 18 20]
 (C (.t 21) (zK [n 4 0,zbt 5]
 .ret) .skip))
 (zK [m 22 0,m 6 22]
 (Q (zK [m 23 6,zbk .lss 24 3 23 0]
 (C (.t 24) (R [m 25 6,zo 26 (.un .neg (.t 25)),m 6 26]) .skip))
 (zK [m 27 1,m 7 27]
 (Q (zK [m 28 7,zbk .lss 29 3 28 0]
 (C (.t 29) (R [m 30 7,zo 31 (.un .neg (.t 30)),m 7 31]) .skip))
 (Q (zK [m 32 6,m 33 7,zo 34 (.bin .quo 3 T (.c (V (I .i64 1000000000000))) (.t 33)),zbv .gtr 35 3 32 34]
 (C (.t 35) (zK [n 4 0,zbf 5]
 .ret) .skip))
 (zK [m 36 0,m 37 1,zbv .mul 38 3 36 37,m 4 38,zbt 5]
 .ret)))))))))
def fS:ax:=⟨f209,[.tmp 4,.tmp 5]⟩
theorem bEQ:aR ib 209=some fS:=kr
def aJG:List DOp:=[⟨zo 8 (.buildSlice 2 0 [] []),[],[]⟩,zdD 9 0 1 [0],zdl 10 9 [0],⟨zo 11 (A 2 24 (.t 8) (.t 10)),[8,10],[]⟩,zdD 12 1 1 [0,1,2,3],zdl 13 12 [0,1,2,3],⟨zo 14 (.build [zS,zI] [(0,1,(.t 11)),(1,1,(.t 13))]),[11,13],[]⟩,⟨zs 2 2 14,[2,14],[]⟩,⟨zbt 3,[],[]⟩]
def aJH:aF:=.draw aJG
def f210:aF:=(zK [zbx 1 0,zo 2 (.alloc [zS,zI]),zbf 3]
 (Q (zK [zL 4 2 1,zc1 5 129 4,zbk .neq 6 55 5 0]
 (C (.t 6) (zK [zo 7 (.build [zS,zI] []),zs 2 2 7,zbf 3]
 .ret) .skip))
 (Q aJH
 .ret)))
def Uw:ax:=⟨f210,[.cell 2 (S 2),.tmp 3]⟩
theorem bEP:aR ib 210=some Uw:=kr
def f256:aF:=(zK [zbf 2]
 (zK [m 3 0,zbk .eql 4 40 3 3,m 5 4,zgm 6 5 F 0,zgk .eql 7 5 F 40 6 4,zpt 8 5 7,m 9 8,zgm 10 9 F 0,zgk .eql 11 9 F 40 10 5,zpt 12 9 11,m 2 12]
 .ret))
def Uu:ax:=⟨f256,[.tmp 2]⟩
theorem aJF:aR ib 256=some Uu:=kr
def f257:aF:=(zK [zbf 4]
 (Q (zK [m 5 0]
 (.block 0 (Q (zK [zbk .eql 7 40 5 1,m 6 7]
 (C (.t 6) .skip (zK [zbk .eql 8 40 5 2,m 6 8]
 (C (.t 6) .skip (R [zbk .eql 9 40 5 3,m 6 9])))))
 (C (.t 6) (zK [m 10 1,zbk .eql 11 3 10 0,m 4 11]
 .ret) (Q (zK [zbk .eql 13 40 5 4,m 12 13]
 (C (.t 12) .skip (R [zbk .eql 14 40 5 5,m 12 14])))
 (C (.t 12) (zK [m 15 1,zbk .geq 16 3 15 1,m 17 16,zgm 18 17 T 1,zgk .leq 19 17 T 3 18 24,zpf 20 17 19,m 4 20]
 .ret) (Q (zK [zbk .eql 22 40 5 9,m 21 22]
 (C (.t 21) .skip (R [zbk .eql 23 40 5 14,m 21 23])))
 (C (.t 21) (zK [m 24 1,zbk .eql 25 3 24 1,m 4 25]
 .ret) .skip))))))))
 (zK [m 26 1,zbk .eql 27 3 26 2,m 4 27]
 .ret)))
def pR:ax:=⟨f257,[.tmp 4]⟩
theorem Ut:aR ib 257=some pR:=kr
def f258:aF:=(zK [zbx 1 0,zbf 2]
 (Q (zK [zD 3 0 1,l 4 3]
 (.block 0 (zK [zbk .eql 6 40 4 3,m 5 6]
 (C (.t 5) (zK [zD 7 1 1,l 8 7,zo 9 (.bin .eql 9 T (.t 8) (.c (V (G ⟨#[118]⟩)))),m 10 9,zgD 11 10 F 1 1,zgl 12 10 F 11,zgc 13 10 F 279 12,zgk .eql 14 10 F 55 13 0,zpt 15 10 14,m 2 15]
 .ret) (zK [zbk .eql 17 40 4 4,m 16 17]
 (C (.t 16) (zK [zD 18 1 1,l 19 18,zo 20 (.bin .eql 9 T (.t 19) (.c (V (G ⟨#[116,97,103]⟩)))),m 21 20,zgD 22 21 F 1 1,zgl 23 21 F 22,⟨S 24,S (21,F),.bin .eql 9 T (.t 23) (.c (V (G ⟨#[118,97,108]⟩)))⟩,zpt 25 21 24,m 26 25,zgD 27 26 F 1 1,zgl 28 26 F 27,zgc 29 26 F 279 28,zgk .eql 30 26 F 55 29 0,zpt 31 26 30,m 2 31]
 .ret) (zK [zbk .eql 33 40 4 5,m 32 33]
 (C (.t 32) (zK [zD 34 1 1,l 35 34,zc1 36 279 35,zbk .eql 37 55 36 0,m 2 37]
 .ret) .skip))))))))
 (zK [zbt 2]
 .ret)))
def mM:ax:=⟨f258,[.tmp 2]⟩
theorem Gp:aR ib 258=some mM:=kr
def mK:aF:=(zK [zbv .lss 38 3 37 36]
 (zx 38 0
 (Q (.block 1 (zK [zX 39 1 35 37,l 40 39,m 5 40]
 (zK [m 41 5,zc1 42 303 41,zun 43 42]
 (C (.t 43) (zK [n 2 3]
 .ret) .skip))))
 (zj 44 37))))
def pF:aF:=.loop mK
def f279:aF:=(zK [n 2 0]
 (Q (zK [m 6 0,zo 7 (.b7 (.t 6)),zbk .gtr 8 3 7 120]
 (C (.t 8) (zK [n 2 3]
 .ret) .skip))
 (zK [m 9 0,zc1 10 300 9,m 3 10]
 (Q (zK [m 11 3,zo 12 (X 1 (.t 11) (.c (V (I .i64 0)))),l 13 12,zc1 14 301 13,zbk .neq 15 55 14 0,m 16 15,zgm 17 16 T 3,zg 18 16 T (X 1 (.t 17) (.c (V (I .i64 0)))),zgl 19 16 T 18,zgc 20 16 T 302 19,zgk .neq 21 16 T 55 20 0,zpf 22 16 21,m 23 22,zgm 24 23 T 3,zg 25 23 T (X 1 (.t 24) (.c (V (I .i64 0)))),zgl 26 23 T 25,⟨S 27,S (23,T),.bin .neq 9 T (.t 26) (.c (V (G ⟨#[118]⟩)))⟩,zgm 28 23 T 27,zgm 29 28 F 3,zgn 30 28 F 29,zgk .eql 31 28 F 3 30 1,zg 32 23 T (.pick (.t 28) (.c (V (.bool T))) (.t 31)),zpf 33 23 32]
 (C (.t 33) (zK [n 2 3]
 .ret) .skip))
 (Q (zK [m 34 3,zo 35 (.dE 1 (.t 34) (S (.c (V (I .i64 1)))) O O),zln 36 35,n 37 0]
 (.block 0 pF))
 (zK [n 2 0]
 .ret))))))
def Uq:ax:=⟨f279,[.tmp 2]⟩
theorem bEO:aR ib 279=some Uq:=kr
def lH:aF:=(zK [zbv .lss 9 3 8 7]
 (zx 9 0
 (Q (.block 1 (zK [m 10 8,m 5 10]
 (zK [m 11 0,m 12 5,zo 13 (.bj (.t 11) (.t 12)),zo 14 (.bin .eql 5 T (.t 13) (.c (V (I .u8 46))))]
 (C (.t 14) (zK [m 15 3,m 16 0,m 17 4,m 18 5,zo 19 (.fC (.t 16) (S (.t 17)) (S (.t 18))),zo 20 (.buildSlice 1 1 [zT] [(0,1,(.t 19))]),zo 21 (A 1 16 (.t 15) (.t 20)),m 3 21]
 (R [m 22 5,zbk .add 23 3 22 1,m 4 23])) .skip))))
 (zj 24 8))))
def oh:aF:=.loop lH
def f300:aF:=(zK [zns 2]
 (zK [zns 3]
 (zK [n 4 0]
 (Q (zK [m 6 0,zo 7 (.b7 (.t 6)),n 8 0]
 (.block 0 oh))
 (zK [m 25 3,m 26 0,m 27 4,zo 28 (.fC (.t 26) (S (.t 27)) O),zo 29 (.buildSlice 1 1 [zT] [(0,1,(.t 28))]),zo 30 (A 1 16 (.t 25) (.t 29)),m 2 30]
 .ret)))))
def aJE:ax:=⟨f300,[.tmp 2]⟩
theorem bEN:aR ib 300=some aJE:=kr
def mh:aF:=(zK [zbv .lss 25 3 24 23]
 (zx 25 0
 (Q (.block 1 (zK [m 26 24,m 3 26]
 (zK [m 27 0,m 28 3,zo 29 (.bj (.t 27) (.t 28)),zc1 30 338 29,zun 31 30,m 32 31,zgm 33 32 T 0,zgm 34 32 T 3,zg 35 32 T (.bj (.t 33) (.t 34)),zgc 36 32 T 340 35,zg 37 32 T (.un .not (.t 36)),zpf 38 32 37,m 39 38,zgm 40 39 T 0,zgm 41 39 T 3,zg 42 39 T (.bj (.t 40) (.t 41)),zg 43 39 T (.bin .neq 5 T (.t 42) (.c (V (I .u8 95)))),zpf 44 39 43]
 (C (.t 44) (zK [n 2 3]
 .ret) .skip))))
 (zj 45 24))))
def pH:aF:=.loop mh
def f301:aF:=(zK [n 2 0]
 (Q (zK [m 4 0,zo 5 (.b7 (.t 4)),zbk .lss 6 3 5 1,m 7 6,zgm 8 7 F 0,zg 9 7 F (.b7 (.t 8)),zgk .gtr 10 7 F 3 9 24,zpt 11 7 10,m 12 11,zgm 13 12 F 0,zg 14 12 F (.bj (.t 13) (.c (V (I .i64 0)))),zgc 15 12 F 338 14,zg 16 12 F (.un .not (.t 15)),zpt 17 12 16,m 18 17,zgm 19 18 F 0,zgc 20 18 F 339 19,zpt 21 18 20]
 (C (.t 21) (zK [n 2 3]
 .ret) .skip))
 (Q (zK [m 22 0,zo 23 (.b7 (.t 22)),n 24 0]
 (.block 0 pH))
 (zK [n 2 0]
 .ret))))
def kf:ax:=⟨f301,[.tmp 2]⟩
theorem bEM:aR ib 301=some kf:=kr
def mH:aF:=(zK [zbv .lss 37 3 36 35]
 (zx 37 0
 (Q (.block 1 (zK [m 38 36,m 3 38]
 (zK [m 39 0,m 40 3,zo 41 (.bj (.t 39) (.t 40)),zc1 42 338 41,zun 43 42,m 44 43,zgm 45 44 T 0,zgm 46 44 T 3,zg 47 44 T (.bj (.t 45) (.t 46)),zgc 48 44 T 341 47,zg 49 44 T (.un .not (.t 48)),zpf 50 44 49,m 51 50,zgm 52 51 T 0,zgm 53 51 T 3,zg 54 51 T (.bj (.t 52) (.t 53)),zgc 55 51 T 340 54,zg 56 51 T (.un .not (.t 55)),zpf 57 51 56]
 (C (.t 57) (zK [n 2 3]
 .ret) .skip))))
 (zj 58 36))))
def pQ:aF:=.loop mH
def f302:aF:=(zK [n 2 0]
 (Q (zK [m 4 0,zo 5 (.b7 (.t 4)),zbk .lss 6 3 5 1,m 7 6,zgm 8 7 F 0,zg 9 7 F (.b7 (.t 8)),zgk .gtr 10 7 F 3 9 24,zpt 11 7 10,m 12 11,zgm 13 12 F 0,zg 14 12 F (.bj (.t 13) (.c (V (I .i64 0)))),zgc 15 12 F 341 14,zg 16 12 F (.un .not (.t 15)),zpt 17 12 16,m 18 17,zgm 19 18 F 0,⟨S 20,S (18,F),.bin .eql 9 T (.t 19) (.c (V (G ⟨#[73,110,116]⟩)))⟩,zpt 21 18 20,m 22 21,zgm 23 22 F 0,⟨S 24,S (22,F),.bin .eql 9 T (.t 23) (.c (V (G ⟨#[66,111,111,108]⟩)))⟩,zpt 25 22 24,m 26 25,zgm 27 26 F 0,⟨S 28,S (26,F),.bin .eql 9 T (.t 27) (.c (V (G ⟨#[67,101,108,108]⟩)))⟩,zpt 29 26 28,m 30 29,zgm 31 30 F 0,⟨S 32,S (30,F),.bin .eql 9 T (.t 31) (.c (V (G ⟨#[70,117,110]⟩)))⟩,zpt 33 30 32]
 (C (.t 33) (zK [n 2 3]
 .ret) .skip))
 (Q (zK [m 34 0,zo 35 (.b7 (.t 34)),n 36 0]
 (.block 0 pQ))
 (zK [n 2 0]
 .ret))))
def lm:ax:=⟨f302,[.tmp 2]⟩
theorem bEL:aR ib 302=some lm:=kr
def mY:aF:=(zK [zbv .lss 20 3 19 18]
 (zx 20 0
 (Q (.block 1 (zK [m 21 19,m 5 21]
 (zK [m 22 3,m 23 22,zgm 24 23 T 0,zgm 25 23 T 5,zg 26 23 T (.bj (.t 24) (.t 25)),zgc 27 23 T 338 26,zgm 28 23 T 27,zgm 29 28 F 0,zgm 30 28 F 5,zg 31 28 F (.bj (.t 29) (.t 30)),zgc 32 28 F 341 31,zg 33 23 T (.pick (.t 28) (.c (V (.bool T))) (.t 32)),zgm 34 23 T 33,zgm 35 34 F 0,zgm 36 34 F 5,zg 37 34 F (.bj (.t 35) (.t 36)),zgc 38 34 F 340 37,zg 39 23 T (.pick (.t 34) (.c (V (.bool T))) (.t 38)),zpf 40 23 39,m 3 40]
 (R [m 41 4,m 42 41,zgm 43 42 T 0,zgm 44 42 T 5,zg 45 42 T (.bj (.t 43) (.t 44)),zgc 46 42 T 338 45,zgm 47 42 T 46,zgm 48 47 F 0,zgm 49 47 F 5,zg 50 47 F (.bj (.t 48) (.t 49)),zgc 51 47 F 340 50,zg 52 42 T (.pick (.t 47) (.c (V (.bool T))) (.t 51)),zgm 53 42 T 52,zgm 54 53 F 0,zgm 55 53 F 5,zg 56 53 F (.bj (.t 54) (.t 55)),zg 57 53 F (.bin .eql 5 T (.t 56) (.c (V (I .u8 95)))),zg 58 42 T (.pick (.t 53) (.c (V (.bool T))) (.t 57)),zpf 59 42 58,m 4 59]))))
 (zj 60 19))))
def mq:aF:=.loop mY
def f303:aF:=(zK [zbf 2]
 (Q (zK [m 6 0,zo 7 (.b7 (.t 6)),zbk .lss 8 3 7 1,m 9 8,zgm 10 9 F 0,zg 11 9 F (.b7 (.t 10)),zgk .gtr 12 9 F 3 11 24,zpt 13 9 12]
 (zr 13 2))
 (zK [zbt 3]
 (zK [m 14 0,zo 15 (.bj (.t 14) (.c (V (I .i64 0)))),zc1 16 338 15,m 4 16]
 (Q (zK [m 17 0,zo 18 (.b7 (.t 17)),n 19 0]
 (.block 0 mq))
 (zK [m 61 3,m 62 61,zgm 63 62 F 4,zpt 64 62 63,m 2 64]
 .ret))))))
def pJ:ax:=⟨f303,[.tmp 2]⟩
theorem bEK:aR ib 303=some pJ:=kr
def f338:aF:=(zK [zbf 2]
 (zK [m 3 0,zo 4 (.bin .geq 5 T (.t 3) (.c (V (I .u8 97)))),m 5 4,zgm 6 5 T 0,zg 7 5 T (.bin .leq 5 T (.t 6) (.c (V (I .u8 122)))),zpf 8 5 7,m 2 8]
 .ret))
def aJD:ax:=⟨f338,[.tmp 2]⟩
theorem bEJ:aR ib 338=some aJD:=kr
def f339:aF:=(zK [zbf 2]
 (zK [zo 3 (.call 357 []),m 4 0,zc2 5 125 3 4,zbk .geq 6 3 5 0,m 2 6]
 .ret))
def aJC:ax:=⟨f339,[.tmp 2]⟩
theorem bEI:aR ib 339=some aJC:=kr
def f340:aF:=(zK [zbf 2]
 (zK [m 3 0,zo 4 (.bin .geq 5 T (.t 3) (.c (V (I .u8 48)))),m 5 4,zgm 6 5 T 0,zg 7 5 T (.bin .leq 5 T (.t 6) (.c (V (I .u8 57)))),zpf 8 5 7,m 2 8]
 .ret))
def aJB:ax:=⟨f340,[.tmp 2]⟩
theorem bEH:aR ib 340=some aJB:=kr
def f341:aF:=(zK [zbf 2]
 (zK [m 3 0,zo 4 (.bin .geq 5 T (.t 3) (.c (V (I .u8 65)))),m 5 4,zgm 6 5 T 0,zg 7 5 T (.bin .leq 5 T (.t 6) (.c (V (I .u8 90)))),zpf 8 5 7,m 2 8]
 .ret))
def aJA:ax:=⟨f341,[.tmp 2]⟩
theorem bEG:aR ib 341=some aJA:=kr
end Go.Proofs.YtmbabhlmdhghdaaGreatDoor
