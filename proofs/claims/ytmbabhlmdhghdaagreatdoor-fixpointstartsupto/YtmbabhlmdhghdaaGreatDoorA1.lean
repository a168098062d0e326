/- VAwake -/
import Derived.Test.YtmbabhlmdhghdaaGreatDoorEA
import Derived.Test.YtmbabhlmdhghdaaGreatDoorEB
import Derived.Test.YtmbabhlmdhghdaaGreatDoorEC
import Derived.Test.YtmbabhlmdhghdaaGreatDoorED
import Derived.Test.YtmbabhlmdhghdaaGreatDoorEE
import Derived.Test.YtmbabhlmdhghdaaGreatDoorEF
import Derived.Test.YtmbabhlmdhghdaaGreatDoorEG
import Derived.Test.YtmbabhlmdhghdaaGreatDoorEH
import Derived.Test.YtmbabhlmdhghdaaGreatDoorEI
import Derived.Test.YtmbabhlmdhghdaaGreatDoorEJ
import Derived.Test.YtmbabhlmdhghdaaGreatDoorEK
import Derived.Test.YtmbabhlmdhghdaaGreatDoorEL
import Derived.Test.YtmbabhlmdhghdaaGreatDoorEM
import Derived.Test.YtmbabhlmdhghdaaGreatDoorEN
import Derived.Test.YtmbabhlmdhghdaaGreatDoorEO
import Derived.Test.YtmbabhlmdhghdaaGreatDoorEP
import Derived.Test.YtmbabhlmdhghdaaGreatDoorEQ
import Derived.Test.YtmbabhlmdhghdaaGreatDoorER
import Derived.Test.YtmbabhlmdhghdaaGreatDoorA0
set_option linter.all false
open Option renaming some->Z, none->Y
open Bool renaming true->J, false->U
open Go.Proofs.Tryz renaming prog->ib
namespace Go.Proofs.YtmbabhlmdhghdaaGreatDoor
open Go Go.AM
def KF(f:Nat)(a:List AV)(r:AV):Prop:=oG ib E0.aY f a r
def KT(t:List (Nat×List AV×AV)):Prop:=∀x∈t,oG ib E0.aY x.1 x.2.1 x.2.2
theorem bv:KT []:=λx hx=>by cases hx
theorem ae{f:Nat}{a:List AV}{r:AV}{t:List (Nat×List AV×AV)}(h:KF f a r)(k:KT t):KT ((f,a,r)::t):=λx hx=>by
 rcases List.mem_cons.1 hx with rfl|hx
 ·exact h
 ·exact k x hx
theorem eR{f:Nat}{a:List AV}{r:AV}{t:List (Nat×List AV×AV)}(k:KT t)(c:answers (aM (Ek t) 1000000 f a) r=J):KF f a r:=
 aRW Cu k (by rw[<-Yn];exact c) (f,a,r) List.mem_cons_self
theorem wk0:KF 143 a0 r0:=eR bv c0
theorem wk1:KF 143 a1 r1:=eR bv c1
theorem wk2:KF 68 a2 r2:=eR (ae wk1 bv) c2
theorem wk3:KF 143 a3 r3:=eR bv c3
theorem wk4:KF 113 a4 r4:=eR bv c4
theorem wk5:KF 120 a5 r5:=eR (ae wk3 (ae wk4 bv)) c5
theorem wk6:KF 182 a6 r6:=eR bv c6
theorem wk7:KF 182 a7 r7:=eR bv c7
theorem wk8:KF 143 a8 r8:=eR bv c8
theorem wk9:KF 113 a9 r9:=eR (ae wk8 bv) c9
theorem bVO:KF 152 a10 r10:=eR bv c10
theorem bVN:KF 156 a11 r11:=eR bv c11
theorem bVM:KF 53 a12 r12:=eR bv c12
theorem bVL:KF 120 a13 r13:=eR (ae wk4 (ae wk9 (ae bVO (ae bVN (ae bVM bv))))) c13
theorem bBI:KF 182 a14 r14:=eR bv c14
theorem aRA:KF 182 a15 r15:=eR bv c15
theorem bBH:KF 182 a16 r16:=eR bv c16
theorem Wu:KF 401 a17 r17:=eR bv c17
theorem aQZ:KF 229 a18 r18:=eR (ae Wu bv) c18
theorem bBG:KF 182 a19 r19:=eR bv c19
theorem bBF:KF 182 a20 r20:=eR bv c20
theorem bVK:KF 182 a21 r21:=eR bv c21
theorem aQY:KF 147 a22 r22:=eR bv c22
theorem aQX:KF 183 a23 r23:=eR (ae Wu bv) c23
theorem bBE:KF 182 a24 r24:=eR bv c24
theorem bJF:KF 182 a25 r25:=eR bv c25
theorem bBD:KF 148 a26 r26:=eR bv c26
theorem bBC:KF 229 a27 r27:=eR (ae Wu bv) c27
theorem bBB:KF 182 a28 r28:=eR bv c28
theorem bVJ:KF 182 a29 r29:=eR bv c29
theorem bBA:KF 182 a30 r30:=eR bv c30
theorem bJE:KF 182 a31 r31:=eR bv c31
theorem bAZ:KF 147 a32 r32:=eR bv c32
theorem bAY:KF 148 a33 r33:=eR bv c33
theorem bJD:KF 229 a34 r34:=eR (ae Wu bv) c34
theorem bJC:KF 118 a35 r35:=eR (ae bAY bv) c35
theorem bVI:KF 81 a36 r36:=eR (ae bBI (ae aRA (ae bBH (ae aQZ (ae bBG (ae bBF (ae bVK (ae aQY (ae aQX (ae bBE (ae bJF (ae bBD (ae bBC (ae bBB (ae bVJ (ae bBA (ae bJE (ae bAZ (ae bAY (ae bJD (ae bJC bv))))))))))))))))))))) c36
theorem bVH:KF 40 a37 r37:=eR (ae wk5 (ae wk6 (ae wk7 (ae bVL (ae bVI bv))))) c37
theorem bPM:KF 120 a38 r38:=eR (ae wk4 bv) c38
theorem bPL:KF 182 a39 r39:=eR bv c39
theorem bPK:KF 182 a40 r40:=eR bv c40
theorem bPJ:KF 81 a41 r41:=eR (ae bPL (ae bPK bv)) c41
theorem bVG:KF 120 a42 r42:=eR (ae wk4 bv) c42
theorem bVF:KF 143 a43 r43:=eR bv c43
theorem bVE:KF 81 a44 r44:=eR bv c44
theorem bVD:KF 41 a45 r45:=eR (ae wk4 (ae bPM (ae bPJ (ae bVG (ae bVF (ae bVE bv)))))) c45
theorem bVC:KF 113 a46 r46:=eR bv c46
theorem bVB:KF 53 a47 r47:=eR bv c47
theorem bVA:KF 120 a48 r48:=eR (ae wk4 (ae bVC (ae bVB bv))) c48
theorem bPI:KF 182 a49 r49:=eR bv c49
theorem bPH:KF 182 a50 r50:=eR bv c50
theorem bPG:KF 182 a51 r51:=eR bv c51
theorem bPF:KF 182 a52 r52:=eR bv c52
theorem bPE:KF 182 a53 r53:=eR bv c53
theorem bUZ:KF 81 a54 r54:=eR (ae bBI (ae aRA (ae bBH (ae aQZ (ae bBG (ae bBF (ae aQY (ae aQX (ae bBE (ae bJF (ae bBD (ae bBC (ae bBB (ae bBA (ae bJE (ae bPI (ae bPH (ae bPG (ae bPF (ae bPE bv)))))))))))))))))))) c54
theorem bUY:KF 113 a55 r55:=eR bv c55
theorem bUX:KF 53 a56 r56:=eR bv c56
theorem bUW:KF 120 a57 r57:=eR (ae wk4 (ae bUY (ae bUX bv))) c57
theorem bUV:KF 81 a58 r58:=eR (ae bBI (ae aRA (ae bBH (ae aQZ (ae bBG (ae bBF (ae aQY (ae aQX (ae bBE (ae bBB (ae bBA (ae bAZ (ae bAY (ae bJD (ae bJC bv))))))))))))))) c58
theorem bUU:KF 113 a59 r59:=eR bv c59
theorem bUT:KF 53 a60 r60:=eR bv c60
theorem bUS:KF 120 a61 r61:=eR (ae wk4 (ae bUU (ae bUT bv))) c61
theorem bUR:KF 81 a62 r62:=eR (ae bBI (ae aRA (ae bBH (ae aQZ (ae bBG (ae bBF (ae aQY (ae aQX (ae bBE (ae bBD (ae bBC (ae bBB (ae bBA (ae bAZ (ae bAY (ae bJD (ae bJC bv))))))))))))))))) c62
theorem bPD:KF 41 a63 r63:=eR (ae bVA (ae bUZ (ae bUW (ae bUV (ae bUS (ae bUR bv)))))) c63
theorem bUQ:KF 143 a64 r64:=eR bv c64
theorem bUP:KF 120 a65 r65:=eR (ae wk4 (ae bUQ bv)) c65
theorem bUO:KF 182 a66 r66:=eR bv c66
theorem bUN:KF 182 a67 r67:=eR bv c67
theorem bUM:KF 182 a68 r68:=eR bv c68
theorem bUL:KF 182 a69 r69:=eR bv c69
theorem bUK:KF 182 a70 r70:=eR bv c70
theorem bUJ:KF 182 a71 r71:=eR bv c71
theorem bUI:KF 182 a72 r72:=eR bv c72
theorem bUH:KF 182 a73 r73:=eR bv c73
theorem bUG:KF 147 a74 r74:=eR bv c74
theorem bUF:KF 229 a75 r75:=eR (ae Wu bv) c75
theorem bUE:KF 182 a76 r76:=eR bv c76
theorem bUD:KF 182 a77 r77:=eR bv c77
theorem bUC:KF 182 a78 r78:=eR bv c78
theorem bUB:KF 401 a79 r79:=eR bv c79
theorem bUA:KF 183 a80 r80:=eR (ae Wu (ae bUB bv)) c80
theorem bTZ:KF 182 a81 r81:=eR bv c81
theorem bTY:KF 182 a82 r82:=eR bv c82
theorem bTX:KF 148 a83 r83:=eR bv c83
theorem bTW:KF 229 a84 r84:=eR (ae Wu bv) c84
theorem bTV:KF 182 a85 r85:=eR bv c85
theorem bTU:KF 182 a86 r86:=eR bv c86
theorem bTT:KF 182 a87 r87:=eR bv c87
theorem bTS:KF 182 a88 r88:=eR bv c88
theorem bTR:KF 182 a89 r89:=eR bv c89
theorem bTQ:KF 81 a90 r90:=eR (ae aRA (ae aQZ (ae aQY (ae aQX (ae bJF (ae bBD (ae bBC (ae bJE (ae bPI (ae bPH (ae bPG (ae bPF (ae bPE (ae bUO (ae bUN (ae bUM (ae bUL (ae bUK (ae bUJ (ae bUI (ae bUH (ae bUG (ae bUF (ae bUE (ae bUD (ae bUC (ae bUA (ae bTZ (ae bTY (ae bTX (ae bTW (ae bTV (ae bTU (ae bTT (ae bTS (ae bTR bv)))))))))))))))))))))))))))))))))))) c90
theorem bPC:KF 143 a91 r91:=eR bv c91
theorem bTP:KF 19 a92 r92:=eR (ae wk0 (ae wk1 (ae wk2 (ae bVH (ae bPM (ae bPJ (ae bVD (ae bPD (ae bUP (ae bTQ (ae bPC bv))))))))))) c92
theorem bTO:KF 143 a93 r93:=eR bv c93
theorem bTN:KF 143 a94 r94:=eR bv c94
theorem bTM:KF 120 a95 r95:=eR (ae bTN bv) c95
theorem bPB:KF 182 a96 r96:=eR bv c96
theorem bPA:KF 182 a97 r97:=eR bv c97
theorem bTL:KF 143 a98 r98:=eR bv c98
theorem bTK:KF 120 a99 r99:=eR (ae bTL bv) c99
theorem bPO:KF 81 a100 r100:=eR (ae wk6 (ae wk7 (ae Wu (ae bAZ (ae bPB (ae bPA bv)))))) bWE
theorem bPN:KF 5 [] (.val (.bool J)):=eR (ae wk0 (ae wk1 (ae wk2 (ae wk6 (ae wk7 (ae bPL (ae bPK (ae bPD (ae bPC (ae bTP (ae bTO (ae bTM (ae bPB (ae bPA (ae bTK (ae bPO bv)))))))))))))))) bWD
theorem bAD:oG ib E0.aY 5 [] (.val (.bool J)):=bPN
end Go.Proofs.YtmbabhlmdhghdaaGreatDoor
