/- TKr TKrO TAwake TKnow -/
import Derived.Test.YtkmoeaplhnabcaaGreatDoorU0
import Derived.Test.YtkmoeaplhnabcaaGreatDoorEA
import Derived.Test.YtkmoeaplhnabcaaGreatDoorEB
import Derived.Test.YtkmoeaplhnabcaaGreatDoorEC
import Derived.Test.YtkmoeaplhnabcaaGreatDoorED
import Derived.Test.YtkmoeaplhnabcaaGreatDoorEE
import Derived.Test.YtkmoeaplhnabcaaGreatDoorEF
import Derived.Test.YtkmoeaplhnabcaaGreatDoorEG
import Derived.Test.YtkmoeaplhnabcaaGreatDoorEH
import Derived.Test.YtkmoeaplhnabcaaGreatDoorEI
import Derived.Test.YtkmoeaplhnabcaaGreatDoorEJ
import Derived.Test.YtkmoeaplhnabcaaGreatDoorEK
import Derived.Test.YtkmoeaplhnabcaaGreatDoorEL
import Derived.Test.YtkmoeaplhnabcaaGreatDoorEM
import Derived.Test.YtkmoeaplhnabcaaGreatDoorEN
import Derived.Test.YtkmoeaplhnabcaaGreatDoorEO
import Derived.Test.YtkmoeaplhnabcaaGreatDoorEP
import Derived.Test.YtkmoeaplhnabcaaGreatDoorEQ
import Derived.Test.YtkmoeaplhnabcaaGreatDoorER
import Derived.Test.YtkmoeaplhnabcaaGreatDoorA0
import Derived.Test.YtkmoeaplhnabcaaGreatDoorW2
import Derived.Test.YtkmoeaplhnabcaaGreatDoorL1
import Derived.Test.YtkmoeaplhnabcaaGreatDoorL2

set_option linter.all false
open List renaming mem_singleton → ig
open Go.Proofs.Tryz renaming prog → i3
namespace Go.Proofs.YtkmoeaplhnabcaaGreatDoor
open Go Go.AM
@[reducible] def krNone : KR := ⟨fun _ _ => none⟩
theorem ve: @KOk krNone:=fun g l r _ h=>by cases h
@[reducible] def krAwk : KR := ⟨fun g l => bif Nat.beq g 6 && l.isEmpty then some (.val (.bool true)) else none⟩
theorem Ns(hA:KFact i3 E0.globs 6 [] (.val (.bool true))): @KOk krAwk:=fun g l r _ h=>by
 have h:(bif Nat.beq g 6&&l.isEmpty then some (AV.val (.bool true)) else none)=some r:=h;cases q:Nat.beq g 6&&l.isEmpty with
 |false=>rw[q] at h;cases h
 |true=>
  rw[q] at h;rw[Bool.and_eq_true,List.isEmpty_iff] at q;obtain⟨q1,rfl⟩:=q;have:=Nat.eq_of_beq_eq_true q1;subst this;cases h;exact hA
open Classical in
noncomputable def kT (m:Md) (L:ByteArray→List ByteArray) (g:Nat) (l:List AV):Option AV:=
 if g=6∧l=[] then some (.val (.bool true))
 else if h:g=49∧∃y,l=[.agg m.cells,.val (.string y)] then some (nmV (L h.2.choose))
 else if h:g=69∧∃d,d∈m.ds.l∧l=[.agg m.cells,.agg d.cells] then some (nmD (freeS h.2.choose.b) (mentD m h.2.choose))
 else none
@[reducible] noncomputable def krT (m : Md) (L : ByteArray → List ByteArray) : KR := ⟨kT m L⟩
theorem Rl(hA:KFact i3 E0.globs 6 [] (.val (.bool true))){m:Md}(hD:DifT m):∃kr:KR, @KOk kr∧ @KAwk kr∧ @KM kr m∧ @KAll kr m∧∀x, @KReach kr m x:=by
 have hm:= @DifT.md krNone m hD;have hn:=hD.n;have ok0:= @qE krNone ve;have hr:=fun y=> @gF krNone ok0 m hm y;have hLx:=Classical.axiomOfChoice hr;obtain⟨L,hL⟩:=hLx;have k6:(krT m L).k 6 []=some (.val (.bool true)):=by
  show kT m L 6 []=_;rw[kT,if_pos ⟨rfl,rfl⟩]
 have k49:∀y,(krT m L).k 49 [.agg m.cells,.val (.string y)]=some (nmV (L y)):=fun y=>by
  have h:(49:Nat)=49∧∃z,[AV.agg m.cells,.val (.string y)]=[.agg m.cells,.val (.string z)]:=⟨rfl,y,rfl⟩;show kT m L 49 _=_;rw[kT,if_neg (by simp),dif_pos h]
  have e:=h.2.choose_spec;have:h.2.choose=y:=by
   injection e with _ e;injection e with e _;injection e with e;injection e with e;exact e.symm
  rw[this]
 have k69:∀d∈m.ds.l,(krT m L).k 69 [.agg m.cells,.agg d.cells]=some (nmD (freeS d.b) (mentD m d)):=fun d hd=>by
  have h:(69:Nat)=69∧∃e,e∈m.ds.l∧ [AV.agg m.cells,.agg d.cells]=[.agg m.cells,.agg e.cells]:=⟨rfl,d,hd,rfl⟩;show kT m L 69 _=_;rw[kT,if_neg (by simp),dif_neg (by simp),dif_pos h]
  obtain⟨h1,e⟩:=h.2.choose_spec;have:h.2.choose=d:=by
   injection e with _ e;injection e with e _;injection e with e;have e':AV.val (.string d.nm)::d.ps.A strA::(d.b.cells++d.rest)=AV.val (.string h.2.choose.nm)::h.2.choose.ps.A strA::(h.2.choose.b.cells++h.2.choose.rest):=e;injection e' with e' _;injection e' with e';injection e' with e';exact @tp krNone _ hD.nd _ _ h1 hd e'.symm
  rw[this]
 refine⟨krT m L,fun g l r _ hk=>?_,k6, @KM.mk (krT m L) m k69,fun d hd=>⟨L d.nm,(hL d.nm).1,?_,k49 d.nm⟩,fun x=>⟨L x,(hL x).1,?_,k49 x⟩⟩
 ·have hk:kT m L g l=some r:=hk;rw[kT] at hk;split at hk
  ·rename_i h;obtain⟨rfl,rfl⟩:=h;cases hk;exact hA
  ·split at hk
   ·rename_i h;obtain⟨rfl,y,rfl⟩:=h;have:=k49 y;rw[show(krT m L).k 49 [.agg m.cells,.val (.string y)]=kT m L 49 [.agg m.cells,.val (.string y)] from rfl,kT,if_neg (by simp),dif_pos ⟨rfl,y,rfl⟩,hk] at this
    cases this;exact(hL y).2
   ·split at hk
    ·rename_i h;obtain⟨rfl,d,hd,rfl⟩:=h;have:=k69 d hd;rw[show(krT m L).k 69 [.agg m.cells,.agg d.cells]=kT m L 69 [.agg m.cells,.agg d.cells] from rfl,kT,if_neg (by simp),dif_neg (by simp),dif_pos ⟨rfl,d,hd,rfl⟩,hk] at this
     cases this;have hb:=hm.b d hd;exact @bk krNone ok0 m d om om om
    ·cases hk
 ·have:= @ReachC.len' krNone m d.nm _ (hL d.nm).1;omega
 ·have:= @ReachC.len' krNone m x _ (hL x).1;omega
theorem ws(hA:KFact i3 E0.globs 6 [] (.val (.bool true))){m:Md}(hw:dsW m.ds.l≤2^23)(hN:m.ds.l.length<2^30):
  ∃kr:KR, @KOk kr∧∃h',Ev fun n=>enterA (@E1 kr) (exec (@E1 kr) n) 4 [.agg m.cells] .empty=some (.val (.bool true),h'):=by
 by_cases hD:DifT m
 ·obtain⟨kr,h1,h2,h3,h4,_⟩:=Rl hA hD;exact⟨kr,h1, @Rg kr h2 m hw hN fun _=>⟨h3,h4, @zH krNone m hD.nd⟩⟩
 ·exact⟨krAwk,Ns hA, @Rg krAwk rfl m hw hN fun h=>absurd h hD⟩
def KF(f:Nat)(a:List AV)(r:AV):Prop:=KFact i3 E0.globs f a r
def KT(t:List (Nat×List AV×AV)):Prop:=∀x∈t,KFact i3 E0.globs x.1 x.2.1 x.2.2
theorem aY:KT []:=fun x hx=>by cases hx
theorem aD{f:Nat}{a:List AV}{r:AV}{t:List (Nat×List AV×AV)}(h:KF f a r)(k:KT t):KT ((f,a,r)::t):=fun x hx=>by
 rcases List.mem_cons.1 hx with rfl|hx
 ·exact h
 ·exact k x hx
theorem ap{f:Nat}{a:List AV}{r:AV}{t:List (Nat×List AV×AV)}(k:KT t)(c:answers (pureRunK (Ek t) 1000000 f a) r=true):KF f a r:=
 yA fm k (by rw[←qo];exact c) (f,a,r) List.mem_cons_self
structure Known0:Prop where
 k0:KF 83 ka0 kr0
 k1:KF 49 ka1 kr1
 k2:KF 83 ka2 kr2
 k3:KF 49 ka3 kr3
 k4:KF 49 ka4 kr4
 k5:KF 69 ka5 kr5
 k6:KF 69 ka6 kr6
 k7:KF 69 ka7 kr7
theorem wk0(H:Known0):KF 91 a0 r0:=ap aY c0
theorem wk1(H:Known0):KF 35 a1 r1:=ap (aD H.k0 (aD H.k1 (aD (wk0 H) aY))) c1
theorem wk2(H:Known0):KF 387 a2 r2:=ap aY c2
theorem wk3(H:Known0):KF 338 a3 r3:=ap (aD (wk2 H) aY) c3
theorem wk4(H:Known0):KF 217 a4 r4:=ap (aD (wk3 H) aY) c4
theorem wk5(H:Known0):KF 326 a5 r5:=ap aY c5
theorem wk6(H:Known0):KF 326 a6 r6:=ap aY c6
theorem wk7(H:Known0):KF 541 a7 r7:=ap aY c7
theorem wk8(H:Known0):KF 536 a8 r8:=ap (aD (wk7 H) aY) c8
theorem wk9(H:Known0):KF 373 a9 r9:=ap (aD (wk8 H) aY) c9
theorem Uq(H:Known0):KF 326 a10 r10:=ap aY c10
theorem Eu(H:Known0):KF 536 a11 r11:=ap (aD (wk7 H) aY) c11
theorem Up(H:Known0):KF 373 a12 r12:=ap (aD (wk8 H) (aD (Eu H) aY)) c12
theorem Uo(H:Known0):KF 326 a13 r13:=ap aY c13
theorem Un(H:Known0):KF 373 a14 r14:=ap (aD (wk8 H) (aD (Eu H) aY)) c14
theorem Um(H:Known0):KF 326 a15 r15:=ap aY c15
theorem xn(H:Known0):KF 536 a16 r16:=ap (aD (wk7 H) aY) c16
theorem Ul(H:Known0):KF 373 a17 r17:=ap (aD (wk8 H) (aD (Eu H) (aD (xn H) aY))) c17
theorem Uk(H:Known0):KF 326 a18 r18:=ap aY c18
theorem Uj(H:Known0):KF 373 a19 r19:=ap (aD (wk8 H) (aD (Eu H) (aD (xn H) aY))) c19
theorem Ui(H:Known0):KF 326 a20 r20:=ap aY c20
theorem Uh(H:Known0):KF 326 a21 r21:=ap aY c21
theorem Ug(H:Known0):KF 151 a22 r22:=ap (aD (wk5 H) (aD (wk6 H) (aD (wk9 H) (aD (Uq H) (aD (Up H) (aD (Uo H) (aD (Un H) (aD (Um H) (aD (Ul H) (aD (Uk H) (aD (Uj H) (aD (Ui H) (aD (Uh H) aY))))))))))))) c22
theorem Ol(H:Known0):KF 37 a23 r23:=ap (aD (wk4 H) (aD (Ug H) aY)) c23
theorem Ok(H:Known0):KF 35 a24 r24:=ap (aD H.k2 (aD H.k3 aY)) c24
theorem Uf(H:Known0):KF 387 a25 r25:=ap aY c25
theorem Ue(H:Known0):KF 217 a26 r26:=ap (aD (Uf H) aY) c26
theorem Oj(H:Known0):KF 373 a27 r27:=ap (aD (wk8 H) (aD (xn H) aY)) c27
theorem Oi(H:Known0):KF 373 a28 r28:=ap (aD (wk8 H) (aD (xn H) aY)) c28
theorem Oh(H:Known0):KF 373 a29 r29:=ap (aD (wk8 H) (aD (xn H) aY)) c29
theorem Og(H:Known0):KF 216 a30 r30:=ap aY c30
theorem Ud(H:Known0):KF 151 a31 r31:=ap (aD (Oj H) (aD (Oi H) (aD (Oh H) (aD (Og H) aY)))) c31
theorem Uc(H:Known0):KF 387 a32 r32:=ap aY c32
theorem Ub(H:Known0):KF 217 a33 r33:=ap (aD (Uc H) aY) c33
theorem Ua(H:Known0):KF 151 a34 r34:=ap (aD (Oj H) (aD (Oi H) (aD (Oh H) (aD (Og H) aY)))) c34
theorem Of(H:Known0):KF 37 a35 r35:=ap (aD (Ue H) (aD (Ud H) (aD (Ub H) (aD (Ua H) aY)))) c35
theorem Tx(H:Known0):KF 66 a36 r36:=ap aY c36
theorem Tw(H:Known0):KF 21 a37 r37:=ap (aD H.k1 (aD H.k5 (aD (wk1 H) (aD (Ol H) (aD (Tx H) aY))))) c37
theorem Tv(H:Known0):KF 66 a38 r38:=ap aY c38
theorem Tu(H:Known0):KF 21 a39 r39:=ap (aD H.k3 (aD H.k6 (aD (Ok H) (aD (Of H) (aD (Tv H) aY))))) c39
theorem Tt(H:Known0):KF 6 [] (.val (.bool true)):=ap (aD H.k1 (aD H.k3 (aD H.k4 (aD H.k5 (aD H.k6 (aD H.k7 (aD (wk1 H) (aD (Ol H) (aD (Ok H) (aD (Of H) (aD (Tw H) (aD (Tu H) aY)))))))))))) c40
theorem vK(H:Known0):KFact i3 E0.globs 6 [] (.val (.bool true)):=Tt H
def bs(l:List UInt8):ByteArray:=⟨l.toArray⟩
def leafB:AV→Bool
 |.val _=>true
 |.imm _ _ _=>true
 |_=>false
theorem yy:∀{v:AV},leafB v=true→Leaf v
 |.val _,_=>Leaf.val _
 |.imm _ _ _,_=>Leaf.imm _ _ _
theorem ab{l:List AV}(h:l.all leafB=true):∀v∈l,Leaf v:=fun v hv=>yy (List.all_eq_true.1 h v hv)
theorem ql{suc:ByteArray→List ByteArray}{x:ByteArray}(h:suc x=[x])(z:ByteArray):z∈[x]↔Rch suc x z:=by
 rw[ig];refine⟨fun e=>?_,fun r=>?_⟩
 ·subst e;exact .one (by rw[h];exact ig.2 rfl)
 ·induction r with
  |one k=>rw[h] at k;exact ig.1 k
  |step _ k ih=>subst ih;rw[h] at k;exact ig.1 k
theorem yM{suc:ByteArray→List ByteArray}{x:ByteArray}(h:suc x=[])(z:ByteArray):z∈[]↔Rch suc x z:=by
 refine⟨fun e=>(by cases e),fun r=>?_⟩
 induction r with
 |one k=>rw[h] at k;cases k
 |step _ _ ih=>cases ih
theorem lP{m:Md}{x:ByteArray}{l:List ByteArray}(hm:MdT m)(hs:Srt l)(h:∀z,z∈l↔Rch (sucC m) x z)(ok:EnvOk i3 (@E1 krNone)):KF 49 [.agg m.cells,.val (.string x)] (nmV l):=by
 obtain⟨L,hL,hk⟩:= @gF krNone ok m hm x;rw[oh L l hL.srt hs fun z=>by rw[hL.mem,h]] at hk
 exact hk
def ke0:Ex:=(.mk 7 (bs [98]) 0 [.mk 18 (bs []) 0 [.mk 3 (bs [110]) 0 [] nilK none ⟨[],nilK,none⟩ [] nilK none ⟨[],nilK,none⟩,.mk 1 (bs []) 0 [] nilK none ⟨[],nilK,none⟩ [] nilK none ⟨[],nilK,none⟩] none (some 2) ⟨[],nilK,none⟩ [] nilK none ⟨[],nilK,none⟩,.mk 8 (bs []) 0 [.mk 3 (bs [98]) 0 [] nilK none ⟨[],nilK,none⟩ [] nilK none ⟨[],nilK,none⟩,.mk 1 (bs []) 0 [] nilK none ⟨[],nilK,none⟩ [] nilK none ⟨[],nilK,none⟩,.mk 7 (bs [116]) 0 [.mk 11 (bs []) 0 [.mk 3 (bs [110]) 0 [] nilK none ⟨[],nilK,none⟩ [] nilK none ⟨[],nilK,none⟩,.mk 1 (bs []) 1 [] nilK none ⟨[],nilK,none⟩ [] nilK none ⟨[],nilK,none⟩] none (some 2) ⟨[],nilK,none⟩ [] nilK none ⟨[],nilK,none⟩,.mk 5 (bs [100,111,119,110]) 0 [.mk 3 (bs [116]) 0 [] nilK none ⟨[],nilK,none⟩ [] nilK none ⟨[],nilK,none⟩] none (some 1) ⟨[],nilK,none⟩ [] nilK none ⟨[],nilK,none⟩] none (some 2) ⟨[],nilK,none⟩ [] nilK none ⟨[.mk 1 (bs []) [] nilK none ⟨[],nilK,none⟩ (.mk 0 (bs []) 0 [] nilK none) ⟨[],nilK,none⟩],none,some 1⟩] none (some 3) ⟨[],nilK,none⟩ [] nilK none ⟨[],nilK,none⟩] none (some 2) ⟨[],nilK,none⟩ [] nilK none ⟨[.mk 2 (bs []) [] nilK none ⟨[],nilK,none⟩ (.mk 0 (bs []) 0 [] nilK none) ⟨[],nilK,none⟩],none,some 1⟩)
theorem Rn:ka0=[.agg ke0.cells]:=by kernel_rfl
def km1:Md:=⟨.slice none 0 0,.slice none 0 0,.slice none 0 0,.slice none 0 0,.slice none 0 0,⟨[⟨(bs [100,111,119,110]),⟨[(bs [110])],none,some 1⟩,.mk 7 (bs [98]) 0 [.mk 18 (bs []) 0 [.mk 3 (bs [110]) 0 [] nilK none ⟨[],nilK,none⟩ [] nilK none ⟨[],nilK,none⟩,.mk 1 (bs []) 0 [] nilK none ⟨[],nilK,none⟩ [] nilK none ⟨[],nilK,none⟩] none (some 2) ⟨[],nilK,none⟩ [] nilK none ⟨[],nilK,none⟩,.mk 8 (bs []) 0 [.mk 3 (bs [98]) 0 [] nilK none ⟨[],nilK,none⟩ [] nilK none ⟨[],nilK,none⟩,.mk 1 (bs []) 0 [] nilK none ⟨[],nilK,none⟩ [] nilK none ⟨[],nilK,none⟩,.mk 7 (bs [116]) 0 [.mk 11 (bs []) 0 [.mk 3 (bs [110]) 0 [] nilK none ⟨[],nilK,none⟩ [] nilK none ⟨[],nilK,none⟩,.mk 1 (bs []) 1 [] nilK none ⟨[],nilK,none⟩ [] nilK none ⟨[],nilK,none⟩] none (some 2) ⟨[],nilK,none⟩ [] nilK none ⟨[],nilK,none⟩,.mk 5 (bs [100,111,119,110]) 0 [.mk 3 (bs [116]) 0 [] nilK none ⟨[],nilK,none⟩ [] nilK none ⟨[],nilK,none⟩] none (some 1) ⟨[],nilK,none⟩ [] nilK none ⟨[],nilK,none⟩] none (some 2) ⟨[],nilK,none⟩ [] nilK none ⟨[.mk 1 (bs []) [] nilK none ⟨[],nilK,none⟩ (.mk 0 (bs []) 0 [] nilK none) ⟨[],nilK,none⟩],none,some 1⟩] none (some 3) ⟨[],nilK,none⟩ [] nilK none ⟨[],nilK,none⟩] none (some 2) ⟨[],nilK,none⟩ [] nilK none ⟨[.mk 2 (bs []) [] nilK none ⟨[],nilK,none⟩ (.mk 0 (bs []) 0 [] nilK none) ⟨[],nilK,none⟩],none,some 1⟩,[(vi 0),(vb true),nl,nl,nl,nl,(vi 6),(vs []),.imm [(vi 1),(vs []),nl,nl,(vi 0),(vs []),(vi 0),nl,nl,(vi 1),(vs []),nl,nl,(vi 0),(vs []),(vi 0),nl,nl] 2 (some 2),.imm [(vs [110])] 1 (some 1),(vi 0),(vs []),(vi 0),nl,nl,nl],rfl,ab rfl⟩,⟨(bs [117,112]),⟨[(bs [110])],none,some 1⟩,.mk 7 (bs [116]) 0 [.mk 10 (bs []) 0 [.mk 3 (bs [110]) 0 [] nilK none ⟨[],nilK,none⟩ [] nilK none ⟨[],nilK,none⟩,.mk 1 (bs []) 1 [] nilK none ⟨[],nilK,none⟩ [] nilK none ⟨[],nilK,none⟩] none (some 2) ⟨[],nilK,none⟩ [] nilK none ⟨[],nilK,none⟩,.mk 5 (bs [117,112]) 0 [.mk 3 (bs [116]) 0 [] nilK none ⟨[],nilK,none⟩ [] nilK none ⟨[],nilK,none⟩] none (some 1) ⟨[],nilK,none⟩ [] nilK none ⟨[],nilK,none⟩] none (some 2) ⟨[],nilK,none⟩ [] nilK none ⟨[.mk 1 (bs []) [] nilK none ⟨[],nilK,none⟩ (.mk 0 (bs []) 0 [] nilK none) ⟨[],nilK,none⟩],none,some 1⟩,[(vi 0),(vb true),nl,nl,nl,nl,(vi 6),(vs []),.imm [(vi 1),(vs []),nl,nl,(vi 0),(vs []),(vi 0),nl,nl,(vi 1),(vs []),nl,nl,(vi 0),(vs []),(vi 0),nl,nl] 2 (some 2),.imm [(vs [110])] 1 (some 1),(vi 0),(vs []),(vi 0),nl,nl,nl],rfl,ab rfl⟩,⟨(bs [99]),⟨[],nilK,none⟩,.mk 3 (bs [99]) 0 [] nilK none ⟨[],nilK,none⟩ [] nilK none ⟨[],nilK,none⟩,[(vi 0),(vb true),nl,nl,nl,nl,(vi 1),(vs []),nl,nl,(vi 0),(vs []),(vi 0),nl,nl,nl],rfl,ab rfl⟩],none,some 3⟩⟩
theorem Rk:ka1=[.agg km1.cells,.val (.string (bs [100,111,119,110]))]:=by kernel_rfl
def ke2:Ex:=(.mk 7 (bs [116]) 0 [.mk 10 (bs []) 0 [.mk 3 (bs [110]) 0 [] nilK none ⟨[],nilK,none⟩ [] nilK none ⟨[],nilK,none⟩,.mk 1 (bs []) 1 [] nilK none ⟨[],nilK,none⟩ [] nilK none ⟨[],nilK,none⟩] none (some 2) ⟨[],nilK,none⟩ [] nilK none ⟨[],nilK,none⟩,.mk 5 (bs [117,112]) 0 [.mk 3 (bs [116]) 0 [] nilK none ⟨[],nilK,none⟩ [] nilK none ⟨[],nilK,none⟩] none (some 1) ⟨[],nilK,none⟩ [] nilK none ⟨[],nilK,none⟩] none (some 2) ⟨[],nilK,none⟩ [] nilK none ⟨[.mk 1 (bs []) [] nilK none ⟨[],nilK,none⟩ (.mk 0 (bs []) 0 [] nilK none) ⟨[],nilK,none⟩],none,some 1⟩)
theorem Rm:ka2=[.agg ke2.cells]:=by kernel_rfl
def km3:Md:=⟨.slice none 0 0,.slice none 0 0,.slice none 0 0,.slice none 0 0,.slice none 0 0,⟨[⟨(bs [100,111,119,110]),⟨[(bs [110])],none,some 1⟩,.mk 7 (bs [98]) 0 [.mk 18 (bs []) 0 [.mk 3 (bs [110]) 0 [] nilK none ⟨[],nilK,none⟩ [] nilK none ⟨[],nilK,none⟩,.mk 1 (bs []) 0 [] nilK none ⟨[],nilK,none⟩ [] nilK none ⟨[],nilK,none⟩] none (some 2) ⟨[],nilK,none⟩ [] nilK none ⟨[],nilK,none⟩,.mk 8 (bs []) 0 [.mk 3 (bs [98]) 0 [] nilK none ⟨[],nilK,none⟩ [] nilK none ⟨[],nilK,none⟩,.mk 1 (bs []) 0 [] nilK none ⟨[],nilK,none⟩ [] nilK none ⟨[],nilK,none⟩,.mk 7 (bs [116]) 0 [.mk 11 (bs []) 0 [.mk 3 (bs [110]) 0 [] nilK none ⟨[],nilK,none⟩ [] nilK none ⟨[],nilK,none⟩,.mk 1 (bs []) 1 [] nilK none ⟨[],nilK,none⟩ [] nilK none ⟨[],nilK,none⟩] none (some 2) ⟨[],nilK,none⟩ [] nilK none ⟨[],nilK,none⟩,.mk 5 (bs [100,111,119,110]) 0 [.mk 3 (bs [116]) 0 [] nilK none ⟨[],nilK,none⟩ [] nilK none ⟨[],nilK,none⟩] none (some 1) ⟨[],nilK,none⟩ [] nilK none ⟨[],nilK,none⟩] none (some 2) ⟨[],nilK,none⟩ [] nilK none ⟨[.mk 1 (bs []) [] nilK none ⟨[],nilK,none⟩ (.mk 0 (bs []) 0 [] nilK none) ⟨[],nilK,none⟩],none,some 1⟩] none (some 3) ⟨[],nilK,none⟩ [] nilK none ⟨[],nilK,none⟩] none (some 2) ⟨[],nilK,none⟩ [] nilK none ⟨[.mk 2 (bs []) [] nilK none ⟨[],nilK,none⟩ (.mk 0 (bs []) 0 [] nilK none) ⟨[],nilK,none⟩],none,some 1⟩,[(vi 0),(vb true),nl,nl,nl,nl,(vi 6),(vs []),.imm [(vi 1),(vs []),nl,nl,(vi 0),(vs []),(vi 0),nl,nl,(vi 1),(vs []),nl,nl,(vi 0),(vs []),(vi 0),nl,nl] 2 (some 2),.imm [(vs [110])] 1 (some 1),(vi 0),(vs []),(vi 0),nl,nl,nl],rfl,ab rfl⟩,⟨(bs [117,112]),⟨[(bs [110])],none,some 1⟩,.mk 7 (bs [116]) 0 [.mk 10 (bs []) 0 [.mk 3 (bs [110]) 0 [] nilK none ⟨[],nilK,none⟩ [] nilK none ⟨[],nilK,none⟩,.mk 1 (bs []) 1 [] nilK none ⟨[],nilK,none⟩ [] nilK none ⟨[],nilK,none⟩] none (some 2) ⟨[],nilK,none⟩ [] nilK none ⟨[],nilK,none⟩,.mk 5 (bs [117,112]) 0 [.mk 3 (bs [116]) 0 [] nilK none ⟨[],nilK,none⟩ [] nilK none ⟨[],nilK,none⟩] none (some 1) ⟨[],nilK,none⟩ [] nilK none ⟨[],nilK,none⟩] none (some 2) ⟨[],nilK,none⟩ [] nilK none ⟨[.mk 1 (bs []) [] nilK none ⟨[],nilK,none⟩ (.mk 0 (bs []) 0 [] nilK none) ⟨[],nilK,none⟩],none,some 1⟩,[(vi 0),(vb true),nl,nl,nl,nl,(vi 6),(vs []),.imm [(vi 1),(vs []),nl,nl,(vi 0),(vs []),(vi 0),nl,nl,(vi 1),(vs []),nl,nl,(vi 0),(vs []),(vi 0),nl,nl] 2 (some 2),.imm [(vs [110])] 1 (some 1),(vi 0),(vs []),(vi 0),nl,nl,nl],rfl,ab rfl⟩,⟨(bs [99]),⟨[],nilK,none⟩,.mk 3 (bs [99]) 0 [] nilK none ⟨[],nilK,none⟩ [] nilK none ⟨[],nilK,none⟩,[(vi 0),(vb true),nl,nl,nl,nl,(vi 1),(vs []),nl,nl,(vi 0),(vs []),(vi 0),nl,nl,nl],rfl,ab rfl⟩],none,some 3⟩⟩
theorem Rj:ka3=[.agg km3.cells,.val (.string (bs [117,112]))]:=by kernel_rfl
def km4:Md:=⟨.slice none 0 0,.slice none 0 0,.slice none 0 0,.slice none 0 0,.slice none 0 0,⟨[⟨(bs [100,111,119,110]),⟨[(bs [110])],none,some 1⟩,.mk 7 (bs [98]) 0 [.mk 18 (bs []) 0 [.mk 3 (bs [110]) 0 [] nilK none ⟨[],nilK,none⟩ [] nilK none ⟨[],nilK,none⟩,.mk 1 (bs []) 0 [] nilK none ⟨[],nilK,none⟩ [] nilK none ⟨[],nilK,none⟩] none (some 2) ⟨[],nilK,none⟩ [] nilK none ⟨[],nilK,none⟩,.mk 8 (bs []) 0 [.mk 3 (bs [98]) 0 [] nilK none ⟨[],nilK,none⟩ [] nilK none ⟨[],nilK,none⟩,.mk 1 (bs []) 0 [] nilK none ⟨[],nilK,none⟩ [] nilK none ⟨[],nilK,none⟩,.mk 7 (bs [116]) 0 [.mk 11 (bs []) 0 [.mk 3 (bs [110]) 0 [] nilK none ⟨[],nilK,none⟩ [] nilK none ⟨[],nilK,none⟩,.mk 1 (bs []) 1 [] nilK none ⟨[],nilK,none⟩ [] nilK none ⟨[],nilK,none⟩] none (some 2) ⟨[],nilK,none⟩ [] nilK none ⟨[],nilK,none⟩,.mk 5 (bs [100,111,119,110]) 0 [.mk 3 (bs [116]) 0 [] nilK none ⟨[],nilK,none⟩ [] nilK none ⟨[],nilK,none⟩] none (some 1) ⟨[],nilK,none⟩ [] nilK none ⟨[],nilK,none⟩] none (some 2) ⟨[],nilK,none⟩ [] nilK none ⟨[.mk 1 (bs []) [] nilK none ⟨[],nilK,none⟩ (.mk 0 (bs []) 0 [] nilK none) ⟨[],nilK,none⟩],none,some 1⟩] none (some 3) ⟨[],nilK,none⟩ [] nilK none ⟨[],nilK,none⟩] none (some 2) ⟨[],nilK,none⟩ [] nilK none ⟨[.mk 2 (bs []) [] nilK none ⟨[],nilK,none⟩ (.mk 0 (bs []) 0 [] nilK none) ⟨[],nilK,none⟩],none,some 1⟩,[(vi 0),(vb true),nl,nl,nl,nl,(vi 6),(vs []),.imm [(vi 1),(vs []),nl,nl,(vi 0),(vs []),(vi 0),nl,nl,(vi 1),(vs []),nl,nl,(vi 0),(vs []),(vi 0),nl,nl] 2 (some 2),.imm [(vs [110])] 1 (some 1),(vi 0),(vs []),(vi 0),nl,nl,nl],rfl,ab rfl⟩,⟨(bs [117,112]),⟨[(bs [110])],none,some 1⟩,.mk 7 (bs [116]) 0 [.mk 10 (bs []) 0 [.mk 3 (bs [110]) 0 [] nilK none ⟨[],nilK,none⟩ [] nilK none ⟨[],nilK,none⟩,.mk 1 (bs []) 1 [] nilK none ⟨[],nilK,none⟩ [] nilK none ⟨[],nilK,none⟩] none (some 2) ⟨[],nilK,none⟩ [] nilK none ⟨[],nilK,none⟩,.mk 5 (bs [117,112]) 0 [.mk 3 (bs [116]) 0 [] nilK none ⟨[],nilK,none⟩ [] nilK none ⟨[],nilK,none⟩] none (some 1) ⟨[],nilK,none⟩ [] nilK none ⟨[],nilK,none⟩] none (some 2) ⟨[],nilK,none⟩ [] nilK none ⟨[.mk 1 (bs []) [] nilK none ⟨[],nilK,none⟩ (.mk 0 (bs []) 0 [] nilK none) ⟨[],nilK,none⟩],none,some 1⟩,[(vi 0),(vb true),nl,nl,nl,nl,(vi 6),(vs []),.imm [(vi 1),(vs []),nl,nl,(vi 0),(vs []),(vi 0),nl,nl,(vi 1),(vs []),nl,nl,(vi 0),(vs []),(vi 0),nl,nl] 2 (some 2),.imm [(vs [110])] 1 (some 1),(vi 0),(vs []),(vi 0),nl,nl,nl],rfl,ab rfl⟩,⟨(bs [99]),⟨[],nilK,none⟩,.mk 3 (bs [99]) 0 [] nilK none ⟨[],nilK,none⟩ [] nilK none ⟨[],nilK,none⟩,[(vi 0),(vb true),nl,nl,nl,nl,(vi 1),(vs []),nl,nl,(vi 0),(vs []),(vi 0),nl,nl,nl],rfl,ab rfl⟩],none,some 3⟩⟩
theorem Ri:ka4=[.agg km4.cells,.val (.string (bs [99]))]:=by kernel_rfl
def km5:Md:=⟨.slice none 0 0,.slice none 0 0,.slice none 0 0,.slice none 0 0,.slice none 0 0,⟨[⟨(bs [100,111,119,110]),⟨[(bs [110])],none,some 1⟩,.mk 7 (bs [98]) 0 [.mk 18 (bs []) 0 [.mk 3 (bs [110]) 0 [] nilK none ⟨[],nilK,none⟩ [] nilK none ⟨[],nilK,none⟩,.mk 1 (bs []) 0 [] nilK none ⟨[],nilK,none⟩ [] nilK none ⟨[],nilK,none⟩] none (some 2) ⟨[],nilK,none⟩ [] nilK none ⟨[],nilK,none⟩,.mk 8 (bs []) 0 [.mk 3 (bs [98]) 0 [] nilK none ⟨[],nilK,none⟩ [] nilK none ⟨[],nilK,none⟩,.mk 1 (bs []) 0 [] nilK none ⟨[],nilK,none⟩ [] nilK none ⟨[],nilK,none⟩,.mk 7 (bs [116]) 0 [.mk 11 (bs []) 0 [.mk 3 (bs [110]) 0 [] nilK none ⟨[],nilK,none⟩ [] nilK none ⟨[],nilK,none⟩,.mk 1 (bs []) 1 [] nilK none ⟨[],nilK,none⟩ [] nilK none ⟨[],nilK,none⟩] none (some 2) ⟨[],nilK,none⟩ [] nilK none ⟨[],nilK,none⟩,.mk 5 (bs [100,111,119,110]) 0 [.mk 3 (bs [116]) 0 [] nilK none ⟨[],nilK,none⟩ [] nilK none ⟨[],nilK,none⟩] none (some 1) ⟨[],nilK,none⟩ [] nilK none ⟨[],nilK,none⟩] none (some 2) ⟨[],nilK,none⟩ [] nilK none ⟨[.mk 1 (bs []) [] nilK none ⟨[],nilK,none⟩ (.mk 0 (bs []) 0 [] nilK none) ⟨[],nilK,none⟩],none,some 1⟩] none (some 3) ⟨[],nilK,none⟩ [] nilK none ⟨[],nilK,none⟩] none (some 2) ⟨[],nilK,none⟩ [] nilK none ⟨[.mk 2 (bs []) [] nilK none ⟨[],nilK,none⟩ (.mk 0 (bs []) 0 [] nilK none) ⟨[],nilK,none⟩],none,some 1⟩,[(vi 0),(vb true),nl,nl,nl,nl,(vi 6),(vs []),.imm [(vi 1),(vs []),nl,nl,(vi 0),(vs []),(vi 0),nl,nl,(vi 1),(vs []),nl,nl,(vi 0),(vs []),(vi 0),nl,nl] 2 (some 2),.imm [(vs [110])] 1 (some 1),(vi 0),(vs []),(vi 0),nl,nl,nl],rfl,ab rfl⟩,⟨(bs [117,112]),⟨[(bs [110])],none,some 1⟩,.mk 7 (bs [116]) 0 [.mk 10 (bs []) 0 [.mk 3 (bs [110]) 0 [] nilK none ⟨[],nilK,none⟩ [] nilK none ⟨[],nilK,none⟩,.mk 1 (bs []) 1 [] nilK none ⟨[],nilK,none⟩ [] nilK none ⟨[],nilK,none⟩] none (some 2) ⟨[],nilK,none⟩ [] nilK none ⟨[],nilK,none⟩,.mk 5 (bs [117,112]) 0 [.mk 3 (bs [116]) 0 [] nilK none ⟨[],nilK,none⟩ [] nilK none ⟨[],nilK,none⟩] none (some 1) ⟨[],nilK,none⟩ [] nilK none ⟨[],nilK,none⟩] none (some 2) ⟨[],nilK,none⟩ [] nilK none ⟨[.mk 1 (bs []) [] nilK none ⟨[],nilK,none⟩ (.mk 0 (bs []) 0 [] nilK none) ⟨[],nilK,none⟩],none,some 1⟩,[(vi 0),(vb true),nl,nl,nl,nl,(vi 6),(vs []),.imm [(vi 1),(vs []),nl,nl,(vi 0),(vs []),(vi 0),nl,nl,(vi 1),(vs []),nl,nl,(vi 0),(vs []),(vi 0),nl,nl] 2 (some 2),.imm [(vs [110])] 1 (some 1),(vi 0),(vs []),(vi 0),nl,nl,nl],rfl,ab rfl⟩,⟨(bs [99]),⟨[],nilK,none⟩,.mk 3 (bs [99]) 0 [] nilK none ⟨[],nilK,none⟩ [] nilK none ⟨[],nilK,none⟩,[(vi 0),(vb true),nl,nl,nl,nl,(vi 1),(vs []),nl,nl,(vi 0),(vs []),(vi 0),nl,nl,nl],rfl,ab rfl⟩],none,some 3⟩⟩
def kd5:Df:=⟨(bs [100,111,119,110]),⟨[(bs [110])],none,some 1⟩,.mk 7 (bs [98]) 0 [.mk 18 (bs []) 0 [.mk 3 (bs [110]) 0 [] nilK none ⟨[],nilK,none⟩ [] nilK none ⟨[],nilK,none⟩,.mk 1 (bs []) 0 [] nilK none ⟨[],nilK,none⟩ [] nilK none ⟨[],nilK,none⟩] none (some 2) ⟨[],nilK,none⟩ [] nilK none ⟨[],nilK,none⟩,.mk 8 (bs []) 0 [.mk 3 (bs [98]) 0 [] nilK none ⟨[],nilK,none⟩ [] nilK none ⟨[],nilK,none⟩,.mk 1 (bs []) 0 [] nilK none ⟨[],nilK,none⟩ [] nilK none ⟨[],nilK,none⟩,.mk 7 (bs [116]) 0 [.mk 11 (bs []) 0 [.mk 3 (bs [110]) 0 [] nilK none ⟨[],nilK,none⟩ [] nilK none ⟨[],nilK,none⟩,.mk 1 (bs []) 1 [] nilK none ⟨[],nilK,none⟩ [] nilK none ⟨[],nilK,none⟩] none (some 2) ⟨[],nilK,none⟩ [] nilK none ⟨[],nilK,none⟩,.mk 5 (bs [100,111,119,110]) 0 [.mk 3 (bs [116]) 0 [] nilK none ⟨[],nilK,none⟩ [] nilK none ⟨[],nilK,none⟩] none (some 1) ⟨[],nilK,none⟩ [] nilK none ⟨[],nilK,none⟩] none (some 2) ⟨[],nilK,none⟩ [] nilK none ⟨[.mk 1 (bs []) [] nilK none ⟨[],nilK,none⟩ (.mk 0 (bs []) 0 [] nilK none) ⟨[],nilK,none⟩],none,some 1⟩] none (some 3) ⟨[],nilK,none⟩ [] nilK none ⟨[],nilK,none⟩] none (some 2) ⟨[],nilK,none⟩ [] nilK none ⟨[.mk 2 (bs []) [] nilK none ⟨[],nilK,none⟩ (.mk 0 (bs []) 0 [] nilK none) ⟨[],nilK,none⟩],none,some 1⟩,[(vi 0),(vb true),nl,nl,nl,nl,(vi 6),(vs []),.imm [(vi 1),(vs []),nl,nl,(vi 0),(vs []),(vi 0),nl,nl,(vi 1),(vs []),nl,nl,(vi 0),(vs []),(vi 0),nl,nl] 2 (some 2),.imm [(vs [110])] 1 (some 1),(vi 0),(vs []),(vi 0),nl,nl,nl],rfl,ab rfl⟩
theorem Rr:ka5=[.agg km5.cells,.agg kd5.cells]:=by kernel_rfl
def km6:Md:=⟨.slice none 0 0,.slice none 0 0,.slice none 0 0,.slice none 0 0,.slice none 0 0,⟨[⟨(bs [100,111,119,110]),⟨[(bs [110])],none,some 1⟩,.mk 7 (bs [98]) 0 [.mk 18 (bs []) 0 [.mk 3 (bs [110]) 0 [] nilK none ⟨[],nilK,none⟩ [] nilK none ⟨[],nilK,none⟩,.mk 1 (bs []) 0 [] nilK none ⟨[],nilK,none⟩ [] nilK none ⟨[],nilK,none⟩] none (some 2) ⟨[],nilK,none⟩ [] nilK none ⟨[],nilK,none⟩,.mk 8 (bs []) 0 [.mk 3 (bs [98]) 0 [] nilK none ⟨[],nilK,none⟩ [] nilK none ⟨[],nilK,none⟩,.mk 1 (bs []) 0 [] nilK none ⟨[],nilK,none⟩ [] nilK none ⟨[],nilK,none⟩,.mk 7 (bs [116]) 0 [.mk 11 (bs []) 0 [.mk 3 (bs [110]) 0 [] nilK none ⟨[],nilK,none⟩ [] nilK none ⟨[],nilK,none⟩,.mk 1 (bs []) 1 [] nilK none ⟨[],nilK,none⟩ [] nilK none ⟨[],nilK,none⟩] none (some 2) ⟨[],nilK,none⟩ [] nilK none ⟨[],nilK,none⟩,.mk 5 (bs [100,111,119,110]) 0 [.mk 3 (bs [116]) 0 [] nilK none ⟨[],nilK,none⟩ [] nilK none ⟨[],nilK,none⟩] none (some 1) ⟨[],nilK,none⟩ [] nilK none ⟨[],nilK,none⟩] none (some 2) ⟨[],nilK,none⟩ [] nilK none ⟨[.mk 1 (bs []) [] nilK none ⟨[],nilK,none⟩ (.mk 0 (bs []) 0 [] nilK none) ⟨[],nilK,none⟩],none,some 1⟩] none (some 3) ⟨[],nilK,none⟩ [] nilK none ⟨[],nilK,none⟩] none (some 2) ⟨[],nilK,none⟩ [] nilK none ⟨[.mk 2 (bs []) [] nilK none ⟨[],nilK,none⟩ (.mk 0 (bs []) 0 [] nilK none) ⟨[],nilK,none⟩],none,some 1⟩,[(vi 0),(vb true),nl,nl,nl,nl,(vi 6),(vs []),.imm [(vi 1),(vs []),nl,nl,(vi 0),(vs []),(vi 0),nl,nl,(vi 1),(vs []),nl,nl,(vi 0),(vs []),(vi 0),nl,nl] 2 (some 2),.imm [(vs [110])] 1 (some 1),(vi 0),(vs []),(vi 0),nl,nl,nl],rfl,ab rfl⟩,⟨(bs [117,112]),⟨[(bs [110])],none,some 1⟩,.mk 7 (bs [116]) 0 [.mk 10 (bs []) 0 [.mk 3 (bs [110]) 0 [] nilK none ⟨[],nilK,none⟩ [] nilK none ⟨[],nilK,none⟩,.mk 1 (bs []) 1 [] nilK none ⟨[],nilK,none⟩ [] nilK none ⟨[],nilK,none⟩] none (some 2) ⟨[],nilK,none⟩ [] nilK none ⟨[],nilK,none⟩,.mk 5 (bs [117,112]) 0 [.mk 3 (bs [116]) 0 [] nilK none ⟨[],nilK,none⟩ [] nilK none ⟨[],nilK,none⟩] none (some 1) ⟨[],nilK,none⟩ [] nilK none ⟨[],nilK,none⟩] none (some 2) ⟨[],nilK,none⟩ [] nilK none ⟨[.mk 1 (bs []) [] nilK none ⟨[],nilK,none⟩ (.mk 0 (bs []) 0 [] nilK none) ⟨[],nilK,none⟩],none,some 1⟩,[(vi 0),(vb true),nl,nl,nl,nl,(vi 6),(vs []),.imm [(vi 1),(vs []),nl,nl,(vi 0),(vs []),(vi 0),nl,nl,(vi 1),(vs []),nl,nl,(vi 0),(vs []),(vi 0),nl,nl] 2 (some 2),.imm [(vs [110])] 1 (some 1),(vi 0),(vs []),(vi 0),nl,nl,nl],rfl,ab rfl⟩,⟨(bs [99]),⟨[],nilK,none⟩,.mk 3 (bs [99]) 0 [] nilK none ⟨[],nilK,none⟩ [] nilK none ⟨[],nilK,none⟩,[(vi 0),(vb true),nl,nl,nl,nl,(vi 1),(vs []),nl,nl,(vi 0),(vs []),(vi 0),nl,nl,nl],rfl,ab rfl⟩],none,some 3⟩⟩
def kd6:Df:=⟨(bs [117,112]),⟨[(bs [110])],none,some 1⟩,.mk 7 (bs [116]) 0 [.mk 10 (bs []) 0 [.mk 3 (bs [110]) 0 [] nilK none ⟨[],nilK,none⟩ [] nilK none ⟨[],nilK,none⟩,.mk 1 (bs []) 1 [] nilK none ⟨[],nilK,none⟩ [] nilK none ⟨[],nilK,none⟩] none (some 2) ⟨[],nilK,none⟩ [] nilK none ⟨[],nilK,none⟩,.mk 5 (bs [117,112]) 0 [.mk 3 (bs [116]) 0 [] nilK none ⟨[],nilK,none⟩ [] nilK none ⟨[],nilK,none⟩] none (some 1) ⟨[],nilK,none⟩ [] nilK none ⟨[],nilK,none⟩] none (some 2) ⟨[],nilK,none⟩ [] nilK none ⟨[.mk 1 (bs []) [] nilK none ⟨[],nilK,none⟩ (.mk 0 (bs []) 0 [] nilK none) ⟨[],nilK,none⟩],none,some 1⟩,[(vi 0),(vb true),nl,nl,nl,nl,(vi 6),(vs []),.imm [(vi 1),(vs []),nl,nl,(vi 0),(vs []),(vi 0),nl,nl,(vi 1),(vs []),nl,nl,(vi 0),(vs []),(vi 0),nl,nl] 2 (some 2),.imm [(vs [110])] 1 (some 1),(vi 0),(vs []),(vi 0),nl,nl,nl],rfl,ab rfl⟩
theorem Rq:ka6=[.agg km6.cells,.agg kd6.cells]:=by kernel_rfl
def km7:Md:=⟨.slice none 0 0,.slice none 0 0,.slice none 0 0,.slice none 0 0,.slice none 0 0,⟨[⟨(bs [100,111,119,110]),⟨[(bs [110])],none,some 1⟩,.mk 7 (bs [98]) 0 [.mk 18 (bs []) 0 [.mk 3 (bs [110]) 0 [] nilK none ⟨[],nilK,none⟩ [] nilK none ⟨[],nilK,none⟩,.mk 1 (bs []) 0 [] nilK none ⟨[],nilK,none⟩ [] nilK none ⟨[],nilK,none⟩] none (some 2) ⟨[],nilK,none⟩ [] nilK none ⟨[],nilK,none⟩,.mk 8 (bs []) 0 [.mk 3 (bs [98]) 0 [] nilK none ⟨[],nilK,none⟩ [] nilK none ⟨[],nilK,none⟩,.mk 1 (bs []) 0 [] nilK none ⟨[],nilK,none⟩ [] nilK none ⟨[],nilK,none⟩,.mk 7 (bs [116]) 0 [.mk 11 (bs []) 0 [.mk 3 (bs [110]) 0 [] nilK none ⟨[],nilK,none⟩ [] nilK none ⟨[],nilK,none⟩,.mk 1 (bs []) 1 [] nilK none ⟨[],nilK,none⟩ [] nilK none ⟨[],nilK,none⟩] none (some 2) ⟨[],nilK,none⟩ [] nilK none ⟨[],nilK,none⟩,.mk 5 (bs [100,111,119,110]) 0 [.mk 3 (bs [116]) 0 [] nilK none ⟨[],nilK,none⟩ [] nilK none ⟨[],nilK,none⟩] none (some 1) ⟨[],nilK,none⟩ [] nilK none ⟨[],nilK,none⟩] none (some 2) ⟨[],nilK,none⟩ [] nilK none ⟨[.mk 1 (bs []) [] nilK none ⟨[],nilK,none⟩ (.mk 0 (bs []) 0 [] nilK none) ⟨[],nilK,none⟩],none,some 1⟩] none (some 3) ⟨[],nilK,none⟩ [] nilK none ⟨[],nilK,none⟩] none (some 2) ⟨[],nilK,none⟩ [] nilK none ⟨[.mk 2 (bs []) [] nilK none ⟨[],nilK,none⟩ (.mk 0 (bs []) 0 [] nilK none) ⟨[],nilK,none⟩],none,some 1⟩,[(vi 0),(vb true),nl,nl,nl,nl,(vi 6),(vs []),.imm [(vi 1),(vs []),nl,nl,(vi 0),(vs []),(vi 0),nl,nl,(vi 1),(vs []),nl,nl,(vi 0),(vs []),(vi 0),nl,nl] 2 (some 2),.imm [(vs [110])] 1 (some 1),(vi 0),(vs []),(vi 0),nl,nl,nl],rfl,ab rfl⟩,⟨(bs [117,112]),⟨[(bs [110])],none,some 1⟩,.mk 7 (bs [116]) 0 [.mk 10 (bs []) 0 [.mk 3 (bs [110]) 0 [] nilK none ⟨[],nilK,none⟩ [] nilK none ⟨[],nilK,none⟩,.mk 1 (bs []) 1 [] nilK none ⟨[],nilK,none⟩ [] nilK none ⟨[],nilK,none⟩] none (some 2) ⟨[],nilK,none⟩ [] nilK none ⟨[],nilK,none⟩,.mk 5 (bs [117,112]) 0 [.mk 3 (bs [116]) 0 [] nilK none ⟨[],nilK,none⟩ [] nilK none ⟨[],nilK,none⟩] none (some 1) ⟨[],nilK,none⟩ [] nilK none ⟨[],nilK,none⟩] none (some 2) ⟨[],nilK,none⟩ [] nilK none ⟨[.mk 1 (bs []) [] nilK none ⟨[],nilK,none⟩ (.mk 0 (bs []) 0 [] nilK none) ⟨[],nilK,none⟩],none,some 1⟩,[(vi 0),(vb true),nl,nl,nl,nl,(vi 6),(vs []),.imm [(vi 1),(vs []),nl,nl,(vi 0),(vs []),(vi 0),nl,nl,(vi 1),(vs []),nl,nl,(vi 0),(vs []),(vi 0),nl,nl] 2 (some 2),.imm [(vs [110])] 1 (some 1),(vi 0),(vs []),(vi 0),nl,nl,nl],rfl,ab rfl⟩,⟨(bs [99]),⟨[],nilK,none⟩,.mk 3 (bs [99]) 0 [] nilK none ⟨[],nilK,none⟩ [] nilK none ⟨[],nilK,none⟩,[(vi 0),(vb true),nl,nl,nl,nl,(vi 1),(vs []),nl,nl,(vi 0),(vs []),(vi 0),nl,nl,nl],rfl,ab rfl⟩],none,some 3⟩⟩
def kd7:Df:=⟨(bs [99]),⟨[],nilK,none⟩,.mk 3 (bs [99]) 0 [] nilK none ⟨[],nilK,none⟩ [] nilK none ⟨[],nilK,none⟩,[(vi 0),(vb true),nl,nl,nl,nl,(vi 1),(vs []),nl,nl,(vi 0),(vs []),(vi 0),nl,nl,nl],rfl,ab rfl⟩
theorem Rp:ka7=[.agg km7.cells,.agg kd7.cells]:=by kernel_rfl
theorem tA:EnvOk i3 (@E1 krNone):= @qE krNone ve
theorem kn0:KF 83 ka0 kr0:=by
 have h:= @kE krNone tA ke0 de;rw[←Rn,show nmV (freeS ke0)=kr0 by kernel_rfl] at h
 exact h
theorem kn2:KF 83 ka2 kr2:=by
 have h:= @kE krNone tA ke2 de;rw[←Rm,show nmV (freeS ke2)=kr2 by kernel_rfl] at h
 exact h
theorem kn5:KF 69 ka5 kr5:=by
 have h:= @bk krNone tA km5 kd5 de de de;rw[←Rr,show nmD (freeS kd5.b) (mentD km5 kd5)=kr5 by kernel_rfl] at h
 exact h
theorem kn6:KF 69 ka6 kr6:=by
 have h:= @bk krNone tA km6 kd6 de de de;rw[←Rq,show nmD (freeS kd6.b) (mentD km6 kd6)=kr6 by kernel_rfl] at h
 exact h
theorem kn7:KF 69 ka7 kr7:=by
 have h:= @bk krNone tA km7 kd7 de de de;rw[←Rp,show nmD (freeS kd7.b) (mentD km7 kd7)=kr7 by kernel_rfl] at h
 exact h
theorem kn1:KF 49 ka1 kr1:=by
 have h:=lP (m:=km1) (x:=(bs [100,111,119,110])) (l:=[(bs [100,111,119,110])]) ⟨de,de⟩ (by simp[Srt]) (ql kr) tA
 rw[←Rk,show nmV [(bs [100,111,119,110])]=kr1 by kernel_rfl] at h
 exact h
theorem kn3:KF 49 ka3 kr3:=by
 have h:=lP (m:=km3) (x:=(bs [117,112])) (l:=[(bs [117,112])]) ⟨de,de⟩ (by simp[Srt]) (ql kr) tA
 rw[←Rj,show nmV [(bs [117,112])]=kr3 by kernel_rfl] at h
 exact h
theorem kn4:KF 49 ka4 kr4:=by
 have h:=lP (m:=km4) (x:=(bs [99])) (l:=[]) ⟨de,de⟩ (by simp[Srt]) (yM kr) tA
 rw[←Ri,show nmV []=kr4 by kernel_rfl] at h
 exact h
theorem Ky:Known0:=⟨kn0,kn1,kn2,kn3,kn4,kn5,kn6,kn7⟩
theorem Ej:KFact i3 E0.globs 6 [] (.val (.bool true)):=vK Ky
end Go.Proofs.YtkmoeaplhnabcaaGreatDoor
