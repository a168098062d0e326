/- VByte VAlnum VKeyw VName VCut VCore VRefn VRefc VNamed -/
import Derived.Test.YtmbabhlmdhghdaaGreatDoorN1
set_option linter.all false
open Nat renaming reduceEqDiff->rA, reduceAdd->rB, reduceMul->rC
open Int renaming reduceEq->rD, reduceLT->rE, reduceLE->rF
open Option renaming some->Z, none->Y
open Bool renaming true->J, false->U
open List renaming all_cons->j9, all_nil->jc, drop_drop->Ax, drop_eq_nil_of_le->Ba, getElem?_drop->At, mem_cons_self->ip
open Nat renaming zero_le->il
namespace Go.Proofs.YtmbabhlmdhghdaaGreatDoor
open Go Go.AM
set_option maxHeartbeats 4000000
theorem Wj(c:Int)(h:AH):aE E1 (.f 338) [.val (.int .u8 c)] h (Vb (decide (97<=c)&&decide (c<=122))) h:=by
 refine eK rf rf (qr (Tree.val _)) rfl (Tree.val _) (sQ bEJ λs hs hh hd=>?_) h;have h0:=hs 0 _ rfl;cases a:decide (97<=c)<;>cases b:decide (c<=122)<;>simp only[aJD,f338,V,↓reduceIte,rA,reduceCtorEq,h0,hd,a,b]
theorem tj{c:Int}{r:List aW}{s:St}{dst:Option Nat}{K:St->Prop}:bo E1 338 r s dst K (Z [.val (.int .u8 c)])=AM.wpOps E1 r (s.put dst (Vb (decide (97<=c)&&decide (c<=122)))) K:=ac (Wj c)
theorem Wi(c:Int)(h:AH):aE E1 (.f 340) [.val (.int .u8 c)] h (Vb (decide (48<=c)&&decide (c<=57))) h:=by
 refine eK rf rf (qr (Tree.val _)) rfl (Tree.val _) (sQ bEH λs hs hh hd=>?_) h;have h0:=hs 0 _ rfl;cases a:decide (48<=c)<;>cases b:decide (c<=57)<;>simp only[aJB,f340,V,↓reduceIte,rA,reduceCtorEq,h0,hd,a,b]
theorem yW{c:Int}{r:List aW}{s:St}{dst:Option Nat}{K:St->Prop}:bo E1 340 r s dst K (Z [.val (.int .u8 c)])=AM.wpOps E1 r (s.put dst (Vb (decide (48<=c)&&decide (c<=57)))) K:=ac (Wi c)
theorem Wh(c:Int)(h:AH):aE E1 (.f 341) [.val (.int .u8 c)] h (Vb (decide (65<=c)&&decide (c<=90))) h:=by
 refine eK rf rf (qr (Tree.val _)) rfl (Tree.val _) (sQ bEG λs hs hh hd=>?_) h;have h0:=hs 0 _ rfl;cases a:decide (65<=c)<;>cases b:decide (c<=90)<;>simp only[aJA,f341,V,↓reduceIte,rA,reduceCtorEq,h0,hd,a,b]
theorem wP{c:Int}{r:List aW}{s:St}{dst:Option Nat}{K:St->Prop}:bo E1 341 r s dst K (Z [.val (.int .u8 c)])=AM.wpOps E1 r (s.put dst (Vb (decide (65<=c)&&decide (c<=90)))) K:=ac (Wh c)
theorem su{b:ByteArray}:mA (vS b)=Z (vI (b.size:Nat)):=rfl
def lowB(c:UInt8):Bool:=decide (97<=((c.toNat:Nat):Int))&&decide (((c.toNat:Nat):Int)<=122)
def capB(c:UInt8):Bool:=decide (65<=((c.toNat:Nat):Int))&&decide (((c.toNat:Nat):Int)<=90)
def digB(c:UInt8):Bool:=decide (48<=((c.toNat:Nat):Int))&&decide (((c.toNat:Nat):Int)<=57)
def undB(c:UInt8):Bool:=decide (((c.toNat:Nat):Int)=95)
def dotB(c:UInt8):Bool:=decide (((c.toNat:Nat):Int)=46)
abbrev bs(b:ByteArray):List UInt8:=b.data.toList
theorem aZX{b:ByteArray}:(bs b).length=b.size:=by rfl
theorem yO{b:ByteArray}{i:Nat}{c:UInt8}{r:List UInt8}(h:(bs b).drop i=c::r):jQ (vS b) i=Z (.val (.int .u8 ((c.toNat:Nat):Int))):=by
 have h2:(bs b)[i]? =Z c:=by
  have:=At (xs:=bs b) (i:=i) (j:=0)
  grind
 grind [jQ]
theorem aLV{b:ByteArray}{i:Nat}(h:(bs b).drop i=[]):decide ((i:Int)<((b.size:Nat):Int))=U:=by
 simp_all
theorem zy{b:ByteArray}{i:Nat}{c:UInt8}{r:List UInt8}(h:(bs b).drop i=c::r):(bs b).drop (i+1)=r:=by rw[<-Ax,h];rfl
theorem aLU{b:ByteArray}{i:Nat}{c:UInt8}{r:List UInt8}(h:(bs b).drop i=c::r):i<b.size:=by
 rcases Nat.lt_or_ge i (bs b).length with h1|h1<;>grind [aZX,Ba]
def fnd(b:ByteArray):List ByteArray->Option Nat
 | []=>Y
 |a::r=>bif aP b a then Z 0 else(fnd b r).map (· +1)
def iO(b:ByteArray)(l:List ByteArray):Int:=match fnd b l with
 |some i=>(i:Nat)
 |none=> -1
theorem Np{k:ByteArray}{l:List AV}:takeN Y (bV k++l)=Z (vS k):=rfl
theorem Tree.vl{α:Type}{f:α->List AV}{v:Vl α}:Tree (v.A f):=Vl.leaf.tree
theorem cz{α:Type}{l r:List α}{k:α}{i:Nat}(h:l.drop i=k::r):i<l.length:=by
 grind [Ba]
theorem ba{α:Type}{l r:List α}{k:α}{i:Nat}(h:l.drop i=k::r):l.drop (i+1)=r:=by rw[<-Ax,h];rfl
theorem ca{α:Type}{l:List α}{i:Nat}(h:l.drop i=[])(hi:i<=l.length):i=l.length:=by
 grind [List.drop_eq_nil_iff]
theorem rj{i n:Nat}(h:i<n):decide ((i:Int)<(n:Int))=J:=decide_eq_true om
theorem tE{n:Nat}:decide ((n:Int)<(n:Int))=U:=decide_eq_false om
def nT(c:UInt8):Bool:=lowB c||capB c||digB c
def qX:Bool->List UInt8->Bool
 |_,[]=>J
 |z,c::r=>(lowB c||(!z&&(digB c||undB c)))&&qX U r
def headB(f:UInt8->Bool):List UInt8->Bool
 | []=>U
 |c::_=>f c
def sizedB(b:ByteArray):Bool:=decide (1<=((b.size:Nat):Int))&&decide (((b.size:Nat):Int)<=24)
def ttlW(b:ByteArray):Bool:=aP b ⟨#[73,110,116]⟩||aP b ⟨#[66,111,111,108]⟩||aP b ⟨#[67,101,108,108]⟩||aP b ⟨#[70,117,110]⟩
def jZ(b:ByteArray):Bool:=sizedB b&&headB capB (bs b)&&(bs b).all nT&& !ttlW b
theorem Lf{b:ByteArray}(h:1<=b.size):∃c r,(bs b).drop 0=c::r/\bs b=c::r:=by
 cases hb:bs b with
 |nil=>grind [aZX]
 |cons c r=>grind
def strOfA:AV->ByteArray
 |.val (.string b)=>b
 |_=>⟨#[]⟩
def kwL:List ByteArray:=cY.map strOfA
def kwB(b:ByteArray):Bool:=kwL.any λk=>aP k b
def nmB(c:UInt8):Bool:=lowB c||digB c||undB c
def nz(b:ByteArray):Bool:=sizedB b&&headB lowB (bs b)&& !kwB b&&(bs b).all nmB
section
variable {E:Env}{s:St}{K:St->Prop}{r:List DOp}{done:List ck}
theorem seen_eval{l:List Nat}{t:Nat}(h:t∈l):(AM.seen s l []).tm.get t=s.tm.get t:=by
 simp_all [AM.seen,sD]
end
def ofL(l:List UInt8):ByteArray:=⟨l.toArray⟩
theorem aTR(b:ByteArray):ofL (bs b)=b:=by
 rfl
theorem aZA{b:ByteArray}{i j:Nat}:b.extract i j=ofL (((bs b).drop i).take (j-i)):=by
 refine ByteArray.ext ?_
 grind [ByteArray.data_extract,ofL]
end Go.Proofs.YtmbabhlmdhghdaaGreatDoor
namespace Go.Proofs.YtmbabhlmdhghdaaGreatDoor
open Go Go.AM
set_option maxHeartbeats 4000000
def cj:List UInt8->List UInt8×List (List UInt8)
 | []=>([],[])
 |c::r=>bif dotB c then([],(cj r).1::(cj r).2) else(c::(cj r).1,(cj r).2)
def mO(x:List UInt8):Bool:=sizedB (ofL x)&&(x.all nT||qX J x)
def coreB(b:ByteArray):Bool:= !decide (120<((b.size:Nat):Int))&&((nz (ofL (cj (bs b)).1)||jZ (ofL (cj (bs b)).1)||(aP (ofL (cj (bs b)).1) ⟨#[118]⟩&& !(cj (bs b)).2.isEmpty))&&(cj (bs b)).2.all mO)
def jC(b:ByteArray):Int:=bif coreB b then 0 else 3
def oE:List ByteArray:=[⟨#[97,110,100]⟩,⟨#[97,115,115,117,109,101]⟩,⟨#[98,111,111,108]⟩,⟨#[98,111,117,110,100]⟩,⟨#[99,97,115,101]⟩,⟨#[99,101,108,108]⟩,⟨#[99,108,97,115,115]⟩,⟨#[100,97,116,97]⟩,⟨#[100,101,102]⟩,⟨#[100,105,118]⟩,⟨#[101,108,115,101]⟩,⟨#[101,110,100]⟩,⟨#[102,97,108,115,101]⟩,⟨#[102,111,114,97,108,108]⟩,⟨#[102,117,110]⟩,⟨#[103,101,116]⟩,⟨#[105,102]⟩,⟨#[105,110]⟩,⟨#[105,110,115,116]⟩,⟨#[105,110,116]⟩,⟨#[105,110,118,97,114,105,97,110,116]⟩,⟨#[108,101,116]⟩,⟨#[109,97,116,99,104]⟩,⟨#[109,101,97,115,117,114,101]⟩,⟨#[109,101,116,114,105,99]⟩,⟨#[109,111,100]⟩,⟨#[109,117]⟩,⟨#[110,101,119]⟩,⟨#[110,111,116]⟩,⟨#[111,102]⟩,⟨#[111,114]⟩,⟨#[113,117,97,108]⟩,⟨#[114,101,102,108,101,99,116]⟩,⟨#[115,101,116]⟩,⟨#[116,104,101,110]⟩,⟨#[116,114,117,101]⟩,⟨#[117,115,101]⟩,⟨#[118]⟩,⟨#[118,97,108]⟩,⟨#[116,97,103]⟩,⟨#[119,104,101,114,101]⟩,⟨#[119,105,116,104]⟩]
def kwHeap:AH:=AH.empty.alloc (.cells (strs oE) J)
theorem bKZ(n:Nat):bh E1 (exec E1 (n+10)) 357 [] .empty=Z (.own 0 0 42 1 (Z 42),kwHeap):=kr
theorem bDS(h:AH):aE E1 (.f 357) [] h (.imm (strs oE) 42 (Z 42)) h:=
 aBY rf rf (λv hv=>(by cases hv)) ⟨10,λn hn=>by obtain⟨m,rfl⟩:∃m,n=m+10:=⟨n-10,om⟩;exact bKZ m⟩ (cs:=strs oE) (rw:=J) rf rf (Nm _) h
theorem Qh(v:Vl ByteArray)(b:ByteArray)(hN:v.l.length<2^61):∀(r:List ByteArray) (i:Nat) (s:St),v.l.drop i=r->i<=v.l.length->s.eval (.t 0)=Z (v.A bV)->s.eval (.t 6)=Z (v.A bV)->s.eval (.t 1)=Z (vS b)->s.eval (.t 7)=Z (vI (v.l.length:Nat))->s.eval (.t 8)=Z (vI (i:Nat))->s.defers=[]->
  Run E1 oZ s λe s'=>s'.defers=[]/\((fnd b r=Y/\e=.exit 0)\/(∃j,fnd b r=Z j/\e=.ret/\s'.eval (.t 4)=Z (vI ((i+j:Nat):Int))))
 | [],i,s,hr,hi,h0,h6,h1,h7,h8,hd=>by
  have hl:=ca hr hi;subst hl;apply az (rfl:oZ=.loop k9);simp[k9,V,fnd, *]
 |a::r,i,s,hr,hi,h0,h6,h1,h7,h8,hd=>by
  have hl:=cz hr;have hlt:=rj hl;have w1:=U204;apply az (rfl:oZ=.loop k9);rw[fnd,Hc];cases hq:aP a b with
  |true=>
   simp only[k9,V,v.at sz hr,Np,seval, *]
   grind
  |false=>
   simp only[k9,V,v.at sz hr,Np,seval, *];refine(Qh v b hN r (i+1) _ (ba hr) om ?_ ?_ ?_ ?_ ?_ ?_).mono ?_
   all_goals try simp only[V,↓reduceIte,rA,reduceCtorEq,h0,h1,h6,h7,hd]
   grind
theorem ul(v:Vl ByteArray)(b:ByteArray)(hN:v.l.length<2^61)(h:AH):aE E1 (.f 125) [v.A bV,vS b] h (vI (iO b v.l)) h:=by
 refine s5 rf bFR (sE Tree.vl (Tree.val _)) rfl (Tree.val _) (λs hs hh hd hr=>?_) h;have h0:=hs 0 _ rfl;have h1:=hs 1 _ rfl;simp[aKR,f125,V,h0];refine(Qh v b hN v.l 0 _ rfl (il _) ?_ ?_ ?_ ?_ ?_ ?_).mono ?_
 all_goals try simp only[V,↓reduceIte,rA,reduceCtorEq,h0,h1,hd]
 ·rfl
 have h00:=U159;rintro e s1 ⟨d1,⟨q,rfl⟩|⟨j,q,rfl,q2⟩⟩
 ·simp[V,iO, *]
 ·simp only[V,reduceCtorEq,d1,iO,q,q2]
theorem aIK(b:ByteArray):∀l:List ByteArray,(fnd b l).isSome=l.any λk=>aP k b
 | []=>rfl
 |a::r=>by
  rw[fnd,List.any_cons,Hc,<-aIK b r]
  grind
theorem bEC(b:ByteArray)(l:List ByteArray):decide ((0:Int)<=iO b l)=l.any λk=>aP k b:=by
 grind [aIK,iO]
theorem aSW:oE=kwL:=by rfl
theorem Ya(b:ByteArray)(h:AH):aE E1 (.f 339) [vS b] h (Vb (kwB b)) h:=by
 have hn:∀h,aE E1 (.f 125) [.imm (strs oE) 42 (Z 42),vS b] h (vI (iO b oE)) h:=ul ⟨oE,Y,Z 42⟩ b (by show(42:Nat)<2^61;omega)
 refine s5 rf bEI (qr (Tree.val _)) rfl (Tree.val _) (λs hs hh hd hr=>?_) h;have h0:=hs 0 _ rfl;have he:decide ((0:Int)<=iO b oE)=kwB b:=by rw[bEC,aSW];rfl
 simp only[aJC,f339,V,↓reduceIte,rA,reduceCtorEq,h0,hd,ac bDS,ac hn,he]
theorem Pl(b:ByteArray)(hb:b.size<2^61):∀(r:List UInt8) (i:Nat) (s:St),(bs b).drop i=r->s.eval (.t 0)=Z (vS b)->s.eval (.t 23)=Z (vI (b.size:Nat))->s.eval (.t 24)=Z (vI i)->s.defers=[]->
  Run E1 pH s λe s'=>s'.defers=[]/\((r.all nmB=J/\e=.exit 0)\/(r.all nmB=U/\e=.ret/\s'.eval (.t 2)=Z (vI 3)))
 | [],i,s,hi,h0,h4,h3,hd=>by
  have hlt:=aLV hi;apply az (rfl:pH=.loop mh);simp only[mh,V,jc, *]
 |c::r,i,s,hi,h0,h4,h3,hd=>by
  have hl:=aLU hi;have hlt:=U205;have w1:=U204;have hc:=yO hi;obtain⟨B1,e1⟩:=U206;obtain⟨B2,e2⟩:=U207;obtain⟨B3,e3⟩:=U208;have ea:nmB c=(B1||B3||B2):=by rw[<-e1,<-e2,<-e3];rfl
  apply az (rfl:pH=.loop mh);rw[j9,ea];cases B1<;>cases B2<;>cases B3<;>simp only[mh,V,↓reduceIte,rA,reduceCtorEq,h0,h3,h4,hd,hlt,w1,hc,tj,yW,e1,e2,e3]
  all_goals try (refine Pl b hb r (i+1) _ (zy hi) ?_ ?_ ?_ ?_<;>simp only[V,↓reduceIte,rA,reduceCtorEq,h0,h4,hd])
theorem Pk(b:ByteArray)(hb:b.size<2^61):∀(r:List UInt8) (i:Nat) (s:St),(bs b).drop i=r->s.eval (.t 0)=Z (vS b)->s.eval (.t 35)=Z (vI (b.size:Nat))->s.eval (.t 36)=Z (vI i)->s.defers=[]->
  Run E1 pQ s λe s'=>s'.defers=[]/\((r.all nT=J/\e=.exit 0)\/(r.all nT=U/\e=.ret/\s'.eval (.t 2)=Z (vI 3)))
 | [],i,s,hi,h0,h4,h3,hd=>by
  have hlt:=aLV hi;apply az (rfl:pQ=.loop mH);simp only[mH,V,jc, *]
 |c::r,i,s,hi,h0,h4,h3,hd=>by
  have hl:=aLU hi;have hlt:=U205;have w1:=U204;have hc:=yO hi;obtain⟨B1,e1⟩:=U206;obtain⟨B2,e2⟩:=U209;obtain⟨B3,e3⟩:=U208;have ea:nT c=(B1||B2||B3):=by rw[<-e1,<-e2,<-e3];rfl
  apply az (rfl:pQ=.loop mH);rw[j9,ea];cases B1<;>cases B2<;>cases B3<;>simp only[mH,V,↓reduceIte,rA,reduceCtorEq,h0,h3,h4,hd,hlt,w1,hc,tj,yW,wP,e1,e2,e3]
  all_goals try (refine Pk b hb r (i+1) _ (zy hi) ?_ ?_ ?_ ?_<;>simp only[V,↓reduceIte,rA,reduceCtorEq,h0,h4,hd])
theorem Pj(b:ByteArray)(hb:b.size<2^61):∀(r:List UInt8) (i:Nat) (m3 m4:Bool) (s:St),(bs b).drop i=r->s.eval (.t 0)=Z (vS b)->s.eval (.t 18)=Z (vI (b.size:Nat))->s.eval (.t 19)=Z (vI i)->s.eval (.t 3)=Z (Vb m3)->s.eval (.t 4)=Z (Vb m4)->s.defers=[]->
  Run E1 mq s λe s'=>s'.defers=[]/\e=.exit 0/\s'.eval (.t 3)=Z (Vb (m3&&r.all nT))/\s'.eval (.t 4)=Z (Vb (m4&&r.all nmB))
 | [],i,m3,m4,s,hi,h0,h8,h9,h3,h4,hd=>by
  have hlt:=aLV hi;apply az (rfl:mq=.loop mY);simp only[mY,V,jc,seval, *]
 |c::r,i,m3,m4,s,hi,h0,h8,h9,h3,h4,hd=>by
  have hl:=aLU hi;have hlt:=U205;have w1:=U204;have hc:=yO hi;obtain⟨B1,e1⟩:=U206;obtain⟨B2,e2⟩:=U209;obtain⟨B3,e3⟩:=U208;obtain⟨B4,e4⟩:=U207;have ea:nT c=(B1||B2||B3):=by rw[<-e1,<-e2,<-e3];rfl
  have eb:nmB c=(B1||B3||B4):=by rw[<-e1,<-e3,<-e4];rfl
  have key:∀s:St,s.eval (.t 0)=Z (vS b)->s.eval (.t 18)=Z (vI (b.size:Nat))->s.eval (.t 19)=Z (vI ((i+1:Nat):Int))->s.eval (.t 3)=Z (Vb (m3&&nT c))->s.eval (.t 4)=Z (Vb (m4&&nmB c))->s.defers=[]->
    Run E1 mq s λe s'=>s'.defers=[]/\e=.exit 0/\s'.eval (.t 3)=Z (Vb (m3&&(c::r).all nT))/\s'.eval (.t 4)=Z (Vb (m4&&(c::r).all nmB)):=λs a0 a8 a9 a3 a4 ad=>by
   have:=Pj b hb r (i+1) (m3&&nT c) (m4&&nmB c) s (zy hi) a0 a8 a9 a3 a4 ad
   simp_all [Bool.and_assoc]
  rw[ea,eb] at key;apply az (rfl:mq=.loop mY);cases m3<;>cases m4<;>cases B1<;>cases B2<;>cases B3<;>cases B4<;>simp only[mY,V,↓reduceIte,rA,reduceCtorEq,h0,h3,h4,h8,h9,hlt,w1,hc,tj,yW,wP,e1,e2,e3,e4]
  all_goals (refine key _ ?_ ?_ ?_ ?_ ?_ ?_<;>simp only[V,↓reduceIte,rA,reduceCtorEq,h0,h8,hd,Bool.or_self,Bool.and_self])
def nJ(b:Bool):Int:=bif b then 0 else 3
theorem Lw(b:ByteArray)(hb:b.size<2^61)(h:AH):aE E1 (.f 301) [vS b] h (vI (nJ (nz b))) h:=by
 have hA:=Ya b;refine s5 rf bEM (qr (Tree.val _)) rfl (Tree.val _) (λs hs hh hd hr=>?_) h;have h0:=hs 0 _ rfl;have hbeq:=U159
 by_cases hz:1<=b.size
 ·obtain⟨c,r,hi,hl⟩:=Lf hz;have hc:=yO hi;have z1:=U210;have z2:=U211;obtain⟨B0,e0⟩:=U212;have e0':=U213;obtain⟨B1,e1⟩:=U206;obtain⟨A,ea⟩:∃B,kwB b=B:=⟨_,rfl⟩;have et:nz b=(!B0&&B1&& !A&&(bs b).all nmB):=by
   simp_all [headB,lowB,nz,sizedB]
  rw[et];rw[ea] at hA;cases B0 with
  |true=>simp[kf,f301,V,su,nJ, *]
  |false=>cases B1 with
   |false=>simp[kf,f301,V,su,tj,nJ, *]
   |true=>cases A with
    |true=>simp[kf,f301,V,su,tj,ac hA,nJ, *]
    |false=>
     simp only[kf,f301,V,su,h0,tj,ac hA,hc,z1,e0,e1,seval];refine(Pl b hb (bs b) 0 _ rfl ?_ ?_ ?_ ?_).mono ?_
     ·simp[V,h0]
     ·simp[V]
     ·simp only[V]<;>rfl
     ·simp[V,hd]
     ·rintro e s' ⟨hf,⟨q,rfl⟩|⟨q,rfl,h2⟩⟩
      ·simp[V,hf,q,nJ]
      ·simp[V,hf,h2,q,nJ]
 ·have z1:=U214;have z2:=U215;have et:nz b=U:=by simp_all [nz,sizedB]
  rw[et];simp only[kf,f301,V,↓reduceIte,rA,reduceCtorEq,su,h0,hd,z1,nJ]
theorem Hm(b:ByteArray)(hb:b.size<2^61)(h:AH):aE E1 (.f 302) [vS b] h (vI (nJ (jZ b))) h:=by
 refine s5 rf bEL (qr (Tree.val _)) rfl (Tree.val _) (λs hs hh hd hr=>?_) h;have h0:=hs 0 _ rfl;have hbeq:=U159
 by_cases hz:1<=b.size
 ·obtain⟨c,r,hi,hl⟩:=Lf hz;have hc:=yO hi;have z1:=U210;have z2:=U211;obtain⟨B0,e0⟩:=U212;have e0':=U213;obtain⟨B2,e2⟩:=U209;obtain⟨s1,q1⟩:∃B,aP b ⟨#[73,110,116]⟩=B:=⟨_,rfl⟩;obtain⟨s2,q2⟩:∃B,aP b ⟨#[66,111,111,108]⟩=B:=⟨_,rfl⟩;obtain⟨s3,q3⟩:∃B,aP b ⟨#[67,101,108,108]⟩=B:=⟨_,rfl⟩;obtain⟨s4,q4⟩:∃B,aP b ⟨#[70,117,110]⟩=B:=⟨_,rfl⟩;have et:jZ b=(!B0&&B2&&(bs b).all nT&& !(s1||s2||s3||s4)):=by
   simp_all [headB,capB,jZ,sizedB,ttlW]
  rw[et];cases B0 with
  |true=>simp[lm,f302,V,su,nJ, *]
  |false=>cases B2 with
   |false=>simp[lm,f302,V,su,wP,nJ, *]
   |true=>
    cases s1<;>cases s2<;>cases s3<;>cases s4<;>simp only[lm,f302,V,↓reduceIte,rA,reduceCtorEq,su,h0,hd,wP,hc,z1,e0,e2,q1,q2,q3,q4,nJ]
    refine(Pk b hb (bs b) 0 _ rfl ?_ ?_ ?_ ?_).mono ?_
    ·simp[V,h0]
    ·simp[V]
    ·simp only[V]<;>rfl
    ·simp[V,hd]
    ·rintro e s' ⟨hf,⟨q,rfl⟩|⟨q,rfl,h2⟩⟩
     ·simp[V,hf,q]
     ·simp[V,hf,h2,q]
 ·have z1:=U214;have z2:=U215;have et:jZ b=U:=by simp_all [jZ,sizedB]
  rw[et];simp only[lm,f302,V,↓reduceIte,rA,reduceCtorEq,su,h0,hd,z1,nJ]
theorem Wt:∀l:List UInt8,qX U l=l.all nmB
 | []=>rfl
 |c::r=>by
  rw[qX,j9,Wt r];simp[nmB,Bool.or_assoc]
theorem aMN(c:UInt8)(r:List UInt8):qX J (c::r)=(lowB c&&(c::r).all nmB):=by
 rw[qX,j9,Wt r];simp[nmB]
 grind
theorem Sj(b:ByteArray)(hb:b.size<2^61)(h:AH):aE E1 (.f 303) [vS b] h (Vb (mO (bs b))) h:=by
 refine s5 rf bEK (qr (Tree.val _)) rfl (Tree.val _) (λs hs hh hd hr=>?_) h;have h0:=hs 0 _ rfl;have hbeq:=U159
 by_cases hz:1<=b.size
 ·obtain⟨c,r,hi,hl⟩:=Lf hz;have hc:=yO hi;have z1:=U210;have z2:=U211;obtain⟨B0,e0⟩:=U212;have e0':=U213;obtain⟨B1,e1⟩:=U206;have et:mO (bs b)=(!B0&&((bs b).all nT||(B1&&(bs b).all nmB))):=by
   have:qX J (bs b)=(B1&&(bs b).all nmB):=by rw[hl,aMN,<-e1];rfl
   simp[mO,aTR,sizedB,z2,e0',this]
  rw[et];cases B0 with
  |true=>simp[pJ,f303,V,su, *]
  |false=>
   simp only[pJ,f303,V,su,h0,tj,hc,z1,e0,e1,seval];refine(Pj b hb (bs b) 0 J B1 _ rfl ?_ ?_ ?_ ?_ ?_ ?_).mono ?_
   ·simp[V,h0]
   ·simp[V]
   ·simp only[V]<;>rfl
   ·simp[V]
   ·simp[V]
   ·simp[V,hd]
   ·rintro e s' ⟨hf,rfl,h3,h4⟩;rw[Bool.true_and] at h3;obtain⟨A,ea⟩:∃A,(bs b).all nT=A:=⟨_,rfl⟩;rw[ea] at h3⊢
    cases A<;>simp[V, *]
 ·have z1:=U214;have z2:=U215;have et:mO (bs b)=U:=by simp_all [mO,aTR,sizedB]
  rw[et];simp[pJ,f303,V,su, *]
theorem bTC{g:Nat}{l:List AV}{a:ax}{P:AV->AH->Prop}(hf:aR Tryz.prog g=Z a)
  (h:∀s:St,(∀i v,(bg l 0 .nil).get i=Z v->s.eval (.t i)=Z v)->s.h=.empty->s.defers=[]->wp E1 a.body s λe s=>(e=.normal\/e=.ret)/\s.defers=[]/\∃r,P r s.h/\ay E1.aY s a.res=Z [r]):∃r hc,P r hc/\Ev λn=>bh E1 (exec E1 n) g l .empty=Z (r,hc):=by
 obtain⟨e,s',x,y1,y2,r,hp,y3⟩:=rU _ _ _ (h {tm:=bg l 0 .nil,h:=.empty,defers:=[],round:=Y} (λ_ _ h=>h) rfl rfl);refine⟨r,s'.h,hp,x.mono λn p=>?_⟩;have hl:fj E1 a s'=Z (r,s'.h):=by
  obtain⟨tm,h1,df,rd⟩:=s';subst y2;simp only[fj,cL,y3];rfl
 simp only[bh,(show aR E1.P g=Z a by grind [bAM]),p]
 grind
theorem bVW{n:Nat}(h:n<=200):cW n 16=J:=by
 have h1:Nat.ble (n*16) cR=J:=Nat.ble_eq.mpr (by have:cR=2^40:=rfl;omega)
 have h2:Nat.ble n cR=J:=Nat.ble_eq.mpr (by have:cR=2^40:=rfl;omega)
 grind [cW]
def mid(b:ByteArray)(st i:Nat):List UInt8:=((bs b).drop st).take (i-st)
theorem aIB(b:ByteArray)(st i:Nat):b.extract st i=ofL (mid b st i):=aZA
theorem aTW{b:ByteArray}{st i:Nat}{c:UInt8}{r:List UInt8}(h:(bs b).drop i=c::r)(hs:st<=i):mid b st (i+1)=mid b st i++[c]:=by
 have h2:((bs b).drop st)[i-st]? =Z c:=by
  rw[At,show st+(i-st)=i by omega]
  have:=At (xs:=bs b) (i:=i) (j:=0)
  grind
 rw[mid,show i+1-st=(i-st)+1 by omega,List.take_succ,h2]
 rfl
theorem Zj(b:ByteArray)(i:Nat):mid b i i=[]:=by simp[mid]
theorem aIC{b:ByteArray}{st:Nat}:mid b st b.size=(bs b).drop st:=by
 simp[mid,List.take_of_length_le]
theorem Cr(b:ByteArray)(hb:b.size<=120):∀(r:List UInt8) (i st:Nat) (l:List ByteArray) (v:AV) (s:St),(bs b).drop i=r->i<=b.size->st<=i->l.length<=i->(∀x∈l,x.size<=120)->s.eval (.t 0)=Z (vS b)->s.eval (.t 7)=Z (vI (b.size:Nat))->s.eval (.t 8)=Z (vI i)->
  s.eval (.t 3)=Z v->Row 0 s.h v (strs l)->s.eval (.t 4)=Z (vI st)->s.defers=[]->
  Run E1 oh s λe s'=>e=.exit 0/\s'.defers=[]/\s'.eval (.t 0)=Z (vS b)/\∃(st':Nat) (l':List ByteArray) (v:AV),st'<=b.size/\l'.length<=b.size/\(∀x∈l',x.size<=120)/\l'++[ofL ((bs b).drop st')]=l++(ofL (mid b st i++(cj r).1)::(cj r).2.map ofL)/\s'.eval (.t 3)=Z v/\Row 0 s'.h v (strs l')/\s'.eval (.t 4)=Z (vI st')
 | [],i,st,l,v,s,hi,hle,hst,hl,hx,h0,h7,h8,h3,hr,h4,hd=>by
  have hlt:=aLV hi;have hz:i=b.size:=by
   grind
  apply az (rfl:oh=.loop lH);simp only[lH,V,h0,h3,h4,h7,h8,hd,hlt,seval];refine⟨st,l,v,om,om,hx,?_,rfl,hr,rfl⟩
  grind [aIC,cj]
 |c::r,i,st,l,v,s,hi,hle,hst,hl,hx,h0,h7,h8,h3,hr,h4,hd=>by
  have hl':=aLU hi;have hlt:=U205;have w1:=U204;have hc:=yO hi;obtain⟨B1,e1⟩:∃B,decide (((c.toNat:Nat):Int)=46)=B:=⟨_,rfl⟩;have eb:dotB c=B1:=e1;apply az (rfl:oh=.loop lH);cases B1 with
  |false=>
   simp only[lH,V,seval, *];refine(Cr b hb r (i+1) st l v _ (zy hi) om om om hx ?_ ?_ ?_ ?_ ?_ ?_ ?_).mono ?_
   ·simp[V,h0]
   ·simp[V,h7]
   ·simp[V]
   ·simp[V,h3]
   ·exact hr
   ·simp[V,h4]
   ·simp[V,hd]
   rintro e s1 ⟨d0,d1,d2,st',l',v',k1,k2,k3,k4,k5⟩;refine⟨d0,d1,d2,st',l',v',k1,k2,k3,?_,k5⟩;rw[k4,aTW hi hst,List.append_assoc]
   simp_all [cj]
  |true=>
   have hm:=aMW (b:=b) (i:=st) (j:=i) hst om;have ho:=U216;have ha:=λ(s:St) K r dst d1 a=>aLY (E:=E1) (s:=s) (K:=K) (r:=r) (dst:=dst) (d1:=d1) (a:=a) (e:=vS (b.extract st i)) hr ho;simp only[lH,V,aAF,Ow,seval, *];refine(Cr b hb r (i+1) (i+1) (l++[b.extract st i]) (.own (s.h.next+1) 0 ((strs l).length+1) 1 Y) _ (zy hi) om (Nat.le_refl _) Gr ?_ ?_ ?_ ?_ ?_ ?_ ?_ ?_).mono ?_
   ·grind [ByteArray.size_extract]
   ·simp[V,h0]
   ·simp[V,h7]
   ·simp[V]
   ·simp[V]
   ·simp[V];rw[<-Xg]
    simp_all [Ym]
   ·simp[V]
   ·simp[V,hd]
   simp_all [Zj,aIB,cj]
def jM(b:ByteArray):List ByteArray:=ofL (cj (bs b)).1::(cj (bs b)).2.map ofL
theorem Ma(b:ByteArray)(hb:b.size<=120):(jM b).length<=121/\(∀x∈jM b,x.size<=120)/\∀h,aE E1 (.f 300) [vS b] h (.imm (strs (jM b)) (jM b).length Y) h:=by
 obtain⟨r,hc,⟨l,k,hl,hl2,hl3,hr,hg⟩,ha⟩:=bTC (g:=300) (l:=[vS b]) (P:=λr h=>∃(l:List ByteArray) (k:Nat),l=jM b/\l.length<=121/\(∀x∈l,x.size<=120)/\r=.own k 0 l.length 1 Y/\h.get k=Z (.cells (strs l) J)) bEN λs hs hh hd=>by
  have h0:=hs 0 _ rfl;simp only[aJE,f300,V,su,h0,seval];refine(Cr b hb (bs b) 0 0 [] (.val (.slice Y 0 0)) _ rfl (il _) (Nat.le_refl _) (il _) (λx hx=>(by cases hx)) ?_ ?_ ?_ ?_ (.inl ⟨rfl,rfl⟩) ?_ ?_).mono ?_
  ·simp[V,h0]
  ·simp[V]
  ·simp only[V]<;>rfl
  ·simp[V]
  ·simp only[V,rA]<;>rfl
  ·simp[V,hd]
  ·rintro e s' ⟨rfl,hf,g0,st,l,v,hst,hl,hx,hp0,g3,hr,g4⟩;have:=U159;have hm:=aMX (b:=b) (i:=st) hst;have ho:=U216;have ha:=λ(s:St) K r dst d1 a=>aLY (E:=E1) (s:=s) (K:=K) (r:=r) (dst:=dst) (d1:=d1) (a:=a) (e:=vS (b.extract st b.size)) hr ho;simp only[V,aAF,Ow,seval, *];have hp:=Ym (e:=vS (b.extract st b.size)) hr (il _);rw[Xg] at hp;have hn:(l++[b.extract st b.size]).length=l.length+1:=Sp;refine⟨_,⟨l++[b.extract st b.size],s'.h.next+1,?_,om,?_,?_,?_⟩,rfl⟩
   ·rw[aIB,aIC,hp0,Zj];rfl
   ·grind [ByteArray.size_extract]
   ·rw[hn,yh]
   ·rcases hp with⟨q,_⟩|⟨c,_,_,_,q,g⟩<;>grind
 subst hr;subst hl;exact⟨hl2,hl3,aBY rf rf (qr (Tree.val _)) ha hg (by grind [yh]) (Nm _)⟩
def partR(b:ByteArray):Bool:=mO (bs b)
theorem Po(l:List ByteArray)(hb:l.length<2^61)(hx:∀x∈l,x.size<=120):∀(r:List ByteArray) (i:Nat) (s:St),l.drop i=r->i<=l.length->s.eval (.t 35)=Z (.imm (strs l) l.length Y)->s.eval (.t 36)=Z (vI (l.length:Nat))->s.eval (.t 37)=Z (vI i)->s.defers=[]->
  Run E1 pF s λe s'=>s'.defers=[]/\((r.all partR=J/\e=.exit 0)\/(r.all partR=U/\e=.ret/\s'.eval (.t 2)=Z (vI 3)))
 | [],i,s,hr,hi,h5,h6,h7,hd=>by
  have hl:=ca hr hi;have hlt:decide ((i:Int)<(l.length:Nat))=U:=Gr;apply az (rfl:pF=.loop mK);simp only[mK,V,h6,h7,hd,hlt,jc]
 |a::r,i,s,hr,hi,h5,h6,h7,hd=>by
  have hl:=cz hr;have hlt:=U217;have w1:=U204;have ha:a∈l:=by grind [ip]
  have hB:=Sj a Gr;obtain⟨B1,eB⟩:∃B,mO (bs a)=B:=⟨_,rfl⟩;have eB':partR a=B1:=eB;rw[eB] at hB;apply az (rfl:pF=.loop mK);rw[j9,eB'];cases B1<;>simp only[mK,V,aRZ hr,ac hB,seval, *]
  refine Po l hb hx r (i+1) _ (ba hr) om ?_ ?_ ?_ ?_<;>simp only[V,↓reduceIte,rA,h5,h6,hd]
theorem vO(b:ByteArray)(h:AH):aE E1 (.f 279) [vS b] h (vI (jC b)) h:=by
 refine s5 rf bEO (qr (Tree.val _)) rfl (Tree.val _) (λs hs hh hd hr=>?_) h;have h0:=hs 0 _ rfl;have hbeq:=U159
 by_cases hz:120<b.size
 ·have z1:decide (120<((b.size:Nat):Int))=J:=by grind
  simp[Uq,f279,V,su,jC,coreB, *]
 ·have z1:decide (120<((b.size:Nat):Int))=U:=by grind
  obtain⟨hl2,hl3,hp⟩:=Ma b om;have ec:jC b=bif (nz (ofL (cj (bs b)).1)||jZ (ofL (cj (bs b)).1)||(aP (ofL (cj (bs b)).1) ⟨#[118]⟩&& !decide (((jM b).length:Int)=1)))&&((cj (bs b)).2.map ofL).all partR then 0 else 3:=by
   have e1:(cj (bs b)).2.isEmpty=decide (((jM b).length:Int)=1):=by
    rw[jM,List.length_cons,List.length_map];cases (cj (bs b)).2<;>rfl
   have e2:((cj (bs b)).2.map ofL).all partR=(cj (bs b)).2.all mO:=by rw[List.all_map];rfl
   simp[jC,coreB, *]
  rw[ec];rw[jM] at hl2 hl3 hp⊢
  generalize ofL (cj (bs b)).1=a at*;generalize (cj (bs b)).2.map ofL=r at*;have h00:(a::r).drop 0=a::r:=rfl;have hl1:1<=(a::r).length:=Gr;have hxa:=hl3 a ip;have hA2:=Lw a om;have hA3:=Hm a om;obtain⟨A2,e2⟩:∃B,nz a=B:=⟨_,rfl⟩;obtain⟨A3,e3⟩:∃B,jZ a=B:=⟨_,rfl⟩;obtain⟨Vx,hV⟩:∃Vx,aP a ⟨#[118]⟩=Vx:=⟨_,rfl⟩;obtain⟨L,hL⟩:∃L,decide ((((a::r).length:Nat):Int)=1)=L:=⟨_,rfl⟩;have ht:=aRX (l:=a::r) (cap:=Y) hl1 rfl;have hsa:=λcap=>aRZ (cap:=cap) h00;have hll:r.length<=120:=Gr;rw[show(a::r).drop 1=r from rfl] at ht;rw[e2] at hA2;rw[e3] at hA3;rw[e2,e3,hV,hL];cases A2<;>cases A3<;>cases Vx<;>cases L<;>simp only[Uq,f279,V,↓reduceIte,rA,reduceCtorEq,rD,Option.some_or,bDI,su,h0,hh,hd,z1,ac hp,ac hA2,ac hA3,nJ,hsa,hV,hL,ht]
  all_goals
   refine(Po r om (λx hx=>hl3 x (List.mem_cons_of_mem _ hx)) r 0 _ rfl (il _) ?_ ?_ ?_ ?_).mono ?_
   ·exact U29
   ·exact U29
   ·simp only[V,↓reduceIte]<;>rfl
   ·simp only[V,hd]
   ·rintro e s' ⟨hf,⟨q,rfl⟩|⟨q,rfl,h2⟩⟩
    ·simp only[V,↓reduceIte,reduceCtorEq,hbeq,hf,q]
    ·simp only[V,reduceCtorEq,hf,h2,q]
set_option maxHeartbeats 40000000
set_option maxRecDepth 10000
def nvS(z l1 l2 b ok:Bool):Int:=bif !z||(l1||l2) then 1 else bif b then 0 else bif ok then 0 else 3
theorem aQC(p:Pr)(hk:p.op=3)(h:AH):aE E1 (.f 258) [p.av] h (Vb ((aP p.nm ⟨#[118]⟩)||decide (jC p.nm=0))) h:=by
 have hA:=vO p.nm;refine eK rf rf (qr (Tree.pr p)) rfl (Tree.val _) (sQ Gp λs hs hh hd=>?_) h;have h0:=hs 0 _ rfl;obtain⟨Vx,hV⟩:=U218;obtain⟨T,hT⟩:=U219;obtain⟨aD,hU⟩:=U220;cases Vx<;>cases T<;>cases aD<;>simp only[mM,f258,V,↓reduceIte,rA,reduceCtorEq,h0,hh,hd,hk,ac hA,hV]
theorem aHZ(p:Pr)(hk:p.op=3)(h:AH):aE E1 (.f 204) [p.av] h (vI (nvS (decide (p.n=0)) (decide (((p.ks.length:Nat):Int)<0)) (decide ((0:Int)<((p.ks.length:Nat):Int))) (decide (jC p.nm=0)) (aP p.nm ⟨#[118]⟩))) h:=by
 have hA:=aQC p hk;refine eK rf rf (qr (Tree.pr p)) rfl (Tree.val _) (sQ sS λs hs hh hd=>?_) h;have h0:=hs 0 _ rfl;obtain⟨B,hB⟩:=U221;obtain⟨W,hW⟩:∃B:Bool,(aP p.nm ⟨#[118]⟩)=B:=⟨_,rfl⟩;obtain⟨e,he⟩:=U222;obtain⟨z,hz⟩:=U223;obtain⟨L1,hL1⟩:∃B,decide (((p.ks.length:Nat):Int)<0)=B:=⟨_,rfl⟩;obtain⟨L2,hL2⟩:∃B,decide ((0:Int)<((p.ks.length:Nat):Int))=B:=⟨_,rfl⟩;have hK:(bif 0==0 then decide (((p.ks.length:Nat):Int)=0) else(decide (1<=((p.ks.length:Nat):Int))&&decide (((p.ks.length:Nat):Int)<=24)))= !(L1||L2):=by
  rw[<-hL1,<-hL2];simp only[Nat.reduceBEq,cond_true]
  first
   |(rw[show decide ((1:Int)<=((p.ks.length:Nat):Int))= !decide (((p.ks.length:Nat):Int)<1) by rw[<-decide_not,decide_eq_decide];omega,show decide (((p.ks.length:Nat):Int)<=24)= !decide ((24:Int)<((p.ks.length:Nat):Int)) by rw[<-decide_not,decide_eq_decide];omega,Bool.not_or])
   |(rw[<-Bool.decide_or,<-decide_not,decide_eq_decide];omega)
 simp only[Nat.reduceBEq,cond_true] at hK;rw[hB,hW] at hA;rw[hB,hW];cases z with
 |false=>cases e<;>simp[bx,f204,V,xo,nvS, *]
 |true=>
  obtain⟨L,hL⟩:=U224;rw[hL] at hK;rw[nvS,hL1,hL2,hL];cases e<;>cases L<;>cases B<;>cases W<;>simp only[bx,f204,V,↓reduceIte,rA,reduceCtorEq,rD,rE,h0,hh,hd,hk,Ta,xo,ac hA,he,hz,hK]
theorem aQB(p:Pr)(hk:p.op=4)(h:AH):aE E1 (.f 258) [p.av] h (Vb ((aP p.nm ⟨#[116,97,103]⟩||aP p.nm ⟨#[118,97,108]⟩)||decide (jC p.nm=0))) h:=by
 have hA:=vO p.nm;refine eK rf rf (qr (Tree.pr p)) rfl (Tree.val _) (sQ Gp λs hs hh hd=>?_) h;have h0:=hs 0 _ rfl;obtain⟨Vx,hV⟩:=U218;obtain⟨T,hT⟩:=U219;obtain⟨aD,hU⟩:=U220;cases Vx<;>cases T<;>cases aD<;>simp only[mM,f258,V,↓reduceIte,rA,reduceCtorEq,rD,h0,hh,hd,hk,ac hA,hT,hU]
theorem aHY(p:Pr)(hk:p.op=4)(h:AH):aE E1 (.f 204) [p.av] h (vI (nvS (decide (p.n=0)) (decide (((p.ks.length:Nat):Int)<1)) (decide ((24:Int)<((p.ks.length:Nat):Int))) (decide (jC p.nm=0)) (aP p.nm ⟨#[116,97,103]⟩||aP p.nm ⟨#[118,97,108]⟩))) h:=by
 have hA:=aQB p hk;refine eK rf rf (qr (Tree.pr p)) rfl (Tree.val _) (sQ sS λs hs hh hd=>?_) h;have h0:=hs 0 _ rfl;obtain⟨B,hB⟩:=U221;obtain⟨W,hW⟩:∃B:Bool,(aP p.nm ⟨#[116,97,103]⟩||aP p.nm ⟨#[118,97,108]⟩)=B:=⟨_,rfl⟩;obtain⟨e,he⟩:=U222;obtain⟨z,hz⟩:=U223;obtain⟨L1,hL1⟩:=U225;obtain⟨L2,hL2⟩:=U226;have hK:(bif 1==0 then decide (((p.ks.length:Nat):Int)=0) else(decide (1<=((p.ks.length:Nat):Int))&&decide (((p.ks.length:Nat):Int)<=24)))= !(L1||L2):=by
  grind
 simp only[Nat.reduceBEq,cond_false] at hK;rw[hB,hW] at hA;rw[hB,hW];cases z with
 |false=>cases e<;>simp[bx,f204,V,xn,nvS, *]
 |true=>
  obtain⟨L,hL⟩:=U224;rw[hL] at hK;simp[nvS,hL1,hL2,hL];cases e<;>cases L<;>cases B<;>cases W<;>simp only[bx,f204,V,↓reduceIte,rA,reduceCtorEq,rD,rE,h0,hh,hd,hk,Sz,xn,ac hA,he,hz,hK]
theorem aQA(p:Pr)(hk:p.op=5)(h:AH):aE E1 (.f 258) [p.av] h (Vb (U||decide (jC p.nm=0))) h:=by
 have hA:=vO p.nm;refine eK rf rf (qr (Tree.pr p)) rfl (Tree.val _) (sQ Gp λs hs hh hd=>?_) h;have h0:=hs 0 _ rfl;obtain⟨Vx,hV⟩:=U218;obtain⟨T,hT⟩:=U219;obtain⟨aD,hU⟩:=U220;cases Vx<;>cases T<;>cases aD<;>simp only[mM,f258,V,↓reduceIte,rA,reduceCtorEq,rD,h0,hh,hd,hk,ac hA]
theorem aHX(p:Pr)(hk:p.op=5)(h:AH):aE E1 (.f 204) [p.av] h (vI (nvS (decide (p.n=0)) (decide (((p.ks.length:Nat):Int)<1)) (decide ((24:Int)<((p.ks.length:Nat):Int))) (decide (jC p.nm=0)) U)) h:=by
 have hA:=aQA p hk;refine eK rf rf (qr (Tree.pr p)) rfl (Tree.val _) (sQ sS λs hs hh hd=>?_) h;have h0:=hs 0 _ rfl;obtain⟨B,hB⟩:=U221;obtain⟨W,hW⟩:∃B:Bool,U=B:=⟨_,rfl⟩;obtain⟨e,he⟩:=U222;obtain⟨z,hz⟩:=U223;obtain⟨L1,hL1⟩:=U225;obtain⟨L2,hL2⟩:=U226;have hK:(bif 1==0 then decide (((p.ks.length:Nat):Int)=0) else(decide (1<=((p.ks.length:Nat):Int))&&decide (((p.ks.length:Nat):Int)<=24)))= !(L1||L2):=by
  grind
 simp only[Nat.reduceBEq,cond_false] at hK;rw[hB,hW] at hA;rw[hB,hW];cases z with
 |false=>cases e<;>simp[bx,f204,V,h0,hd,hk,xm,he,hz,nvS]
 |true=>
  obtain⟨L,hL⟩:=U224;rw[hL] at hK;simp[nvS,hL1,hL2,hL];cases e<;>cases L<;>cases B<;>cases W<;>simp only[bx,f204,V,↓reduceIte,rA,reduceCtorEq,rD,rE,h0,hh,hd,hk,Sy,xm,ac hA,he,hz,hK]
theorem Du(p:Pr)(hk:p.op<1\/18<p.op)(h:AH):aE E1 (.f 204) [p.av] h (vI 1) h:=by
 refine eK rf rf (qr (Tree.pr p)) rfl (Tree.val _) (sQ sS λs hs hh hd=>?_) h;have h0:=hs 0 _ rfl;have n1:=U227;have n2:=U228
 by_cases a:p.op<1
 ·have b:decide (p.op<1)=J:=by grind
  simp[bx,f204,V, *]
 ·have b:decide (p.op<1)=U:=by grind
  have c:decide (18<p.op)=J:=Gr;simp only[bx,f204,V,↓reduceIte,rA,reduceCtorEq,h0,hh,hd,b,c,n1,n2]
def isNamed(p:Pr):Prop:=p.op=3\/p.op=4\/p.op=5
def okNode(p:Pr):Prop:=1<=p.op/\p.op<=18/\((p.op=1\/p.op=2)->p.ks.length=0)/\((p.op=9\/p.op=14)->p.ks.length=1)/\((6<=p.op/\p.op≠9/\p.op≠14)->p.ks.length=2)
theorem Ze{num e z l r m:Bool}(h:cu num e z l r m=0):l=J:=U8
theorem aTK{o:Int}(h1:1<=o)(h2:o<=18):o=1\/o=2\/o=3\/o=4\/o=5\/o=6\/o=7\/o=8\/o=9\/o=10\/o=11\/o=12\/o=13\/o=14\/o=15\/o=16\/o=17\/o=18:=by omega
theorem Ih(p:Pr):∃y,(∀h,aE E1 (.f 204) [p.av] h (vI y) h)/\(¬isNamed p->(y=0->okNode p)):=by
 by_cases h:p.op<1\/18<p.op
 ·exact⟨1,Du p h,λ_=>λe=>(by cases e)⟩
 ·rcases aTK (o:=p.op) om om with k|k|k|k|k|k|k|k|k|k|k|k|k|k|k|k|k|k
  ·refine⟨_,wu p k,λ_=>λe=>?_⟩;exact U110
  ·refine⟨_,Im p k,λ_=>λe=>?_⟩;exact U110
  ·exact⟨_,aHZ p k,λq=>absurd (by grind [isNamed]) q⟩
  ·exact⟨_,aHY p k,λq=>absurd (by grind [isNamed]) q⟩
  ·exact⟨_,aHX p k,λq=>absurd (by grind [isNamed]) q⟩
  ·refine⟨_,Il p k,λ_=>λe=>?_⟩;exact U111
  ·refine⟨_,Ik p k,λ_=>λe=>?_⟩;exact U111
  ·refine⟨_,Ij p k,λ_=>λe=>?_⟩;exact U111
  ·refine⟨_,Ii p k,λ_=>λe=>?_⟩;exact U111
  ·refine⟨_,Fi p k,λ_=>λe=>?_⟩;exact U111
  ·refine⟨_,Fh p k,λ_=>λe=>?_⟩;exact U111
  ·refine⟨_,Fg p k,λ_=>λe=>?_⟩;exact U111
  ·refine⟨_,Ff p k,λ_=>λe=>?_⟩;exact U111
  ·refine⟨_,Fe p k,λ_=>λe=>?_⟩;exact U111
  ·refine⟨_,Fd p k,λ_=>λe=>?_⟩;exact U111
  ·refine⟨_,Fc p k,λ_=>λe=>?_⟩;exact U111
  ·refine⟨_,Fb p k,λ_=>λe=>?_⟩;exact U111
  ·refine⟨_,Fa p k,λ_=>λe=>?_⟩;exact U111
noncomputable def Nb (p:Pr):Int:=(Ih p).choose
theorem aMB(p:Pr)(h:AH):aE E1 (.f 204) [p.av] h (vI (Nb p)) h:=(Ih p).choose_spec.1 h
theorem bIQ{p:Pr}(h:¬isNamed p)(k:Nb p=0):okNode p:=(Ih p).choose_spec.2 h k
end Go.Proofs.YtmbabhlmdhghdaaGreatDoor
