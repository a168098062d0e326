/- VW VCall -/
import Derived.Test.YtmbabhlmdhghdaaGreatDoorC1
import Derived.Test.YtmbabhlmdhghdaaGreatDoorD1
import Derived.Test.YtmbabhlmdhghdaaGreatDoorP0
set_option linter.all false
open Option renaming some->Z, none->Y
open Bool renaming true->J, false->U
open And renaming intro->i9
open Go.Proofs.Tryz renaming prog->ib
namespace Go.Proofs.YtmbabhlmdhghdaaGreatDoor
open Go Go.AM
theorem bOI{cs:List AV}:(AV.agg cs).cells=Z cs:=rfl
theorem bOF{v:Value}:(AV.val v).cells=Z [.val v]:=rfl
theorem bOG{b o n e:Nat}{c:Option Nat}:(AV.own b o n e c).cells=Z [.own b o n e c]:=rfl
theorem bOH{l:List AV}{n:Nat}{c:Option Nat}:(AV.imm l n c).cells=Z [.imm l n c]:=rfl
theorem aLX{l:List AV}{n:Nat}{x:Option (Option Addr×Nat)}{c:Option Nat}:(cV l n x c).cells=Z [cV l n x c]:=by
 simp only[cV];cases (x.isSome&&Nat.beq n 0)<;>rfl
theorem bSK{cs:List AV}{rw:Bool}:cfB (Z (.cells cs rw)) 0=Z cs:=rfl
theorem Pr.f1{p:Pr}{rw:Bool}:cfB (Z (.cells p.cells rw)) 1=Z [vS p.nm,vI p.n,p.kids]:=by rw[p.bS];rfl
theorem Pr.f2{p:Pr}{rw:Bool}:cfB (Z (.cells p.cells rw)) 2=Z [vI p.n,p.kids]:=by rw[p.bS];rfl
theorem Pr.f3{p:Pr}{rw:Bool}:cfB (Z (.cells p.cells rw)) 3=Z [p.kids]:=by rw[p.bS];rfl
theorem Pr.hd{p:Pr}:takeN Y p.cells=Z (vI p.op):=by rw[p.bS];rfl
theorem Pr.all{p:Pr}:takeN (Z 4) p.cells=Z (.agg p.cells):=cf p.len
theorem Vr.hd{p:Vr}{l:List AV}:takeN Y (p.cells++l)=Z (vS p.nm):=rfl
theorem Vr.s1{p:Vr}{l:List AV}:bu 1 (.bD (p.cells++l))=Z (.bD (vS p.so::l)):=rfl
theorem Sm.hd{p:Sm}{l:List AV}:takeN Y (p.cells++l)=Z (vS p.nm):=rfl
theorem Ho.hd{p:Ho}{l:List AV}:takeN Y (p.cells++l)=Z (vS p.nm):=rfl
theorem Ho.s1{p:Ho}{l:List AV}:bu 1 (.bD (p.cells++l))=Z (.bD (p.ps.A Vr.cells::l)):=rfl
theorem So.hd{p:So}{l:List AV}:takeN Y (p.cells++l)=Z (vS p.nm):=rfl
theorem So.s1{p:So}{l:List AV}:bu 1 (.bD (p.cells++l))=Z (.bD (p.p.cells++l)):=rfl
theorem Cl.s0{p:Cl}{l:List AV}:takeN Y (p.cells++l)=Z (p.vs.A Vr.cells):=rfl
theorem Vr.c0{p:Vr}:takeN Y p.cells=Z (vS p.nm):=rfl
theorem Vr.c1{p:Vr}{rw:Bool}:cfB (Z (.cells p.cells rw)) 1=Z [vS p.so]:=rfl
theorem Sm.c0{p:Sm}:takeN Y p.cells=Z (vS p.nm):=rfl
theorem Sm.c1{p:Sm}{rw:Bool}:cfB (Z (.cells p.cells rw)) 1=Z [p.as.A bV,vS p.res]:=rfl
theorem Sm.c2{p:Sm}{rw:Bool}:cfB (Z (.cells p.cells rw)) 2=Z [vS p.res]:=rfl
theorem Ho.c0{p:Ho}:takeN Y p.cells=Z (vS p.nm):=rfl
theorem Ho.c1{p:Ho}{rw:Bool}:cfB (Z (.cells p.cells rw)) 1=Z [p.ps.A Vr.cells]:=rfl
theorem Cl.c0{p:Cl}:takeN Y p.cells=Z (p.vs.A Vr.cells):=rfl
theorem Cl.c1{p:Cl}{rw:Bool}:cfB (Z (.cells p.cells rw)) 1=Z (p.hy.A Pr.cells::(p.hd.cells++[vI p.tag])):=rfl
theorem Cl.c2{p:Cl}{rw:Bool}:cfB (Z (.cells p.cells rw)) 2=Z (p.hd.cells++[vI p.tag]):=rfl
theorem Hn.c0{p:Hn}:takeN Y p.cells=Z (p.sy.A Sm.cells):=rfl
theorem Hn.c1{p:Hn}{rw:Bool}:cfB (Z (.cells p.cells rw)) 1=Z [p.hs.A Ho.cells,p.cs.A Cl.cells]:=rfl
theorem Hn.c2{p:Hn}{rw:Bool}:cfB (Z (.cells p.cells rw)) 2=Z [p.cs.A Cl.cells]:=rfl
theorem So.c0{p:So}:takeN Y p.cells=Z (vS p.nm):=rfl
theorem So.c1{p:So}{rw:Bool}:cfB (Z (.cells p.cells rw)) 1=Z p.p.cells:=rfl
theorem Evr.c0{p:Evr}:takeN Y p.cells=Z (p.vs.A Vr.cells):=rfl
theorem Evr.c1{p:Evr}{rw:Bool}:cfB (Z (.cells p.cells rw)) 1=Z [p.sy.A Sm.cells,p.hs.A Ho.cells]:=rfl
theorem Evr.c2{p:Evr}{rw:Bool}:cfB (Z (.cells p.cells rw)) 2=Z [p.hs.A Ho.cells]:=rfl
theorem Vr.all{p:Vr}:takeN (Z 2) p.cells=Z (.agg p.cells):=rfl
theorem Sm.all{p:Sm}:takeN (Z 3) p.cells=Z (.agg p.cells):=rfl
theorem Ho.all{p:Ho}:takeN (Z 2) p.cells=Z (.agg p.cells):=rfl
theorem Cl.all{p:Cl}:takeN (Z 7) p.cells=Z (.agg p.cells):=cf p.len
theorem Hn.all{p:Hn}:takeN (Z 3) p.cells=Z (.agg p.cells):=rfl
theorem So.all{p:So}:takeN (Z 5) p.cells=Z (.agg p.cells):=cf p.len
theorem Evr.all{p:Evr}:takeN (Z 3) p.cells=Z (.agg p.cells):=rfl
theorem aRN{p:Vr}{l:List AV}:takeN (Z 2) (p.cells++l)=Z (.agg p.cells):=tv p.len
theorem aRP{p:Sm}{l:List AV}:takeN (Z 3) (p.cells++l)=Z (.agg p.cells):=tv p.len
theorem aRR{p:Ho}{l:List AV}:takeN (Z 2) (p.cells++l)=Z (.agg p.cells):=tv p.len
theorem aRS{p:Cl}{l:List AV}:takeN (Z 7) (p.cells++l)=Z (.agg p.cells):=tv p.len
theorem aRO{p:So}{l:List AV}:takeN (Z 5) (p.cells++l)=Z (.agg p.cells):=tv p.len
theorem bSV{α:Type}{f:α->List AV}{v:Vl α}:(v.A f).cells=Z [v.A f]:=aLX
theorem n_2{k:IntKind}:asN (.val (.int k 2))=Z 2:=rfl
theorem bWC{cs:List AV}:bu 0 (.bD cs)=Z (.bD cs):=rfl
def W0:=i9 @bOB (i9 @bSS (i9 @bOC (i9 @aZW (i9 @bSR (i9 @bGQ (i9 @aUH (i9 @bRW (i9 @bLB (i9 @bAC (i9 @bSU (i9 @bOE (i9 @aUF (i9 @bRV (i9 @bKY (@aML)))))))))))))))
def W1:=i9 @s_g (i9 @aUN (i9 @aUO (i9 @Nf (i9 @Ng (i9 @Nd (i9 @bKH (i9 @bGJ (i9 @bGK (i9 @aCY (i9 @aCZ (i9 @Hf (i9 @bVV (i9 @bKC (i9 @bBL (@bQN)))))))))))))))
def W2:=i9 @aQF (i9 @bBZ (i9 @aQK (i9 @Rp (i9 @aNO (i9 @bKE (i9 @aHQ (i9 @Dk (i9 @bQO (i9 @aQH (i9 @bVU (i9 @Xu (i9 @aDH (i9 @aOW (i9 @aSN (@aEP)))))))))))))))
def W3:=i9 @aMZ (i9 @bKF (i9 @aSM (i9 @aSL (i9 @aUW (i9 @bKI (i9 @aGX (i9 @bTE (i9 @St.fV (i9 @St.eval_toH (i9 @St.eval_c (i9 @St.h_set (i9 @St.h_toH (i9 @bKG (i9 @bBX (i9 @bKB (@bBY))))))))))))))))
def W4:=i9 @St.df_set (i9 @St.df_toH (i9 @St.get_set (i9 @St.tm_toH (i9 @bOI (i9 @bOF (i9 @bOG (i9 @bOH (i9 @aLX (i9 @bLH (i9 @bNY (i9 @bGM (i9 @AH.aS (i9 @AH.aO (i9 @xG (i9 @tG (i9 @bKO (i9 @aSK (@Rj))))))))))))))))))
def W5:=i9 @bSK (i9 @Pr.f1 (i9 @Pr.f2 (i9 @Pr.f3 (i9 @Pr.hd (i9 @Pr.all (i9 @Vr.hd (i9 @Vr.s1 (i9 @Sm.hd (i9 @Ho.hd (i9 @Ho.s1 (i9 @So.hd (i9 @So.s1 (i9 @Cl.s0 (i9 @Vr.c0 (i9 @Vr.c1 (i9 @Sm.c0 (i9 @Sm.c1 (i9 @Sm.c2 (i9 @Ho.c0 (i9 @Ho.c1 (i9 @Cl.c0 (i9 @Cl.c1 (i9 @Cl.c2 (i9 @Hn.c0 (i9 @Hn.c1 @Hn.c2)))))))))))))))))))))))))
def W6:=i9 @So.c0 (i9 @So.c1 (i9 @Evr.c0 (i9 @Evr.c1 (i9 @Evr.c2 (i9 @Vr.all (i9 @Sm.all (i9 @Ho.all (i9 @Cl.all (i9 @Hn.all (i9 @So.all (i9 @Evr.all (i9 @bBP (i9 @Zr (i9 @Vl.len (i9 @Bp (i9 @aRN (i9 @aRP (i9 @aRR (i9 @aRS (i9 @aRO @bSV))))))))))))))))))))
def W7:=i9 @bPX (i9 @bPY (i9 @bPZ (i9 @bQA (i9 @bQB (i9 @bPT (i9 @bQC (i9 @bPR (i9 @bPV (i9 @bJO (i9 @bJM (i9 @bPS (i9 @bJP (i9 @bJQ (i9 @Rf (@aZR)))))))))))))))
def W8:=i9 @bKW (i9 @n_0 (i9 @n_1 (i9 @n_2 (i9 @x_0 (i9 @x_1 (i9 @x_2 (i9 @aBI (i9 @bQQ (i9 @bCD (i9 @aSR (i9 @bKQ (i9 @bKP (i9 @aNR (i9 @aDG (i9 @Xq (i9 @bKD (i9 @bPW (i9 @bPU @bWC))))))))))))))))))
def W9:=i9 @Nat.zero_add (i9 @Nat.add_zero (i9 @Nat.zero_mul (i9 @true_and (i9 @and_true (i9 @true_or (i9 @or_true (i9 @Bool.not_true (i9 @Bool.not_false (i9 @decide_true (i9 @decide_false (i9 @Bool.and_true (i9 @Bool.true_and (i9 @Bool.and_false (i9 @Bool.false_and (i9 @Bool.or_true (i9 @Bool.true_or (i9 @Bool.or_false (@Bool.false_or))))))))))))))))))
theorem bQT(s:St)(v:AV):s.put Y v=s:=rfl
theorem bQS(s:St)(d:Nat)(v:AV):s.put (Z d) v=s.set d v:=rfl
def V0:=i9 @Option.bind_some.{0,0} (i9 @Option.map_some.{0,0} (i9 @cond_true.{1} (i9 @cond_false.{1} (i9 @if_true.{1} (i9 @if_false.{1} (i9 @cond_true.{0} (i9 @cond_false.{0} (i9 @if_true.{0} @if_false.{0}))))))))
def VZ:=i9 @zj.eq_1 (i9 @zx.eq_1 (i9 @zr.eq_1 (i9 @zgk.eq_1 (i9 @zgX.eq_1 (i9 @zge.eq_1 (i9 @zgc.eq_1 (i9 @zgm.eq_1 (i9 @zgn.eq_1 (i9 @zgL.eq_1 (i9 @zgl.eq_1 (i9 @zgD.eq_1 (i9 @zT.eq_1 (i9 @zI.eq_1 (i9 @zS.eq_1 (i9 @zK.eq_1 (i9 @zde.eq_1 (i9 @zdX.eq_1 (i9 @zdc.eq_1 (i9 @zdL.eq_1 (i9 @zdD.eq_1 (i9 @zdn.eq_1 (i9 @zdl.eq_1 (i9 @zdm.eq_1 (i9 @zs.eq_1 (i9 @zA.eq_1 (i9 @zo.eq_1 (i9 @zg.eq_1 (i9 @m.eq_1 (i9 @n.eq_1 (i9 @zbf.eq_1 (i9 @zbt.eq_1 (i9 @zns.eq_1 (i9 @l.eq_1 (i9 @zL.eq_1 (i9 @zD.eq_1 (i9 @zln.eq_1 (i9 @zX.eq_1 (i9 @zc1.eq_1 (i9 @zc2.eq_1 (i9 @zbx.eq_1 (i9 @zpf.eq_1 (i9 @zpt.eq_1 (i9 @zex.eq_1 (i9 @zun.eq_1 (i9 @zbk.eq_1 (@zbv.eq_1))))))))))))))))))))))))))))))))))))))))))))))
def V:=i9 W0 (i9 W1 (i9 W2 (i9 W3 (i9 W4 (i9 W5 (i9 W6 (i9 W7 (i9 W8 (i9 W9 (i9 VZ (i9 bQT (i9 bQS V0))))))))))))
noncomputable def E1:Env:={E0 with known:=λg l=>lookT [(5,[],Vb J)] g l,shared:=E0.shared.put 123 (Z ())}
theorem bAM:E1.P=ib:=rfl
noncomputable def hY (g:Nat):Bool:=(E1.shared.get g).isNone&& !Nat.beq 5 g
theorem eJ{g:Nat}(h:hY g=J):E1.shared.get g=Y:=by
 simp_all [hY]
theorem vH{g:Nat}(h:hY g=J)(l:List AV):E1.known g l=Y:=by
 simp only[hY,Bool.and_eq_true,Bool.not_eq_true'] at h;show(bif Nat.beq 5 g&&eqL [] l then Z (AV.val (.bool J)) else Y)=Y
 grind
theorem yS{g:Nat}{l:List AV}{h:AH}{a:ax}(P:AV->AH->Prop)(hf:aR ib g=Z a)
  (H:∀s:St,(∀i v,(bg l 0 .nil).get i=Z v->s.eval (.t i)=Z v)->s.h=h->s.defers=[]->s.round=Y->Run E1 a.body s λe s=>(e=.normal\/e=.ret)/\s.defers=[]/\∃r,ay E1.aY s a.res=Z r/\P (bQ r) s.h):
  ∃v h',P v h'/\Ev λn=>bh E1 (exec E1 n) g l h=Z (v,h'):=by
 obtain⟨e,s',x,y1,y2,r,y3,hp⟩:=(H {tm:=bg l 0 .nil,h:=h,defers:=[],round:=Y} (λ_ _ h=>h) rfl rfl rfl);refine⟨bQ r,s'.h,hp,x.mono λn p=>?_⟩;have hl:fj E1 a s'=Z (bQ r,s'.h):=by
  obtain⟨tm,h1,df,rd⟩:=s'
  grind [fj,cL]
 simp only[bh,(show aR E1.P g=Z a by grind [bAM]),p]
 grind
theorem bBW{g:Nat}{l:List AV}{h:AH}{a:ax}(P:AV->AH->Prop)(hs:E1.shared.get g=Z ())(hf:aR ib g=Z a)
  (H:∀s:St,(∀i v,(bg l 0 .nil).get i=Z v->s.eval (.t i)=Z v)->s.h=h->s.defers=[]->s.round=Y->wp E1 a.body s λe s=>(e=.normal\/e=.ret)/\s.defers=[]/\∃r,ay E1.aY s a.res=Z r/\P (bQ r) s.h):
  ∃v h',aE E1 (.f g) l h v h'/\P v h':=by
 obtain⟨v,h',hp,hr⟩:=yS P hf λs h1 h2 h3 h4=>rU _ _ _ (H s h1 h2 h3 h4);refine⟨v,h',hr.mono λn p=>?_,hp⟩
 simp_all [bY,fD]
theorem s5{g:Nat}{l:List AV}{a:ax}{r:AV}(hs:hY g=J)(hf:aR ib g=Z a)(hl:∀v∈l,Tree v)(hr:dg r=J)(ht:Tree r)
  (H:∀s:St,(∀i v,(bg l 0 .nil).get i=Z v->s.eval (.t i)=Z v)->s.h=.empty->s.defers=[]->s.round=Y->wp E1 a.body s λe s=>(e=.normal\/e=.ret)/\s.defers=[]/\ay E1.aY s a.res=Z [r]) (h:AH):
  aE E1 (.f g) l h r h:=by
 obtain⟨v,h',hp,hrun⟩:=yS (g:=g) (l:=l) (h:=.empty) (a:=a) (λv _=>v=r) hf λs h1 h2 h3 h4=>(rU _ _ _ (H s h1 h2 h3 h4)).mono λe s' ⟨k1,k2,k3⟩=>⟨k1,k2,[r],k3,rfl⟩;subst hp;exact eK (eJ hs) (vH hs _) hl hr ht ⟨h',hrun⟩ h
end Go.Proofs.YtmbabhlmdhghdaaGreatDoor
