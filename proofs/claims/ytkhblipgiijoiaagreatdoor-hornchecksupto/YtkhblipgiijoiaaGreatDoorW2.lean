/- XBits ZW ZCall -/
import Derived.Test.YtkhblipgiijoiaaGreatDoorW1
import Derived.Test.YtkhblipgiijoiaaGreatDoorC1
import Derived.Test.YtkhblipgiijoiaaGreatDoorP0

set_option linter.all false
open And renaming intro → i9
open Bool renaming and_eq_true → ii
open Nat renaming beq → i8
open Go.Proofs.Tryz renaming prog → i7
namespace Go.AM
variable {E:Env}{s:St}{K:St→Prop}{r:List AOper}{dst:Option Nat}
def convV(k:IntKind):AV→Option AV
 |.val (.int _ n)=>some (.val (.int k (k.wrap n)))
 |_=>none
theorem aFV{k k':IntKind}{n:Int}:convV k (.val (.int k' n))=some (.val (.int k (k.wrap n))):=rfl
theorem aGJ{k:IntKind}{x:Opd}:wpOps E (⟨dst,none,.conv k x⟩::r) s K=stepV E r s dst K ((s.eval x).bind (convV k)):=by
 rw[bB (o:=(s.eval x).bind (convV k))]
 ·rfl
 ·simp only[runOp];cases s.eval x with
  |none=>rfl
  |some v=>
   cases v with
   |val v=>cases v<;>rfl
   |_=>rfl
 ·exact fun _ _=>rfl
theorem Zn{x:Opd}:wpOps E (⟨dst,none,.nilck x⟩::r) s K=stepV E r s dst K ((s.eval x).bind (nilckV E)):=by
 rw[bB (o:=(s.eval x).bind (nilckV E))]
 ·rfl
 ·rw[Dm];cases s.eval x<;>rfl
 ·exact fun _ _=>rfl
theorem Zc{b o:Nat}:nilckV E (.ptr b o)=some (.ptr b o):=rfl
theorem aGD{x:Opd}:wpOps E (⟨dst,none,.strOfBytes x⟩::r) s K=stepV E r s dst K ((s.eval x).bind (strB s.h)):=by
 rw[bB (o:=(s.eval x).bind (strB s.h))]
 ·rfl
 ·rw[Lp];cases s.eval x<;>rfl
 ·exact fun _ _=>rfl
def Yn(E:Env)(r:List AOper)(s:St)(dst:Option Nat)(K:St→Prop):Option AV→Option (List AV)→Prop
 |some (.fn (.func f) a b),some l=>aM E f r s dst K (some (a++l++b))
 |some (.yld b),some l=>CallTo E (.y b) l s.h fun v h=>wpOps E r ((s.toH h).put dst v) K
 |_,_=>False
theorem Ym{f:Nat}{a b l:List AV}:Yn E r s dst K (some (.fn (.func f) a b)) (some l)=aM E f r s dst K (some (a++l++b)):=rfl
theorem Zo{x:Opd}{l:List Opd}:wpOps E (⟨dst,none,.callv x l⟩::r) s K=Yn E r s dst K (s.eval x) (evalAll s l):=by
 have hw:wpOps E (⟨dst,none,.callv x l⟩::r) s K=wpOp E (.callv x l) s fun v s'=>wpOps E r ({s' with round:=s.round}.put dst v) K:=by
  simp only[wpOps,wantedA,aP,forall_const,Bool.true_eq_false,false_implies,and_true]
 rw[hw];simp only[wpOp];cases hx:s.eval x with
 |none=>rfl
 |some v=>
  cases v with
  |yld b=>
   simp only;cases evalAll s l<;>rfl
  |fn f a b=>
   cases f with
   |func f=>
    simp only;cases evalAll s l<;>rfl
   |_=>rfl
  |_=>rfl
def NoTag(h:AH):Prop:=∀b x t n,h.get b≠some (.tag x t n)
theorem NoTag.empty:NoTag .empty:=fun b x t n h=>by cases h
theorem NoTag.alloc{h:AH}{cs:List AV}{rw:Bool}(k:NoTag h):NoTag (h.alloc (.cells cs rw)):=fun b x t n e=>by
 rw[AH.get_alloc] at e;split at e
 ·cases e
 ·exact k b x t n e
theorem NoTag.put{h:AH}{cs:List AV}{rw:Bool}{c:Nat}(k:NoTag h):NoTag (h.put c (some (.cells cs rw))):=fun b x t n e=>by
 rw[AH.get_put] at e;split at e
 ·cases e
 ·exact k b x t n e
theorem NoTag.drop{h:AH}{c:Nat}(k:NoTag h):NoTag (h.put c none):=fun b x t n e=>by
 rw[AH.get_put] at e;split at e
 ·cases e
 ·exact k b x t n e
theorem NoTag.at{h:AH}(k:NoTag h)(b:Nat):tagOf h b=none:=by
 unfold tagOf;split
 ·rename_i x t n e;exact absurd e (k _ _ _ _)
 ·rfl
def bytesA(l:List UInt8):List AV:=l.flatMap fun b=>[.val (.int .u8 (b.toNat:Nat))]
end Go.AM
namespace Go.Proofs.YtkhblipgiijoiaaGreatDoor
open Go Go.AM
theorem aKS{cs:List AV}:(AV.agg cs).cells=some cs:=rfl
theorem aKP{v:Value}:(AV.val v).cells=some [.val v]:=rfl
theorem aKQ{b o n e:Nat}{c:Option Nat}:(AV.own b o n e c).cells=some [.own b o n e c]:=rfl
theorem aKR{l:List AV}{n:Nat}{c:Option Nat}:(AV.imm l n c).cells=some [.imm l n c]:=rfl
theorem Pi{l:List AV}{n:Nat}{x:Option (Option Addr×Nat)}{c:Option Nat}:(kidsA l n x c).cells=some [kidsA l n x c]:=by
 simp only[kidsA];cases (x.isSome&&i8 n 0)<;>rfl
theorem aNJ{cs:List AV}{rw:Bool}:cfB (some (.cells cs rw)) 0=some cs:=rfl
theorem Pr.f1{p:Pr}{rw:Bool}:cfB (some (.cells p.cells rw)) 1=some [vS p.nm,vI p.n,p.kids]:=by rw[p.cells_eq];rfl
theorem Pr.f2{p:Pr}{rw:Bool}:cfB (some (.cells p.cells rw)) 2=some [vI p.n,p.kids]:=by rw[p.cells_eq];rfl
theorem Pr.f3{p:Pr}{rw:Bool}:cfB (some (.cells p.cells rw)) 3=some [p.kids]:=by rw[p.cells_eq];rfl
theorem Pr.hd{p:Pr}:takeN none p.cells=some (vI p.op):=by rw[p.cells_eq];rfl
theorem Pr.all{p:Pr}:takeN (some 4) p.cells=some (.agg p.cells):=iW p.len
theorem Vr.hd{p:Vr}{l:List AV}:takeN none (p.cells++l)=some (vS p.nm):=rfl
theorem Vr.s1{p:Vr}{l:List AV}:fieldAddrV 1 (.iptr (p.cells++l))=some (.iptr (vS p.so::l)):=rfl
theorem Sm.hd{p:Sm}{l:List AV}:takeN none (p.cells++l)=some (vS p.nm):=rfl
theorem Ho.hd{p:Ho}{l:List AV}:takeN none (p.cells++l)=some (vS p.nm):=rfl
theorem Ho.s1{p:Ho}{l:List AV}:fieldAddrV 1 (.iptr (p.cells++l))=some (.iptr (p.ps.A Vr.cells::l)):=rfl
theorem So.hd{p:So}{l:List AV}:takeN none (p.cells++l)=some (vS p.nm):=rfl
theorem So.s1{p:So}{l:List AV}:fieldAddrV 1 (.iptr (p.cells++l))=some (.iptr (p.p.cells++l)):=rfl
theorem Cl.s0{p:Cl}{l:List AV}:takeN none (p.cells++l)=some (p.vs.A Vr.cells):=rfl
theorem Vr.c0{p:Vr}:takeN none p.cells=some (vS p.nm):=rfl
theorem Vr.c1{p:Vr}{rw:Bool}:cfB (some (.cells p.cells rw)) 1=some [vS p.so]:=rfl
theorem Sm.c0{p:Sm}:takeN none p.cells=some (vS p.nm):=rfl
theorem Sm.c1{p:Sm}{rw:Bool}:cfB (some (.cells p.cells rw)) 1=some [p.as.A strA,vS p.res]:=rfl
theorem Sm.c2{p:Sm}{rw:Bool}:cfB (some (.cells p.cells rw)) 2=some [vS p.res]:=rfl
theorem Ho.c0{p:Ho}:takeN none p.cells=some (vS p.nm):=rfl
theorem Ho.c1{p:Ho}{rw:Bool}:cfB (some (.cells p.cells rw)) 1=some [p.ps.A Vr.cells]:=rfl
theorem Cl.c0{p:Cl}:takeN none p.cells=some (p.vs.A Vr.cells):=rfl
theorem Cl.c1{p:Cl}{rw:Bool}:cfB (some (.cells p.cells rw)) 1=some (p.hy.A Pr.cells::(p.hd.cells++[vI p.tag])):=rfl
theorem Cl.c2{p:Cl}{rw:Bool}:cfB (some (.cells p.cells rw)) 2=some (p.hd.cells++[vI p.tag]):=rfl
theorem Hn.c0{p:Hn}:takeN none p.cells=some (p.sy.A Sm.cells):=rfl
theorem Hn.c1{p:Hn}{rw:Bool}:cfB (some (.cells p.cells rw)) 1=some [p.hs.A Ho.cells,p.cs.A Cl.cells]:=rfl
theorem Hn.c2{p:Hn}{rw:Bool}:cfB (some (.cells p.cells rw)) 2=some [p.cs.A Cl.cells]:=rfl
theorem So.c0{p:So}:takeN none p.cells=some (vS p.nm):=rfl
theorem So.c1{p:So}{rw:Bool}:cfB (some (.cells p.cells rw)) 1=some p.p.cells:=rfl
theorem Evr.c0{p:Evr}:takeN none p.cells=some (p.vs.A Vr.cells):=rfl
theorem Evr.c1{p:Evr}{rw:Bool}:cfB (some (.cells p.cells rw)) 1=some [p.sy.A Sm.cells,p.hs.A Ho.cells]:=rfl
theorem Evr.c2{p:Evr}{rw:Bool}:cfB (some (.cells p.cells rw)) 2=some [p.hs.A Ho.cells]:=rfl
theorem Vr.all{p:Vr}:takeN (some 2) p.cells=some (.agg p.cells):=rfl
theorem Sm.all{p:Sm}:takeN (some 3) p.cells=some (.agg p.cells):=rfl
theorem Ho.all{p:Ho}:takeN (some 2) p.cells=some (.agg p.cells):=rfl
theorem Cl.all{p:Cl}:takeN (some 7) p.cells=some (.agg p.cells):=iW p.len
theorem Hn.all{p:Hn}:takeN (some 3) p.cells=some (.agg p.cells):=rfl
theorem So.all{p:So}:takeN (some 5) p.cells=some (.agg p.cells):=iW p.len
theorem Evr.all{p:Evr}:takeN (some 3) p.cells=some (.agg p.cells):=rfl
theorem Te{p:Vr}{l:List AV}:takeN (some 2) (p.cells++l)=some (.agg p.cells):=dk p.len
theorem Tg{p:Sm}{l:List AV}:takeN (some 3) (p.cells++l)=some (.agg p.cells):=dk p.len
theorem Th{p:Ho}{l:List AV}:takeN (some 2) (p.cells++l)=some (.agg p.cells):=dk p.len
theorem Ti{p:Cl}{l:List AV}:takeN (some 7) (p.cells++l)=some (.agg p.cells):=dk p.len
theorem Tf{p:So}{l:List AV}:takeN (some 5) (p.cells++l)=some (.agg p.cells):=dk p.len
theorem aNU{α:Type}{f:α→List AV}{v:Vl α}:(v.A f).cells=some [v.A f]:=Pi
theorem n_2{k:IntKind}:asN (.val (.int k 2))=some 2:=rfl
theorem aOD{cs:List AV}:fieldAddrV 0 (.iptr cs)=some (.iptr cs):=rfl
def W0:=i9 @aKL (i9 @aNS (i9 @aKM (i9 @Yq (i9 @aNR (i9 @aEH (i9 @Vf (i9 @aNA (i9 @aHM (i9 @Yr (i9 @aNT (i9 @aKO (i9 @Vc (i9 @aMY (i9 @aHJ (@Pq)))))))))))))))
def W1:=i9 @s_g (i9 @Vj (i9 @Vk (i9 @Pu (i9 @Pv (i9 @Pt (i9 @aGK (i9 @aEA (i9 @aEB (i9 @Gy (i9 @Ha (i9 @Gz (i9 @aOC (i9 @aGE (i9 @Za (@aLW)))))))))))))))
def W2:=i9 @Sr (i9 @Zp (i9 @Sv (i9 @xR (i9 @Qn (i9 @aGG (i9 @Zm (i9 @Ca (i9 @aLX (i9 @Ss (i9 @aOB (i9 @Cm (i9 @Hj (i9 @Rg (i9 @Tx (@Iy)))))))))))))))
def W3:=i9 @Qh (i9 @aGH (i9 @Tw (i9 @Tv (i9 @Vo (i9 @aGL (i9 @Kz (i9 @aNW (i9 @St.eval_set (i9 @St.eval_toH (i9 @St.eval_c (i9 @St.h_set (i9 @St.h_toH (i9 @aGJ (i9 @Zn (i9 @aGD (@Zo))))))))))))))))
def W4:=i9 @St.df_set (i9 @St.df_toH (i9 @St.get_set (i9 @St.tm_toH (i9 @aKS (i9 @aKP (i9 @aKQ (i9 @aKR (i9 @Pi (i9 @aHP (i9 @aKK (i9 @aEE (i9 @AH.get_alloc (i9 @AH.get_put (i9 @mn (i9 @uF (i9 @dT (i9 @Tu (@xO))))))))))))))))))
def W5:=i9 @aNJ (i9 @Pr.f1 (i9 @Pr.f2 (i9 @Pr.f3 (i9 @Pr.hd (i9 @Pr.all (i9 @Vr.hd (i9 @Vr.s1 (i9 @Sm.hd (i9 @Ho.hd (i9 @Ho.s1 (i9 @So.hd (i9 @So.s1 (i9 @Cl.s0 (i9 @Vr.c0 (i9 @Vr.c1 (i9 @Sm.c0 (i9 @Sm.c1 (i9 @Sm.c2 (i9 @Ho.c0 (i9 @Ho.c1 (i9 @Cl.c0 (i9 @Cl.c1 (i9 @Cl.c2 (i9 @Hn.c0 (i9 @Hn.c1 @Hn.c2)))))))))))))))))))))))))
def W6:=i9 @So.c0 (i9 @So.c1 (i9 @Evr.c0 (i9 @Evr.c1 (i9 @Evr.c2 (i9 @Vr.all (i9 @Sm.all (i9 @Ho.all (i9 @Cl.all (i9 @Hn.all (i9 @So.all (i9 @Evr.all (i9 @Zf (i9 @Dx (i9 @Vl.len (i9 @Qb (i9 @Te (i9 @Tg (i9 @Th (i9 @Ti (i9 @Tf @aNU))))))))))))))))))))
def W7:=i9 @aLI (i9 @aLJ (i9 @aLK (i9 @aLL (i9 @aLM (i9 @aLE (i9 @aEN (i9 @aLB (i9 @aLG (i9 @aFT (i9 @aFS (i9 @aLD (i9 @aFU (i9 @aFV (i9 @Zc (@Ym)))))))))))))))
def W8:=i9 @Io (i9 @n_0 (i9 @n_1 (i9 @n_2 (i9 @x_0 (i9 @x_1 (i9 @x_2 (i9 @Fy (i9 @aMA (i9 @Zx (i9 @Ub (i9 @aHD (i9 @aHC (i9 @Qo (i9 @Hi (i9 @Ch (i9 @aGF (i9 @aLH (i9 @aLF @aOD))))))))))))))))))
def W9:=i9 @Nat.zero_add (i9 @Nat.add_zero (i9 @Nat.zero_mul (i9 @true_and (i9 @and_true (i9 @true_or (i9 @or_true (i9 @Bool.not_true (i9 @Bool.not_false (i9 @decide_true (i9 @decide_false (i9 @Bool.and_true (i9 @Bool.true_and (i9 @Bool.and_false (i9 @Bool.false_and (i9 @Bool.or_true (i9 @Bool.true_or (i9 @Bool.or_false (@Bool.false_or))))))))))))))))))
theorem aMC (s : St) (v : AV) : s.put none v = s := rfl
theorem aMB (s : St) (d : Nat) (v : AV) : s.put (some d) v = s.set d v := rfl
def V0 := i9 @Option.bind_some.{0,0} (i9 @Option.map_some.{0,0} (i9 @cond_true.{1} (i9 @cond_false.{1} (i9 @if_true.{1} (i9 @if_false.{1} (i9 @cond_true.{0} (i9 @cond_false.{0} (i9 @if_true.{0} @if_false.{0}))))))))
def VZ := i9 @zo.eq_1 (i9 @zg.eq_1 (i9 @m.eq_1 (i9 @n.eq_1 (i9 @zbf.eq_1 (i9 @zbt.eq_1 (i9 @zns.eq_1 (i9 @l.eq_1 (i9 @zL.eq_1 (i9 @zD.eq_1 (i9 @zln.eq_1 (i9 @zX.eq_1 (i9 @zc1.eq_1 (i9 @zc2.eq_1 (i9 @zbx.eq_1 (i9 @zpf.eq_1 (i9 @zpt.eq_1 (i9 @zex.eq_1 (i9 @zun.eq_1 (i9 @zbk.eq_1 (@zbv.eq_1))))))))))))))))))))
def V := i9 W0 (i9 W1 (i9 W2 (i9 W3 (i9 W4 (i9 W5 (i9 W6 (i9 W7 (i9 W8 (i9 W9 (i9 VZ (i9 aMC (i9 aMB V0))))))))))))
class KR where
 k:List AV→Option AV
variable [KR]
noncomputable def E1:Env:={E0 with known:=fun g l=>bif i8 g 10 then KR.k l else lookT [(6,[],vB true)] g l}
theorem Sw:E1.P=i7:=rfl
noncomputable def freshF (g:Nat):Bool:=(E1.shared.get g).isNone&&(!Nat.beq 6 g&& !Nat.beq g 10)
theorem dh{g:Nat}(h:freshF g=true):E1.shared.get g=none:=by
 simp only[freshF,ii,Option.isNone_iff_eq_none] at h;exact h.1
theorem eH{g:Nat}(h:freshF g=true)(l:List AV):E1.known g l=none:=by
 simp only[freshF,ii,Bool.not_eq_true'] at h;show(bif i8 g 10 then KR.k l else(bif i8 6 g&&eqL [] l then some (AV.val (.bool true)) else none))=none;rw[h.2.1,h.2.2,Bool.false_and];rfl
theorem tp{g:Nat}{l:List AV}{h:AH}{a:AFun}(P:AV→AH→Prop)(hf:funOf i7 g=some a)
  (H:∀s:St,(∀i v,(enterTm l 0 .nil).get i=some v→s.eval (.t i)=some v)→s.h=h→s.defers=[]→s.round=none→Run E1 a.body s fun e s=>(e=.normal∨e=.ret)∧s.defers=[]∧∃r,resultsA E1.globs s a.res=some r∧P (oneOrTup r) s.h):
  ∃v h',P v h'∧Ev fun n=>enterA E1 (exec E1 n) g l h=some (v,h'):=by
 obtain⟨e,s',x,y1,y2,r,y3,hp⟩:=(H {tm:=enterTm l 0 .nil,h:=h,defers:=[],round:=none} (fun _ _ h=>h) rfl rfl rfl);refine⟨oneOrTup r,s'.h,hp,x.mono fun n p=>?_⟩;have hl:leaveA E1 a s'=some (oneOrTup r,s'.h):=by
  obtain⟨tm,h1,df,rd⟩:=s';simp only at y2 y3;subst y2;simp only[leaveA,runDefers,y3]
 simp only[enterA,(show funOf E1.P g=some a by rw[Sw];exact hf),p]
 rcases y1 with rfl|rfl<;>exact hl
theorem kH{g:Nat}{l:List AV}{h:AH}{a:AFun}(P:AV→AH→Prop)(hs:E1.shared.get g=some ())(hf:funOf i7 g=some a)
  (H:∀s:St,(∀i v,(enterTm l 0 .nil).get i=some v→s.eval (.t i)=some v)→s.h=h→s.defers=[]→s.round=none→wp E1 a.body s fun e s=>(e=.normal∨e=.ret)∧s.defers=[]∧∃r,resultsA E1.globs s a.res=some r∧P (oneOrTup r) s.h):
  ∃v h',RunCall E1 (.f g) l h v h'∧P v h':=by
 obtain⟨v,h',hp,hr⟩:=tp P hf fun s h1 h2 h3 h4=>ay _ _ _ (H s h1 h2 h3 h4);refine⟨v,h',hr.mono fun n p=>?_,hp⟩;simp only[ap,cT,hs,p]
theorem ai{g:Nat}{l:List AV}{a:AFun}{r:AV}(hs:freshF g=true)(hf:funOf i7 g=some a)(hl:∀v∈l,Tree v)(hr:isFlat r=true)(ht:Tree r)
  (H:∀s:St,(∀i v,(enterTm l 0 .nil).get i=some v→s.eval (.t i)=some v)→s.h=.empty→s.defers=[]→s.round=none→wp E1 a.body s fun e s=>(e=.normal∨e=.ret)∧s.defers=[]∧resultsA E1.globs s a.res=some [r]) (h:AH):
  RunCall E1 (.f g) l h r h:=by
 obtain⟨v,h',hp,hrun⟩:=tp (g:=g) (l:=l) (h:=.empty) (a:=a) (fun v _=>v=r) hf fun s h1 h2 h3 h4=>(ay _ _ _ (H s h1 h2 h3 h4)).mono fun e s' ⟨k1,k2,k3⟩=>⟨k1,k2,[r],k3,rfl⟩;subst hp;exact aC (dh hs) (eH hs _) hl hr ht ⟨h',hrun⟩ h
end Go.Proofs.YtkhblipgiijoiaaGreatDoor
