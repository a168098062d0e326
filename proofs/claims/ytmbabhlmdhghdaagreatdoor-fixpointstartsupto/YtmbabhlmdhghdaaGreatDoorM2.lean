/- XAmX XAmY XAmZ XAmAb XAmAc XAmAd XAmAe XAmAf XAmAg XAmAgB XAmAgC XAmAh XAmAi -/
import Derived.Test.YtmbabhlmdhghdaaGreatDoorM1
import Derived.Laws.Cells
import Derived.Lib.Builder
import Derived.Lib.UnsafeStr
import Derived.Lib.MakeNoZero
import Derived.Laws.IdiomStrings
set_option linter.all false
open Option.some renaming injEq->sI
open Prod.mk renaming injEq->pI
open Option renaming some->Z, none->Y
open Bool renaming true->J, false->U
open Array renaming length_toList->B7, range->Ad
open Bool renaming and_eq_true->im, false_eq_true->A6
open List renaming all_eq_true->j3, getElem?_append_right->Bi, take_of_length_le->A5
open Nat renaming add_assoc->jq, add_mul->Aa, beq->ig, ble->ii, ble_eq_true_of_le->Aj, eq_of_beq_eq_true->iu, le_of_ble_eq_true->j6, le_refl->ij, mul_le_mul_right->jy, ne_of_beq_eq_false->jz, zero_add->jx
open Option renaming bind_eq_some_iff->j7, getD_none->Ae, getD_some->jt, isSome_iff_exists->Ai, map_eq_some_iff->A8
namespace Go.AM
open Go.RowKit
variable {G:Nat->Option (List AV)}{base:Nat}{S:bE}{f:Emb}{h:AH}{w:World}{P:Program}{E:Env}{s:St}{a:Act}{N:Nat}
def OptI:Option Value->Option Nat->Prop
 |none,Y=>True
 |some x,Z k=>∃q,x=.int q (k:Int)
 |_,_=>False
theorem gr{α:Type}{c:Bool}{x y:α}(h:(bif c then Z x else Y)=Z y):c=J/\x=y:=by
 grind
theorem lO{α:Type}{c:Bool}{x:Option α}{y:α}(h:(bif c then x else Y)=Z y):c=J/\x=Z y:=by
 grind
section ops
variable {call:Cle->List AV->AH->Option (AV×AH)}{o:Oper}{v:AV}{s':St}
theorem uF{x:Option Operand}{x':Option Opd}{n:Option Nat}(ht:TmR S f s.tm a.tmps N)(hc:gM x=Z x')(he:cm s x'=Z n):OptI (x.map a.eval) n:=by
 cases x with
 |none=>
  simp[gM] at hc;subst hc;simp[cm] at he;subst he;trivial
 |some x=>
  simp[gM] at hc;obtain⟨y,hy,rfl⟩:=hc;simp[cm] at he;cases hu:s.eval y with
  |none=>grind
  |some u=>
   simp[hu] at he;obtain⟨k,hk,rfl⟩:=he;obtain⟨q,e⟩:=wS (be ht hy hu) hk;exact⟨q,e⟩
theorem sA{x:Value}{q:IntKind}{k y:Nat}{code:BoundsCode}(e:x=.int q (k:Int))(hk:k<=y):(Instr.sliceBound x y code).run P w=.ok k w:=by
 simp_all [Instr.sliceBound,asIntOf]
theorem ud{isSlice:Bool}{len cap:Nat}{lo hi mx:Option Value}{lo' hi' mx':Option Nat}(h1:OptI lo lo')(h2:OptI hi hi')(h3:OptI mx mx')
  (k1:mx'.getD cap<=cap) (k2:hi'.getD len<=mx'.getD cap) (k3:lo'.getD 0<=hi'.getD len) (k4:mx'=Y\/hi'≠Y):
  (Instr.sliceBounds isSlice len cap lo hi mx).run P w=.ok (lo'.getD 0,hi'.getD len,mx'.getD cap) w:=by
 cases mx with
 |none=>
  cases mx' with
  |some _=>exact h3.elim
  |none=>
   simp only[Ae] at*;cases hi with
   |none=>
    cases hi' with
    |some _=>exact h2.elim
    |none=>
     cases lo with
     |none=>cases lo' with
      |some _=>exact h1.elim
      |none=>rfl
     |some x=>cases lo' with
      |none=>exact h1.elim
      |some k=>
       obtain⟨q,e⟩:=h1;rw[jt,Ae] at*;simp[Instr.sliceBounds,sA e k3]
   |some y=>
    cases hi' with
    |none=>exact h2.elim
    |some m=>
     obtain⟨q2,e2⟩:=h2;rw[jt] at*;cases lo with
     |none=>cases lo' with
      |some _=>exact h1.elim
      |none=>simp[Instr.sliceBounds,sA e2 k2]
     |some x=>cases lo' with
      |none=>exact h1.elim
      |some k=>
       obtain⟨q,e⟩:=h1;rw[jt] at*;simp[Instr.sliceBounds,sA e2 k2,sA e k3]
 |some z=>
  cases mx' with
  |none=>exact h3.elim
  |some m3=>
   obtain⟨q3,e3⟩:=h3;rw[jt] at*;cases hi with
   |none=>
    cases hi' with
    |some _=>exact h2.elim
    |none=>grind
   |some y=>
    cases hi' with
    |none=>grind
    |some m=>
     obtain⟨q2,e2⟩:=h2;rw[jt] at*;cases lo with
     |none=>cases lo' with
      |some _=>exact h1.elim
      |none=>simp[Instr.sliceBounds,sA e3 k1,sA e2 k2]
     |some x=>cases lo' with
      |none=>exact h1.elim
      |some k=>
       obtain⟨q,e⟩:=h1;rw[jt] at*;simp[Instr.sliceBounds,sA e3 k1,sA e2 k2,sA e k3]
theorem sT{len cap:Nat}{lo hi mx:Option Nat}{l hh m:Nat}(e:sliceB len cap lo hi mx=Z (l,hh,m)):
  l=lo.getD 0/\hh=hi.getD len/\m=mx.getD cap/\m<=cap/\hh<=m/\l<=hh/\(mx=Y\/hi≠Y):=by
 unfold sliceB at e;obtain⟨hk,e⟩:=gr e;simp at e;obtain⟨rfl,rfl,rfl⟩:=e;simp only[im,Bool.or_eq_true] at hk;have q1:=j6 hk.1.1.1;have q2:=j6 hk.1.1.2;have q3:=j6 hk.1.2;refine⟨rfl,rfl,rfl,q1,q2,q3,?_⟩;rcases hk.2 with h|h
 ·simp_all
 grind
theorem w5{l c es R off:Nat}(h:l<=c)(k:off+c*es<=R):off+l*es+(c-l)*es<=R:=by
 have:l*es+(c-l)*es=c*es:=by rw[<-Aa];grind
 omega
theorem Xp{h:AH}{es:Nat}{v u:AV}{lo hi mx:Option Nat}(hs:fv h es v lo hi mx=Z u):∃b off n k cs rw,v=.own b off n es Y/\hi=Z k/\mx=Y/\h.get b=Z (.cells cs rw)/\0<es/\lo.getD 0<k/\off+k*es<=cs.length/\u=.own b (off+lo.getD 0*es) (k-lo.getD 0) es Y:=by
 unfold fv at hs;split at hs
 ·rename_i b off n es' k;split at hs
  ·rename_i cs rw hb;have hq:=gr hs;clear hs;obtain⟨hc,hq⟩:=hq;simp only[im] at hc;have e:=iu hc.1.1;subst e;exact⟨b,off,n,k,cs,rw,rfl,rfl,rfl,hb,j6 hc.1.2,j6 hc.2.1,j6 hc.2.2,hq.symm⟩
  grind
 grind
theorem aNS{t e:TypeId}{n:Nat}{x:Operand}{x':Opd}{lo hi mx:Option Operand}{lo' hi' mx':Option Opd}(ht:TmR S f s.tm a.tmps N)(wr:WR E.aY base S f s.h w)(hx:bA x=Z x')(hu:P.underlying t=Z (.slice e))
  (hn:bH P e=Z n) (h1:gM lo=Z lo') (h2:gM hi=Z hi') (h3:gM mx=Z mx') (hrun:aL E call s (.dE n x' lo' hi' mx')=Z (v,s')):
  s'=s/\∃z,(Instr.sliceAt t (a.eval x) (lo.map a.eval) (hi.map a.eval) (mx.map a.eval)).run P w=.ok z w/\Rel S f v z:=by
 simp only[aL] at hrun;cases ex:s.eval x' with
 |none=>grind
 |some u=>
 cases e1:cm s lo' with
 |none=>grind
 |some lo2=>
 cases e2:cm s hi' with
 |none=>grind
 |some hi2=>
 cases e3:cm s mx' with
 |none=>grind
 |some mx2=>
 simp only[ex,e1,e2,e3,j7,sI,pI] at hrun;obtain⟨u',hsl,rfl,rfl⟩:=hrun;refine⟨rfl,?_⟩;have o1:=uF ht h1 e1;have o2:=uF ht h2 e2;have o3:=uF ht h3 e3;have r:=be ht hx ex;generalize a.eval x=X at r⊢
 generalize lo.map a.eval=LO at o1⊢
 generalize hi.map a.eval=HI at o2⊢
 generalize mx.map a.eval=MX at o3⊢
 have key:∀(A:Option Addr) (len cap:Nat),X=.slice A len cap->mx2.getD cap<=cap->hi2.getD len<=mx2.getD cap->lo2.getD 0<=hi2.getD len->(mx2=Y\/hi2≠Y)->
   (Instr.sliceAt t X LO HI MX).run P w=.ok (.slice (if mx2.getD cap=lo2.getD 0 then A else A.map (·.add (lo2.getD 0*n))) (hi2.getD len-lo2.getD 0) (mx2.getD cap-lo2.getD 0)) w:=by
  intro A len cap hX k1 k2 k3 k4;subst hX;simp only[Instr.sliceAt,Sem.run_bind,run_underlying hu,Result.andThen_ok,Instr.slice,ud o1 o2 o3 k1 k2 k3 k4,rW hn,Sem.run_pure]
 have hsl':=Option.or_eq_some_iff.1 hsl;clear hsl;rcases hsl' with hsl|⟨_,hsl⟩
 rotate_left
 ·
  obtain⟨b,off,m0,k,cs,rw',rfl,rfl,rfl,hb,hes,hlk,hfit,rfl⟩:=Xp hsl;have r':=r;simp only[Rel] at r';obtain⟨B,O,R,c,hf,hX,hle,hcap,hR⟩:=r';have hcs:cs.length<=R:=by
   obtain⟨B0,O0,R0,hf0,_,_,hr⟩:=wr.blk b _ hb;exact U78
  have hRc:=hR.2 trivial;have hkc:k<=c:=by
   have:k*n<=c*n:=om;exact Nat.le_of_mul_le_mul_right this hes
  rcases hX with hX|⟨rfl,rfl,q0,hq0,hX⟩
  ·have:=key _ _ _ hX Sp Gr Gr (.inr Sp);refine⟨_,this,?_⟩;simp only[jt,Ae,Rel];refine⟨B,O,R,c-lo2.getD 0,hf,.inl ?_,om,(λk hk=>by cases hk),w5 om hR.1,λ_=>?_⟩
   ·rw[if_neg om];simp[Addr.add,jq]
   ·have e:c*n=lo2.getD 0*n+(c-lo2.getD 0)*n:=by rw[<-Aa];grind
    omega
  ·omega
 unfold fW at hsl;split at hsl
 ·
  split at hsl
  ·rename_i l hh m hb;simp only[sI] at hsl;subst hsl;obtain⟨q1,q2,q3,q4,q5,q6,q7⟩:=sT hb
   simp_all [Rel]
  grind
 ·
  rename_i cs m0 cap;simp only[Rel] at r;obtain⟨b,off,c,hX,hle,hcap,hr⟩:=r;split at hsl
  ·rename_i l hh m hb;obtain⟨q1,q2,q3,q4,q5,q6,q7⟩:=sT hb;have hq:=lO hsl;clear hsl;obtain⟨hm,hsl⟩:=hq;have hm:=j6 hm;have k:mx2.getD c<=c/\hi2.getD m0<=mx2.getD c:=by
    grind
   have hrun:=key _ _ _ hX k.1 k.2 om q7;refine⟨_,hrun,?_⟩;rw[<-q1,<-q2];have hpart:∃b' off',(if mx2.getD c=l then Z (⟨b,off,Y⟩:Addr) else(Z (⟨b,off,Y⟩:Addr)).map (·.add (l*n)))=Z ⟨b',off',Y⟩/\cD S ((cs.drop (l*n)).take ((hh-l)*n)) b' off':=by
    by_cases hml:mx2.getD c=l
    ·simp_all [cD]
    ·exact⟨b,off+l*n,by simp_all [add_zero],(hr.drop _).take _⟩
   obtain⟨b',off',hadd,hrel⟩:=hpart;rw[hadd];cases mx2 with
   |some q=>
    simp only[jt] at*;simp only[sI] at hsl;subst hsl;simp only[Rel]
    grind
   |none=>
    simp only[Ae] at*;cases cap with
    |some c0=>
     simp only[sI] at hsl;subst hsl;have:=hcap c0 rfl;simp only[Rel]
     grind
    |none=>
     simp only[sI] at hsl;subst hsl;simp only[Rel]
     grind
  grind
 ·
  rename_i b off m0 es cap;simp only[Rel] at r;obtain⟨B,O,R,c,hf,hX,hle,hcap,hR⟩:=r;have hq:=lO hsl;clear hsl;obtain⟨hes,hsl⟩:=hq;have hes:=iu hes;subst hes;rcases hX with hX|⟨rfl,rfl,q0,hq0,hX⟩
  rotate_left
  ·
   cases cap with
   |some c0=>
    have hc0:=hcap c0 rfl;subst hc0;simp only[] at hsl;split at hsl
    ·rename_i l hh m hb;obtain⟨q1,q2,q3,q4,q5,q6,q7⟩:=sT hb;simp only[sI] at hsl;subst hsl;have hrun:=key _ _ _ hX om om om q7;refine⟨_,hrun,?_⟩;rw[<-q1,<-q2,<-q3];have e1:l=0:=om;have e2:hh=0:=om;have e3:m=0:=om;subst e1;subst e2;subst e3;simp only[Rel];exact⟨B,O,R,0,hf,.inr ⟨rfl,rfl,q0,hq0,Sp⟩,ij _,λk hk=>by grind,Gr⟩
    grind
   |none=>
    simp only[] at hsl;split at hsl
    ·rename_i l hh m hb;obtain⟨q1,q2,q3,q4,q5,q6,q7⟩:=sT hb;have hq:=lO hsl;clear hsl;obtain⟨hm,hsl⟩:=hq;have hm:=j6 hm;have k:mx2.getD 0<=0/\hi2.getD 0<=mx2.getD 0:=by
      grind
     have hrun:=key _ _ _ hX k.1 k.2 om q7;refine⟨_,hrun,?_⟩;rw[<-q1,<-q2];have e1:l=0:=om;have e2:hh=0:=om;have e3:mx2.getD 0=0:=om;subst e1;subst e2;rw[e3];cases mx2 with
     |some q=>
      simp only[jt] at*;subst e3;simp only[sI] at hsl;subst hsl;simp only[Rel];refine⟨B,O,R,0,hf,.inr ⟨rfl,rfl,q0,hq0,Sp⟩,ij _,λk hk=>by grind,?_⟩
      grind
     |none=>
      have:=U159;simp only[this,cond_true,sI] at hsl;subst hsl;simp only[Rel];exact⟨B,O,R,0,hf,.inr ⟨rfl,rfl,q0,hq0,Sp⟩,ij _,λk hk=>by grind,hR.1,λ_=>hR.2 rfl⟩
    grind
  cases cap with
  |some c0=>
   have hc0:=hcap c0 rfl;subst hc0;simp only[] at hsl;split at hsl
   ·rename_i l hh m hb;obtain⟨q1,q2,q3,q4,q5,q6,q7⟩:=sT hb;simp only[sI] at hsl;subst hsl;have hrun:=key _ _ _ hX om om om q7;refine⟨_,hrun,?_⟩;rw[<-q1,<-q2,<-q3];simp only[Rel];refine⟨B,O,R,m-l,hf,.inl ?_,om,λk hk=>by grind,?_,λh=>by cases h⟩
    ·by_cases hml:m=l
     ·simp_all
     ·have:ig m l=U:=by grind [iu]
      simp_all [add_zero,jq]
    ·cases hb:ig m l with
     |true=>
      have:=iu hb;grind
     |false=>
      simp only[cond_false];have:=w5 (es:=n) (R:=R) (off:=off) (l:=l) (c:=c) om hR.1;have:(m-l)*n<=(c-l)*n:=jy _ om;omega
   grind
  |none=>
   simp only[] at hsl;split at hsl
   ·rename_i l hh m hb;obtain⟨q1,q2,q3,q4,q5,q6,q7⟩:=sT hb;have hq:=lO hsl;clear hsl;obtain⟨hm,hsl⟩:=hq;have hm:=j6 hm;have k:mx2.getD c<=c/\hi2.getD m0<=mx2.getD c:=by
     grind
    have hrun:=key _ _ _ hX k.1 k.2 om q7;refine⟨_,hrun,?_⟩;rw[<-q1,<-q2];cases mx2 with
    |some q=>
     simp only[jt] at*;simp only[sI] at hsl;subst hsl;simp only[Rel];refine⟨B,O,R,q-l,hf,.inl ?_,om,λk hk=>by grind,?_,λh=>by cases h⟩
     ·by_cases hml:q=l
      ·simp_all
      grind [iu,add_zero]
     ·cases hb:ig m l with
      |true=>
       have:=iu hb
       grind
      |false=>
       simp only[cond_false];have:=w5 (es:=n) (R:=R) (off:=off) (l:=l) (c:=c) om hR.1;have:(q-l)*n<=(c-l)*n:=jy _ om;omega
    |none=>
     simp only[Ae] at*;cases hl0:ig l 0 with
     |true=>
      simp only[hl0,cond_true,sI] at hsl;subst hsl;have hl:=iu hl0;simp only[Rel];refine⟨B,O,R,c,hf,.inl ?_,om,λk hk=>by grind,hR.1,λ_=>hR.2 trivial⟩
      rw[hl]
      grind [Addr.add]
     |false=>
      simp only[hl0,cond_false] at hsl;have hq:=lO hsl;clear hsl;obtain⟨hlt,hsl⟩:=hq;have hlt:=j6 hlt;simp only[sI] at hsl;subst hsl;simp only[Rel];refine⟨B,O,R,c-l,hf,?_,om,λk hk=>by grind,w5 om hR.1,λ_=>by
       have:=hR.2 trivial;have e:c*n=l*n+(c-l)*n:=by rw[<-Aa];grind
       omega⟩
      by_cases hcl:c=l
      ·refine .inr ⟨om,om,off,om,?_⟩
       simp_all
      ·refine .inl ?_
       simp_all [add_zero,jq]
   grind
 grind
end ops
end Go.AM
namespace Go.AM
open Go.RowKit
variable {G:Nat->Option (List AV)}{base:Nat}{S:bE}{f:Emb}{h:AH}{w:World}{P:Program}{E:Env}{s:St}{a:Act}{N:Nat}
section ops
variable {call:Cle->List AV->AH->Option (AV×AH)}{o:Oper}{v:AV}{s':St}
theorem Yv{t:TypeId}{x:Operand}{x':Opd}{lo hi:Option Operand}{lo' hi':Option Opd}(ht:TmR S f s.tm a.tmps N)(hx:bA x=Z x')(hu:P.underlying t=Z .string)
  (h1:gM lo=Z lo') (h2:gM hi=Z hi') (hrun:aL E call s (.fC x' lo' hi')=Z (v,s')):
  s'=s/\∃z,(Instr.sliceAt t (a.eval x) (lo.map a.eval) (hi.map a.eval) Y).run P w=.ok z w/\Rel S f v z:=by
 simp[aL] at hrun;split at hrun
 ·rename_i b lo2 hi2 ex e1 e2;split at hrun
  ·rename_i l hh m hb;simp at hrun;obtain⟨rfl,rfl⟩:=hrun;obtain⟨q1,q2,q3,q4,q5,q6,q7⟩:=sT hb;have o1:=uF ht h1 e1;have o2:=uF ht h2 e2;have r:=be ht hx ex;simp[Rel] at r;refine⟨rfl,.string (b.extract l hh),?_,by simp[Rel,Value.oneCell']⟩
   rw[r.1];have hs:=ud (P:=P) (w:=w) (isSlice:=U) (len:=b.size) (cap:=b.size) (mx:=Y) (mx':=Y) o1 o2 trivial Sp Gr om (.inl rfl)
   simp_all [Instr.sliceAt,run_underlying,Instr.slice]
  grind
 grind
theorem Ny{t:TypeId}{x:Operand}{x':Opd}{len n:Nat}{e:TypeId}{lo hi:Option Operand}{lo' hi':Option Opd}(ht:TmR S f s.tm a.tmps N)(hx:bA x=Z x')
  (hu:P.underlying t=Z (.array len e)\/∃q,P.underlying t=Z (.pointer q)/\P.underlying q=Z (.array len e)) (hn:bH P e=Z n)
  (r:WR E.aY base S f s.h w) (h1:gM lo=Z lo') (h2:gM hi=Z hi') (hrun:aL E call s (.nu n len x' lo' hi')=Z (v,s')):
  s'=s/\∃z,(Instr.sliceAt t (a.eval x) (lo.map a.eval) (hi.map a.eval) Y).run P w=.ok z w/\Rel S f v z:=by
 have key:∀(b off:Nat) (lo2 hi2:Option Nat) (l hh m:Nat),a.eval x=.pointer (Z ⟨b,off,Y⟩)->OptI (lo.map a.eval) lo2->OptI (hi.map a.eval) hi2->sliceB len len lo2 hi2 Y=Z (l,hh,m)->
   (Instr.sliceAt t (a.eval x) (lo.map a.eval) (hi.map a.eval) Y).run P w=.ok (.slice (Z (if m=l then⟨b,off,Y⟩ else⟨b,off+l*n,Y⟩)) (hh-l) (m-l)) w:=by
  intro b off lo2 hi2 l hh m hX o1 o2 hb;obtain⟨q1,q2,q3,q4,q5,q6,q7⟩:=sT hb;have hs:=ud (P:=P) (w:=w) (isSlice:=U) (len:=len) (cap:=len) (mx:=Y) (mx':=Y) o1 o2 trivial Sp Gr om (.inl rfl);rw[hX];rcases hu with hu|⟨q,hu,hq⟩<;>simp_all [Instr.sliceAt,run_underlying,Instr.sureAddr,rW,add_zero,Instr.slice,asAddr]
 simp[aL] at hrun;split at hrun
 ·rename_i b off lo2 hi2 ex e1 e2;cases hb0:s.h.get b with
  |none=>grind
  |some k0=>
   cases k0 with
   |cells cs rw'=>
    simp[hb0] at hrun;have hq:=lO hrun;clear hrun;obtain⟨hlen,hrun⟩:=hq;have hlen:=j6 hlen;split at hrun
    ·rename_i l hh m hb;simp at hrun;obtain⟨rfl,rfl⟩:=hrun;obtain⟨q1,q2,q3,q4,q5,q6,q7⟩:=sT hb;have rr:=be ht hx ex;rw[Rel] at rr;obtain⟨B,O,R,hf,hX⟩:=rr;have hcs:cs.length<=R:=by
      obtain⟨B0,O0,R0,hf0,_,_,hr⟩:=r.blk b _ hb0;exact U79
     refine⟨rfl,_,key B (O+off) lo2 hi2 l hh m hX (uF ht h1 e1) (uF ht h2 e2) hb,?_⟩;rw[Rel];refine⟨B,O,R,m-l,hf,.inl ?_,om,λk hk=>by grind,?_,λh=>by cases h⟩
     ·by_cases hml:m=l
      ·simp_all
      grind [iu]
     ·cases hbe:ig m l with
      |true=>
       have:=iu hbe;grind
      |false=>
       simp;have h1:=w5 (es:=n) (R:=R) (off:=off) (l:=l) (c:=len) om om
       grind
    grind
   |_=>simp[hb0] at hrun
 ·rename_i cs lo2 hi2 ex e1 e2;split at hrun
  ·rename_i l hh m hb;simp at hrun;obtain⟨rfl,rfl⟩:=hrun;obtain⟨q1,q2,q3,q4,q5,q6,q7⟩:=sT hb;have rr:=be ht hx ex;simp[Rel] at rr;obtain⟨b,off,hX,hr⟩:=rr;refine⟨rfl,_,key b off lo2 hi2 l hh m hX (uF ht h1 e1) (uF ht h2 e2) hb,?_⟩;rw[Rel]
   by_cases hml:m=l
   ·simp_all [cD]
   ·exact⟨b,off+l*n,m-l,Gr,om,λk hk=>by grind,(hr.drop _).take _⟩
  grind
 grind
theorem xy:∀{cs:List AV} {l:List UInt8} {xs:List Value},iQ cs=Z l->aZ S f cs xs->∃ns:List Int,xs=ns.map (Value.int .u8)/\l=ns.map λn=>UInt8.ofNat n.toNat
 | [],l,xs,h,r=>by
  simp[iQ] at h;subst h;simp[aZ] at r;simp_all
 |c::cs,l,xs,h,r=>by
  simp[aZ] at r;obtain⟨y,ys,rfl,r1,r2⟩:=r;unfold iQ at h;split at h
  ·grind
  ·rename_i n rest hc;simp at hc;obtain⟨rfl,rfl⟩:=hc;simp at h;obtain⟨l',hl,rfl⟩:=h;obtain⟨ns,e1,e2⟩:=xy hl r2;simp[Rel] at r1;exact⟨n::ns,Gr,Gr⟩
  ·cases h
structure iN (P:Program) (S:bE) (f:Emb) (w:World) (X:Value) (es n:Nat) (cs:List AV):Prop where
 len:(Builtin.lenOf X).run P w=.ok n w
 size:cs.length=n*es
 cells:∀m,m<=n->∃arr:Array Value,(Builtin.firstCells es m X).run P w=.ok arr w/\aZ S f (cs.take (m*es)) arr.toList/\arr.toList.all (·.oneCell')=J/\arr.size=m*es
theorem Qp{b off:Nat}{cs:List AV}(hc:∀(i:Nat) (c:AV),cs[i]? =Z c->∃y,w.cell? ⟨b,off+i,Y⟩=Z y/\y.oneCell'=J/\Rel S f c y):
  ∃arr:Array Value,(loadCells ⟨b,off,Y⟩ cs.length).run P w=.ok arr w/\aZ S f cs arr.toList/\arr.toList.all (·.oneCell')=J/\arr.size=cs.length:=by
 have hca:oi S f w (.pointer (Z ⟨b,off,Y⟩)) cs b off:=⟨rfl,hc⟩;have:=Nk (P:=P) hca (n:=Z cs.length) (v:=.agg cs) (by simp[takeN,Aj])
 obtain⟨ys,hy,hr⟩:=this;rw[Rel] at hr;obtain⟨xs,e,ho,hr⟩:=hr;simp at e;subst e;exact⟨_,hy,Gr,Gr,by simpa using hr.length.symm⟩
theorem se(r:WR G base S f h w){x:AV}{X:Value}{es n:Nat}{cs:List AV}(hr:Rel S f x X)(he:au h es x=Z (cs,n)):iN P S f w X es n cs:=by
 unfold au at he;split at he
 ·rename_i aa cc;rw[sI,pI] at he;obtain⟨rfl,rfl⟩:=he;simp[Rel] at hr;rw[hr.1];refine⟨by rfl,Sp,λm hm=>?_⟩
  have:m=0:=om;subst this;cases aa with
  |none=>simp[Builtin.firstCells,aZ]
  |some aa=>
   have hc:(loadCells aa 0).run P w=.ok #[] w:=rfl
   grind [Builtin.firstCells,aZ]
 ·rename_i b;obtain⟨hes,he⟩:=gr he;have hes:=iu hes;subst hes;obtain⟨rfl,rfl⟩:=he;simp[Rel] at hr;rw[hr.1];refine⟨by rfl,Sp,λm hm=>?_⟩
  have hext:(b.extract 0 m).data.toList=b.data.toList.take m:=Sp;have hmap:((b.extract 0 m).data.map λc=>Value.int .u8 c.toNat).toList=(b.data.toList.take m).map λc=>Value.int .u8 c.toNat:=by
   simp
  refine⟨(b.extract 0 m).data.map λc=>.int .u8 c.toNat,by rfl,?_,?_,?_⟩
  ·rw[hmap,Nat.mul_one,<-List.map_take];have:(b.data.toList.take m).map (λc=>AV.val (.int .u8 c.toNat))=((b.data.toList.take m).map λc=>Value.int .u8 c.toNat).map .val:=by rw[List.map_map];rfl
   rw[this];exact aZ.li _ (by rw[List.all_map];exact j3.2 λ_ _=>rfl)
  ·rw[hmap,List.all_map];exact j3.2 λ_ _=>rfl
  simp_all
 ·rename_i cs0 n0 cap;obtain⟨hk,he⟩:=gr he;have hk:=j6 hk;simp at he;obtain⟨rfl,rfl⟩:=he;simp[Rel] at hr;obtain⟨b,off,c,rfl,_,_,hr⟩:=hr;refine⟨by rfl,Gr,λm hm=>?_⟩
  have hmm:m*es<=n0*es:=jy _ hm;obtain⟨arr,h1,h2,h3,h4⟩:=Qp (P:=P) (S:=S) (f:=f) (w:=w) (b:=b) (off:=off) (cs:=cs0.take (m*es)) (λi c hc=>by
   have hc':cs0[i]? =Z c:=by
    grind
   obtain⟨y,hy,ho,hrel⟩:=hr.get hc';exact⟨y,r.gw _ _ _ hy,ho,hrel.any⟩)
  grind [Builtin.firstCells]
 ·rename_i b off n0 es' cap;have hq:=lO he;clear he;obtain⟨hes,he⟩:=hq;have hes:=iu hes;subst hes;split at he
  ·rename_i cs0 rw' hb;obtain⟨hk,he⟩:=gr he;have hk:=j6 hk;simp at he;obtain⟨rfl,rfl⟩:=he;rw[Rel] at hr;obtain⟨B,O,R,c,hf,hX,_,_,_⟩:=hr;rcases hX with rfl|⟨rfl,rfl,q,_,rfl⟩
   rotate_left
   ·refine⟨by rfl,Sp,λm hm=>?_⟩
    have:m=0:=om;subst this;have hc:(loadCells ⟨B,O+q,Y⟩ 0).run P w=.ok #[] w:=rfl;refine⟨#[],by grind [Builtin.firstCells],by simp[aZ],rfl,Sp⟩
   obtain⟨B0,O0,R0,hf0,_,_,hbr⟩:=r.blk b _ hb;rw[hf] at hf0;simp at hf0;obtain⟨rfl,rfl,rfl⟩:=hf0;simp[bR] at hbr;refine⟨by rfl,Gr,λm hm=>?_⟩
   have hmm:m*es<=n0*es:=jy _ hm;obtain⟨arr,h1,h2,h3,h4⟩:=Qp (P:=P) (S:=S) (f:=f) (w:=w) (b:=B) (off:=O+off) (cs:=(cs0.drop off).take (m*es)) (λi c hc=>by
    grind)
   grind [Builtin.firstCells]
  grind
 grind
theorem Ia:∀(ns:List Int) (acc:ByteArray),ns.foldl (λr n=>r.push (UInt8.ofNat n.toNat)) acc=⟨(acc.data.toList++ns.map λn=>UInt8.ofNat n.toNat).toArray⟩
 | [],acc=>Sp
 |n::ns,acc=>by
  rw[List.foldl_cons,Ia ns,List.map_cons];simp
theorem Xo{u:AV}{X:Value}{es n:Nat}{cs:List AV}(hr:Rel S f u X)(he:au h es u=Z (cs,n))(hu:∀x,u≠ .val x):∃A m c,X=.slice (Z A) m c:=by
 unfold au at he;split at he
 ·grind
 ·grind
 ·simp[Rel] at hr;grind
 ·rw[Rel] at hr;obtain⟨B,O,R,c,_,hX,_⟩:=hr;rcases hX with rfl|⟨_,_,q,_,rfl⟩<;>grind
 grind
theorem Mb{src dst e:TypeId}{x:Operand}{y:Opd}(ht:TmR S f s.tm a.tmps N)(r:WR E.aY base S f s.h w)(hc:bA x=Z y)(h1:P.underlying src=Z (.slice e))(h2:P.underlying dst=Z .string)
  (h3:P.underlying e=Z (.int .u8)) (hrun:aL E call s (.bP y)=Z (v,s')):s'=s/\∃z,(convert src dst (a.eval x)).run P w=.ok z w/\Rel S f v z:=by
 have key:∀(A:Option Addr) (n c:Nat) (z:Value),a.eval x=.slice A n c->(Conv.bytesToString (.slice A n c)).run P w=.ok z w->(convert src dst (a.eval x)).run P w=.ok z w:=by
  simp_all [convert,run_underlying]
 simp[aL] at hrun;split at hrun
 ·rename_i hx;simp at hrun;obtain⟨rfl,rfl⟩:=hrun;have hr:=be ht hc hx;simp[Rel] at hr;exact⟨rfl,.string ⟨#[]⟩,key _ _ _ _ hr.1 rfl,by simp[Rel,Value.oneCell']⟩
 ·grind
 ·rename_i u hnil hval hx;split at hrun
  ·rename_i cs n hel;simp[j7] at hrun;obtain⟨b,hb,rfl,rfl⟩:=hrun;have hr:=be ht hc hx;have el:=se (P:=P) r hr hel;obtain⟨A,m,c,hX⟩:=Xo hr hel hval;have hlen:=el.len;rw[hX] at hlen;simp[Builtin.lenOf] at hlen;subst hlen;obtain⟨arr,g1,g2,g3,g4⟩:=el.cells m (ij _);rw[A5 (by rw[el.size];grind)] at g2
   unfold bytesOf at hb;simp at hb;obtain⟨l,hl,rfl⟩:=hb;obtain⟨ns,e1,e2⟩:=xy hl g2;have harr:arr=(ns.map (Value.int .u8)).toArray:=by rw[<-e1]
   rw[hX] at g1;simp[Builtin.firstCells] at g1;rw[harr] at g1;refine⟨rfl,.string ⟨l.toArray⟩,key _ _ _ _ hX ?_,by simp[Rel,Value.oneCell']⟩
   rw[run_bytesToString w A m c ns g1,Ia,e2];rfl
  grind
 grind
theorem Oj(n:Nat):∀(k c:Nat),c<n->Builtin.growBy n k c<=2*n+192
 |0,c,h=>by grind [Builtin.growBy]
 |k+1,c,h=>by
  unfold Builtin.growBy;rw[if_neg om]
  by_cases h2:c+(c+768)/4<n
  ·exact Oj n k _ h2
  ·have:∀k d,n<=d->d<=2*n+192->Builtin.growBy n k d<=2*n+192:=by
    intro k;cases k<;>simp_all [Builtin.growBy]
   grind
theorem aEB{n c:Nat}(h:c<n):Builtin.nextslicecap n c<=2*n+192:=by
 grind [Builtin.nextslicecap,Oj]
end ops
end Go.AM
namespace Go.AM
open Go.RowKit
variable {G:Nat->Option (List AV)}{base:Nat}{S:bE}{f:Emb}{h:AH}{w:World}{P:Program}{E:Env}{s:St}{a:Act}{N:Nat}
section ops
variable {call:Cle->List AV->AH->Option (AV×AH)}{o:Oper}{v:AV}{s':St}
structure AppT (P:Program) (ts:Array TypeId) (elem es bytes:Nat):Prop where
 ty:∃t,ts[0]? =Z t/\P.underlying t=Z (.slice elem)
 zs:∀t,ts[1]? =Z t->∃d,P.underlying t=Z d/\∀k,d≠ .int k
 size:bH P elem=Z es
 bytes:(P.info? elem).map (·.bytes)=Z bytes
 zero:∃z,cF P elem=Z z/\z.length=es
theorem ua{ts:Array TypeId}{elem es bytes:Nat}{ty:TypeId}{A:Option Addr}{sLen sCap n:Nat}{X:Value}{cs:List AV}(hT:AppT P ts elem es bytes)(hx:iN P S f w X es n cs)(hk:sLen+n<=sCap):
  ∃arr:Array Value,aZ S f cs arr.toList/\arr.toList.all (·.oneCell')=J/\arr.size=n*es/\
  ∀w',(match A with|some p=>storeCells (p.add (sLen*es)) arr.toList|none=>pure ()).run P w=.ok () w'->
   (Builtin.append_ ts ty #[.slice A sLen sCap,X]).run P w=.ok (.slice A (sLen+n) sCap) w':=by
 obtain⟨arr,g1,g2,g3,g4⟩:=hx.cells n (ij _);rw[A5 (by rw[hx.size];grind)] at g2
 refine⟨arr,g2,g3,g4,λw' hw=>?_⟩;obtain⟨t,ht0,hu⟩:=hT.ty;have e0:=U160;have e1:=U161;unfold Builtin.append_;simp only[Sem.run_bind,run_underlying hu,Result.andThen_ok,rW hT.size, *];cases h1:ts[1]? with
 |none=>
  simp only[Sem.run_bind,Sem.run_pure,Result.andThen_ok,A6,if_false,hx.len,Bool.not_false,if_true,if_pos hk,g1];cases A<;>simp_all
 |some t1=>
  obtain⟨d,hd,hnd⟩:=hT.zs t1 h1;have hz0:(match d with|.int _=>J|_=>U)=U:=Sp;simp only[Sem.run_bind,run_underlying hd,Sem.run_pure,Result.andThen_ok,A6,if_false,hx.len,Bool.not_false,if_true,if_pos hk,g1];cases A<;>simp_all
theorem Et{ts:Array TypeId}{elem es bytes:Nat}{ty:TypeId}{A:Option Addr}{sLen sCap n:Nat}{X:Value}{cs ds:List AV}(hT:AppT P ts elem es bytes)
  (hs:iN P S f w (.slice A sLen sCap) es sLen ds) (hx:iN P S f w X es n cs) (hs':iN P S f w.drew (.slice A sLen sCap) es sLen ds) (hx':iN P S f w.drew X es n cs)
  (hk:¬sLen+n<=sCap) (hb:(sLen+n)*bytes<=2^40) (hm:sLen+n<=2^60):
  ∃(arr:Array Value) (c:Nat),aZ S f (ds++cs) (arr.toList.take (ds++cs).length)/\arr.toList.all (·.oneCell')=J/\arr.size=c*es/\sLen+n<=c/\
   (Builtin.append_ ts ty #[.slice A sLen sCap,X]).run P w=.ok (.slice (Z ⟨w.heap.size,0,Y⟩) (sLen+n) c) (w.drew.alloc (.cells arr elem)):=by
 obtain⟨arr,g1,g2,g3,g4⟩:=hx'.cells n (ij _);rw[A5 (by rw[hx'.size];grind)] at g2
 obtain⟨arr0,k1,k2,k3,k4⟩:=hs'.cells sLen (ij _);rw[A5 (by rw[hs'.size];grind)] at k2
 obtain⟨t,ht0,hu⟩:=hT.ty;obtain⟨z,hz,hzl⟩:=hT.zero;obtain⟨zv,hzr,hzo,rfl⟩:=uJ hz;have hzn:zv.cells.size=es:=Gr
 let c:=(Question.appendCap (sLen+n) sCap elem).cut (w.tape w.drawn (.appendCap (sLen+n) sCap elem))
 have hc:sLen+n<=c:=by grind [Question.cut]
 obtain⟨z1,z2⟩:=xR (S:=S) (f:=f) hzo (c-(sLen+n)) es hzn;have hzc:Builtin.zeroCells zv.cells (c-(sLen+n))=(Ad ((c-(sLen+n))*es)).map (zv.cells[· %zv.cells.size]!):=by
  grind [Builtin.zeroCells]
 have hds:=hs'.size;have hcs:=hx'.size;refine⟨arr0++arr++Builtin.zeroCells zv.cells (c-(sLen+n)),c,?_,?_,?_,hc,?_⟩
 ·simp only[Array.toList_append];rw[List.take_append_of_le_length Gr];rw[A5 Gr];exact k2.append g2
 ·grind
 ·rw[hzc];simp only[Array.size_append,Array.size_map,Array.size_range, *];rw[<-Aa,<-Aa];grind
 ·cases hi:P.info? elem with
  |none=>have:=hT.bytes;grind
  |some i=>
   have hib:i.bytes=bytes:=by have:=hT.bytes;grind
   have hti:∀w,(typeInfo elem).run P w=.ok i w:=by simp_all [typeInfo]
   have e0:=U160;have e1:=U161;have hnc:=aEB (n:=sLen+n) (c:=sCap) om;have hbig:¬(Builtin.nextslicecap (sLen+n) sCap*bytes>2^48):=by
    have h1:Builtin.nextslicecap (sLen+n) sCap*bytes<=(2*(sLen+n)+192)*bytes:=jy _ hnc;have h2:bytes<=2^40:=by
     have:1*bytes<=(sLen+n)*bytes:=jy _ om;omega
    grind
   have hmax:(IntKind.i64.max:Int)=9223372036854775807:=de;have hch:(choose (.appendCap (sLen+n) sCap elem)).run P w=.ok c w.drew:=by
    rfl
   unfold Builtin.append_;simp only[ht0,e0,e1,Sem.run_bind,run_underlying hu,Result.andThen_ok,rW hT.size];cases h1:ts[1]? with
   |none=>
    simp only[Sem.run_bind,Sem.run_pure,Result.andThen_ok,A6,if_false,hx.len,Bool.not_false,if_true,if_neg hk,hti,hib];exact U80
   |some t1=>
    obtain⟨d,hd,hnd⟩:=hT.zs t1 h1;have hz0:(match d with|.int _=>J|_=>U)=U:=Sp;simp only[Sem.run_bind,run_underlying hd,Sem.run_pure,Result.andThen_ok,A6,if_false,hx.len,Bool.not_false,if_true,if_neg hk,hti,hib];exact U80
theorem WR.kI(r:WR G base S f h w):dp G base S f h w S f h w.drew:=⟨.refl _ _,r.drew,(Below.refl _ _).drew,λ_ _ _ _ _=>⟨lx rfl,λ_ _=>rfl⟩,sc,λ_ _ h _=>h,ij _⟩
theorem WR.rebase(r:WR G base S f h w){b:Nat}{cs:List AV}{B O R off:Nat}(hb:h.get b=Z (.cells cs J))(hf:f b=Z (B,O,R))(ho:off<=cs.length):
  dp G base S f h w S (upd f h.next (B,O+off,R-off)) ((h.put b Y).alloc (.cells (cs.drop off) J)) w:=by
 obtain⟨B0,O0,R0,hf0,hB,hsz,hr⟩:=r.blk b _ hb;rw[hf] at hf0;simp at hf0;obtain⟨rfl,rfl,rfl⟩:=hf0;have hle:Le S f S (upd f h.next (B,O+off,R-off)):=Le.upd _ r.fresh;have hbn:b<h.next:=r.dom _ _ hf;have hr0:=hr;simp only[bR] at hr;obtain⟨h1,h2,h3,h4,h5⟩:=hr;refine⟨hle,⟨r.gw,λg cs hg=>(r.jV g cs hg).le hle _ _ _,?_,?_,?_,r.le⟩,.refl _ _,λ_ _ _ _ _=>⟨lx rfl,λ_ _=>rfl⟩,?_,λb x hf hlt=>by grind [s8],Sp⟩
 ·intro b' k hk;rw[AH.aS] at hk;split at hk
  ·rename_i e;simp at e;subst e;simp at hk;subst hk;refine⟨B,O+off,R-off,pk _ _ _,hB,hsz,?_⟩;simp only[bR];refine⟨Gr,λi c hc=>?_,λi hi=>by rw[jq];exact h3 _ om,λ_ i hi=>?_,λ_ h0=>h5 trivial om⟩
   ·rw[List.getElem?_drop] at hc;obtain⟨y,hy,hoy,hrel⟩:=h2 _ c hc;exact⟨y,Gr,hoy,hrel.le hle _ _⟩
   ·have:=h4 trivial (off+i) om
    grind
  ·rename_i e;simp at e;rw[AH.aO] at hk;split at hk
   ·cases hk
   ·obtain⟨B',O',R',hf',hB',hs',hr'⟩:=r.blk b' k hk;exact U162
 ·intro b1 b2 B1 O1 R1 B2 O2 R2 hne g1 g2 hf1 hf2;rw[AH.aS,AH.iK,AH.aO] at g1 g2
  by_cases e1:b1=h.next
  ·subst e1;rw[pk] at hf1;simp at hf1;obtain⟨rfl,rfl,rfl⟩:=hf1;have e2:b2≠h.next:=Gr;rw[if_neg e2] at g2;split at g2
   ·cases g2
   ·rename_i e3;rw[s8 e2] at hf2;have:=r.apart b b2 B O R B2 O2 R2 (λe=>e3 e.symm) Gr g2 hf hf2;omega
  ·rw[if_neg e1] at g1;split at g1
   ·cases g1
   ·rename_i e3;rw[s8 e1] at hf1
    by_cases e2:b2=h.next
    ·subst e2;rw[pk] at hf2;simp at hf2;obtain⟨rfl,rfl,rfl⟩:=hf2;have:=r.apart b1 b B1 O1 R1 B O R e3 g1 Gr hf1 hf;omega
    ·rw[if_neg e2] at g2;split at g2
     ·cases g2
     ·rw[s8 e2] at hf2;exact U163
 ·intro b' x hx
  by_cases e:b'=h.next
  ·simp_all
  ·rw[s8 e] at hx;have:=r.dom _ _ hx;simp;omega
 ·intro b' B' O' R' hg hf';rw[AH.aS,AH.iK,AH.aO] at hg;exact U81
theorem vp(r:WR E.aY base S f s.h w){ts:Array TypeId}{elem es bytes:Nat}{ty:TypeId}{x y:AV}{sLen sCap n:Nat}{A:Option Addr}{aB:Value}{cs ds:List AV}(hT:AppT P ts elem es bytes)
  (hx:Rel S f x (.slice A sLen sCap)) (hy:Rel S f y aB) (ex:au s.h es x=Z (ds,sLen)) (ey:au s.h es y=Z (cs,n)) (hk:¬sLen+n<=sCap) (ho:cW (sLen+n) bytes=J):
  ∃z w',(Builtin.append_ ts ty #[.slice A sLen sCap,aB]).run P w=.ok z w'/\Left E base S f s.h w (.own s.h.next 0 (sLen+n) es Y) (s.h.alloc (.cells (ds++cs) J)) z w':=by
 unfold cW at ho;rw[im] at ho;have o1:=j6 ho.1;have o2:=j6 ho.2;unfold cR at o1 o2;have a1:=se (P:=P) r hx ex;have a2:=se (P:=P) r hy ey;have b1:=se (P:=P) r.drew hx ex;have b2:=se (P:=P) r.drew hy ey;obtain⟨arr,c,g1,g2,g3,g4,g5⟩:=Et (ty:=ty) hT a1 a2 b1 b2 hk o1 om;refine⟨_,_,g5,_,_,r.kI.trans (r.drew.fL elem g1 g2),?_⟩;simp only[Rel];exact⟨_,_,_,c,pk _ _ _,.inl rfl,g4,Sp,om⟩
end ops
end Go.AM
namespace Go.AM
open Go.RowKit
variable {G:Nat->Option (List AV)}{base:Nat}{S:bE}{f:Emb}{h:AH}{w:World}{P:Program}{E:Env}{s:St}{a:Act}{N:Nat}
theorem WR.congr {h h' : AH} (r : WR G base S f h w) (hn : h'.next = h.next) (hg : ∀ j, h'.get j = h.get j) : WR G base S f h' w :=
  ⟨r.gw, r.jV, λb k hb => r.blk b k Gr, λb b' B O R B' O' R' hne h1 h2 => r.apart b b' B O R B' O' R' hne Gr Gr,
   λb x hx => by rw [hn]; exact r.dom b x hx, r.le⟩
theorem dp.congr{S':bE}{f':Emb}{h' h'':AH}{w':World}(g:dp G base S f h w S' f' h' w')(hn:h''.next=h'.next)(hg:∀j,h''.get j=h'.get j):dp G base S f h w S' f' h'' w':=
 ⟨g.le,g.wr.congr hn hg,g.below,g.keep,λb B O R hb hf=>g.live b B O R Gr hf,g.fresh,by rw[hn];exact g.nx⟩
theorem dp.kill{S':bE}{f':Emb}{h':AH}{w':World}(g:dp G base S f h w S' f' h' w')(b:Nat):dp G base S f h w S' f' (h'.put b Y) w':=
 ⟨g.le,g.wr.kill b,g.below,g.keep,λb' B O R hb hf=>g.live b' B O R (by
  grind [AH.aO]) hf,g.fresh,g.nx⟩
section ops
variable {call:Cle->List AV->AH->Option (AV×AH)}{o:Oper}{v:AV}{s':St}
theorem xQ(r:WR E.aY base S f s.h w){ts:Array TypeId}{elem es bytes:Nat}{ty:TypeId}{y:AV}{sLen sCap n:Nat}{b off:Nat}{A:Option Addr}{aB:Value}{cs:List AV}(hT:AppT P ts elem es bytes)
  (hA:A=Y\/A=Z ⟨b,off,Y⟩) (hy:Rel S f y aB) (ey:au s.h es y=Z (cs,n)) (hn:n=0) (hk:sLen<=sCap):
  (Builtin.append_ ts ty #[.slice A sLen sCap,aB]).run P w=.ok (.slice A sLen sCap) w:=by
 subst hn;have a2:=se (P:=P) r hy ey;obtain⟨arr,_,_,hz,hrun⟩:=ua (ty:=ty) (A:=A) (sLen:=sLen) (sCap:=sCap) hT a2 om;have hnil:arr.toList=[]:=by
  grind
 have:=hrun w (by
  rw[hnil];rcases hA with rfl|rfl<;>rfl)
 grind
theorem Nz{ts:Array TypeId}{elem es bytes:Nat}{ty:TypeId}{x y:Operand}{x' y':Opd}(ht:TmR S f s.tm a.tmps N)(r:WR E.aY base S f s.h w)(hT:AppT P ts elem es bytes)
  (hx:bA x=Z x') (hy:bA y=Z y') (hrun:aL E call s (.append es bytes x' y')=Z (v,s')):
  s'.tm=s.tm/\s'.defers=s.defers/\∃z w',(Builtin.append_ ts ty #[a.eval x,a.eval y]).run P w=.ok z w'/\Left E base S f s.h w v s'.h z w':=by
 simp only[aL,bN] at hrun;cases ex:s.eval x' with
 |none=>grind
 |some u=>
 cases ey:s.eval y' with
 |none=>grind
 |some u2=>
 simp only[ex,ey] at hrun;have rx:=be ht hx ex;have ry:=be ht hy ey;generalize a.eval x=X at rx⊢
 generalize a.eval y=aB at ry⊢
 cases el:au s.h es u2 with
 |none=>grind
 |some p=>
 obtain⟨new,n⟩:=p;simp only[el] at hrun;have a2:=se (P:=P) r ry el;split at hrun
 ·
  have rx':=rx;simp only[Rel] at rx';obtain⟨rfl,_⟩:=rx';cases hn:ig n 0 with
  |true=>
   simp only[hn,cond_true,sI,pI] at hrun;have hn:=iu hn;obtain⟨rfl,rfl⟩:=hrun;exact⟨rfl,rfl,_,w,xQ r (b:=0) (off:=0) hT (.inl rfl) ry el hn (ij _),s6 r rx⟩
  |false=>
   have hn':=jz hn;simp only[hn,cond_false] at hrun;obtain⟨ho,hrun⟩:=gr hrun;simp only[pI] at hrun;obtain⟨rfl,rfl⟩:=hrun;obtain⟨z,w',g1,g2⟩:=vp (ty:=ty) r hT rx ry (ds:=[]) rf el om Gr
   grind
 ·
  rename_i cs k c;have rx':=rx;simp only[Rel] at rx';obtain⟨b,off,c',rfl,hle,hcap,hr⟩:=rx';have:=hcap c rfl;subst this;cases hn:ig n 0 with
  |true=>
   simp only[hn,cond_true,sI,pI] at hrun;have hn:=iu hn;exact U82
  |false=>
   simp only[hn,cond_false] at hrun;obtain⟨ho,hrun⟩:=gr hrun;simp only[pI] at hrun;obtain⟨rfl,rfl⟩:=hrun;simp only[im,Nat.blt_eq] at ho;have hk:=j6 ho.2;obtain⟨z,w',g1,g2⟩:=vp (ty:=ty) r hT rx ry (ds:=cs.take (k*es)) (by grind [au]) el om ho.1.2
   grind
 ·
  rename_i cs k;have rx':=rx;simp only[Rel] at rx';obtain⟨b,off,c',rfl,hle,hcap,hr⟩:=rx';obtain⟨hn,hrun⟩:=gr hrun;have hn:=iu hn;simp only[pI] at hrun;exact U82
 ·
  rename_i b off k es' cap;have rx':=rx;simp only[Rel] at rx';obtain⟨B,O,R,c,hf,hX,hle,hcap,hR⟩:=rx';cases hn:ig n 0 with
  |true=>
   simp only[hn,cond_true,sI,pI] at hrun;have hn:=iu hn;obtain⟨rfl,rfl⟩:=hrun;rcases hX with rfl|⟨rfl,rfl,q0,_,rfl⟩
   ·exact U164
   ·exact U164
  |false=>
   simp only[hn,cond_false] at hrun;split at hrun
   ·rename_i cs rw' hb;have hq:=lO hrun;clear hrun;obtain⟨ho,hrun⟩:=hq;simp only[im] at ho;have hes:=iu ho.1.1;subst hes;have hk:=j6 ho.1.2;have hcs:cs.length<=R:=by
     exact U83
    have helx:au s.h es (.own b off k es cap)=Z ((cs.drop off).take (k*es),k):=by
     grind [au]
    obtain⟨arr,g1,g2,g3,g4⟩:=a2.cells n (ij _);have hn0:n≠0:=λe=>Sa;rcases hX with rfl|⟨rfl,rfl,q0,_,rfl⟩
    rotate_left
    ·
     have hfit:¬0+n<=0:=om;have hfitb:ii (0+n) 0=U:=by
      cases hq:ii (0+n) 0<;>simp_all
     obtain⟨z,w',q1,q2⟩:=vp (ty:=ty) r hT rx ry helx el hfit ho.2;cases cap with
     |some c0=>
      grind
     |none=>
      have hroom:=hR.2 rfl;have hno:(Nat.blt (off+0*es) cs.length&&ii (off+(0+n)*es) cs.length)=U:=by
       cases hq:(Nat.blt (off+0*es) cs.length&&ii (off+(0+n)*es) cs.length) with
       |false=>rfl
       |true=>
        rw[im] at hq;have q1:off+0*es<cs.length:=Sa;omega
      simp only[hno,cond_false] at hrun;have hq:=gr hrun;clear hrun;obtain⟨hw,hrun⟩:=hq;simp only[im] at hw;obtain⟨hw1,hw2⟩:=hw;subst hw1;have hend:=iu hw2;simp only[pI] at hrun;obtain⟨rfl,rfl⟩:=hrun;refine⟨rfl,rfl,z,w',q1,?_⟩;obtain⟨S',f',gg,hr⟩:=q2;refine⟨S',f',?_,hr⟩;have gg:=gg.kill b;have hd:(cs.drop off).take (0*es)=cs.drop off:=Gr;exact U84
    cases cap with
    |some c0=>
     have:=hcap c0 rfl;subst this;dsimp only at hrun;cases hfit:ii (k+n) c with
     |true=>
      have hfit':=j6 hfit;simp only[hfit,cond_true] at hrun;have hq:=gr hrun;clear hrun;obtain⟨hw,hrun⟩:=hq;simp only[im] at hw;obtain⟨hw1,hw2⟩:=hw;subst hw1;have hw2:=j6 hw2;simp only[pI] at hrun;obtain⟨rfl,rfl⟩:=hrun;obtain⟨arr,q1,q2,q3,q4⟩:=ua (ty:=ty) (A:=Z ⟨B,O+off,Y⟩) (sLen:=k) (sCap:=c) hT a2 hfit';have hsz:=q1.length;simp only[B7] at hsz;have hmul:=U165;have hst:=r.run_store (P:=P) (off:=off+k*es) hb hf q2 Gr;rw[<-jq] at hst;have g:=r.putCells (off:=off+k*es) hb hf q1 q2 om;refine⟨rfl,rfl,_,_,q4 _ (by simp only[add_zero];exact hst),S,f,?_,?_⟩
      ·grind
      ·simp only[Rel];exact⟨B,O,R,c,hf,.inl rfl,hfit',Sp,hR⟩
     |false=>
      have hfit':¬k+n<=c:=by grind [Aj]
      simp only[hfit,cond_false,sI,pI] at hrun;obtain⟨rfl,rfl⟩:=hrun;obtain⟨z,w',q1,q2⟩:=vp (ty:=ty) r hT rx ry helx el hfit' ho.2
      grind
    |none=>
     have hroom:=hR.2 rfl;dsimp only at hrun;cases hin:(Nat.blt (off+k*es) cs.length&&ii (off+(k+n)*es) cs.length) with
     |true=>
      simp only[hin,cond_true] at hrun;have hq:=gr hrun;clear hrun;obtain⟨hw1,hrun⟩:=hq;subst hw1;rw[im] at hin;have hw1:off+k*es<cs.length:=Sa;have hw2:=j6 hin.2;simp only[pI] at hrun;obtain⟨rfl,rfl⟩:=hrun;have hfit':k+n<=c:=by
       have h1:(k+n)*es<=c*es:=om;have h2:0<es:=by
        grind
       exact Nat.le_of_mul_le_mul_right h1 h2
      obtain⟨arr,q1,q2,q3,q4⟩:=ua (ty:=ty) (A:=Z ⟨B,O+off,Y⟩) (sLen:=k) (sCap:=c) hT a2 hfit';have hsz:=q1.length;simp only[B7] at hsz;have hmul:=U165;have hst:=r.run_store (P:=P) (off:=off+k*es) hb hf q2 Gr;rw[<-jq] at hst;have g:=r.putCells (off:=off+k*es) hb hf q1 q2 om;refine⟨rfl,rfl,_,_,q4 _ (by simp only[add_zero];exact hst),S,f,?_,?_⟩
      ·grind
      ·simp only[Rel];exact⟨B,O,R,c,hf,.inl rfl,hfit',Sp,hR.1,λ_=>hR.2 rfl⟩
     |false=>
     simp only[hin,cond_false] at hrun;have hq:=gr hrun;clear hrun;obtain⟨hw,hrun⟩:=hq;simp only[im] at hw;obtain⟨hw1,hw2⟩:=hw;subst hw1;have hend:=iu hw2;simp only[pI] at hrun;obtain⟨rfl,rfl⟩:=hrun
     by_cases hfit:k+n<=c
     ·
      obtain⟨arr,q1,q2,q3,q4⟩:=ua (ty:=ty) (A:=Z ⟨B,O+off,Y⟩) (sLen:=k) (sCap:=c) hT a2 hfit;have hsz:=q1.length;simp only[B7] at hsz;have hmul:=U165;have hcm:(k+n)*es<=c*es:=jy _ hfit;have hst:=r.run_store (P:=P) (off:=off+k*es) hb hf q2 Gr;rw[<-jq] at hst;have g:=r.setCells (cs':=cs++new) (off:=off+k*es) hb hf arr.toList Gr Gr
       (λi c0 hc0 hi=>by
        grind)
       (λi c0 hc0 hi=>by
        rw[Bi om,show off+k*es+i-cs.length=i by omega] at hc0
        obtain⟨y0,hy0,hrel⟩:=q1.get hc0
        grind)
      have g':=g.wr.rebase (b:=b) (cs:=cs++new) (off:=off) (by rw[AH.aO,if_pos rfl]) hf Gr
      refine⟨rfl,rfl,_,_,q4 _ (by simp only[add_zero];exact hst),S,upd f s.h.next (B,O+off,R-off),?_,?_⟩
      ·have gg:=g.trans g';rw[<-jq] at gg;have hd:(cs++new).drop off=cs.drop off++new:=Gr;rw[hd] at gg;refine gg.congr rfl λj=>?_
       grind [AH.aS,AH.aO,AH.iK]
      ·simp only[Rel];exact⟨B,O+off,R-off,c,pk _ _ _,.inl rfl,hfit,Sp,om⟩
     ·obtain⟨z,w',q1,q2⟩:=vp (ty:=ty) r hT rx ry helx el hfit ho.2;refine⟨rfl,rfl,z,w',q1,?_⟩;obtain⟨S',f',gg,hr⟩:=q2;refine⟨S',f',?_,hr⟩;have gg:=gg.kill b;have hd:(cs.drop off).take (k*es)=cs.drop off:=by grind [A5]
      exact U84
   grind
 grind
end ops
end Go.AM
namespace Go.AM
open Go.RowKit
variable {G:Nat->Option (List AV)}{base:Nat}{S:bE}{f:Emb}{h:AH}{w:World}{P:Program}{E:Env}{s:St}{a:Act}{N:Nat}
section ops
variable {call:Cle->List AV->AH->Option (AV×AH)}{o:Oper}{v:AV}{s':St}
theorem aTJ{ts:Array TypeId}{t e es:Nat}{ty:TypeId}{z:List AV}{x:Operand}{x':Opd}(ht:TmR S f s.tm a.tmps N)(r:WR E.aY base S f s.h w)(h0:ts[0]? =Z t)(hu:P.underlying t=Z (.slice e))(hn:bH P e=Z es)
  (hz:cF P e=Z z) (hx:bA x=Z x') (hrun:aL E call s (.lS es z x')=Z (v,s')):
  s'.tm=s.tm/\s'.defers=s.defers/\∃q w',(Builtin.clear_ ts ty #[a.eval x]).run P w=.ok q w'/\Left E base S f s.h w v s'.h q w':=by
 have e0:∀X:Value,(#[X]:Array Value)[0]? =Z X:=λ_=>rfl;simp only[aL] at hrun;split at hrun
 ·rename_i ex;have rx:=be ht hx ex;simp only[sI,pI] at hrun;obtain⟨rfl,rfl⟩:=hrun;simp only[Rel] at rx;refine⟨rfl,rfl,undef,w,?_,s6 r sx⟩;rw[rx.1];unfold Builtin.clear_;simp only[h0,e0,Sem.run_bind,run_underlying hu,Result.andThen_ok];rfl
 ·rename_i b off n es' cap ex;have rx:=be ht hx ex;have rx':=rx;simp only[Rel] at rx';obtain⟨B,O,R,c,hf,hX,hle,hcap,hR⟩:=rx';cases hnn:ig n 0 with
  |true=>
   simp only[hnn,cond_true,sI,pI] at hrun;obtain⟨rfl,rfl⟩:=hrun;have hnn:=iu hnn;subst hnn;refine⟨rfl,rfl,undef,w,?_,s6 r sx⟩;rcases hX with hX|⟨_,_,q0,_,hX⟩
   ·exact U16
   ·exact U16
  |false=>
   have hnn':=jz hnn;have hX:=hX.pos (.inl om);simp only[hnn,cond_false] at hrun;split at hrun
   ·rename_i cs hb;obtain⟨hw,hrun⟩:=gr hrun;simp only[pI] at hrun;obtain⟨rfl,rfl⟩:=hrun;simp only[im] at hw;have hes:=iu hw.1.1;subst hes;have hzl:=iu hw.1.2;have hle2:=j6 hw.2;obtain⟨zv,hzr,ho,rfl⟩:=uJ hz;have hzn:zv.cells.size=es:=Gr;have hcs:cs.length<=R:=by
     exact U83
    obtain⟨z1,z2⟩:=xR (S:=S) (f:=f) ho n es hzn;have hzc:Builtin.zeroCells zv.cells n=(Ad (n*es)).map (zv.cells[· %zv.cells.size]!):=by
     grind [Builtin.zeroCells]
    have hlen:=z1.length;have hfl:((List.replicate n (zv.cells.toList.map AV.val)).flatten).length=n*es:=Gr;have hst:=r.run_store (P:=P) (off:=off) hb hf z2 om;have g:=r.putCells (off:=off) hb hf z1 z2 om;refine⟨rfl,rfl,undef,_,?_,S,f,g,sx⟩;rw[hX];unfold Builtin.clear_;simp only[h0,e0,Sem.run_bind,run_underlying hu,Result.andThen_ok];obtain⟨n0,rfl⟩:∃n0,n=n0+1:=⟨n-1,om⟩;simp only[hzr,Result.andThen_ok,hzc,hst,Sem.run_pure];rfl
   grind
 grind
theorem bAB(a b:ByteArray):(a==b)=dZ a.data.toList b.data.toList:=by
 cases a with|mk x=>cases b with|mk y=>
 rw[uM];change (x==y)=(x.toList==y.toList);simp
theorem Cm(d:TypeDesc)(k j:Value):keyEq d k j=Instr.sameNow d k j:=by
 unfold keyEq;split
 ·grind [Instr.sameNow]
 ·grind [Instr.sameNow,bAB]
 ·rfl
 ·rename_i h1 h2 h3;unfold Instr.sameNow
  grind
theorem wO{d:TypeDesc}{t:TypeId}{k:Value}{empty:Bool}(hd:P.underlying t=Z d)(hk:plainKey d=J):(Instr.checkKey empty 10000 t k).run P w=.ok () w:=by
 change (Instr.checkKey empty (9999+1) t k).run P w=_;unfold Instr.checkKey;rw[Sem.run_bind,run_underlying hd];cases d<;>first|rfl|grind [plainKey]
end ops
end Go.AM
namespace Go.AM
open Go.RowKit
variable {G:Nat->Option (List AV)}{base:Nat}{S:bE}{f:Emb}{h:AH}{w:World}{P:Program}{E:Env}{s:St}{a:Act}{N:Nat}
theorem WR.setObj(r:WR G base S f h w){b B:Nat}{k k':Blk}{o o':Obj}(hb:h.get b=Z k)(hf:f b=Z (B,0,1))(ho:w.heap[B]? =Z o)(hc:isCells o=U)(hc':isCells o'=U)
  (hk:∀w',w'.heap[B]? =Z o'->bR S f k' B 0 1 w'):dp G base S f h w S f (h.put b (Z k')) {w with heap:=w.heap.setIfInBounds B o'}:=by
 obtain⟨B0,O0,R0,hf0,hB,hsz,hr⟩:=r.blk b _ hb;rw[hf] at hf0;simp at hf0;obtain⟨rfl,rfl,rfl⟩:=hf0;have hother:∀j,j≠B->({w with heap:=w.heap.setIfInBounds B o'}:World).heap[j]? =w.heap[j]? :=Gr;have hself:({w with heap:=w.heap.setIfInBounds B o'}:World).heap[B]? =Z o':=by
  grind
 have hnc:∀off v,w.cell? ⟨B,off,Y⟩≠Z v:=by grind [World.cell?,isCells]
 refine⟨.refl _ _,⟨?_,r.jV,?_,?_,r.dom,Gr⟩,⟨rfl,rfl,rfl,Sp,λj hj=>hother j om⟩,?_,?_,λ_ _ h _=>h,ij _⟩
 ·intro b' off v hs;have h0:=r.gw _ _ _ hs
  grind [World.cell?]
 ·intro b' q hq;rw[AH.aO] at hq;split at hq
  ·grind
  ·rename_i e;obtain⟨B',O',R',hf',hB',hs',hr'⟩:=r.blk b' q hq;refine⟨B',O',R',hf',hB',Gr,?_⟩
   by_cases hBB:B'=B
   ·subst hBB;have hap:=r.apart b' b B' O' R' B' 0 1 e Gr Gr hf' hf;have hR:R'=0\/1<=O':=om;cases q with
    |cells cs rw'=>
     grind [bR,Ai]
    |map es=>grind [bR]
    |hZ es=>grind [bR]
    |iter st pos=>grind [bR]
    |ft m=>cases m<;>(grind [bR])
    |kZ m on=>grind [bR]
    |nU m n seen=>grind [bR]
    |loop=>grind [bR]
    |dfr=>grind [bR]
    |tag b1 t n=>
     grind [bR,World.shape?,isCells]
   ·exact hr'.same (lx (hother B' hBB))
 ·exact U12
 ·intro B' O' R' hB' hap;have hap:=hap b B 0 1 Gr hf;refine⟨?_,λ_ _=>rfl⟩
  by_cases hBB:B'=B
  ·subst hBB;refine⟨λi hi=>?_,λi hi _=>?_,λ_ _ arr t lo hi' hj=>?_,λh0 hR _ _ _=>?_,λsh h=>?_⟩<;>grind [World.cell?,isCells,World.shape?]
  grind [lx]
 ·intro b' B' O' R' g hg;refine sc b' B' O' R' ?_ hg
  grind [AH.aO]
section ops
variable {call:Cle->List AV->AH->Option (AV×AH)}{o:Oper}{v:AV}{s':St}
theorem aME{t:TypeId}{z:AV}(hz:qB P t=Z z):∃zv,(∀w,(zeroValue t).run P w=.ok zv w)/\∀S f,Rel S f z zv:=by
 unfold qB at hz;cases hi:P.info? t with
 |none=>grind
 |some i=>
  cases hq:i.zero<;>simp_all [zeroValue,typeInfo,Rel.ew]
theorem Ej{d:TypeDesc}{k:Value}:∀{es:List (Value×AV)} {l:List MapEntry} {x:Option AV} (i:Nat),dA S f es l->mB d k es=Z x->
  ∃q,Instr.findNow d k l i=Z q/\(match x,q with
   |none,Y=>True
   |some u,Z (_,y)=>Rel S f u y
   |_,_=>False)
 | [],l,x,i,r,hx=>by
  simp[dA] at r;subst r;simp[mB] at hx;subst hx;exact⟨Y,rfl,trivial⟩
 |(j,u)::es,l,x,i,r,hx=>by
  simp[dA] at r;obtain⟨e,l',rfl,hk,hv,r⟩:=r;unfold mB at hx;rw[Cm] at hx;unfold Instr.findNow;rw[hk];cases hs:Instr.sameNow d k j with
  |none=>grind
  |some b=>
   cases b with
   |true=>
    grind
   |false=>
    simp[hs] at hx;exact Ej (i+1) r hx
theorem aEG{t kt e:TypeId}{d:TypeDesc}{z:AV}{zv:Value}{ok:Bool}{X K:Value}{arr:Array MapEntry}{es:List (Value×AV)}{y:Option AV}(hu:P.underlying t=Z (.map kt e))
  (hd:P.underlying kt=Z d) (hplain:plainKey d=J) (hzr:∀w,(zeroValue e).run P w=.ok zv w) (hzrel:Rel S f z zv)
  (hX:(X=.map Y/\arr= #[])\/∃B clock,X=.map (Z B)/\w.heap[B]? =Z (.map arr clock)) (hm:dA S f es arr.toList) (hl:mB d K es=Z y):
  ∃q,(Instr.lookup t X K ok).run P w=.ok q w/\Rel S f (match y with
   |some v=>bif ok then AV.tup [v,.val (.bool J)] else v
   |none=>bif ok then AV.tup [z,.val (.bool U)] else z) q:=by
 obtain⟨q,hq,hrel⟩:=Ej 0 hm hl;have hfind:(Instr.findKey kt K arr.toList).run P w=.ok q w:=by
  simp_all [Instr.findKey,run_underlying]
 have hck:=wO (w:=w) (k:=K) (empty:=arr.isEmpty) hd hplain;cases y with
 |none=>
  cases q with
  |some p=>grind
  |none=>
   refine⟨(if ok then .tuple #[zv,.bool U] else zv),?_,?_⟩
   ·exact U17
   ·cases ok
    ·grind
    ·simp only[if_true,cond_true,Rel];exact⟨[zv,.bool U],rfl,by grind [aZ,Rel,Value.oneCell']⟩
 |some u0=>
  cases q with
  |none=>grind
  |some p=>
   obtain⟨i,y0⟩:=p;refine⟨(if ok then .tuple #[y0,.bool J] else y0),?_,?_⟩
   ·exact U17
   ·cases ok
    ·grind
    ·simp only[if_true,cond_true,Rel];exact⟨[y0,.bool J],rfl,by grind [aZ,Rel,Value.oneCell']⟩
theorem Born.push{arr:Array MapEntry}{clock:Nat}{k v:Value}(h:Born arr clock):Born (arr.push {key:=k,val:=v,born:=clock}) (clock+1):=by
 refine⟨by rw[Array.size_push,h.1],λi e he=>?_⟩
 rw[Array.getElem?_push] at he;split at he
 ·simp at he;rw[<-he];rename_i hi;rw[hi];exact h.1
 ·exact h.2 i e he
theorem Born.modify{arr:Array MapEntry}{clock j:Nat}{k v:Value}(h:Born arr clock):Born (arr.modify j λe=>{e with key:=k,val:=v}) clock:=by
 refine⟨by rw[Array.size_modify,h.1],λi e he=>?_⟩
 rw[Array.getElem?_modify] at he;split at he
 ·simp at he;obtain⟨e0,he0,rfl⟩:=he;exact h.2 i e0 he0
 ·exact h.2 i e he
theorem Cg(r:WR G base S f h w){b B O R:Nat}{es:List (Value×AV)}(hb:h.get b=Z (.map es))(hf:f b=Z (B,O,R)):
  O=0/\R=1/\∃arr clock,w.heap[B]? =Z (.map arr clock)/\dA S f es arr.toList/\Born arr clock:=by
 obtain⟨B0,O0,R0,hf0,_,_,hr⟩:=r.blk b _ hb;exact U79
theorem Jc(r:WR G base S f h w){b B O R:Nat}{es:List (Value×AV)}(hb:h.get b=Z (.hZ es))(hf:f b=Z (B,O,R)):
  O=0/\R=1/\∃arr clock,w.heap[B]? =Z (.map arr clock)/\dA S f es arr.toList:=by
 obtain⟨B0,O0,R0,hf0,_,_,hr⟩:=r.blk b _ hb;exact U79
theorem aNW{t kt e:TypeId}{d:TypeDesc}{z:AV}{ok:Bool}{x k:Operand}{x' k':Opd}(ht:TmR S f s.tm a.tmps N)(r:WR E.aY base S f s.h w)(hu:P.underlying t=Z (.map kt e))
  (hd:P.underlying kt=Z d) (hplain:plainKey d=J) (hz:qB P e=Z z) (hx:bA x=Z x') (hk:bA k=Z k') (hrun:aL E call s (.lookup d z x' k' ok)=Z (v,s')):
  s'=s/\∃q,(Instr.lookup t (a.eval x) (a.eval k) ok).run P w=.ok q w/\Rel S f v q:=by
 obtain⟨zv,hzr,hzrel⟩:=aME hz;simp[aL] at hrun;split at hrun
 ·rename_i m K ex ek;have rk:=be ht hk ek;have rx:=be ht hx ex;simp[Rel] at rk;rw[rk.1];have key:∀(arr:Array MapEntry) (es:List (Value×AV)),dA S f es arr.toList->((a.eval x=.map Y/\arr= #[])\/∃B clock,a.eval x=.map (Z B)/\w.heap[B]? =Z (.map arr clock))->
    (match mB d K es with
     |some (Z v)=>Z ((bif ok then AV.tup [v,.val (.bool J)] else v),s)
     |some Y=>Z ((bif ok then AV.tup [z,.val (.bool U)] else z),s)
     |none=>Y)=Z (v,s')->s'=s/\∃q,(Instr.lookup t (a.eval x) K ok).run P w=.ok q w/\Rel S f v q:=by
   intro arr es hm hX hres;cases hl:mB d K es with
   |none=>grind
   |some y=>
    obtain⟨q,h1,h2⟩:=aEG (ok:=ok) hu hd hplain hzr (hzrel S f) hX hm hl
    grind
  split at hrun
  ·rename_i es hes;split at hes
   ·rw[sI] at hes;subst hes;simp[Rel] at rx;exact key #[] [] rf (.inl ⟨rx.1,rfl⟩) hrun
   ·rename_i b;split at hes
    ·rename_i es' hb;simp at hes;subst hes;rw[Rel] at rx;obtain⟨B,O,R,hf,hX⟩:=rx;obtain⟨_,_,arr,clock,hh,hm,_⟩:=Cg r hb hf;exact key arr _ hm (.inr ⟨B,clock,hX,hh⟩) hrun
    ·rename_i es' hb;simp at hes;subst hes;rw[Rel] at rx;obtain⟨B,O,R,hf,hX⟩:=rx;obtain⟨_,_,arr,clock,hh,hm⟩:=Jc r hb hf;exact key arr _ hm (.inr ⟨B,clock,hX,hh⟩) hrun
    grind
   grind
  grind
 grind
theorem Wz{d:TypeDesc}{k:Value}{x:AV}{X:Value}(hx:Rel S f x X):∀{es es':List (Value×AV)} {l:List MapEntry} (i:Nat),dA S f es l->updA d k x es=Z es'->
  ∃q,Instr.findNow d k l i=Z q/\(match q with
   |none=>∀c,dA S f es' (l++[{key:=k,val:=X,born:=c}])
   |some (j,_)=>i<=j/\(∃e,l[j-i]? =Z e/\Instr.sameNow d k e.key=Z J)/\dA S f es' (l.modify (j-i) λe=>{e with key:=k,val:=X}))
 | [],es',l,i,r,hu=>by
  simp[dA] at r;subst r;simp[updA] at hu;subst hu;exact⟨Y,rfl,λc=>by simp only[List.nil_append,dA];grind⟩
 |(j,u)::es,es',l,i,r,hu=>by
  simp[dA] at r;obtain⟨e,l',rfl,hk,hv,r⟩:=r;unfold updA at hu;rw[Cm] at hu;unfold Instr.findNow;rw[hk];cases hs:Instr.sameNow d k j with
  |none=>grind
  |some b=>
   cases b with
   |true=>
    simp[hs] at hu;subst hu;refine⟨Z (i,e.val),rfl,ij _,⟨e,Sp,Gr⟩,?_⟩;rw[Nat.sub_self,List.modify_zero_cons,dA]
    grind
   |false=>
    simp[hs] at hu;obtain⟨es2,hu2,rfl⟩:=hu;obtain⟨q,hq,hrel⟩:=Wz hx (i+1) r hu2;refine⟨q,hq,?_⟩;cases q with
    |none=>
     intro c;rw[List.cons_append,dA]
     grind
    |some p=>
     obtain⟨m,y⟩:=p;obtain⟨h1,⟨e',he',hs'⟩,h2⟩:=hrel;have hm:m-i=(m-(i+1))+1:=om;refine⟨om,⟨e',Gr,hs'⟩,?_⟩;rw[hm];rw[List.modify_succ_cons,dA]
     grind
theorem aBO{d:TypeDesc}{k:Value}:∀{es es':List (Value×AV)} {l:List MapEntry} (i:Nat),dA S f es l->delA d k es=Z es'->
  ∃q,Instr.findNow d k l i=Z q/\(match q with
   |none=>dA S f es' l
   |some (j,_)=>i<=j/\j-i<l.length/\dA S f es' (l.eraseIdx (j-i)))
 | [],es',l,i,r,hu=>by
  simp[dA] at r;subst r;rw[delA,sI] at hu;subst hu;exact⟨Y,rfl,by rfl⟩
 |(j,u)::es,es',l,i,r,hu=>by
  simp[dA] at r;obtain⟨e,l',rfl,hk,hv,r⟩:=r;unfold delA at hu;rw[Cm] at hu;unfold Instr.findNow;rw[hk];cases hs:Instr.sameNow d k j with
  |none=>grind
  |some b=>
   cases b with
   |true=>
    grind
   |false=>
    simp[hs] at hu;obtain⟨es2,hu2,rfl⟩:=hu;obtain⟨q,hq,hrel⟩:=aBO (i+1) r hu2;refine⟨q,hq,?_⟩;cases q with
    |none=>
     simp[dA]
     grind
    |some p=>
     obtain⟨m,y⟩:=p;obtain⟨h1,h3,h2⟩:=hrel;have hm:m-i=(m-(i+1))+1:=om;refine⟨om,Gr,?_⟩;rw[hm,List.eraseIdx_cons_succ];rw[dA]
     grind
theorem Rn{d:TypeDesc}{k j:Value}(h:Instr.sameNow d k j=Z J):Instr.sameBits 10000 j k=J:=by
 unfold Instr.sameNow at h;split at h<;>simp_all [Instr.sameBits,bAB,uM]
theorem aNU{t kt e:TypeId}{d:TypeDesc}{m k x:Operand}{m' k' x':Opd}(ht:TmR S f s.tm a.tmps N)(r:WR E.aY base S f s.h w)(hu:P.underlying t=Z (.map kt e))
  (hd:P.underlying kt=Z d) (hplain:plainKey d=J) (hm:bA m=Z m') (hk:bA k=Z k') (hx:bA x=Z x') (hrun:aL E call s (.jO d m' k' x')=Z (v,s')):
  s'.tm=s.tm/\s'.defers=s.defers/\∃w',(Instr.mapUpdate t (a.eval m) (a.eval k) (a.eval x)).run P w=.ok () w'/\Left E base S f s.h w v s'.h undef w':=by
 simp[aL] at hrun;split at hrun
 ·rename_i b K u em ek ex;have rm:=be ht hm em;have rk:=be ht hk ek;have rx:=be ht hx ex;simp only[Rel] at rm rk;obtain⟨B,O,R,hf,hX⟩:=rm;rw[hX,rk.1];generalize a.eval x=X at rx⊢
  split at hrun
  ·rename_i es hb;simp[j7] at hrun;obtain⟨es',hu',rfl,rfl⟩:=hrun;obtain⟨rfl,rfl,arr,clock,hh,hme,hbn⟩:=Cg r hb hf;obtain⟨q,hq,hrel⟩:=Wz rx 0 hme hu';have hfind:(Instr.findKey kt K arr.toList).run P w=.ok q w:=by
    simp_all [Instr.findKey,run_underlying]
   have hck:=wO (w:=w) (k:=K) (empty:=U) hd hplain;have hg:=U166;have hso:=U167;cases q with
   |none=>
    have g:=r.setObj (k':=.map es') (o':=.map (arr.push {key:=K,val:=X,born:=clock}) (clock+1)) hb hf hh rfl rfl (λw' hw'=>by
     simp only[bR];exact⟨trivial,trivial,_,_,hw',Gr,hbn.push⟩)
    refine⟨rfl,rfl,_,?_,S,f,g,sx⟩
    simp_all [Instr.mapUpdate,run_underlying]
   |some p=>
    obtain⟨j,y⟩:=p;obtain⟨_,⟨e',he',hs'⟩,h2⟩:=hrel;rw[Nat.sub_zero] at he' h2;have hkey:(((arr[j]?).map (·.key)).getD K)=e'.key:=by
     grind
    have hstay:(Instr.keyThatStays e'.key K).run P w=.ok K w:=by
     unfold Instr.keyThatStays;rw[Rn hs'];rfl
    have g:=r.setObj (k':=.map es') (o':=.map (arr.modify j λe=>{e with key:=K,val:=X}) clock) hb hf hh rfl rfl (λw' hw'=>by
     simp only[bR];exact⟨trivial,trivial,_,_,hw',Gr,hbn.modify⟩)
    refine⟨rfl,rfl,_,?_,S,f,g,sx⟩
    simp_all [Instr.mapUpdate,run_underlying]
  grind
 grind
theorem aNV{t kt e ty:TypeId}{ts:Array TypeId}{d:TypeDesc}{m k:Operand}{m' k':Opd}(ht:TmR S f s.tm a.tmps N)(r:WR E.aY base S f s.h w)(hts:ts[0]? =Z t)(hu:P.underlying t=Z (.map kt e))
  (hd:P.underlying kt=Z d) (hplain:plainKey d=J) (hm:bA m=Z m') (hk:bA k=Z k') (hrun:aL E call s (.kR d m' k')=Z (v,s')):
  s'.tm=s.tm/\s'.defers=s.defers/\∃z w',(Builtin.delete_ ts ty #[a.eval m,a.eval k]).run P w=.ok z w'/\Left E base S f s.h w v s'.h z w':=by
 simp[aL] at hrun;split at hrun
 ·rename_i b K em ek;have rm:=be ht hm em;have rk:=be ht hk ek;simp only[Rel] at rm rk;obtain⟨B,O,R,hf,hX⟩:=rm;have key:∀(kb:Blk) (es:List (Value×AV)) (arr:Array MapEntry) (clock:Nat),s.h.get b=Z kb->O=0->R=1->w.heap[B]? =Z (.map arr clock)->dA S f es arr.toList->
    ((delA d K es).bind λes=>Z (bJ,{s with h:=s.h.put b (Z (.hZ es))}))=Z (v,s')->
    s'.tm=s.tm/\s'.defers=s.defers/\∃z w',(Builtin.delete_ ts ty #[a.eval m,a.eval k]).run P w=.ok z w'/\Left E base S f s.h w v s'.h z w':=by
   intro kb es arr clock hb hO hR hh hme hrun;subst hO;subst hR;simp[j7] at hrun;obtain⟨es',hu',rfl,rfl⟩:=hrun;obtain⟨q,hq,hrel⟩:=aBO 0 hme hu';have hfind:(Instr.findKey kt K arr.toList).run P w=.ok q w:=by
    simp_all [Instr.findKey,run_underlying]
   have hck:=wO (w:=w) (k:=K) (empty:=arr.isEmpty) hd hplain;have hg:=U166;have hso:=U167;have e0:(#[Value.map (Z B),K]:Array Value)[0]? =Z (Value.map (Z B)):=rfl;have e1:(#[Value.map (Z B),K]:Array Value)[1]? =Z K:=rfl;rw[hX,rk.1];cases q with
   |none=>
    have g:=r.setObj (k':=.hZ es') (o':=.map arr clock) hb hf hh rfl rfl (λw' hw'=>by
     simp_all [bR])
    refine⟨rfl,rfl,.tuple #[],_,?_,S,f,g,sx⟩
    simp_all [Builtin.delete_,run_underlying]
   |some p=>
    obtain⟨j,y⟩:=p;obtain⟨_,h3,h2⟩:=hrel;rw[Nat.sub_zero] at h2 h3;have g:=r.setObj (k':=.hZ es') (o':=.map (arr.eraseIdxIfInBounds j) clock) hb hf hh rfl rfl (λw' hw'=>by
     simp_all [bR])
    refine⟨rfl,rfl,.tuple #[],_,?_,S,f,g,sx⟩
    simp_all [Builtin.delete_,run_underlying]
  grind [Cg,Jc]
 grind
end ops
end Go.AM
namespace Go.AM
open Go.RowKit
variable {G:Nat->Option (List AV)}{base:Nat}{S:bE}{f:Emb}{h:AH}{w:World}{P:Program}{E:Env}{s:St}{a:Act}{N:Nat}
section ops
variable {call:Cle->List AV->AH->Option (AV×AH)}{o:Oper}{v:AV}{s':St}
theorem Iz{up:Bool}{k:IntKind}:∀{l:List AV} {xs:List Value} {m r:Int},fe up k m l=Z r->aZ S f l xs->
  (xs.foldlM (if up then Builtin.max2 else Builtin.min2) (.int k m)).run P w=.ok (.int k r) w
 | [],xs,m,r,h,hr=>by
  simp_all [aZ,fe]
 |c::l,xs,m,r,h,hr=>by
  simp[aZ] at hr;obtain⟨y,ys,rfl,r1,r2⟩:=hr;unfold fe at h;split at h
  ·grind
  ·rename_i m k' b rest e1;simp at e1;obtain⟨rfl,rfl⟩:=e1;have hq:=lO h;clear h;obtain⟨hk,h⟩:=hq;have hk:k=k':=Gr;subst hk;simp[Rel] at r1;have ih:=Iz h r2;rw[r1.1];simp;cases up with
   |false=>
    have:∀m b:Int,(Builtin.min2 (.int k m) (.int k b)).run P w=.ok (.int k (min m b)) w:=by
     grind [Builtin.min2,Sem.run_pure]
    simp_all
   |true=>
    have:∀m b:Int,(Builtin.max2 (.int k m) (.int k b)).run P w=.ok (.int k (max m b)) w:=by
     grind [Builtin.max2,Sem.run_pure]
    simp_all
  ·cases h
theorem bKR{ts:Array TypeId}{ty:TypeId}{xs:Array Operand}{xs':List Opd}(ht:TmR S f s.tm a.tmps N)(hx:dK xs.toList=Z xs')(hrun:aL E call s (.minI xs')=Z (v,s')):
  s'=s/\∃q,(Builtin.min_ ts ty (xs.map a.eval)).run P w=.ok q w/\Rel S f v q:=by
 simp[aL] at hrun;split at hrun
 ·rename_i k m rest ev;simp[j7] at hrun;obtain⟨r,hr,rfl,rfl⟩:=hrun;have hl:=sj ht hx ev;simp[aZ] at hl;obtain⟨y,ys,e,r1,r2⟩:=hl;simp[Rel] at r1;refine⟨rfl,.int k r,?_,by simp[Rel,Value.oneCell']⟩
  grind [Builtin.min_,Array.toList_map,Iz]
 grind
theorem bKS{ts:Array TypeId}{ty:TypeId}{xs:Array Operand}{xs':List Opd}(ht:TmR S f s.tm a.tmps N)(hx:dK xs.toList=Z xs')(hrun:aL E call s (.maxI xs')=Z (v,s')):
  s'=s/\∃q,(Builtin.max_ ts ty (xs.map a.eval)).run P w=.ok q w/\Rel S f v q:=by
 simp[aL] at hrun;split at hrun
 ·rename_i k m rest ev;simp[j7] at hrun;obtain⟨r,hr,rfl,rfl⟩:=hrun;have hl:=sj ht hx ev;simp[aZ] at hl;obtain⟨y,ys,e,r1,r2⟩:=hl;simp[Rel] at r1;refine⟨rfl,.int k r,?_,by simp[Rel,Value.oneCell']⟩
  grind [Builtin.max_,Array.toList_map,Iz]
 grind
theorem bCX{t e:TypeId}{len n:Nat}{ln:Option Nat}{x i:Operand}{x' i':Opd}(ht:TmR S f s.tm a.tmps N)(hx:bA x=Z x')(hi:bA i=Z i')(hu:P.underlying t=Z (.array len e))
  (hn:bH P e=Z n) (hl:gV P e=Z ln) (hrun:aL E call s (.idxA len n ln x' i')=Z (v,s')):s'=s/\∃z,(Instr.index t (a.eval x) (a.eval i)).run P w=.ok z w/\Rel S f v z:=by
 simp[aL] at hrun;split at hrun
 ·rename_i cs k ex hk;simp[j7] at hk;obtain⟨u,hu1,hn1⟩:=hk;obtain⟨q,e2⟩:=wS (be ht hi hu1) hn1;have hq:=lO hrun;clear hrun;obtain⟨hb,hrun⟩:=hq;simp only[im,Nat.blt_eq] at hb;simp[j7] at hrun;obtain⟨u',hv,rfl,rfl⟩:=hrun;have hk':=j6 hb.2;have r:=be ht hx ex;rw[Rel] at r;obtain⟨xs,e1,ho,r⟩:=r;have hlen:=r.length;obtain⟨h1,h2⟩:=yC hl w;refine⟨rfl,?_⟩;rw[e1,e2];simp only[Instr.index,Sem.run_bind,asIntOf,Sem.run_pure,Result.andThen_ok,run_underlying hu];rw[if_pos om];simp only[Sem.run_bind,rW hn,Result.andThen_ok,Int.toNat_natCast,part,h1];cases ln with
  |none=>
   rw[takeN] at hv;have hv':cs[k*n]? =Z u':=Sa;obtain⟨z,hz,hr⟩:=r.get hv'
   simp_all
  |some m=>
   rw[takeN] at hv;obtain⟨hl',hv⟩:=gr hv;subst hv;refine⟨.agg (xs.toArray.extract (k*n) (k*n+m)),Sa,?_⟩;rw[Rel];refine⟨(xs.drop (k*n)).take m,?_,?_,(r.drop _).take _⟩<;>grind
 grind
end ops
end Go.AM
namespace Go.AM
open Go.RowKit
variable {G:Nat->Option (List AV)}{base:Nat}{S:bE}{f:Emb}{h:AH}{w:World}{P:Program}{E:Env}{s:St}{a:Act}{N:Nat}
def lI(P:Program)(E:Env)(call:Nat->List AV->AH->Option (AV×AH)):Prop:=
 ∀g l h r h',call g l h=Z (r,h')->(∃fn,P.funcs[g]? =Z fn/\(fn.name== "runtime.NumGoroutine")=U/\fn.body.isNone=U)/\
  ∀base S f w ag,WR E.aY base S f h w->aZ S f l ag->CallsIn Fence.wide 0 P g ag.toArray w λe w'=>∃x,e=.returned x/\Left E base S f h w r h' x w'
def CallOkY(P:Program)(E:Env)(call:Nat->List AV->AH->Option (AV×AH)):Prop:=
 ∀b l h r h',call b l h=Z (r,h')->∀base S f w ag B O R,WR E.aY base S f h w->aZ S f l ag->f b=Z (B,O,R)->
  da P (Instr.yield B ag.toArray) w (Left E base S f h w r h')
structure eM (P:Program) (E:Env) (call:Cle->List AV->AH->Option (AV×AH)):Prop where
 f:lI P E λg=>call (.f g)
 y:CallOkY P E λb=>call (.y b)
structure ez (P:Program) (E:Env):Prop where
 m:∀t name g,E.iG t name=Z g->∀(v:Value) (w:World),(method (P.types.size+Made.depth) t v name).run P w=.ok (g,v) w/\(nilAhead (P.types.size+Made.depth) t v name).run P w=.ok (Z U) w
 x1:∀g x w,E.noEscF=Z g->(callFunc g #[x]).run P w=.ok (.value x) w
 x2:∀g e (n:Nat) w,E.mkNZF=Z (g,e)->n<=281474976710656->∃cs:Array Value,(callFunc g #[.int .i64 n]).run P w=.ok (.value (.slice (Z ⟨w.heap.size,0,Y⟩) n cs.size)) (w.drew.drew.alloc (.cells cs e))/\n<=cs.size
section ops
variable {call:Cle->List AV->AH->Option (AV×AH)}{o:Oper}{v:AV}{s':St}
theorem um(hc:eM P E call){g:Nat}{l:List AV}{ag:List Value}{r:AV}{h':AH}(hrun:call (.f g) l s.h=Z (r,h'))(wr:WR E.aY base S f s.h w)(hl:aZ S f l ag):
  da P (callFunc g ag.toArray) w (Left E base S f s.h w r h'):=by
 obtain⟨⟨fn,h1,h2,h3⟩,h4⟩:=hc.f g l s.h r h' hrun;have e:(callFunc g ag.toArray).run P w=.ok (.enter g ag.toArray) w:=by
  exact U85
 grind [da]
theorem vc{sem:Sem Next}{α:Type}{pre:Sem α}{x:α}{K:Value->World->Prop}{k:α->Sem Next}(e:pre.run P w=.ok x w)(hk:da P (k x) w K)(hs:sem=pre>>=k):da P sem w K:=by
 grind [da,Sem.run_bind,Result.andThen_ok]
theorem xM{t:TypeId}{z:Value}{name:String}{g:Nat}{rest:Array Value}{K:Value->World->Prop}(hm:(method (P.types.size+Made.depth) t z name).run P w=.ok (g,z) w)
  (h:da P (callFunc g (#[z]++rest)) w K):da P (callMethod (.iface t z) name rest) w K:=by
 grind [da,callMethod,Sem.run_bind,run_program,Result.andThen_ok]
theorem bDA{g:Nat}{args:Array Operand}{argTypes:Array TypeId}{args':List Opd}{ty:TypeId}(hc:eM P E call)(ht:TmR S f s.tm a.tmps N)(r:WR E.aY base S f s.h w)(hx:dK args.toList=Z args')
  (hrun:aL E call s (.call g args')=Z (v,s')):
  s'.tm=s.tm/\s'.defers=s.defers/\da P (do let d<-resolve a.eval {callee:=.value (.func g),args,argTypes} ty;invoke d.target d.args) w (Left E base S f s.h w v s'.h):=by
 simp[aL] at hrun;split at hrun
 ·rename_i l hl;simp only[j7,sI,pI] at hrun;obtain⟨⟨r0,h0⟩,hcall,rfl,rfl⟩:=hrun;refine⟨rfl,rfl,?_⟩;have:=um hc hcall r (sj ht hx hl);refine vc (pre:=resolve a.eval {callee:=.value (.func g),args,argTypes} ty) (x:={target:=.fn (.func g) #[],args:= #[]++args.map a.eval}) rf ?_ rfl;have e:(args.toList.map a.eval).toArray= #[]++args.map a.eval++ #[]:=Gr;rw[e] at this;exact this
 grind
theorem aTM{x:Operand}{x':Opd}{args:Array Operand}{argTypes:Array TypeId}{args':List Opd}{ty:TypeId}(hc:eM P E call)(hm:ez P E)(ht:TmR S f s.tm a.tmps N)(r:WR E.aY base S f s.h w)
  (hy:bA x=Z x') (hx:dK args.toList=Z args') (hrun:aL E call s (.dR x' args')=Z (v,s')):
  s'.tm=s.tm/\s'.defers=s.defers/\da P (do let d<-resolve a.eval {callee:=.value x,args,argTypes} ty;invoke d.target d.args) w (Left E base S f s.h w v s'.h):=by
 simp only[aL] at hrun;split at hrun
 ·rename_i g A B l ex hl;simp only[j7,sI,pI] at hrun;obtain⟨⟨r0,h0⟩,hcall,rfl,rfl⟩:=hrun;refine⟨rfl,rfl,?_⟩;have rx:=be ht hy ex;simp[Rel] at rx;obtain⟨xs,ys,e,r1,r2⟩:=rx;have hl':=sj ht hx hl;have:=um hc hcall r ((r1.append hl').append r2);refine vc (pre:=resolve a.eval {callee:=.value x,args,argTypes} ty) (x:={target:=.fn (.func g) ys.toArray,args:=xs.toArray++args.map a.eval}) (by simp[resolve,e,Deferred.ofValue]) ?_ rfl
  simp only[invoke];have e2:(xs++args.toList.map a.eval++ys).toArray=xs.toArray++args.map a.eval++ys.toArray:=by
   grind
  grind
 ·rename_i name t u A B l ex hl;split at hrun
  ·rename_i g hg;simp only[j7,sI,pI] at hrun;obtain⟨⟨r0,h0⟩,hcall,rfl,rfl⟩:=hrun;refine⟨rfl,rfl,?_⟩;have rx:=be ht hy ex;simp[Rel,aZ] at rx;obtain⟨xs,ys,e,⟨y0,xs',rfl,⟨z,rfl,rz⟩,r1⟩,r2⟩:=rx;have hl':=sj ht hx hl;have hrel:aZ S f (u::(A++l)) (z::(xs'++args.toList.map a.eval)):=by
    rw[aZ];exact⟨z,_,rfl,rz,r1.append hl'⟩
   have:=um hc hcall r hrel;refine vc (pre:=resolve a.eval {callee:=.value x,args,argTypes} ty) (x:={target:=.fn (.method name) ys.toArray,args:=(Value.iface t z::xs').toArray++args.map a.eval}) (by simp[resolve,e,Deferred.ofValue]) ?_ rfl
   obtain⟨hm1,_⟩:=hm.m t name g hg z w;have e2:(z::(xs'++args.toList.map a.eval)).toArray= #[z]++((Value.iface t z::xs').toArray++args.map a.eval).extract 1 ((Value.iface t z::xs').toArray++args.map a.eval).size:=by
    simp[A5]
   grind [invoke,xM]
  grind
 ·rename_i b l ex hl;simp only[j7,sI,pI] at hrun;obtain⟨⟨r0,h0⟩,hcall,rfl,rfl⟩:=hrun;refine⟨rfl,rfl,?_⟩;have rx:=be ht hy ex;rw[Rel] at rx;obtain⟨B,O,R,hf,e⟩:=rx;have hl':=sj ht hx hl;have:=hc.y b l s.h r0 h0 hcall base S f w _ B O R r hl' hf;refine vc (pre:=resolve a.eval {callee:=.value x,args,argTypes} ty) (x:={target:=.fn (.yield B) #[],args:= #[]++args.map a.eval}) (by simp[resolve,e,Deferred.ofValue]) ?_ rfl
  simp only[invoke];have e2:(args.toList.map a.eval).toArray= #[]++args.map a.eval:=Gr
  grind
 grind
theorem aNZ{x:Operand}{x':Opd}{name:String}{args:Array Operand}{argTypes:Array TypeId}{args':List Opd}{ty:TypeId}(hc:eM P E call)(hm:ez P E)(ht:TmR S f s.tm a.tmps N)(r:WR E.aY base S f s.h w)
  (hy:bA x=Z x') (hx:dK args.toList=Z args') (hrun:aL E call s (.invoke x' name args')=Z (v,s')):
  s'.tm=s.tm/\s'.defers=s.defers/\da P (do let d<-resolve a.eval {callee:=.invoke x name,args,argTypes} ty;invoke d.target d.args) w (Left E base S f s.h w v s'.h):=by
 simp[aL] at hrun;split at hrun
 ·rename_i t u l ex hl;split at hrun
  ·rename_i g hg;simp only[j7,sI,pI] at hrun;obtain⟨⟨r0,h0⟩,hcall,rfl,rfl⟩:=hrun;refine⟨rfl,rfl,?_⟩;have rx:=be ht hy ex;simp[Rel] at rx;obtain⟨z,e,rz⟩:=rx;have hl':=sj ht hx hl;have hrel:aZ S f (u::l) (z::args.toList.map a.eval):=by
    rw[aZ];grind
   have:=um hc hcall r hrel;refine vc (pre:=resolve a.eval {callee:=.invoke x name,args,argTypes} ty) (x:={target:=.fn (.method name) #[],args:= #[a.eval x]++args.map a.eval}) rf ?_ rfl;obtain⟨hm1,_⟩:=hm.m t name g hg z w;have e2:(z::args.toList.map a.eval).toArray= #[z]++(#[a.eval x]++args.map a.eval).extract 1 (#[a.eval x]++args.map a.eval).size:=by
    simp[A5]
   grind [Array.getElem?_append_left,invoke,xM]
  grind
 grind
theorem aTG{x:Operand}{x':Opd}(hm:ez P E)(ht:TmR S f s.tm a.tmps N)(r:WR E.aY base S f s.h w)(hx:bA x=Z x')(ho:o.op=.nilCheck x)(hrun:aL E call s (.cE x')=Z (v,s')):
  s'=s/\(execOp a.eval o).run P w=.ok (.value (a.eval x)) w/\Rel S f v (a.eval x):=by
 simp[aL] at hrun;cases ex:s.eval x' with
 |none=>grind
 |some u=>
  have rx:=be ht hx ex;simp[ex] at hrun;have key:∀X:Value,X=a.eval x->(∀n A B,X≠ .func n A B)->X≠ .pointer Y->X≠ .nilIface->X≠ .nilFunc->(execOp a.eval o).run P w=.ok (.value (a.eval x)) w:=by
   intro X hX h1 h2 h3 h4;unfold execOp
   simp_all
  cases u with
  |val V=>
   simp[Rel] at rx;have hX:=rx.1;cases V with
   |pointer p=>cases p with
    |none=>grind
    |some p=>
     simp at hrun;obtain⟨rfl,rfl⟩:=hrun;exact⟨rfl,key _ hX.symm Sp Sp Sp Sp,by grind [Rel]⟩
   |nilIface=>grind
   |nilFunc=>grind
   |func n A B=>grind
   |_=>
    simp at hrun;obtain⟨rfl,rfl⟩:=hrun;exact⟨rfl,key _ hX.symm Sp Sp Sp Sp,by simp[Rel];exact rx⟩
  |fn F A B=>
   have rx':=rx;simp[Rel] at rx;obtain⟨xs,ys,hX,r1,r2⟩:=rx;cases F with
   |method name=>
    cases A with
    |nil=>grind
    |cons A0 A=>
     cases A0 with
     |ifc t q=>
      simp only at hrun;split at hrun
      ·rename_i g hg;simp at hrun;obtain⟨rfl,rfl⟩:=hrun;refine⟨rfl,?_,rx'⟩;simp[aZ] at r1;obtain⟨y,ys',rfl,ry,_⟩:=r1;simp[Rel] at ry;obtain⟨z,rfl,_⟩:=ry;obtain⟨_,hn⟩:=hm.m t name g hg z w
       simp_all [execOp]
      grind
     |_=>simp at hrun
   |_=>
    simp at hrun;obtain⟨rfl,rfl⟩:=hrun;refine⟨rfl,?_,rx'⟩
    simp_all [execOp]
  |agg cs=>
   simp at hrun;obtain⟨rfl,rfl⟩:=hrun;have rx':=rx;rw[Rel] at rx;grind
  |tup cs=>
   exact U86
  |imm=>
   exact U86
  |own=>
   simp at hrun;obtain⟨rfl,rfl⟩:=hrun;have rx':=rx;rw[Rel] at rx;obtain⟨_,_,_,_,_,e,_⟩:=rx;rcases e with e|⟨_,_,_,_,e⟩<;>grind
  |ptr=>
   exact U87
  |bD=>
   simp at hrun;obtain⟨rfl,rfl⟩:=hrun;have rx':=rx;simp[Rel] at rx;obtain⟨_,_,e,_⟩:=rx
   simp_all
  |ifc=>
   exact U86
  |mp=>
   simp at hrun;obtain⟨rfl,rfl⟩:=hrun;have rx':=rx;rw[Rel] at rx;grind
  |it=>
   exact U87
  |yld=>grind
end ops
end Go.AM
namespace Go.AM
open Go.RowKit
variable {G:Nat->Option (List AV)}{base:Nat}{S:bE}{f:Emb}{h:AH}{w:World}{P:Program}{E:Env}{s:St}{a:Act}{N:Nat}
section ops
variable {call:Cle->List AV->AH->Option (AV×AH)}{o:Oper}{v:AV}{s':St}
theorem Mf{t:TypeId}(h:iW P t=J):∃d,P.underlying t=Z d/\∀m,d≠ .interface m:=by
 unfold iW at h
 grind
theorem Lu{ts:Array TypeId}(h:mj P ts[1]? =J):∀t,ts[1]? =Z t->∃d,P.underlying t=Z d/\∀k,d≠ .int k:=by
 intro t ht;rw[ht] at h;unfold mj at h
 grind
def Fine(E:Env)(P:Program)(base:Nat)(S:bE)(f:Emb)(w:World)(a:Act)(o:Oper)(s:St)(v:AV)(s':St):Prop:=
 s'.tm=s.tm/\s'.defers=s.defers/\da P (execOp a.eval o) w (Left E base S f s.h w v s'.h)
theorem pm{sem:Sem Value}(r:WR E.aY base S f s.h w)(ho:execOp a.eval o=(do pure (Next.value (<-sem))))(k:s'=s/\∃z,sem.run P w=.ok z w/\Rel S f v z):Fine E P base S f w a o s v s':=by
 obtain⟨rfl,z,e,hr⟩:=k;exact⟨rfl,rfl,by grind [Yu,s6]⟩
theorem uz{sem:Sem Value}(ho:execOp a.eval o=(do pure (Next.value (<-sem))))(k:s'.tm=s.tm/\s'.defers=s.defers/\∃z w',sem.run P w=.ok z w'/\Left E base S f s.h w v s'.h z w'):Fine E P base S f w a o s v s':=by
 obtain⟨h1,h2,z,w',e,hr⟩:=k;exact⟨h1,h2,by grind [Yu]⟩
theorem Oq{sem:Sem Unit}(ho:execOp a.eval o=(do sem;pure Next.skip))(k:s'.tm=s.tm/\s'.defers=s.defers/\∃w',sem.run P w=.ok () w'/\Left E base S f s.h w v s'.h undef w'):Fine E P base S f w a o s v s':=by
 obtain⟨h1,h2,w',e,hr⟩:=k;exact⟨h1,h2,by grind [bRA]⟩
theorem Ot{x:Value}(r:WR E.aY base S f s.h w)(ho:execOp a.eval o=pure (Next.value x))(k:s'=s/\Rel S f v x):Fine E P base S f w a o s v s':=by
 obtain⟨rfl,hr⟩:=k;exact⟨rfl,rfl,by rw[ho];exact Gj (x:=x) (w':=w) rfl (s6 r hr)⟩
theorem uv{y:Opd}{args:Array Operand}(ha:dK args.toList=Z [y]):∃x,args= #[x]/\bA x=Z y:=by
 have:args=args.toList.toArray:=Sp;rw[this];cases h:args.toList with
 |nil=>grind [dK]
 |cons x l=>
  rw[h] at ha;unfold dK at ha;cases h1:bA x<;>cases h2:dK l<;>simp[h1,h2] at ha
  rename_i y' ys;obtain⟨rfl,rfl⟩:=ha;cases l with
  |nil=>grind
  |cons x2 l=>
   grind [dK]
theorem xa{y z:Opd}{args:Array Operand}(ha:dK args.toList=Z [y,z]):∃x x',args= #[x,x']/\bA x=Z y/\bA x'=Z z:=by
 have:args=args.toList.toArray:=Sp;rw[this];cases h:args.toList with
 |nil=>grind [dK]
 |cons x l=>
  rw[h] at ha;unfold dK at ha;cases h1:bA x<;>cases h2:dK l<;>simp[h1,h2] at ha
  rename_i y' ys;obtain⟨rfl,rfl⟩:=ha;have h2':dK l.toArray.toList=Z [z]:=Gr;obtain⟨x',e,hx⟩:=uv h2'
  grind
end ops
end Go.AM
namespace Go.AM
open Go.RowKit
variable {G:Nat->Option (List AV)}{base:Nat}{S:bE}{f:Emb}{h:AH}{w:World}{P:Program}{E:Env}{s:St}{a:Act}{N:Nat}
theorem WR.tag(r:WR G base S f h w){b B R:Nat}{t:TypeId}{n:Option Nat}(hl:(h.get b).isSome=J)(hb:f b=Z (B,0,R))(hs:w.shape? B=Z (t,R))(hn:∀k,n=Z k->R=k):
  dp G base S f h w S (upd f h.next (B,0,0)) (h.alloc (.tag b t n)) w:=by
 obtain⟨k,hk⟩:=Ai.1 hl;obtain⟨B0,O0,R0,hf0,hB,hsz,_⟩:=r.blk b k hk;rw[hb] at hf0;simp at hf0;obtain⟨rfl,rfl,rfl⟩:=hf0;have hle:Le S f S (upd f h.next (B,0,0)):=Le.upd _ r.fresh;refine⟨hle,⟨r.gw,λg cs hg=>(r.jV g cs hg).le hle _ _ _,λb' q hq=>?_,λb1 b2 B1 O1 R1 B2 O2 R2 hne g1 g2 hf1 hf2=>?_,λb' x hx=>?_,r.le⟩,.refl _ _,λ_ _ _ _ _=>⟨lx rfl,λ_ _=>rfl⟩,λb' B' O' R' hg hf'=>?_,
  λb x hf hlt=>by grind [s8],Sp⟩
 ·rw[AH.aS] at hq;split at hq
  ·rename_i e;subst e;simp at hq;subst hq;refine⟨B,0,0,pk _ _ _,hB,hsz,?_⟩;simp only[bR];exact⟨trivial,trivial,R,hle.f _ _ hb,hs,hn⟩
  ·rename_i e;obtain⟨B',O',R',hf',hB',hs',hr'⟩:=r.blk b' q hq;exact U162
 ·rw[AH.aS] at g1 g2
  by_cases e1:b1=h.next
  ·grind [pk]
  ·by_cases e2:b2=h.next
   ·grind [pk]
   ·rw[if_neg e1] at g1;rw[if_neg e2] at g2;rw[s8 e1] at hf1;rw[s8 e2] at hf2;exact U163
 ·by_cases e:b'=h.next
  ·simp_all
  ·rw[s8 e] at hx;have:=r.dom _ _ hx;simp;omega
 ·rw[AH.aS] at hg;exact U81
theorem yA(r:WR G base S f h w){b B O R:Nat}{t:TypeId}{n:Option Nat}(ht:kM h b=Z (t,n))(hf:f b=Z (B,O,R)):O=0/\w.shape? B=Z (t,R)/\∀k,n=Z k->R=k:=by
 unfold kM at ht;split at ht
 ·rename_i b' t' n' hb;have hq:=gr ht;obtain⟨he,hq⟩:=hq;simp at hq;obtain⟨rfl,rfl⟩:=hq;have he:=iu he;subst he;obtain⟨B0,O0,R0,hf0,_,_,hr⟩:=r.blk _ _ hb;simp[bR] at hr
  grind
 grind
section ops
variable {call:Cle->List AV->AH->Option (AV×AH)}{o:Oper}{v:AV}{s':St}
theorem ue(w:World)(arr:Array Value)(t:TypeId):(w.alloc (.cells arr t)).shape? w.heap.size=Z (t,arr.size):=by
 have:(w.alloc (.cells arr t)).heap[w.heap.size]? =Z (.cells arr t):=by
  show(w.heap.push _)[w.heap.size]? =_;simp
 grind [World.shape?]
theorem aOB{t:TypeId}{z:List AV}(r:WR E.aY base S f s.h w)(hz:cF P t=Z z)(hrun:aL E call s (.lT z t)=Z (v,s')):
  s'.tm=s.tm/\s'.defers=s.defers/\∃x w',(Instr.alloc t J (.tuple #[])).run P w=.ok x w'/\Left E base S f s.h w v s'.h x w':=by
 simp[aL] at hrun;obtain⟨rfl,rfl⟩:=hrun;obtain⟨zv,hzr,ho,rfl⟩:=uJ hz;have g:=r.fL (cs:=zv.cells.toList.map .val) (arr:=zv.cells) t (by grind [xT]) ho
 have g2:=g.wr.tag (b:=s.h.next) (t:=t) (n:=Z (zv.cells.toList.map AV.val).length) (by rw[AH.aS,if_pos rfl];rfl) (pk _ _ _) (ue _ _ _) (λk hk=>by grind)
 refine⟨rfl,rfl,.pointer (Z ⟨w.heap.size,0,Y⟩),w.alloc (.cells zv.cells t),by simp[Instr.alloc,hzr,newVar,newRow],_,_,g.trans g2,?_⟩
 rw[Rel];exact⟨_,_,_,g2.le.f _ _ (pk _ _ _),rfl⟩
theorem Xr{t:TypeId}{n:Nat}(h:bH P t=Z (n+1)):∃j:TypeInfo,P.info? t=Z j/\j.size≠0:=by
 unfold bH at h;cases hi:P.info? t<;>grind
theorem Yy{src dst t:TypeId}{n:Nat}{x:Operand}{y:Opd}(hP:E.P=P)(ht:TmR S f s.tm a.tmps N)(r:WR E.aY base S f s.h w)(hc:bA x=Z y)(hn:bH P t=Z (n+1))
  (hsd:(P.underlying src=Z (.pointer t)/\P.underlying dst=Z .unsafePointer)\/(P.underlying src=Z .unsafePointer/\P.underlying dst=Z (.pointer t)))
  (hrun:aL E call s (.qE t y)=Z (v,s')):s'=s/\∃z,(convert src dst (a.eval x)).run P w=.ok z w/\Rel S f v z:=by
 simp[aL] at hrun;split at hrun
 ·rename_i b ex;have rx:=be ht hc ex;rw[Rel] at rx;obtain⟨B,O,R,hf,e⟩:=rx;split at hrun
  ·rename_i t' k htag;have hq:=gr hrun;clear hrun;obtain⟨hcd,hq⟩:=hq;simp at hq;obtain⟨rfl,rfl⟩:=hq;rw[im,im] at hcd;obtain⟨⟨c1,c2⟩,c3⟩:=hcd;have c1:=iu c1;subst c1;have c3:=j6 c3;obtain⟨rfl,hsh,hk⟩:=yA r htag hf;have hk:=hk k rfl;subst hk;obtain⟨j,hj,hj0⟩:=Xr hn;refine⟨rfl,.pointer (Z ⟨B,0,Y⟩),?_,by rw[Rel];grind⟩
   grind [Lib.run_to_unsafe,Lib.run_from_unsafe]
  grind
 grind
theorem aTL{g:Nat}{args:Array Operand}{argTypes:Array TypeId}{y:Opd}{ty:TypeId}(hm:ez P E)(ht:TmR S f s.tm a.tmps N)(r:WR E.aY base S f s.h w)(hx:dK args.toList=Z [y])
  (hrun:aL E call s (.qp g y)=Z (v,s')):
  s'.tm=s.tm/\s'.defers=s.defers/\da P (do let d<-resolve a.eval {callee:=.value (.func g),args,argTypes} ty;invoke d.target d.args) w (Left E base S f s.h w v s'.h):=by
 obtain⟨x,rfl,hx1⟩:=uv hx;have hres:(resolve a.eval {callee:=.value (.func g),args:= #[x],argTypes} ty).run P w=.ok {target:=.fn (.func g) #[],args:= #[a.eval x]} w:=by simp[resolve,Act.eval,Deferred.ofValue]
 have red:∀{K:Value->World->Prop} {z:Value} {w':World},(callFunc g #[a.eval x]).run P w=.ok (.value z) w'->K z w'->
   da P (do let d<-resolve a.eval {callee:=.value (.func g),args:= #[x],argTypes} ty;invoke d.target d.args) w K:=by
  intro K z w' h1 h2;refine vc hres ?_ rfl
  grind [da,invoke]
 simp only[aL] at hrun;split at hrun
 ·rename_i u ex;have rx:=be ht hx1 ex;cases hne:mo E g with
  |true=>
   simp[hne] at hrun;obtain⟨rfl,rfl⟩:=hrun;unfold mo at hne;split at hne
   ·rename_i g' hg';have:=iu hne;subst this;exact⟨rfl,rfl,red (hm.x1 g _ w hg') (s6 r rx)⟩
   grind
  |false=>
   simp only[hne,cond_false] at hrun;split at hrun
   ·rename_i g' e hg';have hq:=lO hrun;clear hrun;obtain⟨hgg,hrun⟩:=hq;have:=iu hgg;subst this;split at hrun
    ·rename_i n;have hq:=gr hrun;clear hrun;obtain⟨hn,hq⟩:=hq;simp at hq;obtain⟨rfl,rfl⟩:=hq;have hn:=j6 hn;rw[Rel] at rx;obtain⟨cs,hcs,hle⟩:=hm.x2 g e n w hg' om;have ga:dp E.aY base S f s.h w S f s.h w.drew.drew:=r.kI.trans r.drew.kI;have gb:=ga.wr.alloc (o:=.cells cs e) (k:=.cells [] J) (R:=cs.size) (λf' hle'=>by
      simp only[bR];refine⟨Sp,λi c hc=>by grind,λi hi=>?_,λ_ i hi=>⟨?_,ga.wr.nw _ (ij _)⟩,λ_ _=>Eo _ cs e⟩
      ·rw[jx,World.cell?_alloc_new];grind
      ·rw[jx];grind [World.frozen?_alloc_new])
     have gc:=gb.wr.tag (b:=s.h.next) (t:=e) (n:=Y) (by rw[AH.aS,if_pos rfl];rfl) (pk _ _ _) (ue _ _ _) (λk hk=>by cases hk)
     refine⟨rfl,rfl,red (z:=.slice (Z ⟨w.heap.size,0,Y⟩) n cs.size) (by rw[rx.1];exact hcs) ?_⟩
     refine⟨_,_,(ga.trans gb).trans gc,?_⟩;simp only[Rel];exact⟨w.heap.size,0,cs.size,cs.size,gc.le.f _ _ (pk _ _ _),.inl rfl,hle,Sp,om⟩
    grind
   grind
 grind
theorem Sn{ts:Array TypeId}{ty:TypeId}{x:Operand}{y:Opd}(ht:TmR S f s.tm a.tmps N)(hc:bA x=Z y)(hrun:aL E call s (.gK y)=Z (v,s')):
  s'=s/\∃z,(Builtin.unsafeSliceData_ ts ty #[a.eval x]).run P w=.ok z w/\Rel S f v z:=by
 simp[aL] at hrun;split at hrun
 ·rename_i b off n es cap ex;simp at hrun;obtain⟨rfl,rfl⟩:=hrun;have rx:=be ht hc ex;rw[Rel] at rx;obtain⟨B,O,R,c,hf,e,hle,_,hR⟩:=rx;have e:=e.pos (.inl om);refine⟨rfl,.pointer (Z ⟨B,O+off,Y⟩),?_,by rw[Rel];grind⟩
  grind [Lib.run_unsafeSliceData_row]
 grind
theorem WR.freezeW(r:WR G base S f h w){b B R n:Nat}{cs:List AV}{rw':Bool}{t:TypeId}(hb:h.get b=Z (.cells cs rw'))(hf:f b=Z (B,0,R))(hs:w.shape? B=Z (t,R)):
  dp G base S f h w S f (h.put b (Z (.cells cs U))) (w.freeze ⟨B,0,Y⟩ n):=by
 obtain⟨B0,O0,R0,hf0,hB,hsz,hr⟩:=r.blk b _ hb;rw[hf] at hf0;simp at hf0;obtain⟨rfl,rfl,rfl⟩:=hf0;have hheap:∀j,j≠B->(w.freeze ⟨B,0,Y⟩ n).heap[j]? =w.heap[j]? :=λj hj=>by
  unfold World.freeze
  grind
 obtain⟨arr,fz,hbk⟩:∃arr fz,w.heap[B]? =Z (.cells arr t fz)/\arr.size=R:=by
  simp[World.shape?] at hs
  grind
 obtain⟨hbk,hasz⟩:=hbk;have hself:∃fz',(w.freeze ⟨B,0,Y⟩ n).heap[B]? =Z (.cells arr t fz'):=by
  unfold World.freeze
  grind
 obtain⟨fz',hself⟩:=hself;have hcell:∀off,(w.freeze ⟨B,0,Y⟩ n).cell? ⟨B,off,Y⟩=w.cell? ⟨B,off,Y⟩:=by grind [World.cell?]
 have hcell':∀B' off,(w.freeze ⟨B,0,Y⟩ n).cell? ⟨B',off,Y⟩=w.cell? ⟨B',off,Y⟩:=by grind [World.cell?]
 have hsize:w.heap.size<=(w.freeze ⟨B,0,Y⟩ n).heap.size:=by
  unfold World.freeze
  grind
 have hshape:∀B' sh,w.shape? B'=Z sh->(w.freeze ⟨B,0,Y⟩ n).shape? B'=Z sh:=by grind [World.shape?]
 have same:∀B' O' R',(B≠B'\/0+R<=O'\/O'+R'<=0)->fX w (w.freeze ⟨B,0,Y⟩ n) B' O' R':=λB' O' R' hap=>by
  refine⟨λi _=>hcell' _ _,λi hi hsome=>?_,λ⟨i,hi,hsome⟩ c=>?_,λh0 hR o ho hc=>?_,hshape B'⟩<;>grind [World.cell?,World.frozen?,Clean,isCells]
 have hbl:Below base w (w.freeze ⟨B,0,Y⟩ n):=by
  refine⟨?_,?_,?_,hsize,λk hk=>hheap k om⟩<;>(grind [World.freeze])
 refine⟨.refl _ _,⟨λb' off v hs'=>by rw[hcell'];exact r.gw _ _ _ hs',r.jV,λb' q hq=>?_,λb1 b2 B1 O1 R1 B2 O2 R2 hne g1 g2 hf1 hf2=>?_,r.dom,Nat.le_trans r.le hsize⟩,hbl,λB' O' R' hB' hap=>⟨same B' O' R' ?_,λ_ _=>rfl⟩,λb' B' O' R' hg hg'=>?_,
  λ_ _ h _=>h,ij _⟩
 ·rw[AH.aO] at hq;split at hq
  ·grind [bR]
  ·rename_i e;obtain⟨B',O',R',hf',hB',hs',hr'⟩:=r.blk b' q hq;refine⟨B',O',R',hf',hB',Nat.lt_of_lt_of_le hs' hsize,hr'.same (same B' O' R' ?_)⟩;have:=r.apart b b' B 0 R B' O' R' (λx=>e x.symm) Gr Gr hf hf';omega
 ·refine r.apart b1 b2 B1 O1 R1 B2 O2 R2 hne ?_ ?_ hf1 hf2<;>grind [AH.aO]
 ·have:=hap b B 0 R Gr hf;omega
 ·refine sc b' B' O' R' ?_ hg'
  grind [AH.aO]
theorem xN:∀{cs:List AV} {l:List UInt8} {xs:List Value},fa cs=Z l->aZ S f cs xs->xs=l.map λb=>Value.int .u8 b.toNat
 | [],l,xs,h,r=>by
  grind [fa,aZ]
 |c::cs,l,xs,h,r=>by
  simp[aZ] at r;obtain⟨y,ys,rfl,r1,r2⟩:=r;unfold fa at h;split at h
  ·grind
  ·rename_i n rest hc;simp only[List.cons.injEq] at hc;obtain⟨rfl,rfl⟩:=hc;have hq:=lO h;clear h;obtain⟨hn,h⟩:=hq;simp at h;obtain⟨l',hl,rfl⟩:=h;have hn:n<256:=Sa;rw[Rel] at r1;rw[r1.1,xN hl r2]
   grind [UInt8.toNat_ofNat']
  ·cases h
theorem Sl{pt it e:TypeId}{ty:TypeId}{x n:Operand}{x' n':Opd}(ht:TmR S f s.tm a.tmps N)(r:WR E.aY base S f s.h w)(hx:bA x=Z x')(hn:bA n=Z n')(hp:P.underlying pt=Z (.pointer e))(hc:P.cellsOf e=1)
  (hrun:aL E call s (.fO e x' n')=Z (v,s')):
  s'.tm=s.tm/\s'.defers=s.defers/\∃z w',(Builtin.unsafeString_ #[pt,it] ty #[a.eval x,a.eval n]).run P w=.ok z w'/\Left E base S f s.h w v s'.h z w':=by
 simp only[aL] at hrun;split at hrun
 ·rename_i b k ex en;split at hrun
  ·rename_i cs rw' t m hb htag;have hq:=lO hrun;clear hrun;obtain⟨hcd,hq⟩:=hq;simp[j7] at hq;obtain⟨l,hl,rfl,rfl⟩:=hq;rw[im,im] at hcd;obtain⟨⟨c1,c2⟩,c3⟩:=hcd;have c1:=iu c1;subst c1;have c2:=j6 c2;have c3:=j6 c3;have rx:=be ht hx ex;have rn:=be ht hn en;simp only[Rel] at rx rn;obtain⟨B,O,R,hf,e1⟩:=rx;obtain⟨rfl,hsh,_⟩:=yA r htag hf;obtain⟨B0,O0,R0,hf0,hB,hsz,hr⟩:=r.blk b _ hb;rw[hf] at hf0;simp at hf0;obtain⟨rfl,rfl,rfl⟩:=hf0;rw[bR] at hr;obtain⟨h1,h2,h3,_⟩:=hr
   let ys:List Value:=(List.range (k+1)).map λi=>(w.cell? ⟨B,0+i,Y⟩).getD undef
   have hys:aZ S f (cs.take (k+1)) ys:=by
    grind [aZ.jS]
   have hns:=xN hl hys;have hlen:l.length=k+1:=by
    have h0:=congrArg List.length hns
    grind
   have hcell:∀(j:Nat) (x:UInt8),l[j]? =Z x->w.cell? ((⟨B,0,Y⟩:Addr).add j)=Z (.int .u8 x.toNat):=by
    intro j x hj;have hjl:=(List.getElem?_eq_some_iff.1 hj).1;have h0:ys[j]? =Z (.int .u8 x.toNat):=Gr
    grind [Ai,add_zero]
   have hrun:=Lib.run_unsafeString_row (P:=P) w pt it ty _ hp hc B R hsh l Gr om om hcell;rw[hlen] at hrun;refine⟨rfl,rfl,_,_,?_,S,f,r.freezeW hb hf hsh (n:=k+1),by simp only[Rel];exact⟨rfl,rfl⟩⟩
   grind
  grind
 grind
end ops
end Go.AM
namespace Go.AM
open Go.RowKit
variable {G:Nat->Option (List AV)}{base:Nat}{S:bE}{f:Emb}{h:AH}{w:World}{P:Program}{E:Env}{s:St}{a:Act}{N:Nat}
section ops
variable {call:Cle->List AV->AH->Option (AV×AH)}{o:Oper}{v:AV}{s':St}
theorem xB(r:WR E.aY base S f s.h w){ts:Array TypeId}{elem bytes:Nat}{ty:TypeId}{x y:AV}{sLen sCap n:Nat}{A:Option Addr}{aB:Value}{cs ds:List AV}(hT:AppT P ts elem 1 bytes)
  (hx:Rel S f x (.slice A sLen sCap)) (hy:Rel S f y aB) (ex:au s.h 1 x=Z (ds,sLen)) (ey:au s.h 1 y=Z (cs,n)) (hk:¬sLen+n<=sCap) (ho:cW (sLen+n) bytes=J):
  ∃z w' S' f' R,(Builtin.append_ ts ty #[.slice A sLen sCap,aB]).run P w=.ok z w'/\dp E.aY base S f s.h w S' f' (s.h.alloc (.cells (ds++cs) J)) w'/\Rel S' f' (.own s.h.next 0 (sLen+n) 1 Y) z/\
   f' s.h.next=Z (w.heap.size,0,R)/\w'.shape? w.heap.size=Z (elem,R):=by
 unfold cW at ho;rw[im] at ho;have o1:=j6 ho.1;have o2:=j6 ho.2;unfold cR at o1 o2;have a1:=se (P:=P) r hx ex;have a2:=se (P:=P) r hy ey;have b1:=se (P:=P) r.drew hx ex;have b2:=se (P:=P) r.drew hy ey;obtain⟨arr,c,g1,g2,g3,g4,g5⟩:=Et (ty:=ty) hT a1 a2 b1 b2 hk o1 om;refine⟨_,_,_,_,arr.size,g5,r.kI.trans (r.drew.fL elem g1 g2),?_,pk _ _ _,ue w.drew arr elem⟩;simp only[Rel];exact⟨_,_,_,c,pk _ _ _,.inl rfl,g4,Sp,om⟩
theorem bDB{ts:Array TypeId}{elem:Nat}{ty:TypeId}{x y:Operand}{x' y':Opd}(ht:TmR S f s.tm a.tmps N)(r:WR E.aY base S f s.h w)(hT:AppT P ts elem 1 1)
  (hx:bA x=Z x') (hy:bA y=Z y') (hrun:aL E call s (.appT elem x' y')=Z (v,s')):
  s'.tm=s.tm/\s'.defers=s.defers/\∃z w',(Builtin.append_ ts ty #[a.eval x,a.eval y]).run P w=.ok z w'/\Left E base S f s.h w v s'.h z w':=by
 simp only[aL] at hrun;split at hrun
 case h_2=>exact Nz (E:=E) (call:=call) ht r hT hx hy (by grind [aL])
 rename_i q hq;simp only[sI] at hrun;subst hrun;unfold mT at hq;split at hq
 case h_2=>cases hq
 rename_i u u2 ex ey;have rx:=be ht hx ex;have ry:=be ht hy ey;generalize a.eval x=X at rx⊢
 generalize a.eval y=aB at ry⊢
 split at hq
 case h_1=>cases hq
 rename_i new n el;have a2:=se (P:=P) r ry el;split at hq
 ·
  have rx':=rx;simp only[Rel] at rx';obtain⟨rfl,_⟩:=rx';have hq2:=gr hq;clear hq;obtain⟨hcd,hq2⟩:=hq2;simp only[pI] at hq2;obtain⟨rfl,rfl⟩:=hq2;rw[im] at hcd;have hn:n≠0:=by
   intro e;simp_all
  obtain⟨z,w',S',f',R,g1,g2,g3,g4,g5⟩:=xB (ty:=ty) r hT rx ry (ds:=[]) rf el om Gr;have g6:=g2.wr.tag (b:=s.h.next) (t:=elem) (n:=Y) (by rw[AH.aS,if_pos rfl];rfl) g4 g5 (λk hk=>by cases hk)
  refine⟨rfl,rfl,z,w',g1,S',_,g2.trans g6,?_⟩;have:=g3.le g6.le _ _
  grind
 ·
  rename_i b k;have rx':=rx;simp only[Rel] at rx';obtain⟨B,O,R,c,hf,hX,hle,_,hR⟩:=rx';split at hq
  case h_2=>cases hq
  rename_i cs rw' t m hb htag;have hq2:=gr hq;clear hq;obtain⟨hcd,hq2⟩:=hq2;simp only[pI] at hq2;obtain⟨rfl,rfl⟩:=hq2;simp only[im] at hcd;obtain⟨⟨⟨⟨c1,c2⟩,c3⟩,c4⟩,c5⟩:=hcd;subst c1;have c2:=iu c2;subst c2;have c3:=iu c3;have hn:n≠0:=by
   intro e;simp_all
  obtain⟨rfl,hsh,_⟩:=yA r htag hf;have hcs:cs.length<=R:=by
   grind
  have helx:au s.h 1 (.own b 0 k 1 Y)=Z (cs,k):=by
   simp_all [Aj,au]
  have hbn:b≠s.h.next:=λe=>by have:=r.dom _ _ hf;omega
  have hnl:new.length=n:=by have:=a2.size;omega
  rcases hX with rfl|⟨rfl,rfl,q0,_,rfl⟩
  rotate_left
  ·obtain⟨z,w',S',f',R',g1,g2,g3,g4,g5⟩:=xB (ty:=ty) r hT rx ry helx el om c4;exact U88
  by_cases hfit:k+n<=c
  ·obtain⟨arr,q1,q2,q3,q4⟩:=ua (ty:=ty) (A:=Z ⟨B,0+0,Y⟩) (sLen:=k) (sCap:=c) hT a2 hfit;have hsz:=q1.length;simp only[B7] at hsz;have hst:=r.run_store (P:=P) (off:=0+k*1) hb hf q2 Gr;rw[<-jq] at hst;have g:=r.setCells (cs':=cs++new) (off:=0+k*1) hb hf arr.toList Gr Gr
    (λi c0 hc0 hi=>by
     grind)
    (λi c0 hc0 hi=>by
     rw[Bi om,show 0+k*1+i-cs.length=i by omega] at hc0
     obtain⟨y0,hy0,hrel⟩:=q1.get hc0
     grind)
   have g':=g.wr.rebase (b:=b) (cs:=cs++new) (off:=0) (by rw[AH.aO,if_pos rfl]) hf Sp
   have gg:=g.trans g';have gc:dp E.aY base S f s.h w S (upd f s.h.next (B,0,R)) ((s.h.put b Y).alloc (.cells (cs++new) J)) (w.setCells B (0+0+k*1) arr.toList):=by
    rw[<-jq] at gg;refine gg.congr rfl λj=>?_
    grind [AH.aS,AH.aO,AH.iK]
   have g6:=gc.wr.tag (b:=s.h.next) (t:=t) (n:=Y) (by simp[AH.aS]) (pk _ _ _) (by grind [uD]) (λk hk=>by cases hk)
   refine⟨rfl,rfl,_,_,q4 _ (by grind [add_zero]),S,_,gc.trans g6,?_⟩
   simp only[Rel];exact⟨B,0,R,c,g6.le.f _ _ (pk _ _ _),.inl Sp,hfit,Sp,om⟩
  ·obtain⟨z,w',S',f',R',g1,g2,g3,g4,g5⟩:=xB (ty:=ty) r hT rx ry helx el hfit c4;exact U88
 grind
theorem Mc{src dst e:TypeId}{x:Operand}{y:Opd}(ht:TmR S f s.tm a.tmps N)(r:WR E.aY base S f s.h w)(hc:bA x=Z y)(h1:P.underlying src=Z .string)(h2:P.underlying dst=Z (.slice e))(he:P.underlying e=Z (.int .u8))
  (hrun:aL E call s (.gZ y)=Z (v,s')):s'.tm=s.tm/\s'.defers=s.defers/\∃z w',(convert src dst (a.eval x)).run P w=.ok z w'/\Left E base S f s.h w v s'.h z w':=by
 simp[aL] at hrun;split at hrun
 ·rename_i b ex;simp at hrun;obtain⟨rfl,rfl⟩:=hrun;have rx:=be ht hc ex;simp[Rel] at rx;have hrun:=run_bytes_of_string (P:=P) w src dst e b h1 h2 he;have hcap:b.size<=grownCap w b.size 0 e:=by grind [grownCap,Question.cut]
  generalize grownCap w b.size 0 e=c at hrun hcap;have hsz:(bytesRow b c).size=c:=by
   rw[bytesRow,Array.size_append,Array.size_map,Array.size_replicate]
   simp_all
  have ga:=r.kI;have gb:=ga.wr.alloc (o:=.cells (bytesRow b c) e ((bytesRow b c).size,(bytesRow b c).size+1)) (k:=.cells (b.data.toList.map λb=>.val (.int .u8 b.toNat)) J) (R:=c) (λf' hle'=>by
   have hnew:(w.drew.alloc (.cells (bytesRow b c) e ((bytesRow b c).size,(bytesRow b c).size+1))).heap[w.drew.heap.size]? =Z (.cells (bytesRow b c) e ((bytesRow b c).size,(bytesRow b c).size+1)):=by
    show(w.heap.push _)[w.heap.size]? =_;simp
   simp only[bR];refine⟨Sa,λi q hq=>?_,λi hi=>?_,λ_ i hi=>⟨?_,ga.wr.nw _ (ij _)⟩,λ_ _ arr t lo hi hj=>?_⟩
   ·rw[List.getElem?_map,A8] at hq;obtain⟨u,hu,rfl⟩:=hq;refine⟨.int .u8 u.toNat,?_,rfl,by simp[Rel,Value.oneCell']⟩
    simp only[World.cell?,hnew,jx]
    grind [bytesRow]
   ·simp_all [World.cell?]
   ·simp only[World.frozen?,hnew,jx]
    grind
   grind)
  refine⟨rfl,rfl,_,_,by rw[rx.1];exact hrun,S,_,ga.trans gb,?_⟩
  simp only[Rel];exact⟨w.heap.size,0,c,c,pk _ _ _,.inl rfl,hcap,Sp,om⟩
 grind
end ops
end Go.AM
namespace Go.AM
open Go.RowKit
variable {G:Nat->Option (List AV)}{base:Nat}{S:bE}{f:Emb}{h:AH}{w:World}{P:Program}{E:Env}{s:St}{a:Act}{N:Nat}
section ops
variable {call:Cle->List AV->AH->Option (AV×AH)}{o:Oper}{v:AV}{s':St}
theorem Nc{c:Call}{b:Builtin}{ao:AOp}{ty:TypeId}(ht:TmR S f s.tm a.tmps N)(r:WR E.aY base S f s.h w)(hb:c.callee=.builtin b)
  (hc:cOp P (.call c)=Z ao) (hs:shown ao=J) (hrun:aL E call s ao=Z (v,s')):
  s'.tm=s.tm/\s'.defers=s.defers/\da P (do let d<-resolve a.eval c ty;invoke d.target d.args) w (Left E base S f s.h w v s'.h):=by
 obtain⟨callee,args,argTypes⟩:=c;simp only at hb;subst hb;have same:∀{sem:Sem Value},(s'=s/\∃z,sem.run P w=.ok z w/\Rel S f v z)->
   s'.tm=s.tm/\s'.defers=s.defers/\da P (do pure (Next.value (<-sem))) w (Left E base S f s.h w v s'.h):=by
  rintro sem ⟨rfl,z,e,hr⟩;exact⟨rfl,rfl,Yu e (s6 r hr)⟩
 have ag:∀{sem:Sem Value},(s'.tm=s.tm/\s'.defers=s.defers/\∃z w',sem.run P w=.ok z w'/\Left E base S f s.h w v s'.h z w')->
   s'.tm=s.tm/\s'.defers=s.defers/\da P (do pure (Next.value (<-sem))) w (Left E base S f s.h w v s'.h):=by
  grind [Yu]
 simp[cOp] at hc;cases hl:dK args.toList with
 |none=>grind
 |some l=>
  simp[hl] at hc;obtain⟨cs,hr0⟩:∃cs,(do let d<-resolve a.eval {callee:=.builtin b,args,argTypes} ty;invoke d.target d.args:Sem Next)=builtin b argTypes ty cs (args.map a.eval):=⟨_,rfl⟩
  rw[hr0];split at hc
  ·
   rename_i sl x;obtain⟨x1,x2,rfl,hx1,hx2⟩:=xa hl;split at hc
   ·rename_i e hty;obtain⟨t,ht0,hu⟩:=j7.1 hty;split at hc
    ·rename_i n by' z hn hby hz
     cases hk:(ig z.length n&&mj P argTypes[1]?) with
     |false=>grind
     |true=>
      simp[hk] at hc;rw[im] at hk;rw[show #[x1,x2].map a.eval= #[a.eval x1,a.eval x2] by simp]
      have hT:AppT P argTypes e n by':=⟨⟨t,ht0,hu⟩,Lu hk.2,hn,hby,z,hz,iu hk.1⟩
      cases hbt:(ig n 1&&ig by' 1&&ig (P.cellsOf e) 1) with
      |true=>
       simp[hbt] at hc;subst hc;simp only[im] at hbt;have hn1:=iu hbt.1.1;have hn2:=iu hbt.1.2;subst hn1;subst hn2;exact ag (sem:=Builtin.append_ argTypes ty #[a.eval x1,a.eval x2]) (bDB ht r hT hx1 hx2 hrun)
      |false=>
       simp[hbt] at hc;subst hc;exact ag (sem:=Builtin.append_ argTypes ty #[a.eval x1,a.eval x2]) (Nz ht r hT hx1 hx2 hrun)
    grind
   grind
  ·rename_i d sl;obtain⟨x1,x2,rfl,hx1,hx2⟩:=xa hl;split at hc
   ·rename_i e hty;obtain⟨t,ht0,hu⟩:=j7.1 hty;obtain⟨n,hn,rfl⟩:=A8.1 hc;rw[show #[x1,x2].map a.eval= #[a.eval x1,a.eval x2] by simp]
    simp[shown] at hs
   grind
  ·rename_i x;obtain⟨x1,rfl,hx1⟩:=uv hl;have hts:∀t,argTypes[0]? =Z t->Builtin.len_ argTypes ty (#[x1].map a.eval)=Builtin.len_ #[t] ty #[a.eval x1]:=by
    grind [Builtin.len_]
   split at hc
   all_goals first|cases hc;done|rename_i hty;obtain⟨t,ht0,hu⟩:=j7.1 hty
   ·simp at hc;subst hc;exact same (by rw[hts t ht0];exact aNX ht hx1 hu hrun)
   ·simp at hc;subst hc;exact same (by rw[hts t ht0];exact bCW ht hx1 hu hrun)
   ·simp at hc;subst hc;exact same (by rw[hts t ht0];exact aNY ht r hx1 hu hrun)
   ·simp at hc;subst hc;simp[shown] at hs
   ·split at hc
    ·rename_i n e hq;exact U89
    grind
  ·rename_i x;obtain⟨x1,rfl,hx1⟩:=uv hl;split at hc
   ·rename_i e hty;obtain⟨t,ht0,hu⟩:=j7.1 hty;have hts:Builtin.cap_ argTypes ty (#[x1].map a.eval)=Builtin.cap_ #[t] ty #[a.eval x1]:=by
     grind [Builtin.cap_]
    simp at hc;subst hc;exact same (by rw[hts];exact bCZ ht hx1 hu hrun)
   grind
  ·simp at hc;subst hc;exact same (bKR ht hl hrun)
  ·simp at hc;subst hc;exact same (bKS ht hl hrun)
  ·rename_i x;obtain⟨x1,rfl,hx1⟩:=uv hl;split at hc
   ·rename_i e hty;obtain⟨t,ht0,hu⟩:=j7.1 hty;split at hc
    ·rename_i n z hn hz;simp at hc;subst hc;rw[show #[x1].map a.eval= #[a.eval x1] by simp]
     exact ag (sem:=Builtin.clear_ argTypes ty #[a.eval x1]) (aTJ ht r ht0 hu hn hz hx1 hrun)
    grind
   grind
  ·rename_i m1 k1;obtain⟨x1,x2,rfl,hx1,hx2⟩:=xa hl;split at hc
   ·rename_i kt e hty;obtain⟨t,ht0,hu⟩:=j7.1 hty;split at hc
    ·rename_i d hd;have hq:=gr hc;clear hc;obtain⟨hp,rfl⟩:=hq;rw[show #[x1,x2].map a.eval= #[a.eval x1,a.eval x2] by simp]
     exact ag (sem:=Builtin.delete_ argTypes ty #[a.eval x1,a.eval x2]) (aNV ht r ht0 hu hd hp hx1 hx2 hrun)
    grind
   grind
  ·grind [shown]
  ·rename_i p n;obtain⟨x1,x2,rfl,hx1,hx2⟩:=xa hl;split at hc
   ·rename_i e hty;obtain⟨t,ht0,hu⟩:=j7.1 hty;have hq:=gr hc;clear hc;obtain⟨hcd,rfl⟩:=hq;rw[im] at hcd;have hc1:=iu hcd.1;have hc2:=iu hcd.2;obtain⟨it,hts⟩:∃it,argTypes= #[t,it]:=by
     have h0:0<argTypes.size:=om;have h1:1<argTypes.size:=om;refine⟨argTypes[1],?_⟩
     grind
    subst hts;rw[show #[x1,x2].map a.eval= #[a.eval x1,a.eval x2] by simp]
    exact ag (sem:=Builtin.unsafeString_ #[t,it] ty #[a.eval x1,a.eval x2]) (Sl ht r hx1 hx2 hu hc1 hrun)
   grind
  ·rename_i x;obtain⟨x1,rfl,hx1⟩:=uv hl;simp at hc;subst hc;rw[show #[x1].map a.eval= #[a.eval x1] by simp]
   exact same (sem:=Builtin.unsafeSliceData_ argTypes ty #[a.eval x1]) (Sn ht hx1 hrun)
  grind
end ops
end Go.AM
namespace Go.AM
open Go.RowKit
variable {G:Nat->Option (List AV)}{base:Nat}{S:bE}{f:Emb}{h:AH}{w:World}{P:Program}{E:Env}{s:St}{a:Act}{N:Nat}
section ops
variable {call:Cle->List AV->AH->Option (AV×AH)}{o:Oper}{v:AV}{s':St}
theorem yU{x:Option Operand}(h:gM x=Z Y):x=Y:=by
 cases x<;>simp_all [gM]
theorem Dn{ao:AOp}(hP:E.P=P)(hcall:eM P E call)(hm:ez P E)(ht:TmR S f s.tm a.tmps N)(r:WR E.aY base S f s.h w)
  (hc:cOp P o.op=Z ao) (hs:shown ao=J) (hrun:aL E call s ao=Z (v,s')):Fine E P base S f w a o s v s':=by
 have ho:∀p,o.op=p->execOp a.eval o=execOp a.eval {o with op:=p}:=Sp;generalize hop:o.op=op at hc;have ho:=ho op hop;cases op with
 |move x=>
  simp[cOp] at hc;obtain⟨y,hy,rfl⟩:=hc;exact Ot r ho (bHU ht hy hrun)
 |assign x=>
  simp[cOp] at hc;obtain⟨y,hy,rfl⟩:=hc;exact Ot r ho (bHU ht hy hrun)
 |pick c x y=>
  simp[cOp] at hc;split at hc
  ·rename_i c' x' y' h1 h2 h3;simp at hc;subst hc;obtain⟨rfl,z,e,hr⟩:=bCV (P:=P) (w:=w) ht h1 h2 h3 hrun;refine⟨rfl,rfl,?_⟩;rw[ho];refine Gj (x:=z) (w':=w) ?_ (s6 r hr);have:execOp a.eval {o with op:=.pick c x y}=(do pure (Next.value (<-(asBool (a.eval c)>>=λb=>pure (if b then a.eval x else a.eval y))))):=by simp[execOp]
   rw[this];rw[Sem.run_bind,e,Result.andThen_ok];rfl
  grind
 |alloc t=>
  simp[cOp] at hc;obtain⟨z,hz,hc⟩:=hc;cases hb:isBld P t with
  |true=>simp[hb] at hc;subst hc;exact uz ho (aOB r hz hrun)
  |false=>simp[hb] at hc;subst hc;exact uz ho (aTO r hz hrun)
 |box t x=>
  simp[cOp] at hc;obtain⟨y,hy,rfl⟩:=hc;exact uz ho (bKT ht r hy hrun)
 |build t parts=>exact pm r ho (aTN ht hc hrun)
 |buildSlice t n parts=>exact uz ho (Me ht r hc hrun)
 |load t x=>
  simp[cOp] at hc;split at hc
  ·rename_i n y hn hy;simp at hc;subst hc;exact pm r ho (aHW ht r hn hy hrun)
  grind
 |store t p x=>
  simp[cOp] at hc;split at hc
  ·rename_i n p' x' hn hp hx;simp at hc;subst hc;exact Oq ho (aTF ht r hn hp hx hrun)
  grind
 |nilCheck x=>
  simp[cOp] at hc;obtain⟨y,hy,rfl⟩:=hc;obtain⟨rfl,e,hr⟩:=aTG hm ht r hy hop hrun;exact⟨rfl,rfl,Gj e (s6 r hr)⟩
 |binOp op t x y t'=>
  simp[cOp] at hc;split at hc
  ·rename_i x' y' hx hy;simp at hc;subst hc;exact pm r (sem:=do eqGuard op t x y (a.eval x) (a.eval y);binOp op t (a.eval x) (a.eval y)) ho (bKU ht hx hy hrun hP)
  grind
 |unOp op t x=>
  simp[cOp] at hc;obtain⟨y,hy,rfl⟩:=hc;exact pm r ho (bRB ht hy hP hrun)
 |convert src dst x=>
  simp[cOp] at hc;split at hc
  ·rename_i k0 k y h1 h2 hy;simp at hc;subst hc;exact pm r ho (bCY ht hy h1 h2 hrun)
  ·rename_i y h1 h2 hy;exact U89
  ·rename_i e y h1 h2 hy;split at hc
   ·rename_i h3;simp at hc;subst hc;exact pm r ho (Mb ht r hy h1 h2 h3 hrun)
   grind
  ·rename_i e y h1 h2 hy;split at hc
   ·rename_i h3;simp at hc;subst hc;exact uz ho (Mc ht r hy h1 h2 h3 hrun)
   grind
  ·rename_i e e' y h1 h2 hy;split at hc
   ·rename_i h0 h3;exact U89
   grind
  ·rename_i t y h1 h2 hy;split at hc
   ·rename_i n hn;simp at hc;subst hc;exact pm r ho (Yy hP ht r hy hn (.inl ⟨h1,h2⟩) hrun)
   grind
  ·rename_i t y h1 h2 hy;split at hc
   ·rename_i n hn;simp at hc;subst hc;exact pm r ho (Yy hP ht r hy hn (.inr ⟨h1,h2⟩) hrun)
   grind
  grind
 |makeInterface t x=>
  simp[cOp] at hc;cases hn:iW P t with
  |false=>grind
  |true=>
   simp[hn] at hc;obtain⟨y,hy,rfl⟩:=hc;exact pm r ho (aDV ht hy (Mf hn) hrun)
 |makeFunc fn xs ys=>
  simp[cOp] at hc;split at hc
  ·rename_i l1 l2 h1 h2;simp at hc;subst hc;exact pm r ho (aNT ht h1 h2 hrun)
  grind
 |makeMap t res=>
  cases res with
  |some x=>grind [cOp]
  |none=>
   simp[cOp] at hc;subst hc;exact uz (sem:=Instr.makeMap t Y) ho (aTH r hrun)
 |makeSlice t l c=>
  simp[cOp] at hc;split at hc
  ·rename_i e hu;split at hc
   ·rename_i n z b l' c' hn hz hb hl hc';cases hk:ig z.length n with
    |false=>grind
    |true=>
     simp[hk] at hc;subst hc;exact uz ho (aDU ht r hu hn hz (iu hk) hb hl hc' hrun)
   grind
  grind
 |slice t x lo hi mx=>
  simp[cOp] at hc;split at hc
  ·rename_i e x' lo' hi' mx' hu hx h1 h2 h3;simp at hc;obtain⟨n,hn,rfl⟩:=hc;exact pm r ho (aNS ht r hx hu hn h1 h2 h3 hrun)
  ·rename_i x' lo' hi' hu hx h1 h2 h3;simp at hc;subst hc;have hmx:=yU h3;subst hmx;exact pm r ho (Yv ht hx hu h1 h2 hrun)
  ·rename_i n e x' lo' hi' hu hx h1 h2 h3;simp at hc;obtain⟨m,hn,rfl⟩:=hc;have hmx:=yU h3;subst hmx;exact pm r ho (Ny ht hx (.inl hu) hn r h1 h2 hrun)
  ·rename_i q x' lo' hi' hu hx h1 h2 h3;split at hc
   ·rename_i n e hq;simp at hc;obtain⟨m,hn,rfl⟩:=hc;have hmx:=yU h3;subst hmx;exact pm r ho (Ny ht hx (.inr ⟨_,hu,hq⟩) hn r h1 h2 hrun)
   grind
  grind
 |fieldAddr t x i=>
  simp[cOp] at hc;split at hc
  ·rename_i fs y hu hy;split at hc
   ·rename_i fd hi;split at hc
    ·rename_i n hn;simp at hc;subst hc;exact pm r ho (Sq ht hy hu hi hn hrun)
    grind
   grind
  grind
 |field t x i=>
  simp[cOp] at hc;split at hc
  ·rename_i fs y hu hy;split at hc
   ·rename_i fd hi;simp at hc;obtain⟨n,hn,rfl⟩:=hc;exact pm r ho (aTI ht hy hu hi hn hrun)
   grind
  grind
 |indexAddr t x i=>
  simp[cOp] at hc;split at hc
  ·rename_i e x' i' hu hx hi;simp at hc;obtain⟨n,hn,rfl⟩:=hc;exact pm r ho (Yw ht hx hi hu hn hrun)
  ·rename_i len e x' i' hu hx hi;simp at hc;obtain⟨n,hn,rfl⟩:=hc;exact pm r ho (Yx ht hx hi hu hn hrun)
  grind
 |index t x i=>
  simp[cOp] at hc;split at hc
  ·rename_i x' i' hu hx hi;simp at hc;subst hc;exact pm r ho (aOA ht hx hi hu hrun)
  ·rename_i len e x' i' hu hx hi;split at hc
   ·rename_i n ln hn hl;simp at hc;subst hc;exact pm r ho (bCX ht hx hi hu hn hl hrun)
   grind
  grind
 |lookup t x k ok=>
  simp[cOp] at hc;split at hc
  ·rename_i kt e x' k' hu hx hk;split at hc
   ·rename_i d z hd hz;cases hp:plainKey d with
    |false=>grind
    |true=>
     simp[hp] at hc;subst hc;exact pm r ho (aNW ht r hu hd hp hz hx hk hrun)
   grind
  grind
 |mapUpdate t m k x=>
  simp[cOp] at hc;split at hc
  ·exact U18
  grind
 |insert t m k x=>
  simp[cOp] at hc;split at hc
  ·exact U18
  grind
 |range t x=>
  simp[cOp] at hc;split at hc
  ·rename_i kt e x' hu hx;exact U89
  grind
 |next x b=>
  cases b with
  |true=>grind [cOp]
  |false=>
   simp[cOp] at hc;obtain⟨y,hy,rfl⟩:=hc;simp[shown] at hs
 |entry x=>
  simp[cOp] at hc;obtain⟨y,hy,rfl⟩:=hc;simp[shown] at hs
 |typeAssert x xt t ok=>
  simp[cOp] at hc;cases hn:iW P t with
  |false=>grind
  |true=>
   simp[hn] at hc;split at hc
   ·rename_i x' z hx hz;exact U89
   grind
 |extract x i=>
  simp[cOp] at hc;obtain⟨y,hy,rfl⟩:=hc;exact pm r ho (aDW ht hy hrun)
 |call c=>
  have ho':execOp a.eval o=(do let d<-resolve a.eval c o.type;invoke d.target d.args):=ho
  unfold Fine;rw[ho'];obtain⟨callee,args,argTypes⟩:=c;cases callee with
  |builtin b=>exact Nc ht r rfl hc hs hrun
  |invoke x name=>
   simp[cOp] at hc;cases hl:dK args.toList with
   |none=>grind
   |some l=>
    simp[hl] at hc;obtain⟨y,hy,rfl⟩:=hc
    grind [aNZ]
  |value x=>
   simp[cOp] at hc;cases hl:dK args.toList with
   |none=>grind
   |some l=>
    simp[hl] at hc;cases x with
    |func g=>
     simp only at hc;cases hb:noBody P g with
     |true=>
      simp[hb] at hc
      grind [aTL]
     |false=>
      simp[hb] at hc;grind [bDA]
    |_=>
     simp at hc;obtain⟨y,hy,rfl⟩:=hc
     grind [aTM]
 |defer c=>
  simp[cOp] at hc;split at hc
  ·simp at hc;obtain⟨y,hy,rfl⟩:=hc;grind [shown]
  grind
 |_=>simp[cOp] at hc
end ops
end Go.AM
