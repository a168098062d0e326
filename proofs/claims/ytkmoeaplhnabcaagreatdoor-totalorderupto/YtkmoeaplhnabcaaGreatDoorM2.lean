/- XAmX XAmY XAmZ XAmAb XAmAc XAmAd XAmAe XAmAf XAmAg XAmAgB XAmAgC XAmAh XAmAi -/
import Derived.Test.YtkmoeaplhnabcaaGreatDoorU0
import Derived.Test.YtkmoeaplhnabcaaGreatDoorM1
import Derived.Laws.Cells
import Derived.Lib.Builder
import Derived.Lib.UnsafeStr
import Derived.Lib.MakeNoZero
import Derived.Laws.IdiomStrings

set_option linter.all false
open Option.some renaming injEq → sI
open Prod.mk renaming injEq → pI
open Array renaming ext' → As, getElem?_append_left → Cl, getElem?_eq_getElem → Ab, getElem?_eq_some_iff → Bf, getElem?_modify → Bn, getElem?_setIfInBounds → C3, length_toList → B4, range → B9, toList_append → Cc, toList_map → Bi
open Bool renaming and_eq_true → i9, false_eq_true → ju, not_eq_true' → Au, not_false → A5
open List renaming all_eq_true → iy, cons_append → ja, drop_succ_cons → A6, drop_zero → jj, getElem?_append_right → Bp, getElem?_drop → Az, getElem?_eq_some_iff → A3, getElem?_map → Ag, getElem?_take → Bg, length_cons → im, map_cons → jd, mem_of_getElem? → Bq, nil_append → iz, take_of_length_le → jl
open Nat renaming add_assoc → jn, add_mul → Ah, beq → i5, ble → i6, ble_eq_true_of_le → Aq, eq_of_beq_eq_true → ij, eq_zero_or_pos → Ar, le_of_ble_eq_true → is, le_refl → i7, lt_of_lt_of_le → A9, mul_le_mul_right → B5, mul_one → jt, ne_of_beq_eq_false → jx, sub_self → Bb, zero_add → jp, zero_le → ir, zero_mul → Bc
open Option renaming bind_eq_some_iff → j7, getD_none → Ac, getD_some → jr, isSome_iff_exists → Af, map_eq_some_iff → iw, map_some → jo
namespace Go.AM
open Go.RowKit
variable {G:Nat→Option (List AV)}{base:Nat}{S:Snap}{f:Emb}{h:AH}{w:World}{P:Program}{E:Env}{s:St}{a:Act}{N:Nat}
def OptI:Option Value→Option Nat→Prop
 |none,none=>True
 |some x,some k=>∃q,x=.int q (k:Int)
 |_,_=>False
theorem aF{α:Type}{c:Bool}{x y:α}(h:(bif c then some x else none)=some y):c=true∧x=y:=by
 cases c<;>simp_all
theorem aN{α:Type}{c:Bool}{x:Option α}{y:α}(h:(bif c then x else none)=some y):c=true∧x=some y:=by
 cases c<;>simp_all
section ops
variable {call:Cle→List AV→AH→Option (AV×AH)}{o:Oper}{v:AV}{s':St}
theorem b8{x:Option Operand}{x':Option Opd}{n:Option Nat}(ht:TmR S f s.tm a.tmps N)(hc:cOptO x=some x')(he:optN s x'=some n):OptI (x.map a.eval) n:=by
 cases x with
 |none=>
  simp[cOptO] at hc;subst hc;simp[optN] at he;subst he;trivial
 |some x=>
  simp only[cOptO,iw] at hc;obtain⟨y,hy,rfl⟩:=hc;simp only[optN] at he;cases hu:s.eval y with
  |none=>simp[hu] at he
  |some u=>
   simp only[hu,iw] at he;obtain⟨k,hk,rfl⟩:=he;obtain⟨q,e⟩:=eL (aA ht hy hu) hk;exact⟨q,e⟩
theorem av{x:Value}{q:IntKind}{k y:Nat}{code:BoundsCode}(e:x=.int q (k:Int))(hk:k≤y):(Instr.sliceBound x y code).run P w=.ok k w:=by
 subst e;simp only[Instr.sliceBound,asIntOf,Sem.run_bind,Sem.run_pure,Result.andThen_ok];rw[if_pos om];simp
theorem ca{isSlice:Bool}{len cap:Nat}{lo hi mx:Option Value}{lo' hi' mx':Option Nat}(h1:OptI lo lo')(h2:OptI hi hi')(h3:OptI mx mx')
  (k1:mx'.getD cap≤cap) (k2:hi'.getD len≤mx'.getD cap) (k3:lo'.getD 0≤hi'.getD len) (k4:mx'=none∨hi'≠none):
  (Instr.sliceBounds isSlice len cap lo hi mx).run P w=.ok (lo'.getD 0,hi'.getD len,mx'.getD cap) w:=by
 cases mx with
 |none=>
  cases mx' with
  |some _=>exact h3.elim
  |none=>
   simp only[Ac] at*;cases hi with
   |none=>
    cases hi' with
    |some _=>exact h2.elim
    |none=>
     cases lo with
     |none=>cases lo' with
      |some _=>exact h1.elim
      |none=>simp[Instr.sliceBounds]
     |some x=>cases lo' with
      |none=>exact h1.elim
      |some k=>
       obtain⟨q,e⟩:=h1;simp only[jr,Ac] at*;simp[Instr.sliceBounds,av e k3]
   |some y=>
    cases hi' with
    |none=>exact h2.elim
    |some m=>
     obtain⟨q2,e2⟩:=h2;simp only[jr] at*;cases lo with
     |none=>cases lo' with
      |some _=>exact h1.elim
      |none=>simp[Instr.sliceBounds,av e2 k2]
     |some x=>cases lo' with
      |none=>exact h1.elim
      |some k=>
       obtain⟨q,e⟩:=h1;simp only[jr] at*;simp[Instr.sliceBounds,av e2 k2,av e k3]
 |some z=>
  cases mx' with
  |none=>exact h3.elim
  |some m3=>
   obtain⟨q3,e3⟩:=h3;simp only[jr] at*;cases hi with
   |none=>
    cases hi' with
    |some _=>exact h2.elim
    |none=>simp at k4
   |some y=>
    cases hi' with
    |none=>exact h2.elim
    |some m=>
     obtain⟨q2,e2⟩:=h2;simp only[jr] at*;cases lo with
     |none=>cases lo' with
      |some _=>exact h1.elim
      |none=>simp[Instr.sliceBounds,av e3 k1,av e2 k2]
     |some x=>cases lo' with
      |none=>exact h1.elim
      |some k=>
       obtain⟨q,e⟩:=h1;simp only[jr] at*;simp[Instr.sliceBounds,av e3 k1,av e2 k2,av e k3]
theorem bJ{len cap:Nat}{lo hi mx:Option Nat}{l hh m:Nat}(e:sliceB len cap lo hi mx=some (l,hh,m)):
  l=lo.getD 0∧hh=hi.getD len∧m=mx.getD cap∧m≤cap∧hh≤m∧l≤hh∧(mx=none∨hi≠none):=by
 unfold sliceB at e;obtain⟨hk,e⟩:=aF e;simp only[pI] at e;obtain⟨rfl,rfl,rfl⟩:=e;simp only[i9,Bool.or_eq_true] at hk;have q1:=is hk.1.1.1;have q2:=is hk.1.1.2;have q3:=is hk.1.2;refine⟨rfl,rfl,rfl,q1,q2,q3,?_⟩;rcases hk.2 with h|h
 ·left;cases mx<;>simp_all
 ·right;cases hi<;>simp_all
theorem eU{l c es R off:Nat}(h:l≤c)(k:off+c*es≤R):off+l*es+(c-l)*es≤R:=by
 have:l*es+(c-l)*es=c*es:=by rw[←Ah];congr 1;omega
 omega
theorem qW{h:AH}{es:Nat}{v u:AV}{lo hi mx:Option Nat}(hs:sliceW h es v lo hi mx=some u):∃b off n k cs rw,v=.own b off n es none∧hi=some k∧mx=none∧h.get b=some (.cells cs rw)∧0<es∧lo.getD 0<k∧off+k*es≤cs.length∧u=.own b (off+lo.getD 0*es) (k-lo.getD 0) es none:=by
 unfold sliceW at hs;split at hs
 ·rename_i b off n es' k;split at hs
  ·rename_i cs rw hb;have hq:=aF hs;clear hs;obtain⟨hc,hq⟩:=hq;simp only[i9] at hc;have e:=ij hc.1.1;subst e;exact⟨b,off,n,k,cs,rw,rfl,rfl,rfl,hb,is hc.1.2,is hc.2.1,is hc.2.2,hq.symm⟩
  ·cases hs
 ·cases hs
theorem wv{t e:TypeId}{n:Nat}{x:Operand}{x':Opd}{lo hi mx:Option Operand}{lo' hi' mx':Option Opd}(ht:TmR S f s.tm a.tmps N)(wr:WR E.globs base S f s.h w)(hx:cOpd x=some x')(hu:P.underlying t=some (.slice e))
  (hn:sizeOf? P e=some n) (h1:cOptO lo=some lo') (h2:cOptO hi=some hi') (h3:cOptO mx=some mx') (hrun:runOp E call s (.sliceS n x' lo' hi' mx')=some (v,s')):
  s'=s∧∃z,(Instr.sliceAt t (a.eval x) (lo.map a.eval) (hi.map a.eval) (mx.map a.eval)).run P w=.ok z w∧Rel S f v z:=by
 simp only[runOp] at hrun;cases ex:s.eval x' with
 |none=>simp[ex] at hrun
 |some u=>
 cases e1:optN s lo' with
 |none=>simp[ex,e1] at hrun
 |some lo2=>
 cases e2:optN s hi' with
 |none=>simp[ex,e1,e2] at hrun
 |some hi2=>
 cases e3:optN s mx' with
 |none=>simp[ex,e1,e2,e3] at hrun
 |some mx2=>
 simp only[ex,e1,e2,e3,j7,sI,pI] at hrun;obtain⟨u',hsl,rfl,rfl⟩:=hrun;refine⟨rfl,?_⟩;have o1:=b8 ht h1 e1;have o2:=b8 ht h2 e2;have o3:=b8 ht h3 e3;have r:=aA ht hx ex;generalize a.eval x=X at r⊢
 generalize lo.map a.eval=LO at o1⊢
 generalize hi.map a.eval=HI at o2⊢
 generalize mx.map a.eval=MX at o3⊢
 have key:∀(A:Option Addr) (len cap:Nat),X=.slice A len cap→mx2.getD cap≤cap→hi2.getD len≤mx2.getD cap→lo2.getD 0≤hi2.getD len→(mx2=none∨hi2≠none)→
   (Instr.sliceAt t X LO HI MX).run P w=.ok (.slice (if mx2.getD cap=lo2.getD 0 then A else A.map (·.add (lo2.getD 0*n))) (hi2.getD len-lo2.getD 0) (mx2.getD cap-lo2.getD 0)) w:=by
  intro A len cap hX k1 k2 k3 k4;subst hX;simp only[Instr.sliceAt,Sem.run_bind,run_underlying hu,Result.andThen_ok,Instr.slice,ca o1 o2 o3 k1 k2 k3 k4,aU hn,Sem.run_pure]
 have hsl':=Option.or_eq_some_iff.1 hsl;clear hsl;rcases hsl' with hsl|⟨_,hsl⟩
 rotate_left
 ·
  obtain⟨b,off,m0,k,cs,rw',rfl,rfl,rfl,hb,hes,hlk,hfit,rfl⟩:=qW hsl;have r':=r;simp only[Rel] at r';obtain⟨B,O,R,c,hf,hX,hle,hcap,hR⟩:=r';have hcs:cs.length≤R:=by
   obtain⟨B0,O0,R0,hf0,_,_,hr⟩:=wr.blk b _ hb;rw[hf] at hf0;simp only[sI,pI] at hf0;obtain⟨rfl,rfl,rfl⟩:=hf0;simp only[BlkR] at hr;exact hr.1
  have hRc:=hR.2 trivial;have hkc:k≤c:=by
   have:k*n≤c*n:=by omega
   exact Nat.le_of_mul_le_mul_right this hes
  rcases hX with hX|⟨rfl,rfl,q0,hq0,hX⟩
  ·have:=key _ _ _ hX (by simp) (by simpa using hkc) (by simp;omega) (.inr (by simp))
   refine⟨_,this,?_⟩;simp only[jr,Ac,Rel];refine⟨B,O,R,c-lo2.getD 0,hf,.inl ?_,om,(fun k hk=>by cases hk),eU om hR.1,fun _=>?_⟩
   ·rw[if_neg om];simp[Addr.add,jn]
   ·have e:c*n=lo2.getD 0*n+(c-lo2.getD 0)*n:=by rw[←Ah];congr 1;omega
    omega
  ·omega
 unfold sliceA' at hsl;split at hsl
 ·
  split at hsl
  ·rename_i l hh m hb;simp only[sI] at hsl;subst hsl;obtain⟨q1,q2,q3,q4,q5,q6,q7⟩:=bJ hb;have r':=r;simp only[Rel] at r';have:=key none 0 0 r'.1 om om om q7;refine⟨_,this,?_⟩;have z1:lo2.getD 0=0:=by omega
   have z2:hi2.getD 0=0:=by omega
   have z3:mx2.getD 0=0:=by omega
   rw[z1,z2,z3];simp[Rel,Value.oneCell']
  ·cases hsl
 ·
  rename_i cs m0 cap;simp only[Rel] at r;obtain⟨b,off,c,hX,hle,hcap,hr⟩:=r;split at hsl
  ·rename_i l hh m hb;obtain⟨q1,q2,q3,q4,q5,q6,q7⟩:=bJ hb;have hq:=aN hsl;clear hsl;obtain⟨hm,hsl⟩:=hq;have hm:=is hm;have k:mx2.getD c≤c∧hi2.getD m0≤mx2.getD c:=by
    cases mx2 with
    |none=>simp only[Ac] at*;omega
    |some q=>simp only[jr] at*;omega
   have hrun:=key _ _ _ hX k.1 k.2 om q7;refine⟨_,hrun,?_⟩;rw[←q1,←q2];have hpart:∃b' off',(if mx2.getD c=l then some (⟨b,off,none⟩:Addr) else(some (⟨b,off,none⟩:Addr)).map (·.add (l*n)))=some ⟨b',off',none⟩∧RelC S ((cs.drop (l*n)).take ((hh-l)*n)) b' off':=by
    by_cases hml:mx2.getD c=l
    ·have:hh-l=0:=by omega
     refine⟨b,off,by rw[if_pos hml],?_⟩
     rw[this];simp[RelC]
    ·exact⟨b,off+l*n,by rw[if_neg hml];simp[add_zero],(hr.drop _).take _⟩
   obtain⟨b',off',hadd,hrel⟩:=hpart;rw[hadd];cases mx2 with
   |some q=>
    simp only[jr] at*;simp only[sI] at hsl;subst hsl;simp only[Rel];exact⟨b',off',_,rfl,om,fun k hk=>by simp at hk;omega,hrel⟩
   |none=>
    simp only[Ac] at*;cases cap with
    |some c0=>
     simp only[sI] at hsl;subst hsl;have:=hcap c0 rfl;simp only[Rel];exact⟨b',off',_,rfl,om,fun k hk=>by simp at hk;omega,hrel⟩
    |none=>
     simp only[sI] at hsl;subst hsl;simp only[Rel];exact⟨b',off',_,rfl,om,fun k hk=>by simp at hk,hrel⟩
  ·cases hsl
 ·
  rename_i b off m0 es cap;simp only[Rel] at r;obtain⟨B,O,R,c,hf,hX,hle,hcap,hR⟩:=r;have hq:=aN hsl;clear hsl;obtain⟨hes,hsl⟩:=hq;have hes:=ij hes;subst hes;rcases hX with hX|⟨rfl,rfl,q0,hq0,hX⟩
  rotate_left
  ·
   cases cap with
   |some c0=>
    have hc0:=hcap c0 rfl;subst hc0;simp only[] at hsl;split at hsl
    ·rename_i l hh m hb;obtain⟨q1,q2,q3,q4,q5,q6,q7⟩:=bJ hb;simp only[sI] at hsl;subst hsl;have hrun:=key _ _ _ hX om om om q7;refine⟨_,hrun,?_⟩;rw[←q1,←q2,←q3];have e1:l=0:=by omega
     have e2:hh=0:=by omega
     have e3:m=0:=by omega
     subst e1;subst e2;subst e3;simp only[Rel];exact⟨B,O,R,0,hf,.inr ⟨rfl,rfl,q0,hq0,by simp⟩,i7 _,fun k hk=>by simp at hk;omega,by simp;omega⟩
    ·cases hsl
   |none=>
    simp only[] at hsl;split at hsl
    ·rename_i l hh m hb;obtain⟨q1,q2,q3,q4,q5,q6,q7⟩:=bJ hb;have hq:=aN hsl;clear hsl;obtain⟨hm,hsl⟩:=hq;have hm:=is hm;have k:mx2.getD 0≤0∧hi2.getD 0≤mx2.getD 0:=by
      cases mx2 with
      |none=>simp only[Ac] at*;omega
      |some q=>simp only[jr] at*;omega
     have hrun:=key _ _ _ hX k.1 k.2 om q7;refine⟨_,hrun,?_⟩;rw[←q1,←q2];have e1:l=0:=by omega
     have e2:hh=0:=by omega
     have e3:mx2.getD 0=0:=by omega
     subst e1;subst e2;rw[e3];cases mx2 with
     |some q=>
      simp only[jr] at*;subst e3;simp only[sI] at hsl;subst hsl;simp only[Rel];refine⟨B,O,R,0,hf,.inr ⟨rfl,rfl,q0,hq0,by simp⟩,i7 _,fun k hk=>by simp at hk;omega,?_⟩
      cases i5 m 0<;>simp<;>omega
     |none=>
      have:i5 0 0=true:=rfl;simp only[this,cond_true,sI] at hsl;subst hsl;simp only[Rel];exact⟨B,O,R,0,hf,.inr ⟨rfl,rfl,q0,hq0,by simp⟩,i7 _,fun k hk=>by simp at hk,hR.1,fun _=>hR.2 rfl⟩
    ·cases hsl
  cases cap with
  |some c0=>
   have hc0:=hcap c0 rfl;subst hc0;simp only[] at hsl;split at hsl
   ·rename_i l hh m hb;obtain⟨q1,q2,q3,q4,q5,q6,q7⟩:=bJ hb;simp only[sI] at hsl;subst hsl;have hrun:=key _ _ _ hX om om om q7;refine⟨_,hrun,?_⟩;rw[←q1,←q2,←q3];simp only[Rel];refine⟨B,O,R,m-l,hf,.inl ?_,om,fun k hk=>by simp at hk;omega,?_,fun h=>by cases h⟩
    ·by_cases hml:m=l
     ·subst hml;simp
     ·have:i5 m l=false:=by cases hb:i5 m l with
       |false=>rfl
       |true=>exact absurd (ij hb) hml
      simp[hml,this,add_zero,jn]
    ·cases hb:i5 m l with
     |true=>
      have:=ij hb;subst this;simp only[cond_true,Bb,Bc];omega
     |false=>
      simp only[cond_false];have:=eU (es:=n) (R:=R) (off:=off) (l:=l) (c:=c) om hR.1;have:(m-l)*n≤(c-l)*n:=B5 _ om;omega
   ·cases hsl
  |none=>
   simp only[] at hsl;split at hsl
   ·rename_i l hh m hb;obtain⟨q1,q2,q3,q4,q5,q6,q7⟩:=bJ hb;have hq:=aN hsl;clear hsl;obtain⟨hm,hsl⟩:=hq;have hm:=is hm;have k:mx2.getD c≤c∧hi2.getD m0≤mx2.getD c:=by
     cases mx2 with
     |none=>simp only[Ac] at*;omega
     |some q=>simp only[jr] at*;omega
    have hrun:=key _ _ _ hX k.1 k.2 om q7;refine⟨_,hrun,?_⟩;rw[←q1,←q2];cases mx2 with
    |some q=>
     simp only[jr] at*;simp only[sI] at hsl;subst hsl;simp only[Rel];refine⟨B,O,R,q-l,hf,.inl ?_,om,fun k hk=>by simp at hk;omega,?_,fun h=>by cases h⟩
     ·by_cases hml:q=l
      ·subst hml;simp[q3]
      ·have:i5 m l=false:=by cases hb:i5 m l with
        |false=>rfl
        |true=>exact absurd (ij hb) om
       simp[hml,this,add_zero,jn]
     ·cases hb:i5 m l with
      |true=>
       have:=ij hb;have:q-l=0:=by omega
       simp only[cond_true,this,Bc];omega
      |false=>
       simp only[cond_false];have:=eU (es:=n) (R:=R) (off:=off) (l:=l) (c:=c) om hR.1;have:(q-l)*n≤(c-l)*n:=B5 _ om;omega
    |none=>
     simp only[Ac] at*;cases hl0:i5 l 0 with
     |true=>
      simp only[hl0,cond_true,sI] at hsl;subst hsl;have hl:=ij hl0;simp only[Rel];refine⟨B,O,R,c,hf,.inl ?_,om,fun k hk=>by simp at hk,hR.1,fun _=>hR.2 trivial⟩
      rw[hl]
      by_cases hc:c=0
      ·simp[hc]
      ·simp[hc,Addr.add]
     |false=>
      simp only[hl0,cond_false] at hsl;have hq:=aN hsl;clear hsl;obtain⟨hlt,hsl⟩:=hq;have hlt:=is hlt;simp only[sI] at hsl;subst hsl;simp only[Rel];refine⟨B,O,R,c-l,hf,?_,om,fun k hk=>by simp at hk,eU om hR.1,fun _=>by
       have:=hR.2 trivial;have e:c*n=l*n+(c-l)*n:=by rw[←Ah];congr 1;omega
       omega⟩
      by_cases hcl:c=l
      ·refine .inr ⟨om,om,off,om,?_⟩;rw[if_pos hcl];have e1:hh-l=0:=by omega
       have e2:c-l=0:=by omega
       rw[e1,e2]
      ·refine .inl ?_
       rw[if_neg hcl];simp[add_zero,jn]
   ·cases hsl
 ·cases hsl
end ops
end Go.AM
namespace Go.AM
open Go.RowKit
variable {G:Nat→Option (List AV)}{base:Nat}{S:Snap}{f:Emb}{h:AH}{w:World}{P:Program}{E:Env}{s:St}{a:Act}{N:Nat}
section ops
variable {call:Cle→List AV→AH→Option (AV×AH)}{o:Oper}{v:AV}{s':St}
theorem qw{t:TypeId}{x:Operand}{x':Opd}{lo hi:Option Operand}{lo' hi':Option Opd}(ht:TmR S f s.tm a.tmps N)(hx:cOpd x=some x')(hu:P.underlying t=some .string)
  (h1:cOptO lo=some lo') (h2:cOptO hi=some hi') (hrun:runOp E call s (.sliceStr x' lo' hi')=some (v,s')):
  s'=s∧∃z,(Instr.sliceAt t (a.eval x) (lo.map a.eval) (hi.map a.eval) none).run P w=.ok z w∧Rel S f v z:=by
 simp only[runOp] at hrun;split at hrun
 ·rename_i b lo2 hi2 ex e1 e2;split at hrun
  ·rename_i l hh m hb;simp only[sI,pI] at hrun;obtain⟨rfl,rfl⟩:=hrun;obtain⟨q1,q2,q3,q4,q5,q6,q7⟩:=bJ hb;have o1:=b8 ht h1 e1;have o2:=b8 ht h2 e2;have r:=aA ht hx ex;simp only[Rel] at r;refine⟨rfl,.string (b.extract l hh),?_,by simp[Rel,Value.oneCell']⟩
   rw[r.1];have hs:=ca (P:=P) (w:=w) (isSlice:=false) (len:=b.size) (cap:=b.size) (mx:=none) (mx':=none) o1 o2 trivial (by simp) (by simp;omega) om (.inl rfl)
   simp only[Instr.sliceAt,Sem.run_bind,run_underlying hu,Result.andThen_ok,Instr.slice];simp[hs,q1,q2]
  ·cases hrun
 ·cases hrun
theorem nW{t:TypeId}{x:Operand}{x':Opd}{len n:Nat}{e:TypeId}{lo hi:Option Operand}{lo' hi':Option Opd}(ht:TmR S f s.tm a.tmps N)(hx:cOpd x=some x')
  (hu:P.underlying t=some (.array len e)∨∃q,P.underlying t=some (.pointer q)∧P.underlying q=some (.array len e)) (hn:sizeOf? P e=some n)
  (r:WR E.globs base S f s.h w) (h1:cOptO lo=some lo') (h2:cOptO hi=some hi') (hrun:runOp E call s (.sliceA n len x' lo' hi')=some (v,s')):
  s'=s∧∃z,(Instr.sliceAt t (a.eval x) (lo.map a.eval) (hi.map a.eval) none).run P w=.ok z w∧Rel S f v z:=by
 have key:∀(b off:Nat) (lo2 hi2:Option Nat) (l hh m:Nat),a.eval x=.pointer (some ⟨b,off,none⟩)→OptI (lo.map a.eval) lo2→OptI (hi.map a.eval) hi2→sliceB len len lo2 hi2 none=some (l,hh,m)→
   (Instr.sliceAt t (a.eval x) (lo.map a.eval) (hi.map a.eval) none).run P w=.ok (.slice (some (if m=l then⟨b,off,none⟩ else⟨b,off+l*n,none⟩)) (hh-l) (m-l)) w:=by
  intro b off lo2 hi2 l hh m hX o1 o2 hb;obtain⟨q1,q2,q3,q4,q5,q6,q7⟩:=bJ hb;have hs:=ca (P:=P) (w:=w) (isSlice:=false) (len:=len) (cap:=len) (mx:=none) (mx':=none) o1 o2 trivial (by simp) (by simp;omega) om (.inl rfl)
  rw[hX];rcases hu with hu|⟨q,hu,hq⟩
  ·simp only[Instr.sliceAt,Sem.run_bind,run_underlying hu,Result.andThen_ok,Instr.sureAddr,Sem.run_pure,hs,aU hn];simp[q1,q2,q3,add_zero]
  ·simp only[Instr.sliceAt,Sem.run_bind,run_underlying hu,Result.andThen_ok,Instr.slice,asAddr,Sem.run_pure,hs,aU hn,run_underlying hq];simp[q1,q2,q3,add_zero]
 simp only[runOp] at hrun;split at hrun
 ·rename_i b off lo2 hi2 ex e1 e2;cases hb0:s.h.get b with
  |none=>simp[hb0] at hrun
  |some k0=>
   cases k0 with
   |cells cs rw'=>
    simp only[hb0] at hrun;have hq:=aN hrun;clear hrun;obtain⟨hlen,hrun⟩:=hq;have hlen:=is hlen;split at hrun
    ·rename_i l hh m hb;simp only[sI,pI] at hrun;obtain⟨rfl,rfl⟩:=hrun;obtain⟨q1,q2,q3,q4,q5,q6,q7⟩:=bJ hb;have rr:=aA ht hx ex;simp only[Rel] at rr;obtain⟨B,O,R,hf,hX⟩:=rr;have hcs:cs.length≤R:=by
      obtain⟨B0,O0,R0,hf0,_,_,hr⟩:=r.blk b _ hb0;rw[hf] at hf0;simp only[sI,pI] at hf0;obtain⟨rfl,rfl,rfl⟩:=hf0;simp only[BlkR] at hr;exact hr.1
     refine⟨rfl,_,key B (O+off) lo2 hi2 l hh m hX (b8 ht h1 e1) (b8 ht h2 e2) hb,?_⟩;simp only[Rel];refine⟨B,O,R,m-l,hf,.inl ?_,om,fun k hk=>by simp at hk;omega,?_,fun h=>by cases h⟩
     ·by_cases hml:m=l
      ·subst hml;simp
      ·have:i5 m l=false:=by cases hb:i5 m l with
        |false=>rfl
        |true=>exact absurd (ij hb) hml
       simp[hml,this,jn]
     ·cases hbe:i5 m l with
      |true=>
       have:=ij hbe;subst this;simp only[cond_true,Bb,Bc];have:0≤len*n:=ir _;omega
      |false=>
       simp only[cond_false];have h1:=eU (es:=n) (R:=R) (off:=off) (l:=l) (c:=len) om om;have:(m-l)*n≤(len-l)*n:=B5 _ om;omega
    ·cases hrun
   |_=>simp[hb0] at hrun
 ·rename_i cs lo2 hi2 ex e1 e2;split at hrun
  ·rename_i l hh m hb;simp only[sI,pI] at hrun;obtain⟨rfl,rfl⟩:=hrun;obtain⟨q1,q2,q3,q4,q5,q6,q7⟩:=bJ hb;have rr:=aA ht hx ex;simp only[Rel] at rr;obtain⟨b,off,hX,hr⟩:=rr;refine⟨rfl,_,key b off lo2 hi2 l hh m hX (b8 ht h1 e1) (b8 ht h2 e2) hb,?_⟩;simp only[Rel]
   by_cases hml:m=l
   ·have:hh-l=0:=by omega
    exact⟨b,off,m-l,by rw[if_pos hml],om,fun k hk=>by simp at hk;omega,by rw[this];simp[RelC]⟩
   ·exact⟨b,off+l*n,m-l,by rw[if_neg hml],om,fun k hk=>by simp at hk;omega,(hr.drop _).take _⟩
  ·cases hrun
 ·cases hrun
theorem fQ:∀{cs:List AV} {l:List UInt8} {xs:List Value},bytesList cs=some l→RelL S f cs xs→∃ns:List Int,xs=ns.map (Value.int .u8)∧l=ns.map fun n=>UInt8.ofNat n.toNat
 | [],l,xs,h,r=>by
  simp[bytesList] at h;subst h;simp only[RelL] at r;subst r;exact⟨[],rfl,rfl⟩
 |c::cs,l,xs,h,r=>by
  simp only[RelL] at r;obtain⟨y,ys,rfl,r1,r2⟩:=r;unfold bytesList at h;split at h
  ·rename_i hh;cases hh
  ·rename_i n rest hc;simp only[List.cons.injEq] at hc;obtain⟨rfl,rfl⟩:=hc;simp only[iw] at h;obtain⟨l',hl,rfl⟩:=h;obtain⟨ns,e1,e2⟩:=fQ hl r2;simp only[Rel] at r1;exact⟨n::ns,by rw[r1.1,e1];rfl,by rw[e2];rfl⟩
  ·cases h
structure ElemsRun (P:Program) (S:Snap) (f:Emb) (w:World) (X:Value) (es n:Nat) (cs:List AV):Prop where
 len:(Builtin.lenOf X).run P w=.ok n w
 size:cs.length=n*es
 cells:∀m,m≤n→∃arr:Array Value,(Builtin.firstCells es m X).run P w=.ok arr w∧RelL S f (cs.take (m*es)) arr.toList∧arr.toList.all (·.oneCell')=true∧arr.size=m*es
theorem oQ{b off:Nat}{cs:List AV}(hc:∀(i:Nat) (c:AV),cs[i]? =some c→∃y,w.cell? ⟨b,off+i,none⟩=some y∧y.oneCell'=true∧Rel S f c y):
  ∃arr:Array Value,(loadCells ⟨b,off,none⟩ cs.length).run P w=.ok arr w∧RelL S f cs arr.toList∧arr.toList.all (·.oneCell')=true∧arr.size=cs.length:=by
 have hca:CellsAt S f w (.pointer (some ⟨b,off,none⟩)) cs b off:=⟨rfl,hc⟩;have:=nI (P:=P) hca (n:=some cs.length) (v:=.agg cs) (by simp[takeN,Aq (i7 cs.length)])
 obtain⟨ys,hy,hr⟩:=this;simp only[Rel] at hr;obtain⟨xs,e,ho,hr⟩:=hr;simp only[Value.agg.injEq] at e;subst e;exact⟨_,hy,by simpa using hr,by simpa using ho,by simpa using hr.length.symm⟩
theorem bK(r:WR G base S f h w){x:AV}{X:Value}{es n:Nat}{cs:List AV}(hr:Rel S f x X)(he:elemsOf h es x=some (cs,n)):ElemsRun P S f w X es n cs:=by
 unfold elemsOf at he;split at he
 ·rename_i aa cc;simp only[sI,pI] at he;obtain⟨rfl,rfl⟩:=he;simp only[Rel] at hr;rw[hr.1];refine⟨by simp[Builtin.lenOf],by simp,fun m hm=>?_⟩
  have:m=0:=by omega
  subst this;cases aa with
  |none=>exact⟨#[],by simp[Builtin.firstCells],by simp[RelL],by simp,by simp⟩
  |some aa=>
   have hc:(loadCells aa 0).run P w=.ok #[] w:=rfl;exact⟨#[],by simpa [Builtin.firstCells] using hc,by simp[RelL],by simp,by simp⟩
 ·rename_i b;obtain⟨hes,he⟩:=aF he;have hes:=ij hes;subst hes;obtain⟨rfl,rfl⟩:=he;simp only[Rel] at hr;rw[hr.1];refine⟨by simp[Builtin.lenOf],by simp only[List.length_map,B4,jt];rfl,fun m hm=>?_⟩
  have hext:(b.extract 0 m).data.toList=b.data.toList.take m:=by simp[ByteArray.data_extract]
  have hmap:((b.extract 0 m).data.map fun c=>Value.int .u8 c.toNat).toList=(b.data.toList.take m).map fun c=>Value.int .u8 c.toNat:=by
   rw[Bi,hext]
  refine⟨(b.extract 0 m).data.map fun c=>.int .u8 c.toNat,by simp[Builtin.firstCells],?_,?_,?_⟩
  ·rw[hmap,jt,←List.map_take];have:(b.data.toList.take m).map (fun c=>AV.val (.int .u8 c.toNat))=((b.data.toList.take m).map fun c=>Value.int .u8 c.toNat).map .val:=by rw[List.map_map];rfl
   rw[this];exact RelL.flatVals _ (by rw[List.all_map];exact iy.2 fun _ _=>rfl)
  ·rw[hmap,List.all_map];exact iy.2 fun _ _=>rfl
  ·have:((b.extract 0 m).data.map fun c=>Value.int .u8 c.toNat).toList.length=m:=by
    have hb:b.size=b.data.size:=rfl;rw[hmap];simp;omega
   simpa using this
 ·rename_i cs0 n0 cap;obtain⟨hk,he⟩:=aF he;have hk:=is hk;simp only[pI] at he;obtain⟨rfl,rfl⟩:=he;simp only[Rel] at hr;obtain⟨b,off,c,rfl,_,_,hr⟩:=hr;refine⟨by simp[Builtin.lenOf],by simp;omega,fun m hm=>?_⟩
  have hmm:m*es≤n0*es:=B5 _ hm;obtain⟨arr,h1,h2,h3,h4⟩:=oQ (P:=P) (S:=S) (f:=f) (w:=w) (b:=b) (off:=off) (cs:=cs0.take (m*es)) (fun i c hc=>by
   have hc':cs0[i]? =some c:=by
    rw[Bg] at hc;split at hc
    ·exact hc
    ·cases hc
   obtain⟨y,hy,ho,hrel⟩:=hr.get hc';exact⟨y,r.snap _ _ _ hy,ho,hrel.any⟩)
  have hl:(cs0.take (m*es)).length=m*es:=by simp;omega
  rw[hl] at h1 h4;refine⟨arr,by simpa [Builtin.firstCells] using h1,?_,h3,h4⟩
  rw[List.take_take,Nat.min_eq_left hmm];exact h2
 ·rename_i b off n0 es' cap;have hq:=aN he;clear he;obtain⟨hes,he⟩:=hq;have hes:=ij hes;subst hes;split at he
  ·rename_i cs0 rw' hb;obtain⟨hk,he⟩:=aF he;have hk:=is hk;simp only[pI] at he;obtain⟨rfl,rfl⟩:=he;simp only[Rel] at hr;obtain⟨B,O,R,c,hf,hX,_,_,_⟩:=hr;rcases hX with rfl|⟨rfl,rfl,q,_,rfl⟩
   rotate_left
   ·refine⟨by simp[Builtin.lenOf],by simp,fun m hm=>?_⟩
    have:m=0:=by omega
    subst this;have hc:(loadCells ⟨B,O+q,none⟩ 0).run P w=.ok #[] w:=rfl;refine⟨#[],by simpa [Builtin.firstCells] using hc,by simp[RelL],rfl,by simp⟩
   obtain⟨B0,O0,R0,hf0,_,_,hbr⟩:=r.blk b _ hb;rw[hf] at hf0;simp only[sI,pI] at hf0;obtain⟨rfl,rfl,rfl⟩:=hf0;simp only[BlkR] at hbr;refine⟨by simp[Builtin.lenOf],by simp;omega,fun m hm=>?_⟩
   have hmm:m*es≤n0*es:=B5 _ hm;obtain⟨arr,h1,h2,h3,h4⟩:=oQ (P:=P) (S:=S) (f:=f) (w:=w) (b:=B) (off:=O+off) (cs:=(cs0.drop off).take (m*es)) (fun i c hc=>by
    have hc':cs0[off+i]? =some c:=by
     rw[Bg] at hc;split at hc
     ·rw[Az] at hc;exact hc
     ·cases hc
    have:=hbr.2.1 _ c hc'
    rwa [←jn] at this)
   have hl:((cs0.drop off).take (m*es)).length=m*es:=by simp;omega
   rw[hl] at h1 h4;refine⟨arr,by simpa [Builtin.firstCells] using h1,?_,h3,h4⟩
   rw[List.take_take,Nat.min_eq_left hmm];exact h2
  ·cases he
 ·cases he
theorem lY:∀(ns:List Int) (acc:ByteArray),ns.foldl (fun r n=>r.push (UInt8.ofNat n.toNat)) acc=⟨(acc.data.toList++ns.map fun n=>UInt8.ofNat n.toNat).toArray⟩
 | [],acc=>by simp
 |n::ns,acc=>by
  simp only[List.foldl_cons,lY ns,jd];simp[ByteArray.push]
theorem qV{u:AV}{X:Value}{es n:Nat}{cs:List AV}(hr:Rel S f u X)(he:elemsOf h es u=some (cs,n))(hu:∀x,u≠ .val x):∃A m c,X=.slice (some A) m c:=by
 unfold elemsOf at he;split at he
 ·exact absurd rfl (hu _)
 ·exact absurd rfl (hu _)
 ·simp only[Rel] at hr;obtain⟨b,off,c,rfl,_⟩:=hr;exact⟨_,_,_,rfl⟩
 ·simp only[Rel] at hr;obtain⟨B,O,R,c,_,hX,_⟩:=hr;rcases hX with rfl|⟨_,_,q,_,rfl⟩
  ·exact⟨_,_,_,rfl⟩
  ·exact⟨_,_,_,rfl⟩
 ·cases he
theorem m4{src dst e:TypeId}{x:Operand}{y:Opd}(ht:TmR S f s.tm a.tmps N)(r:WR E.globs base S f s.h w)(hc:cOpd x=some y)(h1:P.underlying src=some (.slice e))(h2:P.underlying dst=some .string)
  (h3:P.underlying e=some (.int .u8)) (hrun:runOp E call s (.strOfBytes y)=some (v,s')):s'=s∧∃z,(convert src dst (a.eval x)).run P w=.ok z w∧Rel S f v z:=by
 have key:∀(A:Option Addr) (n c:Nat) (z:Value),a.eval x=.slice A n c→(Conv.bytesToString (.slice A n c)).run P w=.ok z w→(convert src dst (a.eval x)).run P w=.ok z w:=by
  intro A n c z hX hz;rw[hX];simp only[convert,Sem.run_bind,run_underlying h1,run_underlying h2,Result.andThen_ok,run_underlying h3];exact hz
 simp only[runOp] at hrun;split at hrun
 ·rename_i hx;simp only[sI,pI] at hrun;obtain⟨rfl,rfl⟩:=hrun;have hr:=aA ht hc hx;simp only[Rel] at hr;exact⟨rfl,.string ⟨#[]⟩,key _ _ _ _ hr.1 rfl,by simp[Rel,Value.oneCell']⟩
 ·cases hrun
 ·rename_i u hnil hval hx;split at hrun
  ·rename_i cs n hel;simp only[j7,sI,pI] at hrun;obtain⟨b,hb,rfl,rfl⟩:=hrun;have hr:=aA ht hc hx;have el:=bK (P:=P) r hr hel;obtain⟨A,m,c,hX⟩:=qV hr hel hval;have hlen:=el.len;rw[hX] at hlen;simp only[Builtin.lenOf,Sem.run_pure,Result.ok.injEq,and_true] at hlen;subst hlen;obtain⟨arr,g1,g2,g3,g4⟩:=el.cells m (i7 _);rw[jl (by rw[el.size];exact i7 _)] at g2
   unfold bytesOf at hb;simp only[iw] at hb;obtain⟨l,hl,rfl⟩:=hb;obtain⟨ns,e1,e2⟩:=fQ hl g2;have harr:arr=(ns.map (Value.int .u8)).toArray:=by rw[←e1]
   rw[hX] at g1;simp only[Builtin.firstCells,jt] at g1;rw[harr] at g1;refine⟨rfl,.string ⟨l.toArray⟩,key _ _ _ _ hX ?_,by simp[Rel,Value.oneCell']⟩
   rw[run_bytesToString w A m c ns g1,lY,e2];rfl
  ·cases hrun
 ·cases hrun
theorem nw(n:Nat):∀(k c:Nat),c<n→Builtin.growBy n k c≤2*n+192
 |0,c,h=>by unfold Builtin.growBy;omega
 |k+1,c,h=>by
  unfold Builtin.growBy;rw[if_neg om]
  by_cases h2:c+(c+768)/4<n
  ·exact nw n k _ h2
  ·have:∀k d,n≤d→d≤2*n+192→Builtin.growBy n k d≤2*n+192:=by
    intro k;cases k with
    |zero=>intro d _ h;simpa [Builtin.growBy] using h
    |succ k=>intro d h1 h2;unfold Builtin.growBy;rw[if_pos h1];exact h2
   exact this k _ om om
theorem tq{n c:Nat}(h:c<n):Builtin.nextslicecap n c≤2*n+192:=by
 unfold Builtin.nextslicecap;split
 ·omega
 ·split
  ·omega
  ·exact nw n 4 c h
end ops
end Go.AM
namespace Go.AM
open Go.RowKit
variable {G:Nat→Option (List AV)}{base:Nat}{S:Snap}{f:Emb}{h:AH}{w:World}{P:Program}{E:Env}{s:St}{a:Act}{N:Nat}
section ops
variable {call:Cle→List AV→AH→Option (AV×AH)}{o:Oper}{v:AV}{s':St}
structure AppT (P:Program) (ts:Array TypeId) (elem es bytes:Nat):Prop where
 ty:∃t,ts[0]? =some t∧P.underlying t=some (.slice elem)
 zs:∀t,ts[1]? =some t→∃d,P.underlying t=some d∧∀k,d≠ .int k
 size:sizeOf? P elem=some es
 bytes:(P.info? elem).map (·.bytes)=some bytes
 zero:∃z,zeroCells? P elem=some z∧z.length=es
theorem cX{ts:Array TypeId}{elem es bytes:Nat}{ty:TypeId}{A:Option Addr}{sLen sCap n:Nat}{X:Value}{cs:List AV}(hT:AppT P ts elem es bytes)(hx:ElemsRun P S f w X es n cs)(hk:sLen+n≤sCap):
  ∃arr:Array Value,RelL S f cs arr.toList∧arr.toList.all (·.oneCell')=true∧arr.size=n*es∧
  ∀w',(match A with|some p=>storeCells (p.add (sLen*es)) arr.toList|none=>pure ()).run P w=.ok () w'→
   (Builtin.append_ ts ty #[.slice A sLen sCap,X]).run P w=.ok (.slice A (sLen+n) sCap) w':=by
 obtain⟨arr,g1,g2,g3,g4⟩:=hx.cells n (i7 _);rw[jl (by rw[hx.size];exact i7 _)] at g2
 refine⟨arr,g2,g3,g4,fun w' hw=>?_⟩;obtain⟨t,ht0,hu⟩:=hT.ty;have e0:(#[Value.slice A sLen sCap,X]:Array Value)[0]? =some (.slice A sLen sCap):=rfl;have e1:(#[Value.slice A sLen sCap,X]:Array Value)[1]? =some X:=rfl;unfold Builtin.append_;simp only[ht0,e0,e1,Sem.run_bind,run_underlying hu,Result.andThen_ok,aU hT.size];cases h1:ts[1]? with
 |none=>
  simp only[Sem.run_bind,Sem.run_pure,Result.andThen_ok,ju,if_false,hx.len,A5,if_true,if_pos hk,g1];cases A with
  |none=>
   simp only[Sem.run_pure,Result.ok.injEq,true_and] at hw;subst hw;simp
  |some p=>
   simp only at hw⊢
   simp only[Sem.run_bind,hw,Result.andThen_ok,Sem.run_pure]
 |some t1=>
  obtain⟨d,hd,hnd⟩:=hT.zs t1 h1;have hz0:(match d with|.int _=>true|_=>false)=false:=by cases d<;>first|rfl|exact absurd rfl (hnd _)
  simp only[Sem.run_bind,run_underlying hd,Sem.run_pure,Result.andThen_ok,ju,if_false,hx.len,A5,if_true,if_pos hk,g1];cases A with
  |none=>
   simp only[Sem.run_pure,Result.ok.injEq,true_and] at hw;subst hw;simp
  |some p=>
   simp only at hw⊢
   simp only[Sem.run_bind,hw,Result.andThen_ok,Sem.run_pure]
theorem kR{ts:Array TypeId}{elem es bytes:Nat}{ty:TypeId}{A:Option Addr}{sLen sCap n:Nat}{X:Value}{cs ds:List AV}(hT:AppT P ts elem es bytes)
  (hs:ElemsRun P S f w (.slice A sLen sCap) es sLen ds) (hx:ElemsRun P S f w X es n cs) (hs':ElemsRun P S f w.drew (.slice A sLen sCap) es sLen ds) (hx':ElemsRun P S f w.drew X es n cs)
  (hk:¬sLen+n≤sCap) (hb:(sLen+n)*bytes≤2^40) (hm:sLen+n≤2^60):
  ∃(arr:Array Value) (c:Nat),RelL S f (ds++cs) (arr.toList.take (ds++cs).length)∧arr.toList.all (·.oneCell')=true∧arr.size=c*es∧sLen+n≤c∧
   (Builtin.append_ ts ty #[.slice A sLen sCap,X]).run P w=.ok (.slice (some ⟨w.heap.size,0,none⟩) (sLen+n) c) (w.drew.alloc (.cells arr elem)):=by
 obtain⟨arr,g1,g2,g3,g4⟩:=hx'.cells n (i7 _);rw[jl (by rw[hx'.size];exact i7 _)] at g2
 obtain⟨arr0,k1,k2,k3,k4⟩:=hs'.cells sLen (i7 _);rw[jl (by rw[hs'.size];exact i7 _)] at k2
 obtain⟨t,ht0,hu⟩:=hT.ty;obtain⟨z,hz,hzl⟩:=hT.zero;obtain⟨zv,hzr,hzo,rfl⟩:=cF hz;have hzn:zv.cells.size=es:=by simpa using hzl
 let c:=(Question.appendCap (sLen+n) sCap elem).cut (w.tape w.drawn (.appendCap (sLen+n) sCap elem))
 have hc:sLen+n≤c:=by simp only[c,Question.cut];omega
 obtain⟨z1,z2⟩:=ez (S:=S) (f:=f) hzo (c-(sLen+n)) es hzn;have hzc:Builtin.zeroCells zv.cells (c-(sLen+n))=(B9 ((c-(sLen+n))*es)).map (zv.cells[· %zv.cells.size]!):=by
  unfold Builtin.zeroCells;rw[hzn]
 have hds:=hs'.size;have hcs:=hx'.size;refine⟨arr0++arr++Builtin.zeroCells zv.cells (c-(sLen+n)),c,?_,?_,?_,hc,?_⟩
 ·simp only[Cc];rw[List.take_append_of_le_length (by simp[k4,g4];omega)]
  rw[jl (by simp[k4,g4];omega)]
  exact k2.append g2
 ·simp only[Cc,List.all_append,i9];exact⟨⟨k3,g3⟩,by rw[hzc];exact z2⟩
 ·rw[hzc];simp only[Array.size_append,k4,g4,Array.size_map,Array.size_range];rw[←Ah,←Ah];congr 1;omega
 ·cases hi:P.info? elem with
  |none=>have:=hT.bytes;simp[hi] at this
  |some i=>
   have hib:i.bytes=bytes:=by have:=hT.bytes;simpa [hi] using this
   have hti:∀w,(typeInfo elem).run P w=.ok i w:=fun w=>by simp[typeInfo,hi]
   have e0:(#[Value.slice A sLen sCap,X]:Array Value)[0]? =some (.slice A sLen sCap):=rfl;have e1:(#[Value.slice A sLen sCap,X]:Array Value)[1]? =some X:=rfl;have hnc:=tq (n:=sLen+n) (c:=sCap) om;have hbig:¬(Builtin.nextslicecap (sLen+n) sCap*bytes>2^48):=by
    have h1:Builtin.nextslicecap (sLen+n) sCap*bytes≤(2*(sLen+n)+192)*bytes:=B5 _ hnc;have h2:bytes≤2^40:=by
     have:1*bytes≤(sLen+n)*bytes:=B5 _ om;omega
    have h3:(2*(sLen+n)+192)*bytes=2*((sLen+n)*bytes)+192*bytes:=by rw[Ah,Nat.mul_assoc]
    omega
   have hmax:(IntKind.i64.max:Int)=9223372036854775807:=by decide
   have hch:(choose (.appendCap (sLen+n) sCap elem)).run P w=.ok c w.drew:=by
    rw[run_choose,if_neg (by simp only[Question.forced];exact Bool.false_ne_true)]
    rfl
   unfold Builtin.append_;simp only[ht0,e0,e1,Sem.run_bind,run_underlying hu,Result.andThen_ok,aU hT.size];cases h1:ts[1]? with
   |none=>
    simp only[Sem.run_bind,Sem.run_pure,Result.andThen_ok,ju,if_false,hx.len,A5,if_true,if_neg hk,hti,hib];rw[if_neg (fun q=>by have:=q.1;omega)]
    simp only[Sem.run_bind,hti,Result.andThen_ok,hib,if_neg hbig,hch,run_askRoom,k1,g1,hzr];rfl
   |some t1=>
    obtain⟨d,hd,hnd⟩:=hT.zs t1 h1;have hz0:(match d with|.int _=>true|_=>false)=false:=by cases d<;>first|rfl|exact absurd rfl (hnd _)
    simp only[Sem.run_bind,run_underlying hd,Sem.run_pure,Result.andThen_ok,ju,if_false,hx.len,A5,if_true,if_neg hk,hti,hib];rw[if_neg (fun q=>by have:=q.1;omega)]
    simp only[Sem.run_bind,hti,Result.andThen_ok,hib,if_neg hbig,hch,run_askRoom,k1,g1,hzr];rfl
theorem WR.goesDrew(r:WR G base S f h w):Goes G base S f h w S f h w.drew:=⟨.refl _ _,r.drew,(Below.refl _ _).drew,fun _ _ _ _ _=>⟨aQ rfl,fun _ _=>rfl⟩,bB,fun _ _ h _=>h,i7 _⟩
theorem WR.rebase(r:WR G base S f h w){b:Nat}{cs:List AV}{B O R off:Nat}(hb:h.get b=some (.cells cs true))(hf:f b=some (B,O,R))(ho:off≤cs.length):
  Goes G base S f h w S (upd f h.next (B,O+off,R-off)) ((h.put b none).alloc (.cells (cs.drop off) true)) w:=by
 obtain⟨B0,O0,R0,hf0,hB,hsz,hr⟩:=r.blk b _ hb;rw[hf] at hf0;simp only[sI,pI] at hf0;obtain⟨rfl,rfl,rfl⟩:=hf0;have hle:Le S f S (upd f h.next (B,O+off,R-off)):=Le.upd _ r.fresh;have hbn:b<h.next:=r.dom _ _ hf;have hr0:=hr;simp only[BlkR] at hr;obtain⟨h1,h2,h3,h4,h5⟩:=hr;refine⟨hle,⟨r.snap,fun g cs hg=>(r.glob g cs hg).le hle _ _ _,?_,?_,?_,r.le⟩,.refl _ _,fun _ _ _ _ _=>⟨aQ rfl,fun _ _=>rfl⟩,?_,fun b x hf hlt=>by rw[bP om] at hf;exact hf,by simp⟩
 ·intro b' k hk;rw[AH.get_alloc] at hk;split at hk
  ·rename_i e;simp only[AH.next_put] at e;subst e;simp only[sI] at hk;subst hk;refine⟨B,O+off,R-off,aR _ _ _,hB,hsz,?_⟩;simp only[BlkR];refine⟨by simp;omega,fun i c hc=>?_,fun i hi=>by rw[jn];exact h3 _ om,fun _ i hi=>?_,fun _ h0=>h5 trivial om⟩
   ·rw[Az] at hc;obtain⟨y,hy,hoy,hrel⟩:=h2 _ c hc;exact⟨y,by rw[jn];exact hy,hoy,hrel.le hle _ _⟩
   ·have:=h4 trivial (off+i) om;rw[jn];exact this
  ·rename_i e;simp only[AH.next_put] at e;rw[AH.get_put] at hk;split at hk
   ·cases hk
   ·obtain⟨B',O',R',hf',hB',hs',hr'⟩:=r.blk b' k hk;exact⟨B',O',R',by rw[bP e];exact hf',hB',hs',hr'.le hle (fun _ _ e=>e)⟩
 ·intro b1 b2 B1 O1 R1 B2 O2 R2 hne g1 g2 hf1 hf2;rw[AH.get_alloc,AH.next_put,AH.get_put] at g1 g2
  by_cases e1:b1=h.next
  ·subst e1;rw[aR] at hf1;simp only[sI,pI] at hf1;obtain⟨rfl,rfl,rfl⟩:=hf1;have e2:b2≠h.next:=fun e=>hne e.symm;rw[if_neg e2] at g2;split at g2
   ·cases g2
   ·rename_i e3;rw[bP e2] at hf2;have:=r.apart b b2 B O R B2 O2 R2 (fun e=>e3 e.symm) (by simp[hb]) g2 hf hf2
    omega
  ·rw[if_neg e1] at g1;split at g1
   ·cases g1
   ·rename_i e3;rw[bP e1] at hf1
    by_cases e2:b2=h.next
    ·subst e2;rw[aR] at hf2;simp only[sI,pI] at hf2;obtain⟨rfl,rfl,rfl⟩:=hf2;have:=r.apart b1 b B1 O1 R1 B O R e3 g1 (by simp[hb]) hf1 hf
     omega
    ·rw[if_neg e2] at g2;split at g2
     ·cases g2
     ·rw[bP e2] at hf2;exact r.apart b1 b2 B1 O1 R1 B2 O2 R2 hne g1 g2 hf1 hf2
 ·intro b' x hx
  by_cases e:b'=h.next
  ·subst e;simp
  ·rw[bP e] at hx;have:=r.dom _ _ hx;simp;omega
 ·intro b' B' O' R' hg hf';rw[AH.get_alloc,AH.next_put,AH.get_put] at hg
  by_cases e:b'=h.next
  ·subst e;rw[aR] at hf';simp only[sI,pI] at hf';obtain⟨rfl,rfl,rfl⟩:=hf';have h1':=List.length_drop (i:=off) (l:=cs);exact .inr ⟨b,O,R,by simp[hb],hf,om,om⟩
  ·rw[if_neg e] at hg;rw[bP e] at hf';split at hg
   ·cases hg
   ·exact bB b' B' O' R' hg hf'
theorem dq(r:WR E.globs base S f s.h w){ts:Array TypeId}{elem es bytes:Nat}{ty:TypeId}{x y:AV}{sLen sCap n:Nat}{A:Option Addr}{Y:Value}{cs ds:List AV}(hT:AppT P ts elem es bytes)
  (hx:Rel S f x (.slice A sLen sCap)) (hy:Rel S f y Y) (ex:elemsOf s.h es x=some (ds,sLen)) (ey:elemsOf s.h es y=some (cs,n)) (hk:¬sLen+n≤sCap) (ho:okLen (sLen+n) bytes=true):
  ∃z w',(Builtin.append_ ts ty #[.slice A sLen sCap,Y]).run P w=.ok z w'∧Left E base S f s.h w (.own s.h.next 0 (sLen+n) es none) (s.h.alloc (.cells (ds++cs) true)) z w':=by
 unfold okLen at ho;simp only[i9] at ho;have o1:=is ho.1;have o2:=is ho.2;unfold mostBytes at o1 o2;have a1:=bK (P:=P) r hx ex;have a2:=bK (P:=P) r hy ey;have b1:=bK (P:=P) r.drew hx ex;have b2:=bK (P:=P) r.drew hy ey;obtain⟨arr,c,g1,g2,g3,g4,g5⟩:=kR (ty:=ty) hT a1 a2 b1 b2 hk o1 om;refine⟨_,_,g5,_,_,r.goesDrew.trans (r.drew.allocCells elem g1 g2),?_⟩;simp only[Rel];exact⟨_,_,_,c,aR _ _ _,.inl rfl,g4,by simp,om⟩
end ops
end Go.AM
namespace Go.AM
open Go.RowKit
variable {G:Nat→Option (List AV)}{base:Nat}{S:Snap}{f:Emb}{h:AH}{w:World}{P:Program}{E:Env}{s:St}{a:Act}{N:Nat}
theorem WR.congr {h h' : AH} (r : WR G base S f h w) (hn : h'.next = h.next) (hg : ∀ j, h'.get j = h.get j) : WR G base S f h' w :=
  ⟨r.snap, r.glob, fun b k hb => r.blk b k (by rw [← hg]; exact hb), fun b b' B O R B' O' R' hne h1 h2 => r.apart b b' B O R B' O' R' hne (by rw [← hg]; exact h1) (by rw [← hg]; exact h2),
   fun b x hx => by rw [hn]; exact r.dom b x hx, r.le⟩
theorem Goes.congr{S':Snap}{f':Emb}{h' h'':AH}{w':World}(g:Goes G base S f h w S' f' h' w')(hn:h''.next=h'.next)(hg:∀j,h''.get j=h'.get j):Goes G base S f h w S' f' h'' w':=
 ⟨g.le,g.wr.congr hn hg,g.below,g.keep,fun b B O R hb hf=>g.live b B O R (by rw[←hg];exact hb) hf,g.fresh,by rw[hn];exact g.nx⟩
theorem Goes.kill{S':Snap}{f':Emb}{h':AH}{w':World}(g:Goes G base S f h w S' f' h' w')(b:Nat):Goes G base S f h w S' f' (h'.put b none) w':=
 ⟨g.le,g.wr.kill b,g.below,g.keep,fun b' B O R hb hf=>g.live b' B O R (by
  rw[AH.get_put] at hb;split at hb
  ·cases hb
  ·exact hb) hf,g.fresh,g.nx⟩
section ops
variable {call:Cle→List AV→AH→Option (AV×AH)}{o:Oper}{v:AV}{s':St}
theorem cY(r:WR E.globs base S f s.h w){ts:Array TypeId}{elem es bytes:Nat}{ty:TypeId}{y:AV}{sLen sCap n:Nat}{b off:Nat}{A:Option Addr}{Y:Value}{cs:List AV}(hT:AppT P ts elem es bytes)
  (hA:A=none∨A=some ⟨b,off,none⟩) (hy:Rel S f y Y) (ey:elemsOf s.h es y=some (cs,n)) (hn:n=0) (hk:sLen≤sCap):
  (Builtin.append_ ts ty #[.slice A sLen sCap,Y]).run P w=.ok (.slice A sLen sCap) w:=by
 subst hn;have a2:=bK (P:=P) r hy ey;obtain⟨arr,_,_,hz,hrun⟩:=cX (ty:=ty) (A:=A) (sLen:=sLen) (sCap:=sCap) hT a2 om;have hnil:arr.toList=[]:=by
  have:arr.size=0:=by rw[hz];simp
  simpa using this
 have:=hrun w (by
  rw[hnil];rcases hA with rfl|rfl<;>rfl)
 simpa using this
theorem nX{ts:Array TypeId}{elem es bytes:Nat}{ty:TypeId}{x y:Operand}{x' y':Opd}(ht:TmR S f s.tm a.tmps N)(r:WR E.globs base S f s.h w)(hT:AppT P ts elem es bytes)
  (hx:cOpd x=some x') (hy:cOpd y=some y') (hrun:runOp E call s (.append es bytes x' y')=some (v,s')):
  s'.tm=s.tm∧s'.defers=s.defers∧∃z w',(Builtin.append_ ts ty #[a.eval x,a.eval y]).run P w=.ok z w'∧Left E base S f s.h w v s'.h z w':=by
 simp only[runOp,appendA] at hrun;cases ex:s.eval x' with
 |none=>simp[ex] at hrun
 |some u=>
 cases ey:s.eval y' with
 |none=>simp[ex,ey] at hrun
 |some u2=>
 simp only[ex,ey] at hrun;have rx:=aA ht hx ex;have ry:=aA ht hy ey;generalize a.eval x=X at rx⊢
 generalize a.eval y=Y at ry⊢
 cases el:elemsOf s.h es u2 with
 |none=>simp[el] at hrun
 |some p=>
 obtain⟨new,n⟩:=p;simp only[el] at hrun;have a2:=bK (P:=P) r ry el;split at hrun
 ·
  have rx':=rx;simp only[Rel] at rx';obtain⟨rfl,_⟩:=rx';cases hn:i5 n 0 with
  |true=>
   simp only[hn,cond_true,sI,pI] at hrun;have hn:=ij hn;obtain⟨rfl,rfl⟩:=hrun;exact⟨rfl,rfl,_,w,cY r (b:=0) (off:=0) hT (.inl rfl) ry el hn (i7 _),ai r rx⟩
  |false=>
   have hn':=jx hn;simp only[hn,cond_false] at hrun;obtain⟨ho,hrun⟩:=aF hrun;simp only[pI] at hrun;obtain⟨rfl,rfl⟩:=hrun;obtain⟨z,w',g1,g2⟩:=dq (ty:=ty) r hT rx ry (ds:=[]) (by simp[elemsOf]) el om (by simpa using ho)
   exact⟨rfl,rfl,z,w',g1,by simpa using g2⟩
 ·
  rename_i cs k c;have rx':=rx;simp only[Rel] at rx';obtain⟨b,off,c',rfl,hle,hcap,hr⟩:=rx';have:=hcap c rfl;subst this;cases hn:i5 n 0 with
  |true=>
   simp only[hn,cond_true,sI,pI] at hrun;have hn:=ij hn;obtain⟨rfl,rfl⟩:=hrun;exact⟨rfl,rfl,_,w,cY r hT (.inr rfl) ry el hn hle,ai r rx⟩
  |false=>
   simp only[hn,cond_false] at hrun;obtain⟨ho,hrun⟩:=aF hrun;simp only[pI] at hrun;obtain⟨rfl,rfl⟩:=hrun;simp only[i9,Nat.blt_eq] at ho;have hk:=is ho.2;obtain⟨z,w',g1,g2⟩:=dq (ty:=ty) r hT rx ry (ds:=cs.take (k*es)) (by simp[elemsOf,Aq hk]) el om ho.1.2
   exact⟨rfl,rfl,z,w',g1,g2⟩
 ·
  rename_i cs k;have rx':=rx;simp only[Rel] at rx';obtain⟨b,off,c',rfl,hle,hcap,hr⟩:=rx';obtain⟨hn,hrun⟩:=aF hrun;have hn:=ij hn;simp only[pI] at hrun;obtain⟨rfl,rfl⟩:=hrun;exact⟨rfl,rfl,_,w,cY r hT (.inr rfl) ry el hn hle,ai r rx⟩
 ·
  rename_i b off k es' cap;have rx':=rx;simp only[Rel] at rx';obtain⟨B,O,R,c,hf,hX,hle,hcap,hR⟩:=rx';cases hn:i5 n 0 with
  |true=>
   simp only[hn,cond_true,sI,pI] at hrun;have hn:=ij hn;obtain⟨rfl,rfl⟩:=hrun;rcases hX with rfl|⟨rfl,rfl,q0,_,rfl⟩
   ·exact⟨rfl,rfl,_,w,cY r hT (.inr rfl) ry el hn hle,ai r rx⟩
   ·exact⟨rfl,rfl,_,w,cY r hT (.inr rfl) ry el hn hle,ai r rx⟩
  |false=>
   simp only[hn,cond_false] at hrun;split at hrun
   ·rename_i cs rw' hb;have hq:=aN hrun;clear hrun;obtain⟨ho,hrun⟩:=hq;simp only[i9] at ho;have hes:=ij ho.1.1;subst hes;have hk:=is ho.1.2;have hcs:cs.length≤R:=by
     obtain⟨B0,O0,R0,hf0,_,_,hr⟩:=r.blk b _ hb;rw[hf] at hf0;simp only[sI,pI] at hf0;obtain⟨rfl,rfl,rfl⟩:=hf0;simp only[BlkR] at hr;exact hr.1
    have helx:elemsOf s.h es (.own b off k es cap)=some ((cs.drop off).take (k*es),k):=by
     simp[elemsOf,hb,Aq hk]
    obtain⟨arr,g1,g2,g3,g4⟩:=a2.cells n (i7 _);have hn0:n≠0:=fun e=>by rw[e] at hn;cases hn
    rcases hX with rfl|⟨rfl,rfl,q0,_,rfl⟩
    rotate_left
    ·
     have hfit:¬0+n≤0:=by omega
     have hfitb:i6 (0+n) 0=false:=by
      cases hq:i6 (0+n) 0 with
      |false=>rfl
      |true=>exact absurd (is hq) hfit
     obtain⟨z,w',q1,q2⟩:=dq (ty:=ty) r hT rx ry helx el hfit ho.2;cases cap with
     |some c0=>
      have:=hcap c0 rfl;subst this;simp only[hfitb,cond_false,sI,pI] at hrun;obtain⟨rfl,rfl⟩:=hrun;exact⟨rfl,rfl,z,w',q1,q2⟩
     |none=>
      have hroom:=hR.2 rfl;have hno:(Nat.blt (off+0*es) cs.length&&i6 (off+(0+n)*es) cs.length)=false:=by
       cases hq:(Nat.blt (off+0*es) cs.length&&i6 (off+(0+n)*es) cs.length) with
       |false=>rfl
       |true=>
        rw[i9] at hq;have q1:off+0*es<cs.length:=is hq.1;omega
      simp only[hno,cond_false] at hrun;have hq:=aF hrun;clear hrun;obtain⟨hw,hrun⟩:=hq;simp only[i9] at hw;obtain⟨hw1,hw2⟩:=hw;subst hw1;have hend:=ij hw2;simp only[pI] at hrun;obtain⟨rfl,rfl⟩:=hrun;refine⟨rfl,rfl,z,w',q1,?_⟩;obtain⟨S',f',gg,hr⟩:=q2;refine⟨S',f',?_,hr⟩;have gg:=gg.kill b;have hd:(cs.drop off).take (0*es)=cs.drop off:=jl (by simp;omega)
      rw[hd] at gg;refine gg.congr rfl fun j=>?_
      have hbn:b≠s.h.next:=fun e=>by have:=r.dom _ _ hf;omega
      simp only[AH.get_alloc,AH.get_put,AH.next_put]
      by_cases e1:j=b
      ·subst e1;simp[hbn]
      ·simp[e1]
    cases cap with
    |some c0=>
     have:=hcap c0 rfl;subst this;dsimp only at hrun;cases hfit:i6 (k+n) c with
     |true=>
      have hfit':=is hfit;simp only[hfit,cond_true] at hrun;have hq:=aF hrun;clear hrun;obtain⟨hw,hrun⟩:=hq;simp only[i9] at hw;obtain⟨hw1,hw2⟩:=hw;subst hw1;have hw2:=is hw2;simp only[pI] at hrun;obtain⟨rfl,rfl⟩:=hrun;obtain⟨arr,q1,q2,q3,q4⟩:=cX (ty:=ty) (A:=some ⟨B,O+off,none⟩) (sLen:=k) (sCap:=c) hT a2 hfit';have hsz:=q1.length;simp only[B4] at hsz;have hmul:(k+n)*es=k*es+n*es:=Ah _ _ _;have hst:=r.run_store (P:=P) (off:=off+k*es) hb hf q2 (by simp[q3];omega)
      rw[←jn] at hst;have g:=r.putCells (off:=off+k*es) hb hf q1 q2 om;refine⟨rfl,rfl,_,_,q4 _ (by simp only[add_zero];exact hst),S,f,?_,?_⟩
      ·rw[←jn] at g;exact g
      ·simp only[Rel];exact⟨B,O,R,c,hf,.inl rfl,hfit',by simp,hR⟩
     |false=>
      have hfit':¬k+n≤c:=fun q=>by rw[Aq q] at hfit;cases hfit
      simp only[hfit,cond_false,sI,pI] at hrun;obtain⟨rfl,rfl⟩:=hrun;obtain⟨z,w',q1,q2⟩:=dq (ty:=ty) r hT rx ry helx el hfit' ho.2;exact⟨rfl,rfl,z,w',q1,q2⟩
    |none=>
     have hroom:=hR.2 rfl;dsimp only at hrun;cases hin:(Nat.blt (off+k*es) cs.length&&i6 (off+(k+n)*es) cs.length) with
     |true=>
      simp only[hin,cond_true] at hrun;have hq:=aF hrun;clear hrun;obtain⟨hw1,hrun⟩:=hq;subst hw1;rw[i9] at hin;have hw1:off+k*es<cs.length:=is hin.1;have hw2:=is hin.2;simp only[pI] at hrun;obtain⟨rfl,rfl⟩:=hrun;have hfit':k+n≤c:=by
       have h1:(k+n)*es≤c*es:=by omega
       have h2:0<es:=by
        rcases Ar es with e|e
        ·subst e;simp only[Nat.mul_zero] at*;omega
        ·exact e
       exact Nat.le_of_mul_le_mul_right h1 h2
      obtain⟨arr,q1,q2,q3,q4⟩:=cX (ty:=ty) (A:=some ⟨B,O+off,none⟩) (sLen:=k) (sCap:=c) hT a2 hfit';have hsz:=q1.length;simp only[B4] at hsz;have hmul:(k+n)*es=k*es+n*es:=Ah _ _ _;have hst:=r.run_store (P:=P) (off:=off+k*es) hb hf q2 (by simp[q3];omega)
      rw[←jn] at hst;have g:=r.putCells (off:=off+k*es) hb hf q1 q2 om;refine⟨rfl,rfl,_,_,q4 _ (by simp only[add_zero];exact hst),S,f,?_,?_⟩
      ·rw[←jn] at g;exact g
      ·simp only[Rel];exact⟨B,O,R,c,hf,.inl rfl,hfit',by simp,hR.1,fun _=>hR.2 rfl⟩
     |false=>
     simp only[hin,cond_false] at hrun;have hq:=aF hrun;clear hrun;obtain⟨hw,hrun⟩:=hq;simp only[i9] at hw;obtain⟨hw1,hw2⟩:=hw;subst hw1;have hend:=ij hw2;simp only[pI] at hrun;obtain⟨rfl,rfl⟩:=hrun
     by_cases hfit:k+n≤c
     ·
      obtain⟨arr,q1,q2,q3,q4⟩:=cX (ty:=ty) (A:=some ⟨B,O+off,none⟩) (sLen:=k) (sCap:=c) hT a2 hfit;have hsz:=q1.length;simp only[B4] at hsz;have hmul:(k+n)*es=k*es+n*es:=Ah _ _ _;have hcm:(k+n)*es≤c*es:=B5 _ hfit;have hst:=r.run_store (P:=P) (off:=off+k*es) hb hf q2 (by simp[q3];omega)
      rw[←jn] at hst;have g:=r.setCells (cs':=cs++new) (off:=off+k*es) hb hf arr.toList (by simp[q3];omega) (by simp;omega)
       (fun i c0 hc0 hi=>by
        rw[List.getElem?_append] at hc0;split at hc0
        ·exact hc0
        ·have:=(A3.1 hc0).1;simp at hi;omega)
       (fun i c0 hc0 hi=>by
        rw[Bp om,show off+k*es+i-cs.length=i by omega] at hc0
        obtain⟨y0,hy0,hrel⟩:=q1.get hc0;exact⟨y0,hy0,iy.1 q2 y0 (Bq hy0),hrel⟩)
      have g':=g.wr.rebase (b:=b) (cs:=cs++new) (off:=off) (by rw[AH.get_put,if_pos rfl]) hf (by simp;omega)
      refine⟨rfl,rfl,_,_,q4 _ (by simp only[add_zero];exact hst),S,upd f s.h.next (B,O+off,R-off),?_,?_⟩
      ·have gg:=g.trans g';rw[←jn] at gg;have hd:(cs++new).drop off=cs.drop off++new:=by rw[List.drop_append_of_le_length om]
       rw[hd] at gg;refine gg.congr rfl fun j=>?_
       simp only[AH.get_alloc,AH.get_put,AH.next_put]
       by_cases e1:j=s.h.next
       ·simp[e1]
       ·by_cases e2:j=b
        ·simp[e2]
        ·simp[e1,e2]
      ·simp only[Rel];exact⟨B,O+off,R-off,c,aR _ _ _,.inl rfl,hfit,by simp,om⟩
     ·obtain⟨z,w',q1,q2⟩:=dq (ty:=ty) r hT rx ry helx el hfit ho.2;refine⟨rfl,rfl,z,w',q1,?_⟩;obtain⟨S',f',gg,hr⟩:=q2;refine⟨S',f',?_,hr⟩;have gg:=gg.kill b;have hd:(cs.drop off).take (k*es)=cs.drop off:=jl (by simp;omega)
      rw[hd] at gg;refine gg.congr rfl fun j=>?_
      have hbn:b≠s.h.next:=fun e=>by have:=r.dom _ _ hf;omega
      simp only[AH.get_alloc,AH.get_put,AH.next_put]
      by_cases e1:j=b
      ·subst e1;simp[hbn]
      ·simp[e1]
   ·cases hrun
 ·cases hrun
end ops
end Go.AM
namespace Go.AM
open Go.RowKit
variable {G:Nat→Option (List AV)}{base:Nat}{S:Snap}{f:Emb}{h:AH}{w:World}{P:Program}{E:Env}{s:St}{a:Act}{N:Nat}
section ops
variable {call:Cle→List AV→AH→Option (AV×AH)}{o:Oper}{v:AV}{s':St}
theorem Gi{ts:Array TypeId}{t e es:Nat}{ty:TypeId}{x y:Operand}{x' y':Opd}(ht:TmR S f s.tm a.tmps N)(r:WR E.globs base S f s.h w)(h0:ts[0]? =some t)(hu:P.underlying t=some (.slice e))(hn:sizeOf? P e=some es)
  (hx:cOpd x=some x') (hy:cOpd y=some y') (hrun:runOp E call s (.copy es x' y')=some (v,s')):
  s'.tm=s.tm∧s'.defers=s.defers∧∃z w',(Builtin.copy_ ts ty #[a.eval x,a.eval y]).run P w=.ok z w'∧Left E base S f s.h w v s'.h z w':=by
 have e0:∀X Y:Value,(#[X,Y]:Array Value)[0]? =some X:=fun _ _=>rfl;have e1:∀X Y:Value,(#[X,Y]:Array Value)[1]? =some Y:=fun _ _=>rfl;simp only[runOp] at hrun;cases ex:s.eval x' with
 |none=>simp[ex] at hrun
 |some u=>
 cases ey:s.eval y' with
 |none=>simp[ex,ey] at hrun
 |some u2=>
 simp only[ex,ey] at hrun;have rx:=aA ht hx ex;have ry:=aA ht hy ey;generalize a.eval x=X at rx⊢
 generalize a.eval y=Y at ry⊢
 cases el:elemsOf s.h es u2 with
 |none=>rw[el] at hrun;split at hrun<;>simp_all
 |some p=>
 obtain⟨new,n⟩:=p;rw[el] at hrun;have a2:=bK (P:=P) r ry el;split at hrun
 ·rename_i q hq;simp only[sI,pI] at hrun;obtain⟨rfl,rfl⟩:=hrun;simp only[Rel] at rx;obtain⟨rfl,_⟩:=rx;obtain⟨arr,g1,g2,g3,g4⟩:=a2.cells 0 (ir _);refine⟨rfl,rfl,.int .i64 0,w,?_,ai r (by simp[Rel,Value.oneCell'])⟩
  unfold Builtin.copy_;simp only[h0,e0,e1,Sem.run_bind,run_underlying hu,Result.andThen_ok,a2.len,aU hn];simp[g1,goInt]
 ·rename_i b off k es' q new' n' hq;simp only[sI,pI] at hq;obtain⟨rfl,rfl⟩:=hq;simp only[Rel] at rx;obtain⟨B,O,R,c,hf,hX,hle,hcap,hR⟩:=rx;split at hrun
  ·rename_i cs hb;obtain⟨hw,hrun⟩:=aF hrun;simp only[pI] at hrun;obtain⟨rfl,rfl⟩:=hrun;simp only[i9] at hw;have hes:=ij hw.1;subst hes;have hle2:=is hw.2;rcases hX with rfl|⟨rfl,rfl,q0,hq0,rfl⟩
   rotate_left
   ·
    obtain⟨arr,g1,g2,g3,g4⟩:=a2.cells 0 (ir _);have em:min n 0=0:=by omega
    have ea:arr= #[]:=by
     have:arr.size=0:=by omega
     exact Array.eq_empty_of_size_eq_zero this
    subst ea;have hp:putAt cs off (new.take (min n 0*es))=cs:=by
     rw[em,Bc,List.take_zero];simp only[putAt,List.length_nil,Nat.add_zero,List.append_nil,List.take_append_drop]
    have hst:(storeCells ⟨B,O+q0,none⟩ []).run P w=.ok () w:=rfl;rw[hp];refine⟨rfl,rfl,.int .i64 (min n 0:Nat),w,?_,S,f,?_,by simp[Rel,Value.oneCell']⟩
    ·unfold Builtin.copy_;simp only[h0,e0,e1,Sem.run_bind,run_underlying hu,Result.andThen_ok,a2.len,aU hn];have hmin:Nat.min n 0=0:=by simp
     simp only[hmin,g1,Result.andThen_ok,hst,Sem.run_pure,goInt]
    ·refine r.goes.congr rfl fun j=>?_
     simp only[AH.get_put]
     by_cases e:j=b
     ·rw[if_pos e,e,hb]
     ·rw[if_neg e]
   have hcs:cs.length≤R:=by
    obtain⟨B0,O0,R0,hf0,_,_,hr⟩:=r.blk b _ hb;rw[hf] at hf0;simp only[sI,pI] at hf0;obtain⟨rfl,rfl,rfl⟩:=hf0;simp only[BlkR] at hr;exact hr.1
   obtain⟨arr,g1,g2,g3,g4⟩:=a2.cells (min n k) (Nat.min_le_left _ _);have hlen:(new.take (min n k*es)).length=min n k*es:=by
    have:=a2.size;have:min n k*es≤n*es:=B5 _ (Nat.min_le_left _ _);simp;omega
   have hst:=r.run_store (P:=P) (off:=off) hb hf g3 (by simp[g4];omega)
   have g:=r.putCells (off:=off) hb hf g2 g3 om;refine⟨rfl,rfl,.int .i64 (min n k:Nat),_,?_,S,f,g,by simp[Rel,Value.oneCell']⟩
   unfold Builtin.copy_;simp only[h0,e0,e1,Sem.run_bind,run_underlying hu,Result.andThen_ok,a2.len,aU hn];have hmin:Nat.min n k=min n k:=rfl;simp only[hmin,g1,Result.andThen_ok,hst,Sem.run_pure,goInt]
  ·cases hrun
 ·cases hrun
theorem yd{ts:Array TypeId}{t e es:Nat}{ty:TypeId}{z:List AV}{x:Operand}{x':Opd}(ht:TmR S f s.tm a.tmps N)(r:WR E.globs base S f s.h w)(h0:ts[0]? =some t)(hu:P.underlying t=some (.slice e))(hn:sizeOf? P e=some es)
  (hz:zeroCells? P e=some z) (hx:cOpd x=some x') (hrun:runOp E call s (.clearS es z x')=some (v,s')):
  s'.tm=s.tm∧s'.defers=s.defers∧∃q w',(Builtin.clear_ ts ty #[a.eval x]).run P w=.ok q w'∧Left E base S f s.h w v s'.h q w':=by
 have e0:∀X:Value,(#[X]:Array Value)[0]? =some X:=fun _=>rfl;simp only[runOp] at hrun;split at hrun
 ·rename_i ex;have rx:=aA ht hx ex;simp only[sI,pI] at hrun;obtain⟨rfl,rfl⟩:=hrun;simp only[Rel] at rx;refine⟨rfl,rfl,undef,w,?_,ai r bi⟩;rw[rx.1];unfold Builtin.clear_;simp only[h0,e0,Sem.run_bind,run_underlying hu,Result.andThen_ok];rfl
 ·rename_i b off n es' cap ex;have rx:=aA ht hx ex;have rx':=rx;simp only[Rel] at rx';obtain⟨B,O,R,c,hf,hX,hle,hcap,hR⟩:=rx';cases hnn:i5 n 0 with
  |true=>
   simp only[hnn,cond_true,sI,pI] at hrun;obtain⟨rfl,rfl⟩:=hrun;have hnn:=ij hnn;subst hnn;refine⟨rfl,rfl,undef,w,?_,ai r bi⟩;rcases hX with hX|⟨_,_,q0,_,hX⟩
   ·exact U12
   ·exact U12
  |false=>
   have hnn':=jx hnn;have hX:=hX.pos (.inl om);simp only[hnn,cond_false] at hrun;split at hrun
   ·rename_i cs hb;obtain⟨hw,hrun⟩:=aF hrun;simp only[pI] at hrun;obtain⟨rfl,rfl⟩:=hrun;simp only[i9] at hw;have hes:=ij hw.1.1;subst hes;have hzl:=ij hw.1.2;have hle2:=is hw.2;obtain⟨zv,hzr,ho,rfl⟩:=cF hz;have hzn:zv.cells.size=es:=by simpa using hzl
    have hcs:cs.length≤R:=by
     obtain⟨B0,O0,R0,hf0,_,_,hr⟩:=r.blk b _ hb;rw[hf] at hf0;simp only[sI,pI] at hf0;obtain⟨rfl,rfl,rfl⟩:=hf0;simp only[BlkR] at hr;exact hr.1
    obtain⟨z1,z2⟩:=ez (S:=S) (f:=f) ho n es hzn;have hzc:Builtin.zeroCells zv.cells n=(B9 (n*es)).map (zv.cells[· %zv.cells.size]!):=by
     unfold Builtin.zeroCells;rw[hzn]
    have hlen:=z1.length;have hfl:((List.replicate n (zv.cells.toList.map AV.val)).flatten).length=n*es:=by rw[dS];simp[hzn]
    have hst:=r.run_store (P:=P) (off:=off) hb hf z2 om;have g:=r.putCells (off:=off) hb hf z1 z2 om;refine⟨rfl,rfl,undef,_,?_,S,f,g,bi⟩;rw[hX];unfold Builtin.clear_;simp only[h0,e0,Sem.run_bind,run_underlying hu,Result.andThen_ok];obtain⟨n0,rfl⟩:∃n0,n=n0+1:=⟨n-1,om⟩;simp only[hzr,Result.andThen_ok,hzc,hst,Sem.run_pure];rfl
   ·cases hrun
 ·cases hrun
theorem vJ(a b:ByteArray):(a==b)=eqBytes a.data.toList b.data.toList:=by
 cases a with|mk x=>cases b with|mk y=>
 rw[bp];change (x==y)=(x.toList==y.toList);rw[Bool.eq_iff_iff];simp only[beq_iff_eq];exact⟨fun e=>by rw[e],fun e=>As e⟩
theorem nk(d:TypeDesc)(k j:Value):keyEq d k j=Instr.sameNow d k j:=by
 unfold keyEq;split
 ·rename_i p a q b;simp only[Instr.sameNow]
  by_cases e:p=q
  ·subst e;simp
  ·have:(p==q)=false:=by simpa using e
   simp[e,this]
 ·rename_i a b;simp only[Instr.sameNow,vJ]
 ·rfl
 ·rename_i h1 h2 h3;unfold Instr.sameNow;split<;>first|rfl|exact absurd rfl (h1 _ _ _ _ _ rfl rfl rfl)|exact absurd rfl (h2 _ _ rfl rfl rfl)|exact absurd rfl (h3 _ _ rfl rfl rfl)|(exfalso;exact h1 _ _ _ _ _ rfl rfl rfl)|(exfalso;exact h2 _ _ rfl rfl rfl)|(exfalso;exact h3 _ _ rfl rfl rfl)
theorem hU{d:TypeDesc}{t:TypeId}{k:Value}{empty:Bool}(hd:P.underlying t=some d)(hk:plainKey d=true):(Instr.checkKey empty 10000 t k).run P w=.ok () w:=by
 change (Instr.checkKey empty (9999+1) t k).run P w=_;unfold Instr.checkKey;rw[Sem.run_bind,run_underlying hd];cases d<;>first|rfl|(simp[plainKey] at hk)
end ops
end Go.AM
namespace Go.AM
open Go.RowKit
variable {G:Nat→Option (List AV)}{base:Nat}{S:Snap}{f:Emb}{h:AH}{w:World}{P:Program}{E:Env}{s:St}{a:Act}{N:Nat}
theorem WR.setObj(r:WR G base S f h w){b B:Nat}{k k':Blk}{o o':Obj}(hb:h.get b=some k)(hf:f b=some (B,0,1))(ho:w.heap[B]? =some o)(hc:isCells o=false)(hc':isCells o'=false)
  (hk:∀w',w'.heap[B]? =some o'→BlkR S f k' B 0 1 w'):Goes G base S f h w S f (h.put b (some k')) {w with heap:=w.heap.setIfInBounds B o'}:=by
 obtain⟨B0,O0,R0,hf0,hB,hsz,hr⟩:=r.blk b _ hb;rw[hf] at hf0;simp only[sI,pI] at hf0;obtain⟨rfl,rfl,rfl⟩:=hf0;have hother:∀j,j≠B→({w with heap:=w.heap.setIfInBounds B o'}:World).heap[j]? =w.heap[j]? :=fun j hj=>by
  simp only[C3];rw[if_neg om]
 have hself:({w with heap:=w.heap.setIfInBounds B o'}:World).heap[B]? =some o':=by
  simp only[C3];simp[hsz]
 have hnc:∀off v,w.cell? ⟨B,off,none⟩≠some v:=fun off v e=>by
  simp only[World.cell?,ho] at e;cases o<;>simp[isCells] at hc e
 refine⟨.refl _ _,⟨?_,r.glob,?_,?_,r.dom,by simpa using r.le⟩,⟨rfl,rfl,rfl,by simp,fun j hj=>hother j om⟩,?_,?_,fun _ _ h _=>h,i7 _⟩
 ·intro b' off v hs;have h0:=r.snap _ _ _ hs;have:b'≠B:=fun e=>by subst e;exact hnc _ _ h0
  rw[←h0];simp only[World.cell?];rw[show({w with heap:=w.heap.setIfInBounds B o'}:World).heap[b']? =w.heap[b']? from hother b' this]
 ·intro b' q hq;rw[AH.get_put] at hq;split at hq
  ·rename_i e;subst e;simp only[sI] at hq;subst hq;exact⟨B,0,1,hf,hB,by simpa using hsz,hk _ hself⟩
  ·rename_i e;obtain⟨B',O',R',hf',hB',hs',hr'⟩:=r.blk b' q hq;refine⟨B',O',R',hf',hB',by simpa using hs',?_⟩
   by_cases hBB:B'=B
   ·subst hBB;have hap:=r.apart b' b B' O' R' B' 0 1 e (by simp[hq]) (by simp[hb]) hf' hf
    have hR:R'=0∨1≤O':=by omega
    cases q with
    |cells cs rw'=>
     simp only[BlkR] at hr'⊢
     obtain⟨q1,q2,q3,q4,q5⟩:=hr';have hR0:R'=0:=by
      rcases Ar R' with h0|hp
      ·exact h0
      ·obtain⟨u,hu⟩:=Af.1 (q3 0 hp);exact absurd hu (hnc _ _)
     subst hR0;refine⟨q1,fun i c hc0=>?_,fun i hi=>by omega,fun _ i hi=>by omega,fun _ h0=>by omega⟩
     have:=(A3.1 hc0).1;omega
    |map es=>simp only[BlkR] at hr';omega
    |iter st pos=>simp only[BlkR] at hr';omega
    |miter m=>cases m<;>(simp only[BlkR] at hr';omega)
    |mit1 m on=>simp only[BlkR] at hr';omega
    |mitr m n seen=>simp only[BlkR] at hr';omega
    |loop=>simp only[BlkR] at hr';omega
    |dfr=>simp only[BlkR] at hr';omega
    |tag b1 t n=>
     simp only[BlkR] at hr';obtain⟨_,_,_,_,h4,_⟩:=hr';simp only[World.shape?,ho] at h4;cases o<;>simp[isCells] at hc h4
   ·exact hr'.same (aQ (hother B' hBB))
 ·intro b1 b2 B1 O1 R1 B2 O2 R2 hne g1 g2 hf1 hf2;refine r.apart b1 b2 B1 O1 R1 B2 O2 R2 hne ?_ ?_ hf1 hf2
  ·rw[AH.get_put] at g1;split at g1
   ·exact U13
   ·exact g1
  ·rw[AH.get_put] at g2;split at g2
   ·exact U13
   ·exact g2
 ·intro B' O' R' hB' hap;have hap:=hap b B 0 1 (by simp[hb]) hf
  refine⟨?_,fun _ _=>rfl⟩
  by_cases hBB:B'=B
  ·subst hBB;refine⟨fun i hi=>?_,fun i hi _=>?_,fun _ _ arr t lo hi' hj=>?_,fun h0 hR _ _ _=>?_,fun sh h=>?_⟩
   ·simp only[World.cell?,hself,ho];cases o<;>cases o'<;>simp[isCells] at hc hc'⊢
   ·simp only[World.frozen?,hself,ho];cases o<;>cases o'<;>simp[isCells] at hc hc'⊢
   ·rw[hself] at hj;cases hj;simp[isCells] at hc'
   ·omega
   ·simp only[World.shape?,ho] at h;cases o<;>simp[isCells] at hc h
  ·exact aQ (hother B' hBB)
 ·intro b' B' O' R' g hg;refine bB b' B' O' R' ?_ hg;rw[AH.get_put] at g;split at g
  ·exact U13
  ·exact g
section ops
variable {call:Cle→List AV→AH→Option (AV×AH)}{o:Oper}{v:AV}{s':St}
theorem nF{t:TypeId}{z:AV}(hz:zeroV? P t=some z):∃zv,(∀w,(zeroValue t).run P w=.ok zv w)∧∀S f,Rel S f z zv:=by
 unfold zeroV? at hz;cases hi:P.info? t with
 |none=>simp[hi] at hz
 |some i=>
  cases hq:i.zero with
  |none=>simp[hi,hq] at hz
  |some zv=>
   simp only[hi,hq,Option.bind_some] at hz;exact⟨zv,fun w=>by simp[zeroValue,typeInfo,hi,hq],fun S f=>Rel.ofFlat hz⟩
theorem kI{d:TypeDesc}{k:Value}:∀{es:List (Value×AV)} {l:List MapEntry} {x:Option AV} (i:Nat),RelM S f es l→lookA d k es=some x→
  ∃q,Instr.findNow d k l i=some q∧(match x,q with
   |none,none=>True
   |some u,some (_,y)=>Rel S f u y
   |_,_=>False)
 | [],l,x,i,r,hx=>by
  simp only[RelM] at r;subst r;simp only[lookA,sI] at hx;subst hx;exact⟨none,rfl,trivial⟩
 |(j,u)::es,l,x,i,r,hx=>by
  simp only[RelM] at r;obtain⟨e,l',rfl,hk,hv,r⟩:=r;unfold lookA at hx;rw[nk] at hx;unfold Instr.findNow;rw[hk];cases hs:Instr.sameNow d k j with
  |none=>simp[hs] at hx
  |some b=>
   cases b with
   |true=>
    simp only[hs,sI] at hx;subst hx;exact⟨some (i,e.val),rfl,hv⟩
   |false=>
    simp only[hs] at hx;exact kI (i+1) r hx
theorem tx{t kt e:TypeId}{d:TypeDesc}{z:AV}{zv:Value}{ok:Bool}{X K:Value}{arr:Array MapEntry}{es:List (Value×AV)}{y:Option AV}(hu:P.underlying t=some (.map kt e))
  (hd:P.underlying kt=some d) (hplain:plainKey d=true) (hzr:∀w,(zeroValue e).run P w=.ok zv w) (hzrel:Rel S f z zv)
  (hX:(X=.map none∧arr= #[])∨∃B clock,X=.map (some B)∧w.heap[B]? =some (.map arr clock)) (hm:RelM S f es arr.toList) (hl:lookA d K es=some y):
  ∃q,(Instr.lookup t X K ok).run P w=.ok q w∧Rel S f (match y with
   |some v=>bif ok then AV.tup [v,.val (.bool true)] else v
   |none=>bif ok then AV.tup [z,.val (.bool false)] else z) q:=by
 obtain⟨q,hq,hrel⟩:=kI 0 hm hl;have hfind:(Instr.findKey kt K arr.toList).run P w=.ok q w:=by
  unfold Instr.findKey;simp only[Sem.run_bind,run_underlying hd,Result.andThen_ok,hq,Sem.run_pure]
 have hck:=hU (w:=w) (k:=K) (empty:=arr.isEmpty) hd hplain;cases y with
 |none=>
  cases q with
  |some p=>exact hrel.elim
  |none=>
   refine⟨(if ok then .tuple #[zv,.bool false] else zv),?_,?_⟩
   ·unfold Instr.lookup;rcases hX with⟨rfl,rfl⟩|⟨B,clock,rfl,hh⟩
    ·simp only[Sem.run_bind,run_underlying hu,Result.andThen_ok,Sem.run_pure,hck,hfind,hzr]
    ·have hg:(getObj B).run P w=.ok (.map arr clock) w:=by simp[getObj,Sem.run,hh]
     simp only[Sem.run_bind,run_underlying hu,Result.andThen_ok,Sem.run_pure,hg,hck,hfind,hzr]
   ·cases ok
    ·exact hzrel
    ·simp only[if_true,cond_true,Rel];exact⟨[zv,.bool false],rfl,by simp[RelL,hzrel,Rel,Value.oneCell']⟩
 |some u0=>
  cases q with
  |none=>exact hrel.elim
  |some p=>
   obtain⟨i,y0⟩:=p;refine⟨(if ok then .tuple #[y0,.bool true] else y0),?_,?_⟩
   ·unfold Instr.lookup;rcases hX with⟨rfl,rfl⟩|⟨B,clock,rfl,hh⟩
    ·simp only[Sem.run_bind,run_underlying hu,Result.andThen_ok,Sem.run_pure,hck,hfind]
    ·have hg:(getObj B).run P w=.ok (.map arr clock) w:=by simp[getObj,Sem.run,hh]
     simp only[Sem.run_bind,run_underlying hu,Result.andThen_ok,Sem.run_pure,hg,hck,hfind]
   ·cases ok
    ·exact hrel
    ·simp only[if_true,cond_true,Rel];exact⟨[y0,.bool true],rfl,by simp[RelL,Rel,Value.oneCell'];exact hrel⟩
theorem Born.push{arr:Array MapEntry}{clock:Nat}{k v:Value}(h:Born arr clock):Born (arr.push {key:=k,val:=v,born:=clock}) (clock+1):=by
 refine⟨by rw[Array.size_push,h.1],fun i e he=>?_⟩
 rw[Array.getElem?_push] at he;split at he
 ·simp only[sI] at he;rw[←he];rename_i hi;rw[hi];exact h.1
 ·exact h.2 i e he
theorem Born.modify{arr:Array MapEntry}{clock j:Nat}{k v:Value}(h:Born arr clock):Born (arr.modify j fun e=>{e with key:=k,val:=v}) clock:=by
 refine⟨by rw[Array.size_modify,h.1],fun i e he=>?_⟩
 rw[Bn] at he;split at he
 ·simp only[iw] at he;obtain⟨e0,he0,rfl⟩:=he;exact h.2 i e0 he0
 ·exact h.2 i e he
theorem bu(r:WR G base S f h w){b B O R:Nat}{es:List (Value×AV)}(hb:h.get b=some (.map es))(hf:f b=some (B,O,R)):
  O=0∧R=1∧∃arr clock,w.heap[B]? =some (.map arr clock)∧RelM S f es arr.toList∧Born arr clock:=by
 obtain⟨B0,O0,R0,hf0,_,_,hr⟩:=r.blk b _ hb;rw[hf] at hf0;simp only[sI,pI] at hf0;obtain⟨rfl,rfl,rfl⟩:=hf0
 simpa only[BlkR] using hr
theorem wy{t kt e:TypeId}{d:TypeDesc}{z:AV}{ok:Bool}{x k:Operand}{x' k':Opd}(ht:TmR S f s.tm a.tmps N)(r:WR E.globs base S f s.h w)(hu:P.underlying t=some (.map kt e))
  (hd:P.underlying kt=some d) (hplain:plainKey d=true) (hz:zeroV? P e=some z) (hx:cOpd x=some x') (hk:cOpd k=some k') (hrun:runOp E call s (.lookup d z x' k' ok)=some (v,s')):
  s'=s∧∃q,(Instr.lookup t (a.eval x) (a.eval k) ok).run P w=.ok q w∧Rel S f v q:=by
 obtain⟨zv,hzr,hzrel⟩:=nF hz;simp only[runOp] at hrun;split at hrun
 ·rename_i m K ex ek;have rk:=aA ht hk ek;have rx:=aA ht hx ex;simp only[Rel] at rk;rw[rk.1];have key:∀(arr:Array MapEntry) (es:List (Value×AV)),RelM S f es arr.toList→((a.eval x=.map none∧arr= #[])∨∃B clock,a.eval x=.map (some B)∧w.heap[B]? =some (.map arr clock))→
    (match lookA d K es with
     |some (some v)=>some ((bif ok then AV.tup [v,.val (.bool true)] else v),s)
     |some none=>some ((bif ok then AV.tup [z,.val (.bool false)] else z),s)
     |none=>none)=some (v,s')→s'=s∧∃q,(Instr.lookup t (a.eval x) K ok).run P w=.ok q w∧Rel S f v q:=by
   intro arr es hm hX hres;cases hl:lookA d K es with
   |none=>simp[hl] at hres
   |some y=>
    obtain⟨q,h1,h2⟩:=tx (ok:=ok) hu hd hplain hzr (hzrel S f) hX hm hl;cases y with
    |none=>
     simp only[hl,sI,pI] at hres;obtain⟨rfl,rfl⟩:=hres;exact⟨rfl,q,h1,h2⟩
    |some u=>
     simp only[hl,sI,pI] at hres;obtain⟨rfl,rfl⟩:=hres;exact⟨rfl,q,h1,h2⟩
  split at hrun
  ·rename_i es hes;split at hes
   ·simp only[sI] at hes;subst hes;simp only[Rel] at rx;exact key #[] [] (by simp[RelM]) (.inl ⟨rx.1,rfl⟩) hrun
   ·rename_i b;split at hes
    ·rename_i es' hb;simp only[sI] at hes;subst hes;simp only[Rel] at rx;obtain⟨B,O,R,hf,hX⟩:=rx;obtain⟨_,_,arr,clock,hh,hm,_⟩:=bu r hb hf;exact key arr _ hm (.inr ⟨B,clock,hX,hh⟩) hrun
    ·cases hes
   ·cases hes
  ·cases hrun
 ·cases hrun
theorem qQ{d:TypeDesc}{k:Value}{x:AV}{X:Value}(hx:Rel S f x X):∀{es es':List (Value×AV)} {l:List MapEntry} (i:Nat),RelM S f es l→updA d k x es=some es'→
  ∃q,Instr.findNow d k l i=some q∧(match q with
   |none=>∀c,RelM S f es' (l++[{key:=k,val:=X,born:=c}])
   |some (j,_)=>i≤j∧(∃e,l[j-i]? =some e∧Instr.sameNow d k e.key=some true)∧RelM S f es' (l.modify (j-i) fun e=>{e with key:=k,val:=X}))
 | [],es',l,i,r,hu=>by
  simp only[RelM] at r;subst r;simp only[updA,sI] at hu;subst hu;exact⟨none,rfl,fun c=>by simp only[iz,RelM];exact⟨_,[],rfl,rfl,hx,rfl⟩⟩
 |(j,u)::es,es',l,i,r,hu=>by
  simp only[RelM] at r;obtain⟨e,l',rfl,hk,hv,r⟩:=r;unfold updA at hu;rw[nk] at hu;unfold Instr.findNow;rw[hk];cases hs:Instr.sameNow d k j with
  |none=>simp[hs] at hu
  |some b=>
   cases b with
   |true=>
    simp only[hs,sI] at hu;subst hu;refine⟨some (i,e.val),rfl,i7 _,⟨e,by simp,by rw[hk];exact hs⟩,?_⟩
    simp only[Bb,List.modify_zero_cons,RelM];exact⟨_,_,rfl,rfl,hx,r⟩
   |false=>
    simp only[hs,iw] at hu;obtain⟨es2,hu2,rfl⟩:=hu;obtain⟨q,hq,hrel⟩:=qQ hx (i+1) r hu2;refine⟨q,hq,?_⟩;cases q with
    |none=>
     intro c;simp only[ja,RelM];exact⟨e,_,rfl,hk,hv,hrel c⟩
    |some p=>
     obtain⟨m,y⟩:=p;obtain⟨h1,⟨e',he',hs'⟩,h2⟩:=hrel;have hm:m-i=(m-(i+1))+1:=by omega
     refine⟨om,⟨e',by rw[hm];simpa using he',hs'⟩,?_⟩
     rw[hm];simp only[List.modify_succ_cons,RelM];exact⟨e,_,rfl,hk,hv,h2⟩
theorem oq{d:TypeDesc}{k j:Value}(h:Instr.sameNow d k j=some true):Instr.sameBits 10000 j k=true:=by
 unfold Instr.sameNow at h;split at h
 ·split at h
  ·rename_i e;subst e;simp at h;subst h;simp[Instr.sameBits]
  ·cases h
 ·simp only[sI] at h;rw[vJ,bp] at h;simp only[Instr.sameBits,vJ,bp];rw[beq_iff_eq] at h⊢
  exact h.symm
 ·simp at h;subst h;simp[Instr.sameBits]
 ·cases h
theorem wx{t kt e:TypeId}{d:TypeDesc}{m k x:Operand}{m' k' x':Opd}(ht:TmR S f s.tm a.tmps N)(r:WR E.globs base S f s.h w)(hu:P.underlying t=some (.map kt e))
  (hd:P.underlying kt=some d) (hplain:plainKey d=true) (hm:cOpd m=some m') (hk:cOpd k=some k') (hx:cOpd x=some x') (hrun:runOp E call s (.mapUpd d m' k' x')=some (v,s')):
  s'.tm=s.tm∧s'.defers=s.defers∧∃w',(Instr.mapUpdate t (a.eval m) (a.eval k) (a.eval x)).run P w=.ok () w'∧Left E base S f s.h w v s'.h undef w':=by
 simp only[runOp] at hrun;split at hrun
 ·rename_i b K u em ek ex;have rm:=aA ht hm em;have rk:=aA ht hk ek;have rx:=aA ht hx ex;simp only[Rel] at rm rk;obtain⟨B,O,R,hf,hX⟩:=rm;rw[hX,rk.1];generalize a.eval x=X at rx⊢
  split at hrun
  ·rename_i es hb;simp only[j7,sI,pI] at hrun;obtain⟨es',hu',rfl,rfl⟩:=hrun;obtain⟨rfl,rfl,arr,clock,hh,hme,hbn⟩:=bu r hb hf;obtain⟨q,hq,hrel⟩:=qQ rx 0 hme hu';have hfind:(Instr.findKey kt K arr.toList).run P w=.ok q w:=by
    unfold Instr.findKey;simp only[Sem.run_bind,run_underlying hd,Result.andThen_ok,hq,Sem.run_pure]
   have hck:=hU (w:=w) (k:=K) (empty:=false) hd hplain;have hg:(getObj B).run P w=.ok (.map arr clock) w:=by simp[getObj,Sem.run,hh]
   have hso:∀o',(Go.setObj B o').run P w=.ok () {w with heap:=w.heap.setIfInBounds B o'}:=fun o'=>by simp[Go.setObj,Sem.run,hh]
   cases q with
   |none=>
    have g:=r.setObj (k':=.map es') (o':=.map (arr.push {key:=K,val:=X,born:=clock}) (clock+1)) hb hf hh rfl rfl (fun w' hw'=>by
     simp only[BlkR];exact⟨trivial,trivial,_,_,hw',by simpa using hrel clock,hbn.push⟩)
    refine⟨rfl,rfl,_,?_,S,f,g,bi⟩;unfold Instr.mapUpdate;simp only[Sem.run_bind,run_underlying hu,Result.andThen_ok,hg,hck,hfind,hso]
   |some p=>
    obtain⟨j,y⟩:=p;obtain⟨_,⟨e',he',hs'⟩,h2⟩:=hrel;simp only[Nat.sub_zero] at he' h2;have hkey:(((arr[j]?).map (·.key)).getD K)=e'.key:=by
     have:arr[j]? =some e':=by simpa using he'
     simp[this]
    have hstay:(Instr.keyThatStays e'.key K).run P w=.ok K w:=by
     unfold Instr.keyThatStays;rw[oq hs'];rfl
    have g:=r.setObj (k':=.map es') (o':=.map (arr.modify j fun e=>{e with key:=K,val:=X}) clock) hb hf hh rfl rfl (fun w' hw'=>by
     simp only[BlkR];exact⟨trivial,trivial,_,_,hw',by simpa using h2,hbn.modify⟩)
    refine⟨rfl,rfl,_,?_,S,f,g,bi⟩;unfold Instr.mapUpdate;simp only[Sem.run_bind,run_underlying hu,Result.andThen_ok,hg,hck,hfind,hkey,hstay,hso]
  ·cases hrun
 ·cases hrun
end ops
end Go.AM
namespace Go.AM
open Go.RowKit
variable {G:Nat→Option (List AV)}{base:Nat}{S:Snap}{f:Emb}{h:AH}{w:World}{P:Program}{E:Env}{s:St}{a:Act}{N:Nat}
section ops
variable {call:Cle→List AV→AH→Option (AV×AH)}{o:Oper}{v:AV}{s':St}
theorem tZ{t xt:TypeId}{z:AV}{ok:Bool}{x:Operand}{x':Opd}(ht:TmR S f s.tm a.tmps N)(hu:∃d,P.underlying t=some d∧∀m,d≠ .interface m)(hz:zeroV? P t=some z)(hx:cOpd x=some x')
  (hrun:runOp E call s (.tassert t z ok x')=some (v,s')):s'=s∧∃q,(Instr.typeAssert (a.eval x) xt t ok).run P w=.ok q w∧Rel S f v q:=by
 obtain⟨zv,hzr,hzrel⟩:=nF hz;obtain⟨d,hd,hnd⟩:=hu;have hur:=run_underlying hd w;have hnil:ok=true→(Instr.typeAssert .nilIface xt t ok).run P w=.ok (.tuple #[zv,.bool false]) w:=by
  intro hok;subst hok;unfold Instr.typeAssert;rw[Sem.run_bind,hur];cases d<;>first|exact absurd rfl (hnd _)|(simp[hzr])
 have hif:∀t' y,(Instr.typeAssert (.iface t' y) xt t ok).run P w=if t'=t then .ok (if ok then .tuple #[y,.bool true] else y) w else if ok then .ok (.tuple #[zv,.bool false]) w else(Instr.typeAssert (.iface t' y) xt t ok).run P w:=by
  intro t' y
  by_cases e:t'=t
  ·rw[if_pos e];subst e;unfold Instr.typeAssert;rw[Sem.run_bind,hur];cases d<;>first|exact absurd rfl (hnd _)|simp
  ·rw[if_neg e];cases ok with
   |false=>rfl
   |true=>
    rw[if_pos rfl];unfold Instr.typeAssert;rw[Sem.run_bind,hur];cases d<;>first|exact absurd rfl (hnd _)|simp[e,hzr]
 have hfail:∀S f,Rel S f (.tup [z,.val (.bool false)]) (.tuple #[zv,.bool false]):=fun S f=>by
  simp only[Rel];exact⟨[zv,.bool false],rfl,by simp[RelL,hzrel S f,Rel,Value.oneCell']⟩
 simp only[runOp] at hrun;split at hrun
 ·rename_i t' u ex;have rx:=aA ht hx ex;simp only[Rel] at rx;obtain⟨y,e,ry⟩:=rx;rw[e];cases hb:i5 t t' with
  |true=>
   have:=ij hb;subst this;simp only[hb,cond_true,sI,pI] at hrun;obtain⟨rfl,rfl⟩:=hrun;refine⟨rfl,(if ok then .tuple #[y,.bool true] else y),by rw[hif,if_pos rfl],?_⟩
   cases ok
   ·exact ry
   ·simp only[if_true,cond_true,Rel];exact⟨[y,.bool true],rfl,by simp[RelL,Rel,Value.oneCell'];exact ry⟩
  |false=>
   have hne:=jx hb;simp only[hb,cond_false] at hrun;obtain⟨hok,hrun⟩:=aF hrun;simp only[pI] at hrun;obtain⟨rfl,rfl⟩:=hrun;refine⟨rfl,_,by rw[hif,if_neg (fun e=>hne e.symm),if_pos hok],hfail S f⟩
 ·rename_i ex;have rx:=aA ht hx ex;simp only[Rel] at rx;rw[rx.1];obtain⟨hok,hrun⟩:=aF hrun;simp only[pI] at hrun;obtain⟨rfl,rfl⟩:=hrun;exact⟨rfl,_,hnil hok,hfail S f⟩
 ·cases hrun
theorem li{up:Bool}{k:IntKind}:∀{l:List AV} {xs:List Value} {m r:Int},mostOf up k m l=some r→RelL S f l xs→
  (xs.foldlM (if up then Builtin.max2 else Builtin.min2) (.int k m)).run P w=.ok (.int k r) w
 | [],xs,m,r,h,hr=>by
  simp only[RelL] at hr;subst hr;simp only[mostOf,sI] at h;subst h;simp
 |c::l,xs,m,r,h,hr=>by
  simp only[RelL] at hr;obtain⟨y,ys,rfl,r1,r2⟩:=hr;unfold mostOf at h;split at h
  ·rename_i e;cases e
  ·rename_i m k' b rest e1;simp only[List.cons.injEq] at e1;obtain⟨rfl,rfl⟩:=e1;have hq:=aN h;clear h;obtain⟨hk,h⟩:=hq;have hk:k=k':=by simpa using hk
   subst hk;simp only[Rel] at r1;have ih:=li h r2;rw[r1.1];simp only[List.foldlM_cons,Sem.run_bind];cases up with
   |false=>
    have:∀m b:Int,(Builtin.min2 (.int k m) (.int k b)).run P w=.ok (.int k (min m b)) w:=by
     intro m b;simp only[Builtin.min2,Sem.run_pure]
     congr 2
     omega
    simp only[ju,if_false] at ih⊢
    rw[this];exact ih
   |true=>
    have:∀m b:Int,(Builtin.max2 (.int k m) (.int k b)).run P w=.ok (.int k (max m b)) w:=by
     intro m b;simp only[Builtin.max2,Sem.run_pure]
     congr 2
     omega
    simp only[if_true] at ih⊢
    rw[this];exact ih
  ·cases h
theorem Ko{ts:Array TypeId}{ty:TypeId}{xs:Array Operand}{xs':List Opd}(ht:TmR S f s.tm a.tmps N)(hx:cOpds xs.toList=some xs')(hrun:runOp E call s (.minI xs')=some (v,s')):
  s'=s∧∃q,(Builtin.min_ ts ty (xs.map a.eval)).run P w=.ok q w∧Rel S f v q:=by
 simp only[runOp] at hrun;split at hrun
 ·rename_i k m rest ev;simp only[j7,sI,pI] at hrun;obtain⟨r,hr,rfl,rfl⟩:=hrun;have hl:=bE ht hx ev;simp only[RelL] at hl;obtain⟨y,ys,e,r1,r2⟩:=hl;simp only[Rel] at r1;refine⟨rfl,.int k r,?_,by simp[Rel,Value.oneCell']⟩
  unfold Builtin.min_;have:(xs.map a.eval).toList=.int k m::ys:=by rw[Bi,e,r1.1]
  rw[this]
  simpa using li (P:=P) (w:=w) hr r2
 ·cases hrun
theorem Kp{ts:Array TypeId}{ty:TypeId}{xs:Array Operand}{xs':List Opd}(ht:TmR S f s.tm a.tmps N)(hx:cOpds xs.toList=some xs')(hrun:runOp E call s (.maxI xs')=some (v,s')):
  s'=s∧∃q,(Builtin.max_ ts ty (xs.map a.eval)).run P w=.ok q w∧Rel S f v q:=by
 simp only[runOp] at hrun;split at hrun
 ·rename_i k m rest ev;simp only[j7,sI,pI] at hrun;obtain⟨r,hr,rfl,rfl⟩:=hrun;have hl:=bE ht hx ev;simp only[RelL] at hl;obtain⟨y,ys,e,r1,r2⟩:=hl;simp only[Rel] at r1;refine⟨rfl,.int k r,?_,by simp[Rel,Value.oneCell']⟩
  unfold Builtin.max_;have:(xs.map a.eval).toList=.int k m::ys:=by rw[Bi,e,r1.1]
  rw[this]
  simpa using li (P:=P) (w:=w) hr r2
 ·cases hrun
theorem Gh{t e:TypeId}{len n:Nat}{ln:Option Nat}{x i:Operand}{x' i':Opd}(ht:TmR S f s.tm a.tmps N)(hx:cOpd x=some x')(hi:cOpd i=some i')(hu:P.underlying t=some (.array len e))
  (hn:sizeOf? P e=some n) (hl:loadN? P e=some ln) (hrun:runOp E call s (.idxA len n ln x' i')=some (v,s')):s'=s∧∃z,(Instr.index t (a.eval x) (a.eval i)).run P w=.ok z w∧Rel S f v z:=by
 simp only[runOp] at hrun;split at hrun
 ·rename_i cs k ex hk;simp only[j7] at hk;obtain⟨u,hu1,hn1⟩:=hk;obtain⟨q,e2⟩:=eL (aA ht hi hu1) hn1;have hq:=aN hrun;clear hrun;obtain⟨hb,hrun⟩:=hq;simp only[i9,Nat.blt_eq] at hb;simp only[j7,sI,pI] at hrun;obtain⟨u',hv,rfl,rfl⟩:=hrun;have hk':=is hb.2;have r:=aA ht hx ex;simp only[Rel] at r;obtain⟨xs,e1,ho,r⟩:=r;have hlen:=r.length;obtain⟨h1,h2⟩:=fT hl w;refine⟨rfl,?_⟩;rw[e1,e2];simp only[Instr.index,Sem.run_bind,asIntOf,Sem.run_pure,Result.andThen_ok,run_underlying hu];rw[if_pos om];simp only[Sem.run_bind,aU hn,Result.andThen_ok,Int.toNat_natCast,part,h1];cases ln with
  |none=>
   simp only[takeN] at hv;have hv':cs[k*n]? =some u':=by rw[←hv,List.head?_eq_getElem?,Az];rfl
   obtain⟨z,hz,hr⟩:=r.get hv';exact⟨z,by simp[hz],hr⟩
  |some m=>
   simp only[takeN] at hv;obtain⟨hl',hv⟩:=aF hv;subst hv;refine⟨.agg (xs.toArray.extract (k*n) (k*n+m)),by simp[h2 m rfl],?_⟩
   simp only[Rel];refine⟨(xs.drop (k*n)).take m,?_,?_,(r.drop _).take _⟩
   ·congr 1
    apply As;simp[]
   ·exact iy.2 fun y hy=>iy.1 ho y (List.mem_of_mem_drop (List.mem_of_mem_take hy))
 ·cases hrun
theorem qx{t kt e:TypeId}{x:Operand}{x':Opd}(ht:TmR S f s.tm a.tmps N)(r:WR E.globs base S f s.h w)(hu:P.underlying t=some (.map kt e))(hx:cOpd x=some x')
  (hrun:runOp E call s (.rangeMap x')=some (v,s')):
  s'.tm=s.tm∧s'.defers=s.defers∧∃z w',(Instr.range t (a.eval x)).run P w=.ok z w'∧Left E base S f s.h w v s'.h z w':=by
 simp only[runOp] at hrun;split at hrun
 ·rename_i ex;have rx:=aA ht hx ex;simp only[sI,pI] at hrun;obtain⟨rfl,rfl⟩:=hrun;simp only[Rel] at rx;have g:=r.alloc (o:=.mapIter none 0 #[] 0) (k:=.miter none) (R:=1) (fun f' _=>by
   simp only[BlkR];exact⟨trivial,trivial,_,_,_,eY w _⟩)
  refine⟨rfl,rfl,.pointer (some ⟨w.heap.size,0,none⟩),w.alloc (.mapIter none 0 #[] 0),?_,_,_,g,?_⟩
  ·rw[rx.1];simp[Instr.range,run_underlying hu]
  ·exact U14
 ·rename_i b ex;have rx:=aA ht hx ex;simp only[Rel] at rx;obtain⟨B,O,R,hf,hX⟩:=rx;split at hrun
  ·rename_i e1 hb;simp only[sI,pI] at hrun;obtain⟨rfl,rfl⟩:=hrun;obtain⟨rfl,rfl,arr,clock,hh,hme,hbn⟩:=bu r hb hf;have hsz:arr.size=1:=by
    have:=hme.length
    simpa using this.symm
   have hcl:clock=1:=by rw[hbn.1,hsz]
   subst hcl;have hg:(getObj B).run P w=.ok (.map arr 1) w:=by simp[getObj,Sem.run,hh]
   have g:=r.alloc (o:=.mapIter (some B) 1 #[] 1) (k:=.mit1 b false) (R:=1) (fun f' hle=>by
    simp only[BlkR];exact⟨trivial,trivial,B,0,1,hle.f _ _ hf,eY w _⟩)
   refine⟨rfl,rfl,.pointer (some ⟨w.heap.size,0,none⟩),w.alloc (.mapIter (some B) 1 #[] 1),?_,_,_,g,?_⟩
   ·rw[hX];simp[Instr.range,run_underlying hu,hg]
   ·exact U14
  ·rename_i hb;simp only[sI,pI] at hrun;obtain⟨rfl,rfl⟩:=hrun;obtain⟨rfl,rfl,arr,clock,hh,hme,_⟩:=bu r hb hf;have hg:(getObj B).run P w=.ok (.map arr clock) w:=by simp[getObj,Sem.run,hh]
   have g:=r.alloc (o:=.mapIter (some B) clock #[] clock) (k:=.miter (some b)) (R:=1) (fun f' hle=>by
    simp only[BlkR];exact⟨trivial,trivial,B,0,1,clock,clock,hle.f _ _ hf,eY w _⟩)
   refine⟨rfl,rfl,.pointer (some ⟨w.heap.size,0,none⟩),w.alloc (.mapIter (some B) clock #[] clock),?_,_,_,g,?_⟩
   ·rw[hX];simp[Instr.range,run_underlying hu,hg]
   ·exact U14
  ·rename_i es _ _ hb;simp only[sI,pI] at hrun;obtain⟨rfl,rfl⟩:=hrun;obtain⟨rfl,rfl,arr,clock,hh,hme,hbn⟩:=bu r hb hf;have hcl:es.length=clock:=by rw[hme.length,hbn.1,B4]
   have hg:(getObj B).run P w=.ok (.map arr clock) w:=by simp[getObj,Sem.run,hh]
   have g:=r.alloc (o:=.mapIter (some B) clock #[] clock) (k:=.mitr b es.length []) (R:=1) (fun f' hle=>by
    simp only[BlkR,hcl];exact⟨trivial,trivial,B,0,1,hle.f _ _ hf,eY w _⟩)
   refine⟨rfl,rfl,.pointer (some ⟨w.heap.size,0,none⟩),w.alloc (.mapIter (some B) clock #[] clock),?_,_,_,g,?_⟩
   ·rw[hX];simp[Instr.range,run_underlying hu,hg]
   ·exact U14
  ·cases hrun
 ·cases hrun
theorem iI(r:WR G base S f h w){m B O R:Nat}{k:Value}{u:AV}(hm:h.get m=some (.map [(k,u)]))(hf:f m=some (B,O,R)):
  ∃e:MapEntry,(getObj B).run P w=.ok (.map #[e] 1) w∧e.born=0∧e.key=k∧Rel S f u e.val:=by
 obtain⟨_,_,arr,clock,hh,hme,hbn⟩:=bu r hm hf;simp only[RelM] at hme;obtain⟨e,l,he,hk,hv,hl⟩:=hme;subst hl;have ha:arr= #[e]:=As (by simpa using he)
 subst ha;have hcl:clock=1:=by rw[hbn.1];rfl
 subst hcl;have hb0:=hbn.2 0 e rfl;exact⟨e,by simp[getObj,Sem.run,hh],hb0,hk,hv⟩
theorem iC{seen:List Nat}:∀{n:Nat},allSeen seen n=true→∀i,i<n→i∈seen
 |0,_,i,hi=>by omega
 |n+1,h,i,hi=>by
  simp only[allSeen,i9,List.any_eq_true] at h
  by_cases e:i=n
  ·subst e;obtain⟨j,hj,hb⟩:=h.1;rw[ij hb];exact hj
  ·exact iC h.2 i om
theorem lw(r:WR G base S f h w){b m n:Nat}{seen:List Nat}{es:List (Value×AV)}{B O R:Nat}(hb:h.get b=some (.mitr m n seen))(hf:f b=some (B,O,R))(hm:h.get m=some (.map es))(hn:es.length=n):
  O=0∧R=1∧∃(M O' R':Nat) (arr:Array MapEntry),f m=some (M,O',R')∧w.heap[B]? =some (.mapIter (some M) n seen.toArray n)∧w.heap[M]? =some (.map arr n)∧arr.size=n∧RelM S f es arr.toList∧Born arr n:=by
 obtain⟨B0,O0,R0,hf0,_,_,hr⟩:=r.blk b _ hb;rw[hf] at hf0;simp only[sI,pI] at hf0;obtain⟨rfl,rfl,rfl⟩:=hf0;simp only[BlkR] at hr;obtain⟨rfl,rfl,M,O',R',hfm,hh⟩:=hr;obtain⟨_,_,arr,clock,hh2,hme,hbn⟩:=bu r hm hfm;have hs:arr.size=n:=by rw[←hn,hme.length,B4]
 have hcl:clock=n:=by rw[hbn.1,hs]
 subst hcl;exact⟨rfl,rfl,M,O',R',arr,hfm,hh,hh2,hs,hme,hbn⟩
theorem eu{arr:Array MapEntry}{n:Nat}(hbn:Born arr n){e:MapEntry}(he:e∈arr):e.born<n∧arr[e.born]? =some e:=by
 obtain⟨i,hi,rfl⟩:=Array.mem_iff_getElem.1 he;have hg:arr[i]? =some arr[i]:=Ab hi;rw[hbn.2 i _ hg];exact⟨by rw[hbn.1];exact hi,hg⟩
theorem rK{arr:Array MapEntry}{n:Nat}{seen:Array Nat}(hbn:Born arr n)(h1:1≤n):(!seen.isEmpty&& !arr.isEmpty&&arr.all (fun x=>decide (x.born≥n)))=false:=by
 have hall:arr.all (fun x=>decide (x.born≥n))=false:=by
  rw[Bool.eq_false_iff];intro h;rw[Array.all_eq_true_iff_forall_mem] at h;have h0:0<arr.size:=by rw[←hbn.1];omega
  have hm:arr[0]∈arr:=Array.getElem_mem h0;have h2:=h _ hm;have h3:=(eu hbn hm).1;simp at h2;omega
 simp[hall]
theorem qh{S:Snap}{f:Emb}:∀(es:List (Value×AV)) (l:List MapEntry) (i:Nat) (e:MapEntry),RelM S f es l→l[i]? =some e→∃k u,es[i]? =some (k,u)∧e.key=k∧Rel S f u e.val:=by
 intro es
 induction es with
 |nil=>intro l i e hr hi;simp only[RelM] at hr;subst hr;simp at hi
 |cons p es ih=>
  intro l i e hr hi;obtain⟨k,u⟩:=p;simp only[RelM] at hr;obtain⟨e',l',rfl,hk,hv,hr⟩:=hr;cases i with
  |zero=>simp at hi;subst hi;exact⟨k,u,rfl,hk,hv⟩
  |succ i=>obtain⟨k',u',q1,q2,q3⟩:=ih l' i e hr (by simpa using hi);exact⟨k',u',by simpa using q1,q2,q3⟩
theorem yq{ty:TypeId}(r:WR E.globs base S f h w){b m n:Nat}{seen:List Nat}{es:List (Value×AV)}{B O R:Nat}(hb:h.get b=some (.mitr m n seen))(hf:f b=some (B,O,R))(hm:h.get m=some (.map es))(hn:es.length=n)
  (hl:∃i,i<n∧i∉seen):∃(i:Nat) (k:Value) (u:AV),i<n∧i∉seen∧es[i]? =some (k,u)∧∃z w',(Instr.next (.pointer (some ⟨B,0,none⟩)) false ty).run P w=.ok z w'∧
   (k.oneCell'=true→Left E base S f h w (.tup [.val (.bool true),.val k,u]) (h.put b (some (.mitr m n (seen++[i])))) z w'):=by
 obtain⟨rfl,rfl,M,O',R',arr,hfm,hh,hh2,hs,hme,hbn⟩:=lw r hb hf hm hn;obtain⟨i0,hi0,hi0s⟩:=hl;have hg:(getObj B).run P w=.ok (.mapIter (some M) n seen.toArray n) w:=by simp[getObj,Sem.run,hh]
 have hg2:(getObj M).run P w=.ok (.map arr n) w:=by simp[getObj,Sem.run,hh2]
 simp only[Instr.next,hg,hg2,Sem.run_bind,Result.andThen_ok,rK (seen:=seen.toArray) hbn om,ju,if_false];have hmem:∀x∈(Array.filter (fun e=> !seen.toArray.contains e.born) arr),x∈arr∧x.born∉seen:=fun x hx=>by
  simp only[Array.mem_filter,Au,List.contains_toArray] at hx;exact⟨hx.1,by simpa using hx.2⟩
 have hne:(Array.filter (fun e=> !seen.toArray.contains e.born) arr).size≠0:=by
  intro h0;have hx:arr[i0]'om∈Array.filter (fun e=> !seen.toArray.contains e.born) arr:=by
   simp only[Array.mem_filter,Au,List.contains_toArray];refine⟨Array.getElem_mem _,?_⟩;rw[hbn.2 i0 _ (Ab om)]
   simpa using hi0s
  rw[Array.eq_empty_of_size_eq_zero h0] at hx;simp at hx
 generalize Array.filter (fun e=> !seen.toArray.contains e.born) arr=L at hmem hne⊢
 have e1:L.filter (fun x=>decide (x.born<n))=L:=Array.filter_eq_self.2 (fun x hx=>by simpa using (eu hbn (hmem x hx).1).1)
 have e2:L.filter (fun x=>decide (x.born≥n))= #[]:=by
  rw[Array.filter_eq_empty_iff];intro x hx;have:=(eu hbn (hmem x hx).1).1;simp;omega
 have hne':L.isEmpty=false:=by simp[Array.isEmpty,hne]
 simp only[e1,e2,Array.append_empty,hne',ju,if_false,Array.empty_append,Array.size_map];have hch:∃(j:Nat) (w1:World),j<L.size∧(w1=w∨w1=w.drew)∧(choose (Question.mapNext L.size)).run P w=.ok j w1:=by
  by_cases hf:L.size≤1
  ·exact⟨0,w,om,.inl rfl,by simp[choose,Sem.run,Question.forced,hf]⟩
  ·exact⟨_,w.drew,Nat.mod_lt _ om,.inr rfl,by
    simp only[choose,Sem.run,Question.forced,decide_eq_true_eq,hf,if_false,Question.cut];rfl⟩
 obtain⟨j,w1,hj,hw1,hrun⟩:=hch;have hjm:=hmem _ (Array.getElem_mem hj);obtain⟨hbl,hbg⟩:=eu hbn hjm.1;have hes:∃k u,es[(L[j]).born]? =some (k,u)∧(L[j]).key=k∧Rel S f u (L[j]).val:=qh es arr.toList _ _ hme (by rw[Array.getElem?_toList];exact hbg)
 obtain⟨k,u,h1,h2,h3⟩:=hes;refine⟨(L[j]).born,k,u,hbl,hjm.2,h1,?_⟩;have gw:Goes E.globs base S f h w S f h w1:=by
  rcases hw1 with rfl|rfl
  ·exact r.goes
  ·exact r.goesDrew
 have hh1:w1.heap[B]? =some (.mapIter (some M) n seen.toArray n):=by
  rcases hw1 with rfl|rfl
  ·exact hh
  ·exact hh
 have hso:∀o',(Go.setObj B o').run P w1=.ok () {w1 with heap:=w1.heap.setIfInBounds B o'}:=fun o'=>by simp[Go.setObj,Sem.run,hh1]
 have g:=gw.wr.setObj (k':=.mitr m n (seen++[(L[j]).born])) (o':=.mapIter (some M) n (seen.toArray.push (L[j]).born) n) hb hf hh1 rfl rfl (fun w' hw'=>by
  simp only[BlkR];exact⟨trivial,trivial,M,O',R',hfm,by rw[hw'];simp⟩)
 refine⟨.tuple #[.bool true,k,(L[j]).val],_,?_,fun ho=>⟨S,f,gw.trans g,?_⟩⟩
 ·simp only[hrun,Array.getElem?_map,Ab hj,jo,Sem.run_bind,hso,Result.andThen,h2];rfl
 ·simp only[Rel];exact⟨[.bool true,k,(L[j]).val],rfl,by
   simp only[RelL,Rel];exact⟨_,_,rfl,⟨rfl,rfl⟩,_,_,rfl,⟨rfl,ho⟩,_,_,rfl,h3,rfl⟩⟩
theorem tc{ty:TypeId}{x:Operand}{x':Opd}(ht:TmR S f s.tm a.tmps N)(r:WR E.globs base S f s.h w)(hx:cOpd x=some x')
  (hrun:runOp E call s (.nextMap x')=some (v,s')):
  s'.tm=s.tm∧s'.defers=s.defers∧∃z w',(Instr.next (a.eval x) false ty).run P w=.ok z w'∧Left E base S f s.h w v s'.h z w':=by
 have hover:Rel S f (.tup [.val (.bool false)]) (.tuple #[.bool false]):=by
  simp only[Rel];exact⟨[.bool false],rfl,by simp[RelL,Rel,Value.oneCell']⟩
 simp only[runOp] at hrun;split at hrun
 ·rename_i b ex;have rx:=aA ht hx ex;simp only[Rel] at rx;obtain⟨B,O,R,hf,hX⟩:=rx;rw[hX];split at hrun
  ·rename_i hb;simp only[sI,pI] at hrun;obtain⟨rfl,rfl⟩:=hrun;obtain⟨B0,O0,R0,hf0,_,_,hr⟩:=r.blk b _ hb;rw[hf] at hf0;simp only[sI,pI] at hf0;obtain⟨rfl,rfl,rfl⟩:=hf0;simp only[BlkR] at hr;obtain⟨_,_,p,q,l,hh⟩:=hr;have hg:(getObj B).run P w=.ok (.mapIter none p q l) w:=by simp[getObj,Sem.run,hh]
   exact⟨rfl,rfl,_,w,by simp[Instr.next,hg],ai r hover⟩
  ·rename_i m hb;split at hrun
   ·rename_i hm;simp only[sI,pI] at hrun;obtain⟨rfl,rfl⟩:=hrun;obtain⟨B0,O0,R0,hf0,_,_,hr⟩:=r.blk b _ hb;rw[hf] at hf0;simp only[sI,pI] at hf0;obtain⟨rfl,rfl,rfl⟩:=hf0;simp only[BlkR] at hr;obtain⟨_,_,M,O',R',since,st,hfm,hh⟩:=hr;obtain⟨_,_,arr,clock,hh2,hme,_⟩:=bu r hm hfm;simp only[RelM] at hme;have harr:arr= #[]:=by simpa using hme
    subst harr;have hg:(getObj B).run P w=.ok (.mapIter (some M) since #[] st) w:=by simp[getObj,Sem.run,hh]
    have hg2:(getObj M).run P w=.ok (.map #[] clock) w:=by simp[getObj,Sem.run,hh2]
    exact⟨rfl,rfl,_,w,by simp[Instr.next,hg,hg2,Question.forced],ai r hover⟩
   ·cases hrun
  ·rename_i m hb;split at hrun
   ·rename_i k u hm;obtain⟨ho,hrun⟩:=aF hrun;simp only[pI] at hrun;obtain⟨rfl,rfl⟩:=hrun;obtain⟨B0,O0,R0,hf0,_,_,hr⟩:=r.blk b _ hb;rw[hf] at hf0;simp only[sI,pI] at hf0;obtain⟨rfl,rfl,rfl⟩:=hf0;simp only[BlkR] at hr;obtain⟨rfl,rfl,M,O',R',hfm,hh⟩:=hr;obtain⟨e,hg2,hb0,hk,hv⟩:=iI (P:=P) r hm hfm;have hh1:w.heap[B]? =some (.mapIter (some M) 1 #[] 1):=by simpa using hh
    have hg:(getObj B).run P w=.ok (.mapIter (some M) 1 #[] 1) w:=by simp[getObj,Sem.run,hh1]
    have hso:∀o',(Go.setObj B o').run P w=.ok () {w with heap:=w.heap.setIfInBounds B o'}:=fun o'=>by simp[Go.setObj,Sem.run,hh]
    have g:=r.setObj (k':=.mit1 m true) (o':=.mapIter (some M) 1 #[0] 1) hb hf hh rfl rfl (fun w' hw'=>by
     simp only[BlkR];exact⟨trivial,trivial,M,O',R',hfm,hw'⟩)
    refine⟨rfl,rfl,.tuple #[.bool true,e.key,e.val],_,?_,S,f,g,?_⟩
    ·simp[Instr.next,hg,hg2,hso,hb0,Question.forced]
    ·simp only[Rel];exact⟨[.bool true,e.key,e.val],rfl,by
      simp only[RelL,Rel];exact⟨_,_,rfl,⟨rfl,rfl⟩,_,_,rfl,⟨hk,ho⟩,_,_,rfl,hv,rfl⟩⟩
   ·cases hrun
  ·rename_i m hb;split at hrun
   ·rename_i p hm;obtain⟨k,u⟩:=p;simp only[sI,pI] at hrun;obtain⟨rfl,rfl⟩:=hrun;obtain⟨B0,O0,R0,hf0,_,_,hr⟩:=r.blk b _ hb;rw[hf] at hf0;simp only[sI,pI] at hf0;obtain⟨rfl,rfl,rfl⟩:=hf0;simp only[BlkR] at hr;obtain⟨rfl,rfl,M,O',R',hfm,hh⟩:=hr;obtain⟨e,hg2,hb0,_⟩:=iI (P:=P) r hm hfm;have hh1:w.heap[B]? =some (.mapIter (some M) 1 #[0] 1):=by simpa using hh
    have hg:(getObj B).run P w=.ok (.mapIter (some M) 1 #[0] 1) w:=by simp[getObj,Sem.run,hh1]
    exact⟨rfl,rfl,_,w,by simp[Instr.next,hg,hg2,hb0,Question.forced],ai r hover⟩
   ·cases hrun
  ·rename_i m n seen hb;split at hrun
   ·rename_i es hm;obtain⟨hq,hrun⟩:=aF hrun;simp only[pI] at hrun;obtain⟨rfl,rfl⟩:=hrun;simp only[i9] at hq;have hn:=ij hq.1;have h1:=is hq.2.1;obtain⟨rfl,rfl,M,O',R',arr,hfm,hh,hh2,hs,hme,hbn⟩:=lw r hb hf hm hn;have hg:(getObj B).run P w=.ok (.mapIter (some M) n seen.toArray n) w:=by simp[getObj,Sem.run,hh]
    have hg2:(getObj M).run P w=.ok (.map arr n) w:=by simp[getObj,Sem.run,hh2]
    have hem:Array.filter (fun e=> !seen.toArray.contains e.born) arr= #[]:=by
     rw[Array.filter_eq_empty_iff];intro x hx;have:=iC hq.2.2 _ (eu hbn hx).1
     simpa using this
    refine⟨rfl,rfl,.tuple #[.bool false],w,?_,ai r hover⟩;simp only[Instr.next,hg,hg2,Sem.run_bind,Result.andThen_ok,rK (seen:=seen.toArray) hbn h1,ju,if_false,hem];simp[choose,Sem.run,Question.forced]
   ·cases hrun
  ·cases hrun
 ·cases hrun
theorem xA{x:Operand}{x':Opd}(ht:TmR S f s.tm a.tmps N)(r:WR E.globs base S f s.h w)(hx:cOpd x=some x')
  (hrun:runOp E call s (.curMap x')=some (v,s')):s'=s∧∃z,(Instr.entry (a.eval x)).run P w=.ok z w∧Rel S f v z:=by
 simp only[runOp] at hrun;split at hrun
 ·rename_i b ex;have rx:=aA ht hx ex;simp only[Rel] at rx;obtain⟨B,O,R,hf,hX⟩:=rx;rw[hX];split at hrun
  ·rename_i m hb;split at hrun
   ·rename_i k u hm;obtain⟨ho,hrun⟩:=aF hrun;simp only[pI] at hrun;obtain⟨rfl,rfl⟩:=hrun;obtain⟨B0,O0,R0,hf0,_,_,hr⟩:=r.blk b _ hb;rw[hf] at hf0;simp only[sI,pI] at hf0;obtain⟨rfl,rfl,rfl⟩:=hf0;simp only[BlkR] at hr;obtain⟨rfl,rfl,M,O',R',hfm,hh⟩:=hr;obtain⟨e,hg2,hb0,hk,hv⟩:=iI (P:=P) r hm hfm;have hh1:w.heap[B]? =some (.mapIter (some M) 1 #[0] 1):=by simpa using hh
    have hg:(getObj B).run P w=.ok (.mapIter (some M) 1 #[0] 1) w:=by simp[getObj,Sem.run,hh1]
    refine⟨rfl,.tuple #[e.key,e.val],?_,?_⟩
    ·simp[Instr.entry,hg,hg2,hb0]
    ·simp only[Rel];exact⟨[e.key,e.val],rfl,by
      simp only[RelL,Rel];exact⟨_,_,rfl,⟨hk,ho⟩,_,_,rfl,hv,rfl⟩⟩
   ·cases hrun
  ·rename_i m n seen hb;split at hrun
   ·rename_i es hm;split at hrun
    ·rename_i k u hcur;obtain⟨hq,hrun⟩:=aF hrun;simp only[pI] at hrun;obtain⟨rfl,rfl⟩:=hrun;simp only[i9] at hq;have hn:=ij hq.1;obtain⟨rfl,rfl,M,O',R',arr,hfm,hh,hh2,hs,hme,hbn⟩:=lw r hb hf hm hn;have hg:(getObj B).run P w=.ok (.mapIter (some M) n seen.toArray n) w:=by simp[getObj,Sem.run,hh]
     have hg2:(getObj M).run P w=.ok (.map arr n) w:=by simp[getObj,Sem.run,hh2]
     unfold curOf at hcur;split at hcur
     ·rename_i i hlast;have hi:i<arr.size:=by rw[hs,←hn];exact(A3.1 hcur).1
      obtain⟨k',u',h1,h2,h3⟩:=qh es arr.toList i arr[i] hme (by rw[Array.getElem?_toList];exact Ab hi)
      rw[hcur] at h1;simp only[sI,pI] at h1;obtain⟨rfl,rfl⟩:=h1;have hbk:seen.toArray.back?=some i:=by rw[List.back?_toArray];exact hlast
      have hfd:arr.find? (fun e=>e.born==i)=some arr[i]:=by
       rw[Array.find?_eq_some_iff_getElem];refine⟨by simpa using hbn.2 i _ (Ab hi),i,hi,rfl,fun j hj=>?_⟩
       have:=hbn.2 j _ (Ab om);simp[this];omega
      refine⟨rfl,.tuple #[arr[i].key,arr[i].val],?_,?_⟩
      ·simp only[Instr.entry,hg,hg2,Sem.run_bind,Result.andThen_ok,hbk,bne_self_eq_false,ju,if_false,hfd];rfl
      ·simp only[Rel];exact⟨[arr[i].key,arr[i].val],rfl,by
        simp only[RelL,Rel];exact⟨_,_,rfl,⟨h2,hq.2⟩,_,_,rfl,h3,rfl⟩⟩
     ·cases hcur
    ·cases hrun
   ·cases hrun
  ·cases hrun
 ·cases hrun
end ops
end Go.AM
namespace Go.AM
open Go.RowKit
variable {G:Nat→Option (List AV)}{base:Nat}{S:Snap}{f:Emb}{h:AH}{w:World}{P:Program}{E:Env}{s:St}{a:Act}{N:Nat}
def CallOkF(P:Program)(E:Env)(call:Nat→List AV→AH→Option (AV×AH)):Prop:=
 ∀g l h r h',call g l h=some (r,h')→(∃fn,P.funcs[g]? =some fn∧(fn.name== "runtime.NumGoroutine")=false∧fn.body.isNone=false)∧
  ∀base S f w vals,WR E.globs base S f h w→RelL S f l vals→CallsIn Fence.wide 0 P g vals.toArray w fun e w'=>∃x,e=.returned x∧Left E base S f h w r h' x w'
def CallOkY(P:Program)(E:Env)(call:Nat→List AV→AH→Option (AV×AH)):Prop:=
 ∀b l h r h',call b l h=some (r,h')→∀base S f w vals B O R,WR E.globs base S f h w→RelL S f l vals→f b=some (B,O,R)→
  OpOut P (Instr.yield B vals.toArray) w (Left E base S f h w r h')
structure CallOk (P:Program) (E:Env) (call:Cle→List AV→AH→Option (AV×AH)):Prop where
 f:CallOkF P E fun g=>call (.f g)
 y:CallOkY P E fun b=>call (.y b)
structure MethOk (P:Program) (E:Env):Prop where
 m:∀t name g,E.meth t name=some g→∀(v:Value) (w:World),(method (P.types.size+Made.depth) t v name).run P w=.ok (g,v) w∧(nilAhead (P.types.size+Made.depth) t v name).run P w=.ok (some false) w
 x1:∀g x w,E.noEscF=some g→(callFunc g #[x]).run P w=.ok (.value x) w
 x2:∀g e (n:Nat) w,E.mkNZF=some (g,e)→n≤281474976710656→∃cs:Array Value,(callFunc g #[.int .i64 n]).run P w=.ok (.value (.slice (some ⟨w.heap.size,0,none⟩) n cs.size)) (w.drew.drew.alloc (.cells cs e))∧n≤cs.size
section ops
variable {call:Cle→List AV→AH→Option (AV×AH)}{o:Oper}{v:AV}{s':St}
theorem cu(hc:CallOk P E call){g:Nat}{l:List AV}{vals:List Value}{r:AV}{h':AH}(hrun:call (.f g) l s.h=some (r,h'))(wr:WR E.globs base S f s.h w)(hl:RelL S f l vals):
  OpOut P (callFunc g vals.toArray) w (Left E base S f s.h w r h'):=by
 obtain⟨⟨fn,h1,h2,h3⟩,h4⟩:=hc.f g l s.h r h' hrun;have e:(callFunc g vals.toArray).run P w=.ok (.enter g vals.toArray) w:=by
  unfold callFunc;simp only[Sem.run_bind,run_program,Result.andThen_ok];have h1':P.funcs[g]? =some fn:=h1;simp only[h1',h2,h3];rfl
 unfold OpOut;rw[e];exact h4 base S f w vals wr hl
theorem dK{sem:Sem Next}{α:Type}{pre:Sem α}{x:α}{K:Value→World→Prop}{k:α→Sem Next}(e:pre.run P w=.ok x w)(hk:OpOut P (k x) w K)(hs:sem=pre>>=k):OpOut P sem w K:=by
 subst hs;unfold OpOut at hk⊢
 simp only[Sem.run_bind,e,Result.andThen_ok];exact hk
theorem ep{t:TypeId}{z:Value}{name:String}{g:Nat}{rest:Array Value}{K:Value→World→Prop}(hm:(method (P.types.size+Made.depth) t z name).run P w=.ok (g,z) w)
  (h:OpOut P (callFunc g (#[z]++rest)) w K):OpOut P (callMethod (.iface t z) name rest) w K:=by
 unfold OpOut at h⊢
 simp only[callMethod,Sem.run_bind,run_program,Result.andThen_ok,hm];exact h
theorem fP{args:Array Value}{recv:Value}{name:String}{c:Array Value}(h:args[0]? =some recv):invoke (.fn (.method name) c) args=callMethod recv name (args.extract 1 args.size):=by
 unfold invoke;simp only[h]
theorem Gl{g:Nat}{args:Array Operand}{argTypes:Array TypeId}{args':List Opd}{ty:TypeId}(hc:CallOk P E call)(ht:TmR S f s.tm a.tmps N)(r:WR E.globs base S f s.h w)(hx:cOpds args.toList=some args')
  (hrun:runOp E call s (.call g args')=some (v,s')):
  s'.tm=s.tm∧s'.defers=s.defers∧OpOut P (do let d←resolve a.eval {callee:=.value (.func g),args,argTypes} ty;invoke d.target d.args) w (Left E base S f s.h w v s'.h):=by
 simp only[runOp] at hrun;split at hrun
 ·rename_i l hl;simp only[j7,sI,pI] at hrun;obtain⟨⟨r0,h0⟩,hcall,rfl,rfl⟩:=hrun;refine⟨rfl,rfl,?_⟩;have:=cu hc hcall r (bE ht hx hl);refine dK (pre:=resolve a.eval {callee:=.value (.func g),args,argTypes} ty) (x:={target:=.fn (.func g) #[],args:= #[]++args.map a.eval}) (by simp[resolve,Act.eval,Deferred.ofValue]) ?_ rfl
  have e:(args.toList.map a.eval).toArray= #[]++args.map a.eval++ #[]:=by apply As;simp
  rw[e] at this;exact this
 ·cases hrun
theorem yf{x:Operand}{x':Opd}{args:Array Operand}{argTypes:Array TypeId}{args':List Opd}{ty:TypeId}(hc:CallOk P E call)(hm:MethOk P E)(ht:TmR S f s.tm a.tmps N)(r:WR E.globs base S f s.h w)
  (hy:cOpd x=some x') (hx:cOpds args.toList=some args') (hrun:runOp E call s (.callv x' args')=some (v,s')):
  s'.tm=s.tm∧s'.defers=s.defers∧OpOut P (do let d←resolve a.eval {callee:=.value x,args,argTypes} ty;invoke d.target d.args) w (Left E base S f s.h w v s'.h):=by
 simp only[runOp] at hrun;split at hrun
 ·rename_i g A B l ex hl;simp only[j7,sI,pI] at hrun;obtain⟨⟨r0,h0⟩,hcall,rfl,rfl⟩:=hrun;refine⟨rfl,rfl,?_⟩;have rx:=aA ht hy ex;simp only[Rel] at rx;obtain⟨xs,ys,e,r1,r2⟩:=rx;have hl':=bE ht hx hl;have:=cu hc hcall r ((r1.append hl').append r2);refine dK (pre:=resolve a.eval {callee:=.value x,args,argTypes} ty) (x:={target:=.fn (.func g) ys.toArray,args:=xs.toArray++args.map a.eval}) (by simp[resolve,e,Deferred.ofValue]) ?_ rfl
  simp only[invoke];have e2:(xs++args.toList.map a.eval++ys).toArray=xs.toArray++args.map a.eval++ys.toArray:=by
   apply As;simp
  rw[e2] at this;exact this
 ·rename_i name t u A B l ex hl;split at hrun
  ·rename_i g hg;simp only[j7,sI,pI] at hrun;obtain⟨⟨r0,h0⟩,hcall,rfl,rfl⟩:=hrun;refine⟨rfl,rfl,?_⟩;have rx:=aA ht hy ex;simp only[Rel,RelL] at rx;obtain⟨xs,ys,e,⟨y0,xs',rfl,⟨z,rfl,rz⟩,r1⟩,r2⟩:=rx;have hl':=bE ht hx hl;have hrel:RelL S f (u::(A++l)) (z::(xs'++args.toList.map a.eval)):=by
    simp only[RelL];exact⟨z,_,rfl,rz,r1.append hl'⟩
   have:=cu hc hcall r hrel;refine dK (pre:=resolve a.eval {callee:=.value x,args,argTypes} ty) (x:={target:=.fn (.method name) ys.toArray,args:=(Value.iface t z::xs').toArray++args.map a.eval}) (by simp[resolve,e,Deferred.ofValue]) ?_ rfl
   obtain⟨hm1,_⟩:=hm.m t name g hg z w;have e2:(z::(xs'++args.toList.map a.eval)).toArray= #[z]++((Value.iface t z::xs').toArray++args.map a.eval).extract 1 ((Value.iface t z::xs').toArray++args.map a.eval).size:=by
    apply As;simp only[Cc,Array.toList_extract,List.extract_eq_drop_take,Array.size_append,Bi];simp only[ja,A6,jj,iz,List.size_toArray,im,Array.size_map];rw[jl];simp
   have e3:((Value.iface t z::xs').toArray++args.map a.eval)[0]? =some (.iface t z):=by rw[Cl (by simp)];rfl
   change OpOut P (invoke _ _) w _;rw[fP e3];refine ep hm1 ?_
   rw[e2] at this;exact this
  ·cases hrun
 ·rename_i b l ex hl;simp only[j7,sI,pI] at hrun;obtain⟨⟨r0,h0⟩,hcall,rfl,rfl⟩:=hrun;refine⟨rfl,rfl,?_⟩;have rx:=aA ht hy ex;simp only[Rel] at rx;obtain⟨B,O,R,hf,e⟩:=rx;have hl':=bE ht hx hl;have:=hc.y b l s.h r0 h0 hcall base S f w _ B O R r hl' hf;refine dK (pre:=resolve a.eval {callee:=.value x,args,argTypes} ty) (x:={target:=.fn (.yield B) #[],args:= #[]++args.map a.eval}) (by simp[resolve,e,Deferred.ofValue]) ?_ rfl
  simp only[invoke];have e2:(args.toList.map a.eval).toArray= #[]++args.map a.eval:=by apply As;simp
  rw[e2] at this;exact this
 ·cases hrun
theorem w8{x:Operand}{x':Opd}{name:String}{args:Array Operand}{argTypes:Array TypeId}{args':List Opd}{ty:TypeId}(hc:CallOk P E call)(hm:MethOk P E)(ht:TmR S f s.tm a.tmps N)(r:WR E.globs base S f s.h w)
  (hy:cOpd x=some x') (hx:cOpds args.toList=some args') (hrun:runOp E call s (.invoke x' name args')=some (v,s')):
  s'.tm=s.tm∧s'.defers=s.defers∧OpOut P (do let d←resolve a.eval {callee:=.invoke x name,args,argTypes} ty;invoke d.target d.args) w (Left E base S f s.h w v s'.h):=by
 simp only[runOp] at hrun;split at hrun
 ·rename_i t u l ex hl;split at hrun
  ·rename_i g hg;simp only[j7,sI,pI] at hrun;obtain⟨⟨r0,h0⟩,hcall,rfl,rfl⟩:=hrun;refine⟨rfl,rfl,?_⟩;have rx:=aA ht hy ex;simp only[Rel] at rx;obtain⟨z,e,rz⟩:=rx;have hl':=bE ht hx hl;have hrel:RelL S f (u::l) (z::args.toList.map a.eval):=by
    simp only[RelL];exact⟨z,_,rfl,rz,hl'⟩
   have:=cu hc hcall r hrel;refine dK (pre:=resolve a.eval {callee:=.invoke x name,args,argTypes} ty) (x:={target:=.fn (.method name) #[],args:= #[a.eval x]++args.map a.eval}) (by simp[resolve]) ?_ rfl
   obtain⟨hm1,_⟩:=hm.m t name g hg z w;have e2:(z::args.toList.map a.eval).toArray= #[z]++(#[a.eval x]++args.map a.eval).extract 1 (#[a.eval x]++args.map a.eval).size:=by
    apply As;simp only[Cc,Array.toList_extract,List.extract_eq_drop_take,Array.size_append,Bi];simp only[ja,A6,jj,iz,List.size_toArray,im,Array.size_map];rw[jl];simp
   have e3:(#[a.eval x]++args.map a.eval)[0]? =some (.iface t z):=by rw[Cl (by simp),←e];rfl
   change OpOut P (invoke _ _) w _;rw[fP e3];refine ep hm1 ?_
   rw[e2] at this;exact this
  ·cases hrun
 ·cases hrun
theorem ya{x:Operand}{x':Opd}(hm:MethOk P E)(ht:TmR S f s.tm a.tmps N)(r:WR E.globs base S f s.h w)(hx:cOpd x=some x')(ho:o.op=.nilCheck x)(hrun:runOp E call s (.nilck x')=some (v,s')):
  s'=s∧(execOp a.eval o).run P w=.ok (.value (a.eval x)) w∧Rel S f v (a.eval x):=by
 simp only[runOp] at hrun;cases ex:s.eval x' with
 |none=>simp[ex] at hrun
 |some u=>
  have rx:=aA ht hx ex;simp only[ex] at hrun;have key:∀X:Value,X=a.eval x→(∀n A B,X≠ .func n A B)→X≠ .pointer none→X≠ .nilIface→X≠ .nilFunc→(execOp a.eval o).run P w=.ok (.value (a.eval x)) w:=by
   intro X hX h1 h2 h3 h4;unfold execOp;simp only[ho,←hX];cases X with
   |pointer p=>cases p with
    |none=>exact absurd rfl h2
    |some p=>rfl
   |nilIface=>exact absurd rfl h3
   |nilFunc=>exact absurd rfl h4
   |func n A B=>exact absurd rfl (h1 n A B)
   |_=>rfl
  cases u with
  |val V=>
   simp only[Rel] at rx;have hX:=rx.1;cases V with
   |pointer p=>cases p with
    |none=>simp at hrun
    |some p=>
     simp only[sI,pI] at hrun;obtain⟨rfl,rfl⟩:=hrun;exact⟨rfl,key _ hX.symm (by simp) (by simp) (by simp) (by simp),by simp only[Rel];exact rx⟩
   |nilIface=>simp at hrun
   |nilFunc=>simp at hrun
   |func n A B=>simp at hrun
   |_=>
    simp only[sI,pI] at hrun;obtain⟨rfl,rfl⟩:=hrun;exact⟨rfl,key _ hX.symm (by simp) (by simp) (by simp) (by simp),by simp only[Rel];exact rx⟩
  |fn F A B=>
   have rx':=rx;simp only[Rel] at rx;obtain⟨xs,ys,hX,r1,r2⟩:=rx;cases F with
   |method name=>
    cases A with
    |nil=>simp at hrun
    |cons A0 A=>
     cases A0 with
     |ifc t q=>
      simp only at hrun;split at hrun
      ·rename_i g hg;simp only[sI,pI] at hrun;obtain⟨rfl,rfl⟩:=hrun;refine⟨rfl,?_,rx'⟩;simp only[RelL] at r1;obtain⟨y,ys',rfl,ry,_⟩:=r1;simp only[Rel] at ry;obtain⟨z,rfl,_⟩:=ry;obtain⟨_,hn⟩:=hm.m t name g hg z w;unfold execOp;simp only[ho,hX];simp[hn]
      ·cases hrun
     |_=>simp at hrun
   |_=>
    simp only[sI,pI] at hrun;obtain⟨rfl,rfl⟩:=hrun;refine⟨rfl,?_,rx'⟩;unfold execOp;simp only[ho,hX];rfl
  |agg cs=>
   simp only[sI,pI] at hrun;obtain⟨rfl,rfl⟩:=hrun;have rx':=rx;simp only[Rel] at rx;obtain⟨_,e,_⟩:=rx;exact⟨rfl,key _ e.symm (by simp) (by simp) (by simp) (by simp),rx'⟩
  |tup cs=>
   simp only[sI,pI] at hrun;obtain⟨rfl,rfl⟩:=hrun;have rx':=rx;simp only[Rel] at rx;obtain⟨_,e,_⟩:=rx;exact⟨rfl,key _ e.symm (by simp) (by simp) (by simp) (by simp),rx'⟩
  |imm=>
   simp only[sI,pI] at hrun;obtain⟨rfl,rfl⟩:=hrun;have rx':=rx;simp only[Rel] at rx;obtain⟨_,_,_,e,_⟩:=rx;exact⟨rfl,key _ e.symm (by simp) (by simp) (by simp) (by simp),rx'⟩
  |own=>
   simp only[sI,pI] at hrun;obtain⟨rfl,rfl⟩:=hrun;have rx':=rx;simp only[Rel] at rx;obtain⟨_,_,_,_,_,e,_⟩:=rx;rcases e with e|⟨_,_,_,_,e⟩
   ·exact⟨rfl,key _ e.symm (by simp) (by simp) (by simp) (by simp),rx'⟩
   ·exact⟨rfl,key _ e.symm (by simp) (by simp) (by simp) (by simp),rx'⟩
  |ptr=>
   simp only[sI,pI] at hrun;obtain⟨rfl,rfl⟩:=hrun;have rx':=rx;simp only[Rel] at rx;obtain⟨_,_,_,_,e⟩:=rx;exact⟨rfl,key _ e.symm (by simp) (by simp) (by simp) (by simp),rx'⟩
  |iptr=>
   simp only[sI,pI] at hrun;obtain⟨rfl,rfl⟩:=hrun;have rx':=rx;simp only[Rel] at rx;obtain⟨_,_,e,_⟩:=rx;exact⟨rfl,key _ e.symm (by simp) (by simp) (by simp) (by simp),rx'⟩
  |ifc=>
   simp only[sI,pI] at hrun;obtain⟨rfl,rfl⟩:=hrun;have rx':=rx;simp only[Rel] at rx;obtain⟨_,e,_⟩:=rx;exact⟨rfl,key _ e.symm (by simp) (by simp) (by simp) (by simp),rx'⟩
  |mp=>
   simp only[sI,pI] at hrun;obtain⟨rfl,rfl⟩:=hrun;have rx':=rx;simp only[Rel] at rx;obtain⟨_,_,_,_,e⟩:=rx;exact⟨rfl,key _ e.symm (by simp) (by simp) (by simp) (by simp),rx'⟩
  |it=>
   simp only[sI,pI] at hrun;obtain⟨rfl,rfl⟩:=hrun;have rx':=rx;simp only[Rel] at rx;obtain⟨_,_,_,_,e⟩:=rx;exact⟨rfl,key _ e.symm (by simp) (by simp) (by simp) (by simp),rx'⟩
  |yld=>simp at hrun
end ops
end Go.AM
namespace Go.AM
open Go.RowKit
variable {G:Nat→Option (List AV)}{base:Nat}{S:Snap}{f:Emb}{h:AH}{w:World}{P:Program}{E:Env}{s:St}{a:Act}{N:Nat}
section ops
variable {call:Cle→List AV→AH→Option (AV×AH)}{o:Oper}{v:AV}{s':St}
theorem fM{t:TypeId}(h:notIface P t=true):∃d,P.underlying t=some d∧∀m,d≠ .interface m:=by
 unfold notIface at h;cases hu:P.underlying t with
 |none=>simp[hu] at h
 |some d=>refine⟨d,rfl,fun m e=>?_⟩;subst e;simp[hu] at h
theorem my{ts:Array TypeId}(h:secondOk P ts[1]? =true):∀t,ts[1]? =some t→∃d,P.underlying t=some d∧∀k,d≠ .int k:=by
 intro t ht;rw[ht] at h;unfold secondOk at h;cases hu:P.underlying t with
 |none=>simp[hu] at h
 |some d=>refine⟨d,rfl,fun k e=>?_⟩;subst e;simp[hu] at h
def Fine(E:Env)(P:Program)(base:Nat)(S:Snap)(f:Emb)(w:World)(a:Act)(o:Oper)(s:St)(v:AV)(s':St):Prop:=
 s'.tm=s.tm∧s'.defers=s.defers∧OpOut P (execOp a.eval o) w (Left E base S f s.h w v s'.h)
theorem aT{sem:Sem Value}(r:WR E.globs base S f s.h w)(ho:execOp a.eval o=(do pure (Next.value (←sem))))(k:s'=s∧∃z,sem.run P w=.ok z w∧Rel S f v z):Fine E P base S f w a o s v s':=by
 obtain⟨rfl,z,e,hr⟩:=k;exact⟨rfl,rfl,by rw[ho];exact nU e (ai r hr)⟩
theorem bn{sem:Sem Value}(ho:execOp a.eval o=(do pure (Next.value (←sem))))(k:s'.tm=s.tm∧s'.defers=s.defers∧∃z w',sem.run P w=.ok z w'∧Left E base S f s.h w v s'.h z w'):Fine E P base S f w a o s v s':=by
 obtain⟨h1,h2,z,w',e,hr⟩:=k;exact⟨h1,h2,by rw[ho];exact nU e hr⟩
theorem n9{sem:Sem Unit}(ho:execOp a.eval o=(do sem;pure Next.skip))(k:s'.tm=s.tm∧s'.defers=s.defers∧∃w',sem.run P w=.ok () w'∧Left E base S f s.h w v s'.h undef w'):Fine E P base S f w a o s v s':=by
 obtain⟨h1,h2,w',e,hr⟩:=k;exact⟨h1,h2,by rw[ho];exact Ql e hr⟩
theorem oA{x:Value}(r:WR E.globs base S f s.h w)(ho:execOp a.eval o=pure (Next.value x))(k:s'=s∧Rel S f v x):Fine E P base S f w a o s v s':=by
 obtain⟨rfl,hr⟩:=k;exact⟨rfl,rfl,by rw[ho];exact kY (x:=x) (w':=w) rfl (ai r hr)⟩
theorem dF{y:Opd}{args:Array Operand}(ha:cOpds args.toList=some [y]):∃x,args= #[x]∧cOpd x=some y:=by
 have:args=args.toList.toArray:=by simp
 rw[this];cases h:args.toList with
 |nil=>rw[h] at ha;simp[cOpds] at ha
 |cons x l=>
  rw[h] at ha;unfold cOpds at ha;cases h1:cOpd x<;>cases h2:cOpds l<;>simp[h1,h2] at ha
  rename_i y' ys;obtain⟨rfl,rfl⟩:=ha;cases l with
  |nil=>exact⟨x,rfl,h1⟩
  |cons x2 l=>
   unfold cOpds at h2;cases h3:cOpd x2<;>cases h4:cOpds l<;>simp[h3,h4] at h2
theorem jL{y z:Opd}{args:Array Operand}(ha:cOpds args.toList=some [y,z]):∃x x',args= #[x,x']∧cOpd x=some y∧cOpd x'=some z:=by
 have:args=args.toList.toArray:=by simp
 rw[this];cases h:args.toList with
 |nil=>rw[h] at ha;simp[cOpds] at ha
 |cons x l=>
  rw[h] at ha;unfold cOpds at ha;cases h1:cOpd x<;>cases h2:cOpds l<;>simp[h1,h2] at ha
  rename_i y' ys;obtain⟨rfl,rfl⟩:=ha;have h2':cOpds l.toArray.toList=some [z]:=by simpa using h2
  obtain⟨x',e,hx⟩:=dF h2';have:l=[x']:=by have:=congrArg Array.toList e;simpa using this
  subst this;exact⟨x,x',rfl,h1,hx⟩
end ops
end Go.AM
namespace Go.AM
open Go.RowKit
variable {G:Nat→Option (List AV)}{base:Nat}{S:Snap}{f:Emb}{h:AH}{w:World}{P:Program}{E:Env}{s:St}{a:Act}{N:Nat}
theorem WR.tag(r:WR G base S f h w){b B R:Nat}{t:TypeId}{n:Option Nat}(hl:(h.get b).isSome=true)(hb:f b=some (B,0,R))(hs:w.shape? B=some (t,R))(hn:∀k,n=some k→R=k):
  Goes G base S f h w S (upd f h.next (B,0,0)) (h.alloc (.tag b t n)) w:=by
 obtain⟨k,hk⟩:=Af.1 hl;obtain⟨B0,O0,R0,hf0,hB,hsz,_⟩:=r.blk b k hk;rw[hb] at hf0;simp only[sI,pI] at hf0;obtain⟨rfl,rfl,rfl⟩:=hf0;have hle:Le S f S (upd f h.next (B,0,0)):=Le.upd _ r.fresh;refine⟨hle,⟨r.snap,fun g cs hg=>(r.glob g cs hg).le hle _ _ _,fun b' q hq=>?_,fun b1 b2 B1 O1 R1 B2 O2 R2 hne g1 g2 hf1 hf2=>?_,fun b' x hx=>?_,r.le⟩,.refl _ _,fun _ _ _ _ _=>⟨aQ rfl,fun _ _=>rfl⟩,fun b' B' O' R' hg hf'=>?_,
  fun b x hf hlt=>by rw[bP om] at hf;exact hf,by simp⟩
 ·rw[AH.get_alloc] at hq;split at hq
  ·rename_i e;subst e;simp only[sI] at hq;subst hq;refine⟨B,0,0,aR _ _ _,hB,hsz,?_⟩;simp only[BlkR];exact⟨trivial,trivial,R,hle.f _ _ hb,hs,hn⟩
  ·rename_i e;obtain⟨B',O',R',hf',hB',hs',hr'⟩:=r.blk b' q hq;exact⟨B',O',R',by rw[bP e];exact hf',hB',hs',hr'.le hle (fun _ _ e=>e)⟩
 ·rw[AH.get_alloc] at g1 g2
  by_cases e1:b1=h.next
  ·subst e1;rw[aR] at hf1;simp only[sI,pI] at hf1;omega
  ·by_cases e2:b2=h.next
   ·subst e2;rw[aR] at hf2;simp only[sI,pI] at hf2;omega
   ·rw[if_neg e1] at g1;rw[if_neg e2] at g2;rw[bP e1] at hf1;rw[bP e2] at hf2;exact r.apart b1 b2 B1 O1 R1 B2 O2 R2 hne g1 g2 hf1 hf2
 ·by_cases e:b'=h.next
  ·subst e;simp
  ·rw[bP e] at hx;have:=r.dom _ _ hx;simp;omega
 ·rw[AH.get_alloc] at hg
  by_cases e:b'=h.next
  ·subst e;rw[aR] at hf';simp only[sI,pI] at hf';obtain⟨rfl,rfl,rfl⟩:=hf';exact .inr ⟨b,0,R,hl,hb,i7 _,om⟩
  ·rw[if_neg e] at hg;rw[bP e] at hf';exact bB b' B' O' R' hg hf'
theorem fS(r:WR G base S f h w){b B O R:Nat}{t:TypeId}{n:Option Nat}(ht:tagOf h b=some (t,n))(hf:f b=some (B,O,R)):O=0∧w.shape? B=some (t,R)∧∀k,n=some k→R=k:=by
 unfold tagOf at ht;split at ht
 ·rename_i b' t' n' hb;have hq:=aF ht;obtain⟨he,hq⟩:=hq;simp only[pI] at hq;obtain⟨rfl,rfl⟩:=hq;have he:=ij he;subst he;obtain⟨B0,O0,R0,hf0,_,_,hr⟩:=r.blk _ _ hb;simp only[BlkR] at hr;obtain⟨_,_,R1,h3,h4,h5⟩:=hr;rw[hf] at h3;simp only[sI,pI] at h3;obtain⟨rfl,rfl,rfl⟩:=h3;exact⟨rfl,h4,h5⟩
 ·cases ht
section ops
variable {call:Cle→List AV→AH→Option (AV×AH)}{o:Oper}{v:AV}{s':St}
theorem cd(w:World)(arr:Array Value)(t:TypeId):(w.alloc (.cells arr t)).shape? w.heap.size=some (t,arr.size):=by
 have:(w.alloc (.cells arr t)).heap[w.heap.size]? =some (.cells arr t):=by
  show(w.heap.push _)[w.heap.size]? =_;simp
 simp only[World.shape?,this]
theorem xC{t:TypeId}{z:List AV}(r:WR E.globs base S f s.h w)(hz:zeroCells? P t=some z)(hrun:runOp E call s (.allocT z t)=some (v,s')):
  s'.tm=s.tm∧s'.defers=s.defers∧∃x w',(Instr.alloc t true (.tuple #[])).run P w=.ok x w'∧Left E base S f s.h w v s'.h x w':=by
 simp only[runOp,sI,pI] at hrun;obtain⟨rfl,rfl⟩:=hrun;obtain⟨zv,hzr,ho,rfl⟩:=cF hz;have g:=r.allocCells (cs:=zv.cells.toList.map .val) (arr:=zv.cells) t (by rw[jl (by simp)];exact fE ho) ho
 have g2:=g.wr.tag (b:=s.h.next) (t:=t) (n:=some (zv.cells.toList.map AV.val).length) (by rw[AH.get_alloc,if_pos rfl];rfl) (aR _ _ _) (cd _ _ _) (fun k hk=>by simp at hk;rw[←hk])
 refine⟨rfl,rfl,.pointer (some ⟨w.heap.size,0,none⟩),w.alloc (.cells zv.cells t),by simp[Instr.alloc,hzr,newVar,newRow],_,_,g.trans g2,?_⟩
 simp only[Rel];exact⟨_,_,_,g2.le.f _ _ (aR _ _ _),rfl⟩
theorem qY{t:TypeId}{n:Nat}(h:sizeOf? P t=some (n+1)):∃j:TypeInfo,P.info? t=some j∧j.size≠0:=by
 unfold sizeOf? at h;cases hi:P.info? t with
 |none=>simp[hi] at h
 |some i=>simp[hi] at h;exact⟨i,rfl,om⟩
theorem rG{src dst t:TypeId}{n:Nat}{x:Operand}{y:Opd}(hP:E.P=P)(ht:TmR S f s.tm a.tmps N)(r:WR E.globs base S f s.h w)(hc:cOpd x=some y)(hn:sizeOf? P t=some (n+1))
  (hsd:(P.underlying src=some (.pointer t)∧P.underlying dst=some .unsafePointer)∨(P.underlying src=some .unsafePointer∧P.underlying dst=some (.pointer t)))
  (hrun:runOp E call s (.bconv t y)=some (v,s')):s'=s∧∃z,(convert src dst (a.eval x)).run P w=.ok z w∧Rel S f v z:=by
 simp only[runOp] at hrun;split at hrun
 ·rename_i b ex;have rx:=aA ht hc ex;simp only[Rel] at rx;obtain⟨B,O,R,hf,e⟩:=rx;split at hrun
  ·rename_i t' k htag;have hq:=aF hrun;clear hrun;obtain⟨hcd,hq⟩:=hq;simp only[pI] at hq;obtain⟨rfl,rfl⟩:=hq;rw[i9,i9] at hcd;obtain⟨⟨c1,c2⟩,c3⟩:=hcd;have c1:=ij c1;subst c1;have c3:=is c3;obtain⟨rfl,hsh,hk⟩:=fS r htag hf;have hk:=hk k rfl;subst hk;obtain⟨j,hj,hj0⟩:=qY hn;refine⟨rfl,.pointer (some ⟨B,0,none⟩),?_,by simp only[Rel];exact⟨B,0,R,hf,rfl⟩⟩
   rw[e];rcases hsd with⟨h1,h2⟩|⟨h1,h2⟩
   ·exact Lib.run_to_unsafe w ⟨B,0,none⟩ h1 h2 hj hj0 (e:=t) (cells:=R) hsh (by show(0:Nat)<R;omega)
   ·exact Lib.run_from_unsafe w ⟨B,0,none⟩ h1 h2 hj (e:=t) (cells:=R) hsh (by rw[←hP];exact c2)
  ·cases hrun
 ·cases hrun
theorem ye{g:Nat}{args:Array Operand}{argTypes:Array TypeId}{y:Opd}{ty:TypeId}(hm:MethOk P E)(ht:TmR S f s.tm a.tmps N)(r:WR E.globs base S f s.h w)(hx:cOpds args.toList=some [y])
  (hrun:runOp E call s (.callx g y)=some (v,s')):
  s'.tm=s.tm∧s'.defers=s.defers∧OpOut P (do let d←resolve a.eval {callee:=.value (.func g),args,argTypes} ty;invoke d.target d.args) w (Left E base S f s.h w v s'.h):=by
 obtain⟨x,rfl,hx1⟩:=dF hx;have hres:(resolve a.eval {callee:=.value (.func g),args:= #[x],argTypes} ty).run P w=.ok {target:=.fn (.func g) #[],args:= #[a.eval x]} w:=by simp[resolve,Act.eval,Deferred.ofValue]
 have red:∀{K:Value→World→Prop} {z:Value} {w':World},(callFunc g #[a.eval x]).run P w=.ok (.value z) w'→K z w'→
   OpOut P (do let d←resolve a.eval {callee:=.value (.func g),args:= #[x],argTypes} ty;invoke d.target d.args) w K:=by
  intro K z w' h1 h2;refine dK hres ?_ rfl;unfold OpOut;have:(invoke (.fn (.func g) #[]) #[a.eval x]).run P w=.ok (.value z) w':=by simpa [invoke] using h1
  simp only[this];exact h2
 simp only[runOp] at hrun;split at hrun
 ·rename_i u ex;have rx:=aA ht hx1 ex;cases hne:isNoEsc E g with
  |true=>
   simp only[hne,cond_true,sI,pI] at hrun;obtain⟨rfl,rfl⟩:=hrun;unfold isNoEsc at hne;split at hne
   ·rename_i g' hg';have:=ij hne;subst this;exact⟨rfl,rfl,red (hm.x1 g _ w hg') (ai r rx)⟩
   ·cases hne
  |false=>
   simp only[hne,cond_false] at hrun;split at hrun
   ·rename_i g' e hg';have hq:=aN hrun;clear hrun;obtain⟨hgg,hrun⟩:=hq;have:=ij hgg;subst this;split at hrun
    ·rename_i n;have hq:=aF hrun;clear hrun;obtain⟨hn,hq⟩:=hq;simp only[pI] at hq;obtain⟨rfl,rfl⟩:=hq;have hn:=is hn;simp only[Rel] at rx;obtain⟨cs,hcs,hle⟩:=hm.x2 g e n w hg' om;have ga:Goes E.globs base S f s.h w S f s.h w.drew.drew:=r.goesDrew.trans r.drew.goesDrew;have gb:=ga.wr.alloc (o:=.cells cs e) (k:=.cells [] true) (R:=cs.size) (fun f' hle'=>by
      simp only[BlkR];refine⟨by simp,fun i c hc=>by simp at hc,fun i hi=>?_,fun _ i hi=>⟨?_,ga.wr.snap_none _ (i7 _)⟩,fun _ _=>kP _ cs e⟩
      ·rw[jp,World.cell?_alloc_new];simp[hi]
      ·rw[jp];exact World.frozen?_alloc_new _ cs e i)
     have gc:=gb.wr.tag (b:=s.h.next) (t:=e) (n:=none) (by rw[AH.get_alloc,if_pos rfl];rfl) (aR _ _ _) (cd _ _ _) (fun k hk=>by cases hk)
     refine⟨rfl,rfl,red (z:=.slice (some ⟨w.heap.size,0,none⟩) n cs.size) (by rw[rx.1];exact hcs) ?_⟩
     refine⟨_,_,(ga.trans gb).trans gc,?_⟩;simp only[Rel];exact⟨w.heap.size,0,cs.size,cs.size,gc.le.f _ _ (aR _ _ _),.inl rfl,hle,by simp,om⟩
    ·cases hrun
   ·cases hrun
 ·cases hrun
theorem pH{ts:Array TypeId}{ty:TypeId}{x:Operand}{y:Opd}(ht:TmR S f s.tm a.tmps N)(hc:cOpd x=some y)(hrun:runOp E call s (.sliceData y)=some (v,s')):
  s'=s∧∃z,(Builtin.unsafeSliceData_ ts ty #[a.eval x]).run P w=.ok z w∧Rel S f v z:=by
 simp only[runOp] at hrun;split at hrun
 ·rename_i b off n es cap ex;simp only[sI,pI] at hrun;obtain⟨rfl,rfl⟩:=hrun;have rx:=aA ht hc ex;simp only[Rel] at rx;obtain⟨B,O,R,c,hf,e,hle,_,hR⟩:=rx;have e:=e.pos (.inl om);refine⟨rfl,.pointer (some ⟨B,O+off,none⟩),?_,by simp only[Rel];exact⟨B,O,R,hf,rfl⟩⟩
  rw[e];exact Lib.run_unsafeSliceData_row w ts ty _ _ _ om
 ·cases hrun
theorem WR.freezeW(r:WR G base S f h w){b B R n:Nat}{cs:List AV}{rw':Bool}{t:TypeId}(hb:h.get b=some (.cells cs rw'))(hf:f b=some (B,0,R))(hs:w.shape? B=some (t,R)):
  Goes G base S f h w S f (h.put b (some (.cells cs false))) (w.freeze ⟨B,0,none⟩ n):=by
 obtain⟨B0,O0,R0,hf0,hB,hsz,hr⟩:=r.blk b _ hb;rw[hf] at hf0;simp only[sI,pI] at hf0;obtain⟨rfl,rfl,rfl⟩:=hf0;have hheap:∀j,j≠B→(w.freeze ⟨B,0,none⟩ n).heap[j]? =w.heap[j]? :=fun j hj=>by
  unfold World.freeze;split
  ·rfl
  ·simp only[Bn];rw[if_neg om]
 obtain⟨arr,fz,hbk⟩:∃arr fz,w.heap[B]? =some (.cells arr t fz)∧arr.size=R:=by
  simp only[World.shape?] at hs;split at hs
  ·rename_i c e fz hh;simp only[sI,pI] at hs;obtain⟨rfl,hs⟩:=hs;exact⟨c,fz,hh,hs⟩
  ·cases hs
 obtain⟨hbk,hasz⟩:=hbk;have hself:∃fz',(w.freeze ⟨B,0,none⟩ n).heap[B]? =some (.cells arr t fz'):=by
  unfold World.freeze;split
  ·exact⟨fz,hbk⟩
  ·obtain⟨lo,hi⟩:=fz;simp only[Bn,hbk];exact⟨_,rfl⟩
 obtain⟨fz',hself⟩:=hself;have hcell:∀off,(w.freeze ⟨B,0,none⟩ n).cell? ⟨B,off,none⟩=w.cell? ⟨B,off,none⟩:=fun off=>by simp only[World.cell?,hself,hbk]
 have hcell':∀B' off,(w.freeze ⟨B,0,none⟩ n).cell? ⟨B',off,none⟩=w.cell? ⟨B',off,none⟩:=fun B' off=>by
  by_cases e:B'=B
  ·subst e;exact hcell off
  ·simp only[World.cell?,hheap B' e]
 have hsize:w.heap.size≤(w.freeze ⟨B,0,none⟩ n).heap.size:=by
  unfold World.freeze;split
  ·exact i7 _
  ·simp
 have hshape:∀B' sh,w.shape? B'=some sh→(w.freeze ⟨B,0,none⟩ n).shape? B'=some sh:=fun B' sh hsh=>by
  by_cases e:B'=B
  ·subst e;simp only[World.shape?,hself];simp only[World.shape?,hbk] at hsh;exact hsh
  ·simp only[World.shape?,hheap B' e] at hsh⊢;exact hsh
 have same:∀B' O' R',(B≠B'∨0+R≤O'∨O'+R'≤0)→SameReg w (w.freeze ⟨B,0,none⟩ n) B' O' R':=fun B' O' R' hap=>by
  refine⟨fun i _=>hcell' _ _,fun i hi hsome=>?_,fun⟨i,hi,hsome⟩ c=>?_,fun h0 hR o ho hc=>?_,hshape B'⟩
  ·by_cases e:B'=B
   ·exact U15
   ·simp only[World.frozen?,hheap B' e]
  ·by_cases e:B'=B
   ·exact U15
   ·unfold Clean at c⊢
    rw[hheap B' e];exact c
  ·by_cases e:B'=B
   ·subst e;rw[hbk] at ho;simp only[sI] at ho;subst ho;simp[isCells] at hc
   ·rw[hheap B' e];exact ho
 have hbl:Below base w (w.freeze ⟨B,0,none⟩ n):=by
  refine⟨?_,?_,?_,hsize,fun k hk=>hheap k om⟩<;>(unfold World.freeze;split<;>rfl)
 refine⟨.refl _ _,⟨fun b' off v hs'=>by rw[hcell'];exact r.snap _ _ _ hs',r.glob,fun b' q hq=>?_,fun b1 b2 B1 O1 R1 B2 O2 R2 hne g1 g2 hf1 hf2=>?_,r.dom,Nat.le_trans r.le hsize⟩,hbl,fun B' O' R' hB' hap=>⟨same B' O' R' ?_,fun _ _=>rfl⟩,fun b' B' O' R' hg hg'=>?_,
  fun _ _ h _=>h,i7 _⟩
 ·rw[AH.get_put] at hq;split at hq
  ·rename_i e;subst e;simp only[sI] at hq;subst hq;refine⟨B,0,R,hf,hB,A9 hsz hsize,?_⟩;simp only[BlkR] at hr⊢
   obtain⟨h1,h2,h3,_⟩:=hr;refine⟨h1,fun i c hc=>?_,fun i hi=>by rw[hcell'];exact h3 i hi,(fun hx=>by cases hx),(fun hx=>by cases hx)⟩
   obtain⟨y,hy,k⟩:=h2 i c hc;exact⟨y,by rw[hcell'];exact hy,k⟩
  ·rename_i e;obtain⟨B',O',R',hf',hB',hs',hr'⟩:=r.blk b' q hq;refine⟨B',O',R',hf',hB',A9 hs' hsize,hr'.same (same B' O' R' ?_)⟩;have:=r.apart b b' B 0 R B' O' R' (fun x=>e x.symm) (by simp[hb]) (by simp[hq]) hf hf'
   omega
 ·refine r.apart b1 b2 B1 O1 R1 B2 O2 R2 hne ?_ ?_ hf1 hf2
  ·rw[AH.get_put] at g1;split at g1
   ·exact U13
   ·exact g1
  ·rw[AH.get_put] at g2;split at g2
   ·exact U13
   ·exact g2
 ·have:=hap b B 0 R (by simp[hb]) hf
  omega
 ·refine bB b' B' O' R' ?_ hg';rw[AH.get_put] at hg;split at hg
  ·exact U13
  ·exact hg
theorem er:∀{cs:List AV} {l:List UInt8} {xs:List Value},bytesListC cs=some l→RelL S f cs xs→xs=l.map fun b=>Value.int .u8 b.toNat
 | [],l,xs,h,r=>by
  simp[bytesListC] at h;subst h;simp only[RelL] at r;subst r;rfl
 |c::cs,l,xs,h,r=>by
  simp only[RelL] at r;obtain⟨y,ys,rfl,r1,r2⟩:=r;unfold bytesListC at h;split at h
  ·rename_i hh;cases hh
  ·rename_i n rest hc;simp only[List.cons.injEq] at hc;obtain⟨rfl,rfl⟩:=hc;have hq:=aN h;clear h;obtain⟨hn,h⟩:=hq;simp only[iw] at h;obtain⟨l',hl,rfl⟩:=h;have hn:n<256:=is hn;simp only[Rel] at r1;rw[r1.1,er hl r2];simp only[jd]
   congr 2
   show Int.ofNat n=((UInt8.ofNat n).toNat:Int);have:(UInt8.ofNat n).toNat=n:=by rw[UInt8.toNat_ofNat'];omega
   rw[this];rfl
  ·cases h
theorem pG{pt it e:TypeId}{ty:TypeId}{x n:Operand}{x' n':Opd}(ht:TmR S f s.tm a.tmps N)(r:WR E.globs base S f s.h w)(hx:cOpd x=some x')(hn:cOpd n=some n')(hp:P.underlying pt=some (.pointer e))(hc:P.cellsOf e=1)
  (hrun:runOp E call s (.unsafeStr e x' n')=some (v,s')):
  s'.tm=s.tm∧s'.defers=s.defers∧∃z w',(Builtin.unsafeString_ #[pt,it] ty #[a.eval x,a.eval n]).run P w=.ok z w'∧Left E base S f s.h w v s'.h z w':=by
 simp only[runOp] at hrun;split at hrun
 ·rename_i b k ex en;split at hrun
  ·rename_i cs rw' t m hb htag;have hq:=aN hrun;clear hrun;obtain⟨hcd,hq⟩:=hq;simp only[j7,sI,pI] at hq;obtain⟨l,hl,rfl,rfl⟩:=hq;rw[i9,i9] at hcd;obtain⟨⟨c1,c2⟩,c3⟩:=hcd;have c1:=ij c1;subst c1;have c2:=is c2;have c3:=is c3;have rx:=aA ht hx ex;have rn:=aA ht hn en;simp only[Rel] at rx rn;obtain⟨B,O,R,hf,e1⟩:=rx;obtain⟨rfl,hsh,_⟩:=fS r htag hf;obtain⟨B0,O0,R0,hf0,hB,hsz,hr⟩:=r.blk b _ hb;rw[hf] at hf0;simp only[sI,pI] at hf0;obtain⟨rfl,rfl,rfl⟩:=hf0;simp only[BlkR] at hr;obtain⟨h1,h2,h3,_⟩:=hr
   let ys:List Value:=(List.range (k+1)).map fun i=>(w.cell? ⟨B,0+i,none⟩).getD undef
   have hys:RelL S f (cs.take (k+1)) ys:=by
    refine RelL.of_get (by simp[ys];omega) fun i c hi=>?_
    rw[Bg] at hi;split at hi
    ·rename_i hlt;obtain⟨y,hy,_,hrel⟩:=h2 i c hi;exact⟨y,by simp only[ys,Ag,List.getElem?_range hlt,jo,hy,jr],hrel⟩
    ·cases hi
   have hns:=er hl hys;have hlen:l.length=k+1:=by
    have h0:=congrArg List.length hns;simp[ys] at h0;omega
   have hcell:∀(j:Nat) (x:UInt8),l[j]? =some x→w.cell? ((⟨B,0,none⟩:Addr).add j)=some (.int .u8 x.toNat):=by
    intro j x hj;have hjl:=(A3.1 hj).1;have h0:ys[j]? =some (.int .u8 x.toNat):=by rw[hns,Ag,hj];rfl
    simp only[ys,Ag,List.getElem?_range (show j<k+1 by omega),jo,sI] at h0
    obtain⟨u,hu⟩:=Af.1 (h3 j om);rw[hu,jr] at h0;subst h0;rw[add_zero,←hu]
   have hrun:=Lib.run_unsafeString_row (P:=P) w pt it ty _ hp hc B R hsh l (by intro h0;rw[h0] at hlen;simp at hlen) om om hcell
   rw[hlen] at hrun;refine⟨rfl,rfl,_,_,?_,S,f,r.freezeW hb hf hsh (n:=k+1),by simp only[Rel];exact⟨rfl,rfl⟩⟩
   rw[e1,rn.1];exact hrun
  ·cases hrun
 ·cases hrun
end ops
end Go.AM
namespace Go.AM
open Go.RowKit
variable {G:Nat→Option (List AV)}{base:Nat}{S:Snap}{f:Emb}{h:AH}{w:World}{P:Program}{E:Env}{s:St}{a:Act}{N:Nat}
section ops
variable {call:Cle→List AV→AH→Option (AV×AH)}{o:Oper}{v:AV}{s':St}
theorem eZ(r:WR E.globs base S f s.h w){ts:Array TypeId}{elem bytes:Nat}{ty:TypeId}{x y:AV}{sLen sCap n:Nat}{A:Option Addr}{Y:Value}{cs ds:List AV}(hT:AppT P ts elem 1 bytes)
  (hx:Rel S f x (.slice A sLen sCap)) (hy:Rel S f y Y) (ex:elemsOf s.h 1 x=some (ds,sLen)) (ey:elemsOf s.h 1 y=some (cs,n)) (hk:¬sLen+n≤sCap) (ho:okLen (sLen+n) bytes=true):
  ∃z w' S' f' R,(Builtin.append_ ts ty #[.slice A sLen sCap,Y]).run P w=.ok z w'∧Goes E.globs base S f s.h w S' f' (s.h.alloc (.cells (ds++cs) true)) w'∧Rel S' f' (.own s.h.next 0 (sLen+n) 1 none) z∧
   f' s.h.next=some (w.heap.size,0,R)∧w'.shape? w.heap.size=some (elem,R):=by
 unfold okLen at ho;simp only[i9] at ho;have o1:=is ho.1;have o2:=is ho.2;unfold mostBytes at o1 o2;have a1:=bK (P:=P) r hx ex;have a2:=bK (P:=P) r hy ey;have b1:=bK (P:=P) r.drew hx ex;have b2:=bK (P:=P) r.drew hy ey;obtain⟨arr,c,g1,g2,g3,g4,g5⟩:=kR (ty:=ty) hT a1 a2 b1 b2 hk o1 om;refine⟨_,_,_,_,arr.size,g5,r.goesDrew.trans (r.drew.allocCells elem g1 g2),?_,aR _ _ _,cd w.drew arr elem⟩;simp only[Rel];exact⟨_,_,_,c,aR _ _ _,.inl rfl,g4,by simp,om⟩
theorem Gm{ts:Array TypeId}{elem:Nat}{ty:TypeId}{x y:Operand}{x' y':Opd}(ht:TmR S f s.tm a.tmps N)(r:WR E.globs base S f s.h w)(hT:AppT P ts elem 1 1)
  (hx:cOpd x=some x') (hy:cOpd y=some y') (hrun:runOp E call s (.appT elem x' y')=some (v,s')):
  s'.tm=s.tm∧s'.defers=s.defers∧∃z w',(Builtin.append_ ts ty #[a.eval x,a.eval y]).run P w=.ok z w'∧Left E base S f s.h w v s'.h z w':=by
 simp only[runOp] at hrun;split at hrun
 case h_2=>exact nX (E:=E) (call:=call) ht r hT hx hy (by simpa only[runOp] using hrun)
 rename_i q hq;simp only[sI] at hrun;subst hrun;unfold appTyped at hq;split at hq
 case h_2=>cases hq
 rename_i u u2 ex ey;have rx:=aA ht hx ex;have ry:=aA ht hy ey;generalize a.eval x=X at rx⊢
 generalize a.eval y=Y at ry⊢
 split at hq
 case h_1=>cases hq
 rename_i new n el;have a2:=bK (P:=P) r ry el;split at hq
 ·
  have rx':=rx;simp only[Rel] at rx';obtain⟨rfl,_⟩:=rx';have hq2:=aF hq;clear hq;obtain⟨hcd,hq2⟩:=hq2;simp only[pI] at hq2;obtain⟨rfl,rfl⟩:=hq2;rw[i9] at hcd;have hn:n≠0:=by
   intro e;subst e;simp at hcd
  obtain⟨z,w',S',f',R,g1,g2,g3,g4,g5⟩:=eZ (ty:=ty) r hT rx ry (ds:=[]) (by simp[elemsOf]) el om (by simpa using hcd.2)
  have g6:=g2.wr.tag (b:=s.h.next) (t:=elem) (n:=none) (by rw[AH.get_alloc,if_pos rfl];rfl) g4 g5 (fun k hk=>by cases hk)
  refine⟨rfl,rfl,z,w',g1,S',_,g2.trans g6,?_⟩;have:=g3.le g6.le _ _
  simpa using this
 ·
  rename_i b k;have rx':=rx;simp only[Rel] at rx';obtain⟨B,O,R,c,hf,hX,hle,_,hR⟩:=rx';split at hq
  case h_2=>cases hq
  rename_i cs rw' t m hb htag;have hq2:=aF hq;clear hq;obtain⟨hcd,hq2⟩:=hq2;simp only[pI] at hq2;obtain⟨rfl,rfl⟩:=hq2;simp only[i9] at hcd;obtain⟨⟨⟨⟨c1,c2⟩,c3⟩,c4⟩,c5⟩:=hcd;subst c1;have c2:=ij c2;subst c2;have c3:=ij c3;have hn:n≠0:=by
   intro e;subst e;simp at c5
  obtain⟨rfl,hsh,_⟩:=fS r htag hf;have hcs:cs.length≤R:=by
   obtain⟨B0,O0,R0,hf0,_,_,hr⟩:=r.blk b _ hb;rw[hf] at hf0;simp only[sI,pI] at hf0;obtain⟨rfl,rfl,rfl⟩:=hf0;simp only[BlkR] at hr;exact hr.1
  have helx:elemsOf s.h 1 (.own b 0 k 1 none)=some (cs,k):=by
   have hbl:=Aq (i7 cs.length);simp[elemsOf,hb,c3,hbl]
  have hbn:b≠s.h.next:=fun e=>by have:=r.dom _ _ hf;omega
  have hnl:new.length=n:=by have:=a2.size;omega
  rcases hX with rfl|⟨rfl,rfl,q0,_,rfl⟩
  rotate_left
  ·obtain⟨z,w',S',f',R',g1,g2,g3,g4,g5⟩:=eZ (ty:=ty) r hT rx ry helx el om c4;have g2k:=g2.kill b;have gc:Goes E.globs base S f s.h w S' f' ((s.h.put b none).alloc (.cells (cs++new) true)) w':=by
    refine g2k.congr rfl fun j=>?_
    simp only[AH.get_alloc,AH.get_put,AH.next_put]
    by_cases e1:j=b
    ·subst e1;simp[hbn]
    ·simp[e1]
   have g6:=gc.wr.tag (b:=s.h.next) (t:=t) (n:=none) (by rw[AH.get_alloc,if_pos (by simp)];rfl) g4 g5 (fun k hk=>by cases hk)
   refine⟨rfl,rfl,z,w',g1,S',_,gc.trans g6,?_⟩;exact g3.le g6.le _ _
  by_cases hfit:k+n≤c
  ·obtain⟨arr,q1,q2,q3,q4⟩:=cX (ty:=ty) (A:=some ⟨B,0+0,none⟩) (sLen:=k) (sCap:=c) hT a2 hfit;have hsz:=q1.length;simp only[B4] at hsz;have hst:=r.run_store (P:=P) (off:=0+k*1) hb hf q2 (by simp[q3];omega)
   rw[←jn] at hst;have g:=r.setCells (cs':=cs++new) (off:=0+k*1) hb hf arr.toList (by simp[q3];omega) (by simp;omega)
    (fun i c0 hc0 hi=>by
     rw[List.getElem?_append] at hc0;split at hc0
     ·exact hc0
     ·have:=(A3.1 hc0).1;simp at hi;omega)
    (fun i c0 hc0 hi=>by
     rw[Bp om,show 0+k*1+i-cs.length=i by omega] at hc0
     obtain⟨y0,hy0,hrel⟩:=q1.get hc0;exact⟨y0,hy0,iy.1 q2 y0 (Bq hy0),hrel⟩)
   have g':=g.wr.rebase (b:=b) (cs:=cs++new) (off:=0) (by rw[AH.get_put,if_pos rfl]) hf (by simp)
   have gg:=g.trans g';have gc:Goes E.globs base S f s.h w S (upd f s.h.next (B,0,R)) ((s.h.put b none).alloc (.cells (cs++new) true)) (w.setCells B (0+0+k*1) arr.toList):=by
    rw[←jn] at gg;refine gg.congr rfl fun j=>?_
    simp only[AH.get_alloc,AH.get_put,AH.next_put,jj]
    by_cases e1:j=s.h.next
    ·simp[e1]
    ·by_cases e2:j=b
     ·simp[e2]
     ·simp[e1,e2]
   have g6:=gc.wr.tag (b:=s.h.next) (t:=t) (n:=none) (by rw[AH.get_alloc,if_pos (by simp)];rfl) (aR _ _ _) (by rw[b7];exact hsh) (fun k hk=>by cases hk)
   refine⟨rfl,rfl,_,_,q4 _ (by simp only[add_zero];exact hst),S,_,gc.trans g6,?_⟩
   simp only[Rel];exact⟨B,0,R,c,g6.le.f _ _ (aR _ _ _),.inl (by simp),hfit,by simp,om⟩
  ·obtain⟨z,w',S',f',R',g1,g2,g3,g4,g5⟩:=eZ (ty:=ty) r hT rx ry helx el hfit c4;have g2k:=g2.kill b;have gc:Goes E.globs base S f s.h w S' f' ((s.h.put b none).alloc (.cells (cs++new) true)) w':=by
    refine g2k.congr rfl fun j=>?_
    simp only[AH.get_alloc,AH.get_put,AH.next_put]
    by_cases e1:j=b
    ·subst e1;simp[hbn]
    ·simp[e1]
   have g6:=gc.wr.tag (b:=s.h.next) (t:=t) (n:=none) (by rw[AH.get_alloc,if_pos (by simp)];rfl) g4 g5 (fun k hk=>by cases hk)
   refine⟨rfl,rfl,z,w',g1,S',_,gc.trans g6,?_⟩;exact g3.le g6.le _ _
 ·cases hq
theorem m5{src dst e:TypeId}{x:Operand}{y:Opd}(ht:TmR S f s.tm a.tmps N)(r:WR E.globs base S f s.h w)(hc:cOpd x=some y)(h1:P.underlying src=some .string)(h2:P.underlying dst=some (.slice e))(he:P.underlying e=some (.int .u8))
  (hrun:runOp E call s (.bytesOfStr y)=some (v,s')):s'.tm=s.tm∧s'.defers=s.defers∧∃z w',(convert src dst (a.eval x)).run P w=.ok z w'∧Left E base S f s.h w v s'.h z w':=by
 simp only[runOp] at hrun;split at hrun
 ·rename_i b ex;simp only[sI,pI] at hrun;obtain⟨rfl,rfl⟩:=hrun;have rx:=aA ht hc ex;simp only[Rel] at rx;have hrun:=run_bytes_of_string (P:=P) w src dst e b h1 h2 he;have hcap:b.size≤grownCap w b.size 0 e:=by simp only[grownCap,Question.cut];omega
  generalize grownCap w b.size 0 e=c at hrun hcap;have hsz:(bytesRow b c).size=c:=by
   simp only[bytesRow,Array.size_append,Array.size_map,Array.size_replicate];have:b.data.size=b.size:=rfl;omega
  have ga:=r.goesDrew;have gb:=ga.wr.alloc (o:=.cells (bytesRow b c) e ((bytesRow b c).size,(bytesRow b c).size+1)) (k:=.cells (b.data.toList.map fun b=>.val (.int .u8 b.toNat)) true) (R:=c) (fun f' hle'=>by
   have hnew:(w.drew.alloc (.cells (bytesRow b c) e ((bytesRow b c).size,(bytesRow b c).size+1))).heap[w.drew.heap.size]? =some (.cells (bytesRow b c) e ((bytesRow b c).size,(bytesRow b c).size+1)):=by
    show(w.heap.push _)[w.heap.size]? =_;simp
   simp only[BlkR];refine⟨by simp;exact hcap,fun i q hq=>?_,fun i hi=>?_,fun _ i hi=>⟨?_,ga.wr.snap_none _ (i7 _)⟩,fun _ _ arr t lo hi hj=>?_⟩
   ·rw[Ag,iw] at hq;obtain⟨u,hu,rfl⟩:=hq;refine⟨.int .u8 u.toNat,?_,rfl,by simp[Rel,Value.oneCell']⟩
    simp only[World.cell?,hnew,jp];have hu':b.data[i]? =some u:=by simpa using hu
    have hi:=(Bf.1 hu').1;simp only[bytesRow];rw[Cl (by simpa using hi)]
    simp[hu']
   ·simp only[World.cell?,hnew,jp];simp[hsz,hi]
   ·simp only[World.frozen?,hnew,jp];rw[hsz];simp;omega
   ·rw[hnew] at hj;cases hj;exact .inr (i7 _))
  refine⟨rfl,rfl,_,_,by rw[rx.1];exact hrun,S,_,ga.trans gb,?_⟩
  simp only[Rel];exact⟨w.heap.size,0,c,c,aR _ _ _,.inl rfl,hcap,by simp,om⟩
 ·cases hrun
theorem WR.markW(r:WR G base S f h w){b B O R:Nat}{q:AV}{cs:List AV}(hb:h.get b=some (.cells (q::cs) true))(hf:f b=some (B,O,R)):
  ∃t n,w.shape? B=some (t,n)∧Goes G base S f h w S f h (w.freeze ⟨B,n,none⟩ 1):=by
 obtain⟨B0,O0,R0,hf0,hB,hsz,hr⟩:=r.blk b _ hb;rw[hf] at hf0;simp only[sI,pI] at hf0;obtain⟨rfl,rfl,rfl⟩:=hf0;simp only[BlkR] at hr;obtain⟨h1,h2,h3,h4,h5⟩:=hr;have hR:0<R:=by rw[im] at h1;omega
 have hcl:=h5 trivial hR;obtain⟨arr,t,lo,hi,hbk⟩:∃arr t lo hi,w.heap[B]? =some (.cells arr t (lo,hi)):=by
  obtain⟨u,hu⟩:=Af.1 (h3 0 hR);cases hq:w.heap[B]? with
  |none=>simp[World.cell?,hq] at hu
  |some o=>
   cases o with
   |cells arr t fz=>exact⟨arr,t,fz.1,fz.2,rfl⟩
   |_=>simp[World.cell?,hq] at hu
 have hc:=hcl arr t lo hi hbk;refine⟨t,arr.size,by simp only[World.shape?,hbk],?_⟩
 have hheap:∀j,j≠B→(w.freeze ⟨B,arr.size,none⟩ 1).heap[j]? =w.heap[j]? :=fun j hj=>by
  unfold World.freeze;rw[if_neg de];simp only[Bn];rw[if_neg om]
 obtain⟨lo',hi',hself,hlo'⟩:∃lo' hi',(w.freeze ⟨B,arr.size,none⟩ 1).heap[B]? =some (.cells arr t (lo',hi'))∧arr.size≤lo':=by
  unfold World.freeze;rw[if_neg de];simp only[Bn,hbk,if_true,jo]
  by_cases e:lo=hi
  ·refine⟨arr.size,arr.size+1,?_,i7 _⟩;simp[e]
  ·refine⟨min lo arr.size,max hi (arr.size+1),?_,om⟩;simp[e]
 have hcell':∀B' off,(w.freeze ⟨B,arr.size,none⟩ 1).cell? ⟨B',off,none⟩=w.cell? ⟨B',off,none⟩:=fun B' off=>by
  by_cases e:B'=B
  ·subst e;simp only[World.cell?,hself,hbk]
  ·simp only[World.cell?,hheap B' e]
 have hsize:w.heap.size≤(w.freeze ⟨B,arr.size,none⟩ 1).heap.size:=by
  unfold World.freeze;rw[if_neg de];simp
 have hfr:∀j,j<arr.size→(w.freeze ⟨B,arr.size,none⟩ 1).frozen? ⟨B,j,none⟩=w.frozen? ⟨B,j,none⟩:=fun j hj=>by
  have a1:(w.freeze ⟨B,arr.size,none⟩ 1).frozen? ⟨B,j,none⟩=false:=by
   simp only[World.frozen?,hself];simp;omega
  have a2:w.frozen? ⟨B,j,none⟩=false:=by
   simp only[World.frozen?,hbk];simp;omega
  rw[a1,a2]
 have same:∀B' O' R',SameReg w (w.freeze ⟨B,arr.size,none⟩ 1) B' O' R':=fun B' O' R'=>by
  by_cases e:B'=B
  ·subst e;refine⟨fun i _=>hcell' _ _,fun i hi hsome=>hfr _ ?_,fun _ _ arr' t' lo1 hi1 hh=>?_,fun h0 hR o ho hc=>?_,fun sh hsh=>?_⟩
   ·obtain⟨u,hu⟩:=Af.1 hsome;simp only[World.cell?,hbk] at hu;exact(Bf.1 (show arr[O'+i]? =some u by simpa using hu)).1
   ·rw[hself] at hh;cases hh;exact .inr hlo'
   ·rw[hbk] at ho;simp only[sI] at ho;subst ho;simp[isCells] at hc
   ·simp only[World.shape?,hself];simp only[World.shape?,hbk] at hsh;exact hsh
  ·exact aQ (hheap B' e)
 have hbl:Below base w (w.freeze ⟨B,arr.size,none⟩ 1):=by
  refine⟨?_,?_,?_,hsize,fun k hk=>hheap k om⟩<;>(unfold World.freeze;split<;>rfl)
 refine⟨.refl _ _,⟨fun b' off v hs'=>by rw[hcell'];exact r.snap _ _ _ hs',r.glob,fun b' k hk=>?_,r.apart,r.dom,Nat.le_trans r.le hsize⟩,hbl,fun B' O' R' _ _=>⟨same B' O' R',fun _ _=>rfl⟩,bB,fun _ _ h _=>h,i7 _⟩
 obtain⟨B',O',R',hf',hB',hs',hr'⟩:=r.blk b' k hk;exact⟨B',O',R',hf',hB',A9 hs' hsize,hr'.same (same B' O' R')⟩
theorem xB{src dst e:TypeId}{x:Operand}{y:Opd}(ht:TmR S f s.tm a.tmps N)(r:WR E.globs base S f s.h w)(hc:cOpd x=some y)(h0:src=dst)(h1:P.underlying src=some (.slice e))(h3:P.underlying e=some (.int .u8))
  (hrun:runOp E call s (.convId y)=some (v,s')):s'.tm=s.tm∧s'.defers=s.defers∧∃z w',(convert src dst (a.eval x)).run P w=.ok z w'∧Left E base S f s.h w v s'.h z w':=by
 subst h0;simp only[runOp] at hrun;split at hrun
 ·rename_i b off n es cap ex;split at hrun
  ·rename_i q cs hb;simp only[sI,pI] at hrun;obtain⟨rfl,rfl⟩:=hrun;have rx:=aA ht hc ex;have rx0:=rx;simp only[Rel] at rx;obtain⟨B,O,R,c,hf,e1,_⟩:=rx;obtain⟨t,m,hsh,g⟩:=r.markW hb hf;refine⟨rfl,rfl,a.eval x,w.freeze ⟨B,m,none⟩ 1,?_,S,f,g,rx0⟩;rcases e1 with e1|⟨rfl,rfl,q0,_,e1⟩
   ·rw[e1];simp[convert,run_underlying h1,run_underlying h3,markStringish,hsh]
   ·rw[e1];simp[convert,run_underlying h1,run_underlying h3,markStringish,hsh]
  ·cases hrun
 ·cases hrun
end ops
end Go.AM
namespace Go.AM
open Go.RowKit
variable {G:Nat→Option (List AV)}{base:Nat}{S:Snap}{f:Emb}{h:AH}{w:World}{P:Program}{E:Env}{s:St}{a:Act}{N:Nat}
section ops
variable {call:Cle→List AV→AH→Option (AV×AH)}{o:Oper}{v:AV}{s':St}
theorem nD{c:Call}{b:Builtin}{ao:AOp}{ty:TypeId}(ht:TmR S f s.tm a.tmps N)(r:WR E.globs base S f s.h w)(hb:c.callee=.builtin b)
  (hc:cOp P (.call c)=some ao) (hs:shown ao=true) (hrun:runOp E call s ao=some (v,s')):
  s'.tm=s.tm∧s'.defers=s.defers∧OpOut P (do let d←resolve a.eval c ty;invoke d.target d.args) w (Left E base S f s.h w v s'.h):=by
 obtain⟨callee,args,argTypes⟩:=c;simp only at hb;subst hb;have same:∀{sem:Sem Value},(s'=s∧∃z,sem.run P w=.ok z w∧Rel S f v z)→
   s'.tm=s.tm∧s'.defers=s.defers∧OpOut P (do pure (Next.value (←sem))) w (Left E base S f s.h w v s'.h):=by
  rintro sem ⟨rfl,z,e,hr⟩;exact⟨rfl,rfl,nU e (ai r hr)⟩
 have vals:∀{sem:Sem Value},(s'.tm=s.tm∧s'.defers=s.defers∧∃z w',sem.run P w=.ok z w'∧Left E base S f s.h w v s'.h z w')→
   s'.tm=s.tm∧s'.defers=s.defers∧OpOut P (do pure (Next.value (←sem))) w (Left E base S f s.h w v s'.h):=by
  rintro sem ⟨h1,h2,z,w',e,hr⟩;exact⟨h1,h2,nU e hr⟩
 simp only[cOp] at hc;cases hl:cOpds args.toList with
 |none=>simp[hl] at hc
 |some l=>
  simp only[hl] at hc;obtain⟨cs,hr0⟩:∃cs,(do let d←resolve a.eval {callee:=.builtin b,args,argTypes} ty;invoke d.target d.args:Sem Next)=builtin b argTypes ty cs (args.map a.eval):=⟨_,rfl⟩
  rw[hr0];split at hc
  ·
   rename_i sl x;obtain⟨x1,x2,rfl,hx1,hx2⟩:=jL hl;split at hc
   ·rename_i e hty;obtain⟨t,ht0,hu⟩:=j7.1 hty;split at hc
    ·rename_i n by' z hn hby hz
     cases hk:(i5 z.length n&&secondOk P argTypes[1]?) with
     |false=>simp[hk] at hc
     |true=>
      simp only[hk,cond_true,sI] at hc;rw[i9] at hk;rw[show #[x1,x2].map a.eval= #[a.eval x1,a.eval x2] by simp]
      have hT:AppT P argTypes e n by':=⟨⟨t,ht0,hu⟩,my hk.2,hn,hby,z,hz,ij hk.1⟩
      cases hbt:(i5 n 1&&i5 by' 1&&i5 (P.cellsOf e) 1) with
      |true=>
       simp only[hbt,cond_true] at hc;subst hc;simp only[i9] at hbt;have hn1:=ij hbt.1.1;have hn2:=ij hbt.1.2;subst hn1;subst hn2;exact vals (sem:=Builtin.append_ argTypes ty #[a.eval x1,a.eval x2]) (Gm ht r hT hx1 hx2 hrun)
      |false=>
       simp only[hbt,cond_false] at hc;subst hc;exact vals (sem:=Builtin.append_ argTypes ty #[a.eval x1,a.eval x2]) (nX ht r hT hx1 hx2 hrun)
    ·cases hc
   ·cases hc
  ·rename_i d sl;obtain⟨x1,x2,rfl,hx1,hx2⟩:=jL hl;split at hc
   ·rename_i e hty;obtain⟨t,ht0,hu⟩:=j7.1 hty;obtain⟨n,hn,rfl⟩:=iw.1 hc;rw[show #[x1,x2].map a.eval= #[a.eval x1,a.eval x2] by simp]
    exact vals (sem:=Builtin.copy_ argTypes ty #[a.eval x1,a.eval x2]) (Gi ht r ht0 hu hn hx1 hx2 hrun)
   ·cases hc
  ·rename_i x;obtain⟨x1,rfl,hx1⟩:=dF hl;have hts:∀t,argTypes[0]? =some t→Builtin.len_ argTypes ty (#[x1].map a.eval)=Builtin.len_ #[t] ty #[a.eval x1]:=by
    intro t ht0;unfold Builtin.len_;simp[ht0]
   split at hc
   all_goals first|cases hc;done|rename_i hty;obtain⟨t,ht0,hu⟩:=j7.1 hty
   ·simp only[sI] at hc;subst hc;exact same (by rw[hts t ht0];exact wz ht hx1 hu hrun)
   ·simp only[sI] at hc;subst hc;exact same (by rw[hts t ht0];exact Gg ht hx1 hu hrun)
   ·simp only[sI] at hc;subst hc;exact same (by rw[hts t ht0];exact w7 ht r hx1 hu hrun)
   ·simp only[sI] at hc;subst hc;exact same (by rw[hts t ht0];exact vc (.inl hu) hrun)
   ·split at hc
    ·rename_i n e hq;simp only[sI] at hc;subst hc;exact same (by rw[hts t ht0];exact vc (.inr ⟨_,hu,hq⟩) hrun)
    ·cases hc
  ·rename_i x;obtain⟨x1,rfl,hx1⟩:=dF hl;split at hc
   ·rename_i e hty;obtain⟨t,ht0,hu⟩:=j7.1 hty;have hts:Builtin.cap_ argTypes ty (#[x1].map a.eval)=Builtin.cap_ #[t] ty #[a.eval x1]:=by
     unfold Builtin.cap_;simp[ht0]
    simp only[sI] at hc;subst hc;exact same (by rw[hts];exact Gk ht hx1 hu hrun)
   ·cases hc
  ·simp only[sI] at hc;subst hc;exact same (Ko ht hl hrun)
  ·simp only[sI] at hc;subst hc;exact same (Kp ht hl hrun)
  ·rename_i x;obtain⟨x1,rfl,hx1⟩:=dF hl;split at hc
   ·rename_i e hty;obtain⟨t,ht0,hu⟩:=j7.1 hty;split at hc
    ·rename_i n z hn hz;simp only[sI] at hc;subst hc;rw[show #[x1].map a.eval= #[a.eval x1] by simp]
     exact vals (sem:=Builtin.clear_ argTypes ty #[a.eval x1]) (yd ht r ht0 hu hn hz hx1 hrun)
    ·cases hc
   ·cases hc
  ·simp only[sI] at hc;subst hc;simp[shown] at hs
  ·rename_i p n;obtain⟨x1,x2,rfl,hx1,hx2⟩:=jL hl;split at hc
   ·rename_i e hty;obtain⟨t,ht0,hu⟩:=j7.1 hty;have hq:=aF hc;clear hc;obtain⟨hcd,rfl⟩:=hq;rw[i9] at hcd;have hc1:=ij hcd.1;have hc2:=ij hcd.2;obtain⟨it,hts⟩:∃it,argTypes= #[t,it]:=by
     have h0:0<argTypes.size:=by omega
     have h1:1<argTypes.size:=by omega
     refine⟨argTypes[1],?_⟩;rw[Ab h0] at ht0;simp only[sI] at ht0;apply Array.ext
     ·simpa using hc2
     ·intro i hi1 hi2;have:i=0∨i=1:=by omega
      rcases this with rfl|rfl
      ·simpa using ht0
      ·rfl
    subst hts;rw[show #[x1,x2].map a.eval= #[a.eval x1,a.eval x2] by simp]
    exact vals (sem:=Builtin.unsafeString_ #[t,it] ty #[a.eval x1,a.eval x2]) (pG ht r hx1 hx2 hu hc1 hrun)
   ·cases hc
  ·rename_i x;obtain⟨x1,rfl,hx1⟩:=dF hl;simp only[sI] at hc;subst hc;rw[show #[x1].map a.eval= #[a.eval x1] by simp]
   exact same (sem:=Builtin.unsafeSliceData_ argTypes ty #[a.eval x1]) (pH ht hx1 hrun)
  ·cases hc
end ops
end Go.AM
namespace Go.AM
open Go.RowKit
variable {G:Nat→Option (List AV)}{base:Nat}{S:Snap}{f:Emb}{h:AH}{w:World}{P:Program}{E:Env}{s:St}{a:Act}{N:Nat}
section ops
variable {call:Cle→List AV→AH→Option (AV×AH)}{o:Oper}{v:AV}{s':St}
theorem ft{x:Option Operand}(h:cOptO x=some none):x=none:=by
 cases x with
 |none=>rfl
 |some y=>unfold cOptO at h;cases hy:cOpd y<;>simp[hy] at h
theorem jS{ao:AOp}(hP:E.P=P)(hcall:CallOk P E call)(hm:MethOk P E)(ht:TmR S f s.tm a.tmps N)(r:WR E.globs base S f s.h w)
  (hc:cOp P o.op=some ao) (hs:shown ao=true) (hrun:runOp E call s ao=some (v,s')):Fine E P base S f w a o s v s':=by
 have ho:∀p,o.op=p→execOp a.eval o=execOp a.eval {o with op:=p}:=fun p e=>by subst e;rfl
 generalize hop:o.op=op at hc;have ho:=ho op hop;cases op with
 |move x=>
  simp only[cOp,iw] at hc;obtain⟨y,hy,rfl⟩:=hc;exact oA r ho (Ij ht hy hrun)
 |assign x=>
  simp only[cOp,iw] at hc;obtain⟨y,hy,rfl⟩:=hc;exact oA r ho (Ij ht hy hrun)
 |pick c x y=>
  simp only[cOp] at hc;split at hc
  ·rename_i c' x' y' h1 h2 h3;simp only[sI] at hc;subst hc;obtain⟨rfl,z,e,hr⟩:=Gf (P:=P) (w:=w) ht h1 h2 h3 hrun;refine⟨rfl,rfl,?_⟩;rw[ho];refine kY (x:=z) (w':=w) ?_ (ai r hr);have:execOp a.eval {o with op:=.pick c x y}=(do pure (Next.value (←(asBool (a.eval c)>>=fun b=>pure (if b then a.eval x else a.eval y))))):=by simp[execOp]
   rw[this];simp only[Sem.run_bind,e,Result.andThen_ok];rfl
  ·cases hc
 |alloc t=>
  simp only[cOp,iw] at hc;obtain⟨z,hz,hc⟩:=hc;cases hb:isBld P t with
  |true=>simp only[hb,cond_true] at hc;subst hc;exact bn ho (xC r hz hrun)
  |false=>simp only[hb,cond_false] at hc;subst hc;exact bn ho (yh r hz hrun)
 |box t x=>
  simp only[cOp,iw] at hc;obtain⟨y,hy,rfl⟩:=hc;exact bn ho (Kq ht r hy hrun)
 |build t parts=>exact aT r ho (yg ht hc hrun)
 |buildSlice t n parts=>exact bn ho (m7 ht r hc hrun)
 |load t x=>
  simp only[cOp] at hc;split at hc
  ·rename_i n y hn hy;simp only[sI] at hc;subst hc;exact aT r ho (va ht r hn hy hrun)
  ·cases hc
 |store t p x=>
  simp only[cOp] at hc;split at hc
  ·rename_i n p' x' hn hp hx;simp only[sI] at hc;subst hc;exact n9 ho (yZ ht r hn hp hx hrun)
  ·cases hc
 |nilCheck x=>
  simp only[cOp,iw] at hc;obtain⟨y,hy,rfl⟩:=hc;obtain⟨rfl,e,hr⟩:=ya hm ht r hy hop hrun;exact⟨rfl,rfl,kY e (ai r hr)⟩
 |binOp op t x y t'=>
  simp only[cOp] at hc;split at hc
  ·rename_i x' y' hx hy;simp only[sI] at hc;subst hc;exact aT r (sem:=do eqGuard op t x y (a.eval x) (a.eval y);binOp op t (a.eval x) (a.eval y)) ho (Kr ht hx hy hrun hP)
  ·cases hc
 |unOp op t x=>
  simp only[cOp,iw] at hc;obtain⟨y,hy,rfl⟩:=hc;exact aT r ho (Qm ht hy hP hrun)
 |convert src dst x=>
  simp only[cOp] at hc;split at hc
  ·rename_i k0 k y h1 h2 hy;simp only[sI] at hc;subst hc;exact aT r ho (Gj ht hy h1 h2 hrun)
  ·rename_i y h1 h2 hy;simp only[sI] at hc;subst hc;exact aT r ho (th ht hy h1 h2 hrun)
  ·rename_i e y h1 h2 hy;split at hc
   ·rename_i h3;simp only[sI] at hc;subst hc;exact aT r ho (m4 ht r hy h1 h2 h3 hrun)
   ·cases hc
  ·rename_i e y h1 h2 hy;split at hc
   ·rename_i h3;simp only[sI] at hc;subst hc;exact bn ho (m5 ht r hy h1 h2 h3 hrun)
   ·cases hc
  ·rename_i e e' y h1 h2 hy;split at hc
   ·rename_i h0 h3;simp only[sI] at hc;subst hc;exact bn ho (xB ht r hy (by simpa using h0) h1 h3 hrun)
   ·cases hc
  ·rename_i t y h1 h2 hy;split at hc
   ·rename_i n hn;simp only[sI] at hc;subst hc;exact aT r ho (rG hP ht r hy hn (.inl ⟨h1,h2⟩) hrun)
   ·cases hc
  ·rename_i t y h1 h2 hy;split at hc
   ·rename_i n hn;simp only[sI] at hc;subst hc;exact aT r ho (rG hP ht r hy hn (.inr ⟨h1,h2⟩) hrun)
   ·cases hc
  ·cases hc
 |makeInterface t x=>
  simp only[cOp] at hc;cases hn:notIface P t with
  |false=>simp[hn] at hc
  |true=>
   simp only[hn,cond_true,iw] at hc;obtain⟨y,hy,rfl⟩:=hc;exact aT r ho (te ht hy (fM hn) hrun)
 |makeFunc fn xs ys=>
  simp only[cOp] at hc;split at hc
  ·rename_i l1 l2 h1 h2;simp only[sI] at hc;subst hc;exact aT r ho (ww ht h1 h2 hrun)
  ·cases hc
 |makeMap t res=>
  cases res with
  |some x=>simp[cOp] at hc
  |none=>
   simp only[cOp,sI] at hc;subst hc;exact bn (sem:=Instr.makeMap t none) ho (yb r hrun)
 |makeSlice t l c=>
  simp only[cOp] at hc;split at hc
  ·rename_i e hu;split at hc
   ·rename_i n z b l' c' hn hz hb hl hc';cases hk:i5 z.length n with
    |false=>simp[hk] at hc
    |true=>
     simp only[hk,cond_true,sI] at hc;subst hc;exact bn ho (td ht r hu hn hz (ij hk) hb hl hc' hrun)
   ·cases hc
  ·cases hc
 |slice t x lo hi mx=>
  simp only[cOp] at hc;split at hc
  ·rename_i e x' lo' hi' mx' hu hx h1 h2 h3;simp only[iw] at hc;obtain⟨n,hn,rfl⟩:=hc;exact aT r ho (wv ht r hx hu hn h1 h2 h3 hrun)
  ·rename_i x' lo' hi' hu hx h1 h2 h3;simp only[sI] at hc;subst hc;have hmx:=ft h3;subst hmx;exact aT r ho (qw ht hx hu h1 h2 hrun)
  ·rename_i n e x' lo' hi' hu hx h1 h2 h3;simp only[iw] at hc;obtain⟨m,hn,rfl⟩:=hc;have hmx:=ft h3;subst hmx;exact aT r ho (nW ht hx (.inl hu) hn r h1 h2 hrun)
  ·rename_i q x' lo' hi' hu hx h1 h2 h3;split at hc
   ·rename_i n e hq;simp only[iw] at hc;obtain⟨m,hn,rfl⟩:=hc;have hmx:=ft h3;subst hmx;exact aT r ho (nW ht hx (.inr ⟨_,hu,hq⟩) hn r h1 h2 hrun)
   ·cases hc
  ·cases hc
 |fieldAddr t x i=>
  simp only[cOp] at hc;split at hc
  ·rename_i fs y hu hy;split at hc
   ·rename_i fd hi;split at hc
    ·rename_i n hn;simp only[sI] at hc;subst hc;exact aT r ho (pJ ht hy hu hi hn hrun)
    ·cases hc
   ·cases hc
  ·cases hc
 |field t x i=>
  simp only[cOp] at hc;split at hc
  ·rename_i fs y hu hy;split at hc
   ·rename_i fd hi;simp only[iw] at hc;obtain⟨n,hn,rfl⟩:=hc;exact aT r ho (yc ht hy hu hi hn hrun)
   ·cases hc
  ·cases hc
 |indexAddr t x i=>
  simp only[cOp] at hc;split at hc
  ·rename_i e x' i' hu hx hi;simp only[iw] at hc;obtain⟨n,hn,rfl⟩:=hc;exact aT r ho (qy ht hx hi hu hn hrun)
  ·rename_i len e x' i' hu hx hi;simp only[iw] at hc;obtain⟨n,hn,rfl⟩:=hc;exact aT r ho (qz ht hx hi hu hn hrun)
  ·cases hc
 |index t x i=>
  simp only[cOp] at hc;split at hc
  ·rename_i x' i' hu hx hi;simp only[sI] at hc;subst hc;exact aT r ho (w9 ht hx hi hu hrun)
  ·rename_i len e x' i' hu hx hi;split at hc
   ·rename_i n ln hn hl;simp only[sI] at hc;subst hc;exact aT r ho (Gh ht hx hi hu hn hl hrun)
   ·cases hc
  ·cases hc
 |lookup t x k ok=>
  simp only[cOp] at hc;split at hc
  ·rename_i kt e x' k' hu hx hk;split at hc
   ·rename_i d z hd hz;cases hp:plainKey d with
    |false=>simp[hp] at hc
    |true=>
     simp only[hp,cond_true,sI] at hc;subst hc;exact aT r ho (wy ht r hu hd hp hz hx hk hrun)
   ·cases hc
  ·cases hc
 |mapUpdate t m k x=>
  simp only[cOp] at hc;split at hc
  ·exact U16
  ·cases hc
 |insert t m k x=>
  simp only[cOp] at hc;split at hc
  ·exact U16
  ·cases hc
 |range t x=>
  simp only[cOp] at hc;split at hc
  ·rename_i kt e x' hu hx;simp only[sI] at hc;subst hc;exact bn ho (qx ht r hu hx hrun)
  ·cases hc
 |next x b=>
  cases b with
  |true=>simp[cOp] at hc
  |false=>
   simp only[cOp,iw] at hc;obtain⟨y,hy,rfl⟩:=hc;exact bn ho (tc ht r hy hrun)
 |entry x=>
  simp only[cOp,iw] at hc;obtain⟨y,hy,rfl⟩:=hc;exact aT r (sem:=Instr.entry (a.eval x)) ho (xA ht r hy hrun)
 |typeAssert x xt t ok=>
  simp only[cOp] at hc;cases hn:notIface P t with
  |false=>simp[hn] at hc
  |true=>
   simp only[hn,cond_true] at hc;split at hc
   ·rename_i x' z hx hz;simp only[sI] at hc;subst hc;exact aT r ho (tZ ht (fM hn) hz hx hrun)
   ·cases hc
 |extract x i=>
  simp only[cOp,iw] at hc;obtain⟨y,hy,rfl⟩:=hc;exact aT r ho (tf ht hy hrun)
 |call c=>
  have ho':execOp a.eval o=(do let d←resolve a.eval c o.type;invoke d.target d.args):=ho
  unfold Fine;rw[ho'];obtain⟨callee,args,argTypes⟩:=c;cases callee with
  |builtin b=>exact nD ht r rfl hc hs hrun
  |invoke x name=>
   simp only[cOp] at hc;cases hl:cOpds args.toList with
   |none=>simp[hl] at hc
   |some l=>
    simp only[hl,iw] at hc;obtain⟨y,hy,rfl⟩:=hc;exact w8 hcall hm ht r hy hl hrun
  |value x=>
   simp only[cOp] at hc;cases hl:cOpds args.toList with
   |none=>simp[hl] at hc
   |some l=>
    simp only[hl] at hc;cases x with
    |func g=>
     simp only at hc;cases hb:noBody P g with
     |true=>
      simp only[hb,cond_true] at hc;split at hc
      ·rename_i x;simp only[sI] at hc;subst hc;exact ye hm ht r hl hrun
      ·cases hc
     |false=>
      simp only[hb,cond_false,sI] at hc;subst hc;exact Gl hcall ht r hl hrun
    |_=>
     simp only[iw] at hc;obtain⟨y,hy,rfl⟩:=hc;exact yf hcall hm ht r hy hl hrun
 |defer c=>
  simp only[cOp] at hc;split at hc
  ·simp only[iw] at hc;obtain⟨y,hy,rfl⟩:=hc;simp[shown] at hs
  ·cases hc
 |_=>simp[cOp] at hc
end ops
end Go.AM
