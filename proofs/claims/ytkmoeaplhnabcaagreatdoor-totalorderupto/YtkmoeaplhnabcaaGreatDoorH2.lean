/- TDocA TDocB TDocR -/
import Derived.Test.YtkmoeaplhnabcaaGreatDoorU0
import Derived.Test.YtkmoeaplhnabcaaGreatDoorN4
import Derived.Test.YtkmoeaplhnabcaaGreatDoorH1

set_option linter.all false
open Nat renaming reduceEqDiff → rA, reduceAdd → rB, reduceMul → rC
open Int renaming reduceEq → rD, reduceLT → rE, reduceLE → rF
open List renaming length_nil → jf, mem_filter → jy
namespace Go.Proofs.YtkmoeaplhnabcaaGreatDoor
open Go Go.AM
set_option maxHeartbeats 4000000
variable [KR]
theorem re(e:Ex)(hz:e.sz<2^22)(h:AH):RunCall E1 (.f 32) [.agg e.cells] h (nmV (freeS e)) h:=by
 have hc:=pT e false ⟨[],nilK,none⟩ (by simp only[jf];omega)
 rw[tT] at hc;have hol:=bo e [];have hu:∀h,RunCall E1 (.f 52) [nmV (nmE (occ e [])),.val (.slice none 0 0)] h (nmV (freeS e)) h:=fun h=>oW (nmE (occ e [])) [] (by rw[nmE,List.length_map];omega) de h
 refine yQ kr Mt (iM (Tree.ex e)) (fun s hs hh hd hr=>?_) h;have h0:=hs 0 _ rfl;have hc:∀h,RunCall E1 (.f 53) [.agg e.cells,.val (.slice none 0 0),vB false] h (nmV (nmE (occ e []))) h:=hc;simp-implicitDefEqProofs only[Cz,f32,V,↓reduceIte,rA,reduceCtorEq,h0,hh,hd,aG hc,aG hu];exact⟨_,rfl,1,de,Rep.leaf Vl.leaf⟩
theorem dH{s:St}{i:Nat}{b c:Bool}(h:s.eval (.t i)=some (vB b)):wantedA s (some (i,c))=some (b==c):=by
 have h:s.tm.get i=some (vB b):=h;show(match s.tm.get i with|some (.val (.bool d))=>some (d==c)|some (.tup [])=>some false|_=>none)=_;rw[h]
theorem xf{acc r:List ByteArray}{x:ByteArray}{b:Bool}(h:memS x acc=b):addAll acc (x::r)=addAll (bif b then acc else acc++[x]) r:=by
 show addAll (addS x acc) r=_;rw[addS,h]
def calB(m:Md)(x:ByteArray):List ByteArray:=match fndD x m.ds.l with
 |some d=>addAll [] ((nmC (occ d.b [])).filter fun x=>kn m x&& !memS x d.ps.l)
 |none=>[]
theorem eV{m:Md}{x z:ByteArray}:z∈calB m x↔z∈sucC m x:=by
 cases q:fndD x m.ds.l with
 |none=>simp only[calB,sucC,q]
 |some d=>
  simp only[calB,sucC,q];rw[bM];constructor
  ·rintro(h|h)
   ·cases h
   ·obtain⟨h1,h2⟩:=jy.1 h;obtain⟨h2,h3⟩:=Bool.and_eq_true_iff.1 h2;exact jy.2 ⟨jy.2 ⟨h1,h3⟩,h2⟩
  ·intro h;obtain⟨h1,h2⟩:=jy.1 h;obtain⟨h1,h3⟩:=jy.1 h1;exact .inr (jy.2 ⟨h1,Bool.and_eq_true_iff.2 ⟨h2,h3⟩⟩)
theorem wd{l r:List ByteArray}{x:ByteArray}{i:Nat}(h:l.drop i=x::r):(l.flatMap strA).drop i=vS x::r.flatMap strA:=by
 have:=cI (f:=strA) (es:=1) aI l i;rw[Nat.mul_one] at this;rw[this,h];rfl
theorem fD(l:List ByteArray):(l.flatMap strA).length=l.length:=by
 have:=bG (f:=strA) (es:=1) aI l;rw[this,Nat.mul_one]
theorem wQ{m:Md}{x y:ByteArray}(h:y∈calB m x):kn m y=true:=by
 have h:=eV.1 h;rw[sucC] at h;split at h
 ·exact(jy.1 h).2
 ·cases h
structure WL (suc:ByteArray→List ByteArray) (k:ByteArray→Bool) (x:ByteArray) (out:List ByteArray) (i:Nat):Prop where
 nd:out.Nodup
 ok:∀z∈out,k z=true
 here:∀y∈suc x,y∈out
 done:∀z∈out.take i,∀y∈suc z,y∈out
 fr:∀z∈out,Rch suc x z
theorem eM:∀(l F:List ByteArray),∃D,addAll F l=F++D
 | [],F=>⟨[],(List.append_nil F).symm⟩
 |x::l,F=>by
  obtain⟨D,h⟩:=eM l (addS x F);have:addAll F (x::l)=addAll (addS x F) l:=rfl;rw[this,h,addS];cases memS x F with
  |true=>exact⟨D,rfl⟩
  |false=>exact⟨x::D,by rw[cond_false,List.append_assoc];rfl⟩
theorem WL.next{suc:ByteArray→List ByteArray}{k:ByteArray→Bool}{x z:ByteArray}{out r:List ByteArray}{i:Nat}(w:WL suc k x out i)(hd:out.drop i=z::r)(hk:∀y∈suc z,k y=true):WL suc k x (addAll out (suc z)) (i+1):=by
 have hl:=aL hd;have hz:z∈out:=List.mem_of_mem_drop (by rw[hd];exact List.mem_cons_self)
 obtain⟨D,hD⟩:=eM (suc z) out;have ht:(addAll out (suc z)).take (i+1)=out.take i++[z]:=by
  rw[hD,List.take_append_of_le_length om,List.take_add,hd];rfl
 refine⟨cj w.nd,fun y hy=>?_,fun y hy=>bM.2 (.inl (w.here y hy)),fun a ha y hy=>?_,fun y hy=>?_⟩
 ·rcases bM.1 hy with h|h
  ·exact w.ok y h
  ·exact hk y h
 ·exact U79
 ·rcases bM.1 hy with h|h
  ·exact w.fr y h
  ·exact .step (w.fr z hz) h
theorem WL.end{suc:ByteArray→List ByteArray}{k:ByteArray→Bool}{x:ByteArray}{out:List ByteArray}{i:Nat}(w:WL suc k x out i)(hi:out.length≤i)(z:ByteArray):z∈out↔Rch suc x z:=by
 have ht:out.take i=out:=List.take_of_length_le hi;refine⟨w.fr z,fun h=>?_⟩
 induction h with
 |one h=>exact w.here _ h
 |step _ h ih=>exact w.done _ (by rw[ht];exact ih) _ h
theorem WL.len{suc:ByteArray→List ByteArray}{m:Md}{x:ByteArray}{out:List ByteArray}{i:Nat}(w:WL suc (kn m) x out i):out.length≤m.ds.l.length:=U11
theorem Ed{m:Md}{x z:ByteArray}:Rch (calB m) x z↔Rch (sucC m) x z:=by
 constructor
 ·intro h
  induction h with
  |one h=>exact .one (eV.1 h)
  |step _ h ih=>exact .step ih (eV.1 h)
 ·intro h
  induction h with
  |one h=>exact .one (eV.2 h)
  |step _ h ih=>exact .step ih (eV.2 h)
theorem Kd{h:AH}{lo:Nat}{v:AV}{l:List ByteArray}(r:RowC h lo l.length 1 v (l.flatMap strA)):rowX v l.length (l.flatMap strA)=nmV l:=by
 obtain⟨_,_,⟨h1,rfl⟩|⟨b,_,_,_,rfl,_⟩⟩:=r
 ·have:l=[]:=List.eq_nil_of_length_eq_zero h1;subst this;rfl
 ·cases l with
  |nil=>simp only[jf] at*;omega
  |cons x r=>rfl
end Go.Proofs.YtkmoeaplhnabcaaGreatDoor
