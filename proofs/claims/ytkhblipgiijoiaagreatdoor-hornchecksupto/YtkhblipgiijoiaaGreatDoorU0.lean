/- Proofs that come again and again, each as the default argument of one theorem. -/
import Derived.KernelRfl

set_option linter.all false
namespace Go
theorem U0{P:Prop}(t:P:=by
 cases op<;>first|rfl|(simp only[calmOp,Bool.false_eq_true] at h)):P:=t
theorem U1{P:Prop}(t:P:=by
 have h1:Nat.ble b.size b.size=true:=Nat.ble_eq.mpr (Nat.le_refl _)
 have h2:Nat.ble i b.size=true:=Nat.ble_eq.mpr h
 simp only[sliceStrV,sliceB,Option.getD_none,Option.getD_some,h1,h2,Option.isNone_none,Bool.true_or,Bool.and_self,cond_true,Option.map_some]):P:=t
theorem U2{P:Prop}(t:P:=by
 simp only[wpOps,wantedA,aP,true_implies,Bool.true_eq_false,false_implies,and_true,wpOp]
 rfl):P:=t
theorem U3{P:Prop}(t:P:=by
 refine aC (by kernel_rfl) (by kernel_rfl) (aN (Tree.pr p)) rfl (Tree.val _) (ah On fun s hs hh hd=>?_) h
 have h0:=hs 0 _ rfl
 simp-implicitDefEqProofs only[zP,f122,V,↓reduceIte,rA,rB,rC,reduceCtorEq,rD,rE,rF,h0,hh,hd,hk]):P:=t
theorem U4{P:Prop}(t:P:=by
 refine aC (by kernel_rfl) (by kernel_rfl) (aN (Tree.val _)) rfl (Tree.val _) (ah aDK fun s hs hh hd=>?_) h
 have h0:=hs 0 _ rfl
 simp-implicitDefEqProofs only[Or,f119,V,↓reduceIte,rA,rB,rC,reduceCtorEq,rD,rE,rF,h0,hh,hd]):P:=t
theorem U5{P:Prop}(t:P:=by
 refine aC (by kernel_rfl) (by kernel_rfl) (aN (Tree.val _)) rfl (Tree.val _) (ah aCQ fun s hs hh hd=>?_) h
 have h0:=hs 0 _ rfl
 simp-implicitDefEqProofs only[Oa,f149,V,↓reduceIte,rA,rB,rC,reduceCtorEq,rD,rE,rF,h0,hh,hd]):P:=t
theorem U6{P:Prop}(t:P:=by
 refine aC (by kernel_rfl) (by kernel_rfl) (bT (Tree.val _) (Tree.val _)) rfl (Tree.val _) (ah aDJ fun s hs hh hd=>?_) h
 have h0:=hs 0 _ rfl
 have h1:=hs 1 _ rfl
 cases a:decide (1≤n)<;>simp-implicitDefEqProofs only[Oq,f120,V,↓reduceIte,rA,rB,rC,reduceCtorEq,rD,rE,rF,h0,h1,hh,hd,a]):P:=t
theorem U7{P:Prop}(t:P:=by
 refine aC (by kernel_rfl) (by kernel_rfl) (aN (Tree.val _)) rfl (Tree.two _ _) (cg (rs:=[.val (.int .i64 2),.val (.int .i64 2)]) pY fun s hs hh hd=>?_) h
 have h0:=hs 0 _ rfl
 simp-implicitDefEqProofs only[ky,f148,V,↓reduceIte,rA,rB,rC,reduceCtorEq,rD,rE,rF,h0,hh,hd]):P:=t
theorem U8{P:Prop}(t:P:=by
 refine aC (by kernel_rfl) (by kernel_rfl) (aN (Tree.val _)) rfl (Tree.two _ _) (cg (rs:=[.val (.int .i64 1),.val (.int .i64 1)]) pY fun s hs hh hd=>?_) h
 have h0:=hs 0 _ rfl
 simp-implicitDefEqProofs only[ky,f148,V,↓reduceIte,rA,rB,rC,reduceCtorEq,rD,rE,rF,h0,hh,hd]):P:=t
theorem U9{P:Prop}(t:P:=by
 refine aC (by kernel_rfl) (by kernel_rfl) (aN (Tree.val _)) rfl (Tree.two _ _) (cg (rs:=[.val (.int .i64 1),.val (.int .i64 24)]) pY fun s hs hh hd=>?_) h
 have h0:=hs 0 _ rfl
 simp-implicitDefEqProofs only[ky,f148,V,↓reduceIte,rA,rB,rC,reduceCtorEq,rD,rE,rF,h0,hh,hd]):P:=t
theorem U10{P:Prop}(t:P:=by
 refine aC (by kernel_rfl) (by kernel_rfl) (aN (Tree.val _)) rfl (Tree.two _ _) (cg (rs:=[.val (.int .i64 0),.val (.int .i64 0)]) pY fun s hs hh hd=>?_) h
 have h0:=hs 0 _ rfl
 simp-implicitDefEqProofs only[ky,f148,V,↓reduceIte,rA,rB,rC,reduceCtorEq,rD,rE,rF,h0,hh,hd]):P:=t
theorem U11{P:Prop}(t:P:=by
 have hA:=bV p.nm
 refine aC (by kernel_rfl) (by kernel_rfl) (aN (Tree.pr p)) rfl (Tree.val _) (ah On fun s hs hh hd=>?_) h
 have h0:=hs 0 _ rfl
 obtain⟨V,hV⟩:∃B,strEq p.nm ⟨#[118]⟩=B:=⟨_,rfl⟩
 obtain⟨T,hT⟩:∃B,strEq p.nm ⟨#[116,97,103]⟩=B:=⟨_,rfl⟩
 obtain⟨U,hU⟩:∃B,strEq p.nm ⟨#[118,97,108]⟩=B:=⟨_,rfl⟩
 cases V<;>cases T<;>cases U<;>simp-implicitDefEqProofs only[zP,f122,V,↓reduceIte,rA,rB,rC,reduceCtorEq,rD,rE,rF,h0,hh,hd,hk,aA hA,hV,hT,hU]):P:=t
theorem U12{P:Prop}(t:P:=by
 refine⟨(h.alloc (.cells [.val .nilFunc,.val (.string ⟨#[]⟩)] true)).put h.next (some (.cells [.fn (.func 155) [] [],.val (.string sBool)] true)),eC fun s h0 hh hd=>?_,by show h.next≤h.next+1;omega,fun x hx=>?_⟩
 ·simp-implicitDefEqProofs only[fJ,f118,V,↓reduceIte,rA,rB,rC,reduceCtorEq,rD,rE,rF,WB,WF,h0,hh,hd,ez,Gr,qE]
  exact⟨_,rfl,rfl,rfl⟩
 ·rw[aS (by omega),aJ hx]):P:=t
theorem U13{P:Prop}(t:P:=by
 refine⟨((h.alloc (.cells [.val .nilFunc,.val (.string ⟨#[]⟩)] true)).alloc (.cells [.val (.string sInt)] true)).put h.next (some (.cells [.fn (.func 179) [] [.ptr (h.next+1) 0],.val (.string sBool)] true)),h.next+1,eC fun s h0 hh hd=>?_,Nat.lt_succ_self _,?_,by show h.next≤h.next+1+1;omega,fun x hx=>?_⟩
 ·simp-implicitDefEqProofs only[fJ,f118,V,↓reduceIte,rA,rB,rC,reduceCtorEq,rD,rE,rF,WB,WF,h0,hh,hd]
  refine aW (gL sInt _) ?_
  simp-implicitDefEqProofs only[V,↓reduceIte,rA,rB,rC,reduceCtorEq,rD,rE,rF,WB,WF,hh,hd,ez,Gr,qE,(eq_false (by omega):(h.next=h.next+1)=False)]
  exact⟨_,rfl,rfl,rfl⟩
 ·rw[aS (by omega)]
  exact ax (h:=h.alloc (.cells [.val .nilFunc,.val (.string ⟨#[]⟩)] true))
 ·rw[aS (by omega),aJ (by show x<h.next+1;omega),aJ hx]):P:=t
theorem U14{P:Prop}(t:P:=by
 refine⟨((h.alloc (.cells [.val .nilFunc,.val (.string ⟨#[]⟩)] true)).alloc (.cells [.val (.string sInt)] true)).put h.next (some (.cells [.fn (.func 179) [] [.ptr (h.next+1) 0],.val (.string sInt)] true)),h.next+1,eC fun s h0 hh hd=>?_,Nat.lt_succ_self _,?_,by show h.next≤h.next+1+1;omega,fun x hx=>?_⟩
 ·simp-implicitDefEqProofs only[fJ,f118,V,↓reduceIte,rA,rB,rC,reduceCtorEq,rD,rE,rF,WB,WF,h0,hh,hd]
  refine aW (gL sInt _) ?_
  simp-implicitDefEqProofs only[V,↓reduceIte,rA,rB,rC,reduceCtorEq,rD,rE,rF,WB,WF,hh,hd,ez,Gr,qE,(eq_false (by omega):(h.next=h.next+1)=False)]
  exact⟨_,rfl,rfl,rfl⟩
 ·rw[aS (by omega)]
  exact ax (h:=h.alloc (.cells [.val .nilFunc,.val (.string ⟨#[]⟩)] true))
 ·rw[aS (by omega),aJ (by show x<h.next+1;omega),aJ hx]):P:=t
theorem U15{P:Prop}(t:P:=by
 rw[hX]
 unfold Builtin.clear_
 simp only[h0,e0,Sem.run_bind,run_underlying hu,Result.andThen_ok]
 rfl):P:=t
theorem U16{P:Prop}(t:P:=by
 rename_i e;subst e;simp[hb]):P:=t
theorem U17{P:Prop}(t:P:=by
 simp only[Rel];exact⟨_,_,_,aT _ _ _,rfl⟩):P:=t
theorem U18{P:Prop}(t:P:=by
 subst e
 exfalso
 obtain⟨u,hu⟩:=Option.isSome_iff_exists.1 hsome
 simp only[World.cell?,hbk] at hu
 have:=(Array.getElem?_eq_some_iff.1 (show arr[O'+i]? =some u by simpa using hu)).1
 omega):P:=t
theorem U19{P:Prop}(t:P:=by
 rename_i kt e m' k' x' hu hm' hk hx
 split at hc
 ·rename_i d hd
  cases hp:plainKey d with
  |false=>simp[hp] at hc
  |true=>
   simp only[hp,cond_true,sI] at hc;subst hc
   exact wB ho (Qr ht r hu hd hp hm' hk hx hrun)
 ·cases hc):P:=t
theorem U20{P:Prop}(t:P:=by
 simp only[Gc,Nat.zero_le,true_and,Nat.zero_add,Nat.sub_zero] at hv
 split at hv
 ·rename_i hlt
  obtain⟨x,hx,hr⟩:=hl.get hv
  refine⟨x,?_,hr⟩
  rw[Array.getElem?_append_left (by simp;omega)]
  simpa using hx
 ·simp[Tr.get] at hv):P:=t
theorem U21{P:Prop}(t:P:=by
 simp only[S3]
 split
 ·rename_i hlt;rw[←hkeep b o hlt];exact hv
 ·exact hg.wr.snap _ _ _ hv):P:=t
theorem U22{P:Prop}(t:P:=by
 obtain⟨B0,O0,R0,hf0,hB,_⟩:=wr1.blk b _ hb
 rw[hf] at hf0;simp only[sI,pI] at hf0
 obtain⟨rfl,rfl,rfl⟩:=hf0
 simp only[S3,if_neg (Nat.not_lt.2 hB)]
 exact hv):P:=t
theorem U23{P:Prop}(t:P:=by
 simp only[S3] at hv
 split at hv
 ·rename_i hlt
  have:=h1 _ _ _ hv
  rw[←this]
  exact hg.below.cell (p:=⟨b,o,none⟩) hlt
 ·exact hv):P:=t
theorem U24{P:Prop}(t:P:=by
 have hq:=aI hrun;obtain⟨_,hq⟩:=hq
 simp only[pI] at hq;obtain⟨_,rfl⟩:=hq;rfl):P:=t
theorem U25{P:Prop}(t:P:=by
 have hq2:=aI hq;obtain⟨_,hq2⟩:=hq2
 simp only[pI] at hq2;obtain⟨_,rfl⟩:=hq2
 rw[ak (by simp;omega),ak hb]):P:=t
theorem U26{P:Prop}(t:P:=by
 simp only[sI,pI] at hrun;obtain⟨_,rfl⟩:=hrun;rfl):P:=t
theorem U27{P:Prop}(t:P:=by
 have hq:=aI hrun;obtain⟨_,hq⟩:=hq
 simp only[pI] at hq;obtain⟨_,rfl⟩:=hq
 simp only[AH.get_put,if_neg hm]):P:=t
theorem U28{P:Prop}(t:P:=by
 simp only[runOp]
 cases s.eval x with
 |none=>rfl
 |some a=>cases a<;>first|rfl|exact d8):P:=t
theorem U29{P:Prop}(t:P:=by
 rw[List.drop_eq_nil_of_le x] at h;cases h):P:=t
theorem U30{P:Prop}(t:P:=by
 have hm2:=qW (m:=j) (h2:=h2) (n:=n) ih ps g hp z
 rw[toTree.eq_def]
 simp only[hm2]
 rfl):P:=t
theorem U31{P:Prop}(t:P:=by
 rename_i f xs
 obtain⟨hp,h1⟩:=h1
 cases he:evalAll s xs with
 |none=>rw[he] at h1;exact h1.elim
 |some l=>
  rw[he] at h1
  obtain⟨v,hr,hk1⟩:=h1
  exact bH (d:=⟨⟨dst,g,.call f xs⟩,rd,fr⟩) (ct hq (fun b hb=>by cases hb) hf) (xD rfl hop hg hw hp he hr) (nx _ _ (md _) hk1)):P:=t
theorem U32{P:Prop}(t:P:=by
 rename_i hne
 have hop':calmOp rd op=true:=by
  split at hop
  ·exact absurd rfl (hne _ _)
  ·exact hop
 have hwo:wpOp E op s=fun K=>withV (runOp E noCall s op) fun(v,s')=>K v s':=by
  funext K
  cases op<;>first|rfl|(simp only[calmOp,Bool.false_eq_true] at hop')
 simp only[wpOps,wantedA,aP,forall_const,hwo] at h1
 have h1:=h1.1
 cases hr:runOp E noCall s op with
 |none=>rw[hr] at h1;exact h1.elim
 |some vs=>
  obtain⟨v,s1⟩:=vs
  rw[hr] at h1
  have hs:=(tu hop' hr).1
  subst hs
  refine bH (d:=⟨⟨dst,g,op⟩,rd,fr⟩) (ct hq (fun b hb=>?_) hf) (iC (d:=⟨⟨dst,g,op⟩,rd,fr⟩) hop' hg hw hnice hr) (nx _ _ (md _) h1)
  unfold theFoot at hb
  cases hft:footed op with
  |false=>
   rw[hft] at hb
   cases hb
  |true=>
   rw[hft] at hb honly
   simp only[Bool.not_true,Bool.false_or] at honly
   obtain⟨j,hj,v,hv,hbv⟩:=d9 (s:=s1) hb
   have:=List.all_eq_true.1 honly j hj
   rw[hv] at this
   exact dM (List.all_eq_true.1 this b hbv)):P:=t
theorem U33{P:Prop}(t:P:=by
 obtain⟨q1,kk,q2,q4⟩:=hx y q
 have q3:Nat.blt y s.h.next=true:=Nat.blt_eq.mpr q1
 simp only[q3,q2,q4,Bool.and_self]):P:=t
theorem U34{P:Prop}(t:P:=by
 rw[if_neg (by omega)]
 by_cases q2:y∈ids v
 ·rw[if_pos q2]
 ·rw[if_neg q2]
  have:=e4 y (by show y<s.h.next;omega) q2
  rw[this]
  by_cases q3:y∈vs
  ·exact(bE q3).symm
  ·exfalso
   rw[this] at y3
   rw[dZ q3] at y3
   cases y3):P:=t
theorem U35{P:Prop}(t:P:=by
 rw[List.drop_eq_nil_of_le x] at hd;cases hd):P:=t
theorem U36{P:Prop}(t:P:=by
 simp-implicitDefEqProofs only[V,↓reduceIte,rA,rB,rC,reduceCtorEq,rD,rE,rF]):P:=t
theorem U37{P:Prop}(t:P:=by
 simp-implicitDefEqProofs only[V,↓reduceIte,rA,rB,rC,reduceCtorEq,rD,rE,rF]<;>rfl):P:=t
theorem U38{P:Prop}(t:P:=by
 rintro e s' ⟨rfl,h3,hf⟩
 have:Nat.beq 0 0=true:=rfl
 simp-implicitDefEqProofs only[V,↓reduceIte,rA,rB,rC,reduceCtorEq,rD,rE,rF,this,h3,hf]<;>rfl):P:=t
theorem U39{P:Prop}(t:P:=by
 rintro e s' ⟨rfl,h3,hf⟩
 have:Nat.beq 0 0=true:=rfl
 simp-implicitDefEqProofs only[V,↓reduceIte,rA,rB,rC,reduceCtorEq,rD,rE,rF,this,h3,hf,w1]<;>rfl):P:=t
theorem U40{P:Prop}(t:P:=by
 simp-implicitDefEqProofs only[V,↓reduceIte,rA,rB,rC,reduceCtorEq,rD,rE,rF,hd]):P:=t
theorem U41{P:Prop}(t:P:=by
 simp-implicitDefEqProofs only[V,↓reduceIte,rA,rB,rC,reduceCtorEq,rD,rE,rF,h0]):P:=t
theorem U42{P:Prop}(t:P:=by
 rintro e s' ⟨hf,⟨q,rfl⟩|⟨q,rfl,h2⟩⟩
 ·have:Nat.beq 0 0=true:=rfl
  simp-implicitDefEqProofs only[V,↓reduceIte,rA,rB,rC,reduceCtorEq,rD,rE,rF,this,hf,q]
 ·simp-implicitDefEqProofs only[V,↓reduceIte,rA,rB,rC,reduceCtorEq,rD,rE,rF,hf,h2,q]):P:=t
theorem U43{P:Prop}(t:P:=by
 simp-implicitDefEqProofs only[V,↓reduceIte,rA,rB,rC,reduceCtorEq,rD,rE,rF,h5]):P:=t
theorem U44{P:Prop}(t:P:=by
  simp -implicitDefEqProofs only [V, ↓reduceIte, rA, rB, rC, reduceCtorEq, rD, rE, rF] <;> rfl):P:=t
theorem U45{P:Prop}(t:P:=by
  simp -implicitDefEqProofs only [V, ↓reduceIte, rA, rB, rC, reduceCtorEq, rD, rE, rF, hd]):P:=t
theorem U46{P:Prop}(t:P:=by
  have : Nat.beq 0 0 = true := rfl
  simp -implicitDefEqProofs only [V, ↓reduceIte, rA, rB, rC, reduceCtorEq, rD, rE, rF, this, hf, q]):P:=t
theorem U47{P:Prop}(t:P:=by
 rintro e s' ⟨hf,⟨q,rfl⟩|⟨q,rfl,h2⟩⟩
 ·simp-implicitDefEqProofs only[V,↓reduceIte,rA,rB,rC,reduceCtorEq,rD,rE,rF,hbeq,hf,q]
 ·simp-implicitDefEqProofs only[V,↓reduceIte,rA,rB,rC,reduceCtorEq,rD,rE,rF,hf,h2,q]):P:=t
theorem U48{P:Prop}(t:P:=by
 simp-implicitDefEqProofs only[V,↓reduceIte,rA,rB,rC,reduceCtorEq,rD,rE,rF,h7]):P:=t
theorem U49{P:Prop}(t:P:=by
 simp-implicitDefEqProofs only[V,↓reduceIte,rA,rB,rC,reduceCtorEq,rD,rE,rF,h3]):P:=t
theorem U50{P:Prop}(t:P:=by
 intro x hx'
 rcases List.mem_append.1 hx' with q|q
 ·exact hx x q
 ·rw[List.mem_singleton.1 q,ByteArray.size_extract];omega):P:=t
theorem U51{P:Prop}(t:P:=by
 simp-implicitDefEqProofs only[V,↓reduceIte,rA,rB,rC,reduceCtorEq,rD,rE,rF]
 exact hr.to (Nat.le_succ _) fun x _ x2=>by rw[aS (by omega),aJ x2]):P:=t
theorem U52{P:Prop}(t:P:=by
 simp-implicitDefEqProofs only[V,↓reduceIte,rA,rB,rC,reduceCtorEq,rD,rE,rF]
 omega):P:=t
theorem U53{P:Prop}(t:P:=by
 simp-implicitDefEqProofs only[V,↓reduceIte,rA,rB,rC,reduceCtorEq,rD,rE,rF]
 exact g1):P:=t
theorem U54{P:Prop}(t:P:=by
 simp-implicitDefEqProofs only[V,↓reduceIte,rA,rB,rC,reduceCtorEq,rD,rE,rF,e3]):P:=t
theorem U55{P:Prop}(t:P:=by
 simp-implicitDefEqProofs only[V,↓reduceIte,rA,rB,rC,reduceCtorEq,rD,rE,rF,e6]):P:=t
theorem U56{P:Prop}(t:P:=by
 simp-implicitDefEqProofs only[V,↓reduceIte,rA,rB,rC,reduceCtorEq,rD,rE,rF,d1,hf]):P:=t
theorem U57{P:Prop}(t:P:=by
 simp-implicitDefEqProofs only[V,↓reduceIte,rA,rB,rC,reduceCtorEq,rD,rE,rF]
 exact Nat.le_refl 3):P:=t
theorem U58{P:Prop}(t:P:=by
 simp-implicitDefEqProofs only[V,↓reduceIte,rA,rB,rC,reduceCtorEq,rD,rE,rF]
 rfl):P:=t
theorem U59{P:Prop}(t:P:=by
 simp-implicitDefEqProofs only[V,↓reduceIte,rA,rB,rC,reduceCtorEq,rD,rE,rF,WB,d1,q1,q2]):P:=t
theorem U60{P:Prop}(t:P:=by
 simp-implicitDefEqProofs only[V,↓reduceIte,rA,rB,rC,reduceCtorEq,rD,rE,rF]
 exact Nat.le_refl 1):P:=t
theorem U61{P:Prop}(t:P:=by
 simp-implicitDefEqProofs only[V,↓reduceIte,rA,rB,rC,reduceCtorEq,rD,rE,rF,g2]):P:=t
theorem U62{P:Prop}(t:P:=by
 simp-implicitDefEqProofs only[V,↓reduceIte,rA,rB,rC,reduceCtorEq,rD,rE,rF,n0,g0]):P:=t
theorem U63{P:Prop}(t:P:=by
 simp-implicitDefEqProofs only[V,↓reduceIte,rA,rB,rC,reduceCtorEq,rD,rE,rF,h2]):P:=t
theorem U64{P:Prop}(t:P:=by
 simp-implicitDefEqProofs only[V,↓reduceIte,rA,rB,rC,reduceCtorEq,rD,rE,rF,WB,d1,q1]):P:=t
theorem U65{P:Prop}(t:P:=by
 simp-implicitDefEqProofs only[V,↓reduceIte,rA,rB,rC,reduceCtorEq,rD,rE,rF]
 exact c1):P:=t
theorem U66{P:Prop}(t:P:=by
 simp-implicitDefEqProofs only[V,↓reduceIte,rA,rB,rC,reduceCtorEq,rD,rE,rF]
 exact r1):P:=t
theorem U67{P:Prop}(t:P:=by
 simp-implicitDefEqProofs only[V,↓reduceIte,rA,rB,rC,reduceCtorEq,rD,rE,rF]
 rw[o1 B hB hBv,gB]):P:=t
theorem U68{P:Prop}(t:P:=by
 simp-implicitDefEqProofs only[V,↓reduceIte,rA,rB,rC,reduceCtorEq,rD,rE,rF,h1]):P:=t
theorem U69{P:Prop}(t:P:=by
 simp-implicitDefEqProofs only[V,↓reduceIte,rA,rB,rC,reduceCtorEq,rD,rE,rF,hf]):P:=t
theorem U70{P:Prop}(t:P:=by
 rw[o2 x (by omega) (fun hx=>by
  rcases j1 x hx with q|q
  ·exact x2 q
  ·omega),o1 x x1 x2]):P:=t
theorem U71{P:Prop}(t:P:=by
 rcases j2 x hx with q|q
 ·rcases j1 x q with q|q
  ·exact .inl q
  ·exact .inr (by omega)
 ·exact .inr (by omega)):P:=t
theorem U72{P:Prop}(t:P:=by
 simp-implicitDefEqProofs only[V,↓reduceIte,rA,rB,rC,reduceCtorEq,rD,rE,rF,hh]
 exact hr.to (Nat.le_succ _) fun x _ x2=>by rw[aJ x2]):P:=t
theorem U73{P:Prop}(t:P:=by
 simp-implicitDefEqProofs only[V,↓reduceIte,rA,rB,rC,reduceCtorEq,rD,rE,rF,hh]
 omega):P:=t
theorem U74{P:Prop}(t:P:=by
 simp-implicitDefEqProofs only[V,↓reduceIte,rA,rB,rC,reduceCtorEq,rD,rE,rF,hh]):P:=t
theorem U75{P:Prop}(t:P:=by
 simp-implicitDefEqProofs only[V,↓reduceIte,rA,rB,rC,reduceCtorEq,rD,rE,rF]
 exact hcall):P:=t
theorem U76{P:Prop}(t:P:=by
 simp-implicitDefEqProofs only[V,↓reduceIte,rA,rB,rC,reduceCtorEq,rD,rE,rF]
 exact r1.to (Nat.le_succ _) fun x _ x2=>by rw[aJ x2]):P:=t
theorem U77{P:Prop}(t:P:=by
 simp-implicitDefEqProofs only[V,↓reduceIte,rA,rB,rC,reduceCtorEq,rD,rE,rF,e2]):P:=t
theorem U78{P:Prop}(t:P:=by
 intro x x1 x2
 show h2.get x=h.get x
 rw[o2 x (by omega) (fun hx=>by
  rcases j1' x hx with q|q
  ·exact x2 q
  ·omega),if_neg (by omega),o1' x x1 x2]):P:=t
theorem U79{P:Prop}(t:P:=by
 simp-implicitDefEqProofs only[V,↓reduceIte,rA,rB,rC,reduceCtorEq,rD,rE,rF,h6]):P:=t
theorem U80{P:Prop}(t:P:=by
 simp-implicitDefEqProofs only[V,↓reduceIte,rA,rB,rC,reduceCtorEq,rD,rE,rF,g0]):P:=t
theorem U81{P:Prop}(t:P:=by
 simp-implicitDefEqProofs only[V,↓reduceIte,rA,rB,rC,reduceCtorEq,rD,rE,rF,d1]):P:=t
theorem U82{P:Prop}(t:P:=by
 simp-implicitDefEqProofs only[V,↓reduceIte,rA,rB,rC,reduceCtorEq,rD,rE,rF,WB,d1,q]):P:=t
theorem U83{P:Prop}(t:P:=by
 simp-implicitDefEqProofs only[V,↓reduceIte,rA,rB,rC,reduceCtorEq,rD,rE,rF,WB,d1,q,q2]):P:=t
theorem U84{P:Prop}(t:P:=by
 simp-implicitDefEqProofs only[V,↓reduceIte,rA,rB,rC,reduceCtorEq,rD,rE,rF,WB,d1,varS,q,optR]):P:=t
theorem U85{P:Prop}(t:P:=by
 simp-implicitDefEqProofs only[V,↓reduceIte,rA,rB,rC,reduceCtorEq,rD,rE,rF,WB,d1,varS,q,optR,e4,e5]):P:=t
theorem U86{P:Prop}(t:P:=by
 simp-implicitDefEqProofs only[V,↓reduceIte,rA,rB,rC,reduceCtorEq,rD,rE,rF]
 exact m1):P:=t
theorem U87{P:Prop}(t:P:=by
 simp only[List.mem_cons,List.mem_nil_iff,or_false] at hj
 rcases hj with rfl|rfl
 ·exact .inl rfl
 ·exact .inr (.inl rfl)):P:=t
theorem U88{P:Prop}(t:P:=by
 simp-implicitDefEqProofs only[runOp,V,↓reduceIte,rA,rB,rC,reduceCtorEq,rD,rE,rF]):P:=t
theorem U89{P:Prop}(t:P:=by
 simp-implicitDefEqProofs only[V,↓reduceIte,rA,rB,rC,reduceCtorEq,rD,rE,rF,n1,g1]):P:=t
theorem U90{P:Prop}(t:P:=by
 simp-implicitDefEqProofs only[V,↓reduceIte,rA,rB,rC,reduceCtorEq,rD,rE,rF]
 exact Nat.le_refl 2):P:=t
theorem U91{P:Prop}(t:P:=by
 simp-implicitDefEqProofs only[V,↓reduceIte,rA,rB,rC,reduceCtorEq,rD,rE,rF,WB,WF,d1,e4,g1,q,ez,qE]
 exact⟨_,rfl,2,by decide,eD (b:=.val .nilFunc) (dC (fun v hv=>by
  simp only[List.mem_cons,List.mem_nil_iff,or_false] at hv
  rcases hv with rfl|rfl<;>exact Leaf.val _))⟩):P:=t
theorem U92{P:Prop}(t:P:=by
 simp-implicitDefEqProofs only[V,↓reduceIte,rA,rB,rC,reduceCtorEq,rD,rE,rF,WB,WF,d1,e4,e5,g1,q]
 exact⟨_,rfl,2,by decide,eD (b:=.val .nilFunc) (dC (fun v hv=>by
  simp only[Ho.cells,List.mem_cons,List.mem_nil_iff,or_false] at hv
  rcases hv with rfl|rfl
  ·exact Leaf.val _
  ·exact Vl.leaf))⟩):P:=t
theorem U93{P:Prop}(t:P:=by
 simp-implicitDefEqProofs only[V,↓reduceIte,rA,rB,rC,reduceCtorEq,rD,rE,rF,WB,WF,d1,e4,g1,q,vR,qD]
 exact⟨_,rfl,2,by decide,eD (b:=.val .nilFunc) (dC (fun v hv=>by
  simp only[List.mem_cons,List.mem_nil_iff,or_false] at hv
  rcases hv with rfl|rfl|rfl<;>exact Leaf.val _))⟩):P:=t
theorem U94{P:Prop}(t:P:=by
 simp-implicitDefEqProofs only[V,↓reduceIte,rA,rB,rC,reduceCtorEq,rD,rE,rF,WB,WF,d1,e4,e5,g1,q]
 exact⟨_,rfl,2,by decide,eD (b:=.val .nilFunc) (dC (fun v hv=>by
  simp only[Sm.cells,List.mem_cons,List.mem_nil_iff,or_false] at hv
  rcases hv with rfl|rfl|rfl
  ·exact Leaf.val _
  ·exact Vl.leaf
  ·exact Leaf.val _))⟩):P:=t
theorem U95{P:Prop}(t:P:=by
 simp-implicitDefEqProofs only[V,↓reduceIte,rA,rB,rC,reduceCtorEq,rD,rE,rF,WB,WF,d1,e6,e7,q]):P:=t
theorem U96{P:Prop}(t:P:=by
 simp-implicitDefEqProofs only[V,↓reduceIte,rA,rB,rC,reduceCtorEq,rD,rE,rF,WB,WF,d1,q]):P:=t
theorem U97{P:Prop}(t:P:=by
 simp-implicitDefEqProofs only[V,↓reduceIte,rA,rB,rC,reduceCtorEq,rD,rE,rF,hh]
 exact r1):P:=t
theorem U98{P:Prop}(t:P:=by
 simp-implicitDefEqProofs only[V,↓reduceIte,rA,rB,rC,reduceCtorEq,rD,rE,rF,hb1,r3]):P:=t
theorem U99{P:Prop}(t:P:=by
 simp-implicitDefEqProofs only[V,↓reduceIte,rA,rB,rC,reduceCtorEq,rD,rE,rF]
 rw[List.flatMap_append]
 exact r1):P:=t
theorem U100{P:Prop}(t:P:=by
 simp-implicitDefEqProofs only[V,↓reduceIte,rA,rB,rC,reduceCtorEq,rD,rE,rF,h12]):P:=t
theorem U101{P:Prop}(t:P:=by
 rw[decide_eq_true z]
 refine .inl ⟨v',rfl,rfl,?_,t6,t2,t3⟩
 rw[List.append_assoc] at r2
 exact r2):P:=t
theorem U102{P:Prop}(t:P:=by
 simp-implicitDefEqProofs only[V,↓reduceIte,rA,rB,rC,reduceCtorEq,rD,rE,rF,WB,d1,e2]):P:=t
theorem U103{P:Prop}(t:P:=by
 simp-implicitDefEqProofs only[V,↓reduceIte,rA,rB,rC,reduceCtorEq,rD,rE,rF]
 exact r2):P:=t
theorem U104{P:Prop}(t:P:=by
 simp-implicitDefEqProofs only[V,↓reduceIte,rA,rB,rC,reduceCtorEq,rD,rE,rF,List.all_cons,List.all_nil,aV]):P:=t
theorem U105{P:Prop}(t:P:=by
 rw[←t1 j hj]
 simp only[St.put,St.eval_set,St.eval_toH]
 repeat rw[if_neg (by omega)]):P:=t
theorem U106{P:Prop}(t:P:=by
 simp-implicitDefEqProofs only[V,↓reduceIte,rA,rB,rC,reduceCtorEq,rD,rE,rF,List.all_cons,List.all_nil,e74e,aV]):P:=t
theorem U107{P:Prop}(t:P:=by
 simp-implicitDefEqProofs only[V,↓reduceIte,rA,rB,rC,reduceCtorEq,rD,rE,rF]
 exact ht.alloc.put):P:=t
theorem U108{P:Prop}(t:P:=by
 simp-implicitDefEqProofs only[V,↓reduceIte,rA,rB,rC,reduceCtorEq,rD,rE,rF]
 exact t1):P:=t
theorem U109{P:Prop}(t:P:=by
 simp-implicitDefEqProofs only[V,↓reduceIte,rA,rB,rC,reduceCtorEq,rD,rE,rF,g1]):P:=t
theorem U110{P:Prop}(t:P:=by
 simp-implicitDefEqProofs only[V,↓reduceIte,rA,rB,rC,reduceCtorEq,rD,rE,rF,e1]):P:=t
theorem U111{P:Prop}(t:P:=by
 simp-implicitDefEqProofs only[V,↓reduceIte,rA,rB,rC,reduceCtorEq,rD,rE,rF]
 exact H2):P:=t
theorem U112{P:Prop}(t:P:=by
 simp-implicitDefEqProofs only[V,↓reduceIte,rA,rB,rC,reduceCtorEq,rD,rE,rF,Vl.len]):P:=t
theorem U113{P:Prop}(t:P:=by
 rw[decide_eq_false q2]
 simp-implicitDefEqProofs only[V,↓reduceIte,rA,rB,rC,reduceCtorEq,rD,rE,rF,WB,d1,e4]):P:=t
theorem U114{P:Prop}(t:P:=by
 simp-implicitDefEqProofs only[V,↓reduceIte,rA,rB,rC,reduceCtorEq,rD,rE,rF]
 exact h5):P:=t
theorem U115{P:Prop}(t:P:=by
 simp-implicitDefEqProofs only[V,↓reduceIte,rA,rB,rC,reduceCtorEq,rD,rE,rF,e4]):P:=t
theorem U116{P:Prop}(t:P:=by
 simp-implicitDefEqProofs only[V,↓reduceIte,rA,rB,rC,reduceCtorEq,rD,rE,rF,WB,d1,z]):P:=t
theorem U117{P:Prop}(t:P:=by
 simp-implicitDefEqProofs only[V,↓reduceIte,rA,rB,rC,reduceCtorEq,rD,rE,rF,WB,d1,z,e3]):P:=t
theorem U118{P:Prop}(t:P:=by
 simp-implicitDefEqProofs only[V,↓reduceIte,rA,rB,rC,reduceCtorEq,rD,rE,rF]
 exact hr):P:=t
theorem U119{P:Prop}(t:P:=by
 simp-implicitDefEqProofs only[V,↓reduceIte,rA,rB,rC,reduceCtorEq,rD,rE,rF]
 exact hlo):P:=t
theorem U120{P:Prop}(t:P:=by
 simp-implicitDefEqProofs only[V,↓reduceIte,rA,rB,rC,reduceCtorEq,rD,rE,rF]
 exact hr.to (by show s.h.next≤s.h.next+1;omega) fun x _ x2=>by rw[aJ x2]):P:=t
theorem U121{P:Prop}(t:P:=by
 simp-implicitDefEqProofs only[V,↓reduceIte,rA,rB,rC,reduceCtorEq,rD,rE,rF]
 rw[hb,List.flatMap_append]
 exact r1):P:=t
theorem U122{P:Prop}(t:P:=by
 simp-implicitDefEqProofs only[V,↓reduceIte,rA,rB,rC,reduceCtorEq,rD,rE,rF]
 exact Nat.le_refl _):P:=t
theorem U123{P:Prop}(t:P:=by
 simp-implicitDefEqProofs only[V,↓reduceIte,rA,rB,rC,reduceCtorEq,rD,rE,rF]
 exact hr.to (by show s.h.next≤s.h.next+1;omega) fun x _ x2=>by rw[aS (by omega),aJ x2]):P:=t
theorem U124{P:Prop}(t:P:=by
 simp-implicitDefEqProofs only[V,↓reduceIte,rA,rB,rC,reduceCtorEq,rD,rE,rF,h8]):P:=t
theorem U125{P:Prop}(t:P:=by
 simp-implicitDefEqProofs only[V,↓reduceIte,rA,rB,rC,reduceCtorEq,rD,rE,rF]
 exact hr.to (by show s.h.next≤s.h.next+1+1;omega) fun x _ x2=>by rw[aJ (by show x<s.h.next+1;omega),aS (by omega),aJ x2]):P:=t
theorem U126{P:Prop}(t:P:=by
 simp-implicitDefEqProofs only[V,↓reduceIte,rA,rB,rC,reduceCtorEq,rD,rE,rF]
 exact hk):P:=t
theorem U127{P:Prop}(t:P:=by
 simp-implicitDefEqProofs only[V,↓reduceIte,rA,rB,rC,reduceCtorEq,rD,rE,rF]
 exact r1'):P:=t
theorem U128{P:Prop}(t:P:=by
 simp-implicitDefEqProofs only[V,↓reduceIte,rA,rB,rC,reduceCtorEq,rD,rE,rF]
 exact hn):P:=t
theorem U129{P:Prop}(t:P:=by
 simp-implicitDefEqProofs only[V,↓reduceIte,rA,rB,rC,reduceCtorEq,rD,rE,rF]
 decide):P:=t
theorem U130{P:Prop}(t:P:=by
 simp-implicitDefEqProofs only[V,↓reduceIte,rA,rB,rC,reduceCtorEq,rD,rE,rF]
 exact h7):P:=t
theorem U131{P:Prop}(t:P:=by
 simp-implicitDefEqProofs only[V,↓reduceIte,rA,rB,rC,reduceCtorEq,rD,rE,rF,e5]):P:=t
theorem U132{P:Prop}(t:P:=by
 simp-implicitDefEqProofs only[V,↓reduceIte,rA,rB,rC,reduceCtorEq,rD,rE,rF,d2]):P:=t
theorem U133{P:Prop}(t:P:=by
 simp-implicitDefEqProofs only[V,↓reduceIte,rA,rB,rC,reduceCtorEq,rD,rE,rF,e0]
 exact hn):P:=t
theorem U134{P:Prop}(t:P:=by
 simp-implicitDefEqProofs only[V,↓reduceIte,rA,rB,rC,reduceCtorEq,rD,rE,rF,e0,g0]):P:=t
theorem U135{P:Prop}(t:P:=by
 simp-implicitDefEqProofs only[V,↓reduceIte,rA,rB,rC,reduceCtorEq,rD,rE,rF]
 exact Nat.zero_lt_one):P:=t
theorem U136{P:Prop}(t:P:=by
 have z:chkR H H.cs.l 0=(-1,0):=z
 rw[z]
 simp-implicitDefEqProofs only[V,↓reduceIte,rA,rB,rC,reduceCtorEq,rD,rE,rF,WB,d1]):P:=t
theorem U137{P:Prop}(t:P:=by
 have z1:s1.eval (.t 2)=some (.val (.int .i64 (chkR H H.cs.l 0).1)):=z1
 have z2:s1.eval (.t 3)=some (.val (.int .i64 (chkR H H.cs.l 0).2)):=z2
 simp-implicitDefEqProofs only[V,↓reduceIte,rA,rB,rC,reduceCtorEq,rD,rE,rF,WB,d1,z1,z2]):P:=t
theorem U138{P:Prop}(t:P:=by
 simp-implicitDefEqProofs only[V,↓reduceIte,rA,rB,rC,reduceCtorEq,rD,rE,rF,h9]):P:=t
theorem U139{P:Prop}(t:P:=by
 simp-implicitDefEqProofs only[V,↓reduceIte,rA,rB,rC,reduceCtorEq,rD,rE,rF]
 exact hr1):P:=t
theorem U140{P:Prop}(t:P:=by
 simp only[cond_false,cond_true,List.length_cons];omega):P:=t
theorem U141{P:Prop}(t:P:=by
 simp-implicitDefEqProofs only[V,↓reduceIte,rA,rB,rC,reduceCtorEq,rD,rE,rF,WB]
 apply aB (rfl:tY=.loop jR)
 simp-implicitDefEqProofs only[jR,V,↓reduceIte,rA,rB,rC,reduceCtorEq,rD,rE,rF,WB,WF,a1,a2,d1]
 exact⟨K',a3.done (by rw[List.drop_zero] at b3;exact b3),rfl⟩):P:=t
theorem U142{P:Prop}(t:P:=by
 rw[hb,List.length_append,hlen];simp):P:=t
theorem U143{P:Prop}(t:P:=by
 rw[List.drop_zero,hb,List.take_of_length_le (by rw[List.length_append,hlen];exact Nat.le_refl _),List.flatMap_append]
 rfl):P:=t
theorem U144{P:Prop}(t:P:=by
 simp-implicitDefEqProofs only[V,↓reduceIte,rA,rB,rC,reduceCtorEq,rD,rE,rF]
 exact q1):P:=t
theorem U145{P:Prop}(t:P:=by
 simp-implicitDefEqProofs only[V,↓reduceIte,rA,rB,rC,reduceCtorEq,rD,rE,rF]
 exact hq1):P:=t
theorem U146{P:Prop}(t:P:=by
 simp-implicitDefEqProofs only[V,↓reduceIte,rA,rB,rC,reduceCtorEq,rD,rE,rF]
 rw[if_neg (by omega),if_neg (by omega)]):P:=t
theorem U147{P:Prop}(t:P:=by
 as_aux_lemma=>kernel_rfl):P:=t
theorem om{P:Prop}(t:P:=by
 omega):P:=t
theorem de{P:Prop}(t:P:=by
 decide):P:=t
theorem kr{P:Prop}(t:P:=by
 kernel_rfl):P:=t
theorem U151{P:Prop}(t:P:=by
 simp-implicitDefEqProofs only[V,↓reduceIte,rA,rB,rC,reduceCtorEq,rD,rE,rF,this,hf,q]):P:=t
theorem U152{P:Prop}(t:P:=by
 simp-implicitDefEqProofs only[V,↓reduceIte,rA,rB,rC,reduceCtorEq,rD,rE,rF,hf,h2,q]):P:=t
theorem U153{P:Prop}(t:P:=by
 simp-implicitDefEqProofs only[V,↓reduceIte,rA,rB,rC,reduceCtorEq,rD,rE,rF,h4]):P:=t
theorem U154{P:Prop}(t:P:=by
 simp-implicitDefEqProofs only[V,↓reduceIte,rA,rB,rC,reduceCtorEq,rD,rE,rF,WB,e2,e4]):P:=t
theorem U155{P:Prop}(t:P:=by
 simp-implicitDefEqProofs only[V,↓reduceIte,rA,rB,rC,reduceCtorEq,rD,rE,rF,h10]):P:=t
theorem U156{P:Prop}(t:P:=by
 simp-implicitDefEqProofs only[V,↓reduceIte,rA,rB,rC,reduceCtorEq,rD,rE,rF,h11]):P:=t
theorem U157{P:Prop}(t:P:=by
 simp-implicitDefEqProofs only[V,↓reduceIte,rA,rB,rC,reduceCtorEq,rD,rE,rF,w1]):P:=t
theorem U158{P:Prop}(t:P:=by
 simp-implicitDefEqProofs only[gz,f116,V,↓reduceIte,rA,rB,rC,reduceCtorEq,rD,rE,rF,WB,WF,h0,h1,h2,hh,hd,aA fc,cD,s1e,ht,hk,Vl.len]):P:=t
theorem U159{P:Prop}(t:P:=by
 simp-implicitDefEqProofs only[V,↓reduceIte,rA,rB,rC,reduceCtorEq,rD,rE,rF,WB,WF,hq,hd,aFF]):P:=t
theorem U160{P:Prop}(t:P:=by
 simp-implicitDefEqProofs only[V,↓reduceIte,rA,rB,rC,reduceCtorEq,rD,rE,rF,m2]):P:=t
theorem U161{P:Prop}(t:P:=by
 simp-implicitDefEqProofs only[V,↓reduceIte,rA,rB,rC,reduceCtorEq,rD,rE,rF,e74e]):P:=t
theorem U162{P:Prop}(t:P:=by
 simp-implicitDefEqProofs only[V,↓reduceIte,rA,rB,rC,reduceCtorEq,rD,rE,rF,e74]):P:=t
theorem U163{P:Prop}(t:P:=by
 simp-implicitDefEqProofs only[V,↓reduceIte,rA,rB,rC,reduceCtorEq,rD,rE,rF,e1,e2,e6,q,Bool.not_false,eqN,Bool.false_and]):P:=t
theorem U164{P:Prop}(t:P:=by
 simp-implicitDefEqProofs only[wpDm,aw,cq,fT,sc,List.all_cons,List.all_nil,footed,V,↓reduceIte,rA,rB,rC,reduceCtorEq,rD,rE,rF,WF,h1,g,n1,o1,aO p.idsA,ab p.idsA,aO zi,ab zi,aO (bi _),ab (bi _),az (bi _),aO ui,az ui,ab ui]):P:=t
theorem U165{P:Prop}(t:P:=by
 simp-implicitDefEqProofs only[ku,f174,V,↓reduceIte,rA,rB,rC,reduceCtorEq,rD,rE,rF,WB,WF,h0,h1,h2,hh,hd,aA fc,cD,s1e,ht,hk,Vl.len]):P:=t
theorem U166{P:Prop}(t:P:=by
 simp-implicitDefEqProofs only[pO,f176,V,↓reduceIte,rA,rB,rC,reduceCtorEq,rD,rE,rF,WB,WF,h0,h1,hh,hd,s1e,s2e,aA cI]):P:=t
theorem U167{P:Prop}(t:P:=by
 simp-implicitDefEqProofs only[V,↓reduceIte,rA,rB,rC,reduceCtorEq,rD,rE,rF,WB,WF,ansA,d1]):P:=t
theorem U168{P:Prop}(t:P:=by
 simp-implicitDefEqProofs only[wpDm,aw,List.all_cons,List.all_nil,footed,V,↓reduceIte,rA,rB,rC,reduceCtorEq,rD,rE,rF,WF,aV,az (vi _),ab (vi _)]):P:=t
theorem U169{P:Prop}(t:P:=by
 simp-implicitDefEqProofs only[V,↓reduceIte,rA,rB,rC,reduceCtorEq,rD,rE,rF,h16]):P:=t
theorem U170{P:Prop}(t:P:=by
 simp-implicitDefEqProofs only[V,↓reduceIte,rA,rB,rC,reduceCtorEq,rD,rE,rF,h17]):P:=t
theorem U171{P:Prop}(t:P:=by
 simp-implicitDefEqProofs only[V,↓reduceIte,rA,rB,rC,reduceCtorEq,rD,rE,rF,h44]):P:=t
theorem U172{P:Prop}(t:P:=by
 simp-implicitDefEqProofs only[V,↓reduceIte,rA,rB,rC,reduceCtorEq,rD,rE,rF,h45]):P:=t
theorem U173{P:Prop}(t:P:=by
 simp-implicitDefEqProofs only[ag,f114,V,↓reduceIte,rA,reduceCtorEq,rD,rE,h0,hh,hd,hk,dd,dE,aA hA,hz,hL1,hL2,hB,nvS]):P:=t
end Go
