/- Proofs that come again and again, each as the default argument of one theorem. -/
import Derived.KernelRfl

set_option linter.all false
namespace Go
theorem U0{P:Prop}(t:P:=by
 cases op<;>first|rfl|(simp only[calmOp,Bool.false_eq_true] at h)):P:=t
theorem U1{P:Prop}(t:P:=by
 simp only[wpOps,wantedA,aJ,true_implies,Bool.true_eq_false,false_implies,and_true,wpOp]
 rfl):P:=t
theorem U2{P:Prop}(t:P:=by
 refine(eo (es:=6) p.len (by decide)).trans ?_
 congr 1
 first|done|simp only[Md.cells,List.cons_append,List.append_assoc,List.nil_append,List.drop_succ_cons,List.drop_zero]):P:=t
theorem U3{P:Prop}(t:P:=by
 refine(fa (es:=25) p.len (by decide)).trans ?_
 congr 2
 first|done|simp only[Df.cells,List.cons_append,List.append_assoc,List.nil_append,List.drop_succ_cons,List.drop_zero]):P:=t
theorem U4{P:Prop}(t:P:=by
 refine(eo (es:=25) p.len (by decide)).trans ?_
 congr 1
 first|done|simp only[Df.cells,List.cons_append,List.append_assoc,List.nil_append,List.drop_succ_cons,List.drop_zero]):P:=t
theorem U5{P:Prop}(t:P:=by
 refine(fa (es:=9) p.len (by decide)).trans ?_
 congr 2
 rw[p.cells_eq]
 first|done|simp only[List.cons_append,List.append_assoc,List.nil_append,List.drop_succ_cons,List.drop_zero]):P:=t
theorem U6{P:Prop}(t:P:=by
 refine(eo (es:=9) p.len (by decide)).trans ?_
 congr 1
 rw[p.cells_eq]
 first|done|simp only[List.cons_append,List.append_assoc,List.nil_append,List.drop_succ_cons,List.drop_zero]):P:=t
theorem U7{P:Prop}(t:P:=by
 refine(fa (es:=7) p.len (by decide)).trans ?_
 congr 2
 rw[p.cells_eq]
 first|done|simp only[List.cons_append,List.append_assoc,List.nil_append,List.drop_succ_cons,List.drop_zero]):P:=t
theorem U8{P:Prop}(t:P:=by
 refine(eo (es:=7) p.len (by decide)).trans ?_
 congr 1
 rw[p.cells_eq]
 first|done|simp only[List.cons_append,List.append_assoc,List.nil_append,List.drop_succ_cons,List.drop_zero]):P:=t
theorem U9{P:Prop}(t:P:=by
 refine(fa (es:=4) p.len (by decide)).trans ?_
 congr 2
 rw[p.cells_eq]
 first|done|simp only[List.cons_append,List.append_assoc,List.nil_append,List.drop_succ_cons,List.drop_zero]):P:=t
theorem U10{P:Prop}(t:P:=by
 refine(eo (es:=4) p.len (by decide)).trans ?_
 congr 1
 rw[p.cells_eq]
 first|done|simp only[List.cons_append,List.append_assoc,List.nil_append,List.drop_succ_cons,List.drop_zero]):P:=t
theorem U11{P:Prop}(t:P:=by
 have:=bD w.nd fun z hz=>fX (w.ok z hz)
 rwa [nmM,List.length_map] at this):P:=t
theorem U12{P:Prop}(t:P:=by
 rw[hX]
 unfold Builtin.clear_
 simp only[h0,e0,Sem.run_bind,run_underlying hu,Result.andThen_ok]
 rfl):P:=t
theorem U13{P:Prop}(t:P:=by
 rename_i e;subst e;simp[hb]):P:=t
theorem U14{P:Prop}(t:P:=by
 simp only[Rel];exact⟨_,_,_,aR _ _ _,rfl⟩):P:=t
theorem U15{P:Prop}(t:P:=by
 subst e
 exfalso
 obtain⟨u,hu⟩:=Option.isSome_iff_exists.1 hsome
 simp only[World.cell?,hbk] at hu
 have:=(Array.getElem?_eq_some_iff.1 (show arr[O'+i]? =some u by simpa using hu)).1
 omega):P:=t
theorem U16{P:Prop}(t:P:=by
 rename_i kt e m' k' x' hu hm' hk hx
 split at hc
 ·rename_i d hd
  cases hp:plainKey d with
  |false=>simp[hp] at hc
  |true=>
   simp only[hp,cond_true,sI] at hc;subst hc
   exact n9 ho (wx ht r hu hd hp hm' hk hx hrun)
 ·cases hc):P:=t
theorem U17{P:Prop}(t:P:=by
 simp only[sn,Nat.zero_le,true_and,Nat.zero_add,Nat.sub_zero] at hv
 split at hv
 ·rename_i hlt
  obtain⟨x,hx,hr⟩:=hl.get hv
  refine⟨x,?_,hr⟩
  rw[Array.getElem?_append_left (by simp;omega)]
  simpa using hx
 ·simp[Tr.get] at hv):P:=t
theorem U18{P:Prop}(t:P:=by
 simp only[S3]
 split
 ·rename_i hlt;rw[←hkeep b o hlt];exact hv
 ·exact hg.wr.snap _ _ _ hv):P:=t
theorem U19{P:Prop}(t:P:=by
 obtain⟨B0,O0,R0,hf0,hB,_⟩:=wr1.blk b _ hb
 rw[hf] at hf0;simp only[sI,pI] at hf0
 obtain⟨rfl,rfl,rfl⟩:=hf0
 simp only[S3,if_neg (Nat.not_lt.2 hB)]
 exact hv):P:=t
theorem U20{P:Prop}(t:P:=by
 simp only[S3] at hv
 split at hv
 ·rename_i hlt
  have:=h1 _ _ _ hv
  rw[←this]
  exact hg.below.cell (p:=⟨b,o,none⟩) hlt
 ·exact hv):P:=t
theorem U21{P:Prop}(t:P:=by
 have hq:=aF hrun;obtain⟨_,hq⟩:=hq
 simp only[pI] at hq;obtain⟨_,rfl⟩:=hq;rfl):P:=t
theorem U22{P:Prop}(t:P:=by
 have hq2:=aF hq;obtain⟨_,hq2⟩:=hq2
 simp only[pI] at hq2;obtain⟨_,rfl⟩:=hq2
 rw[ad (by simp;omega),ad hb]):P:=t
theorem U23{P:Prop}(t:P:=by
 simp only[sI,pI] at hrun;obtain⟨_,rfl⟩:=hrun;rfl):P:=t
theorem U24{P:Prop}(t:P:=by
 have hq:=aF hrun;obtain⟨_,hq⟩:=hq
 simp only[pI] at hq;obtain⟨_,rfl⟩:=hq
 simp only[AH.get_put,if_neg hm]):P:=t
theorem U25{P:Prop}(t:P:=by
 rw[hdd] at ht
 rw[ht] at hd0
 have:t+1≤M:=Nat.le_of_ble_eq_true hd0
 omega):P:=t
theorem U26{P:Prop}(t:P:=by
 simp only[runOp]
 cases s.eval x with
 |none=>rfl
 |some a=>cases a<;>first|rfl|exact dv):P:=t
theorem U27{P:Prop}(t:P:=by
 have hm2:=lK (m:=j) (h2:=h2) (n:=n) ih ps g hp z
 rw[toTree.eq_def]
 simp only[hm2]
 rfl):P:=t
theorem U28{P:Prop}(t:P:=by
 rename_i f xs
 obtain⟨hp,h1⟩:=h1
 cases he:evalAll s xs with
 |none=>rw[he] at h1;exact h1.elim
 |some l=>
  rw[he] at h1
  obtain⟨v,hr,hk1⟩:=h1
  exact aj (d:=⟨⟨dst,g,.call f xs⟩,rd,fr⟩) (dA hq (fun b hb=>by cases hb) hf) (fJ rfl hop hg hw hp he hr) (nx _ _ (md _) hk1)):P:=t
theorem U29{P:Prop}(t:P:=by
 rename_i hne
 have hop':calmOp rd op=true:=by
  split at hop
  ·exact absurd rfl (hne _ _)
  ·exact hop
 have hwo:wpOp E op s=fun K=>withV (runOp E noCall s op) fun(v,s')=>K v s':=by
  funext K
  cases op<;>first|rfl|(simp only[calmOp,Bool.false_eq_true] at hop')
 simp only[wpOps,wantedA,aJ,forall_const,hwo] at h1
 have h1:=h1.1
 cases hr:runOp E noCall s op with
 |none=>rw[hr] at h1;exact h1.elim
 |some vs=>
  obtain⟨v,s1⟩:=vs
  rw[hr] at h1
  have hs:=(hY hop' hr).1
  subst hs
  refine aj (d:=⟨⟨dst,g,op⟩,rd,fr⟩) (dA hq (fun b hb=>?_) hf) (dD (d:=⟨⟨dst,g,op⟩,rd,fr⟩) hop' hg hw hnice hr) (nx _ _ (md _) h1)
  unfold theFoot at hb
  cases hft:footed op with
  |false=>
   rw[hft] at hb
   cases hb
  |true=>
   rw[hft] at hb honly
   simp only[Bool.not_true,Bool.false_or] at honly
   obtain⟨j,hj,v,hv,hbv⟩:=dx (s:=s1) hb
   have:=List.all_eq_true.1 honly j hj
   rw[hv] at this
   exact cA (List.all_eq_true.1 this b hbv)):P:=t
theorem U30{P:Prop}(t:P:=by
 obtain⟨q1,kk,q2,q4⟩:=hx y q
 have q3:Nat.blt y s.h.next=true:=Nat.blt_eq.mpr q1
 simp only[q3,q2,q4,Bool.and_self]):P:=t
theorem U31{P:Prop}(t:P:=by
 rw[if_neg (by omega)]
 by_cases q2:y∈ids v
 ·rw[if_pos q2]
 ·rw[if_neg q2]
  have:=e4 y (by show y<s.h.next;omega) q2
  rw[this]
  by_cases q3:y∈vs
  ·exact(aV q3).symm
  ·exfalso
   rw[this] at y3
   rw[cf q3] at y3
   cases y3):P:=t
theorem U32{P:Prop}(t:P:=by
 have:(a.put o.dst x').defers=a.defers:=by cases o.dst<;>rfl
 rw[this];exact hdf.le hgo.le):P:=t
theorem U33{P:Prop}(t:P:=by
 simp-implicitDefEqProofs only[V,↓reduceIte,rA,rB,rC,reduceCtorEq,rD,rE,rF]
 exact hr.to (by show s.h.next≤s.h.next+1;omega) fun x _ x2=>by rw[aB x2]):P:=t
theorem U34{P:Prop}(t:P:=by
 simp-implicitDefEqProofs only[V,↓reduceIte,rA,rB,rC,reduceCtorEq,rD,rE,rF]
 omega):P:=t
theorem U35{P:Prop}(t:P:=by
 simp-implicitDefEqProofs only[V,↓reduceIte,rA,rB,rC,reduceCtorEq,rD,rE,rF,h5]):P:=t
theorem U36{P:Prop}(t:P:=by
 simp-implicitDefEqProofs only[V,↓reduceIte,rA,rB,rC,reduceCtorEq,rD,rE,rF]):P:=t
theorem U37{P:Prop}(t:P:=by
 simp-implicitDefEqProofs only[V,↓reduceIte,rA,rB,rC,reduceCtorEq,rD,rE,rF,h0]):P:=t
theorem U38{P:Prop}(t:P:=by
 simp-implicitDefEqProofs only[V,↓reduceIte,rA,rB,rC,reduceCtorEq,rD,rE,rF,h1]):P:=t
theorem U39{P:Prop}(t:P:=by
 simp-implicitDefEqProofs only[V,↓reduceIte,rA,rB,rC,reduceCtorEq,rD,rE,rF,hf]):P:=t
theorem U40{P:Prop}(t:P:=by
 simp-implicitDefEqProofs only[V,↓reduceIte,rA,rB,rC,reduceCtorEq,rD,rE,rF]
 rfl):P:=t
theorem U41{P:Prop}(t:P:=by
 simp-implicitDefEqProofs only[V,↓reduceIte,rA,rB,rC,reduceCtorEq,rD,rE,rF,hd]):P:=t
theorem U42{P:Prop}(t:P:=by
 simp-implicitDefEqProofs only[V,↓reduceIte,rA,rB,rC,reduceCtorEq,rD,rE,rF]
 exact r2):P:=t
theorem U43{P:Prop}(t:P:=by
 simp-implicitDefEqProofs only[V,↓reduceIte,rA,rB,rC,reduceCtorEq,rD,rE,rF,h9]):P:=t
theorem U44{P:Prop}(t:P:=by
 rw[hb,List.length_append,hlen];simp):P:=t
theorem U45{P:Prop}(t:P:=by
 rw[List.drop_zero,hb,List.take_of_length_le (by rw[List.length_append,hlen];exact Nat.le_refl _),List.flatMap_append]
 rfl):P:=t
theorem U46{P:Prop}(t:P:=by
 simp-implicitDefEqProofs only[V,↓reduceIte,rA,rB,rC,reduceCtorEq,rD,rE,rF,WB,WF,e4,d1,g1,be,tQ,Fd]
 exact⟨_,rfl,2,by decide,by rw[ansD,hf];exact yK (by rw[xm];exact dZ.leaves)⟩):P:=t
theorem U47{P:Prop}(t:P:=by
 simp-implicitDefEqProofs only[V,↓reduceIte,rA,rB,rC,reduceCtorEq,rD,rE,rF,WB,WF,e4,e5,d1,g1]
 exact⟨_,rfl,2,by decide,by rw[ansD,hf];exact yK d.leaves⟩):P:=t
theorem U48{P:Prop}(t:P:=by
 simp-implicitDefEqProofs only[V,↓reduceIte,rA,rB,rC,reduceCtorEq,rD,rE,rF,h3]):P:=t
theorem U49{P:Prop}(t:P:=by
 simp-implicitDefEqProofs only[V,↓reduceIte,rA,rB,rC,reduceCtorEq,rD,rE,rF,h1,List.all_cons,List.all_nil]
 simp only[r.nice,Bool.and_self]):P:=t
theorem U50{P:Prop}(t:P:=by
 simp-implicitDefEqProofs only[V,↓reduceIte,rA,rB,rC,reduceCtorEq,rD,rE,rF,h2,List.all_cons,List.all_nil]
 rw[hF h6' (by omega) o6']):P:=t
theorem U51{P:Prop}(t:P:=by
 simp-implicitDefEqProofs only[V,↓reduceIte,rA,rB,rC,reduceCtorEq,rD,rE,rF]
 exact hr.to (by show s.h.next≤s.h.next+1;omega) fun x x1 x2=>by rw[aP (by omega),aB x2]):P:=t
theorem U52{P:Prop}(t:P:=by
 simp-implicitDefEqProofs only[V,↓reduceIte,rA,rB,rC,reduceCtorEq,rD,rE,rF,h2]):P:=t
theorem U53{P:Prop}(t:P:=by
 simp-implicitDefEqProofs only[V,↓reduceIte,rA,rB,rC,reduceCtorEq,rD,rE,rF]
 exact Nat.lt_succ_self _):P:=t
theorem U54{P:Prop}(t:P:=by
 simp-implicitDefEqProofs only[V,↓reduceIte,rA,rB,rC,reduceCtorEq,rD,rE,rF]
 exact a0.t):P:=t
theorem U55{P:Prop}(t:P:=by
 intro h' n1 o1
 simp-implicitDefEqProofs only[V,↓reduceIte,rA,rB,rC,reduceCtorEq,rD,rE,rF] at n1 o1
 have n1:s.h.next+1≤h'.next:=n1
 refine Vx.nice l h' W (Vx.to l s.h h' W hI (by omega) fun x hx=>?_)
 have hx':=Vx.lt l s.h W hI x hx
 rw[o1 x (by omega),if_neg (by omega),if_neg (by omega)]):P:=t
theorem U56{P:Prop}(t:P:=by
 simp-implicitDefEqProofs only[V,↓reduceIte,rA,rB,rC,reduceCtorEq,rD,rE,rF]
 refine hr.toB a3.n fun x hx=>a3.o x (hr.ids x hx).2.1 (hv x hx)):P:=t
theorem U57{P:Prop}(t:P:=by
 intro x hx hW
 rcases a3.w x hW with q|q
 ·exact hv x hx q
 ·have:=(hr.ids x hx).2.1
  omega):P:=t
theorem U58{P:Prop}(t:P:=by
 simp-implicitDefEqProofs only[V,↓reduceIte,rA,rB,rC,reduceCtorEq,rD,rE,rF]
 exact a3.i):P:=t
theorem U59{P:Prop}(t:P:=by
 simp-implicitDefEqProofs only[V,↓reduceIte,rA,rB,rC,reduceCtorEq,rD,rE,rF]
 exact a3.t):P:=t
theorem U60{P:Prop}(t:P:=by
 simp-implicitDefEqProofs only[V,↓reduceIte,rA,rB,rC,reduceCtorEq,rD,rE,rF]
 rw[d1,hf]):P:=t
theorem U61{P:Prop}(t:P:=by
 simp-implicitDefEqProofs only[V,↓reduceIte,rA,rB,rC,reduceCtorEq,rD,rE,rF,WB,d1,e1,oneOrTup,pixI,hn]
 exact⟨_,rfl,rfl⟩):P:=t
theorem U62{P:Prop}(t:P:=by
 simp-implicitDefEqProofs only[V,↓reduceIte,rA,rB,rC,reduceCtorEq,rD,rE,rF,WB,d1,e1,t4,oneOrTup,pixI,hj]
 exact⟨_,rfl,rfl⟩):P:=t
theorem U63{P:Prop}(t:P:=by
 simp-implicitDefEqProofs only[V,↓reduceIte,rA,rB,rC,reduceCtorEq,rD,rE,rF,gB]):P:=t
theorem U64{P:Prop}(t:P:=by
 rw[hb,List.flatMap_append]
 exact r1):P:=t
theorem U65{P:Prop}(t:P:=by
 simp only[dops]
 simp-implicitDefEqProofs only[V,↓reduceIte,rA,rB,rC,reduceCtorEq,rD,rE,rF,h3,hf]):P:=t
theorem U66{P:Prop}(t:P:=by
 simp-implicitDefEqProofs only[V,↓reduceIte,rA,rB,rC,reduceCtorEq,rD,rE,rF]
 rw[if_neg (by omega),if_neg (by omega)]):P:=t
theorem U67{P:Prop}(t:P:=by
 simp-implicitDefEqProofs only[V,↓reduceIte,rA,rB,rC,reduceCtorEq,rD,rE,rF,ck,gk]):P:=t
theorem U68{P:Prop}(t:P:=by
 intro z hz _
 simp-implicitDefEqProofs only[V,↓reduceIte,rA,rB,rC,reduceCtorEq,rD,rE,rF]
 rw[if_neg (by omega),if_neg (by omega)]):P:=t
theorem U69{P:Prop}(t:P:=by
 simp-implicitDefEqProofs only[V,↓reduceIte,rA,rB,rC,reduceCtorEq,rD,rE,rF,h6]):P:=t
theorem U70{P:Prop}(t:P:=by
 simp-implicitDefEqProofs only[V,↓reduceIte,rA,rB,rC,reduceCtorEq,rD,rE,rF,WB,d1,q]):P:=t
theorem U71{P:Prop}(t:P:=by
 simp-implicitDefEqProofs only[V,↓reduceIte,rA,rB,rC,reduceCtorEq,rD,rE,rF]
 exact hr1.to (Nat.le_succ _) fun y _ y2=>aB y2):P:=t
theorem U72{P:Prop}(t:P:=by
 rw[o1 0 (by omega) (fun q=>by have:=(hr1.ids 0 q).1;omega),if_neg (by omega),if_neg (by omega),if_neg (by omega),g0]):P:=t
theorem U73{P:Prop}(t:P:=by
 simp-implicitDefEqProofs only[V,↓reduceIte,rA,rB,rC,reduceCtorEq,rD,rE,rF]
 exact hr2.to (Nat.le_succ _) fun y _ y2=>aB y2):P:=t
theorem U74{P:Prop}(t:P:=by
 simp-implicitDefEqProofs only[V,↓reduceIte,rA,rB,rC,reduceCtorEq,rD,rE,rF]
 exact hr.to (Nat.le_succ _) fun y _ y2=>aB y2):P:=t
theorem U75{P:Prop}(t:P:=by
 simp-implicitDefEqProofs only[V,↓reduceIte,rA,rB,rC,reduceCtorEq,rD,rE,rF]
 exact Nat.le_succ _):P:=t
theorem U76{P:Prop}(t:P:=by
 simp-implicitDefEqProofs only[V,↓reduceIte,rA,rB,rC,reduceCtorEq,rD,rE,rF]
 exact hr):P:=t
theorem U77{P:Prop}(t:P:=by
 intro ex s' v' a1 a2 a3 a4
 rw[List.nil_append] at a4
 refine⟨a1,a2,v',?_,1,by decide,di a4⟩
 simp-implicitDefEqProofs only[uV,V,↓reduceIte,rA,rB,rC,reduceCtorEq,rD,rE,rF,a3]):P:=t
theorem U78{P:Prop}(t:P:=by
 intro ex s' v' a1 a2 a3 a4
 refine⟨a1,a2,v',?_,1,by decide,di a4⟩
 simp-implicitDefEqProofs only[uV,V,↓reduceIte,rA,rB,rC,reduceCtorEq,rD,rE,rF,a3]):P:=t
theorem U79{P:Prop}(t:P:=by
 rw[ht] at ha
 rcases List.mem_append.1 ha with ha|ha
 ·exact bM.2 (.inl (w.done a ha y hy))
 ·rw[List.mem_singleton.1 ha] at hy
  exact bM.2 (.inr hy)):P:=t
theorem U80{P:Prop}(t:P:=by
 as_aux_lemma=>kernel_rfl):P:=t
theorem om{P:Prop}(t:P:=by
 omega):P:=t
theorem de{P:Prop}(t:P:=by
 decide):P:=t
theorem kr{P:Prop}(t:P:=by
 kernel_rfl):P:=t
theorem U84{P:Prop}(t:P:=by
 simp-implicitDefEqProofs only[V,↓reduceIte,rA,rB,rC,reduceCtorEq,rD,rE,rF,e5]):P:=t
theorem U85{P:Prop}(t:P:=by
 simp-implicitDefEqProofs only[V,↓reduceIte,rA,rB,rC,reduceCtorEq,rD,rE,rF]<;>rfl):P:=t
theorem U86{P:Prop}(t:P:=by
 simp-implicitDefEqProofs only[V,↓reduceIte,rA,rB,rC,reduceCtorEq,rD,rE,rF,t1]):P:=t
theorem U87{P:Prop}(t:P:=by
 simp-implicitDefEqProofs only[V,↓reduceIte,rA,rB,rC,reduceCtorEq,rD,rE,rF,t2]):P:=t
theorem U88{P:Prop}(t:P:=by
 simp-implicitDefEqProofs only[ei,V,↓reduceIte,rA,rB,rC,reduceCtorEq,rD,rE,rF,WB,h0,h1,h7,h8,hf,hh,ba,pix]):P:=t
theorem U89{P:Prop}(t:P:=by
 simp-implicitDefEqProofs only[V,↓reduceIte,rA,rB,rC,reduceCtorEq,rD,rE,rF,hn]):P:=t
theorem U90{P:Prop}(t:P:=by
 simp-implicitDefEqProofs only[V,↓reduceIte,rA,rB,rC,reduceCtorEq,rD,rE,rF,gB1]):P:=t
theorem U91{P:Prop}(t:P:=by
 simp-implicitDefEqProofs only[V,↓reduceIte,rA,rB,rC,reduceCtorEq,rD,rE,rF,h12]):P:=t
theorem U92{P:Prop}(t:P:=by
 simp-implicitDefEqProofs only[V,↓reduceIte,rA,rB,rC,reduceCtorEq,rD,rE,rF,q 48 (by omega),q 49 (by omega),q 50 (by omega),q 51 (by omega),q 52 (by omega),q 53 (by omega),q 54 (by omega),q 55 (by omega),q 56 (by omega),q 57 (by omega),q 58 (by omega),q 59 (by omega),q 60 (by omega),q 61 (by omega),q 62 (by omega),q 63 (by omega),q 64 (by omega),q 65 (by omega),q 66 (by omega),q 67 (by omega)]):P:=t
end Go
