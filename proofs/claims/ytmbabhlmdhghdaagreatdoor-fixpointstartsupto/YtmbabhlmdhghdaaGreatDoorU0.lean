/- Proofs that come again and again, each as the default argument of one theorem. -/
import Derived.KernelRfl

set_option linter.all false
namespace Go
variable{P:Prop}
theorem U0(t:P:=by
 cases op<;>first|rfl|(simp only[bU,Bool.false_eq_true] at h)):P:=t
theorem U1(t:P:=by
 simp only[wpOps,aw,lB,true_implies,Bool.true_eq_false,false_implies,and_true,wpOp]
 rfl):P:=t
theorem U2(t:P:=by
 obtain⟨h1,h2,r⟩:=r
 refine⟨h1,h2,?_⟩
 grind):P:=t
theorem U3(t:P:=by
 have:Nat.blt b h.next=J:=by simp_all
 simp only[aN,fK,ids,List.all_cons,List.all_nil,hE, *]
 rfl):P:=t
theorem U4(t:P:=by
 refine eK (by rfl) (by rfl) (qr (Tree.pr p)) rfl (Tree.val _) (sQ Gp λs hs hh hd=>?_) h
 have h0:=hs 0 _ rfl
 simp only[mM,f258,V,↓reduceIte,rA,reduceCtorEq,rD,h0,hh,hd,hk]):P:=t
theorem U5(t:P:=by
 refine eK (by rfl) (by rfl) (qr (Tree.val _)) rfl (Tree.val _) (sQ aJF λs hs hh hd=>?_) h
 have h0:=hs 0 _ rfl
 simp only[Uu,f256,V,↓reduceIte,rA,reduceCtorEq,rD,h0,hd]):P:=t
theorem U6(t:P:=by
 refine eK (by rfl) (by rfl) (sE (Tree.val _) (Tree.val _)) rfl (Tree.val _) (sQ Ut λs hs hh hd=>?_) h
 have h0:=hs 0 _ rfl
 have h1:=hs 1 _ rfl
 cases a:decide (1<=n)<;>simp only[pR,f257,V,↓reduceIte,rA,reduceCtorEq,rD,h0,h1,hd]):P:=t
theorem U7(t:P:=by
 refine eK (by rfl) (by rfl) (sE (Tree.val _) (Tree.val _)) rfl (Tree.val _) (sQ Ut λs hs hh hd=>?_) h
 have h0:=hs 0 _ rfl
 have h1:=hs 1 _ rfl
 cases a:decide (1<=n)<;>simp only[pR,f257,V,↓reduceIte,rA,reduceCtorEq,rD,h0,h1,hd,a]):P:=t
theorem U8(t:P:=by
 cases num<;>cases e<;>cases z<;>cases l<;>cases r<;>cases m<;>first|rfl|cases h):P:=t
theorem U9(t:P:=by
 obtain⟨h1,h2⟩:=a.keep B O R hB hap
 have hap':qo f' h' B O R:=λc B' O' R' hc hf=>by
  rcases a.live c B' O' R' hc hf with h|⟨b0,O0,R0,g1,g2,g3,g4⟩
  ·grind
  ·have:=hap b0 B' O0 R0 g1 g2
   omega
 obtain⟨h3,h4⟩:=b.keep B O R (Nat.lt_of_lt_of_le hB a.below.size) hap'
 exact⟨h1.trans h3,λi hi=>(h4 i hi).trans (h2 i hi)⟩):P:=t
theorem U10(t:P:=by
 rcases b.live c B O R hc hf with h|⟨b0,O0,R0,g1,g2,g3,g4⟩
 ·exact .inl (Nat.le_trans a.below.size h)
 ·rcases a.live b0 B O0 R0 g1 g2 with h|⟨b1,O1,R1,k1,k2,k3,k4⟩<;>grind):P:=t
theorem U11(t:P:=by
 by_cases hBB:B'=B
 ·subst hBB
  rcases Nat.eq_zero_or_pos vs.length with hz|hp
  ·have:vs=[]:=by grind
   subst this;exact ho
  grind [World.cell?,isCells]
 grind):P:=t
theorem U12(t:P:=by
 intro b1 b2 B1 O1 R1 B2 O2 R2 hne g1 g2 hf1 hf2
 refine r.apart b1 b2 B1 O1 R1 B2 O2 R2 hne ?_ ?_ hf1 hf2<;>grind [AH.aO]):P:=t
theorem U13(t:P:=by
 by_cases hy:y=0
 ·grind
 ·have:(y==0)=U:=by grind
  simp[this] at h;subst h
  exact⟨by simp[binOp,Op.intDiv,hy],rfl⟩):P:=t
theorem U14(t:P:=by
 simp[Rel] at hx hy
 obtain⟨_,_,_,_,rfl⟩:=hx;obtain⟨rfl,_⟩:=hy
 exact⟨by cases op<;>rfl,eqn _ _ (by change (Op.equalIn (9999+1) t _ _).run P w=_;unfold Op.equalIn;simp_all) rfl rfl⟩):P:=t
theorem U15(t:P:=by
 rename_i hx
 simp at hrun
 obtain⟨rfl,rfl⟩:=hrun
 have r:=be ht hc hx
 simp[Rel] at r
 exact⟨rfl,goInt 0,by simp_all [Builtin.len_,run_underlying],by simp[Rel,goInt,Value.oneCell']⟩):P:=t
theorem U16(t:P:=by
 rw[hX]
 unfold Builtin.clear_
 simp only[h0,e0,Sem.run_bind,run_underlying hu,Result.andThen_ok]
 rfl):P:=t
theorem U17(t:P:=by
 unfold Instr.lookup
 rcases hX with⟨rfl,rfl⟩|⟨B,clock,rfl,hh⟩<;>simp_all [run_underlying,getObj,Sem.run]):P:=t
theorem U18(t:P:=by
 rename_i kt e m' k' x' hu hm' hk hx
 split at hc
 ·rename_i d hd
  cases hp:plainKey d with
  |false=>grind
  |true=>
   simp[hp] at hc;subst hc
   exact Oq ho (aNU ht r hu hd hp hm' hk hx hrun)
 grind):P:=t
theorem U19(t:P:=by
 rename_i hn
 have hn':S B (O+i)=Y:=by simp_all
 rw[if_neg,hn']
 rintro⟨id,cs',B',O',R',g1,g2,rfl,g3,g4⟩
 have:=hap id B O' R' (by rw[<-hz.live];grind) g2
 omega):P:=t
theorem U20(t:P:=by
 have hq2:=gr hq;obtain⟨_,hq2⟩:=hq2
 simp only[pI] at hq2;obtain⟨_,rfl⟩:=hq2
 rw[rZ (by simp;omega),rZ hb]):P:=t
theorem U21(t:P:=by
 have hq:=gr hrun;obtain⟨_,hq⟩:=hq
 simp only[pI] at hq;obtain⟨_,rfl⟩:=hq
 simp_all [AH.aO]):P:=t
theorem U22(t:P:=by
 simp only[Option.bind_eq_some_iff,sI,pI] at hrun
 obtain⟨es,_,_,rfl⟩:=hrun
 simp_all [AH.aO]):P:=t
theorem U23(t:P:=by
 rw[hdd] at ht
 rw[ht] at hd0
 have:t+1<=M:=Nat.le_of_ble_eq_true hd0
 omega):P:=t
theorem U24(t:P:=by
 have:=Jf (L:=λk=>listed.getD k U) (L':=λk=>(listed.setIfInBounds i J).getD k U) hLi hset1 hset2 ops.size
 rw[if_pos his] at this
 omega):P:=t
theorem U25(t:P:=by
 rw[aL]
 cases s.eval x with
 |none=>rfl
 |some a=>cases a<;>first|rfl|exact vr):P:=t
theorem U26(t:P:=by
 rcases t1 e with e|e
 ·grind
 ·cases t2 e;exact λy hy=>.inr (List.mem_singleton.1 hy)):P:=t
theorem U27(t:P:=by
 have:ids (.agg (ps.map (·.1)))=[]:=vj λc hc=>by
  obtain⟨p,hp',rfl⟩:=List.mem_map.1 hc
  exact(hp p hp').1
 grind):P:=t
theorem U28(t:P:=by
 have:ids (.tup (ps.map (·.1)))=[]:=vj λc hc=>by
  obtain⟨p,hp',rfl⟩:=List.mem_map.1 hc
  exact(hp p hp').1
 grind):P:=t
theorem U29(t:P:=by
 simp only[V,↓reduceIte,rA]):P:=t
theorem U30(t:P:=by
 simp only[V]
 exact hr.to (Nat.le_succ _) λx _ x2=>by grind [bc,am]):P:=t
theorem U31(t:P:=by
 simp only[V]
 omega):P:=t
theorem U32(t:P:=by
 simp only[V]
 grind):P:=t
theorem U33(t:P:=by
 simp only[V,↓reduceIte]):P:=t
theorem U34(t:P:=by
 simp only[V,↓reduceIte]
 rfl):P:=t
theorem U35(t:P:=by
 intro h hh
 refine kl (rw':=J) ?_ (by rw[ll])
 rw[hh _ (by grind [ids])]
 simp only[V,↓reduceIte]):P:=t
theorem U36(t:P:=by
 intro y hy
 simp only[ids,List.mem_singleton] at hy
 subst hy
 refine⟨?_,.cells (So.cells ⟨k.nm,q⟩) J,?_,?_⟩
 ·simp only[V]
  omega
 ·simp only[V,↓reduceIte]
 ·show below _ (aQ (So.cells ⟨k.nm,q⟩))=J
  rw[So.bM]
  rfl):P:=t
theorem U37(t:P:=by
 simp only[V]
 exact hr.to (by show s.h.next<=s.h.next+1+1;omega) λx _ x2=>by
  rw[am (by show x<s.h.next+1;omega),bc (by omega),am x2]):P:=t
theorem U38(t:P:=by
 rw[if_neg e,vV hi,vV hi,Kw,decide_eq_false (by omega:¬(j:Int)=(i:Int)),Bool.or_false]):P:=t
theorem U39(t:P:=by
 have eqb:ab b=0-b:=by simp_all [ab,if_neg]
 rw[eqa] at z2
 rw[eqb] at hv
 cases z:inB (a*b) with
 |false=>rw[z] at z2;simp only[fS,f209,V,sC h0,sC h1,sZ,arith,okP,seval, *]
 |true=>rw[z] at z2;simp only[fS,f209,V,sC h0,sC h1,sZ,arith,okP,seval, *]):P:=t
theorem U40(t:P:=by
 simp-implicitDefEqProofs only[V]
 exact rv.to (Nat.le_succ _) λy _ y2=>am y2):P:=t
theorem U41(t:P:=by
 simp-implicitDefEqProofs only[V];omega):P:=t
theorem U42(t:P:=by
 simp-implicitDefEqProofs only[V,↓reduceIte,rA]):P:=t
theorem U43(t:P:=by
 simp-implicitDefEqProofs only[V,↓reduceIte]):P:=t
theorem U44(t:P:=by
 rw[List.length_append,<-bED]
 exact rv2.to (Nat.le_refl _) λz z1 _=>bc (by omega)):P:=t
theorem U45(t:P:=by
 have:out=[]:=by grind
 subst this
 rcases r with⟨_,_,⟨_,rfl⟩|⟨_,_,_,q,_⟩⟩|⟨_,_,b,_,_,rfl,_⟩
 ·exact⟨⟨[],ai,Y⟩,rfl,rfl⟩
 ·grind
 ·exact⟨⟨[],Y,Z 0⟩,rfl,rfl⟩):P:=t
theorem U46(t:P:=by
 simp[V]
 exact rv.to (Nat.le_succ _) λy _ y2=>am y2):P:=t
theorem U47(t:P:=by
 simp only[eN,f130,V,WF,ac hc,ac hc1,sW,seval, *]
 exact fin _ _ _):P:=t
theorem U48(t:P:=by
 obtain⟨_,vF,vB,lg,wr,a⟩:=k
 rw[a.at] at q
 rcases List.mem_append.1 q with q|q
 ·exact(a.rF.ids y q).2.1
 ·exact(a.rB.ids y q).2.1):P:=t
theorem U49(t:P:=by
 have k2':=k2
 obtain⟨_,vF,vB,lg,wr,a⟩:=k2'
 have q':=q
 rw[a.at] at q'
 have:y<h2.next:=by
  rcases List.mem_append.1 q' with q'|q'
  ·exact(a.rF.ids y q').2.1
  ·exact(a.rB.ids y q').2.1
 rcases s2.ow y q with q|q<;>grind):P:=t
theorem U50(t:P:=by
 rw[a.at] at q
 rcases List.mem_append.1 q with q|q
 ·exact(a.rF.ids y q).2.1
 ·exact(a.rB.ids y q).2.1):P:=t
theorem U51(t:P:=by
 have c1:gG s.h [] (b::aq s.h b)=(aq s.h b).length+gG s.h [] (aq s.h b):=rfl
 have c2:gG s.h [] (aq s.h b)=0:=ur leaf
 have l1:=Xx a.rF
 have l2:=Xx a.rB
 rw[c1,c2,hr,a.at,List.length_append,List.length_singleton]
 omega):P:=t
theorem U52(t:P:=by
 simpa-implicitDefEqProofs only[V,↓reduceIte,rA,rB,rC,reduceCtorEq,rD,rE,rF] using k):P:=t
theorem U53(t:P:=by
 obtain⟨y,h',rc,s1,k1',ly⟩:=aBM k0 k1 (hK k0 m0) (hK k1 m1) (by omega) (by omega) kh
 grind):P:=t
theorem U54(t:P:=by
 simpa-implicitDefEqProofs only[V,↓reduceIte,rA,rB,rC,reduceCtorEq,rD,rE,rF] using k'):P:=t
theorem U55(t:P:=by
 rintro v h2 fs2 bs2 ⟨q,rfl,f2,l2,nq,rfl⟩ st2 k2
 simp[V] at st2 k2
 have st3:=st.trans st2
 obtain⟨r1,r2⟩:=st3.put (cs:=q.cells) k2 hd db di
 have gd':h2.get d=Z (.cells z J):=by rw[st3.fr d hd db di,gd]
 have kd:∀o,aN h2 (Z (.ptr d o))=J:=λo=>bm (by have:=st3.nx;omega) gd' iz
 simp[X0,V,WF,Pr.av,cy lz q.len, *]
 refine⟨rfl,⟨_,fs2,bs2,lA,r1,r2,⟨l2,kB.b⟩,by omega,by omega,by omega⟩,λj hj=>?_⟩
 simp[V]
 repeat rw[if_neg (by omega)]):P:=t
theorem U56(t:P:=by
 as_aux_lemma=>kernel_rfl):P:=t
theorem Gr(t:P:=by
 grind):P:=t
theorem Sp(t:P:=by
 simp):P:=t
theorem om(t:P:=by
 omega):P:=t
theorem Sa(t:P:=by
 simp_all):P:=t
theorem de(t:P:=by
 decide):P:=t
theorem rf(t:P:=by
 rfl):P:=t
theorem U63(t:P:=by
 simp only[aJ,hb,below,List.all_nil,Bool.and_self,cond_true]):P:=t
theorem kr(t:P:=by
 kernel_rfl):P:=t
theorem U65(t:P:=by
 simp only[V,↓reduceIte,rA,e3]):P:=t
theorem U66(t:P:=by
 simp only[stK,h1,h2,Bool.and_self,cond_true,h3]):P:=t
theorem U67(t:P:=by
 simp only[V,↓reduceIte,rA,reduceCtorEq,jN,d1]):P:=t
theorem U68(t:P:=by
 obtain⟨h1,h2,arr,clock,h3,h4⟩:=h
 exact⟨h1,h2,arr,clock,s.obj h1 om _ h3 rfl,h4⟩):P:=t
theorem U69(t:P:=by
 rw[bR] at h⊢
 obtain⟨h1,h2,M,O',R',h3,h4⟩:=h
 exact⟨h1,h2,M,O',R',h3,s.obj h1 om _ h4 rfl⟩):P:=t
theorem U70(t:P:=by
 cases m with
 |none=>exact r
 |some m=>
  simp only[bR] at r⊢
  obtain⟨h1,h2,M,O',R',since,st,h3,h4⟩:=r
  exact⟨h1,h2,M,O',R',since,st,h.f _ _ h3,h4⟩):P:=t
theorem U71(t:P:=by
 simp only[bR] at r⊢
 obtain⟨h1,h2,M,O',R',h3,h4⟩:=r
 exact⟨h1,h2,M,O',R',h.f _ _ h3,h4⟩):P:=t
theorem U72(t:P:=by
 simp only[bR] at r⊢
 obtain⟨h1,h2,q,h3,h4,h5,h6,h7,h8,h9⟩:=r
 exact⟨h1,h2,q,h3,h4,h5,h6,h7,h8.le h,h9⟩):P:=t
theorem U73(t:P:=by
 simp only[bR] at r⊢
 obtain⟨h1,h2,R1,h3,h4⟩:=r
 exact⟨h1,h2,R1,h.f _ _ h3,h4⟩):P:=t
theorem U74(t:P:=by
 cases hj:Nat.beq j 0 with
 |true=>grind
 |false=>
  have hj0:j≠0:=Nat.ne_of_beq_eq_false hj
  simp only[cond_false]
  cases hjm:Nat.beq (j%2) 1 with
  |true=>
   have:j%2=1:=Sa
   grind
  |false=>
   grind):P:=t
theorem U75(t:P:=by
 cases hj:Nat.beq j 0 with
 |true=>grind
 |false=>
  have hj0:j≠0:=Nat.ne_of_beq_eq_false hj
  simp only[cond_false]
  cases hjm:Nat.beq (j%2) 1 with
  |true=>
   grind
  |false=>
   have:j%2≠1:=Nat.ne_of_beq_eq_false hjm
   grind):P:=t
theorem U76(t:P:=by
 obtain⟨B0,O0,R0,hf0,_,_,hr⟩:=r.blk b _ hb
 rw[hf] at hf0;simp at hf0
 obtain⟨rfl,rfl,rfl⟩:=hf0
 grind [bR]):P:=t
theorem U77(t:P:=by
 have hlen:es.length=arr.size:=by
  have:∀(es:List (Value×AV)) (l:List MapEntry),dA S f es l->es.length=l.length:=by
   intro es
   induction es with
   |nil=>grind [dA]
   |cons p es ih=>intro l h;obtain⟨k,v⟩:=p;simp[dA] at h;grind
  grind
 refine⟨rfl,goInt arr.size,?_,by grind [Rel,goInt,Value.oneCell']⟩
 simp_all [getObj,Sem.run,Builtin.len_,run_underlying]):P:=t
theorem U78(t:P:=by
 rw[hf] at hf0;simp only[sI,pI] at hf0
 obtain⟨rfl,rfl,rfl⟩:=hf0
 grind [bR]):P:=t
theorem U79(t:P:=by
 rw[hf] at hf0;simp at hf0
 obtain⟨rfl,rfl,rfl⟩:=hf0
 grind [bR]):P:=t
theorem U80(t:P:=by
 rw[if_neg (λq=>by grind)]
 simp only[Sem.run_bind,hti,Result.andThen_ok,hib,if_neg hbig,hch,run_askRoom,k1,g1,hzr]
 rfl):P:=t
theorem U81(t:P:=by
 by_cases e:b'=h.next
 ·subst e
  rw[pk] at hf'
  grind
 ·rw[if_neg e] at hg
  rw[s8 e] at hf'
  grind):P:=t
theorem U82(t:P:=by
 obtain⟨rfl,rfl⟩:=hrun
 exact⟨rfl,rfl,_,w,xQ r hT (.inr rfl) ry el hn hle,s6 r rx⟩):P:=t
theorem U83(t:P:=by
 obtain⟨B0,O0,R0,hf0,_,_,hr⟩:=r.blk b _ hb
 rw[hf] at hf0;simp only[sI,pI] at hf0
 obtain⟨rfl,rfl,rfl⟩:=hf0
 grind [bR]):P:=t
theorem U84(t:P:=by
 rw[hd] at gg
 refine gg.congr rfl λj=>?_
 have hbn:b≠s.h.next:=λe=>by have:=r.dom _ _ hf;omega
 grind [AH.aS,AH.aO,AH.iK]):P:=t
theorem U85(t:P:=by
 unfold callFunc
 rw[Sem.run_bind,run_program,Result.andThen_ok]
 simp[*]):P:=t
theorem U86(t:P:=by
 simp at hrun;obtain⟨rfl,rfl⟩:=hrun
 have rx':=rx
 simp[Rel] at rx;grind):P:=t
theorem U87(t:P:=by
 simp at hrun;obtain⟨rfl,rfl⟩:=hrun
 have rx':=rx
 rw[Rel] at rx;obtain⟨_,_,_,_,e⟩:=rx
 simp_all):P:=t
theorem U88(t:P:=by
 have g2k:=g2.kill b
 have gc:dp E.aY base S f s.h w S' f' ((s.h.put b Y).alloc (.cells (cs++new) J)) w':=by
  refine g2k.congr rfl λj=>?_
  grind [AH.aS,AH.aO,AH.iK]
 have g6:=gc.wr.tag (b:=s.h.next) (t:=t) (n:=Y) (by simp[AH.aS]) g4 g5 (λk hk=>by cases hk)
 refine⟨rfl,rfl,z,w',g1,S',_,gc.trans g6,?_⟩
 exact g3.le g6.le _ _):P:=t
theorem U89(t:P:=by
 simp at hc;subst hc
 simp[shown] at hs):P:=t
theorem U90(t:P:=by
 simp only[ar,Option.map_eq_some_iff] at ht
 obtain⟨l',hl',rfl⟩:=ht
 simp only[Rel] at hr⊢
 grind):P:=t
theorem U91(t:P:=by
 simp only[S2] at hv
 split at hv
 ·exact wr.gw _ _ _ hv
 ·split at hv
  ·exact hv
  ·cases hv):P:=t
theorem U92(t:P:=by
 simp only[S2,hn,Option.isSome_none,Bool.false_eq_true,if_false]
 rw[if_neg]
 rintro⟨id,cs',B',O',R',g1,g2,rfl,g3,g4⟩
 have hne:id≠b:=Gr
 have:=wr1.apart id b B O' R' B O R hne (by simp[g1]) (by simp[hbk]) g2 q1
 omega):P:=t
theorem U93(t:P:=by
 simp[hk] at hrun
 have hq:=gr hrun;obtain⟨_,hq⟩:=hq
 simp at hq;obtain⟨_,rfl⟩:=hq
 exact rZ hb):P:=t
theorem U94(t:P:=by
 have hq:=gr hrun;obtain⟨_,hq⟩:=hq
 simp at hq;obtain⟨_,rfl⟩:=hq
 simp_all [AH.aO]):P:=t
theorem U95(t:P:=by
 have he:=List.getElem?_eq_getElem hk
 rw[tr.tm k _ he]
 have hn:ds[k].o.dst≠Z t:=Gr
 cases hdst:ds[k].o.dst with
 |none=>rfl
 |some u=>
  rw[putDst,Tr.aO]
  rw[if_neg (λe=>hn Gr)]):P:=t
theorem U96(t:P:=by
 intro m
 induction m with
 |zero=>intro _;rfl
 |succ m ih=>intro hm;simp only[ov];rw[ih om,if_pos om]):P:=t
theorem U97(t:P:=by
 rcases(hDH i b).1 hb with hx|hx
 ·exact .inl hx
 ·exact .inr (by rw[hlo',hhi'] at hx;exact hx)):P:=t
theorem U98(t:P:=by
 rw[Array.getD_eq_getD_getElem?,Array.getElem?_eq_getElem om] at h1 this
 simp at h1 this
 rw[h1] at this;cases this):P:=t
theorem U99(t:P:=by
 cases he:aT s args with
 |none=>rw[he] at h1;exact h1.elim
 |some l=>
  rw[he] at h1
  exact aHB hw (λcall=>by grind [aL]) ih h1):P:=t
theorem U100(t:P:=by
 simp[ke, *]
 cases hd:d.o.dst with
 |none=>rw[hd] at b;exact b
 |some t=>rw[hd] at b;exact b):P:=t
theorem U101(t:P:=by
 cases x with
 |slice p a b=>
  cases p with
  |some p=>cases a<;>rfl
  |none=>cases a<;>cases b<;>rfl
 |_=>rfl):P:=t
theorem U102(t:P:=by
 rw[<-hw]
 exact Xs (s:=s) (F:=[]) hg▸rf):P:=t
theorem U103(t:P:=by
 have hm:=yK (h:=s.h) (l:=bf d.o.op (aQ (aK s.tm d.reads).ag))
 simp only[bC,aPF hc,Bool.and_self,cond_true, *]
 simp[seen] at hr
 rw[hr]
 simp only[Dg hc,cond_false,Xa hc,List.isEmpty_nil,hm]
 exact U63):P:=t
theorem U104(t:P:=by
 have e:((aJ s.h []).alloc (.cells cs J)).get s.h.next=Z (.cells cs J):=by
  rw[AH.aS]
  exact if_pos rfl
 show(⟨s.h.next+1,cx ((aJ s.h []).alloc (.cells cs J)) s.h.next (s.h.next+1-s.h.next) s.h.tr⟩:AH)=_
 rw[Nat.add_sub_cancel_left]
 simp[cx,e]
 rfl):P:=t
theorem U105(t:P:=by
 have hb0:below s.h.next []=J:=rfl
 simp only[bC,aw,jL,fG,List.all_nil,Bool.and_self,cond_true,aL,Option.bind_some,dm,cond_false,cZ,List.isEmpty_nil, *]
 rfl):P:=t
theorem U106(t:P:=by
 cases hd:d.o.dst with
 |none=>rw[hd] at b;exact b
 |some t=>rw[hd] at b;exact b):P:=t
theorem U107(t:P:=by
 cases h1:b9 seen c with
 |true=>
  have h2:b9 (b::seen) c=J:=by simp_all [aOJ]
  grind
 |false=>
  grind):P:=t
theorem U108(t:P:=by
 obtain⟨p,hp',rfl⟩:=List.mem_map.1 hc
 exact(hp p hp').1):P:=t
theorem U109(t:P:=by
 simp[List.mem_nil_iff] at hv
 rcases hv with rfl|rfl|rfl|rfl<;>grind [aj.val,aj.kids]):P:=t
theorem U110(t:P:=by
 have hl:=of_decide_eq_true (Ze e)
 exact⟨om,om,λ_=>by omega,λq=>by omega,λq=>by omega⟩):P:=t
theorem U111(t:P:=by
 have hl:=of_decide_eq_true (Ze e)
 exact⟨om,om,λq=>by omega,λq=>by omega,λq=>by omega⟩):P:=t
theorem U112(t:P:=by
 refine⟨_,hc,λ_ done hdl hdm=>?_⟩
 refine aEV (hK:=hK) (C:=C) (k:=k) (lo:=lo) (v:=v) (w:=q'.av) (cs:=cs) (new:=q'.cells) (X:=X) (aB:=[]) hr hC hlo hg hX iX rfl ?_ ?_ rfl q'.leaves q'.ah q'.len rfl ?_ (lR om de) (λj hj=>?_) de de de de ?_
 ·simp[V]
 ·simp[V]
 ·simp[V,h3]
 ·grind
 intro h' v' x y u r2 g2 n2 o2
 refine⟨rfl,⟨v',r2,g2⟩,n2,o2,rfl,λi hi=>?_⟩
 simp[St.put,St.fV,St.eval_toH]
 grind):P:=t
theorem U113(t:P:=by
 have:w.l[i]? =Z q:=by
  have:=List.getElem?_drop (xs:=w.l) (i:=i) (j:=0)
  grind
 simp_all [dx]):P:=t
theorem U114(t:P:=by
 refine⟨_,wJ,?_⟩
 simp only[V,me nf,pv nf]
 refine⟨_,sR p hb fPr,?_⟩
 grind):P:=t
theorem U115(t:P:=by
 rw[cl] at hc
 rcases List.mem_cons.1 hc with rfl|hc
 ·exact aj.val _
 ·exact q.leaves c hc):P:=t
theorem U116(t:P:=by
 intro rec v' h2 r2 n2 o2
 simp only[V] at n2 o2
 refine xH (hK _ ?_)
 simp only[V,↓reduceIte]
 refine⟨⟨v',rfl,r2⟩,om,λy y1 y2=>?_,λj hj hj2=>?_⟩
 ·grind
 ·repeat rw[if_neg om]):P:=t
theorem U117(t:P:=by
 rintro e s1 ⟨rfl,d1,v1,e5,r1⟩
 rw[List.nil_append] at r1
 simp only[V,WB, *]
 refine⟨_,rfl,1,de,?_⟩
 have:=r1.rep
 rw[show(⟨dD F z.l H.hs.l 0,ai,Y⟩:Vl So).A So.cells=fE H.hs.l.length ((dD F z.l H.hs.l 0).flatMap So.cells) from(uQ (uw _ _ _ _)).symm]
 exact this):P:=t
theorem U118(t:P:=by
 obtain⟨l,nl,cap⟩:=G k
 simp only[Vl.A,cV]
 cases nl.isSome&&Nat.beq l.length 0<;>rfl):P:=t
theorem U119(t:P:=by
 have h2:w.l[i]? =Z k:=by
  have:=List.getElem?_drop (xs:=w.l) (i:=i) (j:=0)
  grind
 rw[List.take_succ,h2,List.map_append,List.flatMap_append]
 rfl):P:=t
theorem U120(t:P:=by
 rintro e s1 ⟨rfl,d1,v1,e5,r1⟩
 simp only[V,WB, *]
 refine⟨_,rfl,1,de,?_⟩
 have:=r1.rep
 rw[show(⟨H.hs.l.map G,ai,Y⟩:Vl (Vl Pr)).A lsA=fE H.hs.l.length ((H.hs.l.map G).flatMap lsA) from(uQ (List.length_map _)).symm]
 exact this):P:=t
theorem U121(t:P:=by
 refine(Cs x hx hN (lo:=lo) r (i+1) _ v out (ba hd) om ?_ ?_ hs hl1 ?_ ?_ ?_ ?_).mono ?_
 all_goals try simp only[V,↓reduceIte,rA,h5,h7,hf]
 ·exact hr
 ·grind
 rintro e s2 ⟨rfl,d2,e2,n2,o2,q2,l2,t2⟩
 refine⟨rfl,d2,e2,n2,o2,q2,l2,λj hj hj2=>?_⟩
 rw[t2 j hj hj2]
 try simp only[V,↓reduceIte,rA,rB,rC,reduceCtorEq,rD,rE,rF]
 repeat rw[if_neg om]):P:=t
theorem U122(t:P:=by
 rintro e s1 ⟨rfl,d1,v1,e5,r1⟩
 simp only[V,WB, *]
 refine⟨_,rfl,1,de,?_⟩
 have:=r1.rep
 rw[show(⟨gh G [] w.l,ai,Y⟩:Vl Pr).A Pr.cells=fE (gh G [] w.l).length (Pr.aG (gh G [] w.l)) from by rw[Pr.bG];rfl]
 exact Rep.to (Nat.zero_le _) (Nat.le_refl _) (λb _ _ cs rw g=>⟨rw,g⟩) (Nat.le_refl _) this):P:=t
theorem U123(t:P:=by
 rw[o3 x hx]
 try simp only[V,↓reduceIte,rA,rB,rC,reduceCtorEq,rD,rE,rF]
 rw[o2 x om (λhv=>by have:=(hr.ids x hv).1;omega)]
 grind):P:=t
theorem U124(t:P:=by
 refine skip _ Gr ?_ ?_ ?_ ?_ ?_ ?_ ?_
 all_goals simp only[V,↓reduceIte,rA,h2,h3,h4,h10,hf]):P:=t
theorem U125(t:P:=by
 refine skip _ Gr ?_ ?_ ?_ ?_ ?_ ?_ ?_ ?_ ?_
 all_goals simp only[V,↓reduceIte,rA,reduceCtorEq,h0,h1,h3,h4,h5,h6,hf]):P:=t
theorem U126(t:P:=by
 refine⟨⟨_,rfl⟩,λj hj=>?_⟩
 repeat rw[if_neg om]):P:=t
theorem U127(t:P:=by
 rw[o2 z om (λq=>by have:=(rv.ids z q).1;omega)]
 grind):P:=t
theorem U128(t:P:=by
 have kO:=bz rv2.x.nice
 have kc:∀o,aN h2 (Z (.ptr 3 o))=J:=λo=>rg om gg3 (tn (vt rv.x rfl) om)
 simp-implicitDefEqProofs only[X0,X1,X3,X4,V,↓reduceIte,rA,WF,e6,gg3,kc]
 refine⟨_,⟨?_,?_,nt2.put,?_,?_,?_,lA,?_,?_,?_,?_,?_,?_,?_⟩⟩
 all_goals try simp-implicitDefEqProofs only[V,↓reduceIte,rA,reduceCtorEq,e2,e3,e4,e6,e7,e8,hf]
 ·exact U44
 ·omega
 ·grind
 ·grind
 grind):P:=t
theorem U129(t:P:=by
 simp only[Vo,f134,V,seval, *]
 exact⟨_,rfl,_,0,de,Rep.leaf (aj.val _),_,rfl⟩):P:=t
theorem U130(t:P:=by
 simp only[Tk,f99,V,WF,ac hck',sW,seval, *]
 exact fin _ _ _):P:=t
theorem U131(t:P:=by
 simp[V,aVD, *]
 refine pb rfl ?_
 simp only[aVB,X0,X1,X2,X3,X4,V,WF,c0,c1,sW,an ix,ge ix,H0,H1,k0,k1,w1,hq,ee hdv',an y.ah,hz0,hd,seval]
 exact⟨_,by rw[cf y.len];rfl,aSU y _ hy⟩):P:=t
theorem U132(t:P:=by
 rintro e s1 ⟨rfl,d1,acc,e3,ha⟩
 simp only[V,WF,e3,d1,ub (show acc.size+(⟨#[41]⟩:ByteArray).size<=2^60 by omega)]
 exact⟨_,rfl,_,0,de,Rep.leaf (aj.val _),_,rfl,by grind [tD]⟩):P:=t
theorem U133(t:P:=by
 simp only[aVF,f98,V,WF,seval, *]
 exact⟨_,rfl,2,de,Rz (lo:=0) (l:=[]) aV.nil rfl⟩):P:=t
theorem U134(t:P:=by
 rw[Pr.bS]
 show _=[AV.val (.int .i64 o),.val (.string ⟨#[]⟩),.val (.int .i64 0),cV (Pr.aG w.l) w.l.length w.nl w.cap]
 rw[Pr.bG]
 rfl):P:=t
theorem U135(t:P:=by
 rcases hy with q|rfl|q
 ·exact q
 ·exact lt
 ·exact U48):P:=t
theorem U136(t:P:=by
 rw[lA,Er,Option.bind_some,cf (Pr.len _)]
 rfl):P:=t
theorem U137(t:P:=by
 obtain⟨q1,q2⟩:=nA (h.next+1) om om
 rw[s2.fr _ om q1 q2,H1]):P:=t
theorem U138(t:P:=by
 have hle:Nat.ble (i*4) (Pr.aG bs).length=J:=Nat.ble_eq.mpr Gr
 simp[cfB,hle,uZ,hd,Pr.aG]):P:=t
theorem U139(t:P:=by
 rintro e1 s2 ⟨q1,q2,rfl,q4,q5⟩
 refine⟨q1,q2,rfl,q4,λj hj=>?_⟩
 rw[q5 j hj]
 try simp only[V,↓reduceIte,rA,rB,rC,reduceCtorEq,rD,rE,rF]
 repeat rw[if_neg om]):P:=t
theorem U140(t:P:=by
 simp only[Pf,V,WF,ac hc,seval, *]
 exact .inr ⟨rfl,by simp[V,hf],by simp[V]⟩):P:=t
theorem U141(t:P:=by
 rw[a.at] at hy
 rcases List.mem_append.1 hy with q|q
 ·unfold aq;rw[(a.rF.ids y q).2.2];exact rX a.rF.1
 ·unfold aq;rw[(a.rB.ids y q).2.2];exact rX a.rB.1):P:=t
theorem U142(t:P:=by
 refine gt (by simp[V];exact rc) ?_
 simp only[V,WF,g1,hd,seval]
 exact fin _ q fs1 bs1 lA (sH.w r1 om) r2 kB1 om lb1 om):P:=t
theorem U143(t:P:=by
 refine(aFV p (BH _ ?_ ?_ ?_) ?_ hk).mono ?_
 all_goals try simp only[V,↓reduceIte,rA,reduceCtorEq,h0]
 rintro e' s2 ⟨rfl,x1,⟨q,fs',bs',g1,w1,k1,kB1,f1,b1,nq⟩,ev⟩
 simp[V,hd] at x1 w1
 have e4:s2.eval (.t 4)=Z (.ptr (h.next+1) 0):=by rw[ev 4 de];simp[V]
 simp only[V,x1,e4]
 exact fin _ q fs' bs' g1 (sH.w w1 om) k1 kB1 f1 b1 om):P:=t
theorem U144(t:P:=by
 rintro e' s2 ⟨rfl,x1,⟨q,fs',bs',g1,w1,k1,kB1,f1,b1,nq⟩,ev⟩
 simp[V,hd] at x1 w1
 have e4:s2.eval (.t 4)=Z (.ptr (h.next+1) 0):=by rw[ev 4 de];simp[V]
 simp only[V,x1,e4]
 exact fin _ q fs' bs' g1 (sH.w w1 om) k1 kB1 f1 b1 om):P:=t
theorem U145(t:P:=by
 rintro e' s2 ⟨rfl,H2,ev,o3,same',v',m',e10,e11,r3,l3,n3,f3⟩
 refine⟨rfl,H2,λj hj=>?_,λy hy=>?_,same',v',m',e10,e11,r3,l3,?_,f3⟩
 ·rw[ev j hj]
  repeat rw[if_neg om]
 ·grind
 ·rw[tz,hq.nodes] at n3
  grind [Pr.aI]):P:=t
theorem U146(t:P:=by
 refine next _ out vo ⟨?_,?_,?_,?_,?_,?_,?_⟩ ?_ ?_ ?_
 all_goals try simp only[V,↓reduceIte,rA,u1,u2,u5,u6,hf]
 ·exact Gt
 ·omega
 ·grind
 grind):P:=t
theorem U147(t:P:=by
 obtain⟨a0,a1,a2,a3,e⟩:∃x y z w,q.cells=[x,y,z,w]:=by
  rw[Pr.bS]
  grind
 rw[e]
 rfl):P:=t
theorem U148(t:P:=by
 obtain⟨a,b,c,d,e⟩:∃a b c d,(bw out).cells=[a,b,c,d]:=by
  rw[Pr.bS]
  grind
 rw[e]
 rfl):P:=t
theorem U149(t:P:=by
 refine(Oz (H:=H) (L:=L) (S:=S) R b hF hS hs r (i+1) _ (ba hd) om ⟨?_,?_,?_,?_,?_⟩ ?_ ?_ ?_ ?_).mono ?_
 all_goals try simp only[V,↓reduceIte,rA,y1,y2,y9,y91,y92,d2,n00,G0]
 ·omega
 grind):P:=t
theorem U150(t:P:=by
 simp only[aIZ,f4,V,seval, *]
 exact no _):P:=t
theorem U151(t:P:=by
 simp only[List.map_cons,List.map_nil,cK,jU]
 omega):P:=t
theorem U152(t:P:=by
 have hr:=vz (call:=bY E (exec E n)) (xL hc ho).2
 have hk:fG s.h (bf d.o.op (aQ (aK s.tm d.reads).ag))=J:=by
  unfold bf
  cases dF d.o.op with
  |true=>exact n2
  |false=>rfl
 have hw':aw {tm:=aK s.tm d.reads,h:=s.h,defers:=[],round:=s.round} d.o.guard=Z J:=by
  exact U102
 have hb:Nat.ble s.h.next s.h.next=J:=Sp
 exact U103):P:=t
theorem U153(t:P:=by
 refine Qw (m:=1) (lo:=lo) (k:=n) (v:=v) (x:=.own s.h.next 0 1 5 (Z 1)) (cs:=cs) (new:=So.cells ⟨k.nm,q⟩) ?_ ?_ ?_ (by rw[ll]) lf (lR om de) ?_ ?_ ?_ ?_
 ·simp only[V]
  exact hr.to (Nat.le_succ _) λy _ y2=>am y2
 ·exact U31
 ·exact U35
 ·exact U36
 ·exact U29
 ·exact U33
 exact U116):P:=t
theorem U154(t:P:=by
 intro h2 rv2 n2 o2 t2 gn2
 simp-implicitDefEqProofs only[V] at rv2 n2 o2 t2 gn2
 have nt2:=t2 nt.alloc
 have fr:∀z,z<4->h2.get z=s.h.get z:=λz hz=>by
  exact U127
 have gg3:h2.get 3=Z (.cells [v,.val (.int .i64 k)] J):=Gr
 exact U128):P:=t
theorem U155(t:P:=by
 exact⟨_,_,_,pk _ _ _,rfl⟩):P:=t
theorem U156(t:P:=by
 exact⟨rfl,goInt n,by simp_all [Builtin.len_,run_underlying],by simp[Rel,goInt,Value.oneCell']⟩):P:=t
theorem U157(t:P:=by
 exact⟨rfl,goInt 0,by simp_all [Builtin.cap_,run_underlying],by simp[Rel,goInt,Value.oneCell']⟩):P:=t
theorem U158(t:P:=by
 exact⟨rfl,goInt c,by simp_all [Builtin.cap_,run_underlying],by simp[Rel,goInt,Value.oneCell']⟩):P:=t
theorem U159(t:P:=by
 show Nat.beq 0 0=J;exact rfl):P:=t
theorem U160(t:P:=by
 show (#[Value.slice A sLen sCap,X]:Array Value)[0]? =Z (.slice A sLen sCap);exact rfl):P:=t
theorem U161(t:P:=by
 show (#[Value.slice A sLen sCap,X]:Array Value)[1]? =Z X;exact rfl):P:=t
theorem U162(t:P:=by
 exact⟨B',O',R',by grind [s8],hB',hs',hr'.le hle (λ_ _ e=>e)⟩):P:=t
theorem U163(t:P:=by
 exact r.apart b1 b2 B1 O1 R1 B2 O2 R2 hne g1 g2 hf1 hf2):P:=t
theorem U164(t:P:=by
 exact⟨rfl,rfl,_,w,xQ r hT (.inr rfl) ry el hn hle,s6 r rx⟩):P:=t
theorem U165(t:P:=by
 show (k+n)*es=k*es+n*es;exact Gr):P:=t
theorem U166(t:P:=by
 show (getObj B).run P w=.ok (.map arr clock) w;simp[getObj,Sem.run,hh]):P:=t
theorem U167(t:P:=by
 show ∀o',(Go.setObj B o').run P w=.ok () {w with heap:=w.heap.setIfInBounds B o'};grind [Go.setObj,Sem.run]):P:=t
theorem U168(t:P:=by
 exact aCA P M ops o):P:=t
theorem U169(t:P:=by
 show ∀{B O R},B<w.heap.size->fX w w' B O R;exact λhB=>lx (hb.block _ hB)):P:=t
theorem U170(t:P:=by
 show ∀b o v,S b o=Z v->S2 b o=Z v;exact λb o v hv=>by simp only[S2,hv,Option.isSome_some,if_true]):P:=t
theorem U171(t:P:=by
 show ∀b,(hin.get b).isSome=J->b∈F/\(h.get b).isSome=J;exact Gr):P:=t
theorem U172(t:P:=by
 show ∀b x,oM f hin.next b=Z x->f b=Z x;grind [oM]):P:=t
theorem U173(t:P:=by
 exact List.mem_cons.1 hp):P:=t
theorem U174(t:P:=by
 show fp E n=fY E n;exact funext λc=>funext λs=>aZC E n c s):P:=t
theorem U175(t:P:=by
 show execK E n=fp E n;exact funext λc=>funext λs=>aZB E n c s):P:=t
theorem U176(t:P:=by
 exact⟨e,s',(x.mono λn p=>by grind [exec]:Ev λn=>exec E (n+1) (.cond c a b) s=Z (e,s')).step,y⟩):P:=t
theorem U177(t:P:=by
 exact λ_ _=>rfl):P:=t
theorem U178(t:P:=by
 show (h.put b (Z (.cells cs U))).get b=Z (.cells cs U);rw[AH.aO,if_pos rfl]):P:=t
theorem U179(t:P:=by
 show Nat.ble (0+k*es) cs.length=J;exact Sa):P:=t
theorem U180(t:P:=by
 show l.foldl (λh v=>freeze aU v h) h=h;exact sm hl):P:=t
theorem U181(t:P:=by
 exact aj.val _):P:=t
theorem U182(t:P:=by
 show ∀i∈fr,i<done.length;exact Sa):P:=t
theorem U183(t:P:=by
 exact Rep.leaf (aj.val _)):P:=t
theorem U184(t:P:=by
 show Nat.beq es es=J;exact Sp):P:=t
theorem U185(t:P:=by
 show Nat.ble s.h.next ((aJ s.h []).alloc (.cells cs J)).next=J;exact Nat.ble_eq.mpr (Nat.le_succ _)):P:=t
theorem U186(t:P:=by
 show fD E (bh E (exec E n)) g (xs++a'::ys) h1=Z (t,h1);exact p):P:=t
theorem U187(t:P:=by
 show (cs.drop 0).take (k*es)=cs;exact Gr):P:=t
theorem U188(t:P:=by
 show ∀{b:Bool} {x y:Option (AV×oN)},(bif b then x else y)=Z (v,c)->x=Z (v,c)\/y=Z (v,c);exact Gr):P:=t
theorem U189(t:P:=by
 show ∀{b:Bool} {x:Option (AV×oN)},(bif b then x else Y)=Z (v,c)->x=Z (v,c);exact Gr):P:=t
theorem U190(t:P:=by
 show Nat.blt b h.next=J;exact Sa):P:=t
theorem U191(t:P:=by
 exact nt b x t n e):P:=t
theorem U192(t:P:=by
 show Nat.beq l.length n=J;exact Sa):P:=t
theorem U193(t:P:=by
 show decide (((p.ks.length:Nat):Int)<(p.ks.length:Nat))=U;exact Sp):P:=t
theorem U194(t:P:=by
 show decide ((i:Int)<(p.ks.length:Nat))=J;exact Gr):P:=t
theorem U195(t:P:=by
 show p.ks.drop (i+1)=r;rw[<-List.drop_drop,hd];rfl):P:=t
theorem U196(t:P:=by
 show IntKind.i64.wrap ((i:Int)+1)=((i+1:Nat):Int);grind [sP]):P:=t
theorem U197(t:P:=by
 show 1+Pr.aI ks<2^61;exact hb):P:=t
theorem U198(t:P:=by
 show ks.length<=Pr.aI ks;exact rl ks):P:=t
theorem U199(t:P:=by
 show (bg [(Pr.mk o nm n ks nl cap).av] 0 .nil).get 0=Z (Pr.mk o nm n ks nl cap).av;exact rfl):P:=t
theorem U200(t:P:=by
 show a.nodes+Pr.aI r<2^61;exact hb):P:=t
theorem U201(t:P:=by
 exact List.mem_cons.1 hk):P:=t
theorem U202(t:P:=by
 show Pr.dU (k::r)=max k.depth (Pr.dU r);exact rfl):P:=t
theorem U203(t:P:=by
 exact tri 2 ((p.ks.length:Nat):Int)):P:=t
theorem U204(t:P:=by
 show IntKind.i64.wrap ((i:Int)+1)=((i+1:Nat):Int);exact sP (n:=i+1) om):P:=t
theorem U205(t:P:=by
 show decide ((i:Int)<(b.size:Nat))=J;exact Gr):P:=t
theorem U206(t:P:=by
 show ∃B,(decide (97<=((c.toNat:Nat):Int))&&decide (((c.toNat:Nat):Int)<=122))=B;exact ⟨_,rfl⟩):P:=t
theorem U207(t:P:=by
 show ∃B,decide (((c.toNat:Nat):Int)=95)=B;exact ⟨_,rfl⟩):P:=t
theorem U208(t:P:=by
 show ∃B,(decide (48<=((c.toNat:Nat):Int))&&decide (((c.toNat:Nat):Int)<=57))=B;exact ⟨_,rfl⟩):P:=t
theorem U209(t:P:=by
 show ∃B,(decide (65<=((c.toNat:Nat):Int))&&decide (((c.toNat:Nat):Int)<=90))=B;exact ⟨_,rfl⟩):P:=t
theorem U210(t:P:=by
 show decide (((b.size:Nat):Int)<1)=U;exact Gr):P:=t
theorem U211(t:P:=by
 show decide (1<=((b.size:Nat):Int))=J;exact Gr):P:=t
theorem U212(t:P:=by
 show ∃B,decide (24<((b.size:Nat):Int))=B;exact ⟨_,rfl⟩):P:=t
theorem U213(t:P:=by
 show decide (((b.size:Nat):Int)<=24)= !B0;exact Gr):P:=t
theorem U214(t:P:=by
 show decide (((b.size:Nat):Int)<1)=J;grind):P:=t
theorem U215(t:P:=by
 show decide (1<=((b.size:Nat):Int))=U;exact Gr):P:=t
theorem U216(t:P:=by
 show cW ((strs l).length+1) 16=J;grind [bVW,yh]):P:=t
theorem U217(t:P:=by
 show decide ((i:Int)<(l.length:Nat))=J;exact Gr):P:=t
theorem U218(t:P:=by
 show ∃B,aP p.nm ⟨#[118]⟩=B;exact ⟨_,rfl⟩):P:=t
theorem U219(t:P:=by
 show ∃B,aP p.nm ⟨#[116,97,103]⟩=B;exact ⟨_,rfl⟩):P:=t
theorem U220(t:P:=by
 show ∃B,aP p.nm ⟨#[118,97,108]⟩=B;exact ⟨_,rfl⟩):P:=t
theorem U221(t:P:=by
 show ∃B,decide (jC p.nm=0)=B;exact ⟨_,rfl⟩):P:=t
theorem U222(t:P:=by
 show ∃B,aP p.nm ⟨#[]⟩=B;exact ⟨_,rfl⟩):P:=t
theorem U223(t:P:=by
 show ∃B,decide (p.n=0)=B;exact ⟨_,rfl⟩):P:=t
theorem U224(t:P:=by
 show ∃L,(L1||L2)=L;exact ⟨_,rfl⟩):P:=t
theorem U225(t:P:=by
 show ∃B,decide (((p.ks.length:Nat):Int)<1)=B;exact ⟨_,rfl⟩):P:=t
theorem U226(t:P:=by
 show ∃B,decide ((24:Int)<((p.ks.length:Nat):Int))=B;exact ⟨_,rfl⟩):P:=t
theorem U227(t:P:=by
 show decide (p.op=1)=U;exact Gr):P:=t
theorem U228(t:P:=by
 show decide (p.op=2)=U;exact Gr):P:=t
theorem U229(t:P:=by
 show C<s.h.next;exact om):P:=t
theorem U230(t:P:=by
 show ∀o,bp s.h (Z (.ptr C o))=J;grind [ve]):P:=t
theorem U231(t:P:=by
 show ∀o,bp s.h (Z (.ptr B o))=J;exact λo=>ve hB gB (by rw[q.bM];rfl)):P:=t
theorem U232(t:P:=by
 show ∀o,eZ [C,B] (Z (.ptr C o))=J;simp[yv,b9]):P:=t
theorem U233(t:P:=by
 show ∀o,eZ [C,B] (Z (.ptr B o))=J;simp[yv,b9]):P:=t
theorem U234(t:P:=by
 show decide (((l.length:Nat):Int)<(l.length:Nat))=U;exact Sp):P:=t
theorem U235(t:P:=by
 exact Lb (eJ hs) (vH hs _) hl hrun hr (Nat.lt_trans hn de) h):P:=t
theorem U236(t:P:=by
 exact Rz (lo:=3) (r1.to (Nat.le_refl _) λx x1 x2=>bc om) (List.length_map _)):P:=t
theorem U237(t:P:=by
 show 1+Pr.aI ks<2^29;exact hb):P:=t
theorem U238(t:P:=by
 show p.nodes+Pr.aI r<2^29;exact hb):P:=t
theorem U239(t:P:=by
 show ∃q r,w.l.drop i=q::r;exact ⟨w.l[i],w.l.drop (i+1),List.drop_eq_getElem_cons hi⟩):P:=t
theorem U240(t:P:=by
 show decide (((p.ks.length:Nat):Int)=(q.ks.length:Nat))=J;grind):P:=t
theorem U241(t:P:=by
 show decide (((p.ks.length:Nat):Int)=(q.ks.length:Nat))=U;grind):P:=t
theorem U242(t:P:=by
 show p.nodes+Pr.aI r<2^61;exact hb):P:=t
theorem U243(t:P:=by
 exact⟨_,rfl,1,de,sJ tPr.leaves⟩):P:=t
theorem U244(t:P:=by
 exact⟨_,rfl,1,de,sJ fPr.leaves⟩):P:=t
theorem U245(t:P:=by
 show ∀o,bp s.h (Z (.ptr B o))=J;exact λo=>ve hB g (by rw[p.bM];rfl)):P:=t
theorem U246(t:P:=by
 show ∀o,eZ [B] (Z (.ptr B o))=J;simp[yv,b9]):P:=t
theorem U247(t:P:=by
 show ids (AV.agg [.val (.int .i64 0),.val (.string ⟨#[]⟩),.val (.int .i64 0),.val (.slice Y 0 0)])=[];exact rfl):P:=t
theorem U248(t:P:=by
 show ∀b,ids (AV.val (.bool b))=[];exact λ_=>rfl):P:=t
theorem U249(t:P:=by
 show ∀b,ids (AV.val b)=[];exact λ_=>rfl):P:=t
theorem U250(t:P:=by
 show ∀o,eZ [0,1] (Z (.ptr 0 o))=J;simp[yv,b9]):P:=t
theorem U251(t:P:=by
 show ∀o,eZ [0,1] (Z (.ptr 1 o))=J;simp[yv,b9]):P:=t
theorem U252(t:P:=by
 show (0=s.h.next)=False;exact Gr):P:=t
theorem U253(t:P:=by
 show (⟨#[73,110,116]⟩:ByteArray)=jE;exact rfl):P:=t
theorem U254(t:P:=by
 show (⟨#[66,111,111,108]⟩:ByteArray)=dS;exact rfl):P:=t
theorem U255(t:P:=by
 show ids p.kids=[];cases p;exact vk):P:=t
theorem U256(t:P:=by
 show ∀o,bp s.h (Z (.ptr C o))=J;exact λo=>ve hC gC (by rw[p.bM];rfl)):P:=t
theorem U257(t:P:=by
 show ids fPr.av=[];exact fPr.ah):P:=t
theorem U258(t:P:=by
 show (ps.map (·.1)).length=4;exact Gr):P:=t
theorem U259(t:P:=by
 show s1.h.get s.h.next=Z (.cells p.cells J);grind [lA]):P:=t
theorem U260(t:P:=by
 show ([AV.val (.int .i64 0),.val (.string ⟨#[]⟩),.val (.int .i64 0),.val (.slice Y 0 0)]).length=4;exact rfl):P:=t
theorem U261(t:P:=by
 show ∀o,bp s.h (Z (.ptr B o))=J;exact λo=>ve hB gB (by simp only[Ho.cells,aQ,ids,Vl.ids,List.append_nil];rfl)):P:=t
theorem U262(t:P:=by
 show ∀n,ids (AV.val (.int .i64 n))=[];exact λ_=>rfl):P:=t
theorem U263(t:P:=by
 show So.cells ⟨k.nm,q⟩=.val (.string k.nm)::q.cells;exact rfl):P:=t
theorem U264(t:P:=by
 show ids (AV.agg (So.cells ⟨k.nm,q⟩))=[];rw[cl];simp only[ids,aQ,q.bM,List.append_nil]):P:=t
theorem U265(t:P:=by
 show (So.cells ⟨k.nm,q⟩).length=5;rw[cl,List.length_cons,q.len]):P:=t
theorem U266(t:P:=by
 show s1.eval (.t 1)=Z (z.A lsA);rw[k1 1 de de];simp only[V,↓reduceIte,rA,h1]):P:=t
theorem U267(t:P:=by
 show s1.eval (.t 9)=Z (w.A Ho.cells);rw[k1 9 de de];simp only[V,↓reduceIte,rA,h9]):P:=t
theorem U268(t:P:=by
 show s1.eval (.t 10)=Z (.val (.int .i64 (w.l.length:Nat)));rw[k1 10 de de];simp only[V,↓reduceIte,rA,h10]):P:=t
theorem U269(t:P:=by
 show s1.eval (.t 11)=Z (.val (.int .i64 (i:Nat)));rw[k1 11 de de];simp only[V,↓reduceIte,rA,h11]):P:=t
theorem U270(t:P:=by
 show ∀l,bp s.h (Z (AV.bD l))=J;exact λ_=>tC):P:=t
theorem U271(t:P:=by
 show s1.eval (.t 12)=Z (.val (.int .i64 (w.l.length:Nat)));rw[kk 12 de];simp[V,h12]):P:=t
theorem U272(t:P:=by
 show s1.eval (.t 13)=Z (.val (.int .i64 (i:Nat)));rw[kk 13 de];simp[V,h13]):P:=t
theorem U273(t:P:=by
 show ∀o,eZ [0] (Z (.ptr 0 o))=J;simp[yv,b9]):P:=t
theorem U274(t:P:=by
 show takeN (Z 2) k.cells=Z (.agg k.cells);rfl):P:=t
theorem U275(t:P:=by
 show s2.eval (.t 6)=Z (.val (.int .i64 (i:Nat)));exact Gr):P:=t
theorem U276(t:P:=by
 show aX 1 (w.A iU) i=Z (.bD (.val (.int .i64 (a:Nat))::r.flatMap iU));exact w.at Ip hd):P:=t
theorem U277(t:P:=by
 exact⟨_,rfl,1,de,sJ (Pr.mk p.op p.nm p.n (p.ks.map F) ai Y).leaves⟩):P:=t
theorem U278(t:P:=by
 show cfB (Z (.cells q.cells J)) 1=Z (q.vs.A Vr.cells::q.bd.cells);exact rfl):P:=t
theorem U279(t:P:=by
 show cfB (Z (.cells k.cells J)) 1=Z [k.ps.A Vr.cells];exact rfl):P:=t
theorem U280(t:P:=by
 show aX 2 (k.ps.A Vr.cells) i=Z (.bD (x.cells++r.flatMap Vr.cells));exact k.ps.at Vr.len hd):P:=t
theorem U281(t:P:=by
 show ∀o,aN s.h (Z (.ptr 0 o))=J;exact λo=>bm om g0 q.bM):P:=t
theorem U282(t:P:=by
 show takeN (Z 6) q.cells=Z (.agg q.cells);exact cf q.len):P:=t
theorem U283(t:P:=by
 show cfB (Z (.cells q.cells J)) 2=Z q.bd.cells;exact rfl):P:=t
theorem U284(t:P:=by
 show ∀o,aN ((AH.empty.alloc (.cells q.cells J)).alloc (.cells k.cells J)) (Z (.ptr 0 o))=J;exact λo=>Ea (Ck (h:=.empty) (o:=o) q.bM)):P:=t
theorem U285(t:P:=by
 show ∀o,aN ((AH.empty.alloc (.cells q.cells J)).alloc (.cells k.cells J)) (Z (.ptr 1 o))=J;exact λo=>Ck (h:=AH.empty.alloc (.cells q.cells J)) (o:=o) k.ah):P:=t
theorem U286(t:P:=by
 exact⟨_,rfl,0,de,Rep.leaf (aj.val _)⟩):P:=t
theorem U287(t:P:=by
 show decide (((q.vs.l.length:Nat):Int)=0)=U;exact Gr):P:=t
theorem U288(t:P:=by
 show aX 2 (q.vs.A Vr.cells) 0=Z (.bD (u.cells++us.flatMap Vr.cells));exact q.vs.at Vr.len Gr):P:=t
theorem U289(t:P:=by
 show decide (((k.ps.l.length:Nat):Int)=0)=U;exact Gr):P:=t
theorem U290(t:P:=by
 show aX 2 (k.ps.A Vr.cells) 0=Z (.bD (y.cells++ys.flatMap Vr.cells));exact k.ps.at Vr.len Gr):P:=t
theorem U291(t:P:=by
 exact List.mem_append.1 hx):P:=t
theorem U292(t:P:=by
 exact List.mem_append.1 hc):P:=t
theorem U293(t:P:=by
 show ∀c∈Pr.aG (pvs k l)++cs,aj c;grind [sO]):P:=t
theorem U294(t:P:=by
 exact⟨_,rfl,_,rfl,0,de,Rep.leaf (aj.val _)⟩):P:=t
theorem U295(t:P:=by
 show takeN (Z 4) p.cells=Z p.av;exact cf p.len):P:=t
theorem U296(t:P:=by
 exact hr.to (Nat.le_succ _) λy _ y2=>by grind [bc,am]):P:=t
theorem U297(t:P:=by
 show ¬0=s.h.next;exact om):P:=t
theorem U298(t:P:=by
 show Pr.aI (p::r)=p.nodes+Pr.aI r;exact rfl):P:=t
theorem U299(t:P:=by
 show (Pr.mk o s n ks a b).nodes=1+Pr.aI ks;exact rfl):P:=t
theorem U300(t:P:=by
 show Pr.aI (k::r)=k.nodes+Pr.aI r;exact rfl):P:=t
theorem U301(t:P:=by
 show cfB (Z (.cells x.cells J)) 0=Z [x.ts.A Tm.cells,.val (.int .i64 x.k)];exact rfl):P:=t
theorem U302(t:P:=by
 show aX 2 (x.ts.A Tm.cells) i=Z (.bD (.val (.string y.nm):: .val (.int .i64 y.c)::r.flatMap Tm.cells));exact x.ts.at Tm.len hd):P:=t
theorem U303(t:P:=by
 show cfB (Z (.cells x.cells J)) 1=Z [.val (.int .i64 x.k)];exact rfl):P:=t
theorem U304(t:P:=by
 show bu 1 (.bD (.val (.string y.nm):: .val (.int .i64 y.c)::r.flatMap Tm.cells))=Z (.bD (.val (.int .i64 y.c)::r.flatMap Tm.cells));exact rfl):P:=t
theorem U305(t:P:=by
 show ∀o,aN s.h (Z (.ptr 0 o))=J;exact λo=>bm om g0 x.bM):P:=t
theorem U306(t:P:=by
 show ∀o,aN s.h (Z (.ptr 2 o))=J;exact λo=>rg om g2 (vt rv.x rfl)):P:=t
theorem U307(t:P:=by
 exact ak.empty.alloc.alloc.alloc.put):P:=t
theorem U308(t:P:=by
 show takeN (Z 2) x.cells=Z (.agg x.cells);rfl):P:=t
theorem U309(t:P:=by
 show ∀(h:AH) b (u w:AV),stK h b 2 0 [.val (.slice Y 0 0),.val (.int .i64 0)] (Z (.cells [u,w] J))=Z (h.put b (Z (.cells [.val (.slice Y 0 0),.val (.int .i64 0)] J)));exact λh b u w=>cy rfl rfl):P:=t
theorem U310(t:P:=by
 exact⟨_,rfl,bCE⟩):P:=t
theorem U311(t:P:=by
 show decide (z=0)=U;grind):P:=t
theorem U312(t:P:=by
 show Rep h 0 h.next 1 v (iA v out.length (out.flatMap Tm.cells));exact Rep.to (Nat.zero_le _) (Nat.le_refl _) (λb _ _ cs rw g=>⟨rw,g⟩) (Nat.le_refl _) r.rep):P:=t
theorem U313(t:P:=by
 show H.get 0=Z (.cells x.cells J);grind [AH.aS,tG]):P:=t
theorem U314(t:P:=by
 show H.get 1=Z (.cells [.val (.slice Y 0 0),.val (.int .i64 0)] J);grind [AH.aS,tG]):P:=t
theorem U315(t:P:=by
 show ∀o,aN H (Z (.ptr 0 o))=J;exact λo=>bm om H0 x.bM):P:=t
theorem U316(t:P:=by
 show ∀o,aN H (Z (.ptr 1 o))=J;exact λo=>bm om H1 rfl):P:=t
theorem U317(t:P:=by
 show cfB (Z (.cells y.cells J)) 0=Z [y.ts.A Tm.cells,.val (.int .i64 y.k)];exact rfl):P:=t
theorem U318(t:P:=by
 show ∀o,aN s.h (Z (.ptr 1 o))=J;exact λo=>bm om g1 y.bM):P:=t
theorem U319(t:P:=by
 show aX 2 (x.ts.A Tm.cells) i=Z (.bD (.val (.string a.nm):: .val (.int .i64 a.c)::ra.flatMap Tm.cells));exact x.ts.at Tm.len ha):P:=t
theorem U320(t:P:=by
 show aX 2 (y.ts.A Tm.cells) j=Z (.bD (.val (.string b.nm):: .val (.int .i64 b.c)::rb.flatMap Tm.cells));exact y.ts.at Tm.len hb):P:=t
theorem U321(t:P:=by
 show ∀(u w:AV) l,bu 1 (.bD (u::w::l))=Z (.bD (w::l));exact λ_ _ _=>rfl):P:=t
theorem U322(t:P:=by
 show ∀o,aN s.h (Z (.ptr 3 o))=J;exact λo=>rg om g3 (vt rv.x rfl)):P:=t
theorem U323(t:P:=by
 show IntKind.i64.wrap ((j:Int)+1)=((j+1:Nat):Int);exact sP (n:=j+1) om):P:=t
theorem U324(t:P:=by
 show cfB (Z (.cells y.cells J)) 1=Z [.val (.int .i64 y.k)];exact rfl):P:=t
theorem U325(t:P:=by
 show takeN (Z 2) y.cells=Z (.agg y.cells);rfl):P:=t
theorem U326(t:P:=by
 show ∀(h:AH) b (u w:AV) (q:Int),stK h b 2 0 [.val (.slice Y 0 0),.val (.int .i64 q)] (Z (.cells [u,w] J))=Z (h.put b (Z (.cells [.val (.slice Y 0 0),.val (.int .i64 q)] J)));exact λh b u w q=>cy rfl rfl):P:=t
theorem U327(t:P:=by
 show decide (((x.ts.l.length:Nat):Int)=0)=J;grind):P:=t
theorem U328(t:P:=by
 show decide (((x.ts.l.length:Nat):Int)=0)=U;grind):P:=t
theorem U329(t:P:=by
 exact fin _ _ _):P:=t
theorem U330(t:P:=by
 exact⟨_,rfl,_,0,de,Rep.leaf (aj.val _),_,rfl,by grind [tD]⟩):P:=t
theorem U331(t:P:=by
 show cfB (Z (.cells p.cells J)) 3=Z [p.kids];rw[Pr.bS];rfl):P:=t
theorem U332(t:P:=by
 show cfB (Z (.cells p.cells J)) 0=Z p.cells;rfl):P:=t
theorem U333(t:P:=by
 show cfB (Z (.cells p.cells J)) 1=Z [.val (.string p.nm),.val (.int .i64 p.n),p.kids];rw[Pr.bS];rfl):P:=t
theorem U334(t:P:=by
 show cfB (Z (.cells p.cells J)) 2=Z [.val (.int .i64 p.n),p.kids];rw[Pr.bS];rfl):P:=t
theorem U335(t:P:=by
 show takeN Y p.cells=Z (.val (.int .i64 p.op));rw[Pr.bS];rfl):P:=t
theorem U336(t:P:=by
 show decide (p.op=3)=U;exact Gr):P:=t
theorem U337(t:P:=by
 show ∀(h:AH) b (w1 w2 w3 w4 x1 x2 x3 x4:AV),stK h b 4 0 [x1,x2,x3,x4] (Z (.cells [w1,w2,w3,w4] J))=Z (h.put b (Z (.cells [x1,x2,x3,x4] J)));exact λh b _ _ _ _ _ _ _ _=>cy rfl rfl):P:=t
theorem U338(t:P:=by
 show ∀(h:AH) b (u w x y:AV),stK h b 2 0 [x,y] (Z (.cells [u,w] J))=Z (h.put b (Z (.cells [x,y] J)));exact λh b u w x y=>cy rfl rfl):P:=t
theorem U339(t:P:=by
 show H.get 1=Z (.cells [.val (.slice Y 0 0),.val (.int .i64 0)] J);grind [AH.aO,AH.aS,tG,xG]):P:=t
theorem U340(t:P:=by
 exact List.mem_append.1 hy):P:=t
theorem U341(t:P:=by
 show cfB (Z (.cells [e.vs.A Vr.cells,e.sy.A Sm.cells,e.hs.A Ho.cells,vF,vB,.val (.bool lg),.val (.bool wr)] J)) 3=Z [vF,vB,.val (.bool lg),.val (.bool wr)];exact rfl):P:=t
theorem U342(t:P:=by
 show ∀o,aN s.h (Z (.ptr b o))=J;exact λo=>a.known):P:=t
theorem U343(t:P:=by
 show ∀o,aN s.h (Z (.ptr B o))=J;grind [bm,rX]):P:=t
theorem U344(t:P:=by
 show cfB (Z (.cells x.cells J)) 0=Z x.cells;exact rfl):P:=t
theorem U345(t:P:=by
 show aQ [e.vs.A Vr.cells,e.sy.A Sm.cells,e.hs.A Ho.cells,vF,vB,.val (.bool lg),.val (.bool wr)]=ids vF++ids vB;grind [aQ,ids,Vl.ids]):P:=t
theorem U346(t:P:=by
 exact⟨_,rfl,_,⟨(fs.length:Nat),fs++[x],rfl,q1,q2,Gr,hlen,om,om,sB lA⟩,rfl⟩):P:=t
theorem U347(t:P:=by
 show ¬h.next=h.next+1;exact om):P:=t
theorem U348(t:P:=by
 show bL b h h;exact bL.refl):P:=t
theorem U349(t:P:=by
 show ∀h,aE E1 (.f 99) [.agg [x.ts.A Tm.cells,.val (.int .i64 x.k)]] h (.tup [.agg y.cells,.val (.int .i64 z)]) h;exact hfm):P:=t
theorem U350(t:P:=by
 show cfB (Z (.cells y.cells J)) 0=Z y.cells;exact rfl):P:=t
theorem U351(t:P:=by
 show ∀(h:AH) b (u w:AV),stK h b 2 0 y.cells (Z (.cells [u,w] J))=Z (h.put b (Z (.cells y.cells J)));exact λh b u w=>cy rfl y.len):P:=t
theorem U352(t:P:=by
 show ∃H,(((h.alloc (.cells x.cells J)).alloc (.cells [.val (.int .i64 0),.val (.string ⟨#[]⟩),.val (.int .i64 0),.val (.slice Y 0 0)] J)).alloc (.cells [.val (.slice Y 0 0),.val (.int .i64 0)] J)).put (h.next+2) (Z (.cells y.cells J))=H;exact ⟨_,rfl⟩):P:=t
theorem U353(t:P:=by
 show H.next=h.next+3;rw[<-hH];rfl):P:=t
theorem U354(t:P:=by
 show ak H;rw[<-hH];exact k.1.alloc.alloc.alloc.put):P:=t
theorem U355(t:P:=by
 show ∀y,y<h.next->H.get y=h.get y;exact λy hy=>by rw[<-hH,bc om,am (by show y<h.next+1+1;omega),am (by show y<h.next+1;omega),am hy]):P:=t
theorem U356(t:P:=by
 show H.get (h.next+1)=Z (.cells [.val (.int .i64 0),.val (.string ⟨#[]⟩),.val (.int .i64 0),.val (.slice Y 0 0)] J);rw[<-hH,bc om,am Sp];exact co (h:=h.alloc (.cells x.cells J))):P:=t
theorem U357(t:P:=by
 show aq H b=aq h b;grind [aq]):P:=t
theorem U358(t:P:=by
 show ∀y,h.next<=y->y<h.next+3->y≠b/\y∉aq H b;exact Gr):P:=t
theorem U359(t:P:=by
 show (((h.alloc (.cells x.cells J)).alloc (.cells [.val (.int .i64 0),.val (.string ⟨#[]⟩),.val (.int .i64 0),.val (.slice Y 0 0)] J)).alloc (.cells [.val (.slice Y 0 0),.val (.int .i64 0)] J)).put (h.next+1+1) (Z (.cells y.cells J))=H;exact hH):P:=t
theorem U360(t:P:=by
 show h3.next=h2.next+1;exact n3):P:=t
theorem U361(t:P:=by
 show ∀y,y<h2.next->h4.get y=h2.get y;grind [ids,am]):P:=t
theorem U362(t:P:=by
 show h4.get (h.next+1)=Z (.cells [.val (.int .i64 0),.val (.string ⟨#[]⟩),.val (.int .i64 0),.val (.slice Y 0 0)] J);exact Gr):P:=t
theorem U363(t:P:=by
 show ∀z0 z1 z2 z3:AV,dV [z0,z1,z2,z3] 0 4 q1.cells=Z q1.cells;exact λ_ _ _ _=>sX):P:=t
theorem U364(t:P:=by
 show Pr.aG [q1,q2]=q1.cells++q2.cells;grind [Pr.aG]):P:=t
theorem U365(t:P:=by
 show ∀z0 z1 z2 z3 z4 z5 z6 z7:AV,dV [z0,z1,z2,z3,z4,z5,z6,z7] 0 4 q1.cells=Z (q1.cells++[z4,z5,z6,z7]);exact λ_ _ _ _ _ _ _ _=>Hz q1.len):P:=t
theorem U366(t:P:=by
 show ∀z4 z5 z6 z7:AV,dV (q1.cells++[z4,z5,z6,z7]) 4 4 q2.cells=Z (q1.cells++q2.cells);exact λ_ _ _ _=>Hy q1.len q2.len):P:=t
theorem U367(t:P:=by
 show ∀(H:AH) (z:AV),stK H b 1 6 [z] (Z (.cells [e.vs.A Vr.cells,e.sy.A Sm.cells,e.hs.A Ho.cells,vF,vB,.val (.bool lg),.val (.bool wr)] J))=Z (H.put b (Z (.cells [e.vs.A Vr.cells,e.sy.A Sm.cells,e.hs.A Ho.cells,vF,vB,.val (.bool lg),z] J)));exact λ_ _=>rfl):P:=t
theorem U368(t:P:=by
 show H7.get b=Z (.cells [e.vs.A Vr.cells,e.sy.A Sm.cells,e.hs.A Ho.cells,vF,vB,.val (.bool lg),.val (.bool J)] J);grind [bc,lA]):P:=t
theorem U369(t:P:=by
 show gY H7 b e fs bs vF vB lg J;exact ⟨om,g7b,a.rF.toB om λz hz=>g7 z (a.rF.ids z hz).2.1 (by have:=(a.rF.ids z hz).1;omega),a.rB.toB om λz hz=>g7 z (a.rB.ids z hz).2.1 (by have:=(a.rB.ids z hz).1;omega),a.dj⟩):P:=t
theorem U370(t:P:=by
 show cfB (Z (.cells [e.vs.A Vr.cells,e.sy.A Sm.cells,e.hs.A Ho.cells,vF,vB,.val (.bool lg),.val (.bool wr)] J)) 4=Z [vB,.val (.bool lg),.val (.bool wr)];exact rfl):P:=t
theorem U371(t:P:=by
 show ∀o,aN s.h (Z (.ptr c o))=J;exact λo=>bm hc gc p.bM):P:=t
theorem U372(t:P:=by
 show aX 4 (.own B 0 bs.length 4 Y) i=Z (.ptr B (0+i*4));exact wt hl):P:=t
theorem U373(t:P:=by
 show ∀(u w:AV) (l1 w1:Bool),cfB (Z (.cells [e.vs.A Vr.cells,e.sy.A Sm.cells,e.hs.A Ho.cells,u,w,.val (.bool l1),.val (.bool w1)] J)) 4=Z [w,.val (.bool l1),.val (.bool w1)];exact λ_ _ _ _=>rfl):P:=t
theorem U374(t:P:=by
 exact .inr ⟨rfl,by simp[V,hf],by simp[V]⟩):P:=t
theorem U375(t:P:=by
 exact⟨λc hc=>(by cases hc),rfl,.inl ⟨rfl,rfl⟩⟩):P:=t
theorem U376(t:P:=by
 show ∀y,y=b\/y∈aq h1 b->h'.get y=h1.get y;exact Gr):P:=t
theorem U377(t:P:=by
 show aq h' b=aq h1 b;exact bX.oD (gs b (.inl rfl))):P:=t
theorem U378(t:P:=by
 show p.nodes=1+Pr.aI p.ks;cases p;rfl):P:=t
theorem U379(t:P:=by
 show ids (w.A Pr.cells)=[];exact Vl.ids):P:=t
theorem U380(t:P:=by
 show k0∈p.ks;exact Gr):P:=t
theorem U381(t:P:=by
 show ∀o,aN h' (Z (.ptr b o))=J;exact λo=>a'.known):P:=t
theorem U382(t:P:=by
 show takeN (Z 4) Q.cells=Z (.agg Q.cells);exact cf (Pr.len _)):P:=t
theorem U383(t:P:=by
 show takeN (Z 4) a.cells=Z a.av;exact cf a.len):P:=t
theorem U384(t:P:=by
 show takeN (Z 4) b.cells=Z b.av;exact cf b.len):P:=t
theorem U385(t:P:=by
 show takeN (Z 3) Vx.cells=Z (.agg Vx.cells);rfl):P:=t
theorem U386(t:P:=by
 exact fin _ 10 eo (by grind [AH.aO,AH.aS,tG,xG]) (show(4:Nat)<5 by decide)):P:=t
theorem U387(t:P:=by
 show cfB (Z (.cells a.cells J)) 3=Z [a.kids];rw[Pr.bS];rfl):P:=t
theorem U388(t:P:=by
 show cfB (Z (.cells Vx.cells J)) 0=Z Vx.cells;exact rfl):P:=t
theorem U389(t:P:=by
 show ∀o,aN s.h (Z (.ptr 0 o))=J;exact λo=>bm om g0 Vx.aQ):P:=t
theorem U390(t:P:=by
 show ∀o,aN s.h (Z (.ptr C o))=J;exact λo=>bm om gC a.bM):P:=t
theorem U391(t:P:=by
 show ∀o,aN s.h (Z (.ptr (C+1) o))=J;exact λo=>bm om gD b.bM):P:=t
theorem U392(t:P:=by
 show ids (.agg Vx.cells)=[];exact Vx.aQ):P:=t
theorem U393(t:P:=by
 show ∀o,aN s.h (Z (.ptr 3 o))=J;exact λo=>a.known):P:=t
theorem U394(t:P:=by
 show ∀o,aN h' (Z (.ptr 3 o))=J;exact λo=>a'.known):P:=t
theorem U395(t:P:=by
 show cfB (Z (.cells c.cells J)) 1=Z (c.hy.A Pr.cells::(c.hd.cells++[.val (.int .i64 c.tag)]));exact rfl):P:=t
theorem U396(t:P:=by
 show cfB (Z (.cells H.cells J)) 1=Z [H.hs.A Ho.cells,H.cs.A Cl.cells];exact rfl):P:=t
theorem U397(t:P:=by
 show ak G;rw[<-hG];exact ak.empty.alloc.alloc.alloc):P:=t
theorem U398(t:P:=by
 exact bn.made (λc hc=>by cases hc) rfl (Nat.le_refl _) Sa (by grind [co])):P:=t
theorem U399(t:P:=by
 show ([AV.val (.int .i64 0),.val (.string ⟨#[]⟩),.val (.int .i64 0),.val (.slice Y 0 0),.val (.slice Y 0 0)]).length=5;exact rfl):P:=t
theorem U400(t:P:=by
 show G.get 0=Z (.cells Vx.cells J);grind [AH.aS,tG]):P:=t
theorem U401(t:P:=by
 show G.get 2=Z (.cells [AV.val (.int .i64 0),.val (.string ⟨#[]⟩),.val (.int .i64 0),.val (.slice Y 0 0),.val (.slice Y 0 0)] J);grind [AH.aS,tG]):P:=t
theorem U402(t:P:=by
 show (q.cells++[wl.A Ln.cells]).length=5;rw[List.length_append,q.len];rfl):P:=t
theorem U403(t:P:=by
 show takeN (Z 3) H.cells=Z (.agg H.cells);rfl):P:=t
theorem U404(t:P:=by
 show cfB (Z (.cells H.cells J)) 0=Z H.cells;exact rfl):P:=t
theorem U405(t:P:=by
 show ids (.agg H.cells)=[];exact H.bM):P:=t
theorem U406(t:P:=by
 show ids ((⟨H.hs.l.map (gR L),ai,Y⟩:Vl (Vl Pr)).A lsA)=[];exact Vl.ids):P:=t
theorem U407(t:P:=by
 show (c.oneCell'&&(d.oneCell'&&(e.oneCell'&&(f.oneCell'&&J))))=J;exact hpo):P:=t
end Go
