/- A part of the proof about filled horn systems: ZSmall. -/
import Derived.Test.YtkhblipgiijoiaaGreatDoorU0
import Derived.Test.YtkhblipgiijoiaaGreatDoorR5

set_option linter.all false
open Nat renaming reduceEqDiff → rA, reduceAdd → rB, reduceMul → rC
open Int renaming reduceEq → rD, reduceLT → rE, reduceLE → rF
namespace Go.Proofs.YtkhblipgiijoiaaGreatDoor
open Go Go.AM
set_option maxHeartbeats 4000000
theorem f5_d1_run{s:St}{c:Cl}{C:Nat}(hw:Pr.wtL c.hy.l+c.hd.wt≤2^22)(hC:C<s.h.next)(g:s.h.get C=some (.cells c.cells true))(ht:NoTag s.h)(h5:s.eval (.t 5)=some (.ptr C 0)):
  Run E1 f5_d1 s fun e s'=>e=.normal∧(∃b,s'.eval (.t 85)=some (.val (.bool b))∧(b=false→c.vs.l.length≤26∧c.hy.l.length≤6∧Pr.nodesL c.hy.l+c.hd.nodes≤120))∧s.h.next≤s'.h.next∧(∀x,x<s.h.next→s'.h.get x=s.h.get x)∧NoTag s'.h∧s'.defers=s.defers∧∀j,j<64→s'.eval (.t j)=s.eval (.t j):=by
 have n1:∀o,niceT s.h (some (.ptr C o))=true:=fun o=>bQ hC g (by rw[c.ids0];rfl)
 have o1:∀o,onlyT [C] (some (.ptr C o))=true:=fun o=>ba (by simp[memN])
 have vi:∀v,ids (AV.val v)=[]:=fun _=>rfl
 have ui:ids undefA=[]:=rfl
 refine az ?_
 show DrawTo E1 (bp.take 11++bp.drop 11) [] s _
 refine bj (R:=[C]) (K1:=fun s'=>∃b,s'.eval (.t 74)=some (.val (.bool b))∧(b=false→c.vs.l.length≤26∧c.hy.l.length≤6)∧s'.defers=s.defers∧∀j,j<64→s'.eval (.t j)=s.eval (.t j)) (bp.take 11) [] s s.h 11 rfl (fun x hx=>by cases hx) (fun r hr'=>by rw[List.mem_singleton.1 hr'];exact hC) rfl rfl ?_ ?_
 ·cases q1:decide ((26:Int)<(c.vs.l.length:Nat)) with
  |true=>
   simp-implicitDefEqProofs only[bp,List.take_succ_cons,List.take_zero,wpDm,aW,bc,cr,ct,List.all_cons,List.all_nil,footed,V,↓reduceIte,rA,rB,rC,reduceCtorEq,rD,rE,rF,WF,h5,g,n1,o1,aM Vl.ids,aK Vl.ids,ak Vl.ids,ab,ak (vi _),aM ui,ak ui,Vl.len,q1]
   refine⟨_,rfl,(fun h=>by cases h),fun j hj=>?_⟩
   repeat rw[if_neg om]
  |false=>
   have q1':=of_decide_eq_false q1
   cases q2:decide ((6:Int)<(c.hy.l.length:Nat)) with
   |true=>
    simp-implicitDefEqProofs only[bp,List.take_succ_cons,List.take_zero,wpDm,aW,bc,cr,ct,List.all_cons,List.all_nil,footed,V,↓reduceIte,rA,rB,rC,reduceCtorEq,rD,rE,rF,WF,h5,g,n1,o1,aM Vl.ids,aK Vl.ids,ak Vl.ids,ab,ak (vi _),aM ui,ak ui,Vl.len,q1,q2]
    refine⟨_,rfl,(fun h=>by cases h),fun j hj=>?_⟩
    repeat rw[if_neg om]
   |false=>
    have q2':=of_decide_eq_false q2
    simp-implicitDefEqProofs only[bp,List.take_succ_cons,List.take_zero,wpDm,aW,bc,cr,ct,List.all_cons,List.all_nil,footed,V,↓reduceIte,rA,rB,rC,reduceCtorEq,rD,rE,rF,WF,h5,g,n1,o1,aM Vl.ids,aK Vl.ids,ak Vl.ids,ab,ak (vi _),aM ui,ak ui,Vl.len,q1,q2]
    refine⟨_,rfl,fun _=>⟨om,om⟩,fun j hj=>?_⟩
    repeat rw[if_neg om]
 rintro s1 ⟨b,e74,hb,d1,t1⟩ hh done hl hq
 have e5:s1.eval (.t 5)=some (.ptr C 0):=by rw[t1 5 om,h5]
 cases b with
 |true=>
  have wf:∀(s':St),s'.eval (.t 74)=some (.val (.bool true))→wantedA s' (some (74,false))=some false:=fun s' e=>by
   have e:s'.tm.get 74=some (.val (.bool true)):=e
   simp only[wantedA,e]
   rfl
  show DrawTo E1 (bp.drop 11) _ _ _
  simp only[bp,List.drop_succ_cons,List.drop_zero]
  have fr:∀{n:Nat} {l:List Nat} {done:List DRec},done.length=n→l.all (fun i=>Nat.blt i n)=true→∀i∈l,i<done.length:=fun hl h i hi=>by
   rw[hl]
   exact Nat.blt_eq.mp (List.all_eq_true.1 h i hi)
  have ln:∀{n:Nat} {done:List DRec} {x:DRec},done.length=n→(done++[x]).length=n+1:=fun hl=>by rw[List.length_append,hl];rfl
  refine bf rfl (wf _ e74) (fr hl rfl) ?_
  refine bf rfl (wf _ U129) (fr (ln hl) rfl) ?_
  refine bf rfl (wf _ U129) (fr (ln (ln hl)) rfl) ?_
  refine bf rfl (wf _ U129) (fr (ln (ln (ln hl))) rfl) ?_
  refine bf rfl (wf _ U129) (fr (ln (ln (ln (ln hl)))) rfl) ?_
  refine bf rfl (wf _ U129) (fr (ln (ln (ln (ln (ln hl))))) rfl) ?_
  refine bf rfl (wf _ U129) (fr (ln (ln (ln (ln (ln (ln hl)))))) rfl) ?_
  refine bf rfl (wf _ U129) (fr (ln (ln (ln (ln (ln (ln (ln hl))))))) rfl) ?_
  refine bf rfl (wf _ U129) (fr (ln (ln (ln (ln (ln (ln (ln (ln hl)))))))) rfl) ?_
  refine bf rfl (wf _ U129) (fr (ln (ln (ln (ln (ln (ln (ln (ln (ln hl))))))))) rfl) ?_
  refine bY (v:=.val (.bool true)) rfl rfl ?_ ?_ (fun i hi=>by cases hi) ?_
  ·simp-implicitDefEqProofs only[V,↓reduceIte,rA,rB,rC,reduceCtorEq,rD,rE,rF,List.all_cons,List.all_nil,e74,ab,aM ui]
  ·simp-implicitDefEqProofs only[runOp,V,↓reduceIte,rA,rB,rC,reduceCtorEq,rD,rE,rF,e74]
  refine bV ?_
  refine⟨trivial,⟨true,?_,fun h=>by cases h⟩,?_,?_,?_,?_,fun j hj=>?_⟩
  ·exact U28
  ·exact U88
  ·intro x hx
   exact U89
  ·simp-implicitDefEqProofs only[V,↓reduceIte,rA,rB,rC,reduceCtorEq,rD,rE,rF,hh]
   exact ht
  ·exact U69
  ·exact U104
 |false=>
  obtain⟨hb1,hb2⟩:=hb rfl
  have e74':=e74
  have wt:∀(s':St),s'.eval (.t 74)=some (.val (.bool false))→wantedA s' (some (74,false))=some true:=fun s' e=>by
   have e:s'.tm.get 74=some (.val (.bool false)):=e
   simp only[wantedA,e]
   rfl
  have hn1:s1.h.next=s.h.next:=by rw[hh]
  have g1:s1.h.get C=some (.cells c.cells true):=by rw[hh,g]
  have hwl:=fq c.hy.l
  show DrawTo E1 (bp.drop 11) _ _ _
  simp only[bp,List.drop_succ_cons,List.drop_zero]
  refine cx (cs:=[]) (fun j hj v hv=>?_) rfl rfl (fun i hi=>by cases hi) rfl (wt _ e74) ?_
  ·rw[List.mem_singleton.1 hj,e74] at hv
   cases hv
   rfl
  generalize hB:s1.h.next=B
  have hCB:C<B:=by omega
  generalize hS2:(s1.toH (s1.h.alloc (.cells [] true))).put (some 75) (.own B 0 0 4 (some 0))=s2
  have e2_75:s2.eval (.t 75)=some (.own B 0 0 4 (some 0)):=by rw[←hS2];simp-implicitDefEqProofs only[V,↓reduceIte,rA,rB,rC,reduceCtorEq,rD,rE,rF]
  have e2:∀j,j<75→s2.eval (.t j)=s1.eval (.t j):=fun j hj=>by
   rw[←hS2]
   simp only[St.put,St.eval_set,St.eval_toH]
   rw[if_neg om]
  have h2n:s2.h.next=B+1:=by rw[←hS2,←hB];rfl
  have g2C:s2.h.get C=some (.cells c.cells true):=by
   rw[←hS2]
   simp-implicitDefEqProofs only[V,↓reduceIte,rA,rB,rC,reduceCtorEq,rD,rE,rF]
   rw[if_neg om,g1]
  have g2B:s2.h.get B=some (.cells [] true):=by
   rw[←hS2]
   simp-implicitDefEqProofs only[V,↓reduceIte,rA,rB,rC,reduceCtorEq,rD,rE,rF]
   rw[if_pos hB.symm]
  have o2:∀x,x<s.h.next→s2.h.get x=s.h.get x:=fun x hx=>by
   rw[←hS2]
   simp-implicitDefEqProofs only[V,↓reduceIte,rA,rB,rC,reduceCtorEq,rD,rE,rF]
   rw[if_neg om,hh]
  have t2:NoTag s2.h:=by rw[←hS2];exact NoTag.alloc (by rw[hh];exact ht)
  have d2:s2.defers=s.defers:=by rw[←hS2];simp-implicitDefEqProofs only[V,↓reduceIte,rA,rB,rC,reduceCtorEq,rD,rE,rF,d1]
  have hq2:∀x∈done++[(⟨[],[],B,B+1⟩:DRec)],MildR [C] x:=fun x hx=>by
   rcases List.mem_append.1 hx with hx|hx
   ·exact hq x hx
   ·rw[List.mem_singleton.1 hx]
    exact uB fun r hr=>by rw[List.mem_singleton.1 hr];exact hCB
  have hl2:(done++[(⟨[],[],B,B+1⟩:DRec)]).length=12:=by rw[List.length_append,hl];rfl
  generalize done++[(⟨[],[],B,B+1⟩:DRec)]=dn2 at hq2 hl2
  clear hS2
  have n2:∀o,niceT s2.h (some (.ptr C o))=true:=fun o=>bQ om g2C (by rw[c.ids0];rfl)
  show DrawTo E1 ((bp.drop 12).take 2++bp.drop 14) _ _ _
  refine bj (R:=[C]) (K1:=fun s'=>s'.eval (.t 77)=some (c.hy.A Pr.cells)∧s'.defers=s2.defers∧∀j,j<76→s'.eval (.t j)=s2.eval (.t j)) ((bp.drop 12).take 2) dn2 s2 s2.h 14 (by rw[hl2];rfl) hq2 (fun r hr'=>by rw[List.mem_singleton.1 hr'];omega) rfl (by rw[hl2];rfl) ?_ ?_
  ·have e74s:s2.eval (.t 74)=some (.val (.bool false)):=by rw[e2 74 om,e74]
   have e5s:s2.eval (.t 5)=some (.ptr C 0):=by rw[e2 5 om,e5]
   simp-implicitDefEqProofs only[bp,List.take_succ_cons,List.take_zero,List.drop_succ_cons,List.drop_zero,wpDm,aW,bc,cr,ct,List.all_cons,List.all_nil,footed,V,↓reduceIte,rA,rB,rC,reduceCtorEq,rD,rE,rF,WF,e5s,e74s,g2C,n2,o1,ab,ak (vi _)]
   intro j hj
   repeat rw[if_neg om]
  rintro s3 ⟨e77,d3,t3⟩ hh3 dn3 hl3 hq3
  have e75:s3.eval (.t 75)=some (.own B 0 0 4 (some 0)):=by rw[t3 75 om,e2_75]
  have e3:∀j,j<75→s3.eval (.t j)=s1.eval (.t j):=fun j hj=>by rw[t3 j om,e2 j hj]
  have e74c:s3.eval (.t 74)=some (.val (.bool false)):=by rw[e3 74 om,e74]
  have r3:RowX s3.h B 0 4 (.own B 0 0 4 (some 0)) []:=RowX.made (fun c hc=>by cases hc) rfl (Nat.le_refl _) (by rw[hh3];omega) (by rw[hh3];exact g2B)
  show DrawTo E1 (bp.drop 14) _ _ _
  simp only[bp,List.drop_succ_cons,List.drop_zero]
  refine eW (k:=0) (m:=c.hy.l.length) (lo:=B) (v:=.own B 0 0 4 (some 0)) (x:=c.hy.A Pr.cells) (cs:=[]) (new:=c.hy.l.flatMap Pr.cells) r3 (by rw[hh3];omega) (fun h _=>qM Pr.len h c.hy) (bM Pr.len _) (bv Pr.leaves _) (bD om de) (fun y hy=>by rw[Vl.ids] at hy;cases hy) e75 e77 de de (fun j hj=>?_) rfl (wt _ e74c) ?_
  ·simp only[List.mem_cons,List.mem_nil_iff,or_false] at hj
   rcases hj with rfl|rfl|rfl
   ·exact .inl rfl
   ·exact .inr (.inl rfl)
   ·exact .inr (.inr ⟨_,e74c⟩)
  intro rec4 v4 h4 r4 n4 o4 t4 q4
  rw[hh3] at n4 o4 t4 q4
  rw[List.nil_append,Nat.zero_add,←Pr.cellsL_eq] at r4
  have i4:∀y∈ids v4,B≤y∧y<h4.next:=fun y hy=>⟨(r4.ids y hy).1,(r4.ids y hy).2.1⟩
  have g4C:h4.get C=some (.cells c.cells true):=by
   rw[o4 C om (fun hv=>by simp only[AM.ids,List.mem_singleton] at hv;omega),g2C]
  have o4':∀x,x<s.h.next→h4.get x=s.h.get x:=fun x hx=>by
   rw[o4 x om (fun hv=>by simp only[AM.ids,List.mem_singleton] at hv;omega),o2 x hx]
  have hq4:∀x∈dn3++[rec4],MildR [C] x:=fun x hx=>by
   rcases List.mem_append.1 hx with hx|hx
   ·exact hq3 x hx
   ·exact U105
  have hl4:(dn3++[rec4]).length=15:=by rw[List.length_append,hl3];rfl
  generalize dn3++[rec4]=dn4 at hq4 hl4
  generalize hS5:(s3.toH h4).put (some 78) v4=s5
  have e5_78:s5.eval (.t 78)=some v4:=by rw[←hS5];simp-implicitDefEqProofs only[V,↓reduceIte,rA,rB,rC,reduceCtorEq,rD,rE,rF]
  have e5':∀j,j<75→s5.eval (.t j)=s1.eval (.t j):=fun j hj=>by
   rw[←e3 j hj,←hS5]
   simp only[St.put,St.eval_set,St.eval_toH]
   rw[if_neg om]
  have h5h:s5.h=h4:=by rw[←hS5];rfl
  have d5:s5.defers=s.defers:=by rw[←hS5];simp-implicitDefEqProofs only[V,↓reduceIte,rA,rB,rC,reduceCtorEq,rD,rE,rF,d3,d2]
  clear hS5
  have n5:∀o,niceT s5.h (some (.ptr C o))=true:=fun o=>bQ (cs:=c.cells) (by rw[h5h];omega) (by rw[h5h];exact g4C) (by rw[c.ids0];rfl)
  have g5C:s5.h.get C=some (.cells c.cells true):=by rw[h5h];exact g4C
  show DrawTo E1 ((bp.drop 15).take 2++bp.drop 17) _ _ _
  refine bj (R:=[C]) (K1:=fun s'=>s'.eval (.t 80)=some c.hd.av∧s'.defers=s5.defers∧∀j,j<79→s'.eval (.t j)=s5.eval (.t j)) ((bp.drop 15).take 2) dn4 s5 s5.h 17 (by rw[hl4];rfl) hq4 (fun r hr'=>by rw[List.mem_singleton.1 hr',h5h];omega) rfl (by rw[hl4];rfl) ?_ ?_
  ·have e74s:s5.eval (.t 74)=some (.val (.bool false)):=by rw[e5' 74 om,e74]
   have e5s:s5.eval (.t 5)=some (.ptr C 0):=by rw[e5' 5 om,e5]
   simp-implicitDefEqProofs only[bp,List.take_succ_cons,List.take_zero,List.drop_succ_cons,List.drop_zero,wpDm,aW,bc,cr,ct,List.all_cons,List.all_nil,footed,V,↓reduceIte,rA,rB,rC,reduceCtorEq,rD,rE,rF,WF,e5s,e74s,g5C,n5,o1,ab,ak (vi _),ae]
   intro j hj
   repeat rw[if_neg om]
  rintro s6 ⟨e80,d6,t6⟩ hh6 dn6 hl6 hq6
  have e6:∀j,j<75→s6.eval (.t j)=s1.eval (.t j):=fun j hj=>by rw[t6 j om,e5' j hj]
  have e74d:s6.eval (.t 74)=some (.val (.bool false)):=by rw[e6 74 om,e74]
  have e6_78:s6.eval (.t 78)=some v4:=by rw[t6 78 om,e5_78]
  have h6h:s6.h=h4:=by rw[hh6,h5h]
  show DrawTo E1 (bp.drop 17) _ _ _
  simp only[bp,List.drop_succ_cons,List.drop_zero]
  refine cx (cs:=c.hd.cells) (fun j hj v hv=>?_) rfl ?_ (fun i hi=>?_) rfl (wt _ e74d) ?_
  ·simp only[List.mem_cons,List.mem_nil_iff,or_false] at hj
   rcases hj with rfl|rfl
   ·rw[e80] at hv
    cases hv
    rw[c.hd.idsA]
    rfl
   ·rw[e74d] at hv
    cases hv
    rfl
  ·exact gM (v:=c.hd.av) e80 rfl c.hd.len rfl
  ·rw[hl6]
   simp only[List.mem_cons,List.mem_nil_iff,or_false] at hi
   omega
  generalize hB2:s6.h.next=B2
  have hB2':h4.next=B2:=by rw[←hB2,h6h]
  generalize hS7:(s6.toH (s6.h.alloc (.cells c.hd.cells true))).put (some 81) (.own B2 0 1 4 (some 1))=s7
  have e7_81:s7.eval (.t 81)=some (.own B2 0 1 4 (some 1)):=by rw[←hS7];simp-implicitDefEqProofs only[V,↓reduceIte,rA,rB,rC,reduceCtorEq,rD,rE,rF]
  have e7_78:s7.eval (.t 78)=some v4:=by rw[←hS7];simp-implicitDefEqProofs only[V,↓reduceIte,rA,rB,rC,reduceCtorEq,rD,rE,rF,e6_78]
  have e7:∀j,j<75→s7.eval (.t j)=s1.eval (.t j):=fun j hj=>by
   rw[←e6 j hj,←hS7]
   simp only[St.put,St.eval_set,St.eval_toH]
   rw[if_neg om]
  have e74e:s7.eval (.t 74)=some (.val (.bool false)):=by rw[e7 74 om,e74]
  have h7n:s7.h.next=B2+1:=by rw[←hS7,←hB2];rfl
  have g7B:s7.h.get B2=some (.cells c.hd.cells true):=by
   rw[←hS7]
   simp-implicitDefEqProofs only[V,↓reduceIte,rA,rB,rC,reduceCtorEq,rD,rE,rF]
   rw[if_pos hB2.symm]
  have o7:∀x,x<B2→s7.h.get x=h4.get x:=fun x hx=>by
   rw[←hS7]
   simp-implicitDefEqProofs only[V,↓reduceIte,rA,rB,rC,reduceCtorEq,rD,rE,rF]
   rw[if_neg om,h6h]
  have t7:NoTag s7.h:=by rw[←hS7];exact NoTag.alloc (by rw[h6h];exact t4 t2)
  have d7:s7.defers=s.defers:=by rw[←hS7];simp-implicitDefEqProofs only[V,↓reduceIte,rA,rB,rC,reduceCtorEq,rD,rE,rF,d6,d5]
  clear hS7
  have r7:RowX s7.h B c.hy.l.length 4 v4 (Pr.cellsL c.hy.l):=r4.toB om fun x hx=>o7 x (by have:=(i4 x hx).2;omega)
  refine eW (k:=c.hy.l.length) (m:=1) (lo:=B) (v:=v4) (x:=.own B2 0 1 4 (some 1)) (cs:=Pr.cellsL c.hy.l) (new:=c.hd.cells) r7 om (fun h gy=>cE (by rw[gy B2 (by simp only[AM.ids,List.mem_singleton]),g7B]) (by rw[c.hd.len])) (by rw[c.hd.len]) c.hd.leaves (bD om de) (fun y hy=>?_) e7_78 e7_81 de de (fun j hj=>?_) rfl (wt _ e74e) ?_
  ·exact U106
  ·simp only[List.mem_cons,List.mem_nil_iff,or_false] at hj
   rcases hj with rfl|rfl|rfl
   ·exact .inl rfl
   ·exact .inr (.inl rfl)
   ·exact .inr (.inr ⟨_,e74e⟩)
  intro rec8 v8 h8 r8 n8 o8 t8 _
  have ec:Pr.cellsL c.hy.l++c.hd.cells=Pr.cellsL (c.hy.l++[c.hd]):=by rw[dl];simp only[Pr.cellsL,List.append_nil]
  rw[ec] at r8
  have hk8:(c.hy.l++[c.hd]).length=c.hy.l.length+1:=by rw[List.length_append];rfl
  obtain⟨w8,hw8,hA8⟩:=tf r8 hk8
  have wtA:∀a b:List Pr,Pr.wtL (a++b)=Pr.wtL a+Pr.wtL b:=fun a b=>by
   induction a with
   |nil=>simp only[List.nil_append,Pr.wtL,Nat.zero_add]
   |cons k a ih=>simp only[List.cons_append,Pr.wtL,ih];omega
  have ndA:∀a b:List Pr,Pr.nodesL (a++b)=Pr.nodesL a+Pr.nodesL b:=fun a b=>by
   induction a with
   |nil=>simp only[List.nil_append,Pr.nodesL,Nat.zero_add]
   |cons k a ih=>simp only[List.cons_append,Pr.nodesL,ih];omega
  obtain⟨q,q1,q2⟩:=lJ w8 (by rw[hw8,wtA];simp only[Pr.wtL];omega) 120 om om
  rw[hw8,ndA] at q1
  have nt8:NoTag h8:=t8 t7
  refine qT (lo:=B) (k:=c.hy.l.length+1) (es:=4) (w:=v8) (cs:=Pr.cellsL (c.hy.l++[c.hd])) (l:=[v8,.val (.int .i64 120)]) (t:=.val (.bool q)) ?_ (fun j hj=>?_) ⟨82,List.mem_cons_self,?_⟩ rfl ?_ ?_ rfl (wt _ ?_) (fun h g1 g2=>?_) ?_
  ·exact U107
  ·simp only[List.mem_cons,List.mem_nil_iff,or_false] at hj
   rcases hj with rfl|rfl
   ·refine⟨v8,?_,.inr rfl⟩
    exact U28
   ·refine⟨.val (.bool false),?_,.inl rfl⟩
    exact U126
  ·exact U28
  ·exact U28
  ·simp-implicitDefEqProofs only[V,↓reduceIte,rA,rB,rC,reduceCtorEq,rD,rE,rF]
   exact nt8
  ·exact U126
  ·simp-implicitDefEqProofs only[V,↓reduceIte,rA,rB,rC,reduceCtorEq,rD,rE,rF] at g1 g2
   have r9:RowX h B (c.hy.l.length+1) 4 v8 (Pr.cellsL (c.hy.l++[c.hd])):=r8.toB om g2
   obtain⟨h3,f1,f2,f3,f4⟩:=cu r9
   rw[hA8] at f4
   exact cZ (xs:=[]) (ys:=[.val (.int .i64 120)]) kr (fun v hv=>by cases hv) (mem1 (Tree.val _)) Vl.leaf.tree f1 f4 rfl q2
  intro rec9 h9 n9 o9
  simp-implicitDefEqProofs only[V,↓reduceIte,rA,rB,rC,reduceCtorEq,rD,rE,rF] at n9 o9
  refine yx (v:=.val (.bool (!q))) rfl rfl rfl (wt _ ?_) ?_ ?_ (fun i hi=>by cases hi) ?_
  ·exact U126
  ·exact U108
  ·cases q<;>simp-implicitDefEqProofs only[runOp,V,↓reduceIte,rA,rB,rC,reduceCtorEq,rD,rE,rF,Op.unary,evalPure]<;>rfl
  refine bY (v:=.val (.bool (!q))) rfl rfl ?_ ?_ (fun i hi=>by cases hi) ?_
  ·exact U108
  ·simp-implicitDefEqProofs only[runOp,V,↓reduceIte,rA,rB,rC,reduceCtorEq,rD,rE,rF,e74e]
  refine bV ?_
  refine⟨trivial,⟨!q,?_,fun h=>⟨hb1,hb2,?_⟩⟩,?_,?_,?_,?_,fun j hj=>?_⟩
  ·exact U28
  ·have:q=true:=by simpa using h
   have:=q1 this
   simp only[Pr.nodesL] at this
   omega
  ·exact U53
  ·intro x hx
   simp-implicitDefEqProofs only[V,↓reduceIte,rA,rB,rC,reduceCtorEq,rD,rE,rF]
   rw[o9 x,o8 x om (fun hv=>by have:=(i4 x hv).1;omega),o7 x om,o4' x hx]
  ·simp-implicitDefEqProofs only[V,↓reduceIte,rA,rB,rC,reduceCtorEq,rD,rE,rF]
   intro b x t n e
   rw[o9] at e
   exact nt8 b x t n e
  ·exact U127
  ·rw[←t1 j hj,←e7 j om]
   simp only[St.put,St.eval_set,St.eval_toH]
   repeat rw[if_neg om]
theorem xj(H:Hn)(hN:H.hs.l.length<2^61):∀(r:List Ho) (i:Nat) (s:St),H.hs.l.drop i=r→i≤H.hs.l.length→s.h.get 0=some (.cells H.cells true)→
  s.eval (.t 1)=some (.ptr 0 0)→s.eval (.t 3)=some (.val (.int .i64 (i:Nat)))→s.defers=[]→
  Run E1 f5_l0 s fun e s'=>s'.defers=[]∧((e=.exit 0∧s'.h=s.h∧s'.eval (.t 1)=some (.ptr 0 0)∧∀x∈r,x.ps.l.length≤26)∨(e=.ret∧s'.eval (.t 2)=some (.val (.bool false))))
 | [],i,s,hd,hi,g0,h1,h3,hf=>by
  have hl:=aN hd hi
  subst hl
  apply aC (rfl:f5_l0=.loop pj)
  simp-implicitDefEqProofs only[pj,V,↓reduceIte,rA,rB,rC,reduceCtorEq,rD,rE,rF,WB,g0,h1,h3,hf,Vl.len,lt_f]
  exact .inl fun x hx=>by cases hx
 |k::r,i,s,hd,hi,g0,h1,h3,hf=>by
  have hl:=aV hd
  have hlt:=lt_t hl
  have w1:IntKind.i64.wrap ((i:Int)+1)=((i+1:Nat):Int):=aE (n:=i+1) om
  apply aC (rfl:f5_l0=.loop pj)
  cases hz:decide ((26:Int)<((k.ps.l.length:Nat):Int)) with
  |true=>
   simp-implicitDefEqProofs only[pj,V,↓reduceIte,rA,rB,rC,reduceCtorEq,rD,rE,rF,WB,WF,g0,h1,h3,hf,Vl.len,hlt,H.hs.at Ho.len hd,hz]
  |false=>
   have hz':=of_decide_eq_false hz
   cases hy:decide ((100:Int)<((k.nm.size:Nat):Int)) with
   |true=>simp-implicitDefEqProofs only[pj,V,↓reduceIte,rA,rB,rC,reduceCtorEq,rD,rE,rF,WB,WF,g0,h1,h3,hf,Vl.len,hlt,H.hs.at Ho.len hd,hz,aR,hy]
   |false=>
    simp-implicitDefEqProofs only[pj,V,↓reduceIte,rA,rB,rC,reduceCtorEq,rD,rE,rF,WB,WF,g0,h1,h3,Vl.len,hlt,H.hs.at Ho.len hd,hz,aR,hy,w1]
    refine(xj H hN r (i+1) _ (aF hd) om ?_ ?_ ?_ ?_).mono ?_
    ·exact U92
    ·exact U39
    ·exact U28
    ·exact U72
    rintro e s1 ⟨d1,⟨rfl,e1,e2,q⟩|⟨rfl,q⟩⟩
    ·simp-implicitDefEqProofs only[V,↓reduceIte,rA,rB,rC,reduceCtorEq,rD,rE,rF] at e1
     refine⟨d1,.inl ⟨rfl,e1,e2,fun x hx=>?_⟩⟩
     rcases List.mem_cons.1 hx with rfl|hx
     ·omega
     ·exact q x hx
    ·exact⟨d1,.inr ⟨rfl,q⟩⟩
theorem yn{h:AH}{b:Nat}{a0 a1 a2 a3 a4 a5 a6:AV}{p:Cl}:stK h b 7 0 p.cells (some (.cells [a0,a1,a2,a3,a4,a5,a6] true))=some (h.put b (some (.cells p.cells true))):=bu rfl p.len
theorem xi(H:Hn)(hN:H.cs.l.length<2^61)(hw:∀c∈H.cs.l,Pr.wtL c.hy.l+c.hd.wt≤2^22):∀(r:List Cl) (i:Nat) (s:St),H.cs.l.drop i=r→i≤H.cs.l.length→0<s.h.next→NoTag s.h→s.h.get 0=some (.cells H.cells true)→
  s.eval (.t 1)=some (.ptr 0 0)→s.eval (.t 4)=some (.val (.int .i64 (i:Nat)))→s.defers=[]→
  Run E1 f5_l2 s fun e s'=>s'.defers=[]∧((e=.exit 2∧∀c∈r,c.vs.l.length≤26∧c.hy.l.length≤6∧Pr.nodesL c.hy.l+c.hd.nodes≤120)∨(e=.ret∧s'.eval (.t 2)=some (.val (.bool false))))
 | [],i,s,hd,hi,hn,ht,g0,h1,h4,hf=>by
  have hl:=aN hd hi
  subst hl
  apply aC (rfl:f5_l2=.loop xk)
  simp-implicitDefEqProofs only[xk,V,↓reduceIte,rA,rB,rC,reduceCtorEq,rD,rE,rF,WB,g0,h1,h4,hf,Vl.len,lt_f]
  exact .inl fun x hx=>by cases hx
 |k::r,i,s,hd,hi,hn,ht,g0,h1,h4,hf=>by
  have hl:=aV hd
  have hlt:=lt_t hl
  have w1:IntKind.i64.wrap ((i:Int)+1)=((i+1:Nat):Int):=aE (n:=i+1) om
  have hm:k∈H.cs.l:=List.mem_of_mem_drop (i:=i) (by rw[hd];exact List.mem_cons_self)
  have n0:(0=s.h.next)=False:=eq_false om
  apply aC (rfl:f5_l2=.loop xk)
  simp-implicitDefEqProofs only[xk,V,↓reduceIte,rA,rB,rC,reduceCtorEq,rD,rE,rF,WB,WF,g0,h1,h4,Vl.len,hlt,H.cs.at Cl.len hd,fK,yn]
  refine(f5_d1_run (c:=k) (C:=s.h.next) (hw k hm) ?_ ?_ ?_ ?_).mono ?_
  ·exact U53
  ·exact U28
  ·exact U109
  ·exact U28
  rintro e s1 ⟨rfl,⟨b,e85,hb⟩,m1,o1,t1,d1,q1⟩
  simp-implicitDefEqProofs only[V,↓reduceIte,rA,rB,rC,reduceCtorEq,rD,rE,rF] at m1 o1 d1 q1
  have e1:s1.eval (.t 1)=some (.ptr 0 0):=by rw[q1 1 om];simp-implicitDefEqProofs only[V,↓reduceIte,rA,rB,rC,reduceCtorEq,rD,rE,rF,h1]
  have e4:s1.eval (.t 4)=some (.val (.int .i64 (i:Nat))):=by rw[q1 4 om];simp-implicitDefEqProofs only[V,↓reduceIte,rA,rB,rC,reduceCtorEq,rD,rE,rF,h4]
  have g1:s1.h.get 0=some (.cells H.cells true):=by rw[o1 0 om,if_neg om,if_neg om,g0]
  cases b with
  |true=>simp-implicitDefEqProofs only[V,↓reduceIte,rA,rB,rC,reduceCtorEq,rD,rE,rF,WB,e85,d1,hf]
  |false=>
   simp-implicitDefEqProofs only[V,↓reduceIte,rA,rB,rC,reduceCtorEq,rD,rE,rF,WB,e85,e4,w1]
   refine(xi H hN hw r (i+1) _ (aF hd) om ?_ ?_ ?_ ?_ ?_ ?_).mono ?_
   ·exact U53
   ·exact U110
   ·exact U128
   ·exact U85
   ·exact U28
   ·exact U60
   rintro e s2 ⟨d2,⟨rfl,q⟩|⟨rfl,q⟩⟩
   ·refine⟨d2,.inl ⟨rfl,fun x hx=>?_⟩⟩
    rcases List.mem_cons.1 hx with rfl|hx
    ·exact hb rfl
    ·exact q x hx
   ·exact⟨d2,.inr ⟨rfl,q⟩⟩
structure SmallH (H:Hn):Prop where
 hs:H.hs.l.length≤8
 cs:H.cs.l.length≤15
 sy:H.sy.l.length≤12
 flat:flatC H.cs.l=true
 ps:∀x∈H.hs.l,x.ps.l.length≤26
 cl:∀c∈H.cs.l,c.vs.l.length≤26∧c.hy.l.length≤6∧Pr.nodesL c.hy.l+c.hd.nodes≤120
theorem wW(H:Hn)(hh:H.hs.l.length<2^61)(hN:H.cs.l.length<2^61)(hw:∀c∈H.cs.l,Pr.wtL c.hy.l+c.hd.wt≤2^22):∃b:Bool,(b=true→SmallH H)∧∀h,RunCall E1 (.f 5) [.agg H.cells] h (.val (.bool b)) h:=by
 have fl:=xP H hN fun c hc=>by
  have h1:=hw c hc
  have h2:=fq c.hy.l
  have h3:=iu c.hd
  refine⟨om,fun p hp=>?_,om⟩
  have h4:=cT hp
  have h5:=gG c.hy.l
  omega
 obtain⟨r,⟨b,hb,hx⟩,ha⟩:=ansE (g:=5) (l:=[.agg H.cells]) (P:=fun r=>∃b,(b=true→SmallH H)∧r=.val (.bool b)) f5_ok fun s hs hh' hd=>by
  have h0:=hs 0 _ rfl
  have no:∀x:AV,(∃b,(b=true→SmallH H)∧AV.val (.bool false)=.val (.bool b)):=fun _=>⟨false,(fun h=>by cases h),rfl⟩
  cases c1:decide ((8:Int)<(H.hs.l.length:Nat)) with
  |true=>
   simp-implicitDefEqProofs only[si,f5,V,↓reduceIte,rA,rB,rC,reduceCtorEq,rD,rE,rF,WB,h0,hh',hd,Vl.len,c1]
   exact⟨_,no undefA,rfl⟩
  |false=>cases c2:decide ((12:Int)<(H.sy.l.length:Nat)) with
   |true=>
    simp-implicitDefEqProofs only[si,f5,V,↓reduceIte,rA,rB,rC,reduceCtorEq,rD,rE,rF,WB,h0,hh',hd,Vl.len,c1,c2]
    exact⟨_,no undefA,rfl⟩
   |false=>cases c3:decide ((15:Int)<(H.cs.l.length:Nat)) with
    |true=>
     simp-implicitDefEqProofs only[si,f5,V,↓reduceIte,rA,rB,rC,reduceCtorEq,rD,rE,rF,WB,h0,hh',hd,Vl.len,c1,c2,c3]
     exact⟨_,no undefA,rfl⟩
    |false=>cases c4:flatC H.cs.l with
     |false=>
      simp-implicitDefEqProofs only[si,f5,V,↓reduceIte,rA,rB,rC,reduceCtorEq,rD,rE,rF,WB,h0,hh',hd,Vl.len,c1,c2,c3,aA fl,c4]
      exact⟨_,no undefA,rfl⟩
     |true=>
      have c1':=of_decide_eq_false c1
      have c2':=of_decide_eq_false c2
      have c3':=of_decide_eq_false c3
      simp-implicitDefEqProofs only[si,f5,V,↓reduceIte,rA,rB,rC,reduceCtorEq,rD,rE,rF,WB,h0,hh',Vl.len,c1,c2,c3,aA fl,c4]
      refine(xj H hh H.hs.l 0 _ rfl (Nat.zero_le _) ?_ ?_ ?_ ?_).mono ?_
      ·exact U28
      ·exact U28
      ·exact U66
      ·exact U33
      rintro e s1 ⟨d1,⟨rfl,e1,e2,q⟩|⟨rfl,q⟩⟩
      ·simp-implicitDefEqProofs only[V,↓reduceIte,rA,rB,rC,reduceCtorEq,rD,rE,rF] at e1
       simp-implicitDefEqProofs only[V,↓reduceIte,rA,rB,rC,reduceCtorEq,rD,rE,rF,WB]
       refine(xi H hN hw H.cs.l 0 _ rfl (Nat.zero_le _) ?_ ?_ ?_ ?_ ?_ ?_).mono ?_
       ·simp-implicitDefEqProofs only[V,↓reduceIte,rA,rB,rC,reduceCtorEq,rD,rE,rF,e1]
        exact Nat.zero_lt_one
       ·simp-implicitDefEqProofs only[V,↓reduceIte,rA,rB,rC,reduceCtorEq,rD,rE,rF,e1]
        exact NoTag.empty.alloc
       ·exact U85
       ·exact U91
       ·exact U66
       ·exact U69
       rintro e s2 ⟨d2,⟨rfl,q2⟩|⟨rfl,q2⟩⟩
       ·simp-implicitDefEqProofs only[V,↓reduceIte,rA,rB,rC,reduceCtorEq,rD,rE,rF,WB,d2]
        exact⟨_,⟨true,fun _=>⟨om,om,om,c4,q,q2⟩,rfl⟩,rfl⟩
       ·simp-implicitDefEqProofs only[V,↓reduceIte,rA,rB,rC,reduceCtorEq,rD,rE,rF,WB,d2,q2]
        exact⟨_,no undefA,rfl⟩
      ·simp-implicitDefEqProofs only[V,↓reduceIte,rA,rB,rC,reduceCtorEq,rD,rE,rF,WB,d1,q]
       exact⟨_,no undefA,rfl⟩
 subst hx
 exact⟨b,hb,aB kr kr (mem1 (Tree.hn H)) rfl (Tree.val _) ha⟩
end Go.Proofs.YtkhblipgiijoiaaGreatDoor
