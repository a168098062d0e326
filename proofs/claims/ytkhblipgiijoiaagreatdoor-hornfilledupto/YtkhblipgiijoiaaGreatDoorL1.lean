/- A part of the proof about filled horn systems: ZLaw. -/
import Derived.Test.YtkhblipgiijoiaaGreatDoorU0
import Derived.Test.YtkhblipgiijoiaaGreatDoorH1
import Derived.Test.YtkhblipgiijoiaaGreatDoorH3
import Derived.Test.YtkhblipgiijoiaaGreatDoorP1

set_option linter.all false
open Nat renaming reduceEqDiff → rA, reduceAdd → rB, reduceMul → rC
open Int renaming reduceEq → rD, reduceLT → rE, reduceLE → rF
namespace Go.Proofs.YtkhblipgiijoiaaGreatDoor
open Go Go.AM
set_option maxHeartbeats 4000000
theorem dq(h:AH):RunCall E1 (.f 6) [] h (.val (.bool true)) h:=by
 refine Ev.of fun n=>?_
 have hs:E1.shared.get 6=none:=by kernel_rfl
 have hk:E1.known 6 []=some (.val (.bool true)):=by kernel_rfl
 simp only[aj,cQ,hs,List.foldl_nil,mapTree,hk,isFlat,cond_true]
theorem f4_d0_run{s:St}{H:Hn}{S:Vl So}{c c':Cl}{r:List Cl}{i:Nat}(hd:H.cs.l.drop i=c::r)(hc:∀h,RunCall E1 (.f 19) [.agg H.cells,S.A So.cells,.agg c.cells] h (.agg c'.cells) h)(hn:0<s.h.next)(g0:s.h.get 0=some (.cells H.cells true))(ht:NoTag s.h)
  (h1:s.eval (.t 1)=some (S.A So.cells)) (h2:s.eval (.t 2)=some (.ptr 0 0)) (h7:s.eval (.t 7)=some (.val (.int .i64 (i:Nat)))):
  Run E1 f4_d0 s fun e s'=>e=.normal∧s'.eval (.t 8)=some (.ptr s.h.next 0)∧s'.h.get s.h.next=some (.cells c'.cells true)∧s'.h.next=s.h.next+1∧(∀x,x<s.h.next→s'.h.get x=s.h.get x)∧NoTag s'.h∧s'.defers=s.defers∧∀j,j<41→j≠8→s'.eval (.t j)=s.eval (.t j):=by
 have n0:∀o,niceT s.h (some (.ptr 0 o))=true:=fun o=>bQ hn g0 (by rw[H.ids0];rfl)
 have o0:∀o,onlyT [0] (some (.ptr 0 o))=true:=fun o=>ba (by simp[memN])
 have vi:∀v,ids (AV.val v)=[]:=fun _=>rfl
 have hi:ids (AV.agg H.cells)=[]:=H.ids0
 have ci:ids (AV.agg c.cells)=[]:=c.ids0
 have ci':ids (AV.agg c'.cells)=[]:=c'.ids0
 refine az ?_
 show DrawTo E1 (po.take 8++po.drop 8) [] s _
 refine bj (R:=[0]) (K1:=fun s'=>s'.eval (.t 48)=some (.agg c'.cells)∧s'.defers=s.defers∧∀j,j<41→s'.eval (.t j)=s.eval (.t j)) (po.take 8) [] s s.h 8 rfl (fun x hx=>by cases hx) (fun r hr'=>by rw[List.mem_singleton.1 hr'];exact hn) rfl rfl ?_ ?_
 ·simp-implicitDefEqProofs only[po,List.take_succ_cons,List.take_zero,wpDm,aW,List.all_cons,List.all_nil,footed,V,↓reduceIte,rA,rB,rC,reduceCtorEq,rD,rE,rF,WF,h1,h2,h7,g0,n0,o0,aM Vl.ids,aK Vl.ids,ak Vl.ids,H.cs.at Cl.len hd,fK,ab,cU,ak (vi _),show∀l,onlyT [0] (some (AV.iptr l))=true from fun _=>rfl,aM hi,aK hi,aM ci,aK ci]
  refine⟨_,hc,?_⟩
  simp-implicitDefEqProofs only[V,↓reduceIte,rA,rB,rC,reduceCtorEq,rD,rE,rF]
  intro j hj
  repeat rw[if_neg om]
 rintro s1 ⟨e48,d1,t1⟩ hh done hl hq
 show DrawTo E1 (po.drop 8) _ _ _
 simp only[po,List.drop_succ_cons,List.drop_zero]
 refine qY (fun j hj=>?_) ?_
 ·rw[hl]
  simp only[List.mem_cons,List.mem_nil_iff,or_false] at hj
  omega
 have hn1:s1.h.next=s.h.next:=by rw[hh]
 refine du (b:=s.h.next) (off:=0) (v:=.agg c'.cells) (cs:=[.val (.slice none 0 0),.val (.slice none 0 0),.val (.int .i64 0),.val (.string ⟨#[]⟩),.val (.int .i64 0),.val (.slice none 0 0),.val (.int .i64 0)]) (l:=c'.cells) (h':=(s1.h.alloc (.cells [.val (.slice none 0 0),.val (.slice none 0 0),.val (.int .i64 0),.val (.string ⟨#[]⟩),.val (.int .i64 0),.val (.slice none 0 0),.val (.int .i64 0)] true)).put s.h.next (some (.cells c'.cells true))) ?_ ?_ ?_ rfl ?_ rfl ?_ ?_ ?_
 ·exact U114
 ·simp-implicitDefEqProofs only[V,↓reduceIte,rA,rB,rC,reduceCtorEq,rD,rE,rF,e48]
 ·rw[ci'];rfl
 ·exact U114
 ·simp-implicitDefEqProofs only[V,↓reduceIte,rA,rB,rC,reduceCtorEq,rD,rE,rF,hn1]
  omega
 ·simp-implicitDefEqProofs only[V,↓reduceIte,rA,rB,rC,reduceCtorEq,rD,rE,rF]
  have g9:(s1.h.alloc (.cells [.val (.slice none 0 0),.val (.slice none 0 0),.val (.int .i64 0),.val (.string ⟨#[]⟩),.val (.int .i64 0),.val (.slice none 0 0),.val (.int .i64 0)] true)).get s.h.next=some (.cells [.val (.slice none 0 0),.val (.slice none 0 0),.val (.int .i64 0),.val (.string ⟨#[]⟩),.val (.int .i64 0),.val (.slice none 0 0),.val (.int .i64 0)] true):=by
   rw[←hn1]
   exact ai
  exact ym g9 rfl c'.len
 refine bV ?_
 refine⟨trivial,?_,?_,?_,?_,?_,?_,fun j hj hj8=>?_⟩
 ·exact U114
 ·exact np
 ·show s1.h.next+1=_
  rw[hn1]
 ·intro x hx
  show(AH.put _ s.h.next _).get x=_
  rw[ac om,aP om,hh]
 ·show NoTag (AH.put _ s.h.next _)
  exact NoTag.put (NoTag.alloc (by rw[hh];exact ht))
 ·exact U69
 ·exact U104
theorem f4_d1_run{s:St}{c:Cl}{C:Nat}(hb:c.hy.l.length<2^28)(hC:C<s.h.next)(g:s.h.get C=some (.cells c.cells true))(ht:NoTag s.h)(h8:s.eval (.t 8)=some (.ptr C 0)):
  Run E1 f4_d1 s fun e s'=>e=.normal∧(∃v,s'.eval (.t 9)=some v∧RowX s'.h s.h.next (c.hy.l.length+1) 4 v (Pr.cellsL (c.hy.l++[c.hd])))∧s.h.next≤s'.h.next∧(∀x,x<s.h.next→s'.h.get x=s.h.get x)∧NoTag s'.h∧s'.defers=s.defers∧∀j,j<49→j≠9→s'.eval (.t j)=s.eval (.t j):=by
 have o1:∀o,onlyT [C] (some (.ptr C o))=true:=fun o=>ba (by simp[memN])
 have vi:∀v,ids (AV.val v)=[]:=fun _=>rfl
 refine az ?_
 show DrawTo E1 dk [] s _
 simp only[dk]
 refine cx (cs:=[]) (fun j hj v hv=>by cases hj) rfl rfl (fun i hi=>by cases hi) rfl rfl ?_
 generalize hB:s.h.next=B
 have hCB:C<B:=by omega
 generalize hS2:(s.toH (s.h.alloc (.cells [] true))).put (some 49) (.own B 0 0 4 (some 0))=s2
 have e2_49:s2.eval (.t 49)=some (.own B 0 0 4 (some 0)):=by rw[←hS2];simp-implicitDefEqProofs only[V,↓reduceIte,rA,rB,rC,reduceCtorEq,rD,rE,rF]
 have e2:∀j,j<49→s2.eval (.t j)=s.eval (.t j):=fun j hj=>by
  rw[←hS2]
  simp only[St.put,St.eval_set,St.eval_toH]
  rw[if_neg om]
 have h2n:s2.h.next=B+1:=by rw[←hS2,←hB];rfl
 have g2C:s2.h.get C=some (.cells c.cells true):=by
  rw[←hS2]
  simp-implicitDefEqProofs only[V,↓reduceIte,rA,rB,rC,reduceCtorEq,rD,rE,rF]
  rw[if_neg om,g]
 have g2B:s2.h.get B=some (.cells [] true):=by
  rw[←hS2]
  simp-implicitDefEqProofs only[V,↓reduceIte,rA,rB,rC,reduceCtorEq,rD,rE,rF]
  rw[if_pos hB.symm]
 have o2:∀x,x<B→s2.h.get x=s.h.get x:=fun x hx=>by
  rw[←hS2]
  simp-implicitDefEqProofs only[V,↓reduceIte,rA,rB,rC,reduceCtorEq,rD,rE,rF]
  rw[if_neg om]
 have t2:NoTag s2.h:=by rw[←hS2];exact NoTag.alloc ht
 have d2:s2.defers=s.defers:=by rw[←hS2];simp-implicitDefEqProofs only[V,↓reduceIte,rA,rB,rC,reduceCtorEq,rD,rE,rF]
 have hq2:∀x∈[(⟨[],[],B,B+1⟩:DRec)],MildR [C] x:=fun x hx=>by
  rw[List.mem_singleton.1 hx]
  exact uB fun r hr=>by rw[List.mem_singleton.1 hr];exact hCB
 clear hS2
 have n2:∀o,niceT s2.h (some (.ptr C o))=true:=fun o=>bQ om g2C (by rw[c.ids0];rfl)
 show DrawTo E1 ((dk.drop 1).take 2++dk.drop 3) [(⟨[],[],B,B+1⟩:DRec)] _ _
 refine bj (R:=[C]) (K1:=fun s'=>s'.eval (.t 51)=some (c.hy.A Pr.cells)∧s'.defers=s2.defers∧∀j,j<50→s'.eval (.t j)=s2.eval (.t j)) ((dk.drop 1).take 2) _ s2 s2.h 3 rfl hq2 (fun r hr'=>by rw[List.mem_singleton.1 hr'];omega) rfl rfl ?_ ?_
 ·have e8s:s2.eval (.t 8)=some (.ptr C 0):=by rw[e2 8 om,h8]
  simp-implicitDefEqProofs only[dk,List.take_succ_cons,List.take_zero,List.drop_succ_cons,List.drop_zero,wpDm,aW,List.all_cons,List.all_nil,footed,V,↓reduceIte,rA,rB,rC,reduceCtorEq,rD,rE,rF,WF,e8s,g2C,n2,o1]
  intro j hj
  repeat rw[if_neg om]
 rintro s3 ⟨e51,d3,t3⟩ hh3 dn3 hl3 hq3
 have e49:s3.eval (.t 49)=some (.own B 0 0 4 (some 0)):=by rw[t3 49 om,e2_49]
 have e3:∀j,j<49→s3.eval (.t j)=s.eval (.t j):=fun j hj=>by rw[t3 j om,e2 j hj]
 have r3:RowX s3.h B 0 4 (.own B 0 0 4 (some 0)) []:=RowX.made (fun c hc=>by cases hc) rfl (Nat.le_refl _) (by rw[hh3];omega) (by rw[hh3];exact g2B)
 show DrawTo E1 (dk.drop 3) _ _ _
 simp only[dk,List.drop_succ_cons,List.drop_zero]
 refine eW (k:=0) (m:=c.hy.l.length) (lo:=B) (v:=.own B 0 0 4 (some 0)) (x:=c.hy.A Pr.cells) (cs:=[]) (new:=c.hy.l.flatMap Pr.cells) r3 (by rw[hh3];omega) (fun h _=>qM Pr.len h c.hy) (bM Pr.len _) (bv Pr.leaves _) (bD om de) (fun y hy=>by rw[Vl.ids] at hy;cases hy) e49 e51 de de (fun j hj=>?_) rfl rfl ?_
 ·exact U96
 intro rec4 v4 h4 r4 n4 o4 t4 q4
 rw[hh3] at n4 o4 t4 q4
 rw[List.nil_append,Nat.zero_add,←Pr.cellsL_eq] at r4
 have i4:∀y∈ids v4,B≤y∧y<h4.next:=fun y hy=>⟨(r4.ids y hy).1,(r4.ids y hy).2.1⟩
 have o4':∀x,x<B→h4.get x=s.h.get x:=fun x hx=>by
  rw[o4 x om (fun hv=>by simp only[AM.ids,List.mem_singleton] at hv;omega),o2 x hx]
 have g4C:h4.get C=some (.cells c.cells true):=by rw[o4' C hCB,g]
 have hq4:∀x∈dn3++[rec4],MildR [C] x:=fun x hx=>by
  rcases List.mem_append.1 hx with hx|hx
  ·exact hq3 x hx
  ·exact U105
 have hl4:(dn3++[rec4]).length=4:=by rw[List.length_append,hl3];rfl
 generalize dn3++[rec4]=dn4 at hq4 hl4
 generalize hS5:(s3.toH h4).put (some 52) v4=s5
 have e5_52:s5.eval (.t 52)=some v4:=by rw[←hS5];simp-implicitDefEqProofs only[V,↓reduceIte,rA,rB,rC,reduceCtorEq,rD,rE,rF]
 have e5':∀j,j<49→s5.eval (.t j)=s.eval (.t j):=fun j hj=>by
  rw[←e3 j hj,←hS5]
  simp only[St.put,St.eval_set,St.eval_toH]
  rw[if_neg om]
 have h5h:s5.h=h4:=by rw[←hS5];rfl
 have d5:s5.defers=s.defers:=by rw[←hS5];simp-implicitDefEqProofs only[V,↓reduceIte,rA,rB,rC,reduceCtorEq,rD,rE,rF,d3,d2]
 clear hS5
 have n5:∀o,niceT s5.h (some (.ptr C o))=true:=fun o=>bQ (cs:=c.cells) (by rw[h5h];omega) (by rw[h5h];exact g4C) (by rw[c.ids0];rfl)
 have g5C:s5.h.get C=some (.cells c.cells true):=by rw[h5h];exact g4C
 show DrawTo E1 ((dk.drop 4).take 2++dk.drop 6) _ _ _
 refine bj (R:=[C]) (K1:=fun s'=>s'.eval (.t 54)=some c.hd.av∧s'.defers=s5.defers∧∀j,j<53→s'.eval (.t j)=s5.eval (.t j)) ((dk.drop 4).take 2) dn4 s5 s5.h 6 (by rw[hl4];rfl) hq4 (fun r hr'=>by rw[List.mem_singleton.1 hr',h5h];omega) rfl (by rw[hl4];rfl) ?_ ?_
 ·have e8s:s5.eval (.t 8)=some (.ptr C 0):=by rw[e5' 8 om,h8]
  simp-implicitDefEqProofs only[dk,List.take_succ_cons,List.take_zero,List.drop_succ_cons,List.drop_zero,wpDm,aW,List.all_cons,List.all_nil,footed,V,↓reduceIte,rA,rB,rC,reduceCtorEq,rD,rE,rF,WF,e8s,g5C,n5,o1,ae]
  intro j hj
  repeat rw[if_neg om]
 rintro s6 ⟨e54,d6,t6⟩ hh6 dn6 hl6 hq6
 have e6:∀j,j<49→s6.eval (.t j)=s.eval (.t j):=fun j hj=>by rw[t6 j om,e5' j hj]
 have e6_52:s6.eval (.t 52)=some v4:=by rw[t6 52 om,e5_52]
 have h6h:s6.h=h4:=by rw[hh6,h5h]
 show DrawTo E1 (dk.drop 6) _ _ _
 simp only[dk,List.drop_succ_cons,List.drop_zero]
 refine cx (cs:=c.hd.cells) (fun j hj v hv=>?_) rfl ?_ (fun i hi=>?_) rfl rfl ?_
 ·rw[List.mem_singleton.1 hj,e54] at hv
  cases hv
  rw[c.hd.idsA]
  rfl
 ·exact gM (v:=c.hd.av) e54 rfl c.hd.len rfl
 ·rw[hl6]
  simp only[List.mem_cons,List.mem_nil_iff,or_false] at hi
  omega
 generalize hB2:s6.h.next=B2
 have hB2':h4.next=B2:=by rw[←hB2,h6h]
 generalize hS7:(s6.toH (s6.h.alloc (.cells c.hd.cells true))).put (some 55) (.own B2 0 1 4 (some 1))=s7
 have e7_55:s7.eval (.t 55)=some (.own B2 0 1 4 (some 1)):=by rw[←hS7];simp-implicitDefEqProofs only[V,↓reduceIte,rA,rB,rC,reduceCtorEq,rD,rE,rF]
 have e7_52:s7.eval (.t 52)=some v4:=by rw[←hS7];simp-implicitDefEqProofs only[V,↓reduceIte,rA,rB,rC,reduceCtorEq,rD,rE,rF,e6_52]
 have e7:∀j,j<49→s7.eval (.t j)=s.eval (.t j):=fun j hj=>by
  rw[←e6 j hj,←hS7]
  simp only[St.put,St.eval_set,St.eval_toH]
  rw[if_neg om]
 have h7n:s7.h.next=B2+1:=by rw[←hS7,←hB2];rfl
 have g7B:s7.h.get B2=some (.cells c.hd.cells true):=by
  rw[←hS7]
  simp-implicitDefEqProofs only[V,↓reduceIte,rA,rB,rC,reduceCtorEq,rD,rE,rF]
  rw[if_pos hB2.symm]
 have o7:∀x,x<B2→s7.h.get x=h4.get x:=fun x hx=>by
  rw[←hS7]
  simp-implicitDefEqProofs only[V,↓reduceIte,rA,rB,rC,reduceCtorEq,rD,rE,rF]
  rw[if_neg om,h6h]
 have t7:NoTag s7.h:=by rw[←hS7];exact NoTag.alloc (by rw[h6h];exact t4 t2)
 have d7:s7.defers=s.defers:=by rw[←hS7];simp-implicitDefEqProofs only[V,↓reduceIte,rA,rB,rC,reduceCtorEq,rD,rE,rF,d6,d5]
 clear hS7
 have r7:RowX s7.h B c.hy.l.length 4 v4 (Pr.cellsL c.hy.l):=r4.toB om fun x hx=>o7 x (by have:=(i4 x hx).2;omega)
 refine eW (k:=c.hy.l.length) (m:=1) (lo:=B) (v:=v4) (x:=.own B2 0 1 4 (some 1)) (cs:=Pr.cellsL c.hy.l) (new:=c.hd.cells) r7 om (fun h gy=>cE (by rw[gy B2 (by simp only[AM.ids,List.mem_singleton]),g7B]) (by rw[c.hd.len])) (by rw[c.hd.len]) c.hd.leaves (bD om de) (fun y hy=>?_) e7_52 e7_55 de de (fun j hj=>?_) rfl rfl ?_
 ·exact U106
 ·exact U96
 intro rec8 v8 h8' r8 n8 o8 t8 _
 have ec:Pr.cellsL c.hy.l++c.hd.cells=Pr.cellsL (c.hy.l++[c.hd]):=by rw[dl];simp only[Pr.cellsL,List.append_nil]
 rw[ec] at r8
 refine bY (v:=v8) rfl rfl ?_ ?_ (fun i hi=>by cases hi) ?_
 ·simp-implicitDefEqProofs only[V,↓reduceIte,rA,rB,rC,reduceCtorEq,rD,rE,rF,List.all_cons,List.all_nil,r8.nice]
 ·exact U97
 refine bV ?_
 refine⟨trivial,⟨v8,?_,?_⟩,?_,?_,?_,?_,fun j hj hj9=>?_⟩
 ·exact U28
 ·exact U107
 ·exact U53
 ·intro x hx
  simp-implicitDefEqProofs only[V,↓reduceIte,rA,rB,rC,reduceCtorEq,rD,rE,rF]
  rw[o8 x om (fun hv=>by have:=(i4 x hv).1;omega),o7 x om,o4' x hx]
 ·simp-implicitDefEqProofs only[V,↓reduceIte,rA,rB,rC,reduceCtorEq,rD,rE,rF]
  exact t8 t7
 ·exact U127
 ·rw[←e7 j hj]
  simp only[St.put,St.eval_set,St.eval_toH]
  repeat rw[if_neg om]
theorem RowX.is{h:AH}{lo k es:Nat}{v:AV}{cs:List AV}(r:RowX h lo k es v cs)(hk:0<k):∃b cap,v=.own b 0 k es cap∧lo≤b∧b<h.next∧h.get b=some (.cells cs true):=by
 rcases r with⟨_,_,⟨h0,_⟩|⟨b,b1,b2,_,rfl,b5⟩⟩|⟨_,_,b,b1,b2,rfl,b5⟩
 ·omega
 ·exact⟨b,none,rfl,b1,b2,b5⟩
 ·exact⟨b,some k,rfl,b1,b2,b5⟩
theorem f4_d2_run{s:St}{H:Hn}{c:Cl}{Vx:Evr}{L r:List Pr}{p:Pr}{i B C lo:Nat}{cap:Option Nat}(hd:L.drop i=p::r)(hL:L.length<2^28)(hp:p.nodes<2^28)(hV:EvB Vx)(hV24:∀h,RunCall E1 (.f 24) [.agg H.cells,.agg c.cells] h (.agg Vx.cells) h)
  (hb:p.nodes≤400→p.depth≤40→boolS Vx p=0) (hn:0<s.h.next) (hC:C<s.h.next) (hB:B<s.h.next) (g0:s.h.get 0=some (.cells H.cells true)) (gC:s.h.get C=some (.cells c.cells true)) (gB:s.h.get B=some (.cells (Pr.cellsL L) true))
  (h2:s.eval (.t 2)=some (.ptr 0 0)) (h8:s.eval (.t 8)=some (.ptr C 0)) (h9:s.eval (.t 9)=some (.own B 0 L.length 4 cap)) (h10:s.eval (.t 10)=some (.val (.int .i64 (i:Nat)))):
  Run E1 f4_d2 s fun e s'=>e=.normal∧s'.eval (.t 102)=some (.val (.bool false))∧s'.h=s.h∧s'.defers=s.defers∧∀j,j<70→s'.eval (.t j)=s.eval (.t j):=by
 have hil:i<L.length:=aV hd
 have li:idsL (Pr.cellsL L)=[]:=by
  rw[Pr.cellsL_eq]
  exact bo (bv Pr.leaves _)
 have n0:∀o,niceT s.h (some (.ptr 0 o))=true:=fun o=>bQ hn g0 (by rw[H.ids0];rfl)
 have nC:∀o,niceT s.h (some (.ptr C o))=true:=fun o=>bQ hC gC (by rw[c.ids0];rfl)
 have nB:∀o,niceT s.h (some (.ptr B o))=true:=fun o=>bQ hB gB (by rw[li];rfl)
 have nO:niceT s.h (some (.own B 0 L.length 4 cap))=true:=nB 0
 have o0:∀o,onlyT [0,C,B] (some (.ptr 0 o))=true:=fun o=>ba (by simp[memN])
 have oC:∀o,onlyT [0,C,B] (some (.ptr C o))=true:=fun o=>ba (by simp[memN])
 have oB:∀o,onlyT [0,C,B] (some (.ptr B o))=true:=fun o=>ba (by simp[memN])
 have vi:∀v,ids (AV.val v)=[]:=fun _=>rfl
 have ui:ids undefA=[]:=rfl
 have hi:ids (AV.agg H.cells)=[]:=H.ids0
 have ci:ids (AV.agg c.cells)=[]:=c.ids0
 have ei:ids (AV.agg Vx.cells)=[]:=Vx.ids0
 have ix:idxAddrSV 4 (.own B 0 L.length 4 cap) i=some (.ptr B (0+i*4)):=by
  have h1:Nat.blt i L.length=true:=Nat.blt_eq.mpr hil
  simp only[idxAddrSV,h1,Nat.beq_refl,Bool.and_self,cond_true]
 have cf:cfB (some (.cells (Pr.cellsL L) true)) (i*4)=some (p.cells++Pr.cellsL r):=by
  have h1:Nat.ble (i*4) (Pr.cellsL L).length=true:=Nat.ble_eq.mpr (by rw[cX];omega)
  simp only[cfB,h1,cond_true]
  rw[eA,hd,Pr.cellsL]
 refine az ?_
 have hR:∀r∈[0,C,B],r<s.h.next:=fun r hr'=>by
  simp only[List.mem_cons,List.mem_nil_iff,or_false] at hr'
  omega
 obtain⟨c1,q1⟩:∃b,decide (((p.nodes:Nat):Int)≤400)=b:=⟨_,rfl⟩
 show DrawTo E1 (cD.take 7++cD.drop 7) [] s _
 refine bj (R:=[0,C,B]) (K1:=fun s'=>s'.eval (.t 76)=some (.val (.bool c1))∧s'.defers=s.defers∧∀j,j<70→s'.eval (.t j)=s.eval (.t j)) (cD.take 7) [] s s.h 7 rfl (fun x hx=>by cases hx) hR rfl rfl ?_ ?_
 ·simp-implicitDefEqProofs only[cD,List.take_succ_cons,List.take_zero,wpDm,aW,List.all_cons,List.all_nil,footed,V,↓reduceIte,rA,rB,rC,reduceCtorEq,rD,rE,rF,WF,h9,h10,gB,nB,nO,oB,ix,cf,ae,ab,ak (vi _),aM p.idsA,aK p.idsA]
  refine⟨_,iv p om,?_⟩
  simp-implicitDefEqProofs only[wpDm,aW,List.all_cons,List.all_nil,footed,V,↓reduceIte,rA,rB,rC,reduceCtorEq,rD,rE,rF,WF,ab,q1]
  intro j hj
  repeat rw[if_neg om]
 rintro s1 ⟨e76,d1,t1⟩ hh1 dn1 hl1 hq1
 obtain⟨c2,q2⟩:∃b,decide (((p.depth:Nat):Int)≤40)=b:=⟨_,rfl⟩
 have a9:s1.eval (.t 9)=some (.own B 0 L.length 4 cap):=by rw[t1 9 om,h9]
 have a10:s1.eval (.t 10)=some (.val (.int .i64 (i:Nat))):=by rw[t1 10 om,h10]
 have a2:s1.eval (.t 2)=some (.ptr 0 0):=by rw[t1 2 om,h2]
 have a8:s1.eval (.t 8)=some (.ptr C 0):=by rw[t1 8 om,h8]
 show DrawTo E1 ((cD.drop 7).take 8++cD.drop 15) dn1 s1 _
 refine bj (R:=[0,C,B]) (K1:=fun s'=>s'.eval (.t 84)=some (.val (.bool (c1&&c2)))∧s'.defers=s.defers∧∀j,j<70→s'.eval (.t j)=s.eval (.t j)) ((cD.drop 7).take 8) dn1 s1 s.h 15 (by rw[hl1];rfl) hq1 (by rw[hh1];exact hR) hh1 (by rw[hl1];rfl) ?_ ?_
 ·cases c1 with
  |false=>
   simp-implicitDefEqProofs only[cD,List.take_succ_cons,List.take_zero,List.drop_succ_cons,List.drop_zero,wpDm,aW,bc,cr,ct,List.all_cons,List.all_nil,footed,V,↓reduceIte,rA,rB,rC,reduceCtorEq,rD,rE,rF,WF,hh1,e76,a9,a10,gB,nB,nO,oB,ix,cf,ae,ab,ak (vi _),aM ui,ak ui,aK ui,d1]
   intro j hj
   rw[←t1 j hj]
   repeat rw[if_neg om]
  |true=>
   simp-implicitDefEqProofs only[cD,List.take_succ_cons,List.take_zero,List.drop_succ_cons,List.drop_zero,wpDm,aW,bc,cr,ct,List.all_cons,List.all_nil,footed,V,↓reduceIte,rA,rB,rC,reduceCtorEq,rD,rE,rF,WF,hh1,e76,a9,a10,gB,nB,nO,oB,ix,cf,ae,ab,eP,ak (vi _),aM p.idsA,aK p.idsA]
   refine⟨_,jc p om,?_⟩
   simp-implicitDefEqProofs only[wpDm,aW,bc,cr,ct,List.all_cons,List.all_nil,footed,V,↓reduceIte,rA,rB,rC,reduceCtorEq,rD,rE,rF,WF,hh1,e76,ab,q2,d1]
   intro j hj
   rw[←t1 j hj]
   repeat rw[if_neg om]
 rintro s2 ⟨e84,d2,t2⟩ hh2 dn2 hl2 hq2
 have b9:s2.eval (.t 9)=some (.own B 0 L.length 4 cap):=by rw[t2 9 om,h9]
 have b10:s2.eval (.t 10)=some (.val (.int .i64 (i:Nat))):=by rw[t2 10 om,h10]
 have b2:s2.eval (.t 2)=some (.ptr 0 0):=by rw[t2 2 om,h2]
 have b8:s2.eval (.t 8)=some (.ptr C 0):=by rw[t2 8 om,h8]
 show DrawTo E1 ((cD.drop 15).take 11++cD.drop 26) dn2 s2 _
 refine bj (R:=[0,C,B]) (K1:=fun s'=>s'.eval (.t 95)=some (.val (.bool false))∧s'.defers=s.defers∧∀j,j<70→s'.eval (.t j)=s.eval (.t j)) ((cD.drop 15).take 11) dn2 s2 s.h 26 (by rw[hl2];rfl) hq2 (by rw[hh2];exact hR) hh2 (by rw[hl2];rfl) ?_ ?_
 ·cases hc:c1&&c2 with
  |false=>
   rw[hc] at e84
   simp-implicitDefEqProofs only[cD,List.take_succ_cons,List.take_zero,List.drop_succ_cons,List.drop_zero,wpDm,aW,bc,cr,ct,List.all_cons,List.all_nil,footed,V,↓reduceIte,rA,rB,rC,reduceCtorEq,rD,rE,rF,WF,hh2,e84,b2,b8,b9,b10,n0,nC,nO,o0,oC,ab,ak (vi _),aM ui,ak ui,aK ui,d2]
   intro j hj
   rw[←t2 j hj]
   repeat rw[if_neg om]
  |true=>
   rw[hc] at e84
   rw[Bool.and_eq_true] at hc
   have z1:=of_decide_eq_true (q1.trans hc.1)
   have z2:=of_decide_eq_true (q2.trans hc.2)
   have hbool:=eD Vx hV p om
   rw[hb om om] at hbool
   simp-implicitDefEqProofs only[cD,List.take_succ_cons,List.take_zero,List.drop_succ_cons,List.drop_zero,wpDm,aW,bc,cr,ct,List.all_cons,List.all_nil,footed,V,↓reduceIte,rA,rB,rC,reduceCtorEq,rD,rE,rF,WF,hh2,e84,b2,b8,b9,b10,g0,gC,gB,n0,nC,nB,nO,o0,oC,oB,ix,cf,ae,ab,eP,ak (vi _),aM hi,aK hi,aM ci,aK ci]
   refine⟨_,hV24,?_⟩
   simp-implicitDefEqProofs only[wpDm,aW,bc,cr,ct,List.all_cons,List.all_nil,footed,V,↓reduceIte,rA,rB,rC,reduceCtorEq,rD,rE,rF,WF,hh2,e84,b9,b10,gB,nB,nO,oB,ix,cf,ae,ab,eP,ak (vi _),aM p.idsA,aK p.idsA,aM ei,aK ei]
   refine⟨_,hbool,?_⟩
   simp-implicitDefEqProofs only[wpDm,aW,bc,cr,ct,List.all_cons,List.all_nil,footed,V,↓reduceIte,rA,rB,rC,reduceCtorEq,rD,rE,rF,WF,hh2,e84,ab,ak (vi _),d2]
   intro j hj
   rw[←t2 j hj]
   repeat rw[if_neg om]
 rintro s3 ⟨e95,d3,t3⟩ hh3 dn3 hl3 hq3
 have k9:s3.eval (.t 9)=some (.own B 0 L.length 4 cap):=by rw[t3 9 om,h9]
 have k10:s3.eval (.t 10)=some (.val (.int .i64 (i:Nat))):=by rw[t3 10 om,h10]
 show DrawTo E1 (cD.drop 26) dn3 s3 _
 have fin:(cD.drop 26)=(cD.drop 26)++[]:=by rw[List.append_nil]
 rw[fin]
 refine bj (R:=[0,C,B]) (K1:=fun s'=>s'.eval (.t 102)=some (.val (.bool false))∧s'.defers=s.defers∧∀j,j<70→s'.eval (.t j)=s.eval (.t j)) (cD.drop 26) dn3 s3 s.h 33 (by rw[hl3];rfl) hq3 (by rw[hh3];exact hR) hh3 (by rw[hl3];rfl) ?_ ?_
 ·simp-implicitDefEqProofs only[cD,List.take_succ_cons,List.take_zero,List.drop_succ_cons,List.drop_zero,wpDm,aW,bc,cr,ct,List.all_cons,List.all_nil,footed,V,↓reduceIte,rA,rB,rC,reduceCtorEq,rD,rE,rF,WF,hh3,e95,k9,k10,nO,ab,ak (vi _),aM ui,ak ui,aK ui,d3]
  intro j hj
  rw[←t3 j hj]
  repeat rw[if_neg om]
 rintro s4 ⟨e102,d4,t4⟩ hh4 dn4 hl4 hq4
 exact bV ⟨rfl,e102,hh4,d4,t4⟩
end Go.Proofs.YtkhblipgiijoiaaGreatDoor
