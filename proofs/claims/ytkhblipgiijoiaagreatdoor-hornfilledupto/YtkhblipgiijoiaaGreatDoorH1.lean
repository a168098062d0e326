/- A part of the proof about filled horn systems: ZHenv ZHfill. -/
import Derived.Test.YtkhblipgiijoiaaGreatDoorU0
import Derived.Test.YtkhblipgiijoiaaGreatDoorD4

set_option linter.all false
open Nat renaming reduceEqDiff → rA, reduceAdd → rB, reduceMul → rC
open Int renaming reduceEq → rD, reduceLT → rE, reduceLE → rF
namespace Go.Proofs.YtkhblipgiijoiaaGreatDoor
open Go Go.AM
set_option maxHeartbeats 4000000
theorem bv{α:Type}{f:α→List AV}(hf:∀a,∀v∈f a,Leaf v)(l:List α):∀v∈l.flatMap f,Leaf v:=fun v hv=>by
 obtain⟨a,_,h⟩:=List.mem_flatMap.1 hv
 exact hf a v h
theorem Vr.leaves(a:Vr):∀v∈a.cells,Leaf v:=fun v hv=>by
 simp only[Vr.cells,List.mem_cons,List.mem_nil_iff,or_false] at hv
 rcases hv with rfl|rfl<;>exact Leaf.val _
theorem Sm.leaves(a:Sm):∀v∈a.cells,Leaf v:=fun v hv=>by
 simp only[Sm.cells,List.mem_cons,List.mem_nil_iff,or_false] at hv
 rcases hv with rfl|rfl|rfl
 ·exact Leaf.val _
 ·exact Vl.leaf
 ·exact Leaf.val _
theorem Ho.leaves(a:Ho):∀v∈a.cells,Leaf v:=fun v hv=>by
 simp only[Ho.cells,List.mem_cons,List.mem_nil_iff,or_false] at hv
 rcases hv with rfl|rfl
 ·exact Leaf.val _
 ·exact Vl.leaf
theorem Evr.leaves(a:Evr):∀v∈a.cells,Leaf v:=fun v hv=>by
 simp only[Evr.cells,List.mem_cons,List.mem_nil_iff,or_false] at hv
 rcases hv with rfl|rfl|rfl<;>exact Vl.leaf
theorem Hn.idsA(h:Hn):ids (AV.agg h.cells)=[]:=h.ids0
theorem Cl.idsA(c:Cl):ids (AV.agg c.cells)=[]:=c.ids0
theorem yf{a b c:AV}:takeN (some 3) [a,b,c]=some (.agg [a,b,c]):=rfl
theorem f24_d0_run{s:St}{H:Hn}{c:Cl}{v:Evr}(c1:∀h,RunCall E1 (.f 45) [c.vs.A Vr.cells] h (v.vs.A Vr.cells) h)(c2:∀h,RunCall E1 (.f 50) [H.sy.A Sm.cells] h (v.sy.A Sm.cells) h)(c3:∀h,RunCall E1 (.f 51) [H.hs.A Ho.cells] h (v.hs.A Ho.cells) h)
  (hn:s.h.next=3) (g0:s.h.get 0=some (.cells H.cells true)) (g1:s.h.get 1=some (.cells c.cells true)) (g2:s.h.get 2=some (.cells [.val (.slice none 0 0),.val (.slice none 0 0),.val (.slice none 0 0)] true)) (h2:s.eval (.t 2)=some (.ptr 0 0)) (h3:s.eval (.t 3)=some (.ptr 1 0)) (h4:s.eval (.t 4)=some (.ptr 2 0)):
  Run E1 f24_d0 s fun e s'=>e=.normal∧s'.eval (.t 4)=some (.ptr 2 0)∧s'.h.get 2=some (.cells v.cells true)∧s'.defers=s.defers:=by
 have n0:∀o,niceT s.h (some (.ptr 0 o))=true:=fun o=>bQ om g0 (by rw[H.ids0];rfl)
 have n1:∀o,niceT s.h (some (.ptr 1 o))=true:=fun o=>bQ om g1 (by rw[c.ids0];rfl)
 have o0:∀o,onlyT [0,1,2] (some (.ptr 0 o))=true:=fun o=>ba (by simp[memN])
 have o1:∀o,onlyT [0,1,2] (some (.ptr 1 o))=true:=fun o=>ba (by simp[memN])
 refine az ?_
 show DrawTo E1 (vO.take 10++vO.drop 10) [] s _
 refine cO (R:=[0,1,2]) _ [] s rfl (fun x hx=>by cases hx) (fun r hr'=>by
  simp only[List.mem_cons,List.mem_nil_iff,or_false] at hr'
  omega) ?_
 simp-implicitDefEqProofs only[vO,List.take_succ_cons,List.take_zero,List.drop_succ_cons,List.drop_zero,wpDm,aW,List.all_cons,List.all_nil,footed,V,↓reduceIte,rA,rB,rC,reduceCtorEq,rD,rE,rF,WF,h2,h3,g0,g1,n0,n1,o0,o1,aM Vl.ids,aK Vl.ids]
 refine⟨_,c1,?_⟩
 simp-implicitDefEqProofs only[wpDm,aW,List.all_cons,List.all_nil,footed,V,↓reduceIte,rA,rB,rC,reduceCtorEq,rD,rE,rF,WF,h2,h3,g0,g1,n0,n1,o0,o1,aM Vl.ids,aK Vl.ids]
 refine⟨_,c2,?_⟩
 simp-implicitDefEqProofs only[wpDm,aW,List.all_cons,List.all_nil,footed,V,↓reduceIte,rA,rB,rC,reduceCtorEq,rD,rE,rF,WF,h2,h3,g0,g1,n0,n1,o0,o1,aM Vl.ids,aK Vl.ids]
 refine⟨_,c3,?_⟩
 simp-implicitDefEqProofs only[wpDm,aW,List.all_cons,List.all_nil,footed,V,↓reduceIte,rA,rB,rC,reduceCtorEq,rD,rE,rF,WF,h2,h3,g0,g1,n0,n1,o0,o1,aM Vl.ids,aK Vl.ids]
 intro _ done hdl hdm
 have hst:storeH s.h 3 (.ptr 2 0) v.cells=some (s.h.put 2 (some (.cells v.cells true))):=ym g2 rfl rfl
 refine du (b:=2) (off:=0) (v:=.agg v.cells) (cs:=[.val (.slice none 0 0),.val (.slice none 0 0),.val (.slice none 0 0)]) (l:=v.cells) (h':=s.h.put 2 (some (.cells v.cells true))) ?_ ?_ ?_ rfl ?_ rfl ?_ ?_ ?_
 ·exact U121
 ·exact U66
 ·show below s.h.next (idsL v.cells)=true
  rw[v.ids0]
  rfl
 ·exact U122
 ·exact U82
 ·simp-implicitDefEqProofs only[V,↓reduceIte,rA,rB,rC,reduceCtorEq,rD,rE,rF]
  exact hst
 refine bV ?_
 exact U121
theorem qL(H:Hn)(c:Cl)(b1:c.vs.l.length<2^31)(b2:H.sy.l.length<2^31)(b3:H.hs.l.length<2^31):∃v:Evr,v.vs.l=c.vs.l∧v.sy.l=H.sy.l∧v.hs.l=H.hs.l∧∀h,RunCall E1 (.f 24) [.agg H.cells,.agg c.cells] h (.agg v.cells) h:=by
 obtain⟨vs,e1,c1⟩:=fF c.vs (bv Vr.leaves _) b1
 obtain⟨sy,e2,c2⟩:=vk H.sy (bv Sm.leaves _) b2
 obtain⟨hs,e3,c3⟩:=vj H.hs (bv Ho.leaves _) b3
 refine⟨⟨vs,sy,hs⟩,e1,e2,e3,fun h=>bw kr f24_ok (mem2 (Tree.hn H) (Tree.cl c)) (fun s hs' hh hd hr=>?_) h⟩
 have h0:=hs' 0 _ rfl
 have h1:=hs' 1 _ rfl
 simp-implicitDefEqProofs only[f24_fn,f24,V,↓reduceIte,rA,rB,rC,reduceCtorEq,rD,rE,rF,WB,h0,h1,hh]
 refine(f24_d0_run (H:=H) (c:=c) (v:=⟨vs,sy,hs⟩) c1 c2 c3 ?_ ?_ ?_ ?_ ?_ ?_ ?_).mono ?_
 all_goals try simp-implicitDefEqProofs only[V,↓reduceIte,rA,rB,rC,reduceCtorEq,rD,rE,rF]
 rintro e s1 ⟨rfl,e2,e3,e4⟩
 try simp-implicitDefEqProofs only[V,↓reduceIte,rA,rB,rC,reduceCtorEq,rD,rE,rF,hd] at e4
 simp-implicitDefEqProofs only[V,↓reduceIte,rA,rB,rC,reduceCtorEq,rD,rE,rF,WB,WF,e2,e3,e4]
 exact⟨_,rfl,1,de,cJ (Evr.leaves ⟨vs,sy,hs⟩)⟩
theorem put_24{a b c d e f g:AV}{l:List AV}(h:l.length=4):putC [a,b,c,d,e,f,g] 2 4 l=some (a::b::(l++[g])):=by
 match l,h with
 | [w,x,y,z],_=>rfl
theorem put_61{a b x g:AV}{l:List AV}(h:l.length=4):putC (a::b::(l++[g])) 6 1 [x]=some (a::b::(l++[x])):=by
 match l,h with
 | [w,x',y,z],_=>rfl
theorem cl_f2{c:Cl}{rw:Bool}{l:List AV}:takeN (some 4) (c.hd.cells++l)=some (.agg c.hd.cells):=ae _ _
theorem cl_f6{c:Cl}{rw:Bool}:cfB (some (.cells c.cells rw)) 6=some [.val (.int .i64 c.tag)]:=by
 have h:c.cells=[c.vs.A Vr.cells,c.hy.A Pr.cells,.val (.int .i64 c.hd.op),.val (.string c.hd.nm),.val (.int .i64 c.hd.n),c.hd.kids,.val (.int .i64 c.tag)]:=by
  simp only[Cl.cells,Pr.cells_eq,List.cons_append,List.nil_append]
 rw[h]
 rfl
def clB(vs:Vl Vr)(v:AV)(hd:Pr)(tag:Int):List AV:=vs.A Vr.cells::v::(hd.cells++[.val (.int .i64 tag)])
theorem vm{vs:Vl Vr}{v:AV}{hd:Pr}{tag:Int}:(clB vs v hd tag).length=7:=by simp only[clB,List.length_cons,List.length_append,hd.len,List.length_nil]
theorem f19_d0_run{s:St}{H:Hn}{c:Cl}{S:Vl So}{vs:Vl Vr}{q:Pr}(c1:∀h,RunCall E1 (.f 45) [c.vs.A Vr.cells] h (vs.A Vr.cells) h)(c2:∀h,RunCall E1 (.f 46) [c.hd.av,H.hs.A Ho.cells,S.A So.cells] h q.av h)
  (hn:s.h.next=3) (g0:s.h.get 0=some (.cells H.cells true)) (g1:s.h.get 1=some (.cells c.cells true)) (h1:s.eval (.t 1)=some (S.A So.cells)) (h3:s.eval (.t 3)=some (.ptr 0 0)) (h5:s.eval (.t 5)=some (.ptr 1 0)):
  Run E1 f19_d0 s fun e s'=>e=.normal∧s'.eval (.t 7)=some (.ptr 3 0)∧s'.h.get 3=some (.cells (clB vs (.val (.slice none 0 0)) q c.tag) true)∧s'.h.next=4∧(∀x,x<3→s'.h.get x=s.h.get x)∧s'.defers=s.defers∧∀j,j<7→s'.eval (.t j)=s.eval (.t j):=by
 have n0:∀o,niceT s.h (some (.ptr 0 o))=true:=fun o=>bQ om g0 (by rw[H.ids0];rfl)
 have n1:∀o,niceT s.h (some (.ptr 1 o))=true:=fun o=>bQ om g1 (by rw[c.ids0];rfl)
 have o0:∀o,onlyT [0,1] (some (.ptr 0 o))=true:=fun o=>ba (by simp[memN])
 have o1:∀o,onlyT [0,1] (some (.ptr 1 o))=true:=fun o=>ba (by simp[memN])
 have vi:∀n,ids (AV.val (.int .i64 n))=[]:=fun _=>rfl
 refine az ?_
 show DrawTo E1 (vS.take 12++vS.drop 12) [] s _
 refine cO (R:=[0,1]) _ [] s rfl (fun x hx=>by cases hx) (fun r hr'=>by
  simp only[List.mem_cons,List.mem_nil_iff,or_false] at hr'
  omega) ?_
 simp-implicitDefEqProofs only[vS,List.take_succ_cons,List.take_zero,List.drop_succ_cons,List.drop_zero,wpDm,aW,List.all_cons,List.all_nil,footed,V,↓reduceIte,rA,rB,rC,reduceCtorEq,rD,rE,rF,WF,h1,h3,h5,g0,g1,n0,n1,o0,o1,aM Vl.ids,aK Vl.ids]
 refine⟨_,c1,?_⟩
 simp-implicitDefEqProofs only[wpDm,aW,List.all_cons,List.all_nil,footed,V,↓reduceIte,rA,rB,rC,reduceCtorEq,rD,rE,rF,WF,h1,h3,h5,g0,g1,n0,n1,o0,o1,aM Vl.ids,aK Vl.ids,cl_f2,aM c.hd.idsA,aK c.hd.idsA]
 refine⟨_,c2,?_⟩
 simp-implicitDefEqProofs only[wpDm,aW,List.all_cons,List.all_nil,footed,V,↓reduceIte,rA,rB,rC,reduceCtorEq,rD,rE,rF,WF,h1,h3,h5,g0,g1,n0,n1,o0,o1,aM Vl.ids,aK Vl.ids,cl_f2,cl_f6,aM q.idsA,aK q.idsA,aM (vi _),put_24 q.len,put_61 q.len]
 intro _ done hdl hdm
 have hdl:done.length=12:=hdl
 refine qY (fun j hj=>?_) ?_
 ·exact U83
 have g3:(s.h.alloc (.cells [.val (.slice none 0 0),.val (.slice none 0 0),.val (.int .i64 0),.val (.string ⟨#[]⟩),.val (.int .i64 0),.val (.slice none 0 0),.val (.int .i64 0)] true)).get 3=some (.cells [.val (.slice none 0 0),.val (.slice none 0 0),.val (.int .i64 0),.val (.string ⟨#[]⟩),.val (.int .i64 0),.val (.slice none 0 0),.val (.int .i64 0)] true):=by
  have:=ai (h:=s.h) (x:=.cells [.val (.slice none 0 0),.val (.slice none 0 0),.val (.int .i64 0),.val (.string ⟨#[]⟩),.val (.int .i64 0),.val (.slice none 0 0),.val (.int .i64 0)] true)
  rwa [hn] at this
 have hbi:idsL (clB vs (.val (.slice none 0 0)) q c.tag)=[]:=by
  have:idsL (q.cells++[AV.val (.int .i64 c.tag)])=[]:=jD q.ids0 rfl
  simp only[clB,idsL,Vl.ids,List.nil_append,this]
  rfl
 refine du (b:=3) (off:=0) (v:=.agg (clB vs (.val (.slice none 0 0)) q c.tag)) (cs:=[.val (.slice none 0 0),.val (.slice none 0 0),.val (.int .i64 0),.val (.string ⟨#[]⟩),.val (.int .i64 0),.val (.slice none 0 0),.val (.int .i64 0)]) (l:=clB vs (.val (.slice none 0 0)) q c.tag) (h':=(s.h.alloc (.cells [.val (.slice none 0 0),.val (.slice none 0 0),.val (.int .i64 0),.val (.string ⟨#[]⟩),.val (.int .i64 0),.val (.slice none 0 0),.val (.int .i64 0)] true)).put 3 (some (.cells (clB vs (.val (.slice none 0 0)) q c.tag) true))) ?_ ?_ ?_ rfl ?_ rfl ?_ ?_ ?_
 ·exact U68
 ·simp-implicitDefEqProofs only[V,↓reduceIte,rA,rB,rC,reduceCtorEq,rD,rE,rF,clB]
 ·show below _ (idsL (clB vs (.val (.slice none 0 0)) q c.tag))=true
  rw[hbi]
  rfl
 ·exact U68
 ·exact U82
 ·simp-implicitDefEqProofs only[V,↓reduceIte,rA,rB,rC,reduceCtorEq,rD,rE,rF]
  exact ym g3 rfl vm
 refine bV ?_
 refine⟨?_,?_,?_,?_,?_,fun j hj=>?_⟩
 ·exact U68
 ·exact np
 ·show s.h.next+1=4
  omega
 ·intro x hx
  show(AH.put _ 3 _).get x=_
  rw[ac om,aP om]
 ·exact U28
 ·simp only[St.put,St.eval_set,St.eval_toH]
  repeat rw[if_neg om]
theorem clB_1{vs:Vl Vr}{v:AV}{q:Pr}{tag:Int}{rw:Bool}:cfB (some (.cells (clB vs v q tag) rw)) 1=some (v::(q.cells++[.val (.int .i64 tag)])):=rfl
theorem f19_d1_run{s:St}{B lo k:Nat}{v:AV}{cs:List AV}{p p' q:Pr}{H:Hn}{S:Vl So}{vs:Vl Vr}{tag:Int}(hr:RowC s.h lo k 4 v cs)(hC:3<lo)(hlo:lo≤s.h.next)(hg:s.h.get 3=some (.cells (clB vs v q tag) true))(hB:B<s.h.next)(gB:s.h.get B=some (.cells p.cells true))(hk:k<2^30)(g0:s.h.get 0=some (.cells H.cells true))
  (hc:∀h,RunCall E1 (.f 46) [p.av,H.hs.A Ho.cells,S.A So.cells] h p'.av h) (h1:s.eval (.t 1)=some (S.A So.cells)) (h3:s.eval (.t 3)=some (.ptr 0 0)) (h7:s.eval (.t 7)=some (.ptr 3 0)) (h9:s.eval (.t 9)=some (.ptr B 0)):
  Run E1 f19_d1 s fun e s'=>e=.normal∧(∃v',RowC s'.h lo (k+1) 4 v' (cs++p'.cells)∧s'.h.get 3=some (.cells (clB vs v' q tag) true))∧s.h.next≤s'.h.next∧(∀x,x<lo→x≠3→s'.h.get x=s.h.get x)∧s'.defers=s.defers∧∀i,i<29→s'.eval (.t i)=s.eval (.t i):=by
 have iY:idsL (q.cells++[AV.val (.int .i64 tag)])=[]:=jD q.ids0 rfl
 have hbc:below s.h.next (idsL (clB vs v q tag))=true:=by
  simp only[clB,idsL,Vl.ids,List.nil_append,iY,List.append_nil]
  exact hr.below
 have n0:∀o,niceT s.h (some (.ptr 0 o))=true:=fun o=>bQ om g0 (by rw[H.ids0];rfl)
 have n1:∀o,niceT s.h (some (.ptr 3 o))=true:=fun o=>bQ om hg hbc
 have n2:∀o,niceT s.h (some (.ptr B o))=true:=fun o=>bQ hB gB (by rw[p.ids0];rfl)
 have o0:∀o,onlyT [0,3,B] (some (.ptr 0 o))=true:=fun o=>ba (by simp[memN])
 have o1:∀o,onlyT [0,3,B] (some (.ptr 3 o))=true:=fun o=>ba (by simp[memN])
 have o2:∀o,onlyT [0,3,B] (some (.ptr B o))=true:=fun o=>ba (by simp[memN])
 refine az ?_
 show DrawTo E1 (vR.take 7++vR.drop 7) [] s _
 refine cO (R:=[0,3,B]) _ [] s rfl (fun x hx=>by cases hx) (fun r hr'=>by
  simp only[List.mem_cons,List.mem_nil_iff,or_false] at hr'
  omega) ?_
 simp-implicitDefEqProofs only[vR,List.take_succ_cons,List.take_zero,List.drop_succ_cons,List.drop_zero,wpDm,aW,List.all_cons,List.all_nil,footed,V,↓reduceIte,rA,rB,rC,reduceCtorEq,rD,rE,rF,h1,h3,h7,h9,hg,gB,g0,clB_1,n0,n1,n2,o0,o1,o2,aM Vl.ids,aK Vl.ids,aM p.idsA,aK p.idsA]
 refine⟨_,hc,fun _ done hdl hdm=>?_⟩
 have hdl:done.length=7:=hdl
 refine gL (C:=3) (k:=k) (lo:=lo) (v:=v) (w:=p'.av) (cs:=cs) (new:=p'.cells) (X:=[vs.A Vr.cells]) (Y:=q.cells++[AV.val (.int .i64 tag)]) hr hC hlo (by exact hg) rfl (by simp only[idsL,Vl.ids,List.append_nil]) iY ?_ ?_ rfl p'.leaves p'.idsA p'.len rfl ?_ (bD om de) (fun j hj=>?_) de de de de ?_
 ·exact U28
 ·exact U28
 ·exact U44
 ·exact U83
 intro h' v' x y u r2 g2 n2 o2
 refine⟨⟨v',r2,g2⟩,n2,o2,rfl,fun i hi=>?_⟩
 simp only[St.put,St.eval_set,St.eval_toH]
 repeat rw[if_neg om]
theorem qF{lo:Nat}{H:Hn}{S:Vl So}{vs:Vl Vr}{q:Pr}{tag:Int}{w:Vl Pr}{F:Pr→Pr}(hC:3<lo)(hN:w.l.length<2^29):
  ∀(r:List Pr) (i:Nat) (s:St) (v:AV),w.l.drop i=r→i≤w.l.length→(∀k∈r,∀h,RunCall E1 (.f 46) [k.av,H.hs.A Ho.cells,S.A So.cells] h (F k).av h)→RowC s.h lo i 4 v (Pr.cellsL ((w.l.take i).map F))→lo≤s.h.next→s.h.get 3=some (.cells (clB vs v q tag) true)→s.h.get 0=some (.cells H.cells true)→
  s.eval (.t 1)=some (S.A So.cells)→s.eval (.t 3)=some (.ptr 0 0)→s.eval (.t 7)=some (.ptr 3 0)→s.eval (.t 23)=some (w.A Pr.cells)→s.eval (.t 24)=some (.val (.int .i64 (w.l.length:Nat)))→s.eval (.t 25)=some (.val (.int .i64 (i:Nat)))→s.defers=[]→
  Run E1 vT s fun e s'=>e=.exit 0∧(∃v',RowC s'.h lo w.l.length 4 v' (Pr.cellsL (w.l.map F))∧s'.h.get 3=some (.cells (clB vs v' q tag) true))∧s.h.next≤s'.h.next∧(∀x,x<lo→x≠3→s'.h.get x=s.h.get x)∧s'.defers=[]∧∀j,j<25→j≠9→s'.eval (.t j)=s.eval (.t j)
 | [],i,s,v,hd,hi,hc,hr,hlo,hg,g0,h1,h3,h7,h23,h24,h25,hf=>by
  have hl:=aN hd hi
  subst hl
  rw[List.take_length] at hr
  apply aC (rfl:vT=.loop qG)
  simp-implicitDefEqProofs only[qG,V,↓reduceIte,rA,rB,rC,reduceCtorEq,rD,rE,rF,WB,h1,h3,h7,h23,h24,h25,hf,lt_f]
  refine⟨⟨v,hr,hg⟩,Nat.le_refl _,fun x _ _=>by first|rfl|trivial,fun j hj hj2=>?_⟩
  rw[if_neg om]
 |k::r,i,s,v,hd,hi,hc,hr,hlo,hg,g0,h1,h3,h7,h23,h24,h25,hf=>by
  have hl:=aV hd
  have hlt:=lt_t hl
  have w1:IntKind.i64.wrap ((i:Int)+1)=((i+1:Nat):Int):=aE (n:=i+1) om
  apply aC (rfl:vT=.loop qG)
  simp-implicitDefEqProofs only[qG,V,↓reduceIte,rA,rB,rC,reduceCtorEq,rD,rE,rF,WB,WF,h1,h3,h7,h23,h24,h25,hlt,w.at Pr.len hd,ae]
  refine(f19_d1_run (B:=s.h.next) (lo:=lo) (k:=i) (v:=v) (cs:=Pr.cellsL ((w.l.take i).map F)) (p:=k) (p':=F k) (q:=q) (H:=H) (S:=S) (vs:=vs) (tag:=tag) ?_ hC ?_ ?_ ?_ ?_ om ?_ (hc k List.mem_cons_self) ?_ ?_ ?_ ?_).mono ?_
  ·exact U52
  ·exact U53
  ·exact U54
  ·exact U53
  ·exact U28
  ·simp-implicitDefEqProofs only[V,↓reduceIte,rA,rB,rC,reduceCtorEq,rD,rE,rF]
   rw[if_neg om,if_neg om]
   exact g0
  ·exact U39
  ·exact U50
  ·exact U44
  ·exact U28
  rintro e s1 ⟨rfl,⟨v1,r1,g1⟩,n1,o1,d1,t1⟩
  simp-implicitDefEqProofs only[V,↓reduceIte,rA,rB,rC,reduceCtorEq,rD,rE,rF] at n1 o1 d1 t1
  have e1:s1.eval (.t 1)=some (S.A So.cells):=by rw[t1 _ de];simp-implicitDefEqProofs only[V,↓reduceIte,rA,rB,rC,reduceCtorEq,rD,rE,rF,h1]
  have e3:s1.eval (.t 3)=some (.ptr 0 0):=by rw[t1 _ de];simp-implicitDefEqProofs only[V,↓reduceIte,rA,rB,rC,reduceCtorEq,rD,rE,rF,h3]
  have e7:s1.eval (.t 7)=some (.ptr 3 0):=by rw[t1 _ de];simp-implicitDefEqProofs only[V,↓reduceIte,rA,rB,rC,reduceCtorEq,rD,rE,rF,h7]
  have e23:s1.eval (.t 23)=some (w.A Pr.cells):=by rw[t1 _ de];simp-implicitDefEqProofs only[V,↓reduceIte,rA,rB,rC,reduceCtorEq,rD,rE,rF,h23]
  have e24:s1.eval (.t 24)=some (.val (.int .i64 (w.l.length:Nat))):=by rw[t1 _ de];simp-implicitDefEqProofs only[V,↓reduceIte,rA,rB,rC,reduceCtorEq,rD,rE,rF,h24]
  have e25:s1.eval (.t 25)=some (.val (.int .i64 (i:Nat))):=by rw[t1 _ de];simp-implicitDefEqProofs only[V,↓reduceIte,rA,rB,rC,reduceCtorEq,rD,rE,rF,h25]
  have k0:s1.h.get 0=some (.cells H.cells true):=by
   rw[o1 0 om de,if_neg om,if_neg om,g0]
  simp-implicitDefEqProofs only[V,↓reduceIte,rA,rB,rC,reduceCtorEq,rD,rE,rF,WB,e25,w1]
  refine(qF (lo:=lo) (H:=H) (S:=S) (vs:=vs) (q:=q) (tag:=tag) (w:=w) (F:=F) hC hN r (i+1) _ v1 (aF hd) om (fun k' hk=>hc k' (List.mem_cons_of_mem _ hk)) ?_ ?_ ?_ ?_ ?_ ?_ ?_ ?_ ?_ ?_ ?_).mono ?_
  ·exact U55
  ·exact U53
  ·exact U56
  ·exact U84
  ·exact U85
  ·exact U57
  ·exact U59
  ·simp-implicitDefEqProofs only[V,↓reduceIte,rA,rB,rC,reduceCtorEq,rD,rE,rF,e23]
  ·simp-implicitDefEqProofs only[V,↓reduceIte,rA,rB,rC,reduceCtorEq,rD,rE,rF,e24]
  ·exact U28
  ·exact U60
  rintro e s2 ⟨rfl,⟨v2,r2,g2⟩,n2,o2,d2,t2⟩
  simp-implicitDefEqProofs only[V,↓reduceIte,rA,rB,rC,reduceCtorEq,rD,rE,rF] at n2 o2 t2
  refine⟨rfl,⟨v2,r2,g2⟩,om,fun x x1 x2=>?_,d2,fun j hj hj2=>?_⟩
  ·exact U61
  ·exact U62
theorem rep_cl{h:AH}{lo k:Nat}{vs:Vl Vr}{v:AV}{q:Pr}{tag:Int}{l:List Pr}(r:RowC h lo k 4 v (Pr.cellsL l))(hk:l.length=k):Rep h 0 h.next 2 (.agg (clB vs v q tag)) (.agg (⟨vs,⟨l,nilK,none⟩,q,tag⟩:Cl).cells):=by
 have hlf:∀c∈q.cells++[AV.val (.int .i64 tag)],Leaf c:=fun c hc=>by
  rcases List.mem_append.1 hc with hc|hc
  ·exact q.leaves c hc
  ·rw[List.mem_singleton.1 hc];exact Leaf.val _
 have e:(⟨l,nilK,none⟩:Vl Pr).A Pr.cells=(bif Nat.beq k 0 then .val (.slice none 0 0) else .imm (Pr.cellsL l) k none):=by
  rw[←cd hk,Pr.cellsL_eq]
  rfl
 have:=Rep.agg (h:=h) (lo:=0) (hi:=h.next) (n:=1) (ps:=(vs.A Vr.cells,vs.A Vr.cells)::(v,(⟨l,nilK,none⟩:Vl Pr).A Pr.cells)::(q.cells++[AV.val (.int .i64 tag)]).map fun c=>(c,c)) (fun p hp=>by
  rcases List.mem_cons.1 hp with rfl|hp
  ·exact Rep.leaf Vl.leaf
  ·rcases List.mem_cons.1 hp with rfl|hp
   ·rw[e]
    exact Rep.to (Nat.zero_le _) (Nat.le_refl _) (fun b _ _ cs rw g=>⟨rw,g⟩) (Nat.le_refl _) r.rep
   ·obtain⟨c,hc,rfl⟩:=List.mem_map.1 hp
    exact Rep.leaf (hlf c hc))
 rw[List.map_cons,List.map_cons,List.map_cons,List.map_cons,jb,ja] at this
 exact this
theorem uX(H:Hn)(S:Vl So)(c:Cl)(b1:c.vs.l.length<2^31)(b2:c.hy.l.length<2^29)(hHN:H.hs.l.length<2^29)(hH:∀h∈H.hs.l,h.ps.l.length<2^29)(hS:S.l.length<2^29)(hs:∀s∈S.l,s.p.nodes<2^29)
  (w1:c.hd.whole=true) (w2:c.hd.nodes<2^29) (w3:∀p∈c.hy.l,p.whole=true∧p.nodes<2^29):∃c':Cl,c'.vs.l=c.vs.l∧c'.hy.l=c.hy.l.map (Pr.fl H.hs.l S.l)∧c'.hd=c.hd.fl H.hs.l S.l∧∀h,RunCall E1 (.f 19) [.agg H.cells,S.A So.cells,.agg c.cells] h (.agg c'.cells) h:=by
 obtain⟨vs,e1,c1⟩:=fF c.vs (bv Vr.leaves _) b1
 refine⟨⟨vs,⟨c.hy.l.map (Pr.fl H.hs.l S.l),nilK,none⟩,c.hd.fl H.hs.l S.l,c.tag⟩,e1,rfl,rfl,fun h=>bw kr f19_ok (mem3 (Tree.hn H) Tree.vl (Tree.cl c)) (fun s hs' hh hd hr=>?_) h⟩
 have h0:=hs' 0 _ rfl
 have h1:=hs' 1 _ rfl
 have h2:=hs' 2 _ rfl
 simp-implicitDefEqProofs only[f19_fn,f19,V,↓reduceIte,rA,rB,rC,reduceCtorEq,rD,rE,rF,WB,h0,h1,h2,hh]
 refine(f19_d0_run (H:=H) (c:=c) (S:=S) (vs:=vs) (q:=c.hd.fl H.hs.l S.l) c1 (fX H.hs S hHN hH hS hs c.hd w1 w2) ?_ ?_ ?_ ?_ ?_ ?_).mono ?_
 ·exact U28
 ·exact U28
 ·exact U28
 ·exact U39
 ·exact U28
 ·exact U28
 rintro e s1 ⟨rfl,e7,g3,n1,o1,d1,t1⟩
 have k0:s1.h.get 0=some (.cells H.cells true):=by rw[o1 0 de];simp-implicitDefEqProofs only[V,↓reduceIte,rA,rB,rC,reduceCtorEq,rD,rE,rF]
 have k1:s1.h.get 1=some (.cells c.cells true):=by rw[o1 1 de];simp-implicitDefEqProofs only[V,↓reduceIte,rA,rB,rC,reduceCtorEq,rD,rE,rF]
 have k2:s1.h.get 2=some (.cells [.val (.slice none 0 0),.val (.slice none 0 0),.val (.int .i64 0),.val (.string ⟨#[]⟩),.val (.int .i64 0),.val (.slice none 0 0),.val (.int .i64 0)] true):=by rw[o1 2 de];simp-implicitDefEqProofs only[V,↓reduceIte,rA,rB,rC,reduceCtorEq,rD,rE,rF]
 have x1:s1.eval (.t 1)=some (S.A So.cells):=by rw[t1 1 de];simp-implicitDefEqProofs only[V,↓reduceIte,rA,rB,rC,reduceCtorEq,rD,rE,rF,h1]
 have x3:s1.eval (.t 3)=some (.ptr 0 0):=by rw[t1 3 de];simp-implicitDefEqProofs only[V,↓reduceIte,rA,rB,rC,reduceCtorEq,rD,rE,rF]
 have x5:s1.eval (.t 5)=some (.ptr 1 0):=by rw[t1 5 de];simp-implicitDefEqProofs only[V,↓reduceIte,rA,rB,rC,reduceCtorEq,rD,rE,rF]
 have x6:s1.eval (.t 6)=some (.ptr 2 0):=by rw[t1 6 de];simp-implicitDefEqProofs only[V,↓reduceIte,rA,rB,rC,reduceCtorEq,rD,rE,rF]
 have d1:s1.defers=[]:=by rw[d1];simp-implicitDefEqProofs only[V,↓reduceIte,rA,rB,rC,reduceCtorEq,rD,rE,rF,hd]
 simp-implicitDefEqProofs only[V,↓reduceIte,rA,rB,rC,reduceCtorEq,rD,rE,rF,WB,x5,k1]
 refine(qF (lo:=4) (H:=H) (S:=S) (vs:=vs) (q:=c.hd.fl H.hs.l S.l) (tag:=c.tag) (w:=c.hy) (F:=Pr.fl H.hs.l S.l) de b2 c.hy.l 0 _ (.val (.slice none 0 0)) rfl (Nat.zero_le _) (fun k hk h=>fX H.hs S hHN hH hS hs k (w3 k hk).1 (w3 k hk).2 h) RowC.nil ?_ ?_ ?_ ?_ ?_ ?_ ?_ ?_ ?_ ?_).mono ?_
 ·exact U53
 ·simp-implicitDefEqProofs only[V,↓reduceIte,rA,rB,rC,reduceCtorEq,rD,rE,rF]
  exact g3
 ·exact U84
 ·simp-implicitDefEqProofs only[V,↓reduceIte,rA,rB,rC,reduceCtorEq,rD,rE,rF,x1]
 ·simp-implicitDefEqProofs only[V,↓reduceIte,rA,rB,rC,reduceCtorEq,rD,rE,rF,x3]
 ·exact U59
 ·exact U28
 ·exact U28
 ·exact U66
 ·exact U69
 rintro e s2 ⟨rfl,⟨v2,r2,g2⟩,n2,o2,d2,t2⟩
 simp-implicitDefEqProofs only[V,↓reduceIte,rA,rB,rC,reduceCtorEq,rD,rE,rF] at n2 o2
 have y2:s2.h.get 2=some (.cells [.val (.slice none 0 0),.val (.slice none 0 0),.val (.int .i64 0),.val (.string ⟨#[]⟩),.val (.int .i64 0),.val (.slice none 0 0),.val (.int .i64 0)] true):=by rw[o2 2 de de,k2]
 have y6:s2.eval (.t 6)=some (.ptr 2 0):=by rw[t2 6 de de];simp-implicitDefEqProofs only[V,↓reduceIte,rA,rB,rC,reduceCtorEq,rD,rE,rF,x6]
 have y7:s2.eval (.t 7)=some (.ptr 3 0):=by rw[t2 7 de de];simp-implicitDefEqProofs only[V,↓reduceIte,rA,rB,rC,reduceCtorEq,rD,rE,rF,e7]
 have tk:takeN (some 7) (clB vs v2 (c.hd.fl H.hs.l S.l) c.tag)=some (.agg (clB vs v2 (c.hd.fl H.hs.l S.l) c.tag)):=dX vm
 have st:∀{h:AH} {b:Nat},stK h b 7 0 (clB vs v2 (c.hd.fl H.hs.l S.l) c.tag) (some (.cells [.val (.slice none 0 0),.val (.slice none 0 0),.val (.int .i64 0),.val (.string ⟨#[]⟩),.val (.int .i64 0),.val (.slice none 0 0),.val (.int .i64 0)] true))=some (h.put b (some (.cells (clB vs v2 (c.hd.fl H.hs.l S.l) c.tag) true))):=bu rfl vm
 simp-implicitDefEqProofs only[V,↓reduceIte,rA,rB,rC,reduceCtorEq,rD,rE,rF,WB,WF,y6,y7,y2,g2,tk,st,d2]
 refine⟨_,rfl,2,de,?_⟩
 have hn4:4≤s2.h.next:=by omega
 exact rep_cl (lo:=4) (r2.to (Nat.le_refl _) fun x x1 x2=>ac om) (List.length_map _)
end Go.Proofs.YtkhblipgiijoiaaGreatDoor
