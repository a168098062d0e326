/- A part of the proof about filled horn systems: ZCopy ZCopb ZFind ZSub. -/
import Derived.Test.YtkhblipgiijoiaaGreatDoorU0
import Derived.Test.YtkhblipgiijoiaaGreatDoorN5
import Derived.Test.YtkhblipgiijoiaaGreatDoorD1

set_option linter.all false
open Nat renaming reduceEqDiff → rA, reduceAdd → rB, reduceMul → rC
open Int renaming reduceEq → rD, reduceLT → rE, reduceLE → rF
namespace Go.Proofs.YtkhblipgiijoiaaGreatDoor
open Go Go.AM
set_option maxHeartbeats 4000000
theorem bQ{h:AH}{b o:Nat}{cs:List AV}(hb:b<h.next)(g:h.get b=some (.cells cs true))(hi:below h.next (idsL cs)=true):niceT h (some (.ptr b o))=true:=by
 have:Nat.blt b h.next=true:=Nat.blt_eq.mpr hb
 simp only[niceT,niceV,ids,List.all_cons,List.all_nil,this,g,hi,Bool.and_self]
theorem aM{h:AH}{v:AV}(hi:ids v=[]):niceT h (some v)=true:=by simp only[niceT,niceV,hi,List.all_nil]
theorem aK{v:AV}(hi:ids v=[]):plainT (some v)=true:=by simp only[plainT,hi];rfl
theorem ak{R:List Nat}{v:AV}(hi:ids v=[]):onlyT R (some v)=true:=by simp only[onlyT,hi,List.all_nil]
theorem ba{R:List Nat}{b o:Nat}(hi:memN R b=true):onlyT R (some (.ptr b o))=true:=by simp only[onlyT,ids,List.all_cons,List.all_nil,hi,Bool.and_self]
theorem Pr.idsA(p:Pr):ids p.av=[]:=by show idsL p.cells=[];exact p.ids0
theorem zj{s:St}{C B lo k:Nat}{v:AV}{cs X:List AV}{q q':Pr}{a1 a2:AV}(hr:RowC s.h lo k 4 v cs)(hC:C<lo)(hlo:lo≤s.h.next)(hg:s.h.get C=some (.cells (X++[v]) true))(hX:X.length=3)(iX:idsL X=[])(hB:B<s.h.next)(gB:s.h.get B=some (.cells q.cells true))(hk:k<2^30)
  (hc:∀h,RunCall E1 (.f 88) [q.av] h q'.av h) (h3:s.eval (.t 3)=some (.ptr C 0)) (h5:s.eval (.t 5)=some (.ptr B 0)):
  Run E1 f88_d0 s fun e s'=>e=.normal∧(∃v',RowC s'.h lo (k+1) 4 v' (cs++q'.cells)∧s'.h.get C=some (.cells (X++[v']) true))∧s.h.next≤s'.h.next∧(∀x,x<lo→x≠C→s'.h.get x=s.h.get x)∧s'.defers=s.defers∧∀i,i<20→s'.eval (.t i)=s.eval (.t i):=by
 have hCn:C<s.h.next:=by omega
 have hbc:below s.h.next (idsL (X++[v]))=true:=by
  rw[cq,iX]
  simp only[idsL,List.append_nil,List.nil_append]
  exact hr.below
 have n1:∀o,niceT s.h (some (.ptr C o))=true:=fun o=>bQ hCn hg hbc
 have n2:∀o,niceT s.h (some (.ptr B o))=true:=fun o=>bQ hB gB (by rw[q.ids0];rfl)
 have o1:∀o,onlyT [C,B] (some (.ptr C o))=true:=fun o=>ba (by simp[memN])
 have o2:∀o,onlyT [C,B] (some (.ptr B o))=true:=fun o=>ba (by simp[memN])
 have hdrop:cfB (some (.cells (X++[v]) true)) 3=some [v]:=by
  have hle:Nat.ble 3 (X++[v]).length=true:=Nat.ble_eq.mpr (by rw[List.length_append,hX];omega)
  simp only[cfB,hle,cond_true]
  rw[←hX,List.drop_left]
 refine az ?_
 show DrawTo E1 (uc.take 4++uc.drop 4) [] s _
 refine cO (R:=[C,B]) _ [] s rfl (fun x hx=>by cases hx) (fun r hr'=>by
  simp only[List.mem_cons,List.mem_nil_iff,or_false] at hr'
  rcases hr' with rfl|rfl
  ·exact hCn
  ·exact hB) ?_
 simp-implicitDefEqProofs only[uc,List.take_succ_cons,List.take_zero,List.drop_succ_cons,List.drop_zero,wpDm,aW,List.all_cons,List.all_nil,footed,V,↓reduceIte,rA,rB,rC,reduceCtorEq,rD,rE,rF,h3,h5,hg,gB,hdrop,n1,n2,o1,o2,aM q.idsA,aK q.idsA]
 refine⟨_,hc,fun _ done hdl hdm=>?_⟩
 refine gL (C:=C) (k:=k) (lo:=lo) (v:=v) (w:=q'.av) (cs:=cs) (new:=q'.cells) (X:=X) (Y:=[]) hr hC hlo hg hX iX rfl ?_ ?_ rfl q'.leaves q'.idsA q'.len rfl ?_ (bD om de) (fun j hj=>?_) de de de de ?_
 ·exact U28
 ·exact U28
 ·exact U50
 ·have hdl:done.length=4:=hdl
  simp only[List.mem_cons,List.mem_nil_iff,or_false] at hj
  omega
 intro h' v' x y u r2 g2 n2 o2
 refine⟨⟨v',r2,g2⟩,n2,o2,rfl,fun i hi=>?_⟩
 simp only[St.put,St.eval_set,St.eval_toH]
 repeat rw[if_neg om]
theorem yC{s:St}{C B lo k:Nat}{v:AV}{cs X:List AV}{q q':Pr}{a1 a2:AV}(hr:RowC s.h lo k 4 v cs)(hC:C<lo)(hlo:lo≤s.h.next)(hg:s.h.get C=some (.cells (X++[v]) true))(hX:X.length=3)(iX:idsL X=[])(hB:B<s.h.next)(gB:s.h.get B=some (.cells q.cells true))(hk:k<2^30)
  (hc:∀h,RunCall E1 (.f 109) [q.av,a1,a2] h q'.av h) (h3:s.eval (.t 8)=some (.ptr C 0)) (h5:s.eval (.t 10)=some (.ptr B 0)) (h1:s.eval (.t 1)=some a1) (h2:s.eval (.t 2)=some a2) (i1:ids a1=[]) (i2:ids a2=[]):
  Run E1 f109_d0 s fun e s'=>e=.normal∧(∃v',RowC s'.h lo (k+1) 4 v' (cs++q'.cells)∧s'.h.get C=some (.cells (X++[v']) true))∧s.h.next≤s'.h.next∧(∀x,x<lo→x≠C→s'.h.get x=s.h.get x)∧s'.defers=s.defers∧∀i,i<45→s'.eval (.t i)=s.eval (.t i):=by
 have hCn:C<s.h.next:=by omega
 have hbc:below s.h.next (idsL (X++[v]))=true:=by
  rw[cq,iX]
  simp only[idsL,List.append_nil,List.nil_append]
  exact hr.below
 have n1:∀o,niceT s.h (some (.ptr C o))=true:=fun o=>bQ hCn hg hbc
 have n2:∀o,niceT s.h (some (.ptr B o))=true:=fun o=>bQ hB gB (by rw[q.ids0];rfl)
 have o1:∀o,onlyT [C,B] (some (.ptr C o))=true:=fun o=>ba (by simp[memN])
 have o2:∀o,onlyT [C,B] (some (.ptr B o))=true:=fun o=>ba (by simp[memN])
 have hdrop:cfB (some (.cells (X++[v]) true)) 3=some [v]:=by
  have hle:Nat.ble 3 (X++[v]).length=true:=Nat.ble_eq.mpr (by rw[List.length_append,hX];omega)
  simp only[cfB,hle,cond_true]
  rw[←hX,List.drop_left]
 refine az ?_
 show DrawTo E1 (nN.take 6++nN.drop 6) [] s _
 refine cO (R:=[C,B]) _ [] s rfl (fun x hx=>by cases hx) (fun r hr'=>by
  simp only[List.mem_cons,List.mem_nil_iff,or_false] at hr'
  rcases hr' with rfl|rfl
  ·exact hCn
  ·exact hB) ?_
 simp-implicitDefEqProofs only[nN,List.take_succ_cons,List.take_zero,List.drop_succ_cons,List.drop_zero,wpDm,aW,List.all_cons,List.all_nil,footed,V,↓reduceIte,rA,rB,rC,reduceCtorEq,rD,rE,rF,h3,h5,hg,gB,hdrop,n1,n2,o1,o2,aM q.idsA,aK q.idsA,h1,h2,aM i1,aM i2,aK i1,aK i2]
 refine⟨_,hc,fun _ done hdl hdm=>?_⟩
 refine gL (C:=C) (k:=k) (lo:=lo) (v:=v) (w:=q'.av) (cs:=cs) (new:=q'.cells) (X:=X) (Y:=[]) hr hC hlo hg hX iX rfl ?_ ?_ rfl q'.leaves q'.idsA q'.len rfl ?_ (bD om de) (fun j hj=>?_) de de de de ?_
 ·exact U28
 ·exact U28
 ·exact U50
 ·exact U51
 intro h' v' x y u r2 g2 n2 o2
 refine⟨⟨v',r2,g2⟩,n2,o2,rfl,fun i hi=>?_⟩
 simp only[St.put,St.eval_set,St.eval_toH]
 repeat rw[if_neg om]
theorem f46_d0_run{s:St}{C B lo k:Nat}{v:AV}{cs X:List AV}{q q':Pr}{a1 a2:AV}(hr:RowC s.h lo k 4 v cs)(hC:C<lo)(hlo:lo≤s.h.next)(hg:s.h.get C=some (.cells (X++[v]) true))(hX:X.length=3)(iX:idsL X=[])(hB:B<s.h.next)(gB:s.h.get B=some (.cells q.cells true))(hk:k<2^30)
  (hc:∀h,RunCall E1 (.f 46) [q.av,a1,a2] h q'.av h) (h3:s.eval (.t 7)=some (.ptr C 0)) (h5:s.eval (.t 9)=some (.ptr B 0)) (h1:s.eval (.t 1)=some a1) (h2:s.eval (.t 2)=some a2) (i1:ids a1=[]) (i2:ids a2=[]):
  Run E1 f46_d0 s fun e s'=>e=.normal∧(∃v',RowC s'.h lo (k+1) 4 v' (cs++q'.cells)∧s'.h.get C=some (.cells (X++[v']) true))∧s.h.next≤s'.h.next∧(∀x,x<lo→x≠C→s'.h.get x=s.h.get x)∧s'.defers=s.defers∧∀i,i<24→s'.eval (.t i)=s.eval (.t i):=by
 have hCn:C<s.h.next:=by omega
 have hbc:below s.h.next (idsL (X++[v]))=true:=by
  rw[cq,iX]
  simp only[idsL,List.append_nil,List.nil_append]
  exact hr.below
 have n1:∀o,niceT s.h (some (.ptr C o))=true:=fun o=>bQ hCn hg hbc
 have n2:∀o,niceT s.h (some (.ptr B o))=true:=fun o=>bQ hB gB (by rw[q.ids0];rfl)
 have o1:∀o,onlyT [C,B] (some (.ptr C o))=true:=fun o=>ba (by simp[memN])
 have o2:∀o,onlyT [C,B] (some (.ptr B o))=true:=fun o=>ba (by simp[memN])
 have hdrop:cfB (some (.cells (X++[v]) true)) 3=some [v]:=by
  have hle:Nat.ble 3 (X++[v]).length=true:=Nat.ble_eq.mpr (by rw[List.length_append,hX];omega)
  simp only[cfB,hle,cond_true]
  rw[←hX,List.drop_left]
 refine az ?_
 show DrawTo E1 (vD.take 6++vD.drop 6) [] s _
 refine cO (R:=[C,B]) _ [] s rfl (fun x hx=>by cases hx) (fun r hr'=>by
  simp only[List.mem_cons,List.mem_nil_iff,or_false] at hr'
  rcases hr' with rfl|rfl
  ·exact hCn
  ·exact hB) ?_
 simp-implicitDefEqProofs only[vD,List.take_succ_cons,List.take_zero,List.drop_succ_cons,List.drop_zero,wpDm,aW,List.all_cons,List.all_nil,footed,V,↓reduceIte,rA,rB,rC,reduceCtorEq,rD,rE,rF,h3,h5,hg,gB,hdrop,n1,n2,o1,o2,aM q.idsA,aK q.idsA,h1,h2,aM i1,aM i2,aK i1,aK i2]
 refine⟨_,hc,fun _ done hdl hdm=>?_⟩
 refine gL (C:=C) (k:=k) (lo:=lo) (v:=v) (w:=q'.av) (cs:=cs) (new:=q'.cells) (X:=X) (Y:=[]) hr hC hlo hg hX iX rfl ?_ ?_ rfl q'.leaves q'.idsA q'.len rfl ?_ (bD om de) (fun j hj=>?_) de de de de ?_
 ·exact U28
 ·exact U28
 ·exact U50
 ·exact U51
 intro h' v' x y u r2 g2 n2 o2
 refine⟨⟨v',r2,g2⟩,n2,o2,rfl,fun i hi=>?_⟩
 simp only[St.put,St.eval_set,St.eval_toH]
 repeat rw[if_neg om]
theorem lX(l:List Pr)(k:Pr):Pr.cellsL (l++[k])=Pr.cellsL l++k.cells:=by
 induction l with
 |nil=>simp only[List.nil_append,Pr.cellsL,List.append_nil]
 |cons a l ih=>simp only[List.cons_append,Pr.cellsL,ih,List.append_assoc]
theorem take_snoc{l r:List Pr}{k:Pr}{i:Nat}(h:l.drop i=k::r)(F:Pr→Pr):(l.take (i+1)).map F=(l.take i).map F++[F k]:=by
 have:l.take (i+1)=l.take i++[k]:=by
  have h2:l[i]? =some k:=by
   have:=List.getElem?_drop (xs:=l) (i:=i) (j:=0)
   rw[h] at this
   simpa using this.symm
  rw[List.take_succ,h2]
  rfl
 rw[this,List.map_append]
 rfl
theorem Pr.leavesL:∀l:List Pr,∀v∈Pr.cellsL l,Leaf v
 | [],v,h=>by cases h
 |k::r,v,h=>by
  rw[Pr.cellsL] at h
  rcases List.mem_append.1 h with h|h
  ·exact k.leaves v h
  ·exact Pr.leavesL r v h
theorem pV{C lo:Nat}{l:List Pr}{L:AV}{X:List AV}{F:Pr→Pr}{a1 a2:AV}(hL:∀i k r,l.drop i=k::r→idxAddrSV 4 L i=some (.iptr (k.cells++Pr.cellsL r)))(hC:C<lo)(hX:X.length=3)(iX:idsL X=[])(hN:l.length<2^29)(i1:ids a1=[])(i2:ids a2=[]):
  ∀(r:List Pr) (i:Nat) (s:St) (v:AV),l.drop i=r→i≤l.length→(∀k∈r,∀h,RunCall E1 (.f 88) [k.av] h (F k).av h)→RowC s.h lo i 4 v (Pr.cellsL ((l.take i).map F))→lo≤s.h.next→s.h.get C=some (.cells (X++[v]) true)→
  s.eval (.t 3)=some (.ptr C 0)→s.eval (.t 14)=some L→s.eval (.t 15)=some (.val (.int .i64 (l.length:Nat)))→s.eval (.t 16)=some (.val (.int .i64 (i:Nat)))→(h1:88=88∨s.eval (.t 1)=some a1)→(h2:88=88∨s.eval (.t 2)=some a2)→s.defers=[]→
  Run E1 ud s fun e s'=>e=.exit 0∧(∃v',RowC s'.h lo l.length 4 v' (Pr.cellsL (l.map F))∧s'.h.get C=some (.cells (X++[v']) true))∧s.h.next≤s'.h.next∧(∀x,x<lo→x≠C→s'.h.get x=s.h.get x)∧s'.defers=[]∧∀j,j<16→j≠5→s'.eval (.t j)=s.eval (.t j)
 | [],i,s,v,hd,hi,hc,hr,hlo,hg,h3,h6,h7,h8,h1,h2,hf=>by
  have hl:i=l.length:=by
   have:=List.drop_eq_nil_iff.1 hd
   omega
  subst hl
  have hlt:decide (((l.length:Nat):Int)<(l.length:Nat))=false:=by simp
  rw[List.take_length] at hr
  apply aC (rfl:ud=.loop pW)
  simp-implicitDefEqProofs only[pW,V,↓reduceIte,rA,rB,rC,reduceCtorEq,rD,rE,rF,h3,h6,h7,h8,hf,hlt]
  refine⟨⟨v,hr,hg⟩,Nat.le_refl _,fun x _ _=>by first|rfl|trivial,fun j hj hj2=>?_⟩
  rw[if_neg om]
 |k::r,i,s,v,hd,hi,hc,hr,hlo,hg,h3,h6,h7,h8,h1,h2,hf=>by
  have hl:i<l.length:=by
   rcases Nat.lt_or_ge i l.length with x|x
   ·exact x
   ·exact U27
  have hlt:decide ((i:Int)<(l.length:Nat))=true:=by simp;omega
  have hd':l.drop (i+1)=r:=by rw[←List.drop_drop,hd];rfl
  have hs:∀h:AH,storeH (h.alloc (.cells [.val (.int .i64 0),.val (.string ⟨#[]⟩),.val (.int .i64 0),.val (.slice none 0 0)] true)) 4 (.ptr h.next 0) k.cells=_:=fun h=>br rfl k.len
  have w1:IntKind.i64.wrap ((i:Int)+1)=((i+1:Nat):Int):=aE (n:=i+1) om
  have hCn:C<s.h.next:=by omega
  apply aC (rfl:ud=.loop pW)
  simp-implicitDefEqProofs only[pW,V,↓reduceIte,rA,rB,rC,reduceCtorEq,rD,rE,rF,h3,h6,h7,h8,hlt,hL i k r hd,hs]
  have h1:88=88∨s.eval (.t 1)=some a1:=h1
  have h2:88=88∨s.eval (.t 2)=some a2:=h2
  refine(zj (C:=C) (B:=s.h.next) (lo:=lo) (k:=i) (v:=v) (cs:=Pr.cellsL ((l.take i).map F)) (X:=X) (q:=k) (q':=F k) (a1:=a1) (a2:=a2) ?_ hC ?_ ?_ hX iX ?_ ?_ om (hc k List.mem_cons_self) ?_ ?_).mono ?_
  ·exact U52
  ·exact U53
  ·exact U54
  ·exact U53
  ·exact U28
  ·exact U50
  ·exact U28
  rintro e s1 ⟨rfl,⟨v1,r1,g1⟩,n1,o1,d1,t1⟩
  simp-implicitDefEqProofs only[V,↓reduceIte,rA,rB,rC,reduceCtorEq,rD,rE,rF] at n1 o1 d1 t1
  have e3:s1.eval (.t 3)=some (.ptr C 0):=by rw[t1 _ de];simp-implicitDefEqProofs only[V,↓reduceIte,rA,rB,rC,reduceCtorEq,rD,rE,rF,h3]
  have e6:s1.eval (.t 14)=some L:=by rw[t1 _ de];simp-implicitDefEqProofs only[V,↓reduceIte,rA,rB,rC,reduceCtorEq,rD,rE,rF,h6]
  have e7:s1.eval (.t 15)=some (.val (.int .i64 (l.length:Nat))):=by rw[t1 _ de];simp-implicitDefEqProofs only[V,↓reduceIte,rA,rB,rC,reduceCtorEq,rD,rE,rF,h7]
  have e8:s1.eval (.t 16)=some (.val (.int .i64 (i:Nat))):=by rw[t1 _ de];simp-implicitDefEqProofs only[V,↓reduceIte,rA,rB,rC,reduceCtorEq,rD,rE,rF,h8]
  have e1:s1.eval (.t 1)=s.eval (.t 1):=by rw[t1 _ de];simp-implicitDefEqProofs only[V,↓reduceIte,rA,rB,rC,reduceCtorEq,rD,rE,rF]
  have e2:s1.eval (.t 2)=s.eval (.t 2):=by rw[t1 _ de];simp-implicitDefEqProofs only[V,↓reduceIte,rA,rB,rC,reduceCtorEq,rD,rE,rF]
  simp-implicitDefEqProofs only[V,↓reduceIte,rA,rB,rC,reduceCtorEq,rD,rE,rF,e8,w1]
  refine(pV hL hC hX iX hN i1 i2 r (i+1) _ v1 hd' om (fun k' hk=>hc k' (List.mem_cons_of_mem _ hk)) ?_ ?_ ?_ ?_ ?_ ?_ ?_ ?_ ?_ ?_).mono ?_
  ·exact U55
  ·exact U53
  ·exact U56
  ·exact U57
  ·exact U58
  ·exact U59
  ·exact U28
  ·exact h1.imp id fun q=>by
    simp-implicitDefEqProofs only[V,↓reduceIte,rA,rB,rC,reduceCtorEq,rD,rE,rF,e1]
    exact q
  ·exact h2.imp id fun q=>by
    simp-implicitDefEqProofs only[V,↓reduceIte,rA,rB,rC,reduceCtorEq,rD,rE,rF,e2]
    exact q
  ·exact U60
  rintro e s2 ⟨rfl,⟨v2,r2,g2⟩,n2,o2,d2,t2⟩
  simp-implicitDefEqProofs only[V,↓reduceIte,rA,rB,rC,reduceCtorEq,rD,rE,rF] at n2 o2 t2
  refine⟨rfl,⟨v2,r2,g2⟩,om,fun x x1 x2=>?_,d2,fun j hj hj2=>?_⟩
  ·exact U61
  ·exact U62
theorem lS{C lo:Nat}{l:List Pr}{L:AV}{X:List AV}{F:Pr→Pr}{a1 a2:AV}(hL:∀i k r,l.drop i=k::r→idxAddrSV 4 L i=some (.iptr (k.cells++Pr.cellsL r)))(hC:C<lo)(hX:X.length=3)(iX:idsL X=[])(hN:l.length<2^29)(i1:ids a1=[])(i2:ids a2=[]):
  ∀(r:List Pr) (i:Nat) (s:St) (v:AV),l.drop i=r→i≤l.length→(∀k∈r,∀h,RunCall E1 (.f 109) [k.av,a1,a2] h (F k).av h)→RowC s.h lo i 4 v (Pr.cellsL ((l.take i).map F))→lo≤s.h.next→s.h.get C=some (.cells (X++[v]) true)→
  s.eval (.t 8)=some (.ptr C 0)→s.eval (.t 39)=some L→s.eval (.t 40)=some (.val (.int .i64 (l.length:Nat)))→s.eval (.t 41)=some (.val (.int .i64 (i:Nat)))→(h1:109=88∨s.eval (.t 1)=some a1)→(h2:109=88∨s.eval (.t 2)=some a2)→s.defers=[]→
  Run E1 jX s fun e s'=>e=.exit 0∧(∃v',RowC s'.h lo l.length 4 v' (Pr.cellsL (l.map F))∧s'.h.get C=some (.cells (X++[v']) true))∧s.h.next≤s'.h.next∧(∀x,x<lo→x≠C→s'.h.get x=s.h.get x)∧s'.defers=[]∧∀j,j<41→j≠10→s'.eval (.t j)=s.eval (.t j)
 | [],i,s,v,hd,hi,hc,hr,hlo,hg,h3,h6,h7,h8,h1,h2,hf=>by
  have hl:i=l.length:=by
   have:=List.drop_eq_nil_iff.1 hd
   omega
  subst hl
  have hlt:decide (((l.length:Nat):Int)<(l.length:Nat))=false:=by simp
  rw[List.take_length] at hr
  apply aC (rfl:jX=.loop jY)
  simp-implicitDefEqProofs only[jY,V,↓reduceIte,rA,rB,rC,reduceCtorEq,rD,rE,rF,h3,h6,h7,h8,hf,hlt]
  refine⟨⟨v,hr,hg⟩,Nat.le_refl _,fun x _ _=>by first|rfl|trivial,fun j hj hj2=>?_⟩
  rw[if_neg om]
 |k::r,i,s,v,hd,hi,hc,hr,hlo,hg,h3,h6,h7,h8,h1,h2,hf=>by
  have hl:i<l.length:=by
   rcases Nat.lt_or_ge i l.length with x|x
   ·exact x
   ·exact U27
  have hlt:decide ((i:Int)<(l.length:Nat))=true:=by simp;omega
  have hd':l.drop (i+1)=r:=by rw[←List.drop_drop,hd];rfl
  have hs:∀h:AH,storeH (h.alloc (.cells [.val (.int .i64 0),.val (.string ⟨#[]⟩),.val (.int .i64 0),.val (.slice none 0 0)] true)) 4 (.ptr h.next 0) k.cells=_:=fun h=>br rfl k.len
  have w1:IntKind.i64.wrap ((i:Int)+1)=((i+1:Nat):Int):=aE (n:=i+1) om
  have hCn:C<s.h.next:=by omega
  apply aC (rfl:jX=.loop jY)
  simp-implicitDefEqProofs only[jY,V,↓reduceIte,rA,rB,rC,reduceCtorEq,rD,rE,rF,h3,h6,h7,h8,hlt,hL i k r hd,hs]
  have h1:109=88∨s.eval (.t 1)=some a1:=h1
  have h2:109=88∨s.eval (.t 2)=some a2:=h2
  refine(yC (C:=C) (B:=s.h.next) (lo:=lo) (k:=i) (v:=v) (cs:=Pr.cellsL ((l.take i).map F)) (X:=X) (q:=k) (q':=F k) (a1:=a1) (a2:=a2) ?_ hC ?_ ?_ hX iX ?_ ?_ om (hc k List.mem_cons_self) ?_ ?_ ?_ ?_ i1 i2).mono ?_
  ·exact U52
  ·exact U53
  ·exact U54
  ·exact U53
  ·exact U28
  ·exact U50
  ·exact U28
  ·exact U63
  ·exact U64
  rintro e s1 ⟨rfl,⟨v1,r1,g1⟩,n1,o1,d1,t1⟩
  simp-implicitDefEqProofs only[V,↓reduceIte,rA,rB,rC,reduceCtorEq,rD,rE,rF] at n1 o1 d1 t1
  have e3:s1.eval (.t 8)=some (.ptr C 0):=by rw[t1 _ de];simp-implicitDefEqProofs only[V,↓reduceIte,rA,rB,rC,reduceCtorEq,rD,rE,rF,h3]
  have e6:s1.eval (.t 39)=some L:=by rw[t1 _ de];simp-implicitDefEqProofs only[V,↓reduceIte,rA,rB,rC,reduceCtorEq,rD,rE,rF,h6]
  have e7:s1.eval (.t 40)=some (.val (.int .i64 (l.length:Nat))):=by rw[t1 _ de];simp-implicitDefEqProofs only[V,↓reduceIte,rA,rB,rC,reduceCtorEq,rD,rE,rF,h7]
  have e8:s1.eval (.t 41)=some (.val (.int .i64 (i:Nat))):=by rw[t1 _ de];simp-implicitDefEqProofs only[V,↓reduceIte,rA,rB,rC,reduceCtorEq,rD,rE,rF,h8]
  have e1:s1.eval (.t 1)=s.eval (.t 1):=by rw[t1 _ de];simp-implicitDefEqProofs only[V,↓reduceIte,rA,rB,rC,reduceCtorEq,rD,rE,rF]
  have e2:s1.eval (.t 2)=s.eval (.t 2):=by rw[t1 _ de];simp-implicitDefEqProofs only[V,↓reduceIte,rA,rB,rC,reduceCtorEq,rD,rE,rF]
  simp-implicitDefEqProofs only[V,↓reduceIte,rA,rB,rC,reduceCtorEq,rD,rE,rF,e8,w1]
  refine(lS hL hC hX iX hN i1 i2 r (i+1) _ v1 hd' om (fun k' hk=>hc k' (List.mem_cons_of_mem _ hk)) ?_ ?_ ?_ ?_ ?_ ?_ ?_ ?_ ?_ ?_).mono ?_
  ·exact U55
  ·exact U53
  ·exact U56
  ·exact U57
  ·exact U58
  ·exact U59
  ·exact U28
  ·exact h1.imp id fun q=>by
    simp-implicitDefEqProofs only[V,↓reduceIte,rA,rB,rC,reduceCtorEq,rD,rE,rF,e1]
    exact q
  ·exact h2.imp id fun q=>by
    simp-implicitDefEqProofs only[V,↓reduceIte,rA,rB,rC,reduceCtorEq,rD,rE,rF,e2]
    exact q
  ·exact U60
  rintro e s2 ⟨rfl,⟨v2,r2,g2⟩,n2,o2,d2,t2⟩
  simp-implicitDefEqProofs only[V,↓reduceIte,rA,rB,rC,reduceCtorEq,rD,rE,rF] at n2 o2 t2
  refine⟨rfl,⟨v2,r2,g2⟩,om,fun x x1 x2=>?_,d2,fun j hj hj2=>?_⟩
  ·exact U61
  ·exact U62
theorem pu{C lo:Nat}{l:List Pr}{L:AV}{X:List AV}{F:Pr→Pr}{a1 a2:AV}(hL:∀i k r,l.drop i=k::r→idxAddrSV 4 L i=some (.iptr (k.cells++Pr.cellsL r)))(hC:C<lo)(hX:X.length=3)(iX:idsL X=[])(hN:l.length<2^29)(i1:ids a1=[])(i2:ids a2=[]):
  ∀(r:List Pr) (i:Nat) (s:St) (v:AV),l.drop i=r→i≤l.length→(∀k∈r,∀h,RunCall E1 (.f 46) [k.av,a1,a2] h (F k).av h)→RowC s.h lo i 4 v (Pr.cellsL ((l.take i).map F))→lo≤s.h.next→s.h.get C=some (.cells (X++[v]) true)→
  s.eval (.t 7)=some (.ptr C 0)→s.eval (.t 18)=some L→s.eval (.t 19)=some (.val (.int .i64 (l.length:Nat)))→s.eval (.t 20)=some (.val (.int .i64 (i:Nat)))→(h1:46=88∨s.eval (.t 1)=some a1)→(h2:46=88∨s.eval (.t 2)=some a2)→s.defers=[]→
  Run E1 vF s fun e s'=>e=.exit 0∧(∃v',RowC s'.h lo l.length 4 v' (Pr.cellsL (l.map F))∧s'.h.get C=some (.cells (X++[v']) true))∧s.h.next≤s'.h.next∧(∀x,x<lo→x≠C→s'.h.get x=s.h.get x)∧s'.defers=[]∧∀j,j<20→j≠9→s'.eval (.t j)=s.eval (.t j)
 | [],i,s,v,hd,hi,hc,hr,hlo,hg,h3,h6,h7,h8,h1,h2,hf=>by
  have hl:i=l.length:=by
   have:=List.drop_eq_nil_iff.1 hd
   omega
  subst hl
  have hlt:decide (((l.length:Nat):Int)<(l.length:Nat))=false:=by simp
  rw[List.take_length] at hr
  apply aC (rfl:vF=.loop pv)
  simp-implicitDefEqProofs only[pv,V,↓reduceIte,rA,rB,rC,reduceCtorEq,rD,rE,rF,h3,h6,h7,h8,hf,hlt]
  refine⟨⟨v,hr,hg⟩,Nat.le_refl _,fun x _ _=>by first|rfl|trivial,fun j hj hj2=>?_⟩
  rw[if_neg om]
 |k::r,i,s,v,hd,hi,hc,hr,hlo,hg,h3,h6,h7,h8,h1,h2,hf=>by
  have hl:i<l.length:=by
   rcases Nat.lt_or_ge i l.length with x|x
   ·exact x
   ·exact U27
  have hlt:decide ((i:Int)<(l.length:Nat))=true:=by simp;omega
  have hd':l.drop (i+1)=r:=by rw[←List.drop_drop,hd];rfl
  have hs:∀h:AH,storeH (h.alloc (.cells [.val (.int .i64 0),.val (.string ⟨#[]⟩),.val (.int .i64 0),.val (.slice none 0 0)] true)) 4 (.ptr h.next 0) k.cells=_:=fun h=>br rfl k.len
  have w1:IntKind.i64.wrap ((i:Int)+1)=((i+1:Nat):Int):=aE (n:=i+1) om
  have hCn:C<s.h.next:=by omega
  apply aC (rfl:vF=.loop pv)
  simp-implicitDefEqProofs only[pv,V,↓reduceIte,rA,rB,rC,reduceCtorEq,rD,rE,rF,h3,h6,h7,h8,hlt,hL i k r hd,hs]
  have h1:46=88∨s.eval (.t 1)=some a1:=h1
  have h2:46=88∨s.eval (.t 2)=some a2:=h2
  refine(f46_d0_run (C:=C) (B:=s.h.next) (lo:=lo) (k:=i) (v:=v) (cs:=Pr.cellsL ((l.take i).map F)) (X:=X) (q:=k) (q':=F k) (a1:=a1) (a2:=a2) ?_ hC ?_ ?_ hX iX ?_ ?_ om (hc k List.mem_cons_self) ?_ ?_ ?_ ?_ i1 i2).mono ?_
  ·exact U52
  ·exact U53
  ·exact U54
  ·exact U53
  ·exact U28
  ·exact U50
  ·exact U28
  ·exact U63
  ·exact U64
  rintro e s1 ⟨rfl,⟨v1,r1,g1⟩,n1,o1,d1,t1⟩
  simp-implicitDefEqProofs only[V,↓reduceIte,rA,rB,rC,reduceCtorEq,rD,rE,rF] at n1 o1 d1 t1
  have e3:s1.eval (.t 7)=some (.ptr C 0):=by rw[t1 _ de];simp-implicitDefEqProofs only[V,↓reduceIte,rA,rB,rC,reduceCtorEq,rD,rE,rF,h3]
  have e6:s1.eval (.t 18)=some L:=by rw[t1 _ de];simp-implicitDefEqProofs only[V,↓reduceIte,rA,rB,rC,reduceCtorEq,rD,rE,rF,h6]
  have e7:s1.eval (.t 19)=some (.val (.int .i64 (l.length:Nat))):=by rw[t1 _ de];simp-implicitDefEqProofs only[V,↓reduceIte,rA,rB,rC,reduceCtorEq,rD,rE,rF,h7]
  have e8:s1.eval (.t 20)=some (.val (.int .i64 (i:Nat))):=by rw[t1 _ de];simp-implicitDefEqProofs only[V,↓reduceIte,rA,rB,rC,reduceCtorEq,rD,rE,rF,h8]
  have e1:s1.eval (.t 1)=s.eval (.t 1):=by rw[t1 _ de];simp-implicitDefEqProofs only[V,↓reduceIte,rA,rB,rC,reduceCtorEq,rD,rE,rF]
  have e2:s1.eval (.t 2)=s.eval (.t 2):=by rw[t1 _ de];simp-implicitDefEqProofs only[V,↓reduceIte,rA,rB,rC,reduceCtorEq,rD,rE,rF]
  simp-implicitDefEqProofs only[V,↓reduceIte,rA,rB,rC,reduceCtorEq,rD,rE,rF,e8,w1]
  refine(pu hL hC hX iX hN i1 i2 r (i+1) _ v1 hd' om (fun k' hk=>hc k' (List.mem_cons_of_mem _ hk)) ?_ ?_ ?_ ?_ ?_ ?_ ?_ ?_ ?_ ?_).mono ?_
  ·exact U55
  ·exact U53
  ·exact U56
  ·exact U57
  ·exact U58
  ·exact U59
  ·exact U28
  ·exact h1.imp id fun q=>by
    simp-implicitDefEqProofs only[V,↓reduceIte,rA,rB,rC,reduceCtorEq,rD,rE,rF,e1]
    exact q
  ·exact h2.imp id fun q=>by
    simp-implicitDefEqProofs only[V,↓reduceIte,rA,rB,rC,reduceCtorEq,rD,rE,rF,e2]
    exact q
  ·exact U60
  rintro e s2 ⟨rfl,⟨v2,r2,g2⟩,n2,o2,d2,t2⟩
  simp-implicitDefEqProofs only[V,↓reduceIte,rA,rB,rC,reduceCtorEq,rD,rE,rF] at n2 o2 t2
  refine⟨rfl,⟨v2,r2,g2⟩,om,fun x x1 x2=>?_,d2,fun j hj hj2=>?_⟩
  ·exact U61
  ·exact U62
def putC(z:List AV)(o n:Nat)(l:List AV):Option (List AV):=bif Nat.beq l.length n&&Nat.ble (o+n) z.length then some (putAt z o l) else none
def fillP(s:St)(r:List (Nat×Nat×Opd)):Option (List AV)→Option (List AV)
 |some z=>fill s z r
 |none=>none
def fillC(s:St)(z:List AV)(o n:Nat)(r:List (Nat×Nat×Opd)):Option (List AV)→Option (List AV)
 |some l=>fillP s r (putC z o n l)
 |none=>none
def fillK(s:St)(z:List AV)(o n:Nat)(r:List (Nat×Nat×Opd)):Option AV→Option (List AV)
 |some v=>fillC s z o n r v.cells
 |none=>none
theorem fill_nil{s:St}{z:List AV}:fill s z []=some z:=by cases z<;>rfl
theorem fill_cons{s:St}{z:List AV}{o n:Nat}{x:Opd}{r:List (Nat×Nat×Opd)}:fill s z ((o,n,x)::r)=fillK s z o n r (s.eval x):=by
 cases he:s.eval x with
 |none=>simp only[fill,he,fillK]
 |some v=>
  cases hv:v.cells with
  |none=>simp only[fill,he,hv,fillK,fillC]
  |some l=>
   simp only[fill,he,hv,fillK,fillC,putC]
   cases Nat.beq l.length n&&Nat.ble (o+n) z.length<;>rfl
theorem ze{s:St}{z:List AV}{o n:Nat}{r:List (Nat×Nat×Opd)}{v:AV}:fillK s z o n r (some v)=fillC s z o n r v.cells:=rfl
theorem zf{s:St}{z:List AV}{o n:Nat}{r:List (Nat×Nat×Opd)}{l:List AV}:fillC s z o n r (some l)=fillP s r (putC z o n l):=rfl
theorem zd{s:St}{z:List AV}{r:List (Nat×Nat×Opd)}:fillP s r (some z)=fill s z r:=rfl
theorem put_0{a x:AV}{z:List AV}:putC (a::z) 0 1 [x]=some (x::z):=by
 have h:Nat.ble (0+1) (a::z).length=true:=Nat.ble_eq.mpr (by simp)
 simp only[putC,List.length_cons,List.length_nil,h]
 rfl
theorem put_1{a b x:AV}{z:List AV}:putC (a::b::z) 1 1 [x]=some (a::x::z):=by
 have h:Nat.ble (1+1) (a::b::z).length=true:=Nat.ble_eq.mpr (by simp)
 simp only[List.length_cons] at h
 simp only[putC,List.length_cons,List.length_nil,h]
 rfl
theorem put_2{a b c x:AV}{z:List AV}:putC (a::b::c::z) 2 1 [x]=some (a::b::x::z):=by
 have h:Nat.ble (2+1) (a::b::c::z).length=true:=Nat.ble_eq.mpr (by simp)
 simp only[List.length_cons] at h
 simp only[putC,List.length_cons,List.length_nil,h]
 rfl
theorem put_3{a b c d x:AV}{z:List AV}:putC (a::b::c::d::z) 3 1 [x]=some (a::b::c::x::z):=by
 have h:Nat.ble (3+1) (a::b::c::d::z).length=true:=Nat.ble_eq.mpr (by simp)
 simp only[List.length_cons] at h
 simp only[putC,List.length_cons,List.length_nil,h]
 rfl
theorem take_4{a b c d:AV}:takeN (some 4) [a,b,c,d]=some (.agg [a,b,c,d]):=rfl
theorem ym{h:AH}{b n:Nat}{cs l:List AV}(g:h.get b=some (.cells cs true))(hc:cs.length=n)(hl:l.length=n):storeH h n (.ptr b 0) l=some (h.put b (some (.cells l true))):=by
 have h1:Nat.beq l.length n=true:=by rw[hl];exact Nat.beq_refl n
 have h2:Nat.ble (0+n) cs.length=true:=Nat.ble_eq.mpr om
 have h3:putAt cs 0 l=l:=by
  simp only[putAt,List.take_zero,List.nil_append,Nat.zero_add]
  rw[List.drop_eq_nil_of_le om,List.append_nil]
 simp only[storeH,g,h1,h2,Bool.and_self,cond_true,h3]
def stK(h:AH)(b n off:Nat)(l:List AV):Option Blk→Option AH
 |some (.cells cs true)=>bif Nat.beq l.length n&&Nat.ble (off+n) cs.length then some (h.put b (some (.cells (putAt cs off l) true))) else none
 |_=>none
theorem st_rule{h:AH}{b n off:Nat}{l:List AV}:storeH h n (.ptr b off) l=stK h b n off l (h.get b):=by
 cases hg:h.get b with
 |none=>simp only[storeH,hg,stK]
 |some k=>
  cases k with
  |cells cs rw=>cases rw<;>simp only[storeH,hg,stK]
  |_=>simp only[storeH,hg,stK]
theorem bu{h:AH}{b n:Nat}{cs l:List AV}(hc:cs.length=n)(hl:l.length=n):stK h b n 0 l (some (.cells cs true))=some (h.put b (some (.cells l true))):=by
 have h1:Nat.beq l.length n=true:=by rw[hl];exact Nat.beq_refl n
 have h2:Nat.ble (0+n) cs.length=true:=Nat.ble_eq.mpr om
 have h3:putAt cs 0 l=l:=by
  simp only[putAt,List.take_zero,List.nil_append,Nat.zero_add]
  rw[List.drop_eq_nil_of_le om,List.append_nil]
 simp only[stK,h1,h2,Bool.and_self,cond_true,h3]
theorem stK_4{h:AH}{b:Nat}{a0 a1 a2 a3 x0 x1 x2 x3:AV}:stK h b 4 0 [x0,x1,x2,x3] (some (.cells [a0,a1,a2,a3] true))=some (h.put b (some (.cells [x0,x1,x2,x3] true))):=bu rfl rfl
theorem stK_p{h:AH}{b:Nat}{a0 a1 a2 a3:AV}{p:Pr}:stK h b 4 0 p.cells (some (.cells [a0,a1,a2,a3] true))=some (h.put b (some (.cells p.cells true))):=bu rfl p.len
theorem stK_0{h:AH}{b:Nat}{a x:AV}{z:List AV}:stK h b 1 0 [x] (some (.cells (a::z) true))=some (h.put b (some (.cells (x::z) true))):=by
 have h2:Nat.ble (0+1) (a::z).length=true:=Nat.ble_eq.mpr (by simp)
 simp only[stK,h2]
 rfl
theorem nb_refl{n:Nat}:Nat.beq n n=true:=Nat.beq_refl n
theorem nb_12:Nat.beq 1 2=false:=rfl
theorem nb_21:Nat.beq 2 1=false:=rfl
theorem nb_10:Nat.beq 1 0=false:=rfl
theorem nb_01:Nat.beq 0 1=false:=rfl
theorem nb_20:Nat.beq 2 0=false:=rfl
theorem nb_02:Nat.beq 0 2=false:=rfl
theorem nb_32:Nat.beq 3 2=false:=rfl
theorem nb_23:Nat.beq 2 3=false:=rfl
theorem nb_31:Nat.beq 3 1=false:=rfl
theorem nb_13:Nat.beq 1 3=false:=rfl
theorem nb_30:Nat.beq 3 0=false:=rfl
theorem nb_03:Nat.beq 0 3=false:=rfl
def WB:=And.intro @nb_refl (And.intro nb_12 (And.intro nb_21 (And.intro nb_10 (And.intro nb_01 (And.intro nb_20 (And.intro nb_02 (And.intro nb_32 (And.intro nb_23 (And.intro nb_31 (And.intro nb_13 (And.intro nb_30 nb_03)))))))))))
def WF:=And.intro WB (And.intro @st_rule (And.intro @stK_4 (And.intro @stK_p (And.intro @stK_0 (And.intro @fill_nil (And.intro @fill_cons (And.intro @ze (And.intro @zf (And.intro @zd (And.intro @put_0 (And.intro @put_1 (And.intro @put_2 (And.intro @put_3 @take_4)))))))))))))
theorem bw{g:Nat}{l:List AV}{a:AFun}{t:AV}(hs:freshF g=true)(hf:funOf Tryz.prog g=some a)(hl:∀v∈l,Tree v)
  (H:∀s:St,(∀i v,(enterTm l 0 .nil).get i=some v→s.eval (.t i)=some v)→s.h=.empty→s.defers=[]→s.round=none→wp E1 a.body s fun e s=>(e=.normal∨e=.ret)∧s.defers=[]∧∃r,resultsA E1.globs s a.res=some [r]∧∃n,n<1000∧Rep s.h 0 s.h.next n r t) (h:AH):
  RunCall E1 (.f g) l h t h:=by
 obtain⟨v,h',⟨n,hn,hr⟩,hrun⟩:=kl (g:=g) (l:=l) (h:=.empty) (a:=a) (fun v h'=>∃n,n<1000∧Rep h' 0 h'.next n v t) hf fun s h1 h2 h3 h4=>(bZ _ _ _ (H s h1 h2 h3 h4)).mono fun e s' ⟨k1,k2,r,k3,k4⟩=>⟨k1,k2,[r],k3,k4⟩
 exact yR (fA hs) (fW hs _) hl hrun hr (Nat.lt_trans hn de) h
def nilK:Option (Option Addr×Nat):=some (none,0)
theorem yw{h:AH}{lo k:Nat}{v:AV}{o n:Int}{nm:ByteArray}{l:List Pr}(r:RowC h lo k 4 v (Pr.cellsL l))(hk:l.length=k):Rep h 0 h.next 2 (.agg [.val (.int .i64 o),.val (.string nm),.val (.int .i64 n),v]) (Pr.mk o nm n l nilK none).av:=by
 have e:(Pr.mk o nm n l nilK none).kids=(bif Nat.beq k 0 then .val (.slice none 0 0) else .imm (Pr.cellsL l) k none):=by
  subst hk
  simp only[Pr.kids,kidsA,nilK,Option.isSome_some,Bool.true_and,noKids]
 have:=Rep.agg (h:=h) (lo:=0) (hi:=h.next) (n:=1) (ps:=[(.val (.int .i64 o),.val (.int .i64 o)),(.val (.string nm),.val (.string nm)),(.val (.int .i64 n),.val (.int .i64 n)),(v,(Pr.mk o nm n l nilK none).kids)]) (fun p hp=>by
  simp only[List.mem_cons,List.mem_nil_iff,or_false] at hp
  rcases hp with rfl|rfl|rfl|rfl
  ·exact Rep.leaf (Leaf.val _)
  ·exact Rep.leaf (Leaf.val _)
  ·exact Rep.leaf (Leaf.val _)
  ·rw[e]
   exact Rep.to (Nat.zero_le _) (Nat.le_refl _) (fun b _ _ cs rw g=>⟨rw,g⟩) (Nat.le_refl _) r.rep)
 simp only[List.map_cons,List.map_nil] at this
 show Rep _ _ _ _ _ (.agg (Pr.mk o nm n l nilK none).cells)
 rw[Pr.cells_eq]
 exact this
mutual
def Pr.cp:Pr→Pr
 |.mk o s n ks _ _=>.mk o s n (Pr.cpL ks) nilK none
def Pr.cpL:List Pr→List Pr
 | []=>[]
 |k::r=>k.cp::Pr.cpL r
end
theorem cpL_map:∀l:List Pr,Pr.cpL l=l.map Pr.cp
 | []=>rfl
 |k::r=>by rw[Pr.cpL,cpL_map r];rfl
theorem fJ(p:Pr):∀i k r,p.ks.drop i=k::r→idxAddrSV 4 p.kids i=some (.iptr (k.cells++Pr.cellsL r)):=fun _ _ _ h=>ew h
theorem yH(p:Pr)(hN:p.ks.length<2^29)(hc:∀k∈p.ks,∀h,RunCall E1 (.f 88) [k.av] h k.cp.av h)(h:AH):RunCall E1 (.f 88) [p.av] h (Pr.mk p.op p.nm p.n (p.ks.map Pr.cp) nilK none).av h:=by
 refine bw kr f88_ok (mem1 (Tree.pr p)) (fun s hs hh hd hr=>?_) h
 have h0:=hs 0 _ rfl
 simp-implicitDefEqProofs only[f88_fn,f88,V,↓reduceIte,rA,rB,rC,reduceCtorEq,rD,rE,rF,WF,h0,hh,hd]
 refine(pV (C:=2) (lo:=3) (l:=p.ks) (L:=p.kids) (X:=[.val (.int .i64 p.op),.val (.string p.nm),.val (.int .i64 p.n)]) (F:=Pr.cp) (a1:=p.av) (a2:=p.av) (fJ p) de rfl rfl hN p.idsA p.idsA p.ks 0 _ (.val (.slice none 0 0)) rfl (Nat.zero_le _) hc RowC.nil ?_ ?_ ?_ ?_ ?_ ?_ (.inl rfl) (.inl rfl) ?_).mono ?_
 ·exact U65
 ·exact U66
 ·exact U28
 ·exact U28
 ·exact U28
 ·exact U66
 ·exact U33
 rintro e s1 ⟨rfl,⟨v1,r1,g1⟩,n1,o1,d1,t1⟩
 simp only[List.cons_append,List.nil_append] at g1
 have g0:s1.h.get 1=some (.cells [.val (.int .i64 0),.val (.string ⟨#[]⟩),.val (.int .i64 0),.val (.slice none 0 0)] true):=by
  rw[o1 1 de de]
  exact U28
 have e3:s1.eval (.t 3)=some (.ptr 2 0):=by rw[t1 3 de de];simp-implicitDefEqProofs only[V,↓reduceIte,rA,rB,rC,reduceCtorEq,rD,rE,rF]
 have e2:s1.eval (.t 2)=some (.ptr 1 0):=by rw[t1 2 de de];simp-implicitDefEqProofs only[V,↓reduceIte,rA,rB,rC,reduceCtorEq,rD,rE,rF]
 simp-implicitDefEqProofs only[V,↓reduceIte,rA,rB,rC,reduceCtorEq,rD,rE,rF,WF,e3,e2,g1,g0,d1]
 refine⟨_,rfl,2,de,?_⟩
 have hn:3≤s1.h.next:=n1
 exact yw (lo:=3) (r1.to (Nat.le_refl _) fun x x1 x2=>ac om) (List.length_map _)
mutual
theorem iF:∀(p:Pr),p.nodes<2^29→∀h,RunCall E1 (.f 88) [p.av] h p.cp.av h
 |.mk o s n ks nl cap,hb,h=>by
  have hb':1+Pr.nodesL ks<2^29:=hb
  have hk:ks.length≤Pr.nodesL ks:=am ks
  have:=yH (.mk o s n ks nl cap) (by show ks.length<_;omega) (fi ks om) h
  rw[show(Pr.mk o s n ks nl cap).cp=Pr.mk o s n (Pr.cpL ks) nilK none from rfl,cpL_map]
  exact this
theorem fi:∀(l:List Pr),Pr.nodesL l<2^29→∀k∈l,∀h,RunCall E1 (.f 88) [k.av] h k.cp.av h
 | [],_,k,hk,_=>by cases hk
 |p::r,hb,k,hk,h=>by
  have hb':p.nodes+Pr.nodesL r<2^29:=hb
  rcases List.mem_cons.1 hk with e|hk
  ·have:=iF p om h
   rw[e]
   exact this
  ·exact fi r om k hk h
end
theorem go{p:Pr}(hb:p.nodes<2^29){r:List AOper}{s:St}{dst:Option Nat}{K:St→Prop}:aJ E1 88 r s dst K (some [p.av])=AM.wpOps E1 r (s.put dst p.cp.av) K:=aA (iF p hb)
def fnd(b:ByteArray):List ByteArray→Option Nat
 | []=>none
 |a::r=>bif strEq b a then some 0 else(fnd b r).map (· +1)
def fndI(b:ByteArray)(l:List ByteArray):Int:=match fnd b l with
 |some i=>(i:Nat)
 |none=> -1
theorem sA_hd{k:ByteArray}{l:List AV}:takeN none (strA k++l)=some (.val (.string k)):=rfl
theorem Tree.vl{α:Type}{f:α→List AV}{v:Vl α}:Tree (v.A f):=Vl.leaf.tree
theorem aV{α:Type}{l r:List α}{k:α}{i:Nat}(h:l.drop i=k::r):i<l.length:=by
 rcases Nat.lt_or_ge i l.length with x|x
 ·exact x
 ·exact U26
theorem aF{α:Type}{l r:List α}{k:α}{i:Nat}(h:l.drop i=k::r):l.drop (i+1)=r:=by rw[←List.drop_drop,h];rfl
theorem aN{α:Type}{l:List α}{i:Nat}(h:l.drop i=[])(hi:i≤l.length):i=l.length:=by
 have:=List.drop_eq_nil_iff.1 h
 omega
theorem lt_t{i n:Nat}(h:i<n):decide ((i:Int)<(n:Int))=true:=decide_eq_true om
theorem lt_f{n:Nat}:decide ((n:Int)<(n:Int))=false:=decide_eq_false om
theorem xg(v:Vl ByteArray)(b:ByteArray)(hN:v.l.length<2^61):∀(r:List ByteArray) (i:Nat) (s:St),v.l.drop i=r→i≤v.l.length→s.eval (.t 0)=some (v.A strA)→s.eval (.t 6)=some (v.A strA)→s.eval (.t 1)=some (.val (.string b))→s.eval (.t 7)=some (.val (.int .i64 (v.l.length:Nat)))→s.eval (.t 8)=some (.val (.int .i64 (i:Nat)))→s.defers=[]→
  Run E1 uw s fun e s'=>s'.defers=[]∧((fnd b r=none∧e=.exit 0)∨(∃j,fnd b r=some j∧e=.ret∧s'.eval (.t 4)=some (.val (.int .i64 ((i+j:Nat):Int)))))
 | [],i,s,hr,hi,h0,h6,h1,h7,h8,hd=>by
  have hl:=aN hr hi
  subst hl
  apply aC (rfl:uw=.loop kb)
  simp-implicitDefEqProofs only[kb,V,↓reduceIte,rA,rB,rC,reduceCtorEq,rD,rE,rF,WB,h0,h1,h6,h7,h8,hd,lt_f,fnd]
 |a::r,i,s,hr,hi,h0,h6,h1,h7,h8,hd=>by
  have hl:=aV hr
  have hlt:=lt_t hl
  have w1:IntKind.i64.wrap ((i:Int)+1)=((i+1:Nat):Int):=aE (n:=i+1) om
  apply aC (rfl:uw=.loop kb)
  cases hq:strEq b a with
  |true=>
   simp-implicitDefEqProofs only[kb,V,↓reduceIte,rA,rB,rC,reduceCtorEq,rD,rE,rF,WB,h0,h1,h6,h7,h8,hd,hlt,v.at ax hr,sA_hd,hq,fnd]
   exact .inr ⟨0,rfl,rfl⟩
  |false=>
   simp-implicitDefEqProofs only[kb,V,↓reduceIte,rA,rB,rC,reduceCtorEq,rD,rE,rF,WB,h0,h1,h6,h7,h8,hd,hlt,v.at ax hr,sA_hd,hq,fnd,w1]
   refine(xg v b hN r (i+1) _ (aF hr) om ?_ ?_ ?_ ?_ ?_ ?_).mono ?_
   all_goals try simp-implicitDefEqProofs only[V,↓reduceIte,rA,rB,rC,reduceCtorEq,rD,rE,rF,h0,h1,h6,h7,h8,hd]
   rintro e s1 ⟨d1,⟨q,rfl⟩|⟨j,q,rfl,q2⟩⟩
   ·exact⟨d1,.inl ⟨by rw[q];rfl,rfl⟩⟩
   ·exact⟨d1,.inr ⟨j+1,by rw[q];rfl,rfl,by rw[q2,show i+(j+1)=i+1+j by omega]⟩⟩
theorem uU(v:Vl ByteArray)(b:ByteArray)(hN:v.l.length<2^61)(h:AH):RunCall E1 (.f 72) [v.A strA,.val (.string b)] h (.val (.int .i64 (fndI b v.l))) h:=by
 refine cK kr f72_ok (mem2 Tree.vl (Tree.val _)) rfl (Tree.val _) (fun s hs hh hd hr=>?_) h
 have h0:=hs 0 _ rfl
 have h1:=hs 1 _ rfl
 simp-implicitDefEqProofs only[f72_fn,f72,V,↓reduceIte,rA,rB,rC,reduceCtorEq,rD,rE,rF,WB,h0,h1,hh,hd]
 refine(xg v b hN v.l 0 _ rfl (Nat.zero_le _) ?_ ?_ ?_ ?_ ?_ ?_).mono ?_
 all_goals try simp-implicitDefEqProofs only[V,↓reduceIte,rA,rB,rC,reduceCtorEq,rD,rE,rF,h0,h1,hd]
 ·rfl
 rintro e s1 ⟨d1,⟨q,rfl⟩|⟨j,q,rfl,q2⟩⟩
 ·simp-implicitDefEqProofs only[V,↓reduceIte,rA,rB,rC,reduceCtorEq,rD,rE,rF,WB,d1,fndI,q]
 ·simp-implicitDefEqProofs only[V,↓reduceIte,rA,rB,rC,reduceCtorEq,rD,rE,rF,WB,d1,fndI,q,q2]
theorem xV(v:Vl ByteArray)(b:ByteArray)(hN:v.l.length<2^61)(h:AH):RunCall E1 (.f 41) [v.A strA,.val (.string b)] h (.val (.int .i64 (fndI b v.l))) h:=by
 refine cK kr f41_ok (mem2 Tree.vl (Tree.val _)) rfl (Tree.val _) (fun s hs hh hd hr=>?_) h
 have h0:=hs 0 _ rfl
 have h1:=hs 1 _ rfl
 simp-implicitDefEqProofs only[f41_fn,f41,V,↓reduceIte,rA,rB,rC,reduceCtorEq,rD,rE,rF,WB,h0,h1,hh,hd,aA (uU v b hN)]
theorem kV{v:Vl ByteArray}{b:ByteArray}(hN:v.l.length<2^61){r:List AOper}{s:St}{dst:Option Nat}{K:St→Prop}:aJ E1 41 r s dst K (some [v.A strA,.val (.string b)])=AM.wpOps E1 r (s.put dst (.val (.int .i64 (fndI b v.l)))) K:=aA (xV v b hN)
end Go.Proofs.YtkhblipgiijoiaaGreatDoor
namespace Go.Proofs.YtkhblipgiijoiaaGreatDoor
open Go Go.AM
set_option maxHeartbeats 400000
def pickS(o:Int)(s:ByteArray)(l:List ByteArray)(bys:List Pr):Option Pr:=bif decide (o=3) then(fnd s l).bind (fun i=>bys[i]?) else none
mutual
def Pr.sub(l:List ByteArray)(bys:List Pr):Pr→Pr
 |.mk o s n ks _ _=>match pickS o s l bys with
  |some q=>q.cp
  |none=>.mk o s n (Pr.subL l bys ks) nilK none
def Pr.subL(l:List ByteArray)(bys:List Pr):List Pr→List Pr
 | []=>[]
 |k::r=>k.sub l bys::Pr.subL l bys r
end
theorem wM(l:List ByteArray)(bys:List Pr):∀ks:List Pr,Pr.subL l bys ks=ks.map (Pr.sub l bys)
 | []=>rfl
 |k::r=>by rw[Pr.subL,wM l bys r];rfl
theorem cJ{h:AH}{lo hi:Nat}{cs:List AV}(hc:∀c∈cs,Leaf c):Rep h lo hi 1 (.agg cs) (.agg cs):=by
 have:=Rep.agg (h:=h) (lo:=lo) (hi:=hi) (n:=0) (ps:=cs.map fun c=>(c,c)) (fun p hp=>by
  obtain⟨c,hc',rfl⟩:=List.mem_map.1 hp
  exact Rep.leaf (hc c hc'))
 rwa [jb,ja] at this
def gZ:ACode:=(.seq (.region [⟨some 31,none,.fieldAddr 0 (.t 3)⟩,⟨some 32,none,.load none (.t 31)⟩,⟨some 33,none,.fieldAddr 1 (.t 3)⟩,⟨some 34,none,.load none (.t 33)⟩,⟨some 35,none,.fieldAddr 2 (.t 3)⟩,⟨some 36,none,.load none (.t 35)⟩,⟨some 37,none,.build [.val (.int .i64 0),.val (.string ⟨#[]⟩),.val (.int .i64 0),.val (.slice none 0 0)] [(0,1,(.t 32)),(1,1,(.t 34)),(2,1,(.t 36))]⟩,⟨some 8,none,.alloc [.val (.int .i64 0),.val (.string ⟨#[]⟩),.val (.int .i64 0),.val (.slice none 0 0)]⟩,⟨none,none,.store 4 (.t 8) (.t 37)⟩])
 (.seq (.seq (.region [⟨some 38,none,.fieldAddr 3 (.t 3)⟩,⟨some 39,none,.load none (.t 38)⟩,⟨some 40,none,.lenS (.t 39)⟩,⟨some 41,none,.mv (.c (.val (.int .i64 0)))⟩])
 (.block 0 jX))
 (.seq (.region [⟨some 55,none,.load (some 4) (.t 8)⟩,⟨none,none,.store 4 (.t 6) (.t 55)⟩])
 .ret)))
theorem f109_eq:f109=(.seq (.region [⟨some 3,none,.box (.t 0)⟩,⟨some 6,none,.alloc [.val (.int .i64 0),.val (.string ⟨#[]⟩),.val (.int .i64 0),.val (.slice none 0 0)]⟩])
 (.seq (.seq (.region [⟨some 11,none,.fieldAddr 0 (.t 3)⟩,⟨some 12,none,.load none (.t 11)⟩,⟨some 13,none,.bin .eql 44 true (.t 12) (.c (.val (.int .i64 3)))⟩])
 (.cond (.t 13) (.seq (.region [⟨some 14,none,.mv (.t 1)⟩,⟨some 15,none,.fieldAddr 1 (.t 3)⟩,⟨some 16,none,.load none (.t 15)⟩,⟨some 17,none,.call 41 [.t 14,.t 16]⟩,⟨some 7,none,.mv (.t 17)⟩])
 (.seq (.region [⟨some 18,none,.mv (.t 7)⟩,⟨some 19,none,.bin .geq 3 true (.t 18) (.c (.val (.int .i64 0)))⟩,⟨some 20,none,.mv (.t 19)⟩,⟨some 21,some (20,true),.mv (.t 7)⟩,⟨some 22,some (20,true),.mv (.t 2)⟩,⟨some 23,some (20,true),.lenS (.t 22)⟩,⟨some 24,some (20,true),.bin .lss 3 false (.t 21) (.t 23)⟩,⟨some 25,none,.pick (.t 20) (.t 24) (.c (.val (.bool false)))⟩])
 (.cond (.t 25) (.seq (.region [⟨some 26,none,.mv (.t 2)⟩,⟨some 27,none,.mv (.t 7)⟩,⟨some 28,none,.idxAddrS 4 (.t 26) (.t 27)⟩,⟨some 29,none,.load (some 4) (.t 28)⟩,⟨some 30,none,.call 88 [.t 29]⟩,⟨none,none,.store 4 (.t 6) (.t 30)⟩])
 .ret) .skip))) .skip))
 gZ)):=rfl
theorem tail_109{p:Pr}{v:Vl ByteArray}{w:Vl Pr}{F:Pr→Pr}{s:St}{K:Ex→St→Prop}(hN:p.ks.length<2^29)(hc:∀k∈p.ks,∀h,RunCall E1 (.f 109) [k.av,v.A strA,w.A Pr.cells] h (F k).av h)
  (hn:s.h.next=2) (g0:s.h.get 0=some (.cells p.cells true)) (g1:s.h.get 1=some (.cells [.val (.int .i64 0),.val (.string ⟨#[]⟩),.val (.int .i64 0),.val (.slice none 0 0)] true))
  (h1:s.eval (.t 1)=some (v.A strA)) (h2:s.eval (.t 2)=some (w.A Pr.cells)) (h3:s.eval (.t 3)=some (.ptr 0 0)) (h6:s.eval (.t 6)=some (.ptr 1 0)) (hd:s.defers=[])
  (k:∀s',s'.defers=[]→s'.eval (.t 6)=some (.ptr 1 0)→∀cs,s'.h.get 1=some (.cells cs true)→cs.length=4→Rep s'.h 0 s'.h.next 2 (.agg cs) (Pr.mk p.op p.nm p.n (p.ks.map F) nilK none).av→K .ret s'):wp E1 gZ s K:=by
 simp-implicitDefEqProofs only[gZ,V,↓reduceIte,rA,rB,rC,reduceCtorEq,rD,rE,rF,WF,h1,h2,h3,h6,g0,g1,hn]
 refine(lS (C:=2) (lo:=3) (l:=p.ks) (L:=p.kids) (X:=[.val (.int .i64 p.op),.val (.string p.nm),.val (.int .i64 p.n)]) (F:=F) (a1:=v.A strA) (a2:=w.A Pr.cells) (fJ p) de rfl rfl hN Vl.ids Vl.ids p.ks 0 _ (.val (.slice none 0 0)) rfl (Nat.zero_le _) hc RowC.nil ?_ ?_ ?_ ?_ ?_ ?_ (.inr ?_) (.inr ?_) ?_).mono ?_
 ·simp-implicitDefEqProofs only[V,↓reduceIte,rA,rB,rC,reduceCtorEq,rD,rE,rF,hn]
  exact Nat.le_refl 3
 ·exact U67
 ·exact U68
 ·exact U68
 ·exact U68
 ·exact U67
 ·simp-implicitDefEqProofs only[V,↓reduceIte,rA,rB,rC,reduceCtorEq,rD,rE,rF,hn,h1]
 ·simp-implicitDefEqProofs only[V,↓reduceIte,rA,rB,rC,reduceCtorEq,rD,rE,rF,hn,h2]
 ·exact U33
 rintro e s1 ⟨rfl,⟨v1,r1,e1⟩,n1,o1,d1,t1⟩
 simp only[List.cons_append,List.nil_append] at e1
 have q1:s1.h.get 1=some (.cells [.val (.int .i64 0),.val (.string ⟨#[]⟩),.val (.int .i64 0),.val (.slice none 0 0)] true):=by
  rw[o1 1 de de]
  simp-implicitDefEqProofs only[V,↓reduceIte,rA,rB,rC,reduceCtorEq,rD,rE,rF,hn,g1]
 have e8:s1.eval (.t 8)=some (.ptr 2 0):=by rw[t1 8 de de];simp-implicitDefEqProofs only[V,↓reduceIte,rA,rB,rC,reduceCtorEq,rD,rE,rF,hn]
 have e6:s1.eval (.t 6)=some (.ptr 1 0):=by rw[t1 6 de de];simp-implicitDefEqProofs only[V,↓reduceIte,rA,rB,rC,reduceCtorEq,rD,rE,rF,h6]
 have hn3:3≤s1.h.next:=by
  simp-implicitDefEqProofs only[V,↓reduceIte,rA,rB,rC,reduceCtorEq,rD,rE,rF,hn] at n1
  exact n1
 simp-implicitDefEqProofs only[V,↓reduceIte,rA,rB,rC,reduceCtorEq,rD,rE,rF,WF,e8,e6,e1,q1,d1]
 refine k _ ?_ ?_ [.val (.int .i64 p.op),.val (.string p.nm),.val (.int .i64 p.n),v1] ?_ ?_ ?_
 ·exact U69
 ·exact U58
 ·exact U28
 ·rfl
 ·exact yw (lo:=3) (r1.to (Nat.le_refl _) fun x x1 x2=>ac om) (List.length_map _)
theorem yg(p:Pr)(v:Vl ByteArray)(w:Vl Pr)(F:Pr→Pr)(hN:p.ks.length<2^29)(hv:v.l.length<2^61)(hw:∀q∈w.l,q.nodes<2^29)(hc:∀k∈p.ks,∀h,RunCall E1 (.f 109) [k.av,v.A strA,w.A Pr.cells] h (F k).av h)(h:AH):
  RunCall E1 (.f 109) [p.av,v.A strA,w.A Pr.cells] h (match pickS p.op p.nm v.l w.l with|some q=>q.cp|none=>Pr.mk p.op p.nm p.n (p.ks.map F) nilK none).av h:=by
 refine bw kr f109_ok (mem3 (Tree.pr p) Tree.vl Tree.vl) (fun s hs hh hd hr=>?_) h
 have h0:=hs 0 _ rfl
 have h1:=hs 1 _ rfl
 have h2:=hs 2 _ rfl
 have fin:∀s':St,s'.defers=[]→s'.eval (.t 6)=some (.ptr 1 0)→∀cs n t,s'.h.get 1=some (.cells cs true)→cs.length=4→Rep s'.h 0 s'.h.next n (.agg cs) t→n<1000→s'.defers=[]∧∃r,resultsA E1.globs s' ge.res=some [r]∧∃n,n<1000∧Rep s'.h 0 s'.h.next n r t:=fun s' d e cs n t g hl hr hn=>by
  refine⟨d,.agg cs,?_,n,hn,hr⟩
  simp-implicitDefEqProofs only[ge,V,↓reduceIte,rA,rB,rC,reduceCtorEq,rD,rE,rF,e,g,dX hl]
 have tl:∀(s':St) (b:Int×ByteArray),s'.h.next=2→s'.h.get 0=some (.cells p.cells true)→s'.h.get 1=some (.cells [.val (.int .i64 0),.val (.string ⟨#[]⟩),.val (.int .i64 0),.val (.slice none 0 0)] true)→s'.eval (.t 1)=some (v.A strA)→s'.eval (.t 2)=some (w.A Pr.cells)→s'.eval (.t 3)=some (.ptr 0 0)→s'.eval (.t 6)=some (.ptr 1 0)→s'.defers=[]→pickS p.op p.nm v.l w.l=none→
   wp E1 gZ s' fun e s=>(e=.normal∨e=.ret)∧s.defers=[]∧∃r,resultsA E1.globs s ge.res=some [r]∧∃n,n<1000∧Rep s.h 0 s.h.next n r (match pickS p.op p.nm v.l w.l with|some q=>q.cp|none=>Pr.mk p.op p.nm p.n (p.ks.map F) nilK none).av:=fun s' _ a1 a2 a3 a4 a5 a6 a7 a8 a9=>
  tail_109 hN hc a1 a2 a3 a4 a5 a6 a7 a8 fun s2 d e cs g hl hr=>⟨.inr rfl,fin s2 d e cs 2 _ g hl (by rw[a9];exact hr) de⟩
 have hfn:ge.body=f109:=rfl
 rw[hfn,f109_eq]
 cases ho:decide (p.op=3) with
 |false=>
  simp-implicitDefEqProofs only[V,↓reduceIte,rA,rB,rC,reduceCtorEq,rD,rE,rF,WF,h0,h1,h2,hh,hd,ho]
  refine tl _ (0,⟨#[]⟩) ?_ ?_ ?_ ?_ ?_ ?_ ?_ ?_ (by simp only[pickS,ho,cond_false])
  all_goals simp-implicitDefEqProofs only[V,↓reduceIte,rA,rB,rC,reduceCtorEq,rD,rE,rF,h0,h1,h2,hd]
 |true=>
  cases hf:fnd p.nm v.l with
  |none=>
   have hI:fndI p.nm v.l= -1:=by simp only[fndI,hf]
   simp-implicitDefEqProofs only[V,↓reduceIte,rA,rB,rC,reduceCtorEq,rD,rE,rF,WF,h0,h1,h2,hh,hd,ho,kV hv,hI]
   refine tl _ (0,⟨#[]⟩) ?_ ?_ ?_ ?_ ?_ ?_ ?_ ?_ (by simp only[pickS,ho,cond_true,hf,Option.bind_none])
   all_goals simp-implicitDefEqProofs only[V,↓reduceIte,rA,rB,rC,reduceCtorEq,rD,rE,rF,h0,h1,h2,hd]
   all_goals rfl
  |some i=>
   have hI:fndI p.nm v.l=(i:Nat):=by simp only[fndI,hf]
   have hge:decide ((0:Int)≤(i:Int))=true:=decide_eq_true om
   rcases Nat.lt_or_ge i w.l.length with hi|hi
   ·obtain⟨q,r,hq⟩:∃q r,w.l.drop i=q::r:=⟨w.l[i],w.l.drop (i+1),List.drop_eq_getElem_cons hi⟩
    have hmem:q∈w.l:=List.mem_of_mem_drop (i:=i) (by rw[hq];exact List.mem_cons_self)
    have hpk:pickS p.op p.nm v.l w.l=some q:=by
     have:w.l[i]? =some q:=by
      have:=List.getElem?_drop (xs:=w.l) (i:=i) (j:=0)
      rw[hq] at this
      simpa using this.symm
     simp only[pickS,ho,cond_true,hf,Option.bind_some,this]
    simp-implicitDefEqProofs only[ge,V,↓reduceIte,rA,rB,rC,reduceCtorEq,rD,rE,rF,WF,h0,h1,h2,hh,hd,ho,kV hv,hI,hge,lt_t hi,w.at Pr.len hq,go (hw q hmem),hpk]
    exact⟨_,rfl,1,de,cJ q.cp.leaves⟩
   ·have hlt:decide ((i:Int)<(w.l.length:Nat))=false:=decide_eq_false om
    have hpk:pickS p.op p.nm v.l w.l=none:=by
     have:w.l[i]? =none:=List.getElem?_eq_none hi
     simp only[pickS,ho,cond_true,hf,Option.bind_some,this]
    simp-implicitDefEqProofs only[V,↓reduceIte,rA,rB,rC,reduceCtorEq,rD,rE,rF,WF,h0,h1,h2,hh,hd,ho,kV hv,hI,hge,hlt]
    refine tl _ (0,⟨#[]⟩) ?_ ?_ ?_ ?_ ?_ ?_ ?_ ?_ hpk
    all_goals simp-implicitDefEqProofs only[V,↓reduceIte,rA,rB,rC,reduceCtorEq,rD,rE,rF,h0,h1,h2,hd]
    all_goals rfl
mutual
theorem gv(v:Vl ByteArray)(w:Vl Pr)(hv:v.l.length<2^61)(hw:∀q∈w.l,q.nodes<2^29):∀(p:Pr),p.nodes<2^29→∀h,RunCall E1 (.f 109) [p.av,v.A strA,w.A Pr.cells] h (p.sub v.l w.l).av h
 |.mk o s n ks nl cap,hb,h=>by
  have hb':1+Pr.nodesL ks<2^29:=hb
  have hk:ks.length≤Pr.nodesL ks:=am ks
  have:=yg (.mk o s n ks nl cap) v w (Pr.sub v.l w.l) (by show ks.length<_;omega) hv hw (fL v w hv hw ks om) h
  rw[show(Pr.mk o s n ks nl cap).sub v.l w.l=(match pickS o s v.l w.l with|some q=>q.cp|none=>Pr.mk o s n (Pr.subL v.l w.l ks) nilK none) by rw[Pr.sub],wM]
  exact this
theorem fL(v:Vl ByteArray)(w:Vl Pr)(hv:v.l.length<2^61)(hw:∀q∈w.l,q.nodes<2^29):∀(l:List Pr),Pr.nodesL l<2^29→∀k∈l,∀h,RunCall E1 (.f 109) [k.av,v.A strA,w.A Pr.cells] h (k.sub v.l w.l).av h
 | [],_,k,hk,_=>by cases hk
 |p::r,hb,k,hk,h=>by
  have hb':p.nodes+Pr.nodesL r<2^29:=hb
  rcases List.mem_cons.1 hk with e|hk
  ·have:=gv v w hv hw p om h
   rw[e]
   exact this
  ·exact fL v w hv hw r om k hk h
end
end Go.Proofs.YtkhblipgiijoiaaGreatDoor
