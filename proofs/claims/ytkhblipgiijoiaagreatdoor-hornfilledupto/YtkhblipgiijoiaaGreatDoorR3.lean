/- A part of the proof about filled horn systems: ZNamv ZOf ZCheck ZTop. -/
import Derived.Test.YtkhblipgiijoiaaGreatDoorU0
import Derived.Test.YtkhblipgiijoiaaGreatDoorW1
import Derived.Test.YtkhblipgiijoiaaGreatDoorN5
import Derived.Test.YtkhblipgiijoiaaGreatDoorR2

set_option linter.all false
open Nat renaming reduceEqDiff → rA, reduceAdd → rB, reduceMul → rC
open Int renaming reduceEq → rD, reduceLT → rE, reduceLE → rF
namespace Go.Proofs.YtkhblipgiijoiaaGreatDoor
open Go Go.AM
set_option maxHeartbeats 40000000
set_option maxRecDepth 10000
noncomputable def coreA (b:ByteArray):Int:=(ff b).choose
theorem aZ(b:ByteArray)(h:AH):RunCall E1 (.f 83) [.val (.string b)] h (.val (.int .i64 (coreA b))) h:=(ff b).choose_spec h
def nvS(z l1 l2 b ok:Bool):Int:=bif !z||(l1||l2) then 1 else bif b then 0 else bif ok then 0 else 3
theorem nodeV_3(p:Pr)(hk:p.op=3)(h:AH):RunCall E1 (.f 114) [p.av] h (.val (.int .i64 (nvS (decide (p.n=0)) (decide (((p.ks.length:Nat):Int)<0)) (decide ((0:Int)<((p.ks.length:Nat):Int))) (decide (coreA p.nm=0)) (strEq p.nm ⟨#[118]⟩)))) h:=by
 have hA:=aZ p.nm
 refine aB kr kr (mem1 (Tree.pr p)) rfl (Tree.val _) (ad bC fun s hs hh hd=>?_) h
 have h0:=hs 0 _ rfl
 obtain⟨B,hB⟩:∃B,decide (coreA p.nm=0)=B:=⟨_,rfl⟩
 obtain⟨z,hz⟩:∃B,decide (p.n=0)=B:=⟨_,rfl⟩
 obtain⟨L1,hL1⟩:∃B,decide (((p.ks.length:Nat):Int)<0)=B:=⟨_,rfl⟩
 obtain⟨L2,hL2⟩:∃B,decide ((0:Int)<((p.ks.length:Nat):Int))=B:=⟨_,rfl⟩
 obtain⟨Vx,hV⟩:∃B,strEq p.nm ⟨#[118]⟩=B:=⟨_,rfl⟩
 obtain⟨T,hT⟩:∃B,strEq p.nm ⟨#[116,97,103]⟩=B:=⟨_,rfl⟩
 obtain⟨U,hU⟩:∃B,strEq p.nm ⟨#[118,97,108]⟩=B:=⟨_,rfl⟩
 cases z with
 |false=>
  simp-implicitDefEqProofs only[aL,f114,V,↓reduceIte,rA,rB,rC,reduceCtorEq,rD,rE,rF,h0,hh,hd,hk,bH,aw,aI,hz,nvS]
 |true=>cases L1 with
  |true=>
   simp-implicitDefEqProofs only[aL,f114,V,↓reduceIte,rA,rB,rC,reduceCtorEq,rD,rE,rF,h0,hh,hd,hk,bH,aw,aI,hz,hL1,nvS]
  |false=>cases L2 with
   |true=>
    simp-implicitDefEqProofs only[aL,f114,V,↓reduceIte,rA,rB,rC,reduceCtorEq,rD,rE,rF,h0,hh,hd,hk,bH,aw,aI,hz,hL1,hL2,nvS]
   |false=>cases B with
    |true=>
     simp-implicitDefEqProofs only[aL,f114,V,↓reduceIte,rA,rB,rC,reduceCtorEq,rD,rE,rF,h0,hh,hd,hk,bH,aw,aI,aA hA,hz,hL1,hL2,hB,nvS]
    |false=>
     cases Vx<;>cases T<;>cases U<;>simp-implicitDefEqProofs only[aL,f114,V,↓reduceIte,rA,rB,rC,reduceCtorEq,rD,rE,rF,h0,hh,hd,hk,bH,aw,aI,aA hA,hz,hL1,hL2,hB,hV,hT,hU,nvS]
theorem nodeV_4(p:Pr)(hk:p.op=4)(h:AH):RunCall E1 (.f 114) [p.av] h (.val (.int .i64 (nvS (decide (p.n=0)) (decide (((p.ks.length:Nat):Int)<1)) (decide ((24:Int)<((p.ks.length:Nat):Int))) (decide (coreA p.nm=0)) (strEq p.nm ⟨#[116,97,103]⟩||strEq p.nm ⟨#[118,97,108]⟩)))) h:=by
 have hA:=aZ p.nm
 refine aB kr kr (mem1 (Tree.pr p)) rfl (Tree.val _) (ad bC fun s hs hh hd=>?_) h
 have h0:=hs 0 _ rfl
 obtain⟨B,hB⟩:∃B,decide (coreA p.nm=0)=B:=⟨_,rfl⟩
 obtain⟨z,hz⟩:∃B,decide (p.n=0)=B:=⟨_,rfl⟩
 obtain⟨L1,hL1⟩:∃B,decide (((p.ks.length:Nat):Int)<1)=B:=⟨_,rfl⟩
 obtain⟨L2,hL2⟩:∃B,decide ((24:Int)<((p.ks.length:Nat):Int))=B:=⟨_,rfl⟩
 obtain⟨Vx,hV⟩:∃B,strEq p.nm ⟨#[118]⟩=B:=⟨_,rfl⟩
 obtain⟨T,hT⟩:∃B,strEq p.nm ⟨#[116,97,103]⟩=B:=⟨_,rfl⟩
 obtain⟨U,hU⟩:∃B,strEq p.nm ⟨#[118,97,108]⟩=B:=⟨_,rfl⟩
 cases z with
 |false=>
  simp-implicitDefEqProofs only[aL,f114,V,↓reduceIte,rA,rB,rC,reduceCtorEq,rD,rE,rF,h0,hh,hd,hk,bG,au,aI,hz,nvS]
 |true=>cases L1 with
  |true=>
   simp-implicitDefEqProofs only[aL,f114,V,↓reduceIte,rA,rB,rC,reduceCtorEq,rD,rE,rF,h0,hh,hd,hk,bG,au,aI,hz,hL1,nvS]
  |false=>cases L2 with
   |true=>
    simp-implicitDefEqProofs only[aL,f114,V,↓reduceIte,rA,rB,rC,reduceCtorEq,rD,rE,rF,h0,hh,hd,hk,bG,au,aI,hz,hL1,hL2,nvS]
   |false=>cases B with
    |true=>
     simp-implicitDefEqProofs only[aL,f114,V,↓reduceIte,rA,rB,rC,reduceCtorEq,rD,rE,rF,h0,hh,hd,hk,bG,au,aI,aA hA,hz,hL1,hL2,hB,nvS]
    |false=>
     cases Vx<;>cases T<;>cases U<;>simp-implicitDefEqProofs only[aL,f114,V,↓reduceIte,rA,rB,rC,reduceCtorEq,rD,rE,rF,h0,hh,hd,hk,bG,au,aI,aA hA,hz,hL1,hL2,hB,hV,hT,hU,nvS]
theorem nodeV_5(p:Pr)(hk:p.op=5)(h:AH):RunCall E1 (.f 114) [p.av] h (.val (.int .i64 (nvS (decide (p.n=0)) (decide (((p.ks.length:Nat):Int)<1)) (decide ((24:Int)<((p.ks.length:Nat):Int))) (decide (coreA p.nm=0)) false))) h:=by
 have hA:=aZ p.nm
 refine aB kr kr (mem1 (Tree.pr p)) rfl (Tree.val _) (ad bC fun s hs hh hd=>?_) h
 have h0:=hs 0 _ rfl
 obtain⟨B,hB⟩:∃B,decide (coreA p.nm=0)=B:=⟨_,rfl⟩
 obtain⟨z,hz⟩:∃B,decide (p.n=0)=B:=⟨_,rfl⟩
 obtain⟨L1,hL1⟩:∃B,decide (((p.ks.length:Nat):Int)<1)=B:=⟨_,rfl⟩
 obtain⟨L2,hL2⟩:∃B,decide ((24:Int)<((p.ks.length:Nat):Int))=B:=⟨_,rfl⟩
 obtain⟨Vx,hV⟩:∃B,strEq p.nm ⟨#[118]⟩=B:=⟨_,rfl⟩
 obtain⟨T,hT⟩:∃B,strEq p.nm ⟨#[116,97,103]⟩=B:=⟨_,rfl⟩
 obtain⟨U,hU⟩:∃B,strEq p.nm ⟨#[118,97,108]⟩=B:=⟨_,rfl⟩
 cases z with
 |false=>
  simp-implicitDefEqProofs only[aL,f114,V,↓reduceIte,rA,rB,rC,reduceCtorEq,rD,rE,rF,h0,hh,hd,hk,bF,ar,aI,hz,nvS]
 |true=>cases L1 with
  |true=>
   simp-implicitDefEqProofs only[aL,f114,V,↓reduceIte,rA,rB,rC,reduceCtorEq,rD,rE,rF,h0,hh,hd,hk,bF,ar,aI,hz,hL1,nvS]
  |false=>cases L2 with
   |true=>
    simp-implicitDefEqProofs only[aL,f114,V,↓reduceIte,rA,rB,rC,reduceCtorEq,rD,rE,rF,h0,hh,hd,hk,bF,ar,aI,hz,hL1,hL2,nvS]
   |false=>cases B with
    |true=>
     simp-implicitDefEqProofs only[aL,f114,V,↓reduceIte,rA,rB,rC,reduceCtorEq,rD,rE,rF,h0,hh,hd,hk,bF,ar,aI,aA hA,hz,hL1,hL2,hB,nvS]
    |false=>
     cases Vx<;>cases T<;>cases U<;>simp-implicitDefEqProofs only[aL,f114,V,↓reduceIte,rA,rB,rC,reduceCtorEq,rD,rE,rF,h0,hh,hd,hk,bF,ar,aI,aA hA,hz,hL1,hL2,hB,hV,hT,hU,nvS]
theorem aq{p:Pr}{x:Int}(h:∀h,RunCall E1 (.f 114) [p.av] h (.val (.int .i64 x)) h):Na p=x:=by
 have:=((wE p .empty).det (h .empty)).1
 injection this with this
 injection this
theorem wD{p q:Pr}(ho:p.op=q.op)(hn:p.nm=q.nm)(hz:p.n=q.n)(hl:p.ks.length=q.ks.length)(h0:p.op=8→p.kid0=q.kid0):Na p=Na q:=by
 by_cases h:p.op<1∨18<p.op
 ·rw[aq (iO p h),aq (iO q (by rw[←ho];exact h))]
 ·rcases ww (o:=p.op) om om with k|k|k|k|k|k|k|k|k|k|k|k|k|k|k|k|k|k
  ·rw[aq (db p k),aq (db q (by rw[←ho];exact k)),hn,hz,hl]
  ·rw[aq (cN p k),aq (cN q (by rw[←ho];exact k)),hn,hz,hl]
  ·rw[aq (nodeV_3 p k),aq (nodeV_3 q (by rw[←ho];exact k)),hn,hz,hl]
  ·rw[aq (nodeV_4 p k),aq (nodeV_4 q (by rw[←ho];exact k)),hn,hz,hl]
  ·rw[aq (nodeV_5 p k),aq (nodeV_5 q (by rw[←ho];exact k)),hn,hz,hl]
  ·rw[aq (da p k),aq (da q (by rw[←ho];exact k)),hn,hz,hl]
  ·rw[aq (dZ p k),aq (dZ q (by rw[←ho];exact k)),hn,hz,hl]
  ·rw[aq (cM p k),aq (cM q (by rw[←ho];exact k)),hn,hz,hl,h0 k]
  ·rw[aq (dY p k),aq (dY q (by rw[←ho];exact k)),hn,hz,hl]
  ·rw[aq (dL p k),aq (dL q (by rw[←ho];exact k)),hn,hz,hl]
  ·rw[aq (dK p k),aq (dK q (by rw[←ho];exact k)),hn,hz,hl]
  ·rw[aq (dJ p k),aq (dJ q (by rw[←ho];exact k)),hn,hz,hl]
  ·rw[aq (dI p k),aq (dI q (by rw[←ho];exact k)),hn,hz,hl]
  ·rw[aq (dH p k),aq (dH q (by rw[←ho];exact k)),hn,hz,hl]
  ·rw[aq (dG p k),aq (dG q (by rw[←ho];exact k)),hn,hz,hl]
  ·rw[aq (dF p k),aq (dF q (by rw[←ho];exact k)),hn,hz,hl]
  ·rw[aq (dE p k),aq (dE q (by rw[←ho];exact k)),hn,hz,hl]
  ·rw[aq (dD p k),aq (dD q (by rw[←ho];exact k)),hn,hz,hl]
theorem Na_two{p:Pr}(h:Na p=0)(ho:p.op=10∨p.op=11):p.ks.length=2:=by
 have hn:¬isNamed p:=by unfold isNamed;omega
 have:=(Na_ok hn h).2.2.2.2
 exact this om
end Go.Proofs.YtkhblipgiijoiaaGreatDoor
namespace Go.Proofs.YtkhblipgiijoiaaGreatDoor
open Go Go.AM
set_option maxHeartbeats 4000000
mutual
def Pr.sor(Vx:Evr):Pr→ByteArray×Int
 |.mk o s n ks _ _=>bif decide ((Pr.sorL Vx ks).2=0) then sortN Vx o s (Pr.sorL Vx ks).1 else(⟨#[]⟩,(Pr.sorL Vx ks).2)
def Pr.sorL(Vx:Evr):List Pr→List ByteArray×Int
 | []=>([],0)
 |k::r=>bif decide ((k.sor Vx).2=0) then(bif decide ((Pr.sorL Vx r).2=0) then((k.sor Vx).1::(Pr.sorL Vx r).1,0) else([],(Pr.sorL Vx r).2)) else([],(k.sor Vx).2)
end
mutual
def Pr.two:Pr→Bool
 |.mk o _ _ ks _ _=>(!(decide (o=10)||decide (o=11))||decide (2≤ks.length))&&Pr.twoL ks
def Pr.twoL:List Pr→Bool
 | []=>true
 |k::r=>k.two&&Pr.twoL r
end
theorem nb(Vx:Evr):∀l:List Pr,(Pr.sorL Vx l).2=0→(Pr.sorL Vx l).1.length=l.length
 | [],_=>rfl
 |k::r,h=>by
  simp only[Pr.sorL] at h⊢
  cases h1:decide ((k.sor Vx).2=0) with
  |false=>
   rw[h1] at h
   exact absurd h (of_decide_eq_false h1)
  |true=>
   rw[h1] at h
   simp only[cond_true] at h⊢
   cases h2:decide ((Pr.sorL Vx r).2=0) with
   |false=>
    rw[h2] at h
    exact absurd h (of_decide_eq_false h2)
   |true=>
    simp only[cond_true,List.length_cons,nb Vx r (of_decide_eq_true h2)]
def OfOk(Vx:Evr)(k:Pr):Prop:=∀(h:AH) (B C:Nat),B<h.next→C<h.next→h.get B=some (.cells Vx.cells true)→h.get C=some (.cells [.fn (.func 77) [] [.ptr C 0,.ptr B 0]] true)→
 ∃h',RunCall E1 (.f 77) [k.av,.ptr C 0,.ptr B 0] h (ansA (k.sor Vx)) h'∧h.next≤h'.next∧∀x,x<h.next→h'.get x=h.get x
theorem xe(Vx:Evr)(p:Pr){A B C lo:Nat}(hN:p.ks.length<2^29)(hA:A<lo)(hB:B<lo)(hC:C<lo):∀(r:List Pr) (i:Nat) (s:St) (v:AV) (acc:List ByteArray),p.ks.drop i=r→i≤p.ks.length→acc.length=i→(∀k∈r,OfOk Vx k)→RowC s.h lo i 1 v (acc.flatMap strA)→lo≤s.h.next→
  s.h.get B=some (.cells Vx.cells true)→s.h.get C=some (.cells [.fn (.func 77) [] [.ptr C 0,.ptr B 0]] true)→
  s.eval (.t 1)=some (.ptr C 0)→s.eval (.t 2)=some (.ptr B 0)→s.eval (.t 3)=some (.ptr A 0)→s.eval (.t 6)=some v→s.eval (.t 12)=some p.kids→s.eval (.t 13)=some (.val (.int .i64 (p.ks.length:Nat)))→s.eval (.t 14)=some (.val (.int .i64 (i:Nat)))→s.defers=[]→
  Run E1 ul s fun e s'=>s'.defers=[]∧s.h.next≤s'.h.next∧(∀x,x<lo→s'.h.get x=s.h.get x)∧((∃v',(Pr.sorL Vx r).2=0∧e=.exit 0∧RowC s'.h lo (acc++(Pr.sorL Vx r).1).length 1 v' ((acc++(Pr.sorL Vx r).1).flatMap strA)∧s'.eval (.t 6)=some v'∧s'.eval (.t 2)=some (.ptr B 0)∧s'.eval (.t 3)=some (.ptr A 0))∨
   ((Pr.sorL Vx r).2≠0∧e=.ret∧s'.eval (.t 4)=some (.val (.string ⟨#[]⟩))∧s'.eval (.t 5)=some (.val (.int .i64 (Pr.sorL Vx r).2))))
 | [],i,s,v,acc,hd,hi,ha,hk,hr,hlo,gB,gC,h1,h2,h3,h6,h12,h13,h14,hf=>by
  have hl:=aN hd hi
  subst hl
  apply aC (rfl:ul=.loop kY)
  simp-implicitDefEqProofs only[kY,V,↓reduceIte,rA,rB,rC,reduceCtorEq,rD,rE,rF,WB,h1,h2,h3,h6,h12,h13,h14,hf,lt_f,Pr.sorL]
  refine⟨Nat.le_refl _,fun x _=>by first|rfl|trivial,.inl ⟨v,?_,rfl⟩⟩
  rw[List.append_nil,ha]
  exact hr
 |k::r,i,s,v,acc,hd,hi,ha,hk,hr,hlo,gB,gC,h1,h2,h3,h6,h12,h13,h14,hf=>by
  have hl:=aV hd
  have hlt:=lt_t hl
  have w1:IntKind.i64.wrap ((i:Int)+1)=((i+1:Nat):Int):=aE (n:=i+1) om
  have nB:(B=s.h.next)=False:=eq_false om
  have nC:(C=s.h.next)=False:=eq_false om
  apply aC (rfl:ul=.loop kY)
  obtain⟨h1',c1,n1,o1⟩:=hk k List.mem_cons_self ((s.h.alloc (.cells [.val (.int .i64 0),.val (.string ⟨#[]⟩),.val (.int .i64 0),.val (.slice none 0 0)] true)).put s.h.next (some (.cells k.cells true))) B C (by show B<s.h.next+1;omega) (by show C<s.h.next+1;omega) (by rw[ac om,aP om,gB]) (by rw[ac om,aP om,gC])
  have n1:s.h.next+1≤h1'.next:=n1
  have o1:∀x,x<s.h.next→h1'.get x=s.h.get x:=fun x hx=>by
   rw[o1 x (by show x<s.h.next+1;omega),ac om,aP hx]
  cases he:decide ((k.sor Vx).2=0) with
  |false=>
   have e1:Pr.sorL Vx (k::r)=([],(k.sor Vx).2):=by simp only[Pr.sorL,he,cond_false]
   rw[e1]
   simp-implicitDefEqProofs only[kY,V,↓reduceIte,rA,rB,rC,reduceCtorEq,rD,rE,rF,WB,WF,h1,h2,h3,h6,h12,h13,h14,hlt,fJ p i k r hd,gC,nC,List.nil_append,List.cons_append]
   refine ah c1 ?_
   simp-implicitDefEqProofs only[V,↓reduceIte,rA,rB,rC,reduceCtorEq,rD,rE,rF,WB,ansA,he,hf]
   exact⟨om,fun x hx=>by rw[o1 x om],.inr (of_decide_eq_false he)⟩
  |true=>
   have e0:(k.sor Vx).2=0:=of_decide_eq_true he
   simp-implicitDefEqProofs only[kY,V,↓reduceIte,rA,rB,rC,reduceCtorEq,rD,rE,rF,WB,WF,h1,h2,h3,h6,h12,h13,h14,hlt,fJ p i k r hd,gC,nC,List.nil_append,List.cons_append]
   refine ah c1 ?_
   simp-implicitDefEqProofs only[V,↓reduceIte,rA,rB,rC,reduceCtorEq,rD,rE,rF,WB,WF,ansA,he,h6]
   refine app_wp (k:=i) (m:=1) (lo:=lo) (v:=v) (x:=.own h1'.next 0 1 1 (some 1)) (cs:=acc.flatMap strA) (new:=[.val (.string (k.sor Vx).1)]) ?_ ?_ ?_ rfl ?_ (bD om de) ?_ ?_ ?_
   ·simp-implicitDefEqProofs only[V,↓reduceIte,rA,rB,rC,reduceCtorEq,rD,rE,rF]
    exact hr.to (by show s.h.next≤h1'.next+1;omega) fun x _ x2=>by rw[aP om,o1 x x2]
   ·exact U53
   ·refine cE (rw':=true) ?_ rfl
    exact U28
   ·exact fun c hc=>by rw[List.mem_singleton.1 hc];exact Leaf.val _
   ·exact U28
   ·exact U28
   intro v1 h2' r1 n2 o2
   simp-implicitDefEqProofs only[V,↓reduceIte,rA,rB,rC,reduceCtorEq,rD,rE,rF] at n2 o2
   simp-implicitDefEqProofs only[V,↓reduceIte,rA,rB,rC,reduceCtorEq,rD,rE,rF,WB,h14,w1]
   refine(xe Vx p (A:=A) (B:=B) (C:=C) (lo:=lo) hN hA hB hC r (i+1) _ v1 (acc++[(k.sor Vx).1]) (aF hd) om (by rw[List.length_append,ha];rfl) (fun k' hk'=>hk k' (List.mem_cons_of_mem _ hk')) ?_ ?_ ?_ ?_ ?_ ?_ ?_ ?_ ?_ ?_ ?_ ?_).mono ?_
   ·simp-implicitDefEqProofs only[V,↓reduceIte,rA,rB,rC,reduceCtorEq,rD,rE,rF]
    rw[List.flatMap_append]
    exact r1
   ·exact U53
   ·simp-implicitDefEqProofs only[V,↓reduceIte,rA,rB,rC,reduceCtorEq,rD,rE,rF]
    rw[o2 B om (fun hv=>by have:=(hr.ids B hv).1;omega),if_neg om,o1 B om,gB]
   ·simp-implicitDefEqProofs only[V,↓reduceIte,rA,rB,rC,reduceCtorEq,rD,rE,rF]
    rw[o2 C om (fun hv=>by have:=(hr.ids C hv).1;omega),if_neg om,o1 C om,gC]
   ·exact U39
   ·exact U80
   ·exact U50
   ·exact U28
   ·simp-implicitDefEqProofs only[V,↓reduceIte,rA,rB,rC,reduceCtorEq,rD,rE,rF,h12]
   ·simp-implicitDefEqProofs only[V,↓reduceIte,rA,rB,rC,reduceCtorEq,rD,rE,rF,h13]
   ·exact U28
   ·exact U72
   rintro e s2 ⟨d2,m2,q2,H⟩
   simp-implicitDefEqProofs only[V,↓reduceIte,rA,rB,rC,reduceCtorEq,rD,rE,rF] at m2 q2
   refine⟨d2,om,fun x hx=>?_,?_⟩
   ·rw[q2 x hx,o2 x om (fun hv=>by have:=(hr.ids x hv).1;omega),if_neg om,o1 x om]
   have e2:Pr.sorL Vx (k::r)=bif decide ((Pr.sorL Vx r).2=0) then((k.sor Vx).1::(Pr.sorL Vx r).1,0) else([],(Pr.sorL Vx r).2):=by
    rw[Pr.sorL,he]
    rfl
   rw[e2]
   rcases H with⟨v',z,rfl,r2,t6,t2,t3⟩|⟨z,rfl,t4,t5⟩
   ·rw[decide_eq_true z]
    refine .inl ⟨v',rfl,rfl,?_,t6,t2,t3⟩
    rw[List.append_assoc] at r2
    exact r2
   ·rw[decide_eq_false z]
    exact .inr ⟨z,rfl,t4,t5⟩
structure EvB (Vx:Evr):Prop where
 v:Vx.vs.l.length<2^61
 y:Vx.sy.l.length<2^61
 ya:∀x∈Vx.sy.l,x.as.l.length<2^31
 h:Vx.hs.l.length<2^61
 hp:∀x∈Vx.hs.l,x.ps.l.length<2^31
theorem sor_eq(Vx:Evr)(p:Pr):p.sor Vx=bif decide ((Pr.sorL Vx p.ks).2=0) then sortN Vx p.op p.nm (Pr.sorL Vx p.ks).1 else(⟨#[]⟩,(Pr.sorL Vx p.ks).2):=by
 cases p
 rw[Pr.sor]
 rfl
theorem of_body(Vx:Evr)(hV:EvB Vx)(p:Pr)(hN:p.ks.length<2^29)(h2:p.op=10∨p.op=11→2≤p.ks.length)(hk:∀k∈p.ks,OfOk Vx k):OfOk Vx p:=fun h B C hB hC gB gC=>by
 obtain⟨v,h',hr,rfl,k1,k2⟩:=heap0 (g:=77) (l:=[p.av,.ptr C 0,.ptr B 0]) (h:=h) (fun v h'=>v=ansA (p.sor Vx)∧h.next≤h'.next∧∀x,x<h.next→h'.get x=h.get x) kr (fun h=>uC (xs:=[p.av])) f77_ok fun s hs hh hd hrd=>by
  have h0:=hs 0 _ rfl
  have h1:=hs 1 _ rfl
  have h2':=hs 2 _ rfl
  simp-implicitDefEqProofs only[f77_fn,f77,V,↓reduceIte,rA,rB,rC,reduceCtorEq,rD,rE,rF,WB,h0,h1,h2',hh]
  refine(xe Vx p (A:=h.next) (B:=B) (C:=C) (lo:=h.next+1) hN (Nat.lt_succ_self _) om om p.ks 0 _ (.val (.slice none 0 0)) [] rfl (Nat.zero_le _) rfl hk RowC.nil ?_ ?_ ?_ ?_ ?_ ?_ ?_ ?_ ?_ ?_ ?_).mono ?_
  ·simp-implicitDefEqProofs only[V,↓reduceIte,rA,rB,rC,reduceCtorEq,rD,rE,rF,hh]
   exact Nat.le_refl _
  ·simp-implicitDefEqProofs only[V,↓reduceIte,rA,rB,rC,reduceCtorEq,rD,rE,rF,hh,(eq_false om:(B=h.next)=False)]
   exact gB
  ·simp-implicitDefEqProofs only[V,↓reduceIte,rA,rB,rC,reduceCtorEq,rD,rE,rF,hh,(eq_false om:(C=h.next)=False)]
   exact gC
  ·exact U39
  ·simp-implicitDefEqProofs only[V,↓reduceIte,rA,rB,rC,reduceCtorEq,rD,rE,rF,h2']
  ·exact U28
  ·exact U28
  ·exact U28
  ·exact U28
  ·exact U66
  ·exact U33
  rintro e s1 ⟨d1,m1,o1,H⟩
  simp-implicitDefEqProofs only[V,↓reduceIte,rA,rB,rC,reduceCtorEq,rD,rE,rF,hh] at m1 o1
  rw[sor_eq]
  rcases H with⟨v1,z,rfl,r1,e6,e2,e3⟩|⟨z,rfl,e4,e5⟩
  ·rw[List.nil_append] at r1
   have gA:s1.h.get h.next=some (.cells p.cells true):=by rw[o1 h.next om,if_pos rfl]
   have gB':s1.h.get B=some (.cells Vx.cells true):=by rw[o1 B om,if_neg om,gB]
   have hlen:=nb Vx p.ks z
   obtain⟨h2'',f1,f2,f3,f4⟩:=dx r1
   have hcall:RunCall E1 (.f 78) [.agg Vx.cells,p.av,v1] s1.h (ansA (sortN Vx p.op p.nm (Pr.sorL Vx p.ks).1)) s1.h:=cZ (xs:=[.agg Vx.cells,p.av]) (ys:=[]) kr (mem2 (Tree.ev Vx) (Tree.pr p)) (fun v hv=>by cases hv) jx.tree f1 f4 rfl (fun h0=>by
    rw[cd rfl]
    exact wz Vx p ⟨(Pr.sorL Vx p.ks).1,nilK,none⟩ hV.v hV.y hV.ya hV.h hV.hp (by show(Pr.sorL Vx p.ks).1.length<_;omega) (fun q=>by show 2≤(Pr.sorL Vx p.ks).1.length;rw[hlen];exact h2 q) h0)
   rw[decide_eq_true z]
   simp-implicitDefEqProofs only[V,↓reduceIte,rA,rB,rC,reduceCtorEq,rD,rE,rF,WB,e2,e3,e6,gA,gB']
   refine ah (v:=ansA (sortN Vx p.op p.nm (Pr.sorL Vx p.ks).1)) (h':=s1.h) ?_ ?_
   ·exact U90
   simp-implicitDefEqProofs only[V,↓reduceIte,rA,rB,rC,reduceCtorEq,rD,rE,rF,WB,ansA,d1]
   exact⟨_,rfl,rfl,om,fun x hx=>by rw[o1 x om,if_neg om]⟩
  ·rw[decide_eq_false z]
   simp-implicitDefEqProofs only[V,↓reduceIte,rA,rB,rC,reduceCtorEq,rD,rE,rF,WB,ansA,d1,e4,e5]
   exact⟨_,rfl,rfl,om,fun x hx=>by rw[o1 x om,if_neg om]⟩
 exact⟨h',hr,k1,k2⟩
mutual
theorem sO(Vx:Evr)(hV:EvB Vx):∀(p:Pr),p.two=true→p.nodes<2^29→OfOk Vx p
 |.mk o s n ks nl cap,ht,hb=>by
  have hb':1+Pr.nodesL ks<2^29:=hb
  have hk:ks.length≤Pr.nodesL ks:=am ks
  simp only[Pr.two,Bool.and_eq_true,Bool.or_eq_true,Bool.not_eq_true',Bool.or_eq_false_iff,decide_eq_true_eq,decide_eq_false_iff_not] at ht
  exact of_body Vx hV (.mk o s n ks nl cap) (by show ks.length<_;omega) (fun q=>by
   have q:o=10∨o=11:=q
   show 2≤ks.length
   rcases ht.1 with h|h
   ·omega
   ·exact h) (oD Vx hV ks ht.2 om)
theorem oD(Vx:Evr)(hV:EvB Vx):∀(l:List Pr),Pr.twoL l=true→Pr.nodesL l<2^29→∀k∈l,OfOk Vx k
 | [],_,_,k,hk=>by cases hk
 |p::r,ht,hb,k,hk=>by
  have hb':p.nodes+Pr.nodesL r<2^29:=hb
  simp only[Pr.twoL,Bool.and_eq_true] at ht
  rcases List.mem_cons.1 hk with e|hk
  ·have:=sO Vx hV p ht.1 om
   rw[e]
   exact this
  ·exact oD Vx hV r ht.2 om k hk
end
end Go.Proofs.YtkhblipgiijoiaaGreatDoor
namespace Go.Proofs.YtkhblipgiijoiaaGreatDoor
open Go Go.AM
set_option maxHeartbeats 4000000
set_option maxRecDepth 10000
def rangesOf:ACode→Option (Code×Code)
 |.range _ _ a b _=>some (a,b)
 |.seq a b=>match rangesOf a with
  |some r=>some r
  |none=>rangesOf b
 |.cond _ a b=>match rangesOf a with
  |some r=>some r
  |none=>rangesOf b
 |.block _ b=>rangesOf b
 |.loop b=>rangesOf b
 |_=>none
noncomputable def asg32:Code:=match (funOf Tryz.prog 76).bind fun a=>rangesOf a.body with
 |some (a,_)=>a
 |none=>.skip
noncomputable def bdy32:Code:=match (funOf Tryz.prog 76).bind fun a=>rangesOf a.body with
 |some (_,b)=>b
 |none=>.skip
noncomputable def f76_r:ACode:=.range (.t 12) [13] asg32 bdy32 19
noncomputable def f76:ACode:=(.seq (.region [⟨some 1,none,.box (.t 0)⟩,⟨some 2,none,.alloc [.val (.int .i64 0)]⟩])
 (.seq (.seq (.region [⟨some 5,none,.load (some 4) (.t 1)⟩,⟨some 6,none,.call 111 [.t 5]⟩,⟨some 7,none,.bin .gtr 3 true (.t 6) (.c (.val (.int .i64 400)))⟩])
 (.cond (.t 7) (.seq (.region [⟨none,none,.store 1 (.t 2) (.c (.val (.int .i64 7)))⟩])
 .ret) .skip))
 (.seq (.seq (.region [⟨some 8,none,.load (some 4) (.t 1)⟩,⟨some 9,none,.call 112 [.t 8]⟩,⟨some 10,none,.bin .gtr 3 true (.t 9) (.c (.val (.int .i64 40)))⟩])
 (.cond (.t 10) (.seq (.region [⟨none,none,.store 1 (.t 2) (.c (.val (.int .i64 8)))⟩])
 .ret) .skip))
 (.seq (.seq (.region [⟨some 11,none,.load (some 4) (.t 1)⟩,⟨some 12,none,.call 113 [.t 11]⟩])
 (.block 0 f76_r))
 (.seq (.region [⟨none,none,.store 1 (.t 2) (.c (.val (.int .i64 0)))⟩])
 .ret)))))
noncomputable def um:AFun:=⟨f76,[.cell 2 none]⟩
theorem f76_ok:funOf Tryz.prog 76=some um:=by kernel_rfl
theorem asg32_c:cCode E1.P 19 asg32=uo:=by kernel_rfl
theorem bdy32_c:cCode E1.P 19 bdy32=mc:=by kernel_rfl
theorem ve{g:Nat}{l:List AV}{h:AH}{a:AFun}{P:List AV→AH→Prop}(hf:funOf Tryz.prog g=some a)
  (H:∀s:St,(∀i v,(enterTm l 0 .nil).get i=some v→s.eval (.t i)=some v)→s.h=h→s.defers=[]→s.round=none→wp E1 a.body s fun e s=>(e=.normal∨e=.ret)∧∃h',runDefers E1 s.defers s.h=some h'∧∃r,P r h'∧resultsA E1.globs (s.toH h') a.res=some r):
  ∃r h',P r h'∧Ev fun n=>enterA E1 (exec E1 n) g l h=some (oneOrTup r,h'):=by
 obtain⟨e,s',x,y1,h',y2,r,hp,y3⟩:=bZ _ _ _ (H {tm:=enterTm l 0 .nil,h:=h,defers:=[],round:=none} (fun _ _ h=>h) rfl rfl rfl)
 refine⟨r,h',hp,x.mono fun n p=>?_⟩
 have y4:resultsA E1.globs {s' with h:=h'} a.res=some r:=y3
 have hl:leaveA E1 a s'=some (oneOrTup r,h'):=by
  simp only[leaveA,y2,y4]
 simp only[enterA,(show funOf E1.P g=some a by rw[E1_P];exact hf),p]
 rcases y1 with rfl|rfl<;>exact hl
theorem tU{E:Env}{g:Nat}{l:List AV}{h h1 h':AH}{r:AV}(hs:E.shared.get g=none)(hz:l.foldl (fun h v=>AM.freeze deepest v h) h=h1)(hm:mapTree h1 l=none)
  (a:Ev fun n=>enterA E (exec E n) g l h=some (r,h')):RunCall E (.f g) l h r h':=by
 refine a.mono fun n p=>?_
 simp only[aj,cQ,hs,hz,hm,p]
theorem yQ{E:Env}{g:Nat}{l:List AV}{h h':AH}{r:AV}(hs:E.shared.get g=some ())(a:Ev fun n=>enterA E (exec E n) g l h=some (r,h')):RunCall E (.f g) l h r h':=by
 refine a.mono fun n p=>?_
 simp only[aj,cQ,hs,p]
theorem callv_to{E:Env}{s:St}{K:St→Prop}{r:List AOper}{dst:Option Nat}{x:Opd}{l:List Opd}{b:Nat}{args:List AV}{v:AV}{h':AH}(hx:s.eval x=some (.yld b))(hl:evalAll s l=some args)(hr:RunCall E (.y b) args s.h v h'):
  AM.wpOps E (⟨dst,none,.callv x l⟩::r) s K=AM.wpOps E r ((s.toH h').put dst v) K:=by
 rw[w_callv hx,hl]
 exact propext (iW hr)
def LoopOk(tm:Tr AV)(b:Nat)(h:AH):Prop:=h.get b=some (.loop tm [13] asg32 bdy32 19 .ready)∧(∃x,h.get 1=some (.cells [.val (.int .i64 x)] true))∧b<h.next∧1<b
def LoopDone(tm:Tr AV)(b:Nat)(x:Int)(h:AH):Prop:=h.get b=some (.loop tm [13] asg32 bdy32 19 (.done .ret))∧h.get 1=some (.cells [.val (.int .i64 x)] true)∧b<h.next∧1<b
def Frame(b:Nat)(h h':AH):Prop:=h.next≤h'.next∧∀c,c<h.next→c≠b→c≠1→h'.get c=h.get c
theorem Frame.refl(b:Nat)(h:AH):Frame b h h:=⟨Nat.le_refl _,fun _ _ _ _=>rfl⟩
theorem Frame.trans{b:Nat}{h h1 h2:AH}(x:Frame b h h1)(y:Frame b h1 h2):Frame b h h2:=
 ⟨Nat.le_trans x.1 y.1,fun c h1 h2 h3=>by rw[y.2 c (Nat.lt_of_lt_of_le h1 x.1) h2 h3,x.2 c h1 h2 h3]⟩
theorem jw{h:AH}{b:Nat}{x y:AV}(hb:h.get b=some (.cells [x] true)):storeH h 1 (.ptr b 0) [y]=some (h.put b (some (.cells [y] true))):=by
 simp only[storeH,hb]
 rfl
theorem fu{v:Value}:(AV.val v).cells=some [.val v]:=rfl
theorem asg_run(q:Pr)(b:Nat)(s:St)(h13:s.eval (.t 13)=some q.av)(hd:s.defers=[])(hr:s.round=some b):
  Run E1 uo s fun e s'=>e=.normal∧s'.defers=[]∧s'.round=some b∧s'.h=(s.h.alloc (.cells [.val (.int .i64 0),.val (.string ⟨#[]⟩),.val (.int .i64 0),.val (.slice none 0 0)] true)).put s.h.next (some (.cells q.cells true))∧s'.eval (.t 2)=s.eval (.t 2)∧s'.eval (.t 3)=some (.ptr s.h.next 0):=by
 have hs:∀h:AH,storeH (h.alloc (.cells [.val (.int .i64 0),.val (.string ⟨#[]⟩),.val (.int .i64 0),.val (.slice none 0 0)] true)) 4 (.ptr h.next 0) q.cells=_:=fun h=>br rfl q.len
 refine bZ _ _ _ ?_
 simp-implicitDefEqProofs only[uo,V,↓reduceIte,rA,rB,rC,reduceCtorEq,rD,rE,rF,h13,hs,hd,hr,St.rd_set,St.rd_toH]
theorem bdy_run(q:Pr)(b c:Nat)(x:Int)(s:St)(h2:s.eval (.t 2)=some (.ptr 1 0))(h3:s.eval (.t 3)=some (.ptr c 0))(g1:s.h.get 1=some (.cells [.val (.int .i64 x)] true))(gc:s.h.get c=some (.cells q.cells true))(hd:s.defers=[]):
  Run E1 mc s fun e s'=>s'.defers=[]∧(Na q=0∧e=.normal∧s'.h=s.h∨Na q≠0∧e=.ret∧s'.h=s.h.put 1 (some (.cells [.val (.int .i64 (Na q))] true))):=by
 have hs:storeH s.h 1 (.ptr 1 0) [.val (.int .i64 (Na q))]=some (s.h.put 1 (some (.cells [.val (.int .i64 (Na q))] true))):=jw g1
 refine bZ _ _ _ ?_
 by_cases e:Na q=0
 ·have e':decide (Na q=0)=true:=decide_eq_true e
  simp-implicitDefEqProofs only[mc,V,↓reduceIte,rA,rB,rC,reduceCtorEq,rD,rE,rF,h2,h3,g1,gc,hd,aA (wE q),e']
  exact .inl e
 ·have e':decide (Na q=0)=false:=decide_eq_false e
  simp-implicitDefEqProofs only[mc,V,↓reduceIte,rA,rB,rC,reduceCtorEq,rD,rE,rF,h2,h3,g1,gc,hd,aA (wE q),e',fu,hs]
  exact .inr e
theorem yv(tm:Tr AV)(htm:tm.get 2=some (.ptr 1 0))(q:Pr)(b:Nat)(h:AH)(ok:LoopOk tm b h):
  ∃h',RunCall E1 (.y b) [q.av] h (.val (.bool (decide (Na q=0)))) h'∧Frame b h h'∧(Na q=0→LoopOk tm b h')∧(Na q≠0→LoopDone tm b (Na q) h'):=by
 obtain⟨hb,⟨x,hx⟩,hn,h1b⟩:=ok
 obtain⟨e1,s1,r1,rfl,d1,o1,k1,t2,t3⟩:=asg_run q b {tm:=tm.put 13 (some q.av),h,defers:=[],round:=some b} (by show(tm.put 13 _).get 13=_;rw[Tr.get_put,if_pos rfl]) rfl rfl
 simp only at k1 t2 t3
 have hp2:s1.eval (.t 2)=some (.ptr 1 0):=by
  rw[t2]
  show(tm.put 13 _).get 2=_
  rw[Tr.get_put,if_neg de,htm]
 have gb:s1.h.get b=some (.loop tm [13] asg32 bdy32 19 .ready):=by rw[k1,mb hn,hb]
 have gc:s1.h.get h.next=some (.cells q.cells true):=by rw[k1,AH.get_put,if_pos rfl]
 have g1:s1.h.get 1=some (.cells [.val (.int .i64 x)] true):=by rw[k1,mb om,hx]
 have n1:s1.h.next=h.next+1:=by rw[k1];rfl
 have gf:∀c,c<h.next→s1.h.get c=h.get c:=fun c hc=>by rw[k1,mb hc]
 obtain⟨e2,s2,r2,d2,k2⟩:=bdy_run q b h.next x {s1 with h:=s1.h.put b (some (.loop tm [13] asg32 bdy32 19 .busy))} hp2 t3 (by show(s1.h.put b _).get 1=_;rw[AH.get_put,if_neg om,g1]) (by show(s1.h.put b _).get h.next=_;rw[AH.get_put,if_neg om,gc]) d1
 simp only at k2
 have pa:putAll [13] [q.av] tm=some (tm.put 13 (some q.av)):=rfl
 have al:[13].all (fun p=>Nat.blt p 19)=true:=rfl
 rcases k2 with⟨z,rfl,kh⟩|⟨z,rfl,kh⟩
 ·have z':decide (Na q=0)=true:=decide_eq_true z
  have gb2:s2.h.get b=some (.loop tm [13] asg32 bdy32 19 .busy):=by rw[kh,AH.get_put,if_pos rfl]
  refine⟨s2.h.put b (some (.loop tm [13] asg32 bdy32 19 .ready)),?_,?_,fun _=>?_,fun q=>absurd z q⟩
  ·rw[z']
   refine(r1.and r2).mono fun n ⟨p1,p2⟩=>?_
   simp only[aj,roundA,hb,pa,al,cond_true,asg32_c,p1,gb,bdy32_c,p2,d2,gb2,isNormal]
  ·refine⟨?_,fun c h1 h2 h3=>?_⟩
   ·rw[dC,kh,dC];omega
   ·rw[AH.get_put,if_neg h2,kh,AH.get_put,if_neg h2,gf c h1]
  ·refine⟨by rw[AH.get_put,if_pos rfl],⟨x,?_⟩,?_,h1b⟩
   ·rw[AH.get_put,if_neg om,kh,AH.get_put,if_neg om,g1]
   ·rw[dC,kh,dC];omega
 ·have z':decide (Na q=0)=false:=decide_eq_false z
  have gb2:s2.h.get b=some (.loop tm [13] asg32 bdy32 19 .busy):=by rw[kh,AH.get_put,if_neg om,AH.get_put,if_pos rfl]
  refine⟨s2.h.put b (some (.loop tm [13] asg32 bdy32 19 (.done .ret))),?_,?_,fun q=>absurd q z,fun _=>?_⟩
  ·rw[z']
   refine(r1.and r2).mono fun n ⟨p1,p2⟩=>?_
   simp only[aj,roundA,hb,pa,al,cond_true,asg32_c,p1,gb,bdy32_c,p2,d2,gb2,isNormal,cond_false]
  ·refine⟨?_,fun c h1 h2 h3=>?_⟩
   ·rw[dC,kh,dC,dC];omega
   ·rw[AH.get_put,if_neg h2,kh,AH.get_put,if_neg h3,AH.get_put,if_neg h2,gf c h1]
  ·refine⟨by rw[AH.get_put,if_pos rfl],?_,?_,h1b⟩
   ·rw[AH.get_put,if_neg om,kh,AH.get_put,if_pos rfl]
   ·rw[dC,kh,dC,dC];omega
def Visits(tm:Tr AV)(q:Pr):Prop:=∀(b:Nat) (h:AH),LoopOk tm b h→∃h',RunCall E1 (.f 147) [q.av,.yld b] h (.val (.bool (decide (chk Na q=0)))) h'∧Frame b h h'∧(chk Na q=0→LoopOk tm b h')∧(chk Na q≠0→LoopDone tm b (chk Na q) h')
theorem tA(tm:Tr AV)(p:Pr)(b:Nat):∀(r:List Pr) (i:Nat) (s:St),p.ks.drop i=r→i≤p.ks.length→i+r.length+2<2^62→(∀k∈r,Visits tm k)→LoopOk tm b s.h→
  s.eval (.t 1)=some (.yld b)→s.eval (.t 12)=some p.kids→s.eval (.t 13)=some (.val (.int .i64 (p.ks.length:Nat)))→s.eval (.t 14)=some (.val (.int .i64 i))→s.defers=[]→
  Run E1 mr s fun e s'=>s'.defers=[]∧Frame b s.h s'.h∧(chkL Na r=0∧e=.exit 0∧LoopOk tm b s'.h∨chkL Na r≠0∧e=.ret∧s'.eval (.t 4)=some (.val (.bool false))∧LoopDone tm b (chkL Na r) s'.h)
 | [],i,s,hr,hi,hb,ih,ok,h1,h12,h13,h14,hd=>by
  have hl:i=p.ks.length:=by
   have:=List.drop_eq_nil_iff.1 hr
   omega
  subst hl
  have hlt:decide (((p.ks.length:Nat):Int)<(p.ks.length:Nat))=false:=by simp
  apply aC (rfl:mr=.loop gS)
  simp-implicitDefEqProofs only[gS,V,↓reduceIte,rA,rB,rC,reduceCtorEq,rD,rE,rF,h1,h12,h13,h14,hd,hlt]
  exact⟨Frame.refl _ _,.inl ⟨rfl,ok⟩⟩
 |k::r,i,s,hr,hi,hb,ih,ok,h1,h12,h13,h14,hd=>by
  have hl':i<p.ks.length:=by
   rcases Nat.lt_or_ge i p.ks.length with x|x
   ·exact x
   ·rw[List.drop_eq_nil_of_le x] at hr;cases hr
  have hlt:decide ((i:Int)<(p.ks.length:Nat))=true:=by simp;omega
  have hr':p.ks.drop (i+1)=r:=by rw[←List.drop_drop,hr];rfl
  have hs:∀h:AH,storeH (h.alloc (.cells [.val (.int .i64 0),.val (.string ⟨#[]⟩),.val (.int .i64 0),.val (.slice none 0 0)] true)) 4 (.ptr h.next 0) k.cells=_:=fun h=>br rfl k.len
  have w1:IntKind.i64.wrap ((i:Int)+1)=((i+1:Nat):Int):=aE (n:=i+1) (by simp only[List.length_cons] at hb;omega)
  obtain⟨h2,hh2⟩:∃h1,(s.h.alloc (.cells [.val (.int .i64 0),.val (.string ⟨#[]⟩),.val (.int .i64 0),.val (.slice none 0 0)] true)).put s.h.next (some (.cells k.cells true))=h1:=⟨_,rfl⟩
  have hn2:h2.next=s.h.next+1:=by rw[←hh2];rfl
  have gk:h2.get s.h.next=some (.cells k.cells true):=by rw[←hh2,AH.get_put,if_pos rfl]
  have hg2:∀c,c<s.h.next→h2.get c=s.h.get c:=fun c hc=>by rw[←hh2];exact mb hc
  have f2:Frame b s.h h2:=⟨om,fun c h1 _ _=>hg2 c h1⟩
  have ok2:LoopOk tm b h2:=by
   obtain⟨a1,⟨x,a2⟩,a3,a4⟩:=ok
   exact⟨by rw[hg2 b a3,a1],⟨x,by rw[hg2 1 om,a2]⟩,om,a4⟩
  obtain⟨h3,hc,hf,hz,hnz⟩:=ih k List.mem_cons_self b h2 ok2
  have hk:=fun(s:St) (hs:s.h=h2) K r dst=>jq (E:=E1) (s:=s) (K:=K) (r:=r) (dst:=dst) (by rw[hs];exact hc)
  apply aC (rfl:mr=.loop gS)
  by_cases c:chk Na k=0
  ·have hq:chkL Na (k::r)=chkL Na r:=by simp only[chkL,c,if_true]
   have c':decide (chk Na k=0)=true:=decide_eq_true c
   simp-implicitDefEqProofs only[gS,V,↓reduceIte,rA,rB,rC,reduceCtorEq,rD,rE,rF,h1,h12,h13,h14,hd,hlt,ew hr,hs,hh2,gk,hk,c',w1,hq]
   refine(tA tm p b r (i+1) _ hr' om (by simp only[List.length_cons] at hb;omega) (fun k' hk=>ih k' (List.mem_cons_of_mem _ hk)) ?_ ?_ ?_ ?_ ?_ ?_).mono ?_
   ·simp-implicitDefEqProofs only[V,↓reduceIte,rA,rB,rC,reduceCtorEq,rD,rE,rF]
    exact hz c
   all_goals try (simp-implicitDefEqProofs only[V,↓reduceIte,rA,rB,rC,reduceCtorEq,rD,rE,rF,h1,h12,h13,hd];done)
   ·rintro e s' ⟨m1,m2,m3⟩
    simp-implicitDefEqProofs only[V,↓reduceIte,rA,rB,rC,reduceCtorEq,rD,rE,rF] at m2
    exact⟨m1,(f2.trans hf).trans m2,m3⟩
  ·have hq:chkL Na (k::r)=chk Na k:=by simp only[chkL,c,if_false]
   have c':decide (chk Na k=0)=false:=decide_eq_false c
   simp-implicitDefEqProofs only[gS,V,↓reduceIte,rA,rB,rC,reduceCtorEq,rD,rE,rF,h1,h12,h13,h14,hd,hlt,ew hr,hs,hh2,gk,hk,c',w1,hq]
   exact⟨f2.trans hf,.inr ⟨c,hnz c⟩⟩
mutual
theorem nR(tm:Tr AV)(htm:tm.get 2=some (.ptr 1 0)):∀(p:Pr),p.nodes<2^61→Visits tm p
 |.mk o nm n ks nl cap,hb=>by
  have hb':1+Pr.nodesL ks<2^61:=hb
  have hk:ks.length≤Pr.nodesL ks:=am ks
  have hI:=ky tm htm ks om
  have hc:chk Na (.mk o nm n ks nl cap)=if Na (.mk o nm n ks nl cap)=0 then chkL Na ks else Na (.mk o nm n ks nl cap):=by simp only[chk]
  generalize hp:Pr.mk o nm n ks nl cap=p at*
  have hks:p.ks=ks:=by rw[←hp];rfl
  intro b h ok
  have h1b:=ok.2.2.2
  obtain⟨r,h',⟨rfl,hf,hz,hnz⟩,ha⟩:=ve (g:=147) (l:=[p.av,.yld b]) (h:=h) (P:=fun r h'=>r=[.val (.bool (decide (chk Na p=0)))]∧Frame b h h'∧(chk Na p=0→LoopOk tm b h')∧(chk Na p≠0→LoopDone tm b (chk Na p) h')) f147_ok fun s hs hh hd hrd=>by
   have h0:=hs 0 _ rfl
   have h1:=hs 1 _ rfl
   have gb:∀c,c<h.next→(h.alloc (.cells p.cells true)).get c=h.get c:=fun c hc=>by rw[AH.get_alloc,if_neg om]
   have f1:Frame b h (h.alloc (.cells p.cells true)):=⟨Nat.le_succ _,fun c h1 _ _=>gb c h1⟩
   have ok1:LoopOk tm b (h.alloc (.cells p.cells true)):=by
    obtain⟨a1,⟨x,a2⟩,a3,a4⟩:=ok
    exact⟨by rw[gb b a3,a1],⟨x,by rw[gb 1 om,a2]⟩,Nat.lt_succ_of_lt a3,a4⟩
   obtain⟨h2,hc2,hf2,hz2,hnz2⟩:=yv tm htm p b _ ok1
   have gp:h2.get h.next=some (.cells p.cells true):=by
    rw[hf2.2 h.next (Nat.lt_succ_self _) (by have:=ok.2.2.1;omega) (by have:=ok.2.2.1;omega),AH.get_alloc,if_pos rfl]
   have hy:=fun(s:St) (hs:s.h=h.alloc (.cells p.cells true)) (hx:s.eval (.t 7)=some (.yld b)) (ha:evalAll s [.t 8]=some [p.av]) K r dst=>callv_to (E:=E1) (s:=s) (K:=K) (r:=r) (dst:=dst) hx ha (by rw[hs];exact hc2)
   by_cases c:Na p=0
   ·have c':decide (Na p=0)=true:=decide_eq_true c
    rw[if_pos c] at hc
    simp-implicitDefEqProofs only[vZ,f147,V,↓reduceIte,rA,rB,rC,reduceCtorEq,rD,rE,rF,h0,h1,hh,hd,hy,c',gp]
    refine(tA tm p b ks 0 _ (by rw[List.drop_zero,hks]) (Nat.zero_le _) om hI ?_ ?_ ?_ ?_ ?_ ?_).mono ?_
    ·simp-implicitDefEqProofs only[V,↓reduceIte,rA,rB,rC,reduceCtorEq,rD,rE,rF]
     exact hz2 c
    ·exact U39
    ·exact U29
    ·exact U29
    ·exact U29
    ·exact U33
    ·rintro e s' ⟨m1,m2,⟨z,rfl,m3⟩|⟨z,rfl,m4,m3⟩⟩
     ·simp-implicitDefEqProofs only[V,↓reduceIte,rA,rB,rC,reduceCtorEq,rD,rE,rF] at m2
      have:Nat.beq 0 0=true:=rfl
      have z':decide (chk Na p=0)=true:=decide_eq_true (by rw[hc];exact z)
      simp-implicitDefEqProofs only[V,↓reduceIte,rA,rB,rC,reduceCtorEq,rD,rE,rF,this,m1]
      exact⟨_,rfl,_,⟨by rw[z'],(f1.trans hf2).trans m2,fun _=>m3,fun q=>absurd (by rw[hc];exact z) q⟩,by simp-implicitDefEqProofs only[V,↓reduceIte,rA,rB,rC,reduceCtorEq,rD,rE,rF]<;>rfl⟩
     ·simp-implicitDefEqProofs only[V,↓reduceIte,rA,rB,rC,reduceCtorEq,rD,rE,rF] at m2
      have z':decide (chk Na p=0)=false:=decide_eq_false (by rw[hc];exact z)
      simp-implicitDefEqProofs only[V,↓reduceIte,rA,rB,rC,reduceCtorEq,rD,rE,rF,m1,m4]
      exact⟨_,rfl,_,⟨by rw[z'],(f1.trans hf2).trans m2,fun q=>absurd (by rw[←hc];exact q) z,fun _=>by rw[hc];exact m3⟩,by simp-implicitDefEqProofs only[V,↓reduceIte,rA,rB,rC,reduceCtorEq,rD,rE,rF,m4]<;>rfl⟩
   ·have c':decide (Na p=0)=false:=decide_eq_false c
    rw[if_neg c] at hc
    have z':decide (chk Na p=0)=false:=decide_eq_false (by rw[hc];exact c)
    simp-implicitDefEqProofs only[vZ,f147,V,↓reduceIte,rA,rB,rC,reduceCtorEq,rD,rE,rF,h0,h1,hh,hd,hy,c',gp]
    exact⟨_,rfl,_,⟨by rw[z'],f1.trans hf2,fun q=>absurd (by rw[←hc];exact q) c,fun _=>by rw[hc];exact hnz2 c⟩,by simp-implicitDefEqProofs only[V,↓reduceIte,rA,rB,rC,reduceCtorEq,rD,rE,rF]<;>rfl⟩
  refine⟨h',tU kr (h1:=h) ?_ ?_ ha,hf,hz,hnz⟩
  ·have e1:AM.freeze deepest p.av h=h:=(Tree.pr p).2 h 999999998
   simp only[List.foldl_cons,List.foldl_nil,e1]
   rfl
  ·have e1:toTree h deepest p.av=some p.av:=(Tree.pr p).1 h 999999998
   have e2:toTree h deepest (.yld b)=none:=rfl
   simp only[mapTree,e1,e2]
theorem ky(tm:Tr AV)(htm:tm.get 2=some (.ptr 1 0)):∀(l:List Pr),Pr.nodesL l<2^61→∀k∈l,Visits tm k
 | [],_,k,hk=>by cases hk
 |a::r,hb,k,hk=>by
  have hb':a.nodes+Pr.nodesL r<2^61:=hb
  rcases List.mem_cons.1 hk with e|hk
  ·rw[e];exact nR tm htm a om
  ·exact ky tm htm r om k hk
end
end Go.Proofs.YtkhblipgiijoiaaGreatDoor
namespace Go.Proofs.YtkhblipgiijoiaaGreatDoor
open Go Go.AM
set_option maxHeartbeats 40000000
set_option maxRecDepth 10000
theorem vp{x:AV}{l:List AV}{rw:Bool}:cfB (some (.cells (x::l) rw)) 0=some (x::l):=rfl
theorem fN{E:Env}{h:AH}{b:Nat}(hg:h.get b=some (.dfr true)):runDefers E [.mark b] h=some (h.put b (some (.dfr false))):=by
 simp only[runDefers,hg]
theorem qX(p:Pr)(h:AH):RunCall E1 (.f 113) [p.av] h (.fn (.func 146) [] [.ptr h.next 0]) (h.alloc (.cells p.cells true)):=by
 obtain⟨r,h',⟨rfl,rfl⟩,ha⟩:=ve (g:=113) (l:=[p.av]) (h:=h) (P:=fun r h'=>r=[.fn (.func 146) [] [.ptr h.next 0]]∧h'=h.alloc (.cells p.cells true)) f113_ok fun s hs hh hd hrd=>by
  have h0:=hs 0 _ rfl
  simp-implicitDefEqProofs only[f113_fn,f113,V,↓reduceIte,rA,rB,rC,reduceCtorEq,rD,rE,rF,h0,hh,hd]
  exact⟨_,rfl,_,⟨rfl,rfl⟩,by simp-implicitDefEqProofs only[V,↓reduceIte,rA,rB,rC,reduceCtorEq,rD,rE,rF]⟩
 exact yQ kr ha
theorem qW(tm:Tr AV)(htm:tm.get 2=some (.ptr 1 0))(p:Pr)(hb:p.nodes<2^61)(b c:Nat)(h:AH)(ok:LoopOk tm b h)(hc:h.get c=some (.cells p.cells true)):
  ∃h',RunCall E1 (.f 146) [.yld b,.ptr c 0] h (.tup []) h'∧Frame b h h'∧(chk Na p=0→LoopOk tm b h')∧(chk Na p≠0→LoopDone tm b (chk Na p) h'):=by
 obtain⟨h2,hr2,hf,hz,hnz⟩:=nR tm htm p hb b h ok
 obtain⟨r,h',⟨rfl,rfl⟩,ha⟩:=ve (g:=146) (l:=[.yld b,.ptr c 0]) (h:=h) (P:=fun r h'=>r=[]∧h'=h2) f146_ok fun s hs hh hd hrd=>by
  have h0:=hs 0 _ rfl
  have h1:=hs 1 _ rfl
  have hk:=fun(s:St) (hs:s.h=h) K r dst=>jq (E:=E1) (s:=s) (K:=K) (r:=r) (dst:=dst) (by rw[hs];exact hr2)
  simp-implicitDefEqProofs only[f146_fn,f146,V,↓reduceIte,rA,rB,rC,reduceCtorEq,rD,rE,rF,h0,h1,hh,hd,hc,hk]
  exact⟨_,rfl,_,⟨rfl,rfl⟩,rfl⟩
 refine⟨h',tU kr (h1:=h) rfl ?_ ha,hf,hz,hnz⟩
 have e2:toTree h deepest (.yld b)=none:=rfl
 simp only[mapTree,e2]
theorem sE{E:Env}{g:Opd}{ps ps3:List Nat}{asg body asg3 body3:Code}{M M3 f:Nat}{s:St}{Q:Ex→St→Prop}{a bb:List AV}{v:AV}{h3:AH}{tm3:Tr AV}{st:LSt}{e:Ex}(hr:s.round=none)(hg:s.eval g=some (.fn (.func f) a bb))
  (hc:RunCall E (.f f) (a++(.yld (s.h.next+1)::bb)) ((s.h.alloc (.dfr true)).alloc (.loop s.tm ps asg body M .ready)) v h3) (hb:h3.get (s.h.next+1)=some (.loop tm3 ps3 asg3 body3 M3 st))
  (hst:(st=.ready∧e=.normal)∨st=.done e)
  (hQ:Q e {s with h:=h3.put (s.h.next+1) (some (.loop tm3 ps3 asg3 body3 M3 .gone)),defers:=.mark s.h.next::s.defers}):Run E (.range g ps asg body M) s Q:=by
 refine⟨_,_,(Ev.mono hc fun n p=>?_:Ev fun n=>exec E (n+1) (.range g ps asg body M) s=some (e,_)).step,hQ⟩
 have hn:(s.h.alloc (.dfr true)).next=s.h.next+1:=rfl
 simp only[exec,hg,hr,hn,p,hb]
 rcases hst with⟨rfl,rfl⟩|rfl<;>rfl
theorem f76_range(p:Pr)(hb:p.nodes<2^61)(c:Nat)(x:Int)(s:St)(h12:s.eval (.t 12)=some (.fn (.func 146) [] [.ptr c 0]))(h2:s.eval (.t 2)=some (.ptr 1 0))(hc:s.h.get c=some (.cells p.cells true))(nc:c<s.h.next)(h1:s.h.get 1=some (.cells [.val (.int .i64 x)] true))(n1:1<s.h.next)(hd:s.defers=[])(hr:s.round=none):
  Run E1 f76_r s fun e s'=>s'.defers=[.mark s.h.next]∧s'.h.get s.h.next=some (.dfr true)∧s'.eval (.t 2)=some (.ptr 1 0)∧(chk Na p=0∧e=.normal∧(∃x,s'.h.get 1=some (.cells [.val (.int .i64 x)] true))∨chk Na p≠0∧e=.ret∧s'.h.get 1=some (.cells [.val (.int .i64 (chk Na p))] true)):=by
 have htm:s.tm.get 2=some (.ptr 1 0):=h2
 have gg:∀k,k<s.h.next→((s.h.alloc (.dfr true)).alloc (.loop s.tm [13] asg32 bdy32 19 .ready)).get k=s.h.get k:=fun k hk=>by
  have:(s.h.alloc (.dfr true)).next=s.h.next+1:=rfl
  rw[AH.get_alloc,if_neg om,AH.get_alloc,if_neg om]
 have gl:((s.h.alloc (.dfr true)).alloc (.loop s.tm [13] asg32 bdy32 19 .ready)).get (s.h.next+1)=some (.loop s.tm [13] asg32 bdy32 19 .ready):=by
  have:(s.h.alloc (.dfr true)).next=s.h.next+1:=rfl
  rw[AH.get_alloc,if_pos this.symm]
 have gd:((s.h.alloc (.dfr true)).alloc (.loop s.tm [13] asg32 bdy32 19 .ready)).get s.h.next=some (.dfr true):=by
  have:(s.h.alloc (.dfr true)).next=s.h.next+1:=rfl
  rw[AH.get_alloc,if_neg om,AH.get_alloc,if_pos rfl]
 have gn:((s.h.alloc (.dfr true)).alloc (.loop s.tm [13] asg32 bdy32 19 .ready)).next=s.h.next+2:=rfl
 have ok:LoopOk s.tm (s.h.next+1) ((s.h.alloc (.dfr true)).alloc (.loop s.tm [13] asg32 bdy32 19 .ready)):=⟨gl,⟨x,by rw[gg 1 n1,h1]⟩,by rw[gn];omega,om⟩
 obtain⟨h3,hr3,hf,hz,hnz⟩:=qW s.tm htm p hb (s.h.next+1) c _ ok (by rw[gg c nc,hc])
 have fd:h3.get s.h.next=some (.dfr true):=by rw[hf.2 s.h.next (by rw[gn];omega) om om,gd]
 by_cases k:chk Na p=0
 ·obtain⟨a1,⟨y,a2⟩,a3,a4⟩:=hz k
  refine sE (e:=.normal) hr h12 hr3 a1 (.inl ⟨rfl,rfl⟩) ⟨by rw[hd],?_,h2,.inl ⟨k,rfl,y,?_⟩⟩
  ·show(h3.put _ _).get _=_
   rw[AH.get_put,if_neg om,fd]
  ·show(h3.put _ _).get _=_
   rw[AH.get_put,if_neg om,a2]
 ·obtain⟨a1,a2,a3,a4⟩:=hnz k
  refine sE (e:=.ret) hr h12 hr3 a1 (.inr rfl) ⟨by rw[hd],?_,h2,.inr ⟨k,rfl,?_⟩⟩
  ·show(h3.put _ _).get _=_
   rw[AH.get_put,if_neg om,fd]
  ·show(h3.put _ _).get _=_
   rw[AH.get_put,if_neg om,a2]
def ckS(N:Pr→Int)(p:Pr):Int:=if 400<p.nodes then 7 else if 40<p.depth then 8 else chk N p
theorem jf(p:Pr)(hb:p.nodes<2^61)(h:AH):RunCall E1 (.f 76) [p.av] h (.val (.int .i64 (ckS Na p))) h:=by
 have hdp:p.depth<2^61:=Nat.lt_of_le_of_lt (lU p) hb
 obtain⟨r,h',rfl,ha⟩:=ve (g:=76) (l:=[p.av]) (h:=.empty) (P:=fun r _=>r=[.val (.int .i64 (ckS Na p))]) f76_ok fun s hs hh hd hrd=>by
  have h0:=hs 0 _ rfl
  have b0:Nat.beq 0 0=true:=rfl
  obtain⟨H,hH⟩:∃H,(AH.empty.alloc (.cells p.cells true)).alloc (.cells [.val (.int .i64 0)] true)=H:=⟨_,rfl⟩
  have H1:H.get 1=some (.cells [.val (.int .i64 0)] true):=by rw[←hH];simp[AH.get_alloc,fo,km]
  have H0:H.get 0=some (.cells p.cells true):=by rw[←hH];simp[AH.get_alloc,fo,km]
  have Hn:H.next=2:=by rw[←hH];rfl
  have hst:∀x:Int,storeH H 1 (.ptr 1 0) [.val (.int .i64 x)]=some (H.put 1 (some (.cells [.val (.int .i64 x)] true))):=fun x=>jw H1
  by_cases z1:400<p.nodes
  ·have c1:decide (400<((p.nodes:Nat):Int))=true:=decide_eq_true om
   have hv:ckS Na p=7:=by unfold ckS;rw[if_pos z1]
   simp-implicitDefEqProofs only[um,f76,V,↓reduceIte,rA,rB,rC,reduceCtorEq,rD,rE,rF,h0,hh,hd,hH,H0,H1,aA (ce p hb),c1,hst,fu,hv]
   exact⟨_,rfl,_,rfl,by simp-implicitDefEqProofs only[V,↓reduceIte,rA,rB,rC,reduceCtorEq,rD,rE,rF,vp,dt]⟩
  ·have c1:decide (400<((p.nodes:Nat):Int))=false:=decide_eq_false om
   by_cases z2:40<p.depth
   ·have c2:decide (40<((p.depth:Nat):Int))=true:=decide_eq_true om
    have hv:ckS Na p=8:=by unfold ckS;rw[if_neg z1,if_pos z2]
    simp-implicitDefEqProofs only[um,f76,V,↓reduceIte,rA,rB,rC,reduceCtorEq,rD,rE,rF,h0,hh,hd,hH,H0,H1,aA (ce p hb),aA (eL p hb),c1,c2,hst,fu,hv]
    exact⟨_,rfl,_,rfl,by simp-implicitDefEqProofs only[V,↓reduceIte,rA,rB,rC,reduceCtorEq,rD,rE,rF,vp,dt]⟩
   ·have c2:decide (40<((p.depth:Nat):Int))=false:=decide_eq_false om
    have hv:ckS Na p=chk Na p:=by unfold ckS;rw[if_neg z1,if_neg z2]
    have hk:=fun(s:St) (hs:s.h=H) K r dst=>jq (E:=E1) (s:=s) (K:=K) (r:=r) (dst:=dst) (by rw[hs];exact qX p H)
    have wd:∀(s:St) Q,wp E1 f76_r s Q=Run E1 f76_r s Q:=fun _ _=>rfl
    simp-implicitDefEqProofs only[um,f76,V,↓reduceIte,rA,rB,rC,reduceCtorEq,rD,rE,rF,h0,hh,hd,hH,H0,H1,aA (ce p hb),aA (eL p hb),c1,c2,hk,wd]
    refine(f76_range p hb H.next 0 _ ?_ ?_ ?_ ?_ ?_ ?_ ?_ ?_).mono ?_
    ·exact U28
    ·simp-implicitDefEqProofs only[V,↓reduceIte,rA,rB,rC,reduceCtorEq,rD,rE,rF,Hn]
    ·exact U28
    ·simp-implicitDefEqProofs only[V,↓reduceIte,rA,rB,rC,reduceCtorEq,rD,rE,rF];omega
    ·simp-implicitDefEqProofs only[V,↓reduceIte,rA,rB,rC,reduceCtorEq,rD,rE,rF,Hn,H1]
    ·simp-implicitDefEqProofs only[V,↓reduceIte,rA,rB,rC,reduceCtorEq,rD,rE,rF];omega
    ·exact U33
    ·simp-implicitDefEqProofs only[St.rd_set,St.rd_toH,hrd]
    ·rintro e s' ⟨m1,m2,m3,⟨k,rfl,x,m4⟩|⟨k,rfl,m4⟩⟩
     ·have hs2:storeH s'.h 1 (.ptr 1 0) [.val (.int .i64 0)]=some (s'.h.put 1 (some (.cells [.val (.int .i64 0)] true))):=jw m4
      simp-implicitDefEqProofs only[V,↓reduceIte,rA,rB,rC,reduceCtorEq,rD,rE,rF,Hn] at m1 m2
      simp-implicitDefEqProofs only[V,↓reduceIte,rA,rB,rC,reduceCtorEq,rD,rE,rF,m1,m3,hs2,fu]
      refine⟨_,fN ?_,_,rfl,?_⟩
      ·exact U125
      ·simp-implicitDefEqProofs only[V,↓reduceIte,rA,rB,rC,reduceCtorEq,rD,rE,rF,m3,vp,dt,hv,k]
     ·simp-implicitDefEqProofs only[V,↓reduceIte,rA,rB,rC,reduceCtorEq,rD,rE,rF,Hn] at m1 m2
      simp-implicitDefEqProofs only[V,↓reduceIte,rA,rB,rC,reduceCtorEq,rD,rE,rF,m1,m3]
      refine⟨_,fN ?_,_,rfl,?_⟩
      ·exact U125
      ·simp-implicitDefEqProofs only[V,↓reduceIte,rA,rB,rC,reduceCtorEq,rD,rE,rF,m3,m4,vp,dt,hv]
 exact aB kr kr (mem1 (Tree.pr p)) rfl (Tree.val _) ⟨h',ha⟩ h
end Go.Proofs.YtkhblipgiijoiaaGreatDoor
