/- A part of the proof about filled horn systems: ZSols. -/
import Derived.Test.YtkhblipgiijoiaaGreatDoorU0
import Derived.Test.YtkhblipgiijoiaaGreatDoorR7

set_option linter.all false
open Nat renaming reduceEqDiff → rA, reduceAdd → rB, reduceMul → rC
open Int renaming reduceEq → rD, reduceLT → rE, reduceLE → rF
namespace Go.Proofs.YtkhblipgiijoiaaGreatDoor
open Go Go.AM
set_option maxHeartbeats 4000000
theorem lI(x:Ho)(y:So)(h:AH):RunCall E1 (.f 44) [.agg x.cells,.agg y.cells] h (.val (.bool (strEq x.nm y.nm))) h:=by
 refine cK kr f44_ok (mem2 (Tree.ho x) (Tree.so y)) rfl (Tree.val _) (fun s hs hh hd hr=>?_) h
 have h0:=hs 0 _ rfl
 have h1:=hs 1 _ rfl
 simp-implicitDefEqProofs only[f44_fn,f44,V,↓reduceIte,rA,rB,rC,reduceCtorEq,rD,rE,rF,WB,h0,h1,hh,hd]
def eqfS:List Ho→List So→Bool
 |h::hs,s::ss=>strEq h.nm s.nm&&eqfS hs ss
 |_,_=>true
theorem xw(w:Vl Ho)(z:Vl So)(hN:w.l.length<2^61)(hl:w.l.length=z.l.length):∀(r:List Ho) (q:List So) (i:Nat) (s:St),w.l.drop i=r→z.l.drop i=q→i≤w.l.length→
  s.eval (.t 1)=some (z.A So.cells)→s.eval (.t 2)=some (.fn (.func 44) [] [])→s.eval (.t 15)=some (w.A Ho.cells)→s.eval (.t 16)=some (.val (.int .i64 (w.l.length:Nat)))→s.eval (.t 17)=some (.val (.int .i64 (i:Nat)))→s.defers=[]→
  Run E1 vH s fun e s'=>s'.defers=[]∧((eqfS r q=true∧e=.exit 0)∨(eqfS r q=false∧e=.ret∧s'.eval (.t 6)=some (.val (.bool false))))
 | [],q,i,s,hd,hq,hi,h1,h2,h15,h16,h17,hf=>by
  have hl:=aN hd hi
  subst hl
  apply aC (rfl:vH=.loop kd)
  simp-implicitDefEqProofs only[kd,V,↓reduceIte,rA,rB,rC,reduceCtorEq,rD,rE,rF,WB,h1,h2,h15,h16,h17,hf,lt_f,eqfS]
 |k::r,q,i,s,hd,hq,hi,h1,h2,h15,h16,h17,hf=>by
  have hlt':=aV hd
  have hlt:=lt_t hlt'
  have w1:IntKind.i64.wrap ((i:Int)+1)=((i+1:Nat):Int):=aE (n:=i+1) om
  obtain⟨a,q',rfl⟩:∃a q',q=a::q':=by
   cases q with
   |nil=>
    have:=List.drop_eq_nil_iff.1 hq
    omega
   |cons a q'=>exact⟨a,q',rfl⟩
  apply aC (rfl:vH=.loop kd)
  cases hc:strEq k.nm a.nm with
  |false=>
   simp-implicitDefEqProofs only[kd,V,↓reduceIte,rA,rB,rC,reduceCtorEq,rD,rE,rF,WB,WF,h1,h2,h15,h16,h17,hf,hlt,w.at Ho.len hd,z.at So.len hq,bR,cj,bg,nX,(eq_false om:(s.h.next=s.h.next+1)=False),List.nil_append,List.append_nil,aA (lI k a),hc,eqfS]
  |true=>
   simp-implicitDefEqProofs only[kd,V,↓reduceIte,rA,rB,rC,reduceCtorEq,rD,rE,rF,WB,WF,h1,h2,h15,h16,h17,hlt,w.at Ho.len hd,z.at So.len hq,bR,cj,bg,nX,(eq_false om:(s.h.next=s.h.next+1)=False),List.nil_append,List.append_nil,aA (lI k a),hc,eqfS,w1]
   refine(xw w z hN hl r q' (i+1) _ (aF hd) (aF hq) om ?_ ?_ ?_ ?_ ?_ ?_)
   all_goals simp-implicitDefEqProofs only[V,↓reduceIte,rA,rB,rC,reduceCtorEq,rD,rE,rF,h1,h2,h15,h16,hf]
theorem eqf_call43(w:Vl Ho)(z:Vl So)(hN:w.l.length<2^61)(h:AH):RunCall E1 (.f 43) [w.A Ho.cells,z.A So.cells,.fn (.func 44) [] []] h (.val (.bool (decide (((w.l.length:Nat):Int)=(z.l.length:Nat))&&eqfS w.l z.l))) h:=by
 refine cK kr f43_ok (mem3 Vl.leaf.tree Vl.leaf.tree (Leaf.fn0 _).tree) rfl (Tree.val _) (fun s hs hh hd hr=>?_) h
 have h0:=hs 0 _ rfl
 have h1:=hs 1 _ rfl
 have h2:=hs 2 _ rfl
 cases c1:decide (((w.l.length:Nat):Int)=(z.l.length:Nat)) with
 |false=>simp-implicitDefEqProofs only[f43_fn,f43,V,↓reduceIte,rA,rB,rC,reduceCtorEq,rD,rE,rF,WB,h0,h1,h2,hh,hd,Vl.len,c1]
 |true=>
  have hl:w.l.length=z.l.length:=by have:=of_decide_eq_true c1;omega
  simp-implicitDefEqProofs only[f43_fn,f43,V,↓reduceIte,rA,rB,rC,reduceCtorEq,rD,rE,rF,WB,h0,h1,h2,hh,Vl.len,c1]
  refine(xw w z hN hl w.l z.l 0 _ rfl rfl (Nat.zero_le _) ?_ ?_ ?_ ?_ ?_ ?_).mono ?_
  ·exact U39
  ·exact U80
  ·exact U28
  ·exact U28
  ·exact U66
  ·exact U33
  rintro e s1 ⟨d1,⟨q,rfl⟩|⟨q,rfl,e6⟩⟩
  ·exact U93
  ·simp-implicitDefEqProofs only[V,↓reduceIte,rA,rB,rC,reduceCtorEq,rD,rE,rF,WB,d1,q,e6]
def evS(H:Hn)(x:Ho):Evr:=⟨x.ps,H.sy,⟨[],nilK,none⟩⟩
theorem sr(S:Vl So)(hN:S.l.length<2^61):∀(r:List So) (i:Nat) (s:St) (seen:List ByteArray),S.l.drop i=r→i≤S.l.length→1<s.h.next→s.h.get 1=some (mapB seen)→
  s.eval (.t 5)=some (.mp 1)→s.eval (.t 14)=some (S.A So.cells)→s.eval (.t 15)=some (.val (.int .i64 (S.l.length:Nat)))→s.eval (.t 16)=some (.val (.int .i64 (i:Nat)))→s.defers=[]→
  Run E1 vW s fun e s'=>e=.exit 0∧s'.defers=[]∧s'.h.get 0=s.h.get 0∧1<s'.h.next∧(∃l,s'.h.get 1=some (mapB l))∧∀j,j<7→s'.eval (.t j)=s.eval (.t j)
 | [],i,s,seen,hd,hi,hn,g1,h5,h14,h15,h16,hf=>by
  have hl:=aN hd hi
  subst hl
  apply aC (rfl:vW=.loop qI)
  simp-implicitDefEqProofs only[qI,V,↓reduceIte,rA,rB,rC,reduceCtorEq,rD,rE,rF,WB,h5,h14,h15,h16,hf,lt_f]
  refine⟨hn,⟨_,g1⟩,fun j hj=>?_⟩
  rw[if_neg om]
 |k::r,i,s,seen,hd,hi,hn,g1,h5,h14,h15,h16,hf=>by
  have hl:=aV hd
  have hlt:=lt_t hl
  have w1:IntKind.i64.wrap ((i:Int)+1)=((i+1:Nat):Int):=aE (n:=i+1) om
  have n1:(1=s.h.next)=False:=eq_false om
  apply aC (rfl:vW=.loop qI)
  simp-implicitDefEqProofs only[qI,V,↓reduceIte,rA,rB,rC,reduceCtorEq,rD,rE,rF,WB,WF,h5,h14,h15,h16,hlt,S.at So.len hd,cj,nX,ip,dM,eY,g1,n1,w1]
  refine(sr S hN r (i+1) _ (addS k.nm seen) (aF hd) om ?_ ?_ ?_ ?_ ?_ ?_ ?_).mono ?_
  ·exact U53
  ·exact U28
  ·exact U35
  ·exact U77
  ·exact U78
  ·exact U28
  ·exact U72
  rintro e s1 ⟨rfl,d1,o1,m1,l1,t1⟩
  simp-implicitDefEqProofs only[V,↓reduceIte,rA,rB,rC,reduceCtorEq,rD,rE,rF,(eq_false om:(0=s.h.next)=False)] at o1
  refine⟨rfl,d1,o1,m1,l1,fun j hj=>?_⟩
  rw[t1 j hj]
  simp only[St.put,St.eval_set,St.eval_toH]
  repeat rw[if_neg om]
theorem sq(w:Vl Ho)(hN:w.l.length<2^61)(l:List ByteArray):∀(r:List Ho) (i:Nat) (s:St),w.l.drop i=r→i≤w.l.length→1<s.h.next→s.h.get 1=some (mapB l)→
  s.eval (.t 5)=some (.mp 1)→s.eval (.t 25)=some (w.A Ho.cells)→s.eval (.t 26)=some (.val (.int .i64 (w.l.length:Nat)))→s.eval (.t 27)=some (.val (.int .i64 (i:Nat)))→s.defers=[]→
  Run E1 vV s fun e s'=>s'.defers=[]∧((e=.exit 2∧s'.h.get 0=s.h.get 0∧1<s'.h.next∧∀j,j<7→j≠4→s'.eval (.t j)=s.eval (.t j))∨(e=.ret∧s'.eval (.t 4)=some (.val (.int .i64 5))))
 | [],i,s,hd,hi,hn,g1,h5,h14,h15,h16,hf=>by
  have hl:=aN hd hi
  subst hl
  apply aC (rfl:vV=.loop kf)
  simp-implicitDefEqProofs only[kf,V,↓reduceIte,rA,rB,rC,reduceCtorEq,rD,rE,rF,WB,h5,h14,h15,h16,hf,lt_f]
  refine .inl ⟨hn,fun j hj _=>?_⟩
  rw[if_neg om]
 |k::r,i,s,hd,hi,hn,g1,h5,h14,h15,h16,hf=>by
  have hl:=aV hd
  have hlt:=lt_t hl
  have w1:IntKind.i64.wrap ((i:Int)+1)=((i+1:Nat):Int):=aE (n:=i+1) om
  have n1:(1=s.h.next)=False:=eq_false om
  apply aC (rfl:vV=.loop kf)
  cases hm:memS k.nm l with
  |false=>simp-implicitDefEqProofs only[kf,V,↓reduceIte,rA,rB,rC,reduceCtorEq,rD,rE,rF,WB,WF,h5,h14,h15,h16,hf,hlt,w.at Ho.len hd,bR,bg,cH,bT,bk,g1,n1,hm]
  |true=>
   simp-implicitDefEqProofs only[kf,V,↓reduceIte,rA,rB,rC,reduceCtorEq,rD,rE,rF,WB,WF,h5,h14,h15,h16,hlt,w.at Ho.len hd,bR,bg,cH,bT,bk,g1,n1,hm,w1]
   refine(sq w hN l r (i+1) _ (aF hd) om ?_ ?_ ?_ ?_ ?_ ?_ ?_).mono ?_
   ·exact U53
   ·exact U74
   ·exact U35
   ·exact U77
   ·exact U78
   ·exact U28
   ·exact U72
   rintro e s1 ⟨d1,⟨rfl,o1,m1,t1⟩|z⟩
   ·simp-implicitDefEqProofs only[V,↓reduceIte,rA,rB,rC,reduceCtorEq,rD,rE,rF,(eq_false om:(0=s.h.next)=False)] at o1
    refine⟨d1,.inl ⟨rfl,o1,m1,fun j hj hj4=>?_⟩⟩
    rw[t1 j hj hj4]
    simp only[St.put,St.eval_set,St.eval_toH]
    repeat rw[if_neg om]
   ·exact⟨d1,.inr z⟩
theorem evS_ok{H:Hn}(hH:HnB H){x:Ho}(hx:x∈H.hs.l):EvB (evS H x):=by
 have h1:=hH.hp x hx
 have h2:=hH.sy
 exact⟨by show x.ps.l.length<_;omega,by show H.sy.l.length<_;omega,fun a ha=>by have:=hH.sa a ha;omega,by show 0<_;decide,fun a ha=>by cases ha⟩
theorem f18_d2_run{s:St}{H:Hn}(hH:HnB H){x:Ho}{r:List Ho}{y:So}{i B:Nat}(hd:H.hs.l.drop i=x::r)(hy:y.p.nodes<2^61)(hn:0<s.h.next)(hB:B<s.h.next)(g0:s.h.get 0=some (.cells H.cells true))(gB:s.h.get B=some (.cells y.cells true))
  (h2:s.eval (.t 2)=some (.ptr 0 0)) (h10:s.eval (.t 10)=some (.val (.int .i64 (i:Nat)))) (h11:s.eval (.t 11)=some (.ptr B 0)):
  Run E1 f18_d2 s fun e s'=>e=.normal∧s'.eval (.t 12)=some (.val (.int .i64 (boolS (evS H x) y.p)))∧s'.h=s.h∧s'.defers=s.defers∧∀j,j<49→j≠12→s'.eval (.t j)=s.eval (.t j):=by
 have hx:x∈H.hs.l:=List.mem_of_mem_drop (i:=i) (by rw[hd];exact List.mem_cons_self)
 have hc:∀h,RunCall E1 (.f 23) [.agg [x.ps.A Vr.cells,H.sy.A Sm.cells,.val (.slice none 0 0)],y.p.av] h (.val (.int .i64 (boolS (evS H x) y.p))) h:=eD (evS H x) (evS_ok hH hx) y.p hy
 have n0:∀o,niceT s.h (some (.ptr 0 o))=true:=fun o=>bQ hn g0 (by rw[H.ids0];rfl)
 have nB:∀o,niceT s.h (some (.ptr B o))=true:=fun o=>bQ hB gB (by rw[y.ids0];rfl)
 have o0:∀o,onlyT [0,B] (some (.ptr 0 o))=true:=fun o=>ba (by simp[memN])
 have oB:∀o,onlyT [0,B] (some (.ptr B o))=true:=fun o=>ba (by simp[memN])
 have ei:ids (AV.agg [x.ps.A Vr.cells,H.sy.A Sm.cells,.val (.slice none 0 0)])=[]:=(evS H x).ids0
 have vi:∀v,ids (AV.val v)=[]:=fun _=>rfl
 refine az ?_
 refine gI (R:=[0,B]) rfl (fun x hx=>by cases hx) (fun r hr'=>by
  simp only[List.mem_cons,List.mem_nil_iff,or_false] at hr'
  omega) ?_
 simp-implicitDefEqProofs only[f18_o2,wpDm,aW,List.all_cons,List.all_nil,footed,V,↓reduceIte,rA,rB,rC,reduceCtorEq,rD,rE,rF,WF,h2,h10,h11,g0,gB,n0,nB,o0,oB,aM Vl.ids,aK Vl.ids,ak Vl.ids,H.hs.at Ho.len hd,ab,cU,ef,ak (vi _),show∀l,onlyT [0,B] (some (AV.iptr l))=true from fun _=>rfl,aM ei,aK ei,aM y.p.idsA,aK y.p.idsA,Pr.all]
 refine⟨_,hc,?_⟩
 simp-implicitDefEqProofs only[wpDm,aW,List.all_cons,List.all_nil,footed,V,↓reduceIte,rA,rB,rC,reduceCtorEq,rD,rE,rF,WF,ab]
 intro j hj hj2
 repeat rw[if_neg om]
def PairsOk(H:Hn):List Ho→List So→Prop
 |_,[]=>True
 | [],_::_=>False
 |x::hs,y::ss=>boolS (evS H x) y.p=0∧PairsOk H hs ss
theorem sn(H:Hn)(hH:HnB H)(S:Vl So)(hN:S.l.length<2^61)(hl:H.hs.l.length=S.l.length)(hn:∀y∈S.l,y.p.nodes<2^61):∀(r:List So) (q:List Ho) (i:Nat) (s:St),S.l.drop i=r→H.hs.l.drop i=q→i≤S.l.length→0<s.h.next→s.h.get 0=some (.cells H.cells true)→
  s.eval (.t 2)=some (.ptr 0 0)→s.eval (.t 42)=some (S.A So.cells)→s.eval (.t 43)=some (.val (.int .i64 (S.l.length:Nat)))→s.eval (.t 44)=some (.val (.int .i64 (i:Nat)))→s.defers=[]→
  Run E1 vU s fun e s'=>s'.defers=[]∧((e=.exit 4∧PairsOk H q r)∨(e=.ret∧∃x:Int,x≠0∧s'.eval (.t 4)=some (.val (.int .i64 x))))
 | [],q,i,s,hd,hq,hi,hz,g0,h2,h42,h43,h44,hf=>by
  have hl:=aN hd hi
  subst hl
  apply aC (rfl:vU=.loop qH)
  simp-implicitDefEqProofs only[qH,V,↓reduceIte,rA,rB,rC,reduceCtorEq,rD,rE,rF,WB,h2,h42,h43,h44,hf,lt_f]
  exact .inl (by cases q<;>trivial)
 |k::r,q,i,s,hd,hq,hi,hz,g0,h2,h42,h43,h44,hf=>by
  have hlt':=aV hd
  have hlt:=lt_t hlt'
  have w1:IntKind.i64.wrap ((i:Int)+1)=((i+1:Nat):Int):=aE (n:=i+1) om
  have hm:k∈S.l:=List.mem_of_mem_drop (i:=i) (by rw[hd];exact List.mem_cons_self)
  obtain⟨x,q',rfl⟩:∃x q',q=x::q':=by
   cases q with
   |nil=>
    have:=List.drop_eq_nil_iff.1 hq
    omega
   |cons a q'=>exact⟨a,q',rfl⟩
  apply aC (rfl:vU=.loop qH)
  simp-implicitDefEqProofs only[qH,V,↓reduceIte,rA,rB,rC,reduceCtorEq,rD,rE,rF,WB,WF,h2,h42,h43,h44,hlt,S.at So.len hd,cj,nX]
  refine(f18_d2_run hH (x:=x) (r:=q') (y:=k) (i:=i) (B:=s.h.next) hq (hn k hm) ?_ ?_ ?_ ?_ ?_ ?_ ?_).mono ?_
  ·exact U53
  ·exact U53
  ·simp-implicitDefEqProofs only[V,↓reduceIte,rA,rB,rC,reduceCtorEq,rD,rE,rF]
   rw[if_neg om,if_neg om,g0]
  ·exact U28
  ·exact U80
  ·exact U28
  ·exact U28
  rintro e s1 ⟨rfl,e12,e1,d1,t1⟩
  simp-implicitDefEqProofs only[V,↓reduceIte,rA,rB,rC,reduceCtorEq,rD,rE,rF] at d1 e1 t1
  have e2:s1.eval (.t 2)=some (.ptr 0 0):=by rw[t1 2 om om];simp-implicitDefEqProofs only[V,↓reduceIte,rA,rB,rC,reduceCtorEq,rD,rE,rF,h2]
  have e42:s1.eval (.t 42)=some (S.A So.cells):=by rw[t1 42 om om];simp-implicitDefEqProofs only[V,↓reduceIte,rA,rB,rC,reduceCtorEq,rD,rE,rF,h42]
  have e43:s1.eval (.t 43)=some (.val (.int .i64 (S.l.length:Nat))):=by rw[t1 43 om om];simp-implicitDefEqProofs only[V,↓reduceIte,rA,rB,rC,reduceCtorEq,rD,rE,rF,h43]
  have e44:s1.eval (.t 44)=some (.val (.int .i64 (i:Nat))):=by rw[t1 44 om om];simp-implicitDefEqProofs only[V,↓reduceIte,rA,rB,rC,reduceCtorEq,rD,rE,rF,h44]
  cases hc:decide (boolS (evS H x) k.p=0) with
  |false=>
   simp-implicitDefEqProofs only[V,↓reduceIte,rA,rB,rC,reduceCtorEq,rD,rE,rF,WB,e12,hc,d1,hf]
   exact .inr ⟨_,of_decide_eq_false hc,rfl⟩
  |true=>
   simp-implicitDefEqProofs only[V,↓reduceIte,rA,rB,rC,reduceCtorEq,rD,rE,rF,WB,e12,hc,e44,w1]
   refine(sn H hH S hN hl hn r q' (i+1) _ (aF hd) (aF hq) om ?_ ?_ ?_ ?_ ?_ ?_ ?_).mono ?_
   ·simp-implicitDefEqProofs only[V,↓reduceIte,rA,rB,rC,reduceCtorEq,rD,rE,rF,e1]
    omega
   ·simp-implicitDefEqProofs only[V,↓reduceIte,rA,rB,rC,reduceCtorEq,rD,rE,rF,e1]
    rw[if_neg om,if_neg om,g0]
   ·exact U91
   ·simp-implicitDefEqProofs only[V,↓reduceIte,rA,rB,rC,reduceCtorEq,rD,rE,rF,e42]
   ·simp-implicitDefEqProofs only[V,↓reduceIte,rA,rB,rC,reduceCtorEq,rD,rE,rF,e43]
   ·exact U28
   ·exact U60
   rintro e s2 ⟨d2,⟨rfl,z⟩|z⟩
   ·exact⟨d2,.inl ⟨rfl,of_decide_eq_true hc,z⟩⟩
   ·exact⟨d2,.inr z⟩
structure SolsOk (H:Hn) (S:Vl So):Prop where
 len:H.hs.l.length=S.l.length
 nms:eqfS H.hs.l S.l=true
 prs:PairsOk H H.hs.l S.l
theorem wU(H:Hn)(hH:HnB H)(S:Vl So)(hN:S.l.length<2^61)(hn:∀y∈S.l,y.p.nodes<2^61):∃x:Int,(x=0→SolsOk H S)∧∀h,RunCall E1 (.f 18) [.agg H.cells,S.A So.cells] h (.val (.int .i64 x)) h:=by
 have hhs:=hH.hs
 have hq:=eqf_call43 H.hs S om
 obtain⟨r,⟨x,hx,hr⟩,ha⟩:=ansE (g:=18) (l:=[.agg H.cells,S.A So.cells]) (P:=fun r=>∃x:Int,(x=0→SolsOk H S)∧r=.val (.int .i64 x)) f18_ok fun s hs hh hd=>by
  have h0:=hs 0 _ rfl
  have h1:=hs 1 _ rfl
  simp-implicitDefEqProofs only[f18_fn,f18,V,↓reduceIte,rA,rB,rC,reduceCtorEq,rD,rE,rF,WB,h0,h1,hh,mY,jB]
  refine(sr S hN S.l 0 _ [] rfl (Nat.zero_le _) ?_ ?_ ?_ ?_ ?_ ?_ ?_).mono ?_
  ·exact U79
  ·exact U28
  ·exact U28
  ·exact U28
  ·exact U112
  ·exact U66
  ·exact U33
  rintro e s1 ⟨rfl,d1,o1,m1,⟨l,g1⟩,t1⟩
  simp-implicitDefEqProofs only[V,↓reduceIte,rA,rB,rC,reduceCtorEq,rD,rE,rF] at o1
  have e1:s1.eval (.t 1)=some (S.A So.cells):=by rw[t1 1 om];simp-implicitDefEqProofs only[V,↓reduceIte,rA,rB,rC,reduceCtorEq,rD,rE,rF,h1]
  have e2:s1.eval (.t 2)=some (.ptr 0 0):=by rw[t1 2 om];simp-implicitDefEqProofs only[V,↓reduceIte,rA,rB,rC,reduceCtorEq,rD,rE,rF]
  have e5:s1.eval (.t 5)=some (.mp 1):=by rw[t1 5 om];simp-implicitDefEqProofs only[V,↓reduceIte,rA,rB,rC,reduceCtorEq,rD,rE,rF]
  simp-implicitDefEqProofs only[V,↓reduceIte,rA,rB,rC,reduceCtorEq,rD,rE,rF,WB,e2,o1]
  refine(sq H.hs om l H.hs.l 0 _ rfl (Nat.zero_le _) ?_ ?_ ?_ ?_ ?_ ?_ ?_).mono ?_
  ·exact U95
  ·exact U128
  ·simp-implicitDefEqProofs only[V,↓reduceIte,rA,rB,rC,reduceCtorEq,rD,rE,rF,e5]
  ·exact U28
  ·exact U112
  ·exact U66
  ·exact U69
  rintro e s2 ⟨d2,⟨rfl,o2,m2,t2⟩|⟨rfl,z⟩⟩
  ·simp-implicitDefEqProofs only[V,↓reduceIte,rA,rB,rC,reduceCtorEq,rD,rE,rF,o1] at o2
   have k1:s2.eval (.t 1)=some (S.A So.cells):=by rw[t2 1 om om];simp-implicitDefEqProofs only[V,↓reduceIte,rA,rB,rC,reduceCtorEq,rD,rE,rF,e1]
   have k2:s2.eval (.t 2)=some (.ptr 0 0):=by rw[t2 2 om om];simp-implicitDefEqProofs only[V,↓reduceIte,rA,rB,rC,reduceCtorEq,rD,rE,rF,e2]
   cases c1:(decide (((H.hs.l.length:Nat):Int)=(S.l.length:Nat))&&eqfS H.hs.l S.l) with
   |false=>
    rw[c1] at hq
    simp-implicitDefEqProofs only[V,↓reduceIte,rA,rB,rC,reduceCtorEq,rD,rE,rF,WB,k1,k2,o2,aA hq,d2]
    exact⟨_,⟨9,(fun h=>by cases h),rfl⟩,rfl⟩
   |true=>
    rw[c1] at hq
    simp only[Bool.and_eq_true,decide_eq_true_eq] at c1
    have hl:H.hs.l.length=S.l.length:=by omega
    simp-implicitDefEqProofs only[V,↓reduceIte,rA,rB,rC,reduceCtorEq,rD,rE,rF,WB,k1,k2,o2,aA hq]
    refine(sn H hH S hN hl hn S.l H.hs.l 0 _ rfl rfl (Nat.zero_le _) ?_ ?_ ?_ ?_ ?_ ?_ ?_).mono ?_
    ·exact U53
    ·simp-implicitDefEqProofs only[V,↓reduceIte,rA,rB,rC,reduceCtorEq,rD,rE,rF,o2]
    ·simp-implicitDefEqProofs only[V,↓reduceIte,rA,rB,rC,reduceCtorEq,rD,rE,rF,k2]
    ·exact U28
    ·exact U112
    ·exact U66
    ·simp-implicitDefEqProofs only[V,↓reduceIte,rA,rB,rC,reduceCtorEq,rD,rE,rF,d2]
    rintro e s3 ⟨d3,⟨rfl,z⟩|⟨rfl,x,z0,z1⟩⟩
    ·simp-implicitDefEqProofs only[V,↓reduceIte,rA,rB,rC,reduceCtorEq,rD,rE,rF,WB,d3]
     exact⟨_,⟨0,fun _=>⟨hl,c1.2,z⟩,rfl⟩,rfl⟩
    ·simp-implicitDefEqProofs only[V,↓reduceIte,rA,rB,rC,reduceCtorEq,rD,rE,rF,WB,d3,z1]
     exact⟨_,⟨x,fun h=>absurd h z0,rfl⟩,rfl⟩
  ·simp-implicitDefEqProofs only[V,↓reduceIte,rA,rB,rC,reduceCtorEq,rD,rE,rF,WB,d2,z]
   exact⟨_,⟨5,(fun h=>by cases h),rfl⟩,rfl⟩
 subst hr
 exact⟨x,hx,aB kr kr (mem2 (Tree.hn H) Vl.leaf.tree) rfl (Tree.val _) ha⟩
end Go.Proofs.YtkhblipgiijoiaaGreatDoor
