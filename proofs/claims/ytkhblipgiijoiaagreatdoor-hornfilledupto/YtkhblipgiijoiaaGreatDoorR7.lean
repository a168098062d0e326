/- A part of the proof about filled horn systems: ZFits ZClause ZCheckh. -/
import Derived.Test.YtkhblipgiijoiaaGreatDoorU0
import Derived.Test.YtkhblipgiijoiaaGreatDoorH2
import Derived.Test.YtkhblipgiijoiaaGreatDoorR6

set_option linter.all false
open Nat renaming reduceEqDiff → rA, reduceAdd → rB, reduceMul → rC
open Int renaming reduceEq → rD, reduceLT → rE, reduceLE → rF
namespace Go.Proofs.YtkhblipgiijoiaaGreatDoor
open Go Go.AM
set_option maxHeartbeats 4000000
def okC(c:Pr):Bool:=(decide (c.op=5)&&decide ((((c.ks.flatMap holesS).length:Nat):Int)=0))|| !decide ((0:Int)<(((holesS c).length:Nat):Int))
def fitL:List Pr→Bool
 | []=>true
 |c::r=>okC c&&fitL r
theorem holes_own{s:St}{b:Nat}{c:Pr}(hb:c.nodes<2^28)(g:s.h.get b=some (.cells c.cells true))(hbn:b<s.h.next):
  ∃h2,RunCall E1 (.f 86) [.own b 0 1 4 (some 1)] s.h ((⟨holesS c,nilK,none⟩:Vl Pr).A Pr.cells) h2∧h2.next=s.h.next∧∀x,x≠b→h2.get x=s.h.get x:=by
 have r1:RowX s.h 0 1 4 (.own b 0 1 4 (some 1)) c.cells:=RowX.made c.leaves c.len (Nat.zero_le _) hbn g
 obtain⟨h3,f1,f2,f3,f4⟩:=cu r1
 have e:rowX (.own b 0 1 4 (some 1)) 1 c.cells=(⟨[c],none,some 1⟩:Vl Pr).A Pr.cells:=by
  simp only[rowX,Vl.A,kidsA,Option.isSome_none,Bool.false_and,cond_false,List.flatMap_cons,List.flatMap_nil,List.append_nil,List.length_cons,List.length_nil]
 rw[e] at f4
 have H:=iD ⟨[c],none,some 1⟩ (by show 1<2^28;decide) (fun p hp=>by rw[List.mem_singleton.1 hp];exact hb) (by show c.nodes+0<_;omega)
 have e2:([c].flatMap holesS)=holesS c:=by simp only[List.flatMap_cons,List.flatMap_nil,List.append_nil]
 rw[show(⟨[c],none,some 1⟩:Vl Pr).l=[c] from rfl,e2] at H
 obtain⟨h2,k1,k2⟩:=qS (E:=E1) (g:=86) (xs:=[]) (ys:=[]) (a:=.own b 0 1 4 (some 1)) kr (fun v hv=>by cases hv) (fun v hv=>by cases hv) Vl.leaf.tree f1 f4 H
 refine⟨h2,k1,?_,fun x hx=>?_⟩
 ·rcases k2 with rfl|rfl
  ·rfl
  ·exact f2
 ·rcases k2 with rfl|rfl
  ·rfl
  ·exact f3 x (fun hv=>hx (by simpa only[AM.ids,List.mem_singleton] using hv))
theorem xh(w:Vl Pr)(hN:w.l.length<2^28)(hn:∀c∈w.l,c.nodes<2^28):∀(r:List Pr) (i:Nat) (s:St),w.l.drop i=r→i≤w.l.length→
  s.eval (.t 16)=some (w.A Pr.cells)→s.eval (.t 17)=some (.val (.int .i64 (w.l.length:Nat)))→s.eval (.t 18)=some (.val (.int .i64 (i:Nat)))→s.defers=[]→
  Run E1 pi s fun e s'=>s'.defers=[]∧((fitL r=true∧e=.exit 0)∨(fitL r=false∧e=.ret∧s'.eval (.t 6)=some (.val (.int .i64 6))))
 | [],i,s,hd,hi,h16,h17,h18,hf=>by
  have hl:=aN hd hi
  subst hl
  apply aC (rfl:pi=.loop iS)
  simp-implicitDefEqProofs only[iS,V,↓reduceIte,rA,rB,rC,reduceCtorEq,rD,rE,rF,WB,h16,h17,h18,hf,lt_f,fitL]
 |k::r,i,s,hd,hi,h16,h17,h18,hf=>by
  have hl:=aV hd
  have hlt:=lt_t hl
  have w1:IntKind.i64.wrap ((i:Int)+1)=((i+1:Nat):Int):=aE (n:=i+1) om
  have hm:k∈w.l:=List.mem_of_mem_drop (i:=i) (by rw[hd];exact List.mem_cons_self)
  have hkn:=hn k hm
  have hke:=k.nodes_eq
  have hkl:=am k.ks
  have H1:=iD k.vl (by rw[k.vl_l];omega) (fun p hp=>by rw[k.vl_l] at hp;have:=cT hp;omega) (by rw[k.vl_l];omega)
  rw[k.vl_A,k.vl_l] at H1
  obtain⟨h2,H2,m2,o2⟩:=holes_own (s:=s.toH (((s.h.alloc (.cells zc true)).put s.h.next (some (.cells k.cells true))).alloc (.cells k.cells true))) (b:=s.h.next+1) (c:=k) hkn (ai (h:=(s.h.alloc (.cells zc true)).put s.h.next (some (.cells k.cells true)))) (Nat.lt_succ_self _)
  have vl:∀l:List Pr,lenV ((⟨l,nilK,none⟩:Vl Pr).A Pr.cells)=some (.val (.int .i64 (l.length:Nat))):=fun l=>Vl.len
  have zce:[AV.val (.int .i64 0),.val (.string ⟨#[]⟩),.val (.int .i64 0),.val (.slice none 0 0)]=zc:=rfl
  have cont:∀s1:St,s1.eval (.t 16)=some (w.A Pr.cells)→s1.eval (.t 17)=some (.val (.int .i64 (w.l.length:Nat)))→s1.eval (.t 18)=some (.val (.int .i64 ((i+1:Nat):Int)))→s1.defers=[]→fitL (k::r)=fitL r→
    Run E1 pi s1 fun e s'=>s'.defers=[]∧((fitL (k::r)=true∧e=.exit 0)∨(fitL (k::r)=false∧e=.ret∧s'.eval (.t 6)=some (.val (.int .i64 6)))):=fun s1 q1 q2 q3 q4 q5=>by
   rw[q5]
   exact xh w hN hn r (i+1) s1 (aF hd) om q1 q2 q3 q4
  apply aC (rfl:pi=.loop iS)
  have second:okC k= !decide ((0:Int)<(((holesS k).length:Nat):Int))→True:=fun _=>trivial
  cases c1:decide (k.op=5) with
  |true=>cases c2:decide ((((k.ks.flatMap holesS).length:Nat):Int)=0) with
   |true=>
    have e:fitL (k::r)=fitL r:=by simp only[fitL,okC,c1,c2,Bool.and_self,Bool.true_or,Bool.true_and]
    simp-implicitDefEqProofs only[iS,V,↓reduceIte,rA,rB,rC,reduceCtorEq,rD,rE,rF,WB,WF,h16,h17,h18,hlt,w.at Pr.len hd,c1,aA H1,vl,c2,w1]
    refine cont _ ?_ ?_ ?_ ?_ e
    all_goals simp-implicitDefEqProofs only[V,↓reduceIte,rA,rB,rC,reduceCtorEq,rD,rE,rF,h16,h17,hf]
   |false=>
    simp-implicitDefEqProofs only[iS,V,↓reduceIte,rA,rB,rC,reduceCtorEq,rD,rE,rF,WB,WF,h16,h17,h18,hlt,w.at Pr.len hd,c1,aA H1,vl,c2,iM]
    refine ah (v:=(⟨holesS k,nilK,none⟩:Vl Pr).A Pr.cells) (h':=h2) ?_ ?_
    ·exact U111
    cases c3:decide ((0:Int)<(((holesS k).length:Nat):Int)) with
    |true=>simp-implicitDefEqProofs only[V,↓reduceIte,rA,rB,rC,reduceCtorEq,rD,rE,rF,WB,vl,c3,hf,fitL,okC,c1,c2]
    |false=>
     have e:fitL (k::r)=fitL r:=by simp only[fitL,okC,c1,c2,c3,Bool.and_false,Bool.false_or,Bool.not_false,Bool.true_and]
     simp-implicitDefEqProofs only[V,↓reduceIte,rA,rB,rC,reduceCtorEq,rD,rE,rF,WB,vl,c3,h18,w1]
     refine cont _ ?_ ?_ ?_ ?_ e
     all_goals simp-implicitDefEqProofs only[V,↓reduceIte,rA,rB,rC,reduceCtorEq,rD,rE,rF,h16,h17,hf]
  |false=>
   simp-implicitDefEqProofs only[iS,V,↓reduceIte,rA,rB,rC,reduceCtorEq,rD,rE,rF,WB,WF,h16,h17,h18,hlt,w.at Pr.len hd,c1,iM]
   refine ah (v:=(⟨holesS k,nilK,none⟩:Vl Pr).A Pr.cells) (h':=h2) ?_ ?_
   ·exact U111
   cases c3:decide ((0:Int)<(((holesS k).length:Nat):Int)) with
   |true=>simp-implicitDefEqProofs only[V,↓reduceIte,rA,rB,rC,reduceCtorEq,rD,rE,rF,WB,vl,c3,hf,fitL,okC,c1]
   |false=>
    have e:fitL (k::r)=fitL r:=by simp only[fitL,okC,c1,c3,Bool.false_and,Bool.false_or,Bool.not_false,Bool.true_and]
    simp-implicitDefEqProofs only[V,↓reduceIte,rA,rB,rC,reduceCtorEq,rD,rE,rF,WB,vl,c3,h18,w1]
    refine cont _ ?_ ?_ ?_ ?_ e
    all_goals simp-implicitDefEqProofs only[V,↓reduceIte,rA,rB,rC,reduceCtorEq,rD,rE,rF,h16,h17,hf]
noncomputable def fitsE (Vx:Evr) (p:Pr) (l:List Pr):Int:=bif decide (boolS Vx p=0) then(bif fitL l then 0 else 6) else boolS Vx p
theorem xS(Vx:Evr)(hV:EvB Vx)(p:Pr)(hb:p.nodes<2^61)(w:Vl Pr)(hN:w.l.length<2^28)(hn:∀c∈w.l,c.nodes<2^28)(h:AH):RunCall E1 (.f 60) [.agg Vx.cells,p.av,w.A Pr.cells] h (.val (.int .i64 (fitsE Vx p w.l))) h:=by
 refine cK kr f60_ok (mem3 (Tree.ev Vx) (Tree.pr p) Vl.leaf.tree) rfl (Tree.val _) (fun s hs hh hd hr=>?_) h
 have h0:=hs 0 _ rfl
 have h1:=hs 1 _ rfl
 have h2:=hs 2 _ rfl
 unfold fitsE
 cases c1:decide (boolS Vx p=0) with
 |false=>simp-implicitDefEqProofs only[zq,f60,V,↓reduceIte,rA,rB,rC,reduceCtorEq,rD,rE,rF,WB,h0,h1,h2,hh,hd,aA (eD Vx hV p hb),c1]
 |true=>
  simp-implicitDefEqProofs only[zq,f60,V,↓reduceIte,rA,rB,rC,reduceCtorEq,rD,rE,rF,WB,h0,h1,h2,hh,aA (eD Vx hV p hb),c1]
  refine(xh w hN hn w.l 0 _ rfl (Nat.zero_le _) ?_ ?_ ?_ ?_).mono ?_
  ·exact U28
  ·exact U112
  ·exact U66
  ·exact U33
  rintro e s1 ⟨d1,⟨q,rfl⟩|⟨q,rfl,q2⟩⟩
  ·exact U93
  ·exact U94
mutual
theorem sC:∀(p:Pr),∀c∈p.spl,c.nodes≤p.nodes
 |.mk o s n ks a b,c,hc=>by
  simp only[Pr.spl] at hc
  cases h:decide (o=15)&&decide (ks.length=2) with
  |true=>
   rw[h] at hc
   have:=na ks c hc
   simp only[Pr.nodes]
   omega
  |false=>
   rw[h] at hc
   simp only[cond_false] at hc
   cases hv:(Pr.mk o s n ks a b).void with
   |true=>rw[hv] at hc;cases hc
   |false=>
    rw[hv] at hc
    rw[List.mem_singleton.1 hc,oE]
    exact Nat.le_refl _
theorem na:∀(l:List Pr),∀c∈Pr.splL l,c.nodes≤Pr.nodesL l
 | [],c,hc=>by cases hc
 |k::r,c,hc=>by
  simp only[Pr.splL,List.mem_append] at hc
  simp only[Pr.nodesL]
  rcases hc with hc|hc
  ·have:=sC k c hc
   omega
  ·have:=na r c hc
   omega
end
theorem xR{Vx:Evr}(hV:EvB Vx){p:Pr}{L:List Pr}{v:AV}{lo:Nat}{h:AH}(hb:p.nodes<2^61)(hN:L.length<2^28)(hn:∀c∈L,c.nodes<2^28)(r:RowX h lo L.length 4 v (Pr.cellsL L)):
  RunCall E1 (.f 60) [.agg Vx.cells,p.av,v] h (.val (.int .i64 (fitsE Vx p L))) h:=by
 obtain⟨w,hw,hA⟩:=tf r rfl
 obtain⟨h3,f1,f2,f3,f4⟩:=cu r
 rw[hA] at f4
 have H:=xS Vx hV p hb w (by rw[hw];exact hN) (by rw[hw];exact hn)
 rw[hw] at H
 exact cZ (xs:=[.agg Vx.cells,p.av]) (ys:=[]) kr (mem2 (Tree.ev Vx) (Tree.pr p)) (fun v hv=>by cases hv) Vl.leaf.tree f1 f4 rfl H
theorem f34_d0_run{s:St}{Vx:Evr}(hV:EvB Vx){p:Pr}{A B:Nat}(hb:p.nodes<2^28)(hA:A<s.h.next)(hB:B<s.h.next)(gA:s.h.get A=some (.cells Vx.cells true))(gB:s.h.get B=some (.cells p.cells true))(ht:NoTag s.h)(h6:s.eval (.t 6)=some (.ptr A 0))(h8:s.eval (.t 8)=some (.ptr B 0)):
  Run E1 f34_d0 s fun e s'=>e=.normal∧s'.eval (.t 9)=some (.val (.int .i64 (fitsE Vx p p.spl)))∧s.h.next≤s'.h.next∧(∀x,x<s.h.next→s'.h.get x=s.h.get x)∧NoTag s'.h∧s'.defers=s.defers∧∀j,j<27→j≠9→s'.eval (.t j)=s.eval (.t j):=by
 have nA:∀o,niceT s.h (some (.ptr A o))=true:=fun o=>bQ hA gA (by rw[Vx.ids0];rfl)
 have nB:∀o,niceT s.h (some (.ptr B o))=true:=fun o=>bQ hB gB (by rw[p.ids0];rfl)
 have oA:∀o,onlyT [A,B] (some (.ptr A o))=true:=fun o=>ba (by simp[memN])
 have oB:∀o,onlyT [A,B] (some (.ptr B o))=true:=fun o=>ba (by simp[memN])
 refine az ?_
 show DrawTo E1 (iT.take 3++iT.drop 3) [] s _
 refine bj (R:=[A,B]) (K1:=fun s'=>s'.eval (.t 27)=some (.agg Vx.cells)∧s'.eval (.t 28)=some p.av∧s'.eval (.t 29)=some p.av∧s'.defers=s.defers∧∀j,j<27→s'.eval (.t j)=s.eval (.t j)) (iT.take 3) [] s s.h 3 rfl (fun x hx=>by cases hx) (fun r hr'=>by
  simp only[List.mem_cons,List.mem_nil_iff,or_false] at hr'
  omega) rfl rfl ?_ ?_
 ·simp-implicitDefEqProofs only[iT,List.take_succ_cons,List.take_zero,wpDm,aW,List.all_cons,List.all_nil,footed,V,↓reduceIte,rA,rB,rC,reduceCtorEq,rD,rE,rF,WF,h6,h8,gA,gB,nA,nB,oA,oB]
  intro j hj
  repeat rw[if_neg om]
 rintro s1 ⟨e27,e28,e29,d1,t1⟩ hh done hl hq
 obtain⟨v,h1,c1,r1,m1,o1,n1⟩:=ik p om (restrictH s1.h [])
 have m1:s1.h.next≤h1.next:=m1
 show DrawTo E1 (iT.drop 3) _ _ _
 simp only[iT,List.drop_succ_cons,List.drop_zero]
 refine iZ (a:=p.av) (v:=v) (h1:=h1) e29 p.idsA c1 m1 (fun j hj=>?_) ?_
 ·exact U83
 intro h' k1 k2 k3 k4
 have r2:RowX h' s1.h.next p.spl.length 4 v (Pr.cellsL p.spl):=r1.to om fun x x1 x2=>k2 x x1 x2
 have nt:NoTag h':=k4 (by rw[hh];exact ht) (n1 iP)
 have hsl:=mV p
 have hsn:=sC p
 refine qT (lo:=s1.h.next) (k:=p.spl.length) (es:=4) (w:=v) (cs:=Pr.cellsL p.spl) (l:=[.agg Vx.cells,p.av,v]) (t:=.val (.int .i64 (fitsE Vx p p.spl))) ?_ (fun j hj=>?_) ⟨30,de,?_⟩ rfl ?_ ?_ rfl rfl (fun h g1 g2=>?_) ?_
 ·exact U102
 ·simp only[List.mem_cons,List.mem_nil_iff,or_false] at hj
  rcases hj with rfl|rfl|rfl
  ·refine⟨.agg Vx.cells,?_,.inl Vx.ids0⟩
   simp-implicitDefEqProofs only[V,↓reduceIte,rA,rB,rC,reduceCtorEq,rD,rE,rF,e27]
  ·refine⟨p.av,?_,.inl p.idsA⟩
   simp-implicitDefEqProofs only[V,↓reduceIte,rA,rB,rC,reduceCtorEq,rD,rE,rF,e28]
  ·refine⟨v,?_,.inr rfl⟩
   exact U28
 ·exact U28
 ·simp-implicitDefEqProofs only[V,↓reduceIte,rA,rB,rC,reduceCtorEq,rD,rE,rF,e27,e28]
 ·simp-implicitDefEqProofs only[V,↓reduceIte,rA,rB,rC,reduceCtorEq,rD,rE,rF]
  exact nt
 ·simp-implicitDefEqProofs only[V,↓reduceIte,rA,rB,rC,reduceCtorEq,rD,rE,rF] at g1 g2
  exact xR hV om om (fun c hc=>by have:=hsn c hc;omega) (r2.toB om g2)
 intro rec h2 n2 o2
 simp-implicitDefEqProofs only[V,↓reduceIte,rA,rB,rC,reduceCtorEq,rD,rE,rF] at n2 o2
 refine bY (v:=.val (.int .i64 (fitsE Vx p p.spl))) rfl rfl ?_ ?_ (fun i hi=>by cases hi) ?_
 ·exact U103
 ·exact U97
 refine bV ?_
 refine⟨trivial,?_,?_,?_,?_,?_,fun j hj hj9=>?_⟩
 ·exact U28
 ·simp-implicitDefEqProofs only[V,↓reduceIte,rA,rB,rC,reduceCtorEq,rD,rE,rF]
  rw[hh] at m1
  omega
 ·intro x hx
  simp-implicitDefEqProofs only[V,↓reduceIte,rA,rB,rC,reduceCtorEq,rD,rE,rF]
  rw[o2 x,k3 x (by rw[hh];exact hx),hh]
 ·simp-implicitDefEqProofs only[V,↓reduceIte,rA,rB,rC,reduceCtorEq,rD,rE,rF]
  intro b x t n e
  rw[o2] at e
  exact nt b x t n e
 ·exact U69
 ·exact U104
noncomputable def hyE (Vx:Evr):List Pr→Int
 | []=>0
 |p::r=>bif decide (fitsE Vx p p.spl=0) then hyE Vx r else fitsE Vx p p.spl
theorem xy(Vx:Evr)(hV:EvB Vx)(w:Vl Pr)(hN:w.l.length<2^61)(hn:∀p∈w.l,p.nodes<2^28):∀(r:List Pr) (i:Nat) (s:St),w.l.drop i=r→i≤w.l.length→2<s.h.next→NoTag s.h→s.h.get 2=some (.cells Vx.cells true)→
  s.eval (.t 6)=some (.ptr 2 0)→s.eval (.t 21)=some (w.A Pr.cells)→s.eval (.t 22)=some (.val (.int .i64 (w.l.length:Nat)))→s.eval (.t 23)=some (.val (.int .i64 (i:Nat)))→s.defers=[]→
  Run E1 vJ s fun e s'=>s'.defers=[]∧s.h.next≤s'.h.next∧(∀x,x<s.h.next→s'.h.get x=s.h.get x)∧((hyE Vx r=0∧e=.exit 0∧s'.eval (.t 6)=some (.ptr 2 0)∧s'.eval (.t 3)=s.eval (.t 3))∨(hyE Vx r≠0∧e=.ret∧s'.eval (.t 4)=some (.val (.int .i64 (hyE Vx r)))))
 | [],i,s,hd,hi,hn',ht,g2,h6,h21,h22,h23,hf=>by
  have hl:=aN hd hi
  subst hl
  apply aC (rfl:vJ=.loop py)
  simp-implicitDefEqProofs only[py,V,↓reduceIte,rA,rB,rC,reduceCtorEq,rD,rE,rF,WB,h6,h21,h22,h23,hf,lt_f,hyE]
  exact⟨Nat.le_refl _,fun x _=>by first|rfl|trivial⟩
 |k::r,i,s,hd,hi,hn',ht,g2,h6,h21,h22,h23,hf=>by
  have hl:=aV hd
  have hlt:=lt_t hl
  have w1:IntKind.i64.wrap ((i:Int)+1)=((i+1:Nat):Int):=aE (n:=i+1) om
  have hm:k∈w.l:=List.mem_of_mem_drop (i:=i) (by rw[hd];exact List.mem_cons_self)
  apply aC (rfl:vJ=.loop py)
  simp-implicitDefEqProofs only[py,V,↓reduceIte,rA,rB,rC,reduceCtorEq,rD,rE,rF,WB,WF,h6,h21,h22,h23,hlt,w.at Pr.len hd,ae]
  refine(f34_d0_run (Vx:=Vx) hV (p:=k) (A:=2) (B:=s.h.next) (hn k hm) ?_ ?_ ?_ ?_ ?_ ?_ ?_).mono ?_
  ·exact U53
  ·exact U53
  ·simp-implicitDefEqProofs only[V,↓reduceIte,rA,rB,rC,reduceCtorEq,rD,rE,rF]
   rw[if_neg om,if_neg om,g2]
  ·exact U28
  ·exact U109
  ·exact U75
  ·exact U28
  rintro e s1 ⟨rfl,e9,m1,o1,t1,d1,q1⟩
  simp-implicitDefEqProofs only[V,↓reduceIte,rA,rB,rC,reduceCtorEq,rD,rE,rF] at m1 o1 d1 q1
  have o1':∀x,x<s.h.next→s1.h.get x=s.h.get x:=fun x hx=>by rw[o1 x om,if_neg om,if_neg om]
  have e6:s1.eval (.t 6)=some (.ptr 2 0):=by rw[q1 6 om om];simp-implicitDefEqProofs only[V,↓reduceIte,rA,rB,rC,reduceCtorEq,rD,rE,rF,h6]
  have e3:s1.eval (.t 3)=s.eval (.t 3):=by rw[q1 3 om om];simp-implicitDefEqProofs only[V,↓reduceIte,rA,rB,rC,reduceCtorEq,rD,rE,rF]
  have e21:s1.eval (.t 21)=some (w.A Pr.cells):=by rw[q1 21 om om];simp-implicitDefEqProofs only[V,↓reduceIte,rA,rB,rC,reduceCtorEq,rD,rE,rF,h21]
  have e22:s1.eval (.t 22)=some (.val (.int .i64 (w.l.length:Nat))):=by rw[q1 22 om om];simp-implicitDefEqProofs only[V,↓reduceIte,rA,rB,rC,reduceCtorEq,rD,rE,rF,h22]
  have e23:s1.eval (.t 23)=some (.val (.int .i64 (i:Nat))):=by rw[q1 23 om om];simp-implicitDefEqProofs only[V,↓reduceIte,rA,rB,rC,reduceCtorEq,rD,rE,rF,h23]
  cases hc:decide (fitsE Vx k k.spl=0) with
  |false=>
   have e:hyE Vx (k::r)=fitsE Vx k k.spl:=by simp only[hyE,hc,cond_false]
   rw[e]
   simp-implicitDefEqProofs only[V,↓reduceIte,rA,rB,rC,reduceCtorEq,rD,rE,rF,WB,e9,hc,d1,hf]
   exact⟨om,o1',.inr (of_decide_eq_false hc)⟩
  |true=>
   have e:hyE Vx (k::r)=hyE Vx r:=by simp only[hyE,hc,cond_true]
   rw[e]
   simp-implicitDefEqProofs only[V,↓reduceIte,rA,rB,rC,reduceCtorEq,rD,rE,rF,WB,e9,hc,e23,w1]
   refine(xy Vx hV w hN hn r (i+1) _ (aF hd) om ?_ ?_ ?_ ?_ ?_ ?_ ?_ ?_).mono ?_
   ·exact U53
   ·exact U110
   ·simp-implicitDefEqProofs only[V,↓reduceIte,rA,rB,rC,reduceCtorEq,rD,rE,rF]
    rw[o1' 2 hn',g2]
   ·exact U58
   ·simp-implicitDefEqProofs only[V,↓reduceIte,rA,rB,rC,reduceCtorEq,rD,rE,rF,e21]
   ·simp-implicitDefEqProofs only[V,↓reduceIte,rA,rB,rC,reduceCtorEq,rD,rE,rF,e22]
   ·exact U28
   ·exact U60
   rintro e s2 ⟨d2,m2,o2,H⟩
   simp-implicitDefEqProofs only[V,↓reduceIte,rA,rB,rC,reduceCtorEq,rD,rE,rF] at m2 o2 H
   refine⟨d2,om,fun x hx=>by rw[o2 x om,o1' x hx],?_⟩
   rcases H with⟨z,rfl,z1,z2⟩|H
   ·exact .inl ⟨z,rfl,z1,by rw[z2,e3]⟩
   ·exact .inr H
structure HnB (H:Hn):Prop where
 sy:H.sy.l.length<2^28
 sa:∀x∈H.sy.l,x.as.l.length<2^28
 hs:H.hs.l.length<2^28
 hp:∀x∈H.hs.l,x.ps.l.length<2^28
 cs:H.cs.l.length<2^28
 cv:∀c∈H.cs.l,c.vs.l.length<2^28
 cw:∀c∈H.cs.l,Pr.wtL c.hy.l+c.hd.wt≤2^22
theorem clause_ans(H:Hn)(hH:HnB H)(c:Cl)(hc:c∈H.cs.l):∃x Vx,Vx.vs.l=c.vs.l∧Vx.sy.l=H.sy.l∧Vx.hs.l=H.hs.l∧(x=0→hyE Vx c.hy.l=0∧fitsE Vx c.hd [c.hd]=0)∧∀h,RunCall E1 (.f 34) [.agg H.cells,.agg c.cells] h (.val (.int .i64 x)) h:=by
 have hcv:=hH.cv c hc
 have hcw:=hH.cw c hc
 have hhs:=hH.hs
 have hsy:=hH.sy
 have hl1:=fq c.hy.l
 have hl2:=gG c.hy.l
 have hl3:=iu c.hd
 obtain⟨y,_,hy⟩:=env_ans ⟨c.vs,⟨[],nilK,none⟩,⟨[],nilK,none⟩⟩ (by show c.vs.l.length<_;omega) (by show 0<_;decide) (fun x hx=>by cases hx) (by show 0<_;decide) (fun x hx=>by cases hx)
 have hy:∀h,RunCall E1 (.f 33) [.agg [c.vs.A Vr.cells,.val (.slice none 0 0),.val (.slice none 0 0)]] h (.val (.int .i64 y)) h:=hy
 obtain⟨Vx,v1,v2,v3,hV24⟩:=qL H c om om om
 have hV:EvB Vx:=⟨by rw[v1];omega,by rw[v2];omega,fun x hx=>by rw[v2] at hx;have:=hH.sa x hx;omega,by rw[v3];omega,fun x hx=>by rw[v3] at hx;have:=hH.hp x hx;omega⟩
 have hn:∀p∈c.hy.l,p.nodes<2^28:=fun p hp=>by have:=cT hp;omega
 refine⟨bif decide (y=0) then(bif decide (hyE Vx c.hy.l=0) then fitsE Vx c.hd [c.hd] else hyE Vx c.hy.l) else y,Vx,v1,v2,v3,fun hx=>?_,fun h=>cK kr f34_ok (mem2 (Tree.hn H) (Tree.cl c)) rfl (Tree.val _) (fun s hs hh hd hr=>?_) h⟩
 ·cases q1:decide (y=0) with
  |false=>
   rw[q1] at hx
   exact absurd hx (of_decide_eq_false q1)
  |true=>cases q2:decide (hyE Vx c.hy.l=0) with
   |false=>
    rw[q1,q2] at hx
    exact absurd hx (of_decide_eq_false q2)
   |true=>
    rw[q1,q2] at hx
    exact⟨of_decide_eq_true q2,hx⟩
 have h0:=hs 0 _ rfl
 have h1:=hs 1 _ rfl
 cases q1:decide (y=0) with
 |false=>simp-implicitDefEqProofs only[vK,f34,V,↓reduceIte,rA,rB,rC,reduceCtorEq,rD,rE,rF,WB,WF,h0,h1,hh,hd,aA hy,q1]
 |true=>
  simp-implicitDefEqProofs only[vK,f34,V,↓reduceIte,rA,rB,rC,reduceCtorEq,rD,rE,rF,WB,WF,h0,h1,hh,aA hy,q1,aA hV24,stK_3]
  have ev:∀(h:AH) (b:Nat) (a0 a1 a2:AV),stK h b 3 0 Vx.cells (some (.cells [a0,a1,a2] true))=some (h.put b (some (.cells Vx.cells true))):=fun h b a0 a1 a2=>bu rfl rfl
  simp-implicitDefEqProofs only[vK,f34,V,↓reduceIte,rA,rB,rC,reduceCtorEq,rD,rE,rF,WB,WF,ev,h0,h1,hh]
  refine(xy Vx hV c.hy om hn c.hy.l 0 _ rfl (Nat.zero_le _) ?_ ?_ ?_ ?_ ?_ ?_ ?_ ?_).mono ?_
  ·exact U65
  ·simp-implicitDefEqProofs only[V,↓reduceIte,rA,rB,rC,reduceCtorEq,rD,rE,rF]
   exact NoTag.empty.alloc.alloc.alloc.put
  ·exact U28
  ·exact U28
  ·exact U28
  ·exact U112
  ·exact U66
  ·exact U33
  rintro e s1 ⟨d1,m1,o1,⟨q2,rfl,e6,e3⟩|⟨q2,rfl,e4⟩⟩
  ·simp-implicitDefEqProofs only[V,↓reduceIte,rA,rB,rC,reduceCtorEq,rD,rE,rF] at m1 o1 e3
   have m1:3≤s1.h.next:=m1
   have g2:s1.h.get 2=some (.cells Vx.cells true):=by
    rw[o1 2 (by show 2<3;decide)]
    exact U28
   have g1:s1.h.get 1=some (.cells c.cells true):=by
    rw[o1 1 (by show 1<3;decide)]
    exact U28
   rw[decide_eq_true q2]
   simp-implicitDefEqProofs only[V,↓reduceIte,rA,rB,rC,reduceCtorEq,rD,rE,rF,WB,WF,e6,e3,g1,g2,ae,iM]
   refine ah (v:=.val (.int .i64 (fitsE Vx c.hd [c.hd]))) (h':=s1.h.alloc (.cells c.hd.cells true)) ?_ ?_
   ·simp-implicitDefEqProofs only[V,↓reduceIte,rA,rB,rC,reduceCtorEq,rD,rE,rF]
    have hce:Pr.cellsL [c.hd]=c.hd.cells:=by simp only[Pr.cellsL,List.append_nil]
    refine xR hV om (by show 1<_;decide) (fun k hk=>by rw[List.mem_singleton.1 hk];omega) (lo:=0) ?_
    rw[hce]
    exact RowX.made c.hd.leaves c.hd.len (Nat.zero_le _) (Nat.lt_succ_self _) ai
   simp-implicitDefEqProofs only[V,↓reduceIte,rA,rB,rC,reduceCtorEq,rD,rE,rF,WB,d1]
  ·rw[decide_eq_false q2]
   simp-implicitDefEqProofs only[V,↓reduceIte,rA,rB,rC,reduceCtorEq,rD,rE,rF,WB,d1,e4]
def ClauseOk(H:Hn)(c:Cl):Prop:=∃Vx:Evr,Vx.vs.l=c.vs.l∧Vx.sy.l=H.sy.l∧Vx.hs.l=H.hs.l∧hyE Vx c.hy.l=0∧fitsE Vx c.hd [c.hd]=0
theorem f7_loop(H:Hn)(hH:HnB H):∀(r:List Cl) (i:Nat) (s:St),H.cs.l.drop i=r→i≤H.cs.l.length→0<s.h.next→s.h.get 0=some (.cells H.cells true)→
  s.eval (.t 1)=some (.ptr 0 0)→s.eval (.t 28)=some (H.cs.A Cl.cells)→s.eval (.t 29)=some (.val (.int .i64 (H.cs.l.length:Nat)))→s.eval (.t 30)=some (.val (.int .i64 (i:Nat)))→s.defers=[]→
  Run E1 f7_l0 s fun e s'=>s'.defers=[]∧((e=.exit 0∧∀c∈r,ClauseOk H c)∨(e=.ret∧∃n x:Int,x≠0∧s'.eval (.t 2)=some (.val (.int .i64 n))∧s'.eval (.t 3)=some (.val (.int .i64 x))))
 | [],i,s,hd,hi,hn,g0,h1,h28,h29,h30,hf=>by
  have hl:=aN hd hi
  subst hl
  apply aC (rfl:f7_l0=.loop sg)
  simp-implicitDefEqProofs only[sg,V,↓reduceIte,rA,rB,rC,reduceCtorEq,rD,rE,rF,WB,g0,h1,h28,h29,h30,hf,lt_f]
  exact .inl fun x hx=>by cases hx
 |k::r,i,s,hd,hi,hn,g0,h1,h28,h29,h30,hf=>by
  have hl:=aV hd
  have hlt:=lt_t hl
  have hcs:=hH.cs
  have w1:IntKind.i64.wrap ((i:Int)+1)=((i+1:Nat):Int):=aE (n:=i+1) om
  have hm:k∈H.cs.l:=List.mem_of_mem_drop (i:=i) (by rw[hd];exact List.mem_cons_self)
  have n0:(0=s.h.next)=False:=eq_false om
  obtain⟨x,Vx,v1,v2,v3,hx,hc⟩:=clause_ans H hH k hm
  apply aC (rfl:f7_l0=.loop sg)
  cases q:decide (x=0) with
  |false=>
   simp-implicitDefEqProofs only[sg,V,↓reduceIte,rA,rB,rC,reduceCtorEq,rD,rE,rF,WB,WF,g0,n0,h1,h28,h29,h30,hf,hlt,H.cs.at Cl.len hd,fK,yn,aA hc,q]
   exact .inr ⟨_,x,of_decide_eq_false q,rfl,rfl⟩
  |true=>
   simp-implicitDefEqProofs only[sg,V,↓reduceIte,rA,rB,rC,reduceCtorEq,rD,rE,rF,WB,WF,g0,n0,h1,h28,h29,h30,hlt,H.cs.at Cl.len hd,fK,yn,aA hc,q,w1]
   refine(f7_loop H hH r (i+1) _ (aF hd) om ?_ ?_ ?_ ?_ ?_ ?_ ?_).mono ?_
   ·exact U53
   ·exact U73
   ·exact U39
   ·simp-implicitDefEqProofs only[V,↓reduceIte,rA,rB,rC,reduceCtorEq,rD,rE,rF,h28]
   ·simp-implicitDefEqProofs only[V,↓reduceIte,rA,rB,rC,reduceCtorEq,rD,rE,rF,h29]
   ·exact U28
   ·exact U72
   rintro e s1 ⟨d1,⟨rfl,z⟩|z⟩
   ·refine⟨d1,.inl ⟨rfl,fun c hc=>?_⟩⟩
    rcases List.mem_cons.1 hc with rfl|hc
    ·obtain⟨x1,x2⟩:=hx (of_decide_eq_true q)
     exact⟨Vx,v1,v2,v3,x1,x2⟩
    ·exact z c hc
   ·exact⟨d1,.inr z⟩
structure CheckOk (H:Hn):Prop where
 holes:holesE H.hs.l=0
 clauses:∀c∈H.cs.l,ClauseOk H c
theorem yL(H:Hn)(hH:HnB H):∃n x:Int,(x=0→CheckOk H)∧∀h,RunCall E1 (.f 7) [.agg H.cells] h (.tup [.val (.int .i64 n),.val (.int .i64 x)]) h:=by
 have hcs:=hH.cs
 have hhs:=hH.hs
 have hsy:=hH.sy
 obtain⟨y,hy0,hy⟩:=env_ans ⟨⟨[],nilK,none⟩,H.sy,H.hs⟩ (by show 0<_;decide) (by show H.sy.l.length<_;omega) (fun x hx=>by have:=hH.sa x hx;omega) (by show H.hs.l.length<_;omega) (fun x hx=>by have:=hH.hp x hx;omega)
 have hy:∀h,RunCall E1 (.f 33) [.agg [.val (.slice none 0 0),H.sy.A Sm.cells,H.hs.A Ho.cells]] h (.val (.int .i64 y)) h:=hy
 obtain⟨rs,⟨n,x,hx,hrs⟩,ha⟩:=ansEs (g:=7) (l:=[.agg H.cells]) (P:=fun rs=>∃n x:Int,(x=0→CheckOk H)∧rs=[.val (.int .i64 n),.val (.int .i64 x)]) f7_ok fun s hs hh hd=>by
  have h0:=hs 0 _ rfl
  cases c1:decide ((400:Int)<(H.cs.l.length:Nat)) with
  |true=>
   simp-implicitDefEqProofs only[xd,f7,V,↓reduceIte,rA,rB,rC,reduceCtorEq,rD,rE,rF,WB,h0,hh,hd,Vl.len,c1]
   exact⟨_,⟨_,7,(fun h=>by cases h),rfl⟩,rfl⟩
  |false=>cases c2:decide ((40:Int)<(H.hs.l.length:Nat)) with
   |true=>
    simp-implicitDefEqProofs only[xd,f7,V,↓reduceIte,rA,rB,rC,reduceCtorEq,rD,rE,rF,WB,h0,hh,hd,Vl.len,c1,c2]
    exact⟨_,⟨_,7,(fun h=>by cases h),rfl⟩,rfl⟩
   |false=>cases c3:decide (y=0) with
    |false=>
     simp-implicitDefEqProofs only[xd,f7,V,↓reduceIte,rA,rB,rC,reduceCtorEq,rD,rE,rF,WB,WF,h0,hh,hd,Vl.len,c1,c2,aA hy,c3]
     exact⟨_,⟨_,y,fun h=>absurd h (of_decide_eq_false c3),rfl⟩,rfl⟩
    |true=>
     simp-implicitDefEqProofs only[xd,f7,V,↓reduceIte,rA,rB,rC,reduceCtorEq,rD,rE,rF,WB,WF,h0,hh,Vl.len,c1,c2,aA hy,c3]
     refine(f7_loop H hH H.cs.l 0 _ rfl (Nat.zero_le _) ?_ ?_ ?_ ?_ ?_ ?_ ?_).mono ?_
     ·exact U113
     ·exact U28
     ·exact U28
     ·exact U28
     ·exact U28
     ·exact U66
     ·exact U33
     rintro e s1 ⟨d1,⟨rfl,z⟩|⟨rfl,n,x,z0,z1,z2⟩⟩
     ·simp-implicitDefEqProofs only[V,↓reduceIte,rA,rB,rC,reduceCtorEq,rD,rE,rF,WB,d1]
      exact⟨_,⟨_,0,fun _=>⟨(hy0 (of_decide_eq_true c3)).2,z⟩,rfl⟩,rfl⟩
     ·simp-implicitDefEqProofs only[V,↓reduceIte,rA,rB,rC,reduceCtorEq,rD,rE,rF,WB,d1,z1,z2]
      exact⟨_,⟨_,x,fun h=>absurd h z0,rfl⟩,rfl⟩
 subst hrs
 exact⟨n,x,hx,aB kr kr (mem1 (Tree.hn H)) rfl (Tree.two _ _) ha⟩
end Go.Proofs.YtkhblipgiijoiaaGreatDoor
