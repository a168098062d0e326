/- A part of the proof about filled horn systems: ZLawb. -/
import Derived.Test.YtkhblipgiijoiaaGreatDoorU0
import Derived.Test.YtkhblipgiijoiaaGreatDoorL1

set_option linter.all false
open Nat renaming reduceEqDiff → rA, reduceAdd → rB, reduceMul → rC
open Int renaming reduceEq → rD, reduceLT → rE, reduceLE → rF
namespace Go.Proofs.YtkhblipgiijoiaaGreatDoor
open Go Go.AM
set_option maxHeartbeats 4000000
def PartOk(Vx:Evr)(p:Pr):Prop:=p.nodes<2^28∧p.plain=true∧(p.nodes≤400→p.depth≤40→boolS Vx p=0)
theorem xp{H:Hn}{c:Cl}{Vx:Evr}{L:List Pr}{B C:Nat}{cap:Option Nat}(hL:L.length<2^28)(hV:EvB Vx)(hV24:∀h,RunCall E1 (.f 24) [.agg H.cells,.agg c.cells] h (.agg Vx.cells) h):
  ∀(r:List Pr) (i:Nat) (s:St),L.drop i=r→i≤L.length→(∀p∈r,PartOk Vx p)→0<s.h.next→C<s.h.next→B<s.h.next→s.h.get 0=some (.cells H.cells true)→s.h.get C=some (.cells c.cells true)→s.h.get B=some (.cells (Pr.cellsL L) true)→
  s.eval (.t 2)=some (.ptr 0 0)→s.eval (.t 8)=some (.ptr C 0)→s.eval (.t 9)=some (.own B 0 L.length 4 cap)→s.eval (.t 10)=some (.val (.int .i64 (i:Nat)))→s.defers=[]→
  Run E1 f4_l3 s fun e s'=>e=.exit 2∧s'.defers=[]∧s'.h=s.h∧∀j,j<10→s'.eval (.t j)=s.eval (.t j)
 | [],i,s,hd,hi,hp,hn,hC,hB,g0,gC,gB,h2,h8,h9,h10,hf=>by
  have hl:=aN hd hi
  subst hl
  have ln:lenV (.own B 0 L.length 4 cap)=some (.val (.int .i64 (L.length:Nat))):=rfl
  apply aC (rfl:f4_l3=.loop xr)
  simp-implicitDefEqProofs only[xr,V,↓reduceIte,rA,rB,rC,reduceCtorEq,rD,rE,rF,WB,h9,h10,hf,ln,lt_f]
  intro j hj
  repeat rw[if_neg om]
 |k::r,i,s,hd,hi,hp,hn,hC,hB,g0,gC,gB,h2,h8,h9,h10,hf=>by
  have hl:=aV hd
  have hlt:=lt_t hl
  have w1:IntKind.i64.wrap ((i:Int)+1)=((i+1:Nat):Int):=aE (n:=i+1) om
  have ln:lenV (.own B 0 L.length 4 cap)=some (.val (.int .i64 (L.length:Nat))):=rfl
  have ln0:lenV (.val (.slice none 0 0))=some (.val (.int .i64 0)):=rfl
  obtain⟨k1,k2,k3⟩:=hp k List.mem_cons_self
  have ix:idxAddrSV 4 (.own B 0 L.length 4 cap) i=some (.ptr B (0+i*4)):=by
   have h1:Nat.blt i L.length=true:=Nat.blt_eq.mpr hl
   simp only[idxAddrSV,h1,Nat.beq_refl,Bool.and_self,cond_true]
  have cf:cfB (some (.cells (Pr.cellsL L) true)) (i*4)=some (k.cells++Pr.cellsL r):=by
   have h1:Nat.ble (i*4) (Pr.cellsL L).length=true:=Nat.ble_eq.mpr (by rw[cX];omega)
   simp only[cfB,h1,cond_true]
   rw[eA,hd,Pr.cellsL]
  apply aC (rfl:f4_l3=.loop xr)
  simp-implicitDefEqProofs only[xr,V,↓reduceIte,rA,rB,rC,reduceCtorEq,rD,rE,rF,WB,h9,h10,ln,hlt,ix,gB,cf,ae,aA (qe k k2 om),ln0]
  refine(f4_d2_run (H:=H) (c:=c) (Vx:=Vx) (L:=L) (r:=r) (p:=k) (i:=i) (B:=B) (C:=C) (lo:=0) (cap:=cap) hd hL k1 hV hV24 k3 ?_ ?_ ?_ ?_ ?_ ?_ ?_ ?_ ?_ ?_).mono ?_
  ·exact U115
  ·simp-implicitDefEqProofs only[V,↓reduceIte,rA,rB,rC,reduceCtorEq,rD,rE,rF]
   exact hC
  ·simp-implicitDefEqProofs only[V,↓reduceIte,rA,rB,rC,reduceCtorEq,rD,rE,rF]
   exact hB
  ·exact U92
  ·simp-implicitDefEqProofs only[V,↓reduceIte,rA,rB,rC,reduceCtorEq,rD,rE,rF,gC]
  ·simp-implicitDefEqProofs only[V,↓reduceIte,rA,rB,rC,reduceCtorEq,rD,rE,rF,gB]
  ·exact U80
  ·exact U120
  ·simp-implicitDefEqProofs only[V,↓reduceIte,rA,rB,rC,reduceCtorEq,rD,rE,rF,h9]
  ·exact U87
  rintro e s1 ⟨rfl,e102,e1,d1,t1⟩
  simp-implicitDefEqProofs only[V,↓reduceIte,rA,rB,rC,reduceCtorEq,rD,rE,rF] at e1 d1
  have t1':∀j,j<57→s1.eval (.t j)=s.eval (.t j):=fun j hj=>by
   rw[t1 j om]
   simp only[St.put,St.eval_set,St.eval_toH]
   repeat rw[if_neg om]
  have e10:s1.eval (.t 10)=some (.val (.int .i64 (i:Nat))):=by rw[t1' 10 om,h10]
  simp-implicitDefEqProofs only[V,↓reduceIte,rA,rB,rC,reduceCtorEq,rD,rE,rF,WB,e102,e10,w1]
  refine(xp (H:=H) (c:=c) (Vx:=Vx) (L:=L) (B:=B) (C:=C) (cap:=cap) hL hV hV24 r (i+1) _ (aF hd) om (fun p hp'=>hp p (List.mem_cons_of_mem _ hp')) ?_ ?_ ?_ ?_ ?_ ?_ ?_ ?_ ?_ ?_ ?_).mono ?_
  ·simp-implicitDefEqProofs only[V,↓reduceIte,rA,rB,rC,reduceCtorEq,rD,rE,rF,e1]
   exact hn
  ·simp-implicitDefEqProofs only[V,↓reduceIte,rA,rB,rC,reduceCtorEq,rD,rE,rF,e1]
   exact hC
  ·simp-implicitDefEqProofs only[V,↓reduceIte,rA,rB,rC,reduceCtorEq,rD,rE,rF,e1]
   exact hB
  ·simp-implicitDefEqProofs only[V,↓reduceIte,rA,rB,rC,reduceCtorEq,rD,rE,rF,e1,g0]
  ·simp-implicitDefEqProofs only[V,↓reduceIte,rA,rB,rC,reduceCtorEq,rD,rE,rF,e1,gC]
  ·simp-implicitDefEqProofs only[V,↓reduceIte,rA,rB,rC,reduceCtorEq,rD,rE,rF,e1,gB]
  ·simp-implicitDefEqProofs only[V,↓reduceIte,rA,rB,rC,reduceCtorEq,rD,rE,rF,t1' 2 om,h2]
  ·simp-implicitDefEqProofs only[V,↓reduceIte,rA,rB,rC,reduceCtorEq,rD,rE,rF,t1' 8 om,h8]
  ·simp-implicitDefEqProofs only[V,↓reduceIte,rA,rB,rC,reduceCtorEq,rD,rE,rF,t1' 9 om,h9]
  ·exact U28
  ·exact U60
  rintro e s2 ⟨rfl,d2,e2,t2⟩
  simp-implicitDefEqProofs only[V,↓reduceIte,rA,rB,rC,reduceCtorEq,rD,rE,rF,e1] at e2
  refine⟨rfl,d2,e2,fun j hj=>?_⟩
  rw[t2 j hj,←t1' j om]
  simp only[St.put,St.eval_set,St.eval_toH]
  repeat rw[if_neg om]
def ClauseFill(H:Hn)(S:Vl So)(c:Cl):Prop:=∃(c':Cl) (Vx:Evr),(∀h,RunCall E1 (.f 19) [.agg H.cells,S.A So.cells,.agg c.cells] h (.agg c'.cells) h)∧(∀h,RunCall E1 (.f 24) [.agg H.cells,.agg c'.cells] h (.agg Vx.cells) h)∧EvB Vx∧c'.hy.l.length<2^27∧∀p∈c'.hy.l++[c'.hd],PartOk Vx p
theorem xo(H:Hn)(S:Vl So)(hN:H.cs.l.length<2^61):∀(r:List Cl) (i:Nat) (s:St),H.cs.l.drop i=r→i≤H.cs.l.length→(∀c∈r,ClauseFill H S c)→0<s.h.next→NoTag s.h→s.h.get 0=some (.cells H.cells true)→
  s.eval (.t 1)=some (S.A So.cells)→s.eval (.t 2)=some (.ptr 0 0)→s.eval (.t 7)=some (.val (.int .i64 (i:Nat)))→s.defers=[]→
  Run E1 f4_l4 s fun e s'=>e=.exit 0∧s'.defers=[]
 | [],i,s,hd,hi,hp,hn,ht,g0,h1,h2,h7,hf=>by
  have hl:=aN hd hi
  subst hl
  apply aC (rfl:f4_l4=.loop xq)
  simp-implicitDefEqProofs only[xq,V,↓reduceIte,rA,rB,rC,reduceCtorEq,rD,rE,rF,WB,g0,h1,h2,h7,hf,Vl.len,lt_f]
 |k::r,i,s,hd,hi,hp,hn,ht,g0,h1,h2,h7,hf=>by
  have hl:=aV hd
  have hlt:=lt_t hl
  have w1:IntKind.i64.wrap ((i:Int)+1)=((i+1:Nat):Int):=aE (n:=i+1) om
  obtain⟨c',Vx,k1,k2,k3,k4,k5⟩:=hp k List.mem_cons_self
  apply aC (rfl:f4_l4=.loop xq)
  simp-implicitDefEqProofs only[xq,V,↓reduceIte,rA,rB,rC,reduceCtorEq,rD,rE,rF,WB,g0,h1,h2,h7,Vl.len,hlt]
  refine(f4_d0_run (H:=H) (S:=S) (c:=k) (c':=c') (r:=r) (i:=i) hd k1 ?_ ?_ ?_ ?_ ?_ ?_).mono ?_
  ·exact U115
  ·exact U92
  ·simp-implicitDefEqProofs only[V,↓reduceIte,rA,rB,rC,reduceCtorEq,rD,rE,rF]
   exact ht
  ·exact U39
  ·exact U80
  ·exact U44
  rintro e s1 ⟨rfl,e8,gC,m1,o1,t1,d1,q1⟩
  simp-implicitDefEqProofs only[V,↓reduceIte,rA,rB,rC,reduceCtorEq,rD,rE,rF] at e8 gC m1 o1 d1 q1
  have q1':∀j,j<34→j≠8→s1.eval (.t j)=s.eval (.t j):=fun j hj hj8=>by
   rw[q1 j om hj8]
   repeat rw[if_neg om]
  simp-implicitDefEqProofs only[V,↓reduceIte,rA,rB,rC,reduceCtorEq,rD,rE,rF]
  refine(f4_d1_run (c:=c') (C:=s.h.next) om om gC t1 e8).mono ?_
  rintro e s2 ⟨rfl,⟨v,e9,r2⟩,m2,o2,t2,d2,q2⟩
  obtain⟨B,cap,rfl,b1,b2,b3⟩:=RowX.is r2 (Nat.succ_pos _)
  have hlen:c'.hy.l.length+1=(c'.hy.l++[c'.hd]).length:=by rw[List.length_append];rfl
  rw[hlen] at e9
  have q2':∀j,j<34→j≠8→j≠9→s2.eval (.t j)=s.eval (.t j):=fun j hj hj8 hj9=>by
   rw[q2 j om hj9,q1' j hj hj8]
  have g2:s2.h.get 0=some (.cells H.cells true):=by rw[o2 0 om,o1 0 hn,g0]
  simp-implicitDefEqProofs only[V,↓reduceIte,rA,rB,rC,reduceCtorEq,rD,rE,rF,WB]
  refine(xp (H:=H) (c:=c') (Vx:=Vx) (L:=c'.hy.l++[c'.hd]) (B:=B) (C:=s.h.next) (cap:=cap) om k3 k2 (c'.hy.l++[c'.hd]) 0 _ rfl (Nat.zero_le _) k5 ?_ ?_ ?_ ?_ ?_ ?_ ?_ ?_ ?_ ?_ ?_).mono ?_
  ·exact U53
  ·exact U53
  ·simp-implicitDefEqProofs only[V,↓reduceIte,rA,rB,rC,reduceCtorEq,rD,rE,rF]
   exact b2
  ·exact U122
  ·simp-implicitDefEqProofs only[V,↓reduceIte,rA,rB,rC,reduceCtorEq,rD,rE,rF]
   rw[o2 _ om,gC]
  ·simp-implicitDefEqProofs only[V,↓reduceIte,rA,rB,rC,reduceCtorEq,rD,rE,rF,b3]
  ·simp-implicitDefEqProofs only[V,↓reduceIte,rA,rB,rC,reduceCtorEq,rD,rE,rF,q2' 2 om om om,h2]
  ·simp-implicitDefEqProofs only[V,↓reduceIte,rA,rB,rC,reduceCtorEq,rD,rE,rF]
   rw[q2 8 om om,e8]
  ·simp-implicitDefEqProofs only[V,↓reduceIte,rA,rB,rC,reduceCtorEq,rD,rE,rF,e9]
  ·exact U66
  ·simp-implicitDefEqProofs only[V,↓reduceIte,rA,rB,rC,reduceCtorEq,rD,rE,rF,d2,d1,hf]
  rintro e s3 ⟨rfl,d3,e3,t3⟩
  simp-implicitDefEqProofs only[V,↓reduceIte,rA,rB,rC,reduceCtorEq,rD,rE,rF] at e3
  have t3':∀j,j<8→s3.eval (.t j)=s.eval (.t j):=fun j hj=>by
   rw[t3 j om,←q2' j om om om]
   simp only[St.put,St.eval_set,St.eval_toH]
   rw[if_neg om]
  have e7:s3.eval (.t 7)=some (.val (.int .i64 (i:Nat))):=by rw[t3' 7 om,h7]
  simp-implicitDefEqProofs only[V,↓reduceIte,rA,rB,rC,reduceCtorEq,rD,rE,rF,WB,e7,w1]
  refine xo H S hN r (i+1) _ (aF hd) om (fun c hc=>hp c (List.mem_cons_of_mem _ hc)) ?_ ?_ ?_ ?_ ?_ ?_ ?_
  ·simp-implicitDefEqProofs only[V,↓reduceIte,rA,rB,rC,reduceCtorEq,rD,rE,rF,e3]
   omega
  ·simp-implicitDefEqProofs only[V,↓reduceIte,rA,rB,rC,reduceCtorEq,rD,rE,rF,e3]
   exact t2
  ·simp-implicitDefEqProofs only[V,↓reduceIte,rA,rB,rC,reduceCtorEq,rD,rE,rF,e3,g2]
  ·simp-implicitDefEqProofs only[V,↓reduceIte,rA,rB,rC,reduceCtorEq,rD,rE,rF,t3' 1 om,h1]
  ·simp-implicitDefEqProofs only[V,↓reduceIte,rA,rB,rC,reduceCtorEq,rD,rE,rF,t3' 2 om,h2]
  ·exact U28
  ·simp-implicitDefEqProofs only[V,↓reduceIte,rA,rB,rC,reduceCtorEq,rD,rE,rF,d3]
theorem yI{H:Hn}(hH:HnB H){S:Vl So}(hS:S.l.length≤10∧∀x∈S.l,x.p.nodes≤20)(hs:SmallH H)(hc:CheckOk H)(ho:SolsOk H S){c:Cl}(hm:c∈H.cs.l):ClauseFill H S c:=by
 obtain⟨V0,v1,v2,v3,hy,hd⟩:=hc.clauses c hm
 obtain⟨s1,s2,s3⟩:=hs.cl c hm
 have hhs:=hH.hs
 have hsy:=hH.sy
 have hy1:=hyE_ok hy
 have hd1:=hd_ok hd
 have hyn:∀p∈c.hy.l,p.nodes≤120:=fun p hp=>by have:=cT hp;omega
 have hS2:∀y∈S.l,y.p.nodes≤20:=hS.2
 obtain⟨c',e1,e2,e3,h19⟩:=uX H S c om om om (fun x hx=>by have:=hs.ps x hx;omega) om (fun y hy=>by have:=hS2 y hy;omega) hd1.2 om (fun p hp=>⟨(hy1 p hp).2,by have:=hyn p hp;omega⟩)
 obtain⟨Vx,w1,w2,w3,h24⟩:=qL H c' (by rw[e1];omega) om om
 have hV:EvB Vx:=⟨by rw[w1,e1];omega,by rw[w2];omega,fun x hx=>by rw[w2] at hx;have:=hH.sa x hx;omega,by rw[w3];omega,fun x hx=>by rw[w3] at hx;have:=hH.hp x hx;omega⟩
 have part:∀p:Pr,p.whole=true→boolS V0 p=0→p.nodes≤120→PartOk Vx (p.fl H.hs.l S.l):=fun p p1 p2 p3=>by
  have k1:=xQ H.hs.l S.l hS2 p p1
  obtain⟨k2,k3⟩:=filled_ok (Vx:=V0) (W:=Vx) v2 v3 (by rw[w1,e1,v1]) (by rw[w2,v2]) (by rw[w3,v3]) hc.holes ho p1 p2
  exact⟨om,k2,k3⟩
 refine⟨c',Vx,h19,h24,hV,by rw[e2,List.length_map];omega,fun p hp=>?_⟩
 rw[e2,e3] at hp
 rcases List.mem_append.1 hp with hp|hp
 ·obtain⟨q,hq,rfl⟩:=List.mem_map.1 hp
  exact part q (hy1 q hq).2 (hy1 q hq).1 (hyn q hq)
 ·rw[List.mem_singleton.1 hp]
  exact part c.hd hd1.2 hd1.1 om
theorem law4(H:Hn)(hH:HnB H)(S:Vl So)(hN:S.l.length<2^28)(hw:∀x∈S.l,x.p.wt≤2^22):∃h',Ev fun n=>enterA E1 (exec E1 n) 4 [.agg H.cells,S.A So.cells] .empty=some (.val (.bool true),h'):=by
 have hhs:=hH.hs
 have hcs:=hH.cs
 obtain⟨b1,hb1,k5⟩:=wW H om om hH.cw
 obtain⟨b2,hb2,k17⟩:=zg S om hw
 obtain⟨n,x,hx,k7⟩:=yL H hH
 obtain⟨y,hy,k18⟩:=wU H hH S om (fun z hz=>by have h1:=hw z hz;have h2:=iu z.p;omega)
 obtain⟨v,h',hp,hrun⟩:=kl (g:=4) (l:=[.agg H.cells,S.A So.cells]) (h:=.empty) (fun v _=>v=.val (.bool true)) f4_ok fun s hs hh hd hr=>by
  apply bZ
  have h0:=hs 0 _ rfl
  have h1:=hs 1 _ rfl
  cases b1 with
  |false=>
   simp-implicitDefEqProofs only[sj,f4,V,↓reduceIte,rA,rB,rC,reduceCtorEq,rD,rE,rF,WB,h0,h1,hh,hd,aA k5,aA dq]
   exact⟨_,rfl,rfl⟩
  |true=>cases b2 with
   |false=>
    simp-implicitDefEqProofs only[sj,f4,V,↓reduceIte,rA,rB,rC,reduceCtorEq,rD,rE,rF,WB,h0,h1,hh,hd,aA k5,aA k17,aA dq]
    exact⟨_,rfl,rfl⟩
   |true=>cases c1:decide (x=0) with
    |false=>
     simp-implicitDefEqProofs only[sj,f4,V,↓reduceIte,rA,rB,rC,reduceCtorEq,rD,rE,rF,WB,h0,h1,hh,hd,aA k5,aA k17,aA k7,c1,aA dq]
     exact⟨_,rfl,rfl⟩
    |true=>cases c2:decide (y=0) with
     |false=>
      simp-implicitDefEqProofs only[sj,f4,V,↓reduceIte,rA,rB,rC,reduceCtorEq,rD,rE,rF,WB,h0,h1,hh,hd,aA k5,aA k17,aA k7,aA k18,c1,c2,aA dq]
      exact⟨_,rfl,rfl⟩
     |true=>
      simp-implicitDefEqProofs only[sj,f4,V,↓reduceIte,rA,rB,rC,reduceCtorEq,rD,rE,rF,WB,h0,h1,hh,aA k5,aA k17,aA k7,aA k18,c1,c2]
      refine(xo H S om H.cs.l 0 _ rfl (Nat.zero_le _) (fun c hc=>yI hH (hb2 rfl) (hb1 rfl) (hx (of_decide_eq_true c1)) (hy (of_decide_eq_true c2)) hc) ?_ ?_ ?_ ?_ ?_ ?_ ?_).mono ?_
      ·exact U113
      ·simp-implicitDefEqProofs only[V,↓reduceIte,rA,rB,rC,reduceCtorEq,rD,rE,rF]
       exact NoTag.empty.alloc
      ·exact U28
      ·exact U39
      ·exact U28
      ·exact U66
      ·exact U33
      rintro e s1 ⟨rfl,d1⟩
      simp-implicitDefEqProofs only[V,↓reduceIte,rA,rB,rC,reduceCtorEq,rD,rE,rF,WB,d1,aA dq]
      exact⟨_,rfl,rfl⟩
 subst hp
 exact⟨h',hrun⟩
end Go.Proofs.YtkhblipgiijoiaaGreatDoor
