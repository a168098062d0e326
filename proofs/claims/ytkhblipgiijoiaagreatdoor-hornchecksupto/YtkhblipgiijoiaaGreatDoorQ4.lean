/- ZRsplit ZRcoll ZRfree ZRclause ZCheckx ZNeeds ZHyp -/
import Derived.Test.YtkhblipgiijoiaaGreatDoorU0
import Derived.Test.YtkhblipgiijoiaaGreatDoorH1
import Derived.Test.YtkhblipgiijoiaaGreatDoorR4
import Derived.Test.YtkhblipgiijoiaaGreatDoorQ1

set_option linter.all false
open Nat renaming reduceEqDiff → rA, reduceAdd → rB, reduceMul → rC
open Int renaming reduceEq → rD, reduceLT → rE, reduceLE → rF
open Bool renaming and_eq_true → ii, and_self → iu, and_true → Bn, false_and → jw, not_eq_true' → Aq, not_false → jv, true_and → jj
open List renaming all_cons → iv, all_nil → is, append_assoc → jk, append_nil → iz, cons_append → j6, flatMap_cons → A8, length_append → io, length_cons → il, length_eq_zero_iff → At, length_nil → jf, mem_append → jb, mem_cons → ie, mem_cons_of_mem → j4, mem_cons_self → ik, mem_nil_iff → j7, mem_of_mem_drop → jh, mem_singleton → ig
open Nat renaming le_refl → ib, zero_le → ic
namespace Go.Proofs.YtkhblipgiijoiaaGreatDoor
open Go Go.AM
set_option maxHeartbeats 4000000
variable [KR]
mutual
def Pr.rspl:Pr→List Pr
 |.mk o s n ks a b=>bif decide (o=15)&&decide (ks.length=2) then Pr.rsplL ks else bif (Pr.mk o s n ks a b).void then [] else [.mk o s n ks a b]
def Pr.rsplL:List Pr→List Pr
 | []=>[]
 |k::r=>k.rspl++Pr.rsplL r
end
mutual
theorem qR:∀p:Pr,p.rspl.length≤p.nodes
 |.mk o s n ks a b=>by
  have:=ll ks;rw[Pr.rspl,Pr.nodes];cases decide (o=15)&&decide (ks.length=2)
  ·cases (Pr.mk o s n ks a b).void
   ·simp only[cond_false,il,jf];omega
   ·simp only[cond_false,cond_true,jf];omega
  ·simp only[cond_true];omega
theorem ll:∀l:List Pr,(Pr.rsplL l).length≤Pr.nodesL l
 | []=>ib 0
 |k::r=>by
  have h1:=qR k;have h2:=ll r;simp only[Pr.rsplL,Pr.nodesL,io];omega
end
def RSplOk(p:Pr)(L:List Pr):Prop:=∃w:Vl Pr,w.l=L∧∀h,RunCall E1 (.f 67) [p.av] h (w.A Pr.cells) h
theorem Uc{h:AH}{b:Nat}{p:Pr}(g:h.get b=some (.cells p.cells true))(hb:b<h.next):Rep h 0 h.next 1 (.own b 0 1 4 (some 1)) ((⟨[p],none,some 1⟩:Vl Pr).A Pr.cells):=by
 have:=Rep.own (h:=h) (lo:=0) (hi:=h.next) (n:=0) (es:=4) (cap:=some 1) (k:=1) (b:=b) (rw:=true) (ps:=p.cells.map fun c=>(c,c)) (ic _) hb (by rw[List.map_map];show _=some (Blk.cells (List.map (fun c=>c) p.cells) true);rw[List.map_id'];exact g) (by rw[List.length_map,p.len]) (fun q hq=>by
  obtain⟨c,hc,rfl⟩:=List.mem_map.1 hq;exact Rep.leaf (p.leaves c hc))
 have e:List.map (fun p:AV×AV=>p.2) (p.cells.map fun c=>(c,c))=[p].flatMap Pr.cells:=by
  rw[List.map_map];show List.map (fun c=>c) p.cells=_;rw[List.map_id',A8,List.flatMap_nil,iz]
 rw[e] at this;exact this
theorem Hk{p a b:Pr}{La Lb:List Pr}(ho:p.op=15)(hks:p.ks=[a,b])(hN:La.length+Lb.length<2^28)(ha:RSplOk a La)(hb:RSplOk b Lb):RSplOk p (La++Lb):=by
 obtain⟨wa,ea,ca⟩:=ha;obtain⟨wb,eb,cb⟩:=hb;subst ea;subst eb;refine⟨⟨wa.l++wb.l,nilK,none⟩,rfl,fun h=>?_⟩;refine bW kr Js (aN (Tree.pr p)) (fun s hs hh hd hr=>?_) h;have h0:=hs 0 _ rfl;have k0:=dJ p 0 a [b] (by rw[hks];rfl)
 have k1:=dJ p 1 b [] (by rw[hks];rfl)
 have kl:lenV p.kids=some (vI (2:Int)):=by rw[Dx,hks];rfl
 simp-implicitDefEqProofs only[yi,f67,V,↓reduceIte,rA,h0,hh,ho,kl,k0,aA ca];refine bt (k:=0) (m:=wa.l.length) (lo:=0) (v:=.val (.slice none 0 0)) (x:=wa.A Pr.cells) (cs:=[]) (new:=Pr.cellsL wa.l) RowC.nil (ic _) ?_ (cG _) (Pr.leavesL _) (aX om de) ?_ ?_ ?_
 ·rw[Pr.cellsL_eq wa.l];exact bJ Pr.len
 ·exact U36
 ·exact U36
 intro v1 h1 r1 n1 o1;rw[List.nil_append,Nat.zero_add] at r1;simp-implicitDefEqProofs only[V] at n1 o1;have g0:h1.get 0=some (.cells p.cells true):=by
  rw[o1 0 om (fun hx=>by simp only[ids,List.not_mem_nil] at hx)]
  rfl
 simp-implicitDefEqProofs only[V,↓reduceIte,rA,g0,k1,aA cb];refine bt (k:=wa.l.length) (m:=wb.l.length) (lo:=0) (v:=v1) (x:=wb.A Pr.cells) (cs:=Pr.cellsL wa.l) (new:=Pr.cellsL wb.l) ?_ (ic _) ?_ (cG _) (Pr.leavesL _) (aX om de) ?_ ?_ ?_
 ·exact U66
 ·rw[Pr.cellsL_eq wb.l];exact bJ Pr.len
 ·exact U36
 ·exact U36
 intro v2 h2 r2 n2 o2;simp-implicitDefEqProofs only[V,↓reduceIte,reduceCtorEq,hd];refine⟨_,rfl,1,de,?_⟩;rw[←dz,←io] at r2;have:=r2.rep;rw[show(bif Nat.beq (wa.l++wb.l).length 0 then AV.val (.slice none 0 0) else .imm (Pr.cellsL (wa.l++wb.l)) (wa.l++wb.l).length none)=rowT (wa.l++wb.l).length (Pr.cellsL (wa.l++wb.l)) from rfl,Pr.cellsL_eq,bU rfl] at this;exact this
theorem Hl {p : Pr} (hb : p.nodes < 2 ^ 61) (hq : (decide (p.op = 15) && decide ((p.ks.length : Int) = 2)) = false) : RSplOk p (bif p.void then [] else [p]) := by
  obtain ⟨A, ea⟩ : ∃ A, decide (p.op = 15) = A := ⟨_, rfl⟩;obtain ⟨B, eb⟩ : ∃ B, decide ((p.ks.length : Int) = 2) = B := ⟨_, rfl⟩;rw [ea, eb] at hq;cases hv : p.void with
  | true =>
    refine ⟨⟨[], nilK, none⟩, rfl, fun h => ?_⟩;refine bW kr Js (aN (Tree.pr p)) (fun s hs hh hd hr => ?_) h;have h0 := hs 0 _ rfl;have hw := kM p hb;rw [hv] at hw;cases A <;> cases B <;> first
      | (cases hq; done)
      | (simp -implicitDefEqProofs only [yi, f67, V, ↓reduceIte, rA, reduceCtorEq, h0, hh, hd, ea, eb, aA hw]
         exact ⟨_, rfl, 0, by decide, Rep.leaf (Leaf.val _)⟩)
  | false =>
    refine ⟨⟨[p], none, some 1⟩, rfl, fun h => ?_⟩;refine bW kr Js (aN (Tree.pr p)) (fun s hs hh hd hr => ?_) h;have h0 := hs 0 _ rfl;have hw := kM p hb;rw [hv] at hw;cases A <;> cases B <;> first
      | (cases hq; done)
      | (simp -implicitDefEqProofs only [yi, f67, V, ↓reduceIte, rA, rB, reduceCtorEq, WF, h0, hh, hd, ea, eb, aA hw, fa]
         refine ⟨_, rfl, 1, by decide, Uc ?_ ?_⟩
         · simp -implicitDefEqProofs only [V, ↓reduceIte]
         · simp -implicitDefEqProofs only [V, rB]
           decide)
mutual
theorem eP:∀p:Pr,p.nodes<2^28→RSplOk p p.rspl
 |.mk o s n ks nl cap,hb=>by
  have hb':1+Pr.nodesL ks<2^28:=hb;have hk:=fW ks om;have hlen:=ll ks;have e0:decide ((ks.length:Int)=2)=decide (ks.length=2):=by rw[decide_eq_decide];omega
  rw[Pr.rspl];cases hq:decide (o=15)&&decide (ks.length=2) with
  |false=>exact Hl (p:=.mk o s n ks nl cap) om (by show(decide (o=15)&&decide ((ks.length:Int)=2))=false;rw[e0];exact hq)
  |true=>
   rw[ii] at hq;have h2:=of_decide_eq_true hq.2
   match ks,h2,hk,hlen,hb' with
   | [a,b],_,hk,hlen,hb'=>
    have hlen':(a.rspl++(b.rspl++[])).length≤Pr.nodesL [a,b]:=hlen;rw[iz,io] at hlen';have:=Hk (p:=.mk o s n [a,b] nl cap) (of_decide_eq_true hq.1) rfl om (hk a (by simp)) (hk b (by simp))
    have e:Pr.rsplL [a,b]=a.rspl++b.rspl:=by show a.rspl++(b.rspl++[])=_;rw[iz]
    rw[cond_true,e];exact this
theorem fW:∀l:List Pr,Pr.nodesL l<2^28→∀k∈l,RSplOk k k.rspl
 | [],_,k,hk=>by cases hk
 |p::r,hb,k,hk=>by
  have hb':p.nodes+Pr.nodesL r<2^28:=hb;rcases ie.1 hk with e|hk
  ·have:=eP p om;rw[e];exact this
  ·exact fW r om k hk
end
def hasR(p:Pr):List Pr→Bool
 | []=>false
 |q::r=>q.same p||hasR p r
theorem Fa(p:Pr)(w:Vl Pr)(hw:∀q∈w.l,q.nodes<2^61)(hN:w.l.length<2^61):∀(r:List Pr) (i:Nat) (s:St),w.l.drop i=r→i≤w.l.length→0<s.h.next→s.h.get 0=some (.cells p.cells true)→
  s.eval (.t 3)=some (.ptr 0 0)→s.eval (.t 7)=some (w.A Pr.cells)→s.eval (.t 8)=some (vI (w.l.length:Nat))→s.eval (.t 9)=some (vI (i:Nat))→s.defers=[]→
  Run E1 ye s fun e s'=>s'.defers=[]∧((hasR p r=false∧e=.exit 0)∨(hasR p r=true∧e=.ret∧s'.eval (.t 4)=some (vB true)))
 | [],i,s,hd,hi,hn,g0,h3,h7,h8,h9,hf=>by
  have hl:=aG hd hi;subst hl;apply aB (rfl:ye=.loop mS);simp-implicitDefEqProofs only[mS,V,↓reduceIte,rA,reduceCtorEq,h8,h9,hf,bA,hasR]
 |k::r,i,s,hd,hi,hn,g0,h3,h7,h8,h9,hf=>by
  have hl:=aH hd;have hlt:=bD hl;have w1:IntKind.i64.wrap ((i:Int)+1)=((i+1:Nat):Int):=aD (n:=i+1) om;have n0:(0=s.h.next)=False:=eq_false om;have hs:=dB k (hw k (jh (i:=i) (by rw[hd];exact ik))) p
  apply aB (rfl:ye=.loop mS);rw[hasR];cases hc:k.same p with
  |true=>
   rw[hc] at hs;simp-implicitDefEqProofs only[mS,V,↓reduceIte,rA,reduceCtorEq,WF,h3,h7,h8,h9,hf,hlt,w.at Pr.len hd,g0,n0,aA hs]
  |false=>
   rw[hc] at hs;simp-implicitDefEqProofs only[mS,V,↓reduceIte,rA,WF,h3,h7,h8,h9,hlt,w.at Pr.len hd,g0,n0,aA hs,w1];refine Fa p w hw hN r (i+1) _ (aF hd) om ?_ ?_ ?_ ?_ ?_ ?_ ?_
   ·exact U52
   ·exact U62
   all_goals simp-implicitDefEqProofs only[V,↓reduceIte,rA,h3,h7,h8,hf]
theorem Cs(w:Vl Pr)(p:Pr)(hw:∀q∈w.l,q.nodes<2^61)(hN:w.l.length<2^61)(h:AH):RunCall E1 (.f 74) [w.A Pr.cells,p.av] h (vB (hasR p w.l)) h:=by
 refine ai kr aII (bT Tree.vl (Tree.pr p)) rfl (Tree.val _) (fun s hs hh hd hr=>?_) h;have h0:=hs 0 _ rfl;have h1:=hs 1 _ rfl;simp-implicitDefEqProofs only[Wj,f74,V,↓reduceIte,reduceCtorEq,h0,h1,hh];refine(Fa p w hw hN w.l 0 _ rfl (ic _) ?_ ?_ ?_ ?_ ?_ ?_ ?_).mono ?_
 ·exact U129
 ·exact U36
 ·exact U36
 ·exact U41
 ·exact U36
 ·exact U58
 ·exact U40
 rintro e s1 ⟨d1,⟨q,rfl⟩|⟨q,rfl,q2⟩⟩
 ·exact U82
 ·exact U83
mutual
def rin(op:Int):Pr→List Pr→List Pr
 |.mk o s n ks a b,L=>bif decide (o=op)&& !hasR (.mk o s n ks a b) (rinL op ks L) then rinL op ks L++[(Pr.mk o s n ks a b)] else rinL op ks L
def rinL(op:Int):List Pr→List Pr→List Pr
 | [],L=>L
 |k::r,L=>rinL op r (rin op k L)
end
mutual
theorem Lr(op:Int):∀(p:Pr) (L:List Pr),(rin op p L).length≤L.length+p.nodes
 |.mk o s n ks a b,L=>by
  have:=qT op ks L;simp only[rin,Pr.nodes];cases decide (o=op)&& !hasR (.mk o s n ks a b) (rinL op ks L)
  ·simp only[cond_false];omega
  ·simp only[cond_true,io,il,jf];omega
theorem qT(op:Int):∀(l L:List Pr),(rinL op l L).length≤L.length+Pr.nodesL l
 | [],L=>by simp only[rinL,Pr.nodesL];omega
 |k::r,L=>by
  have h1:=Lr op k L;have h2:=qT op r (rin op k L);simp only[rinL,Pr.nodesL];omega
end
def Small(L:List Pr):Prop:=∀q∈L,q.nodes<2^61
mutual
theorem vY(op:Int):∀(p:Pr) (L:List Pr),p.nodes<2^61→Small L→Small (rin op p L)
 |.mk o s n ks a b,L,hb,hL=>by
  have hb':1+Pr.nodesL ks<2^61:=hb;have h1:=jF op ks L om hL;simp only[rin];cases decide (o=op)&& !hasR (.mk o s n ks a b) (rinL op ks L)
  ·exact h1
  ·intro q hq;rcases jb.1 hq with hq|hq
   ·exact h1 q hq
   ·rw[ig.1 hq];exact hb
theorem jF(op:Int):∀(l L:List Pr),Pr.nodesL l<2^61→Small L→Small (rinL op l L)
 | [],L,_,hL=>hL
 |k::r,L,hb,hL=>by
  have hb':k.nodes+Pr.nodesL r<2^61:=hb;exact jF op r (rin op k L) om (vY op k L om hL)
end
theorem vr{k:Pr}:∀{l:List Pr},k∈l→k.nodes≤Pr.nodesL l
 | [],h=>by cases h
 |p::r,h=>by
  rw[Pr.nodesL];rcases ie.1 h with e|h
  ·rw[e];omega
  ·have:=vr h;omega
def RinOk(op:Int)(k:Pr):Prop:=∀(h:AH) (lo:Nat) (v:AV) (L:List Pr),Small L→RowC h lo L.length 4 v (Pr.cellsL L)→lo≤h.next→L.length+k.nodes<2^29→∃v' h',RunCall E1 (.f 47) [k.av,vI op,v] h v' h'∧RowC h' lo (rin op k L).length 4 v' (Pr.cellsL (rin op k L))∧h.next≤h'.next∧(∀x,x<h.next→x∉ids v→h'.get x=h.get x)∧(∀x∈ids v',x∈ids v∨h.next≤x)
theorem Ec(op:Int)(p:Pr){lo B:Nat}(hlB:lo≤B)(hN:p.ks.length<2^29):∀(r:List Pr) (i:Nat) (s:St) (v:AV) (L:List Pr),p.ks.drop i=r→i≤p.ks.length→(∀k∈r,RinOk op k)→(∀k∈r,k.nodes<2^61)→Small L→L.length+Pr.nodesL r<2^29→RowC s.h lo L.length 4 v (Pr.cellsL L)→B<s.h.next→B∉ids v→s.h.get B=some (.cells p.cells true)→
  s.eval (.t 1)=some (vI op)→s.eval (.t 2)=some v→s.eval (.t 3)=some (.ptr B 0)→s.eval (.t 10)=some p.kids→s.eval (.t 11)=some (vI (p.ks.length:Nat))→s.eval (.t 12)=some (vI (i:Nat))→s.defers=[]→
  Run E1 yq s fun e s'=>e=.exit 0∧s'.defers=[]∧s'.eval (.t 1)=some (vI op)∧s'.eval (.t 3)=some (.ptr B 0)∧∃v',s'.eval (.t 2)=some v'∧RowC s'.h lo (rinL op r L).length 4 v' (Pr.cellsL (rinL op r L))∧s.h.next≤s'.h.next∧(∀x,x<s.h.next→x∉ids v→s'.h.get x=s.h.get x)∧(∀x∈ids v',x∈ids v∨s.h.next≤x)
 | [],i,s,v,L,hd,hi,hk,hkn,hS,hL,hr,hB,hBv,gB,h1,h2,h3,h10,h11,h12,hf=>by
  have hl:=aG hd hi;subst hl;apply aB (rfl:yq=.loop tH);simp-implicitDefEqProofs only[tH,V,↓reduceIte,rA,h1,h2,h3,h11,h12,hf,bA,rinL];exact⟨v,rfl,hr,ib _,fun x _ _=>by first|rfl|trivial,fun x hx=>.inl hx⟩
 |k::r,i,s,v,L,hd,hi,hk,hkn,hS,hL,hr,hB,hBv,gB,h1,h2,h3,h10,h11,h12,hf=>by
  have hl:=aH hd;have hlt:=bD hl;have hL':L.length+(k.nodes+Pr.nodesL r)<2^29:=hL;have w1:IntKind.i64.wrap ((i:Int)+1)=((i+1:Nat):Int):=aD (n:=i+1) om;apply aB (rfl:yq=.loop tH);simp-implicitDefEqProofs only[tH,V,↓reduceIte,rA,WF,h1,h2,h10,h11,h12,hlt,dJ p i k r hd];obtain⟨v1,h1',c1,r1,n1,o1,j1⟩:=hk k ik ((s.h.alloc (.cells [vI 0,vS ⟨#[]⟩,vI 0,.val (.slice none 0 0)] true)).put s.h.next (some (.cells k.cells true))) lo v L hS (hr.to (Nat.le_succ _) fun x _ x2=>by rw[aS om,aJ x2]) (by show lo≤s.h.next+1;omega) om
  have n1:s.h.next+1≤h1'.next:=n1;have o1:∀x,x<s.h.next→x∉ids v→h1'.get x=s.h.get x:=fun x hx hv=>by
   rw[o1 x (by show x<s.h.next+1;omega) hv,aS om,aJ hx]
  have j1:∀x∈ids v1,x∈ids v∨s.h.next+1≤x:=j1;refine aW (v:=v1) (h':=h1') ?_ ?_
  ·exact U65
  simp-implicitDefEqProofs only[V,↓reduceIte,rA,h12,w1];have hlen:=Lr op k L;refine(Ec op p (lo:=lo) (B:=B) hlB hN r (i+1) _ v1 (rin op k L) (aF hd) om (fun k' hk'=>hk k' (j4 _ hk')) (fun k' hk'=>hkn k' (j4 _ hk')) (vY op k L (hkn k ik) hS) om ?_ ?_ ?_ ?_ ?_ ?_ ?_ ?_ ?_ ?_ ?_).mono ?_
  ·exact U66
  ·exact U52
  ·intro hx;rcases j1 B hx with q|q
   ·exact hBv q
   ·omega
  ·exact U67
  ·exact U68
  ·exact U36
  ·exact U49
  ·exact U155
  ·exact U156
  ·exact U36
  ·exact U69
  rintro e s2 ⟨rfl,d2,e1,e3,v2,e2,r2,n2,o2,j2⟩;simp-implicitDefEqProofs only[V] at n2 o2 j2;refine⟨rfl,d2,e1,e3,v2,e2,r2,om,fun x x1 x2=>?_,fun x hx=>?_⟩
  ·exact U70
  ·exact U71
theorem Hs(op:Int)(p:Pr)(hN:p.nodes<2^29)(hk:∀k∈p.ks,RinOk op k)(L1:List Pr→List Pr)(hL1:∀L,L1 L=(bif decide (p.op=op)&& !hasR p (rinL op p.ks L) then rinL op p.ks L++[p] else rinL op p.ks L))(h:AH)(lo:Nat)(v:AV)(L:List Pr)(hS:Small L)(hr:RowC h lo L.length 4 v (Pr.cellsL L))(hlo:lo≤h.next)(hb:L.length+p.nodes<2^29):
  ∃v' h',RunCall E1 (.f 47) [p.av,vI op,v] h v' h'∧RowC h' lo (L1 L).length 4 v' (Pr.cellsL (L1 L))∧h.next≤h'.next∧(∀x,x<h.next→x∉ids v→h'.get x=h.get x)∧(∀x∈ids v',x∈ids v∨h.next≤x):=by
 have hnk:1+Pr.nodesL p.ks<2^29:=by rw[←p.nodes_eq];exact hN
 have hb':L.length+(1+Pr.nodesL p.ks)<2^29:=by rw[←p.nodes_eq];exact hb
 have hks:p.ks.length≤Pr.nodesL p.ks:=an _;refine kH (fun v' h'=>RowC h' lo (L1 L).length 4 v' (Pr.cellsL (L1 L))∧h.next≤h'.next∧(∀x,x<h.next→x∉ids v→h'.get x=h.get x)∧(∀x∈ids v',x∈ids v∨h.next≤x)) kr aJG fun s hs hh hd hrd=>?_
 have h0:=hs 0 _ rfl;have h1:=hs 1 _ rfl;have h2:=hs 2 _ rfl;simp-implicitDefEqProofs only[Wv,f47,V,↓reduceIte,rA,h0,hh];refine(Ec op p (lo:=lo) (B:=h.next) hlo om p.ks 0 _ v L rfl (ic _) hk (fun k hk'=>by have:=vr hk';omega) hS om ?_ ?_ ?_ ?_ ?_ ?_ ?_ ?_ ?_ ?_ ?_).mono ?_
 ·exact U72
 ·exact U73
 ·intro hx;have:=(hr.ids _ hx).2.1;omega
 ·exact U74
 ·exact U68
 ·exact U63
 ·exact U74
 ·exact U36
 ·exact U36
 ·exact U58
 ·exact U40
 rintro e s1 ⟨rfl,d1,e1,e3,v1,e2,r1,n1,o1,j1⟩;simp-implicitDefEqProofs only[V] at n1 o1 j1;have gB:s1.h.get h.next=some (.cells p.cells true):=by
  rw[o1 h.next om (fun hx=>by have:=(hr.ids _ hx).2.1;omega),if_pos rfl]
 have o1':∀x,x<h.next→x∉ids v→s1.h.get x=h.get x:=fun x hx hv=>by rw[o1 x om hv,if_neg om]
 have j1':∀x∈ids v1,x∈ids v∨h.next≤x:=fun x hx=>by
  rcases j1 x hx with q|q
  ·exact .inl q
  ·exact .inr om
 have hlen:=qT op p.ks L;cases ho:decide (p.op=op) with
 |false=>
  have e:L1 L=rinL op p.ks L:=by rw[hL1,ho];rfl
  rw[e];simp-implicitDefEqProofs only[V,↓reduceIte,rA,reduceCtorEq,WB,e1,e2,e3,gB,ho,d1];exact⟨_,rfl,r1,om,o1',j1'⟩
 |true=>
  obtain⟨h2',f1,f2,f3,f4⟩:=bm r1;have hcall:RunCall E1 (.f 74) [v1,p.av] s1.h (vB (hasR p (rinL op p.ks L))) s1.h:=ba (xs:=[]) (ys:=[p.av]) kr (fun v hv=>by cases hv) (aN (Tree.pr p)) gR.tree f1 f4 rfl (fun h0=>by
   rw[Pr.cellsL_eq,bU rfl];exact Cs ⟨rinL op p.ks L,nilK,none⟩ p (jF op p.ks L om hS) (by show(rinL op p.ks L).length<_;omega) h0)
  simp-implicitDefEqProofs only[V,↓reduceIte,rA,WB,e1,e2,e3,gB,ho];refine aW (v:=vB (hasR p (rinL op p.ks L))) (h':=s1.h) ?_ ?_
  ·exact U75
  cases hz:hasR p (rinL op p.ks L) with
  |true=>
   have e:L1 L=rinL op p.ks L:=by rw[hL1,ho,hz];rfl
   rw[e];simp-implicitDefEqProofs only[V,↓reduceIte,rA,reduceCtorEq,e2,d1];exact⟨_,rfl,r1,om,o1',j1'⟩
  |false=>
   have e:L1 L=rinL op p.ks L++[p]:=by rw[hL1,ho,hz];rfl
   rw[e];simp-implicitDefEqProofs only[V,↓reduceIte,rA,WF,e2,e3,gB,fa];refine p9 (k:=(rinL op p.ks L).length) (m:=1) (lo:=lo) (v:=v1) (x:=.own s1.h.next 0 1 4 (some 1)) (cs:=Pr.cellsL (rinL op p.ks L)) (new:=p.cells) ?_ ?_ ?_ de (by rw[p.len]) p.leaves (aX om de) ?_ ?_ ?_
   ·exact U76
   ·exact U52
   ·refine aq (rw':=true) ?_ (by rw[p.len])
    exact U36
   ·exact U77
   ·exact U36
   intro h2 r2 n2 o2;simp-implicitDefEqProofs only[V] at n2 o2 r2;simp-implicitDefEqProofs only[V,↓reduceIte,reduceCtorEq,d1];refine⟨_,rfl,?_,?_,?_,?_⟩
   ·show RowC h2 lo _ 4 _ _;rw[gD,io];exact r2
   ·show h.next≤h2.next;omega
   ·exact U78
   ·intro x hx;simp only[oneOrTup,ids,ig] at hx;exact .inr om
mutual
theorem kR(op:Int):∀(p:Pr),p.nodes<2^29→RinOk op p
 |.mk o s n ks nl cap,hb=>fun h lo v L hS hr hlo hL=>by
  have hb':1+Pr.nodesL ks<2^29:=hb;exact Hs op (.mk o s n ks nl cap) hb (iG op ks om) (rin op (.mk o s n ks nl cap)) (fun L=>by rw[rin];rfl) h lo v L hS hr hlo hL
theorem iG(op:Int):∀(l:List Pr),Pr.nodesL l<2^29→∀k∈l,RinOk op k
 | [],_,k,hk=>by cases hk
 |p::r,hb,k,hk=>by
  have hb':p.nodes+Pr.nodesL r<2^29:=hb;rcases ie.1 hk with e|hk
  ·have:=kR op p om;rw[e];exact this
  ·exact iG op r om k hk
end
def rhS(p:Pr):List Pr:=rin 5 p []
theorem qU(p:Pr)(hb:p.nodes<2^28)(h:AH):RunCall E1 (.f 20) [p.av] h ((⟨rhS p,nilK,none⟩:Vl Pr).A Pr.cells) h:=by
 refine bW kr aJX (aN (Tree.pr p)) (fun s hs hh hd hr=>?_) h;have h0:=hs 0 _ rfl;obtain⟨v1,h1,c1,r1,n1,o1,j1⟩:=kR 5 p om (AH.empty.alloc (.cells p.cells true)) 1 (.val (.slice none 0 0)) [] (fun q hq=>by cases hq) RowC.nil (ib 1) (by simp only[jf];omega)
 simp-implicitDefEqProofs only[Xk,f20,V,↓reduceIte,rA,h0,hh];refine aW (v:=v1) (h':=h1) ?_ ?_
 ·exact U65
 simp-implicitDefEqProofs only[V,↓reduceIte,reduceCtorEq,hd];refine⟨_,rfl,1,de,?_⟩;have:=r1.rep;rw[show(bif Nat.beq (rin 5 p []).length 0 then AV.val (.slice none 0 0) else .imm (Pr.cellsL (rin 5 p [])) (rin 5 p []).length none)=rowT (rin 5 p []).length (Pr.cellsL (rin 5 p [])) from rfl,Pr.cellsL_eq,bU rfl] at this;exact Rep.to (ic _) (ib _) (fun b _ _ cs rw g=>⟨rw,g⟩) (ib _) this
mutual
theorem Lq:∀(p:Pr) (L:List Pr),rin 5 p L=[]→L=[]∧p.plain=true
 |.mk o s n ks a b,L,h=>by
  simp only[rin] at h;cases hc:decide (o=5)&& !hasR (.mk o s n ks a b) (rinL 5 ks L) with
  |true=>
   rw[hc] at h;simp only[cond_true] at h;exact absurd h (by simp)
  |false=>
   rw[hc] at h;simp only[cond_false] at h;obtain⟨h1,h2⟩:=Cr ks L h;refine⟨h1,?_⟩;rw[h] at hc;simp only[hasR,jv,Bn] at hc;simp only[Pr.plain,hc,jv,jj,h2]
theorem Cr:∀(l L:List Pr),rinL 5 l L=[]→L=[]∧Pr.plainL l=true
 | [],L,h=>⟨h,rfl⟩
 |k::r,L,h=>by
  simp only[rinL] at h;obtain⟨h1,h2⟩:=Cr r _ h;obtain⟨h3,h4⟩:=Lq k L h1;exact⟨h3,by simp only[Pr.plainL,h4,h2,iu]⟩
end
mutual
theorem vZ:∀(p:Pr) (L:List Pr),p.plain=true→rin 5 p L=L
 |.mk o s n ks a b,L,h=>by
  simp only[Pr.plain,ii,Aq] at h;simp only[rin,h.1,jw,cond_false];exact qS ks L h.2
theorem qS:∀(l L:List Pr),Pr.plainL l=true→rinL 5 l L=L
 | [],L,h=>rfl
 |k::r,L,h=>by
  simp only[Pr.plainL,ii] at h;rw[rinL,vZ k L h.1];exact qS r L h.2
end
mutual
theorem Dy:∀(p:Pr) (L:List Pr),inn 5 p L=[]→L=[]∧p.plain=true
 |.mk o s n ks a b,L,h=>by
  simp only[inn] at h;cases hc:decide (o=5)&& !hasS (.mk o s n ks a b) (innL 5 ks L) with
  |true=>
   rw[hc] at h;simp only[cond_true] at h;exact absurd h (by simp)
  |false=>
   rw[hc] at h;simp only[cond_false] at h;obtain⟨h1,h2⟩:=vw ks L h;refine⟨h1,?_⟩;rw[h] at hc;simp only[hasS,jv,Bn] at hc;simp only[Pr.plain,hc,jv,jj,h2]
theorem vw:∀(l L:List Pr),innL 5 l L=[]→L=[]∧Pr.plainL l=true
 | [],L,h=>⟨h,rfl⟩
 |k::r,L,h=>by
  simp only[innL] at h;obtain⟨h1,h2⟩:=vw r _ h;obtain⟨h3,h4⟩:=Dy k L h1;exact⟨h3,by simp only[Pr.plainL,h4,h2,iu]⟩
end
mutual
theorem vv:∀(p:Pr) (L:List Pr),p.plain=true→inn 5 p L=L
 |.mk o s n ks a b,L,h=>by
  simp only[Pr.plain,ii,Aq] at h;simp only[inn,h.1,jw,cond_false];exact sX ks L h.2
theorem sX:∀(l L:List Pr),Pr.plainL l=true→innL 5 l L=L
 | [],L,h=>rfl
 |k::r,L,h=>by
  simp only[Pr.plainL,ii] at h;rw[innL,vv k L h.1];exact sX r L h.2
end
theorem Zw(p:Pr):decide ((((rhS p).length:Nat):Int)=0)=p.plain:=by
 cases h:p.plain with
 |true=>rw[rhS,vZ p [] h];rfl
 |false=>
  refine decide_eq_false fun e=>?_
  have e:(rhS p).length=0:=by omega
  have:=(Lq p [] (At.1 e)).2;rw[h] at this;cases this
theorem kj(p:Pr):decide ((0:Int)<(((holesS p).length:Nat):Int))= !p.plain:=by
 cases h:p.plain with
 |true=>rw[holesS,vv p [] h];rfl
 |false=>
  refine decide_eq_true ?_
  have:(holesS p).length≠0:=fun e=>by
   have:=(Dy p [] (At.1 e)).2;rw[h] at this;cases this
  show(0:Int)<(((holesS p).length:Nat):Int);omega
theorem km:∀l:List Pr,decide ((((l.flatMap holesS).length:Nat):Int)=0)=Pr.plainL l
 | []=>rfl
 |k::r=>by
  have h1:=kj k;have h2:=km r;rw[Pr.plainL,←h2,A8,io];rw[show k.plain= !!k.plain by cases k.plain<;>rfl,←h1,←decide_not,←Bool.decide_and,decide_eq_decide]
  omega
def aloneB(p:Pr):Bool:=bif decide (p.op=5) then Pr.plainL p.ks else p.plain
theorem Rc(p:Pr):okC p=aloneB p:=by
 unfold okC aloneB;rw[kj,km];obtain⟨o,s,n,ks,a,b⟩:=p;show(decide (o=5)&&Pr.plainL ks|| !!(!decide (o=5)&&Pr.plainL ks))=bif decide (o=5) then Pr.plainL ks else(!decide (o=5)&&Pr.plainL ks);cases decide (o=5)<;>cases Pr.plainL ks<;>rfl
theorem nU(p:Pr)(hb:p.nodes<2^28)(h:AH):RunCall E1 (.f 96) [p.av] h (vB p.plain) h:=by
 refine ai kr aHQ (aN (Tree.pr p)) rfl (Tree.val _) (fun s hs hh hd hr=>?_) h;have h0:=hs 0 _ rfl;have c1:=qU p hb;have vl:∀l:List Pr,lenV ((⟨l,nilK,none⟩:Vl Pr).A Pr.cells)=some (vI (l.length:Nat)):=fun l=>Vl.len;simp-implicitDefEqProofs only[Vt,f96,V,↓reduceIte,rA,reduceCtorEq,h0,hh,hd,aA c1,vl,Zw]
theorem Fd(p:Pr)(hn:∀k∈p.ks,k.nodes<2^28)(hN:p.ks.length<2^61):∀(r:List Pr) (i:Nat) (s:St),p.ks.drop i=r→i≤p.ks.length→0<s.h.next→s.h.get 0=some (.cells p.cells true)→
  s.eval (.t 1)=some (.ptr 0 0)→s.eval (.t 3)=some (vI (i:Nat))→s.defers=[]→
  Run E1 yh s fun e s'=>s'.defers=[]∧((Pr.plainL r=true∧e=.exit 0)∨(Pr.plainL r=false∧e=.ret∧s'.eval (.t 2)=some (vB false)))
 | [],i,s,hd,hi,hn',g0,h1,h3,hf=>by
  have hl:=aG hd hi;subst hl;apply aB (rfl:yh=.loop mV);simp-implicitDefEqProofs only[mV,V,↓reduceIte,rA,reduceCtorEq,h1,h3,hf,g0,bA,Pr.plainL]
 |k::r,i,s,hd,hi,hn',g0,h1,h3,hf=>by
  have hl:=aH hd;have hlt:=bD hl;have w1:IntKind.i64.wrap ((i:Int)+1)=((i+1:Nat):Int):=aD (n:=i+1) om;have c1:=nU k (hn k (jh (i:=i) (by rw[hd];exact ik)))
  apply aB (rfl:yh=.loop mV);cases hc:k.plain with
  |false=>
   rw[hc] at c1;simp-implicitDefEqProofs only[mV,V,↓reduceIte,rA,reduceCtorEq,h1,h3,hf,g0,hlt,dJ p i k r hd,aA c1,Pr.plainL,hc]
  |true=>
   rw[hc] at c1;simp-implicitDefEqProofs only[mV,V,↓reduceIte,rA,h1,h3,g0,hlt,dJ p i k r hd,aA c1,Pr.plainL,hc,w1];refine Fd p hn hN r (i+1) _ (aF hd) om ?_ ?_ ?_ ?_ ?_
   ·exact U52
   ·exact U80
   all_goals simp-implicitDefEqProofs only[V,↓reduceIte,rA,h1,hf]
theorem lf(p:Pr)(hb:p.nodes<2^28)(h:AH):RunCall E1 (.f 68) [p.av] h (vB (aloneB p)) h:=by
 have c1:=nU p hb;have hke:=p.nodes_eq;have hkl:=an p.ks;refine ai kr aIL (aN (Tree.pr p)) rfl (Tree.val _) (fun s hs hh hd hr=>?_) h;have h0:=hs 0 _ rfl;unfold aloneB;cases ho:decide (p.op=5) with
 |false=>simp-implicitDefEqProofs only[Jr,f68,V,↓reduceIte,rA,reduceCtorEq,h0,hh,hd,ho,aA c1]
 |true=>
  simp-implicitDefEqProofs only[Jr,f68,V,↓reduceIte,rA,h0,hh,ho];refine(Fd p (fun k hk=>by have:=cP hk;omega) om p.ks 0 _ rfl (ic _) ?_ ?_ ?_ ?_ ?_).mono ?_
  ·exact U129
  ·exact U36
  ·exact U36
  ·exact U58
  ·exact U40
  rintro e s1 ⟨d1,⟨q,rfl⟩|⟨q,rfl,q2⟩⟩
  ·exact U82
  ·exact U83
def clV(H:Hn)(c:Cl):Evr:=⟨c.vs,H.sy,H.hs⟩
def alL:List Pr→Bool
 | []=>true
 |c::r=>aloneB c&&alL r
noncomputable def hyR (Vx:Evr):List Pr→Int
 | []=>0
 |p::r=>bif decide (boolS Vx p=0) then(bif alL p.rspl then hyR Vx r else 6) else boolS Vx p
noncomputable def hdR (Vx:Evr) (p:Pr):Int:=bif decide (boolS Vx p=0) then(bif aloneB p then 0 else 6) else boolS Vx p
noncomputable def clauseR (H:Hn) (c:Cl):Int:=bif decide (envC c=0) then(bif decide (hyR (clV H c) c.hy.l=0) then hdR (clV H c) c.hd else hyR (clV H c) c.hy.l) else envC c
theorem Ct(H:Hn)(c:Cl)(h:AH):RunCall E1 (.f 65) [.agg H.cells,.agg c.cells] h (.agg (clV H c).cells) h:=by
 refine bW kr aIN (bT (Tree.hn H) (Tree.cl c)) (fun s hs hh hd hr=>?_) h;have h0:=hs 0 _ rfl;have h1:=hs 1 _ rfl;simp-implicitDefEqProofs only[Wn,f65,V,↓reduceIte,rA,rB,reduceCtorEq,WF,h0,h1,hh,hd,vR];refine⟨_,rfl,1,de,?_⟩;exact dC (Evr.leaves (clV H c))
mutual
theorem qQ:∀(p:Pr),∀c∈p.rspl,c.nodes≤p.nodes
 |.mk o s n ks a b,c,hc=>by
  simp only[Pr.rspl] at hc;cases h:decide (o=15)&&decide (ks.length=2) with
  |true=>
   rw[h] at hc;have:=nK ks c hc;simp only[Pr.nodes];omega
  |false=>
   rw[h] at hc;simp only[cond_false] at hc;cases hv:(Pr.mk o s n ks a b).void with
   |true=>rw[hv] at hc;cases hc
   |false=>
    rw[hv] at hc;rw[ig.1 hc];exact ib _
theorem nK:∀(l:List Pr),∀c∈Pr.rsplL l,c.nodes≤Pr.nodesL l
 | [],c,hc=>by cases hc
 |k::r,c,hc=>by
  simp only[Pr.rsplL,jb] at hc;simp only[Pr.nodesL];rcases hc with hc|hc
  ·have:=qQ k c hc;omega
  ·have:=nK r c hc;omega
end
theorem Kk{s:St}{Vx:Evr}{p:Pr}{c:Cl}{i A B:Nat}{r:List Pr}(hd:c.hy.l.drop i=p::r)(hc:∀h,RunCall E1 (.f 66) [.agg Vx.cells,p.av] h (vI (boolS Vx p)) h)
  (hA:A<s.h.next) (hB:B<s.h.next) (gA:s.h.get A=some (.cells Vx.cells true)) (gB:s.h.get B=some (.cells c.cells true)) (h6:s.eval (.t 6)=some (.ptr A 0)) (h3:s.eval (.t 3)=some (.ptr B 0)) (h7:s.eval (.t 7)=some (vI (i:Nat))):
  Run E1 Xc s fun e s'=>e=.normal∧s'.eval (.t 5)=some (vI (boolS Vx p))∧s'.h=s.h∧s'.defers=s.defers∧s'.eval (.t 3)=s.eval (.t 3)∧s'.eval (.t 6)=s.eval (.t 6)∧s'.eval (.t 7)=s.eval (.t 7):=by
 have vi:∀b,ids (AV.val b)=[]:=fun _=>rfl;have ei:ids (AV.agg Vx.cells)=[]:=Vx.ids0;have nA:∀o,niceT s.h (some (.ptr A o))=true:=fun o=>bj hA gA (by rw[Vx.ids0];rfl)
 have nB:∀o,niceT s.h (some (.ptr B o))=true:=fun o=>bj hB gB (by rw[c.ids0];rfl)
 have oA:∀o,onlyT [A,B] (some (.ptr A o))=true:=fun o=>bu (by simp[memN])
 have oB:∀o,onlyT [A,B] (some (.ptr B o))=true:=fun o=>bu (by simp[memN])
 refine am ?_
 refine bG (R:=[A,B]) rfl (fun x hx=>by cases hx) (fun r hr'=>by
  simp only[ie,j7,or_false] at hr';omega) ?_
 simp-implicitDefEqProofs only[Xb,wpDm,aw,iv,is,footed,V,↓reduceIte,rA,h6,h3,h7,gA,gB,nA,nB,oA,oB,aO Vl.ids,aO ei,ab ei,aO p.idsA,ab p.idsA,c.hy.at Pr.len hd,bF,aV,show∀l,onlyT [A,B] (some (AV.iptr l))=true from fun _=>rfl,az (vi _)];refine⟨_,hc,?_⟩;exact U168
theorem wN(w:Vl Pr)(hN:w.l.length<2^61)(hn:∀k∈w.l,k.nodes<2^28):∀(r:List Pr) (i:Nat) (s:St),w.l.drop i=r→i≤w.l.length→
  s.eval (.t 8)=some (w.A Pr.cells)→s.eval (.t 9)=some (vI (i:Nat))→s.defers=[]→
  Run E1 y7 s fun e s'=>s'.defers=[]∧s'.h=s.h∧((alL r=true∧e=.exit 2∧s'.eval (.t 3)=s.eval (.t 3)∧s'.eval (.t 6)=s.eval (.t 6)∧s'.eval (.t 7)=s.eval (.t 7))∨(alL r=false∧e=.ret∧s'.eval (.t 4)=some (vI 6)))
 | [],i,s,hd,hi,h8,h9,hf=>by
  have hl:=aG hd hi;subst hl;apply aB (rfl:y7=.loop mf);simp-implicitDefEqProofs only[mf,V,↓reduceIte,rA,reduceCtorEq,h8,h9,hf,bA,alL]
 |k::r,i,s,hd,hi,h8,h9,hf=>by
  have hl:=aH hd;have hlt:=bD hl;have w1:IntKind.i64.wrap ((i:Int)+1)=((i+1:Nat):Int):=aD (n:=i+1) om;have c1:=lf k (hn k (jh (i:=i) (by rw[hd];exact ik)))
  apply aB (rfl:y7=.loop mf);cases hc:aloneB k with
  |false=>
   rw[hc] at c1;simp-implicitDefEqProofs only[mf,V,↓reduceIte,rA,reduceCtorEq,h8,h9,hf,hlt,w.at Pr.len hd,aA c1,alL,hc]
  |true=>
   rw[hc] at c1;simp-implicitDefEqProofs only[mf,V,↓reduceIte,rA,h8,h9,hlt,w.at Pr.len hd,aA c1,alL,hc,w1];refine(wN w hN hn r (i+1) _ (aF hd) om ?_ ?_ ?_).mono ?_
   ·exact U124
   ·exact U36
   ·exact U69
   rintro e s1 ⟨d1,q1,H⟩;simp-implicitDefEqProofs only[V,↓reduceIte,rA] at q1 H;exact⟨d1,q1,H⟩
theorem wM(Vx:Evr)(hV:EvB Vx)(c:Cl)(hN:c.hy.l.length<2^61)(hn:∀p∈c.hy.l,p.nodes<2^28):∀(r:List Pr) (i:Nat) (s:St),c.hy.l.drop i=r→i≤c.hy.l.length→2<s.h.next→s.h.get 1=some (.cells c.cells true)→s.h.get 2=some (.cells Vx.cells true)→
  s.eval (.t 6)=some (.ptr 2 0)→s.eval (.t 3)=some (.ptr 1 0)→s.eval (.t 7)=some (vI (i:Nat))→s.defers=[]→
  Run E1 y6 s fun e s'=>s'.defers=[]∧s'.h=s.h∧((hyR Vx r=0∧e=.exit 0∧s'.eval (.t 6)=some (.ptr 2 0)∧s'.eval (.t 3)=some (.ptr 1 0))∨(hyR Vx r≠0∧e=.ret∧s'.eval (.t 4)=some (vI (hyR Vx r))))
 | [],i,s,hd,hi,hn',g1,g2,h6,h3,h7,hf=>by
  have hl:=aG hd hi;subst hl;apply aB (rfl:y6=.loop tN);simp-implicitDefEqProofs only[tN,V,↓reduceIte,rA,reduceCtorEq,g1,h6,h3,h7,hf,bA,hyR]
 |k::r,i,s,hd,hi,hn',g1,g2,h6,h3,h7,hf=>by
  have hl:=aH hd;have hlt:=bD hl;have w1:IntKind.i64.wrap ((i:Int)+1)=((i+1:Nat):Int):=aD (n:=i+1) om;have hkn:=hn k (jh (i:=i) (by rw[hd];exact ik))
  have cb:=kS Vx hV k om;obtain⟨w,hw,cs⟩:=eP k hkn;have hwl:=qR k;apply aB (rfl:y6=.loop tN);simp-implicitDefEqProofs only[tN,V,↓reduceIte,rA,g1,h3,h7,hlt];refine Run.mono (Kk (Vx:=Vx) (A:=2) (B:=1) hd cb ?_ ?_ ?_ ?_ ?_ ?_ ?_) ?_
  ·simp-implicitDefEqProofs only[V];exact hn'
  ·exact U52
  ·exact U61
  ·exact U109
  ·exact U79
  ·exact U49
  ·exact U130
  rintro e s1 ⟨rfl,e5,e1,d1,e3,e6,e7⟩;simp-implicitDefEqProofs only[V,↓reduceIte,rA,h3,h6,h7,hf] at e1 d1 e3 e6 e7;cases hc:decide (boolS Vx k=0) with
  |false=>
   have e:hyR Vx (k::r)=boolS Vx k:=by simp only[hyR,hc,cond_false]
   rw[e];simp-implicitDefEqProofs only[V,↓reduceIte,rA,reduceCtorEq,e1,d1,e5,hc];exact .inr (of_decide_eq_false hc)
  |true=>
   simp-implicitDefEqProofs only[V,↓reduceIte,rA,e1,e3,e5,e7,hc,g1,c.hy.at Pr.len hd,aA cs];refine(wN w (by rw[hw];omega) (fun q hq=>by rw[hw] at hq;have:=qQ k q hq;omega) w.l 0 _ rfl (ic _) ?_ ?_ ?_).mono ?_
   ·exact U36
   ·exact U58
   ·exact U81
   rintro e s2 ⟨d2,q2,⟨z,rfl,t3,t6,t7⟩|⟨z,rfl,t4⟩⟩
   ·simp-implicitDefEqProofs only[V,↓reduceIte,rA,e3,e6,e7] at q2 t3 t6 t7;rw[hw] at z;have e:hyR Vx (k::r)=hyR Vx r:=by simp only[hyR,hc,cond_true,z]
    rw[e];simp-implicitDefEqProofs only[V,↓reduceIte,WF,t7,w1];refine(wM Vx hV c hN hn r (i+1) _ (aF hd) om ?_ ?_ ?_ ?_ ?_ ?_ ?_).mono ?_
    ·simp-implicitDefEqProofs only[V,q2,e1];exact hn'
    ·simp-implicitDefEqProofs only[V,q2,e1,g1]
    ·simp-implicitDefEqProofs only[V,q2,e1,g2]
    ·simp-implicitDefEqProofs only[V,↓reduceIte,rA,t6]
    ·simp-implicitDefEqProofs only[V,↓reduceIte,rA,t3]
    ·exact U36
    ·exact U132
    rintro e s3 ⟨d3,q3,H⟩;simp-implicitDefEqProofs only[V,q2,e1] at q3;exact⟨d3,q3,H⟩
   ·simp-implicitDefEqProofs only[V,e1] at q2;rw[hw] at z;have e:hyR Vx (k::r)=6:=by simp only[hyR,hc,cond_true,z,cond_false]
    rw[e];simp-implicitDefEqProofs only[V,reduceCtorEq,rD,d2,q2,t4];exact .inr de
theorem qY(H:Hn)(hH:HnB H)(c:Cl)(hc:c∈H.cs.l)(h:AH):RunCall E1 (.f 36) [.agg H.cells,.agg c.cells] h (vI (clauseR H c)) h:=by
 have hcv:=hH.cv c hc;have hcw:=hH.cw c hc;have hhs:=hH.hs;have hsy:=hH.sy;have hl1:=dU c.hy.l;have hl2:=cQ c.hy.l;have hl3:=kX c.hd;have hy:=nM ⟨c.vs,⟨[],nilK,none⟩,⟨[],nilK,none⟩⟩ (by show c.vs.l.length<_;omega) (by show 0<_;decide) (fun x hx=>by cases hx) (by show 0<_;decide) (fun x hx=>by cases hx)
 have hy:∀h,RunCall E1 (.f 35) [.agg [c.vs.A Vr.cells,.val (.slice none 0 0),.val (.slice none 0 0)]] h (vI (envC c)) h:=hy;have cV:=Ct H c;have hV:EvB (clV H c):=⟨by show c.vs.l.length<_;omega,by show H.sy.l.length<_;omega,fun x hx=>by have:=hH.sa x hx;omega,by show H.hs.l.length<_;omega,fun x hx=>by have:=hH.hp x hx;omega⟩
 have hn:∀p∈c.hy.l,p.nodes<2^28:=fun p hp=>by have:=cP hp;omega
 have cb:=kS (clV H c) hV c.hd om;have ca:=lf c.hd om;refine ai kr aJM (bT (Tree.hn H) (Tree.cl c)) rfl (Tree.val _) (fun s hs hh hd hr=>?_) h;have h0:=hs 0 _ rfl;have h1:=hs 1 _ rfl;unfold clauseR;cases q1:decide (envC c=0) with
 |false=>simp-implicitDefEqProofs only[Kj,f36,V,↓reduceIte,rA,reduceCtorEq,WF,h0,h1,hh,hd,aA hy,q1]
 |true=>
  have ev:∀(h:AH) (b:Nat) (a0 a1 a2:AV),stK h b 3 0 (clV H c).cells (some (.cells [a0,a1,a2] true))=some (h.put b (some (.cells (clV H c).cells true))):=fun h b a0 a1 a2=>dA rfl rfl;simp-implicitDefEqProofs only[Kj,f36,V,↓reduceIte,rA,rB,reduceCtorEq,WF,h0,h1,hh,aA hy,q1,aA cV,ev];refine(wM (clV H c) hV c om hn c.hy.l 0 _ rfl (ic _) ?_ ?_ ?_ ?_ ?_ ?_ ?_).mono ?_
  ·exact U57
  ·exact U36
  ·exact U36
  ·exact U36
  ·exact U36
  ·exact U58
  ·exact U40
  rintro e s1 ⟨d1,o1,⟨q2,rfl,e6,e3⟩|⟨q2,rfl,e4⟩⟩
  ·simp-implicitDefEqProofs only[V] at o1;have g2:s1.h.get 2=some (.cells (clV H c).cells true):=by
    rw[o1];exact U36
   have g1:s1.h.get 1=some (.cells c.cells true):=by
    rw[o1];exact U36
   rw[decide_eq_true q2];unfold hdR;cases q3:decide (boolS (clV H c) c.hd=0) with
   |false=>simp-implicitDefEqProofs only[V,↓reduceIte,rA,reduceCtorEq,WF,e6,e3,g1,g2,aA cb,q3,d1]
   |true=>
    cases q4:aloneB c.hd with
    |false=>
     rw[q4] at ca;simp-implicitDefEqProofs only[V,↓reduceIte,rA,reduceCtorEq,WF,e6,e3,g1,g2,aA cb,q3,aA ca,d1]
    |true=>
     rw[q4] at ca;simp-implicitDefEqProofs only[V,↓reduceIte,rA,reduceCtorEq,WF,e6,e3,g1,g2,aA cb,q3,aA ca,d1];rw[of_decide_eq_true q3]
  ·exact U113
noncomputable def chkR (H:Hn):List Cl→Int→Int×Int
 | [],_=>(-1,0)
 |c::r,i=>bif decide (clauseR H c=0) then chkR H r (i+1) else(i,clauseR H c)
def envH(H:Hn):Int:=envE ⟨⟨[],nilK,none⟩,H.sy,H.hs⟩
noncomputable def checkR (H:Hn):Int×Int:=
 bif decide ((400:Int)<(H.cs.l.length:Nat)) then(-1,7) else bif decide ((40:Int)<(H.hs.l.length:Nat)) then(-1,7) else bif decide (envH H=0) then chkR H H.cs.l 0 else(-1,envH H)
theorem Rq{s:St}{H:Hn}{c:Cl}{i:Nat}{r:List Cl}(hd:H.cs.l.drop i=c::r)(hc:∀h,RunCall E1 (.f 36) [.agg H.cells,.agg c.cells] h (vI (clauseR H c)) h)
  (hA:0<s.h.next) (gA:s.h.get 0=some (.cells H.cells true)) (h1:s.eval (.t 1)=some (.ptr 0 0)) (h5:s.eval (.t 5)=some (vI (i:Nat))):
  Run E1 aFB s fun e s'=>e=.normal∧s'.eval (.t 4)=some (vI (clauseR H c))∧s'.h=s.h∧s'.defers=s.defers∧s'.eval (.t 1)=s.eval (.t 1)∧s'.eval (.t 5)=s.eval (.t 5):=by
 have vi:∀b,ids (AV.val b)=[]:=fun _=>rfl;have ei:ids (AV.agg H.cells)=[]:=H.ids0;have ci:ids (AV.agg c.cells)=[]:=c.ids0;have nA:∀o,niceT s.h (some (.ptr 0 o))=true:=fun o=>bj hA gA (by rw[H.ids0];rfl)
 have oA:∀o,onlyT [0] (some (.ptr 0 o))=true:=fun o=>bu (by simp[memN])
 refine am ?_
 refine bG (R:=[0]) rfl (fun x hx=>by cases hx) (fun r hr'=>by
  simp only[ie,j7,or_false] at hr';omega) ?_
 simp-implicitDefEqProofs only[aFA,wpDm,aw,iv,is,footed,V,↓reduceIte,rA,h1,h5,gA,nA,oA,aO Vl.ids,aO ei,ab ei,aO ci,ab ci,H.cs.at Cl.len hd,bF,aV,show∀l,onlyT [0] (some (AV.iptr l))=true from fun _=>rfl,az (vi _)];refine⟨_,hc,?_⟩;exact U168
theorem Mp(H:Hn)(hH:HnB H):∀(r:List Cl) (i:Nat) (s:St),H.cs.l.drop i=r→i≤H.cs.l.length→0<s.h.next→s.h.get 0=some (.cells H.cells true)→
  s.eval (.t 1)=some (.ptr 0 0)→s.eval (.t 5)=some (vI (i:Nat))→s.defers=[]→
  Run E1 Mr s fun e s'=>s'.defers=[]∧((e=.exit 0∧chkR H r i=(-1,0))∨(e=.ret∧s'.eval (.t 2)=some (vI ((chkR H r i).1))∧s'.eval (.t 3)=some (vI ((chkR H r i).2))))
 | [],i,s,hd,hi,hn,g0,h1,h5,hf=>by
  have hl:=aG hd hi;subst hl;apply aB (rfl:Mr=.loop Ep);simp-implicitDefEqProofs only[Ep,V,↓reduceIte,rA,reduceCtorEq,g0,h1,h5,hf,bA,chkR]
 |k::r,i,s,hd,hi,hn,g0,h1,h5,hf=>by
  have hl:=aH hd;have hlt:=bD hl;have hcs:=hH.cs;have w1:IntKind.i64.wrap ((i:Int)+1)=((i+1:Nat):Int):=aD (n:=i+1) om;have hm:k∈H.cs.l:=jh (i:=i) (by rw[hd];exact ik)
  have hc:=qY H hH k hm;apply aB (rfl:Mr=.loop Ep);simp-implicitDefEqProofs only[Ep,V,↓reduceIte,rA,g0,h1,h5,hlt];refine Run.mono (Rq hd hc ?_ ?_ ?_ ?_) ?_
  ·exact U128
  ·exact U80
  ·exact U68
  ·exact U114
  rintro e s1 ⟨rfl,e4,e0,d1,e1,e5⟩;simp-implicitDefEqProofs only[V,↓reduceIte,rA,h1,h5,hf] at e0 d1 e1 e5;cases q:decide (clauseR H k=0) with
  |false=>
   have e:chkR H (k::r) i=((i:Int),clauseR H k):=by simp only[chkR,q,cond_false]
   rw[e];simp-implicitDefEqProofs only[V,↓reduceIte,rA,reduceCtorEq,e4,e5,d1,q]
  |true=>
   have e:chkR H (k::r) i=chkR H r ((i+1:Nat):Int):=by
    simp only[chkR,q,cond_true];rfl
   rw[e];simp-implicitDefEqProofs only[V,↓reduceIte,rA,e4,e5,q,w1];refine Mp H hH r (i+1) _ (aF hd) om ?_ ?_ ?_ ?_ ?_
   ·exact U133
   ·exact U134
   ·exact U110
   ·exact U36
   ·exact U81
theorem xa(H:Hn)(hH:HnB H)(h:AH):RunCall E1 (.f 8) [.agg H.cells] h (.tup [vI ((checkR H).1),vI ((checkR H).2)]) h:=by
 have hcs:=hH.cs;have hhs:=hH.hs;have hsy:=hH.sy;have hy:=nM ⟨⟨[],nilK,none⟩,H.sy,H.hs⟩ (by show 0<_;decide) (by show H.sy.l.length<_;omega) (fun x hx=>by have:=hH.sa x hx;omega) (by show H.hs.l.length<_;omega) (fun x hx=>by have:=hH.hp x hx;omega)
 have hy:∀h,RunCall E1 (.f 35) [.agg [.val (.slice none 0 0),H.sy.A Sm.cells,H.hs.A Ho.cells]] h (vI (envH H)) h:=hy;refine aC kr kr (aN (Tree.hn H)) rfl (Tree.two _ _) (cg (rs:=[vI ((checkR H).1),vI ((checkR H).2)]) aNF fun s hs hh hd=>?_) h;have h0:=hs 0 _ rfl;unfold checkR;cases c1:decide ((400:Int)<(H.cs.l.length:Nat)) with
 |true=>simp-implicitDefEqProofs only[Eo,f8,V,↓reduceIte,rA,reduceCtorEq,h0,hh,hd,c1]
 |false=>cases c2:decide ((40:Int)<(H.hs.l.length:Nat)) with
  |true=>simp-implicitDefEqProofs only[Eo,f8,V,↓reduceIte,rA,reduceCtorEq,h0,hh,hd,c1,c2]
  |false=>cases c3:decide (envH H=0) with
   |false=>simp-implicitDefEqProofs only[Eo,f8,V,↓reduceIte,rA,reduceCtorEq,WF,h0,hh,hd,c1,c2,aA hy,c3]
   |true=>
    simp-implicitDefEqProofs only[Eo,f8,V,↓reduceIte,rA,WF,h0,hh,c1,c2,aA hy,c3];refine(Mp H hH H.cs.l 0 _ rfl (ic _) ?_ ?_ ?_ ?_ ?_).mono ?_
    ·exact U135
    ·exact U36
    ·exact U36
    ·exact U58
    ·exact U40
    rintro e s1 ⟨d1,⟨rfl,z⟩|⟨rfl,z1,z2⟩⟩
    ·exact U136
    ·exact U137
structure SameE (Vx W:Evr):Prop where
 vs:Vx.vs.l=W.vs.l
 sy:Vx.sy.l=W.sy.l
 hs:Vx.hs.l=W.hs.l
theorem Hd{Vx W:Evr}(h:SameE Vx W)(op:Int)(nm:ByteArray)(ks:List ByteArray):sortN Vx op nm ks=sortN W op nm ks:=by
 unfold sortN;rw[h.vs,h.sy,h.hs]
mutual
theorem Cd{Vx W:Evr}(h:SameE Vx W):∀p:Pr,p.sor Vx=p.sor W
 |.mk o s n ks a b=>by simp only[Pr.sor,vU h ks,Hd h]
theorem vU{Vx W:Evr}(h:SameE Vx W):∀l:List Pr,Pr.sorL Vx l=Pr.sorL W l
 | []=>rfl
 |k::r=>by simp only[Pr.sorL,Cd h k,vU h r]
end
theorem uA{Vx W:Evr}(h:SameE Vx W)(p:Pr):boolS Vx p=boolS W p:=by
 have e:ofS Vx p=ofS W p:=by
  unfold ofS;rw[Cd h]
 unfold boolS;rw[e]
mutual
theorem aER:∀p:Pr,p.cp.plain=p.plain
 |.mk o s n ks a b=>by simp only[Pr.cp,Pr.plain,Hv ks]
theorem Hv:∀l:List Pr,Pr.plainL (Pr.cpL l)=Pr.plainL l
 | []=>rfl
 |k::r=>by simp only[Pr.cpL,Pr.plainL,aER k,Hv r]
end
theorem Yu(p:Pr):aloneB p.cp=aloneB p:=by
 obtain⟨o,s,n,ks,a,b⟩:=p;show(bif decide (o=5) then Pr.plainL (Pr.cpL ks) else(Pr.mk o s n ks a b).cp.plain)=_;rw[Hv,aER];rfl
theorem zm:∀a b:List Pr,alL (a++b)=(alL a&&alL b)
 | [],b=>rfl
 |k::r,b=>by rw[j6,alL,alL,zm r b,Bool.and_assoc]
theorem yL:∀l:List Pr,fitL l=alL l
 | []=>rfl
 |k::r=>by rw[fitL,alL,Rc,yL r]
mutual
theorem Yv:∀p:Pr,alL p.spl=alL p.rspl
 |.mk o s n ks a b=>by
  simp only[Pr.spl,Pr.rspl];cases decide (o=15)&&decide (ks.length=2) with
  |true=>exact Pm ks
  |false=>
   simp only[cond_false];cases (Pr.mk o s n ks a b).void with
   |true=>rfl
   |false=>
    show alL [(Pr.mk o s n ks a b).cp]=alL [.mk o s n ks a b];simp only[alL,Yu]
theorem Pm:∀l:List Pr,alL (Pr.splL l)=alL (Pr.rsplL l)
 | []=>rfl
 |k::r=>by rw[Pr.splL,Pr.rsplL,zm,zm,Yv k,Pm r]
end
theorem aEU{Vx W:Evr}(h:SameE Vx W):∀l:List Pr,hyE Vx l=hyR W l
 | []=>rfl
 |p::r=>by
  rw[hyE,hyR,fitsE,uA h,yL,Yv,aEU h r];cases q:decide (boolS W p=0) with
  |false=>simp only[cond_false,q]
  |true=>
   simp only[cond_true];cases alL p.rspl<;>rfl
theorem aNC{Vx W:Evr}(h:SameE Vx W)(p:Pr):fitsE Vx p [p]=hdR W p:=by
 rw[fitsE,hdR,uA h,yL,alL,alL,Bn]
theorem vL(H:Hn)(hH:HnB H)(c:Cl)(hc:c∈H.cs.l)(h:AH):RunCall E1 (.f 34) [.agg H.cells,.agg c.cells] h (vI (clauseR H c)) h:=by
 obtain⟨Vx,v1,v2,v3,hr⟩:=Sj H hH c hc;have hs:SameE Vx (clV H c):=⟨v1,v2,v3⟩;rw[aEU hs,aNC hs] at hr;exact hr h
theorem Eu(H:Hn)(hH:HnB H):∀(r:List Cl) (i:Nat) (s:St),H.cs.l.drop i=r→i≤H.cs.l.length→0<s.h.next→s.h.get 0=some (.cells H.cells true)→
  s.eval (.t 1)=some (.ptr 0 0)→s.eval (.t 28)=some (H.cs.A Cl.cells)→s.eval (.t 29)=some (vI (H.cs.l.length:Nat))→s.eval (.t 30)=some (vI (i:Nat))→s.defers=[]→
  Run E1 Ms s fun e s'=>s'.defers=[]∧((e=.exit 0∧chkR H r i=(-1,0))∨(e=.ret∧s'.eval (.t 2)=some (vI ((chkR H r i).1))∧s'.eval (.t 3)=some (vI ((chkR H r i).2))))
 | [],i,s,hd,hi,hn,g0,h1,h28,h29,h30,hf=>by
  have hl:=aG hd hi;subst hl;apply aB (rfl:Ms=.loop wF);simp-implicitDefEqProofs only[wF,V,↓reduceIte,rA,reduceCtorEq,h29,h30,hf,bA,chkR]
 |k::r,i,s,hd,hi,hn,g0,h1,h28,h29,h30,hf=>by
  have hl:=aH hd;have hlt:=bD hl;have hcs:=hH.cs;have w1:IntKind.i64.wrap ((i:Int)+1)=((i+1:Nat):Int):=aD (n:=i+1) om;have hm:k∈H.cs.l:=jh (i:=i) (by rw[hd];exact ik)
  have n0:(0=s.h.next)=False:=eq_false om;have hc:=vL H hH k hm;apply aB (rfl:Ms=.loop wF);cases q:decide (clauseR H k=0) with
  |false=>
   have e:chkR H (k::r) i=((i:Int),clauseR H k):=by simp only[chkR,q,cond_false]
   rw[e];simp-implicitDefEqProofs only[wF,V,↓reduceIte,rA,reduceCtorEq,WF,g0,n0,h1,h28,h29,h30,hf,hlt,H.cs.at Cl.len hd,dp,aA hc,q]
  |true=>
   have e:chkR H (k::r) i=chkR H r ((i+1:Nat):Int):=by
    simp only[chkR,q,cond_true];rfl
   rw[e];simp-implicitDefEqProofs only[wF,V,↓reduceIte,rA,WF,g0,n0,h1,h28,h29,h30,hlt,H.cs.at Cl.len hd,dp,aA hc,q,w1];refine Eu H hH r (i+1) _ (aF hd) om ?_ ?_ ?_ ?_ ?_ ?_ ?_
   ·exact U52
   ·exact U62
   ·exact U68
   ·simp-implicitDefEqProofs only[V,↓reduceIte,rA,h28]
   ·simp-implicitDefEqProofs only[V,↓reduceIte,rA,h29]
   ·exact U36
   ·exact U69
theorem zY(H:Hn)(hH:HnB H)(h:AH):RunCall E1 (.f 7) [.agg H.cells] h (.tup [vI ((checkR H).1),vI ((checkR H).2)]) h:=by
 have hcs:=hH.cs;have hhs:=hH.hs;have hsy:=hH.sy;have hy:=tn ⟨⟨[],nilK,none⟩,H.sy,H.hs⟩ (by show 0<_;decide) (by show H.sy.l.length<_;omega) (fun x hx=>by have:=hH.sa x hx;omega) (by show H.hs.l.length<_;omega) (fun x hx=>by have:=hH.hp x hx;omega)
 have hy:∀h,RunCall E1 (.f 33) [.agg [.val (.slice none 0 0),H.sy.A Sm.cells,H.hs.A Ho.cells]] h (vI (envH H)) h:=hy;refine aC kr kr (aN (Tree.hn H)) rfl (Tree.two _ _) (cg (rs:=[vI ((checkR H).1),vI ((checkR H).2)]) aNG fun s hs hh hd=>?_) h;have h0:=hs 0 _ rfl;unfold checkR;cases c1:decide ((400:Int)<(H.cs.l.length:Nat)) with
 |true=>simp-implicitDefEqProofs only[Ew,f7,V,↓reduceIte,rA,reduceCtorEq,h0,hh,hd,c1]
 |false=>cases c2:decide ((40:Int)<(H.hs.l.length:Nat)) with
  |true=>simp-implicitDefEqProofs only[Ew,f7,V,↓reduceIte,rA,reduceCtorEq,h0,hh,hd,c1,c2]
  |false=>cases c3:decide (envH H=0) with
   |false=>simp-implicitDefEqProofs only[Ew,f7,V,↓reduceIte,rA,reduceCtorEq,WF,h0,hh,hd,c1,c2,aA hy,c3]
   |true=>
    simp-implicitDefEqProofs only[Ew,f7,V,↓reduceIte,rA,WF,h0,hh,c1,c2,aA hy,c3];refine(Eu H hH H.cs.l 0 _ rfl (ic _) ?_ ?_ ?_ ?_ ?_ ?_ ?_).mono ?_
    ·exact U135
    ·exact U36
    ·exact U36
    ·exact U36
    ·exact U36
    ·exact U58
    ·exact U40
    rintro e s1 ⟨d1,⟨rfl,z⟩|⟨rfl,z1,z2⟩⟩
    ·exact U136
    ·exact U137
def nmH:List Pr→List ByteArray
 | []=>[]
 |k::r=>bif decide (k.op=5) then k.nm::nmH r else nmH r
theorem kY:∀a b:List Pr,nmH (a++b)=nmH a++nmH b
 | [],b=>rfl
 |k::r,b=>by
  rw[j6,nmH,nmH,kY r b];cases decide (k.op=5)<;>rfl
theorem pC:∀l:List Pr,(nmH l).length≤l.length
 | []=>ib _
 |k::r=>by
  have:=pC r;rw[nmH,il];cases decide (k.op=5)
  ·simp only[cond_false];omega
  ·simp only[cond_true,il];omega
theorem aAX(p:Pr):nmH [p.cp]=nmH [p]:=by cases p;rfl
mutual
theorem aAW:∀p:Pr,nmH p.spl=nmH p.rspl
 |.mk o s n ks a b=>by
  simp only[Pr.spl,Pr.rspl];cases decide (o=15)&&decide (ks.length=2) with
  |true=>exact rM ks
  |false=>
   simp only[cond_false];cases (Pr.mk o s n ks a b).void with
   |true=>rfl
   |false=>exact aAX (.mk o s n ks a b)
theorem rM:∀l:List Pr,nmH (Pr.splL l)=nmH (Pr.rsplL l)
 | []=>rfl
 |k::r=>by rw[Pr.splL,Pr.rsplL,kY,kY,aAW k,rM r]
end
theorem Zv{h:AH}{lo:Nat}{v:AV}{L:List Pr}(r:RowX h lo L.length 4 v (Pr.cellsL L)){i:Nat}{k:Pr}{q:List Pr}(hd:L.drop i=k::q):∃b cap,v=.own b 0 L.length 4 cap∧lo≤b∧b<h.next∧h.get b=some (.cells (Pr.cellsL L) true)∧idxAddrSV 4 v i=some (.ptr b (0+i*4))∧cfB (some (.cells (Pr.cellsL L) true)) (i*4)=some (k.cells++Pr.cellsL q):=by
 have hl:=aH hd;have cf:cfB (some (.cells (Pr.cellsL L) true)) (i*4)=some (k.cells++Pr.cellsL q):=by
  have h1:Nat.ble (i*4) (Pr.cellsL L).length=true:=Nat.ble_eq.mpr (by rw[cG];omega)
  simp only[cfB,h1,cond_true];rw[gF,hd,Pr.cellsL]
 have ix:∀b cap,idxAddrSV 4 (.own b 0 L.length 4 cap) i=some (.ptr b (0+i*4)):=fun b cap=>by
  have h1:Nat.blt i L.length=true:=Nat.blt_eq.mpr hl;simp only[idxAddrSV,h1,Nat.beq_refl,iu,cond_true]
 rcases r with⟨_,_,⟨h0,_⟩|⟨b,b1,b2,_,rfl,b5⟩⟩|⟨_,_,b,b1,b2,rfl,b5⟩
 ·omega
 ·exact⟨b,none,rfl,b1,b2,b5,ix _ _,cf⟩
 ·exact⟨b,some L.length,rfl,b1,b2,b5,ix _ _,cf⟩
theorem mc{lo:Nat}{L:List Pr}{v:AV}(hN:L.length<2^29):∀(r:List Pr) (i:Nat) (acc:List ByteArray) (s:St) (u:AV),L.drop i=r→i≤L.length→acc.length+r.length<2^29→RowX s.h lo L.length 4 v (Pr.cellsL L)→RowC s.h lo acc.length 1 u (acc.flatMap strA)→(∀x∈ids v,x∉ids u)→lo≤s.h.next→
  s.eval (.t 16)=some v→s.eval (.t 17)=some (vI (L.length:Nat))→s.eval (.t 18)=some (vI (i:Nat))→s.eval (.t 3)=some u→s.defers=[]→
  Run E1 y5 s fun e s'=>e=.exit 2∧s'.defers=[]∧s.h.next≤s'.h.next∧(∃u',RowC s'.h lo (acc++nmH r).length 1 u' ((acc++nmH r).flatMap strA)∧s'.eval (.t 3)=some u')∧s'.eval (.t 9)=s.eval (.t 9)∧s'.eval (.t 10)=s.eval (.t 10)∧s'.eval (.t 11)=s.eval (.t 11)
 | [],i,acc,s,u,hd,hi,hA,hv,hr,hx,hlo,h16,h17,h18,h3,hf=>by
  have hl:=aG hd hi;subst hl;apply aB (rfl:y5=.loop me);simp-implicitDefEqProofs only[me,V,↓reduceIte,rA,h17,h18,h3,hf,bA,nmH,iz];exact⟨ib _,u,hr,rfl⟩
 |k::r,i,acc,s,u,hd,hi,hA,hv,hr,hx,hlo,h16,h17,h18,h3,hf=>by
  have hl:=aH hd;have hlt:=bD hl;have hA':acc.length+(r.length+1)<2^29:=hA;have w1:IntKind.i64.wrap ((i:Int)+1)=((i+1:Nat):Int):=aD (n:=i+1) om;obtain⟨b,cap,rfl,b1,b2,gb,ix,cf⟩:=Zv hv hd;have nb:(b=s.h.next)=False:=eq_false om;have hxb:b∉ids u:=hx b (by simp[ids])
  apply aB (rfl:y5=.loop me);cases q:decide (k.op=5) with
  |false=>
   simp-implicitDefEqProofs only[me,V,↓reduceIte,rA,WF,h16,h17,h18,hlt,ix,gb,cf,q,w1,nmH];refine(mc (lo:=lo) hN r (i+1) acc _ u (aF hd) om om ?_ ?_ hx ?_ ?_ ?_ ?_ ?_ ?_).mono ?_
   ·simp-implicitDefEqProofs only[V];exact hv.to (by show s.h.next≤s.h.next+1;omega) fun x _ x2=>by rw[aS om,aJ x2]
   ·exact U123
   ·exact U52
   ·exact U169
   ·exact U170
   ·exact U36
   ·exact U49
   ·exact U69
   rintro e s2 ⟨rfl,d2,n2,H,t9,t10,t11⟩;simp-implicitDefEqProofs only[V,↓reduceIte,rA] at n2 t9 t10 t11;exact⟨rfl,d2,om,H,t9,t10,t11⟩
  |true=>
   have hb:(acc++[k.nm]).length=acc.length+1:=by rw[io];rfl
   simp-implicitDefEqProofs only[me,V,↓reduceIte,rA,WF,h16,h17,h18,h3,hlt,ix,gb,cf,q,nmH];refine p9 (k:=acc.length) (m:=1) (lo:=lo) (v:=u) (x:=.own (s.h.next+1) 0 1 1 (some 1)) (cs:=acc.flatMap strA) (new:=[vS k.nm]) ?_ ?_ ?_ de rfl ?_ (aX om de) ?_ ?_ ?_
   ·exact U125
   ·exact U52
   ·refine aq (rw':=true) ?_ rfl;exact U36
   ·exact fun c hc=>by rw[ig.1 hc];exact Leaf.val _
   ·exact U49
   ·exact U36
   intro h1' r1 n1 o1;simp-implicitDefEqProofs only[V] at n1 o1 r1;simp-implicitDefEqProofs only[V,↓reduceIte,rA,h18,w1];refine(mc (lo:=lo) (v:=.own b 0 L.length 4 cap) hN r (i+1) (acc++[k.nm]) _ (.own (s.h.next+1+1) 0 (acc.length+1) 1 none) (aF hd) om om ?_ ?_ ?_ ?_ ?_ ?_ ?_ ?_ ?_).mono ?_
   ·simp-implicitDefEqProofs only[V];refine hv.toB om fun x hx'=>?_
    have ex:x=b:=by simpa [ids] using hx'
    subst ex;rw[o1 x om hxb,if_neg om,if_neg om,if_neg om]
   ·exact U121
   ·intro x hx' hx2;have ex:x=b:=by simpa [ids] using hx'
    simp only[ids,ig] at hx2;omega
   ·exact U52
   ·exact U169
   ·exact U170
   ·exact U36
   ·exact U36
   ·exact U69
   rintro e s2 ⟨rfl,d2,n2,⟨v2,r2,g2⟩,t9,t10,t11⟩;simp-implicitDefEqProofs only[V,↓reduceIte,rA] at n2 t9 t10 t11;rw[jk] at r2;exact⟨rfl,d2,om,⟨v2,r2,g2⟩,t9,t10,t11⟩
def needL(l:List Pr):List ByteArray:=nmH (Pr.splL l)
theorem Il(k:Pr)(r:List Pr):needL (k::r)=nmH k.spl++needL r:=by rw[needL,Pr.splL,kY,needL]
theorem vp(l:List Pr):(needL l).length≤Pr.nodesL l:=by
 have h1:=pC (Pr.splL l);have h2:=qK l;unfold needL;omega
theorem wL{lo:Nat}(w:Vl Pr)(hn:∀p∈w.l,p.nodes<2^28):∀(r:List Pr) (i:Nat) (acc:List ByteArray) (s:St) (u:AV),w.l.drop i=r→i≤w.l.length→w.l.length<2^28→acc.length+Pr.nodesL r<2^28→RowC s.h lo acc.length 1 u (acc.flatMap strA)→lo≤s.h.next→
  s.eval (.t 9)=some (w.A Pr.cells)→s.eval (.t 10)=some (vI (w.l.length:Nat))→s.eval (.t 11)=some (vI (i:Nat))→s.eval (.t 3)=some u→s.defers=[]→
  Run E1 yz s fun e s'=>e=.exit 0∧s'.defers=[]∧lo≤s'.h.next∧∃u',RowC s'.h lo (acc++needL r).length 1 u' ((acc++needL r).flatMap strA)∧s'.eval (.t 3)=some u'
 | [],i,acc,s,u,hd,hi,hN,hA,hr,hlo,h9,h10,h11,h3,hf=>by
  have hl:=aG hd hi;subst hl;apply aB (rfl:yz=.loop tM);simp-implicitDefEqProofs only[tM,V,↓reduceIte,rA,h10,h11,h3,hf,bA];refine⟨hlo,u,?_,rfl⟩;rw[show needL []=[] from rfl,iz];exact hr
 |k::r,i,acc,s,u,hd,hi,hN,hA,hr,hlo,h9,h10,h11,h3,hf=>by
  have hl:=aH hd;have hlt:=bD hl;have hA':acc.length+(k.nodes+Pr.nodesL r)<2^28:=hA;have w1:IntKind.i64.wrap ((i:Int)+1)=((i+1:Nat):Int):=aD (n:=i+1) om;have hkn:=hn k (jh (i:=i) (by rw[hd];exact ik))
  have hsl:=kG k;have hnl:=pC k.spl;apply aB (rfl:yz=.loop tM);simp-implicitDefEqProofs only[tM,V,↓reduceIte,rA,WF,h9,h10,h11,hlt,w.at Pr.len hd];obtain⟨v,h1,c1,x1,n1,o1,_⟩:=fA k om ((s.h.alloc (.cells [vI 0,vS ⟨#[]⟩,vI 0,.val (.slice none 0 0)] true)).put s.h.next (some (.cells k.cells true)));have n1:s.h.next+1≤h1.next:=n1;have o1:∀x,x<s.h.next→h1.get x=s.h.get x:=fun x hx=>by rw[o1 x (by show x<s.h.next+1;omega),aS om,aJ hx]
  have x1:RowX h1 (s.h.next+1) k.spl.length 4 v (Pr.cellsL k.spl):=x1;refine aW (v:=v) (h':=h1) ?_ ?_
  ·exact U65
  simp-implicitDefEqProofs only[V,↓reduceIte,x1.len];refine(mc (lo:=lo) (L:=k.spl) (v:=v) om k.spl 0 acc _ u rfl (ic _) om ?_ ?_ ?_ ?_ ?_ ?_ ?_ ?_ ?_).mono ?_
  ·simp-implicitDefEqProofs only[V];exact x1.low om
  ·simp-implicitDefEqProofs only[V];exact hr.to om fun x _ x2=>o1 x x2
  ·intro x hx hx2;have:=(x1.ids x hx).1;have:=(hr.ids x hx2).2.1;omega
  ·exact U52
  ·exact U36
  ·exact U36
  ·exact U58
  ·exact U49
  ·exact U69
  rintro e s2 ⟨rfl,d2,n2,⟨u2,r2,g2⟩,t9,t10,t11⟩;simp-implicitDefEqProofs only[V,↓reduceIte,rA,h9,h10,h11] at n2 t9 t10 t11;have hb:(acc++nmH k.spl).length=acc.length+(nmH k.spl).length:=io;simp-implicitDefEqProofs only[V,↓reduceIte,WB,t11,w1];refine(wL (lo:=lo) w hn r (i+1) (acc++nmH k.spl) _ u2 (aF hd) om hN om ?_ ?_ ?_ ?_ ?_ ?_ ?_).mono ?_
  ·exact U103
  ·exact U52
  ·simp-implicitDefEqProofs only[V,↓reduceIte,rA,t9]
  ·simp-implicitDefEqProofs only[V,↓reduceIte,rA,t10]
  ·exact U36
  ·exact U61
  ·exact U132
  rintro e s3 ⟨rfl,d3,n3,u3,r3,g3⟩;rw[jk,←Il] at r3;exact⟨rfl,d3,n3,u3,r3,g3⟩
def nmV(l:List ByteArray):AV:=(⟨l,nilK,none⟩:Vl ByteArray).A strA
theorem lm{h:AH}{lo:Nat}{l:List ByteArray}{v:AV}(r:RowC h lo l.length 1 v (l.flatMap strA)):Rep h 0 h.next 1 v (nmV l):=by
 have:=(r.low (ic lo)).rep;rw[show(bif Nat.beq l.length 0 then AV.val (.slice none 0 0) else .imm (l.flatMap strA) l.length none)=rowT l.length (l.flatMap strA) from rfl,bU rfl] at this;exact this
theorem xj(c:Cl)(hw:Pr.wtL c.hy.l+c.hd.wt≤2^22)(h:AH):RunCall E1 (.f 37) [.agg c.cells] h (nmV (needL c.hy.l)) h:=by
 have hl1:=dU c.hy.l;have hl2:=cQ c.hy.l;refine bW kr aJL (aN (Tree.cl c)) (fun s hs hh hd hr=>?_) h;have h0:=hs 0 _ rfl;simp-implicitDefEqProofs only[Xa,f37,V,↓reduceIte,rA,h0,hh];refine(wL (lo:=0) c.hy (fun p hp=>by have:=cP hp;omega) c.hy.l 0 [] _ (.val (.slice none 0 0)) rfl (ic _) om (by show 0+Pr.nodesL c.hy.l<_;omega) RowC.nil (ic _) ?_ ?_ ?_ ?_ ?_).mono ?_
 ·exact U36
 ·exact U36
 ·exact U58
 ·exact U36
 ·exact U40
 rintro e s1 ⟨rfl,d1,_,u1,r1,e1⟩;simp-implicitDefEqProofs only[V,↓reduceIte,reduceCtorEq,WB,e1,d1];exact⟨_,rfl,1,de,lm r1⟩
structure Grw (h h':AH) (u u':AV):Prop where
 n:h.next≤h'.next
 o:∀x,x<h.next→x∉ids u→h'.get x=h.get x
 j:∀x∈ids u',x∈ids u∨h.next≤x
theorem Grw.refl(h:AH)(u:AV):Grw h h u u:=⟨ib _,fun _ _ _=>rfl,fun _ hx=>.inl hx⟩
theorem Grw.trans{h h1 h2:AH}{u u1 u2:AV}(a:Grw h h1 u u1)(b:Grw h1 h2 u1 u2):Grw h h2 u u2:=by
 have n1:=a.n;have n2:=b.n;refine⟨om,fun x hx hu=>?_,fun x hx=>?_⟩
 ·rw[b.o x om (fun q=>?_),a.o x hx hu];rcases a.j x q with q|q
  ·exact hu q
  ·omega
 ·rcases b.j x hx with q|q
  ·exact a.j x q
  ·exact .inr om
theorem Grw.more{h h':AH}{u u':AV}(hn:h.next≤h'.next)(ho:∀x,x<h.next→h'.get x=h.get x)(hu:u'=u):Grw h h' u u':=⟨hn,fun x hx _=>ho x hx,fun x hx=>.inl (hu▸hx)⟩
theorem Grw.keep{h h':AH}{u u':AV}(g:Grw h h' u u'){x:Nat}(hx:x<h.next)(hu:x∉ids u):h'.get x=h.get x∧x∉ids u':=⟨g.o x hx hu,fun q=>by
 rcases g.j x q with q|q
 ·exact hu q
 ·omega⟩
theorem nP{k:Pr}{l:List AV}:takeN none (k.cells++l)=some (vI k.op):=by rw[k.cells_eq];rfl
theorem aGX{k:Pr}{l:List AV}:fieldAddrV 1 (.iptr (k.cells++l))=some (.iptr (vS k.nm::(vI k.n::k.kids::l))):=by rw[k.cells_eq];rfl
theorem aOG{b:ByteArray}{l:List AV}:takeN none (vS b::l)=some (vS b):=rfl
theorem Pe{c:Cl}{rw:Bool}:cfB (some (.cells c.cells rw)) 3=some (vS c.hd.nm:: vI c.hd.n::c.hd.kids::[vI c.tag]):=by
 rw[Cl.cells,c.hd.cells_eq];rfl
theorem mZ{lo:Nat}(w:Vl Pr)(hN:w.l.length<2^29):∀(r:List Pr) (i:Nat) (acc:List ByteArray) (s:St) (u:AV),w.l.drop i=r→i≤w.l.length→acc.length+r.length<2^29→RowC s.h lo acc.length 1 u (acc.flatMap strA)→lo≤s.h.next→
  s.eval (.t 9)=some (w.A Pr.cells)→s.eval (.t 10)=some (vI (i:Nat))→s.eval (.t 5)=some u→s.defers=[]→
  Run E1 yw s fun e s'=>e=.exit 4∧s'.defers=[]∧(∃u',RowC s'.h lo (acc++nmH r).length 1 u' ((acc++nmH r).flatMap strA)∧s'.eval (.t 5)=some u'∧Grw s.h s'.h u u')∧s'.eval (.t 1)=s.eval (.t 1)∧s'.eval (.t 2)=s.eval (.t 2)∧s'.eval (.t 6)=s.eval (.t 6)∧s'.eval (.t 7)=s.eval (.t 7)∧s'.eval (.t 8)=s.eval (.t 8)
 | [],i,acc,s,u,hd,hi,hA,hr,hlo,h9,h10,h5,hf=>by
  have hl:=aG hd hi;subst hl;apply aB (rfl:yw=.loop mb);simp-implicitDefEqProofs only[mb,V,↓reduceIte,rA,h9,h10,h5,hf,bA,nmH,iz];exact⟨u,hr,rfl,Grw.refl _ _⟩
 |k::r,i,acc,s,u,hd,hi,hA,hr,hlo,h9,h10,h5,hf=>by
  have hl:=aH hd;have hlt:=bD hl;have hA':acc.length+(r.length+1)<2^29:=hA;have w1:IntKind.i64.wrap ((i:Int)+1)=((i+1:Nat):Int):=aD (n:=i+1) om;apply aB (rfl:yw=.loop mb);cases q:decide (k.op=5) with
  |false=>
   simp-implicitDefEqProofs only[mb,V,↓reduceIte,rA,h9,h10,hlt,w.at Pr.len hd,nP,q,w1,nmH];refine(mZ (lo:=lo) w hN r (i+1) acc _ u (aF hd) om om ?_ ?_ ?_ ?_ ?_ ?_).mono ?_
   ·exact U118
   ·exact U119
   ·exact U138
   ·exact U36
   ·exact U43
   ·exact U69
   rintro e s2 ⟨rfl,d2,⟨u2,r2,g2,w2⟩,t1,t2,t6,t7,t8⟩;simp-implicitDefEqProofs only[V,↓reduceIte,rA] at w2 t1 t2 t6 t7 t8;exact⟨rfl,d2,⟨u2,r2,g2,w2⟩,t1,t2,t6,t7,t8⟩
  |true=>
   have hb:(acc++[k.nm]).length=acc.length+1:=by rw[io];rfl
   simp-implicitDefEqProofs only[mb,V,↓reduceIte,rA,WF,h9,h10,h5,hlt,w.at Pr.len hd,nP,aGX,q,nmH];refine p9 (k:=acc.length) (m:=1) (lo:=lo) (v:=u) (x:=.own s.h.next 0 1 1 (some 1)) (cs:=acc.flatMap strA) (new:=[vS k.nm]) ?_ ?_ ?_ de rfl ?_ (aX om de) ?_ ?_ ?_
   ·exact U120
   ·exact U52
   ·refine aq (rw':=true) ?_ rfl;exact U36
   ·exact fun c hc=>by rw[ig.1 hc];exact Leaf.val _
   ·exact U43
   ·exact U36
   intro h1' r1 n1 o1;simp-implicitDefEqProofs only[V] at n1 o1 r1;simp-implicitDefEqProofs only[V,↓reduceIte,rA,h10,w1];have g1:Grw s.h h1' u (.own (s.h.next+1) 0 (acc.length+1) 1 none):=⟨om,fun x hx hu=>by rw[o1 x om hu,if_neg om],fun x hx=>by
    simp only[ids,ig] at hx;exact .inr om⟩
   refine(mZ (lo:=lo) w hN r (i+1) (acc++[k.nm]) _ (.own (s.h.next+1) 0 (acc.length+1) 1 none) (aF hd) om om ?_ ?_ ?_ ?_ ?_ ?_).mono ?_
   ·exact U121
   ·exact U52
   ·exact U138
   ·exact U36
   ·exact U36
   ·exact U69
   rintro e s2 ⟨rfl,d2,⟨v2,r2,g2,w2⟩,t1,t2,t6,t7,t8⟩;simp-implicitDefEqProofs only[V,↓reduceIte,rA] at w2 t1 t2 t6 t7 t8;rw[jk] at r2;exact⟨rfl,d2,⟨v2,r2,g2,g1.trans w2⟩,t1,t2,t6,t7,t8⟩
def needR(l:List Pr):List ByteArray:=nmH (Pr.rsplL l)
theorem Ik(k:Pr)(r:List Pr):needR (k::r)=nmH k.rspl++needR r:=by rw[needR,Pr.rsplL,kY,needR]
theorem Md(l:List Pr):needR l=needL l:=(rM l).symm
theorem wI{lo C:Nat}(c:Cl)(hn:∀p∈c.hy.l,p.nodes<2^28):∀(r:List Pr) (i:Nat) (acc:List ByteArray) (s:St) (u:AV),c.hy.l.drop i=r→i≤c.hy.l.length→c.hy.l.length<2^28→acc.length+Pr.nodesL r<2^28→RowC s.h lo acc.length 1 u (acc.flatMap strA)→lo≤s.h.next→C<s.h.next→C∉ids u→s.h.get C=some (.cells c.cells true)→
  s.eval (.t 7)=some (.ptr C 0)→s.eval (.t 8)=some (vI (i:Nat))→s.eval (.t 5)=some u→s.defers=[]→
  Run E1 yv s fun e s'=>e=.exit 2∧s'.defers=[]∧(∃u',RowC s'.h lo (acc++needR r).length 1 u' ((acc++needR r).flatMap strA)∧s'.eval (.t 5)=some u'∧Grw s.h s'.h u u')∧s'.eval (.t 1)=s.eval (.t 1)∧s'.eval (.t 2)=s.eval (.t 2)∧s'.eval (.t 6)=s.eval (.t 6)
 | [],i,acc,s,u,hd,hi,hN,hA,hr,hlo,hC,hCu,gC,h7,h8,h5,hf=>by
  have hl:=aG hd hi;subst hl;apply aB (rfl:yv=.loop tJ);simp-implicitDefEqProofs only[tJ,V,↓reduceIte,rA,h7,h8,h5,gC,hf,bA];refine⟨u,?_,rfl,Grw.refl _ _⟩;rw[show needR []=[] from rfl,iz];exact hr
 |k::r,i,acc,s,u,hd,hi,hN,hA,hr,hlo,hC,hCu,gC,h7,h8,h5,hf=>by
  have hl:=aH hd;have hlt:=bD hl;have hA':acc.length+(k.nodes+Pr.nodesL r)<2^28:=hA;have w1:IntKind.i64.wrap ((i:Int)+1)=((i+1:Nat):Int):=aD (n:=i+1) om;have hkn:=hn k (jh (i:=i) (by rw[hd];exact ik))
  have hsl:=qR k;have hnl:=pC k.rspl;obtain⟨w,hw,cs⟩:=eP k hkn;apply aB (rfl:yv=.loop tJ);simp-implicitDefEqProofs only[tJ,V,↓reduceIte,rA,h7,h8,gC,hlt,c.hy.at Pr.len hd,aA cs];refine(mZ (lo:=lo) w (by rw[hw];omega) w.l 0 acc _ u rfl (ic _) (by rw[hw];omega) ?_ ?_ ?_ ?_ ?_ ?_).mono ?_
  ·exact U118
  ·exact U119
  ·exact U36
  ·exact U58
  ·exact U43
  ·exact U69
  rintro e s2 ⟨rfl,d2,⟨u2,r2,g2,w2⟩,t1,t2,t6,t7,t8⟩;simp-implicitDefEqProofs only[V,↓reduceIte,rA,h7,h8] at w2 t1 t2 t6 t7 t8;rw[hw] at r2;have hb:(acc++nmH k.rspl).length=acc.length+(nmH k.rspl).length:=io;obtain⟨k1,k2⟩:=w2.keep hC hCu;have n2:=w2.n;simp-implicitDefEqProofs only[V,↓reduceIte,WB,t8,w1];refine(wI (lo:=lo) (C:=C) c hn r (i+1) (acc++nmH k.rspl) _ u2 (aF hd) om hN om ?_ ?_ ?_ k2 ?_ ?_ ?_ ?_ ?_).mono ?_
  ·exact U103
  ·exact U52
  ·exact U52
  ·simp-implicitDefEqProofs only[V];rw[k1,gC]
  ·simp-implicitDefEqProofs only[V,↓reduceIte,rA,t7]
  ·exact U36
  ·exact U61
  ·exact U132
  rintro e s3 ⟨rfl,d3,⟨u3,r3,g3,w3⟩,q1,q2,q6⟩;simp-implicitDefEqProofs only[V,↓reduceIte,rA,t1,t2,t6] at w3 q1 q2 q6;rw[jk,←Ik] at r3;exact⟨rfl,d3,⟨u3,r3,g3,w2.trans w3⟩,q1,q2,q6⟩
def gives(x:ByteArray)(c:Cl):Bool:=decide (c.hd.op=5)&&strEq c.hd.nm x
def hypS(x:ByteArray):List Cl→List ByteArray
 | []=>[]
 |c::r=>bif gives x c then needR c.hy.l++hypS x r else hypS x r
def totS:List Cl→Nat
 | []=>0
 |c::r=>Pr.nodesL c.hy.l+totS r
theorem lu(l:List Pr):(needR l).length≤Pr.nodesL l:=by rw[Md];exact vp l
theorem kf(x:ByteArray):∀l:List Cl,(hypS x l).length≤totS l
 | []=>ib _
 |c::r=>by
  have h1:=kf x r;have h2:=lu c.hy.l;rw[hypS,totS];cases gives x c
  ·simp only[cond_false];omega
  ·simp only[cond_true,io];omega
theorem wH{lo:Nat}(h0lo:0<lo)(H:Hn)(x:ByteArray)(hw:∀c∈H.cs.l,Pr.wtL c.hy.l+c.hd.wt≤2^22):∀(r:List Cl) (i:Nat) (acc:List ByteArray) (s:St) (u:AV),H.cs.l.drop i=r→i≤H.cs.l.length→H.cs.l.length<2^28→acc.length+totS r<2^28→RowC s.h lo acc.length 1 u (acc.flatMap strA)→lo≤s.h.next→s.h.get 0=some (.cells H.cells true)→
  s.eval (.t 1)=some (vS x)→s.eval (.t 2)=some (.ptr 0 0)→s.eval (.t 6)=some (vI (i:Nat))→s.eval (.t 5)=some u→s.defers=[]→
  Run E1 tI s fun e s'=>e=.exit 0∧s'.defers=[]∧∃u',RowC s'.h lo (acc++hypS x r).length 1 u' ((acc++hypS x r).flatMap strA)∧s'.eval (.t 5)=some u'
 | [],i,acc,s,u,hd,hi,hN,hA,hr,hlo,g0,h1,h2,h6,h5,hf=>by
  have hl:=aG hd hi;subst hl;apply aB (rfl:tI=.loop jP);simp-implicitDefEqProofs only[jP,V,↓reduceIte,rA,h2,h6,h5,g0,hf,bA,hypS,iz];exact⟨u,hr,rfl⟩
 |c::r,i,acc,s,u,hd,hi,hN,hA,hr,hlo,g0,h1,h2,h6,h5,hf=>by
  have hl:=aH hd;have hlt:=bD hl;have hA':acc.length+(Pr.nodesL c.hy.l+totS r)<2^28:=hA;have w1:IntKind.i64.wrap ((i:Int)+1)=((i+1:Nat):Int):=aD (n:=i+1) om;have hcw:=hw c (jh (i:=i) (by rw[hd];exact ik))
  have hl1:=dU c.hy.l;have hl2:=cQ c.hy.l;have hnl:=lu c.hy.l;have n0:(0=s.h.next)=False:=eq_false om;have zu:0∉ids u:=fun q=>by have:=(hr.ids 0 q).1;omega
  have gm:Grw s.h ((s.h.alloc (.cells [.val (.slice none 0 0),.val (.slice none 0 0),vI 0,vS ⟨#[]⟩,vI 0,.val (.slice none 0 0),vI 0] true)).put s.h.next (some (.cells c.cells true))) u u:=Grw.more (by show s.h.next≤s.h.next+1;omega) (fun x hx=>by rw[aS om,aJ hx]) rfl
  have hr1:=hr.to gm.n fun x x1 x2=>by rw[aS om,aJ x2]
  apply aB (rfl:tI=.loop jP);have go:∀(s1:St) (u1:AV) (acc1:List ByteArray),acc1.length+totS r<2^28→RowC s1.h lo acc1.length 1 u1 (acc1.flatMap strA)→lo≤s1.h.next→s1.h.get 0=some (.cells H.cells true)→s1.eval (.t 1)=some (vS x)→s1.eval (.t 2)=some (.ptr 0 0)→s1.eval (.t 6)=some (vI ((i+1:Nat):Int))→s1.eval (.t 5)=some u1→s1.defers=[]→
    Run E1 tI s1 fun e s'=>e=.exit 0∧s'.defers=[]∧∃u',RowC s'.h lo (acc1++hypS x r).length 1 u' ((acc1++hypS x r).flatMap strA)∧s'.eval (.t 5)=some u':=
   fun s1 u1 acc1 a1 a2 a3 a4 a5 a6 a7 a8 a9=>wH h0lo H x hw r (i+1) acc1 s1 u1 (aF hd) om hN a1 a2 a3 a4 a5 a6 a7 a8 a9
  cases q:gives x c with
  |false=>
   cases q1:decide (c.hd.op=5) with
   |false=>
    simp-implicitDefEqProofs only[jP,V,↓reduceIte,rA,WF,h2,h6,g0,hlt,H.cs.at Cl.len hd,dp,nP,q1,w1,hypS,q];refine go _ u acc om ?_ ?_ ?_ ?_ ?_ ?_ ?_ ?_
    ·exact U139
    ·exact U52
    ·exact U62
    all_goals simp-implicitDefEqProofs only[V,↓reduceIte,rA,h1,h2,h5,hf]
   |true=>
    have q2:strEq c.hd.nm x=false:=by rw[gives,q1,jj] at q;exact q
    simp-implicitDefEqProofs only[jP,V,↓reduceIte,rA,rB,WF,h1,h2,h6,g0,hlt,H.cs.at Cl.len hd,dp,nP,Pe,q1,q2,w1,hypS,q];refine go _ u acc om ?_ ?_ ?_ ?_ ?_ ?_ ?_ ?_
    ·exact U139
    ·exact U52
    ·exact U62
    all_goals simp-implicitDefEqProofs only[V,↓reduceIte,rA,h1,h2,h5,hf]
  |true=>
   have qq:=q;rw[gives,ii] at q;have q1:decide (c.hd.op=5)=true:=q.1;have q2:strEq c.hd.nm x=true:=q.2;have hb:(acc++needR c.hy.l).length=acc.length+(needR c.hy.l).length:=io;simp-implicitDefEqProofs only[jP,V,↓reduceIte,rA,rB,WF,h1,h2,h6,g0,hlt,H.cs.at Cl.len hd,dp,nP,Pe,q1,q2,hypS,qq];refine(wI (lo:=lo) (C:=s.h.next) c (fun p hp=>by have:=cP hp;omega) c.hy.l 0 acc _ u rfl (ic _) om om ?_ ?_ ?_ ?_ ?_ ?_ ?_ ?_ ?_).mono ?_
   ·exact U139
   ·exact U52
   ·simp-implicitDefEqProofs only[V];exact Nat.lt_succ_self _
   ·intro q;have:=(hr.ids _ q).2.1;omega
   ·exact U36
   ·exact U36
   ·exact U58
   ·exact U43
   ·exact U69
   rintro e s2 ⟨rfl,d2,⟨u2,r2,g2,w2⟩,t1,t2,t6⟩;simp-implicitDefEqProofs only[V,↓reduceIte,rA,h1,h2,h6] at w2 t1 t2 t6;obtain⟨k1,k2⟩:=(gm.trans w2).keep (x:=0) om zu;have n2:=(gm.trans w2).n;simp-implicitDefEqProofs only[V,↓reduceIte,WB,t6,w1];refine(go _ u2 (acc++needR c.hy.l) om ?_ ?_ ?_ ?_ ?_ ?_ ?_ ?_).mono ?_
   ·exact U103
   ·exact U52
   ·simp-implicitDefEqProofs only[V];rw[k1,g0]
   ·simp-implicitDefEqProofs only[V,↓reduceIte,rA,t1]
   ·simp-implicitDefEqProofs only[V,↓reduceIte,rA,t2]
   ·exact U36
   ·exact U61
   ·exact U132
   rintro e s3 ⟨rfl,d3,u3,r3,g3⟩;rw[jk] at r3;exact⟨rfl,d3,u3,r3,g3⟩
structure HnT (H:Hn):Prop extends HnB H where
 tot:totS H.cs.l<2^27
theorem sZ(H:Hn)(hH:HnT H)(x:ByteArray)(h:AH):RunCall E1 (.f 40) [.agg H.cells,vS x] h (nmV (hypS x H.cs.l)) h:=by
 have hcs:=hH.cs;have htot:=hH.tot;refine bW kr aJJ (bT (Tree.hn H) (Tree.val _)) (fun s hs hh hd hr=>?_) h;have h0:=hs 0 _ rfl;have h1:=hs 1 _ rfl;simp-implicitDefEqProofs only[Wy,f40,V,h0,hh];refine(wH (lo:=1) de H x hH.cw H.cs.l 0 [] _ (.val (.slice none 0 0)) rfl (ic _) hcs (by show 0+totS H.cs.l<_;omega) RowC.nil ?_ ?_ ?_ ?_ ?_ ?_ ?_).mono ?_
 ·exact U122
 ·exact U36
 ·exact U68
 ·exact U36
 ·exact U58
 ·exact U36
 ·exact U40
 rintro e s1 ⟨rfl,d1,u1,r1,e1⟩;simp-implicitDefEqProofs only[V,↓reduceIte,reduceCtorEq,WB,e1,d1];exact⟨_,rfl,1,de,lm r1⟩
end Go.Proofs.YtkhblipgiijoiaaGreatDoor
