/- ZHenv ZHfill ZInner ZInnerb ZHoles ZColl ZNest ZFlat ZVarf ZPlain -/
import Derived.Test.YtkhblipgiijoiaaGreatDoorU0
import Derived.Test.YtkhblipgiijoiaaGreatDoorD2

set_option linter.all false
open Nat renaming reduceEqDiff → rA, reduceAdd → rB, reduceMul → rC
open Int renaming reduceEq → rD, reduceLT → rE, reduceLE → rF
open Option.some renaming injEq → sI
open Prod.mk renaming injEq → pI
open List renaming append_assoc → jk, append_nil → iz, length_append → io, length_nil → jf, mem_cons → ie, mem_cons_of_mem → j4, mem_cons_self → ik, mem_nil_iff → j7, mem_of_mem_drop → jh, nil_append → im, take_zero → jg
open Nat renaming le_refl → ib, zero_le → ic
namespace Go.Proofs.YtkhblipgiijoiaaGreatDoor
open Go Go.AM
set_option maxHeartbeats 4000000
variable [KR]
theorem cS{α:Type}{f:α→List AV}(hf:∀a,∀v∈f a,Leaf v)(l:List α):∀v∈l.flatMap f,Leaf v:=fun v hv=>by
 obtain⟨a,_,h⟩:=List.mem_flatMap.1 hv;exact hf a v h
theorem Vr.leaves(a:Vr):∀v∈a.cells,Leaf v:=fun v hv=>by
 simp only[Vr.cells,ie,j7,or_false] at hv;rcases hv with rfl|rfl<;>exact Leaf.val _
theorem Sm.leaves(a:Sm):∀v∈a.cells,Leaf v:=fun v hv=>by
 simp only[Sm.cells,ie,j7,or_false] at hv;rcases hv with rfl|rfl|rfl
 ·exact Leaf.val _
 ·exact Vl.leaf
 ·exact Leaf.val _
theorem Ho.leaves(a:Ho):∀v∈a.cells,Leaf v:=fun v hv=>by
 simp only[Ho.cells,ie,j7,or_false] at hv;rcases hv with rfl|rfl
 ·exact Leaf.val _
 ·exact Vl.leaf
theorem Evr.leaves(a:Evr):∀v∈a.cells,Leaf v:=fun v hv=>by
 simp only[Evr.cells,ie,j7,or_false] at hv;rcases hv with rfl|rfl|rfl<;>exact Vl.leaf
theorem Hn.idsA(h:Hn):ids (AV.agg h.cells)=[]:=h.ids0
theorem Cl.idsA(c:Cl):ids (AV.agg c.cells)=[]:=c.ids0
theorem qD{a b c:AV}:takeN (some 3) [a,b,c]=some (.agg [a,b,c]):=rfl
theorem Ko{s:St}{H:Hn}{c:Cl}{v:Evr}(c1:∀h,RunCall E1 (.f 45) [c.vs.A Vr.cells] h (v.vs.A Vr.cells) h)(c2:∀h,RunCall E1 (.f 50) [H.sy.A Sm.cells] h (v.sy.A Sm.cells) h)(c3:∀h,RunCall E1 (.f 51) [H.hs.A Ho.cells] h (v.hs.A Ho.cells) h)
  (hn:s.h.next=3) (g0:s.h.get 0=some (.cells H.cells true)) (g1:s.h.get 1=some (.cells c.cells true)) (g2:s.h.get 2=some (.cells [.val (.slice none 0 0),.val (.slice none 0 0),.val (.slice none 0 0)] true)) (h2:s.eval (.t 2)=some (.ptr 0 0)) (h3:s.eval (.t 3)=some (.ptr 1 0)) (h4:s.eval (.t 4)=some (.ptr 2 0)):
  Run E1 Xh s fun e s'=>e=.normal∧s'.eval (.t 4)=some (.ptr 2 0)∧s'.h.get 2=some (.cells v.cells true)∧s'.defers=s.defers:=by
 have n0:∀o,niceT s.h (some (.ptr 0 o))=true:=fun o=>bj om g0 (by rw[H.ids0];rfl)
 have n1:∀o,niceT s.h (some (.ptr 1 o))=true:=fun o=>bj om g1 (by rw[c.ids0];rfl)
 have o0:∀o,onlyT [0,1,2] (some (.ptr 0 o))=true:=fun o=>bu (by simp[memN])
 have o1:∀o,onlyT [0,1,2] (some (.ptr 1 o))=true:=fun o=>bu (by simp[memN])
 refine am ?_
 show DrawTo E1 (zF.take 10++zF.drop 10) [] s _;refine fi (R:=[0,1,2]) _ [] s rfl (fun x hx=>by cases hx) (fun r hr'=>by
  simp only[ie,j7,or_false] at hr';omega) ?_
 simp-implicitDefEqProofs only[zF,List.take_succ_cons,jg,List.drop_succ_cons,List.drop_zero,wpDm,aw,List.all_cons,List.all_nil,footed,V,↓reduceIte,rA,WF,h2,h3,g0,g1,n0,n1,o0,o1,aO Vl.ids,ab Vl.ids];refine⟨_,c1,?_⟩;simp-implicitDefEqProofs only[V,↓reduceIte,rA,WF,aO Vl.ids];refine⟨_,c2,?_⟩;simp-implicitDefEqProofs only[V,↓reduceIte,WF,aO Vl.ids];refine⟨_,c3,?_⟩;simp-implicitDefEqProofs only[V,WF,aO Vl.ids];intro _ done hdl hdm;have hst:storeH s.h 3 (.ptr 2 0) v.cells=some (s.h.put 2 (some (.cells v.cells true))):=aFZ g2 rfl rfl;refine nF (b:=2) (off:=0) (v:=.agg v.cells) (cs:=[.val (.slice none 0 0),.val (.slice none 0 0),.val (.slice none 0 0)]) (l:=v.cells) (h':=s.h.put 2 (some (.cells v.cells true))) ?_ ?_ ?_ rfl ?_ rfl ?_ ?_ ?_
 ·exact U153
 ·exact U58
 ·show below s.h.next (idsL v.cells)=true;rw[v.ids0];rfl
 ·exact U61
 ·simp-implicitDefEqProofs only[V,hn];decide
 ·simp-implicitDefEqProofs only[V];exact hst
 refine b9 ?_
 exact U153
theorem Kt(H:Hn)(c:Cl)(b1:c.vs.l.length<2^31)(b2:H.sy.l.length<2^31)(b3:H.hs.l.length<2^31):∃v:Evr,v.vs.l=c.vs.l∧v.sy.l=H.sy.l∧v.hs.l=H.hs.l∧∀h,RunCall E1 (.f 24) [.agg H.cells,.agg c.cells] h (.agg v.cells) h:=by
 obtain⟨vs,e1,c1⟩:=lN c.vs (cS Vr.leaves _) b1;obtain⟨sy,e2,c2⟩:=zW H.sy (cS Sm.leaves _) b2;obtain⟨hs,e3,c3⟩:=zV H.hs (cS Ho.leaves _) b3;refine⟨⟨vs,sy,hs⟩,e1,e2,e3,fun h=>bW kr aJT (bT (Tree.hn H) (Tree.cl c)) (fun s hs' hh hd hr=>?_) h⟩;have h0:=hs' 0 _ rfl;have h1:=hs' 1 _ rfl;simp-implicitDefEqProofs only[Xg,f24,V,↓reduceIte,rA,rB,h0,h1,hh];refine(Ko (H:=H) (c:=c) (v:=⟨vs,sy,hs⟩) c1 c2 c3 ?_ ?_ ?_ ?_ ?_ ?_ ?_).mono ?_
 all_goals try simp-implicitDefEqProofs only[V,↓reduceIte,rA,rB,reduceCtorEq]
 rintro e s1 ⟨rfl,e2,e3,e4⟩
 try simp-implicitDefEqProofs only[hd] at e4
 simp-implicitDefEqProofs only[V,reduceCtorEq,e2,e3,e4];exact⟨_,rfl,1,de,dC (Evr.leaves ⟨vs,sy,hs⟩)⟩
def hasS(p:Pr):List Pr→Bool
 | []=>false
 |q::r=>p.same q||hasS p r
theorem wS(p:Pr)(w:Vl Pr)(hp:p.nodes<2^61)(hN:w.l.length<2^61):∀(r:List Pr) (i:Nat) (s:St),w.l.drop i=r→i≤w.l.length→0<s.h.next→s.h.get 0=some (.cells p.cells true)→
  s.eval (.t 2)=some (.fn (.func 48) [] [])→s.eval (.t 4)=some (.ptr 0 0)→s.eval (.t 9)=some (w.A Pr.cells)→s.eval (.t 10)=some (vI (w.l.length:Nat))→s.eval (.t 11)=some (vI (i:Nat))→s.defers=[]→
  Run E1 pL s fun e s'=>s'.defers=[]∧((hasS p r=false∧e=.exit 0)∨(hasS p r=true∧e=.ret∧s'.eval (.t 6)=some (vB true)))
 | [],i,s,hd,hi,h0n,g0,h2,h4,h9,h10,h11,hf=>by
  have hl:=aG hd hi;subst hl;apply aB (rfl:pL=.loop gX);simp-implicitDefEqProofs only[gX,V,↓reduceIte,rA,reduceCtorEq,h10,h11,hf,bA,hasS]
 |q::r,i,s,hd,hi,h0n,g0,h2,h4,h9,h10,h11,hf=>by
  have hl:=aH hd;have hlt:=bD hl;have w1:IntKind.i64.wrap ((i:Int)+1)=((i+1:Nat):Int):=aD (n:=i+1) om;have n0:(0=s.h.next)=False:=eq_false om;apply aB (rfl:pL=.loop gX);cases hs:p.same q with
  |true=>
   simp-implicitDefEqProofs only[gX,V,↓reduceIte,rA,reduceCtorEq,WF,h2,h4,h9,h10,h11,hlt,w.at Pr.len hd,g0,n0,im,iz,aA (cN p hp q),hs,hf,hasS]
  |false=>
   simp-implicitDefEqProofs only[gX,V,↓reduceIte,rA,WF,h2,h4,h9,h10,h11,hlt,w.at Pr.len hd,g0,n0,im,iz,aA (cN p hp q),hs,hasS,w1];refine wS p w hp hN r (i+1) _ (aF hd) om ?_ ?_ ?_ ?_ ?_ ?_ ?_ ?_
   ·exact U52
   ·exact U62
   all_goals simp-implicitDefEqProofs only[V,↓reduceIte,rA,h2,h4,h9,h10,hf]
theorem Eb(w:Vl Pr)(p:Pr)(hp:p.nodes<2^61)(hN:w.l.length<2^61)(h:AH):RunCall E1 (.f 191) [w.A Pr.cells,p.av,.fn (.func 48) [] []] h (vB (hasS p w.l)) h:=by
 refine ai kr aBU (Dt Tree.vl (Tree.pr p) (Leaf.fn0 _).tree) rfl (Tree.val _) (fun s hs hh hd hr=>?_) h;have h0:=hs 0 _ rfl;have h1:=hs 1 _ rfl;have h2:=hs 2 _ rfl;simp-implicitDefEqProofs only[Nd,f191,V,↓reduceIte,reduceCtorEq,h0,h1,hh];refine(wS p w hp hN w.l 0 _ rfl (ic _) ?_ ?_ ?_ ?_ ?_ ?_ ?_ ?_).mono ?_
 ·exact U60
 ·exact U36
 ·exact U63
 ·exact U36
 ·exact U36
 ·exact U36
 ·exact U58
 ·exact U40
 rintro e s1 ⟨d1,⟨q1,rfl⟩|⟨q1,rfl,q2⟩⟩
 ·exact U64
 ·exact U59
theorem ba{E:Env}{g:Nat}{xs ys:List AV}{a a' t:AV}{h h1:AH}(hs:E.shared.get g=none)(hx:∀v∈xs,Tree v)(hy:∀v∈ys,Tree v)(ha:Tree a')(hz:AM.freeze deepest a h=h1)(hm:toTree h1 deepest a=some a')(hf:isFlat t=true)
  (hc:∀h,RunCall E (.f g) (xs++a'::ys) h t h):RunCall E (.f g) (xs++a::ys) h t h:=by
 have hfo:(xs++a::ys).foldl (fun h v=>AM.freeze deepest v h) h=h1:=by
  rw[List.foldl_append,bR hx,List.foldl_cons,hz,bR hy]
 have hm1:=xm hm hy hx;have hl':∀v∈xs++a'::ys,Tree v:=fun v hv=>by
  rcases List.mem_append.1 hv with hv|hv
  ·exact hx v hv
  ·rcases ie.1 hv with rfl|hv
   ·exact ha
   ·exact hy v hv
 refine(hc h1).mono fun n p=>?_
 have p:cT E (enterA E (exec E n)) g (xs++a'::ys) h1=some (t,h1):=p;show cT E (enterA E (exec E n)) g (xs++a::ys) h=_;simp only[cT,hs,bR hl',cK hl'] at p;simp only[cT,hs,hfo,hm1];revert p;cases E.known g (xs++a'::ys) with
 |some r=>
  intro p;simp only[sI,pI] at p;obtain⟨e,_⟩:=p;subst e;simp only[hf,cond_true]
 |none=>
  simp only;cases enterA E (exec E n) g (xs++a'::ys) .empty with
  |none=>intro p;cases p
  |some q=>
   obtain⟨r,hc'⟩:=q;simp only;cases toTree (AM.freeze deepest r hc') deepest r with
   |none=>intro p;cases p
   |some t'=>
    intro p;simp only[sI,pI] at p;obtain⟨e,_⟩:=p;subst e;simp only[hf,cond_true]
mutual
def inn(op:Int):Pr→List Pr→List Pr
 |.mk o s n ks a b,L=>bif decide (o=op)&& !hasS (.mk o s n ks a b) (innL op ks L) then innL op ks L++[(Pr.mk o s n ks a b).cp] else innL op ks L
def innL(op:Int):List Pr→List Pr→List Pr
 | [],L=>L
 |k::r,L=>innL op r (inn op k L)
end
mutual
theorem yH(op:Int):∀(p:Pr) (L:List Pr),(inn op p L).length≤L.length+p.nodes
 |.mk o s n ks a b,L=>by
  have:=sY op ks L;simp only[inn,Pr.nodes];cases decide (o=op)&& !hasS (.mk o s n ks a b) (innL op ks L)
  ·simp only[cond_false];omega
  ·simp only[cond_true,io,List.length_cons,jf];omega
theorem sY(op:Int):∀(l L:List Pr),(innL op l L).length≤L.length+Pr.nodesL l
 | [],L=>by simp only[innL,Pr.nodesL];omega
 |k::r,L=>by
  have h1:=yH op k L;have h2:=sY op r (inn op k L);simp only[innL,Pr.nodesL];omega
end
def InnOk(op:Int)(k:Pr):Prop:=∀(h:AH) (lo:Nat) (v:AV) (L:List Pr),RowC h lo L.length 4 v (Pr.cellsL L)→lo≤h.next→L.length+k.nodes<2^29→∃v' h',RunCall E1 (.f 168) [k.av,vI op,v] h v' h'∧RowC h' lo (inn op k L).length 4 v' (Pr.cellsL (inn op k L))∧h.next≤h'.next∧(∀x,x<h.next→x∉ids v→h'.get x=h.get x)∧(∀x∈ids v',x∈ids v∨h.next≤x)
theorem wW(op:Int)(p:Pr){lo B:Nat}(hlB:lo≤B)(hN:p.ks.length<2^29):∀(r:List Pr) (i:Nat) (s:St) (v:AV) (L:List Pr),p.ks.drop i=r→i≤p.ks.length→(∀k∈r,InnOk op k)→L.length+Pr.nodesL r<2^29→RowC s.h lo L.length 4 v (Pr.cellsL L)→B<s.h.next→B∉ids v→s.h.get B=some (.cells p.cells true)→
  s.eval (.t 1)=some (vI op)→s.eval (.t 2)=some v→s.eval (.t 3)=some (.ptr B 0)→s.eval (.t 10)=some p.kids→s.eval (.t 11)=some (vI (p.ks.length:Nat))→s.eval (.t 12)=some (vI (i:Nat))→s.defers=[]→
  Run E1 pS s fun e s'=>e=.exit 0∧s'.defers=[]∧s'.eval (.t 1)=some (vI op)∧s'.eval (.t 3)=some (.ptr B 0)∧∃v',s'.eval (.t 2)=some v'∧RowC s'.h lo (innL op r L).length 4 v' (Pr.cellsL (innL op r L))∧s.h.next≤s'.h.next∧(∀x,x<s.h.next→x∉ids v→s'.h.get x=s.h.get x)∧(∀x∈ids v',x∈ids v∨s.h.next≤x)
 | [],i,s,v,L,hd,hi,hk,hL,hr,hB,hBv,gB,h1,h2,h3,h10,h11,h12,hf=>by
  have hl:=aG hd hi;subst hl;apply aB (rfl:pS=.loop kw);simp-implicitDefEqProofs only[kw,V,↓reduceIte,rA,h1,h2,h3,h11,h12,hf,bA,innL];exact⟨v,rfl,hr,ib _,fun x _ _=>by first|rfl|trivial,fun x hx=>.inl hx⟩
 |k::r,i,s,v,L,hd,hi,hk,hL,hr,hB,hBv,gB,h1,h2,h3,h10,h11,h12,hf=>by
  have hl:=aH hd;have hlt:=bD hl;have hL':L.length+(k.nodes+Pr.nodesL r)<2^29:=hL;have w1:IntKind.i64.wrap ((i:Int)+1)=((i+1:Nat):Int):=aD (n:=i+1) om;apply aB (rfl:pS=.loop kw);simp-implicitDefEqProofs only[kw,V,↓reduceIte,rA,WF,h1,h2,h10,h11,h12,hlt,dJ p i k r hd];obtain⟨v1,h1',c1,r1,n1,o1,j1⟩:=hk k ik ((s.h.alloc (.cells [vI 0,vS ⟨#[]⟩,vI 0,.val (.slice none 0 0)] true)).put s.h.next (some (.cells k.cells true))) lo v L (hr.to (Nat.le_succ _) fun x _ x2=>by rw[aS om,aJ x2]) (by show lo≤s.h.next+1;omega) om
  have n1:s.h.next+1≤h1'.next:=n1;have o1:∀x,x<s.h.next→x∉ids v→h1'.get x=s.h.get x:=fun x hx hv=>by
   rw[o1 x (by show x<s.h.next+1;omega) hv,aS om,aJ hx]
  have j1:∀x∈ids v1,x∈ids v∨s.h.next+1≤x:=j1;refine aW (v:=v1) (h':=h1') ?_ ?_
  ·exact U65
  simp-implicitDefEqProofs only[V,↓reduceIte,rA,h12,w1];have hlen:=yH op k L;refine(wW op p (lo:=lo) (B:=B) hlB hN r (i+1) _ v1 (inn op k L) (aF hd) om (fun k' hk'=>hk k' (j4 _ hk')) om ?_ ?_ ?_ ?_ ?_ ?_ ?_ ?_ ?_ ?_ ?_).mono ?_
  ·exact U66
  ·exact U52
  ·intro hx;rcases j1 B hx with q|q
   ·exact hBv q
   ·omega
  ·exact U67
  ·exact U68
  ·exact U36
  ·exact U49
  ·exact U155
  ·exact U156
  ·exact U36
  ·exact U69
  rintro e s2 ⟨rfl,d2,e1,e3,v2,e2,r2,n2,o2,j2⟩;simp-implicitDefEqProofs only[V] at n2 o2 j2;refine⟨rfl,d2,e1,e3,v2,e2,r2,om,fun x x1 x2=>?_,fun x hx=>?_⟩
  ·exact U70
  ·exact U71
theorem p9{E:Env}{s:St}{K:St→Prop}{r:List AOper}{dst:Option Nat}{es bytes a d k m lo:Nat}{v x:AV}{cs new:List AV}(hr:RowC s.h lo k es v cs)(hlo:lo≤s.h.next)(he:elemsOf s.h es x=some (new,m))(hm:0<m)(hl:new.length=m*es)(hn:∀c∈new,Leaf c)(hok:okLen (k+m) bytes=true)(ha:s.eval (.t a)=some v)(hx:s.eval (.t d)=some x)
  (kk:∀h',RowC h' lo (k+m) es (.own s.h.next 0 (k+m) es none) (cs++new)→s.h.next≤h'.next→(∀y,y<s.h.next→y∉ids v→h'.get y=s.h.get y)→AM.wpOps E r ((s.toH h').put dst (.own s.h.next 0 (k+m) es none)) K):AM.wpOps E (⟨dst,none,.append es bytes (.t a) (.t d)⟩::r) s K:=by
 obtain⟨p1,p2,p3,p4⟩:=xc hr hlo hn hl hm;rw[bZ,m6 hr he hm hok ha hx];exact kk (pushC s.h v new) p2 om p3
theorem fa{a b c d:AV}{q:Pr}:putC [a,b,c,d] 0 4 q.cells=some q.cells:=by
 have h1:Nat.beq q.cells.length 4=true:=by rw[q.len];rfl
 have h2:Nat.ble (0+4) [a,b,c,d].length=true:=rfl;have h3:putAt [a,b,c,d] 0 q.cells=q.cells:=by
  simp only[putAt,jg,im,Nat.zero_add];rw[List.drop_eq_nil_of_le (by rw[q.len];exact ib 4),iz]
 simp only[putC,h1,h2,Bool.and_self,cond_true,h3]
theorem Iv(op:Int)(p:Pr)(hN:p.nodes<2^29)(hk:∀k∈p.ks,InnOk op k)(L1:List Pr→List Pr)(hL1:∀L,L1 L=(bif decide (p.op=op)&& !hasS p (innL op p.ks L) then innL op p.ks L++[p.cp] else innL op p.ks L))(h:AH)(lo:Nat)(v:AV)(L:List Pr)(hr:RowC h lo L.length 4 v (Pr.cellsL L))(hlo:lo≤h.next)(hb:L.length+p.nodes<2^29):
  ∃v' h',RunCall E1 (.f 168) [p.av,vI op,v] h v' h'∧RowC h' lo (L1 L).length 4 v' (Pr.cellsL (L1 L))∧h.next≤h'.next∧(∀x,x<h.next→x∉ids v→h'.get x=h.get x)∧(∀x∈ids v',x∈ids v∨h.next≤x):=by
 have hnk:1+Pr.nodesL p.ks<2^29:=by rw[←p.nodes_eq];exact hN
 have hb':L.length+(1+Pr.nodesL p.ks)<2^29:=by rw[←p.nodes_eq];exact hb
 have hks:p.ks.length≤Pr.nodesL p.ks:=an _;refine kH (fun v' h'=>RowC h' lo (L1 L).length 4 v' (Pr.cellsL (L1 L))∧h.next≤h'.next∧(∀x,x<h.next→x∉ids v→h'.get x=h.get x)∧(∀x∈ids v',x∈ids v∨h.next≤x)) kr aCE fun s hs hh hd hrd=>?_
 have h0:=hs 0 _ rfl;have h1:=hs 1 _ rfl;have h2:=hs 2 _ rfl;simp-implicitDefEqProofs only[Nq,f168,V,↓reduceIte,rA,h0,hh];refine(wW op p (lo:=lo) (B:=h.next) hlo om p.ks 0 _ v L rfl (ic _) hk om ?_ ?_ ?_ ?_ ?_ ?_ ?_ ?_ ?_ ?_ ?_).mono ?_
 ·exact U72
 ·exact U73
 ·intro hx;have:=(hr.ids _ hx).2.1;omega
 ·exact U74
 ·exact U68
 ·exact U63
 ·exact U74
 ·exact U36
 ·exact U36
 ·exact U58
 ·exact U40
 rintro e s1 ⟨rfl,d1,e1,e3,v1,e2,r1,n1,o1,j1⟩;simp-implicitDefEqProofs only[V] at n1 o1 j1;have gB:s1.h.get h.next=some (.cells p.cells true):=by
  rw[o1 h.next om (fun hx=>by have:=(hr.ids _ hx).2.1;omega),if_pos rfl]
 have o1':∀x,x<h.next→x∉ids v→s1.h.get x=h.get x:=fun x hx hv=>by rw[o1 x om hv,if_neg om]
 have j1':∀x∈ids v1,x∈ids v∨h.next≤x:=fun x hx=>by
  rcases j1 x hx with q|q
  ·exact .inl q
  ·exact .inr om
 have hlen:=sY op p.ks L;cases ho:decide (p.op=op) with
 |false=>
  have e:L1 L=innL op p.ks L:=by rw[hL1,ho];rfl
  rw[e];simp-implicitDefEqProofs only[V,↓reduceIte,rA,reduceCtorEq,WB,e1,e2,e3,gB,ho,d1];exact⟨_,rfl,r1,om,o1',j1'⟩
 |true=>
  obtain⟨h2',f1,f2,f3,f4⟩:=bm r1;have hcall:RunCall E1 (.f 191) [v1,p.av,.fn (.func 48) [] []] s1.h (vB (hasS p (innL op p.ks L))) s1.h:=ba (xs:=[]) (ys:=[p.av,.fn (.func 48) [] []]) kr (fun v hv=>by cases hv) (bT (Tree.pr p) (Leaf.fn0 _).tree) gR.tree f1 f4 rfl (fun h0=>by
   rw[Pr.cellsL_eq,bU rfl];exact Eb ⟨innL op p.ks L,nilK,none⟩ p om (by show(innL op p.ks L).length<_;omega) h0)
  simp-implicitDefEqProofs only[V,↓reduceIte,rA,WB,e1,e2,e3,gB,ho];refine aW (v:=vB (hasS p (innL op p.ks L))) (h':=s1.h) ?_ ?_
  ·exact U75
  cases hz:hasS p (innL op p.ks L) with
  |true=>
   have e:L1 L=innL op p.ks L:=by rw[hL1,ho,hz];rfl
   rw[e];simp-implicitDefEqProofs only[V,↓reduceIte,rA,reduceCtorEq,e2,d1];exact⟨_,rfl,r1,om,o1',j1'⟩
  |false=>
   have e:L1 L=innL op p.ks L++[p.cp]:=by rw[hL1,ho,hz];rfl
   rw[e];simp-implicitDefEqProofs only[V,↓reduceIte,rA,WF,e2,e3,gB,mq hN,fa];refine p9 (k:=(innL op p.ks L).length) (m:=1) (lo:=lo) (v:=v1) (x:=.own s1.h.next 0 1 4 (some 1)) (cs:=Pr.cellsL (innL op p.ks L)) (new:=p.cp.cells) ?_ ?_ ?_ de (by rw[p.cp.len]) p.cp.leaves (aX om de) ?_ ?_ ?_
   ·exact U76
   ·exact U52
   ·refine aq (rw':=true) ?_ (by rw[p.cp.len])
    exact U36
   ·exact U77
   ·exact U36
   intro h2 r2 n2 o2;simp-implicitDefEqProofs only[V] at n2 o2 r2;simp-implicitDefEqProofs only[V,↓reduceIte,reduceCtorEq,d1];refine⟨_,rfl,?_,?_,?_,?_⟩
   ·show RowC h2 lo _ 4 _ _;rw[gD,io];exact r2
   ·show h.next≤h2.next;omega
   ·exact U78
   ·intro x hx;simp only[oneOrTup,ids,List.mem_singleton] at hx;exact .inr om
mutual
theorem iP(op:Int):∀(p:Pr),p.nodes<2^29→InnOk op p
 |.mk o s n ks nl cap,hb=>fun h lo v L hr hlo hL=>by
  have hb':1+Pr.nodesL ks<2^29:=hb;exact Iv op (.mk o s n ks nl cap) hb (fk op ks om) (inn op (.mk o s n ks nl cap)) (fun L=>by rw[inn];rfl) h lo v L hr hlo hL
theorem fk(op:Int):∀(l:List Pr),Pr.nodesL l<2^29→∀k∈l,InnOk op k
 | [],_,k,hk=>by cases hk
 |p::r,hb,k,hk=>by
  have hb':p.nodes+Pr.nodesL r<2^29:=hb;rcases ie.1 hk with e|hk
  ·have:=iP op p om;rw[e];exact this
  ·exact fk op r om k hk
end
def holesS(p:Pr):List Pr:=inn 5 p []
theorem vH(p:Pr)(hb:p.nodes<2^28)(h:AH):RunCall E1 (.f 133) [p.av] h ((⟨holesS p,nilK,none⟩:Vl Pr).A Pr.cells) h:=by
 refine bW kr aCZ (aN (Tree.pr p)) (fun s hs hh hd hr=>?_) h;have h0:=hs 0 _ rfl;obtain⟨v1,h1,c1,r1,n1,o1,j1⟩:=iP 5 p om (AH.empty.alloc (.cells p.cells true)) 1 (.val (.slice none 0 0)) [] RowC.nil (ib 1) (by simp only[jf];omega)
 simp-implicitDefEqProofs only[Oh,f133,V,↓reduceIte,rA,h0,hh];refine aW (v:=v1) (h':=h1) ?_ ?_
 ·exact U65
 simp-implicitDefEqProofs only[V,↓reduceIte,reduceCtorEq,hd];refine⟨_,rfl,1,de,?_⟩;have:=r1.rep;rw[show(bif Nat.beq (inn 5 p []).length 0 then AV.val (.slice none 0 0) else .imm (Pr.cellsL (inn 5 p [])) (inn 5 p []).length none)=rowT (inn 5 p []).length (Pr.cellsL (inn 5 p [])) from rfl,Pr.cellsL_eq,bU rfl] at this;exact Rep.to (ic _) (ib _) (fun b _ _ cs rw g=>⟨rw,g⟩) (ib _) this
theorem dz:∀(a b:List Pr),Pr.cellsL (a++b)=Pr.cellsL a++Pr.cellsL b
 | [],b=>by simp only[im,Pr.cellsL]
 |k::a,b=>by simp only[List.cons_append,Pr.cellsL,dz a b,jk]
theorem Ri(p:Pr):(holesS p).length≤p.nodes:=by
 have:=yH 5 p [];simp only[jf,Nat.zero_add] at this;exact this
theorem Es(w:Vl Pr)(hN:w.l.length<2^28)(hn:∀p∈w.l,p.nodes<2^28){lo:Nat}:∀(r:List Pr) (i:Nat) (s:St) (v:AV) (L:List Pr),w.l.drop i=r→i≤w.l.length→L.length+Pr.nodesL r<2^29→RowC s.h lo L.length 4 v (Pr.cellsL L)→lo≤s.h.next→
  s.eval (.t 3)=some v→s.eval (.t 6)=some (w.A Pr.cells)→s.eval (.t 7)=some (vI (w.l.length:Nat))→s.eval (.t 8)=some (vI (i:Nat))→s.defers=[]→
  Run E1 yU s fun e s'=>e=.exit 0∧s'.defers=[]∧∃v',s'.eval (.t 3)=some v'∧RowC s'.h lo (L++r.flatMap holesS).length 4 v' (Pr.cellsL (L++r.flatMap holesS))
 | [],i,s,v,L,hd,hi,hL,hr,hlo,h3,h6,h7,h8,hf=>by
  have hl:=aG hd hi;subst hl;apply aB (rfl:yU=.loop sr);simp-implicitDefEqProofs only[sr,V,↓reduceIte,rA,h3,h7,h8,hf,bA,List.flatMap_nil,iz];exact⟨v,rfl,hr⟩
 |p::r,i,s,v,L,hd,hi,hL,hr,hlo,h3,h6,h7,h8,hf=>by
  have hl:=aH hd;have hlt:=bD hl;have hm:p∈w.l:=jh (i:=i) (by rw[hd];exact ik)
  have hL':L.length+(p.nodes+Pr.nodesL r)<2^29:=hL;have hh:=Ri p;have w1:IntKind.i64.wrap ((i:Int)+1)=((i+1:Nat):Int):=aD (n:=i+1) om;apply aB (rfl:yU=.loop sr);simp-implicitDefEqProofs only[sr,V,↓reduceIte,rA,WF,h3,h6,h7,h8,hlt,w.at Pr.len hd,aA (vH p (hn p hm))];refine bt (k:=L.length) (m:=(holesS p).length) (lo:=lo) (v:=v) (x:=(⟨holesS p,nilK,none⟩:Vl Pr).A Pr.cells) (cs:=Pr.cellsL L) (new:=Pr.cellsL (holesS p)) ?_ ?_ ?_ (cG _) (Pr.leavesL _) (aX om de) ?_ ?_ ?_
  ·exact U51
  ·exact U52
  ·rw[Pr.cellsL_eq];exact bJ Pr.len
  ·exact U49
  ·exact U36
  intro v1 h1 r1 n1 o1;simp-implicitDefEqProofs only[V] at n1 o1;simp-implicitDefEqProofs only[V,↓reduceIte,rA,h8,w1];rw[←dz,←io] at r1;have e:L++(p::r).flatMap holesS=(L++holesS p)++r.flatMap holesS:=by rw[List.flatMap_cons,jk]
  rw[e];refine Es w hN hn (lo:=lo) r (i+1) _ v1 (L++holesS p) (aF hd) om (by rw[io];omega) ?_ ?_ ?_ ?_ ?_ ?_ ?_
  ·exact U66
  ·exact U52
  ·exact U36
  ·exact U79
  ·exact U48
  ·exact U36
  ·exact U69
theorem iQ(w:Vl Pr)(hN:w.l.length<2^28)(hn:∀p∈w.l,p.nodes<2^28)(hb:Pr.nodesL w.l<2^29)(h:AH):RunCall E1 (.f 86) [w.A Pr.cells] h ((⟨w.l.flatMap holesS,nilK,none⟩:Vl Pr).A Pr.cells) h:=by
 refine bW kr aIA (aN Tree.vl) (fun s hs hh hd hr=>?_) h;have h0:=hs 0 _ rfl;simp-implicitDefEqProofs only[We,f86,V,↓reduceIte,reduceCtorEq,h0];refine(Es w hN hn (lo:=0) w.l 0 _ (.val (.slice none 0 0)) [] rfl (ic _) (by simp only[jf];omega) RowC.nil (ic _) ?_ ?_ ?_ ?_ ?_).mono ?_
 ·exact U36
 ·exact U41
 ·exact U36
 ·exact U58
 ·exact U40
 rintro e s1 ⟨rfl,d1,v1,e1,r1⟩;simp-implicitDefEqProofs only[V,↓reduceIte,reduceCtorEq,WB,e1,d1];refine⟨_,rfl,1,de,?_⟩;have:=r1.rep;rw[im] at this;rw[show(bif Nat.beq (w.l.flatMap holesS).length 0 then AV.val (.slice none 0 0) else .imm (Pr.cellsL (w.l.flatMap holesS)) (w.l.flatMap holesS).length none)=rowT (w.l.flatMap holesS).length (Pr.cellsL (w.l.flatMap holesS)) from rfl,Pr.cellsL_eq,bU rfl] at this;exact this
mutual
def Pr.nest:Pr→Nat
 |.mk o _ _ ks _ _=>Pr.nestL ks+(bif decide (o=5) then 1 else 0)
def Pr.nestL:List Pr→Nat
 | []=>0
 |k::r=>max k.nest (Pr.nestL r)
end
mutual
theorem Ij:∀p:Pr,p.nest≤p.nodes
 |.mk o _ _ ks _ _=>by
  have:=fh ks;simp only[Pr.nest,Pr.nodes];cases decide (o=5)
  ·simp only[cond_false];omega
  ·simp only[cond_true];omega
theorem fh:∀l:List Pr,Pr.nestL l≤Pr.nodesL l
 | []=>ib _
 |k::r=>by
  have:=Ij k;have:=fh r;simp only[Pr.nestL,Pr.nodesL];omega
end
theorem Fo(p:Pr)(hN:p.ks.length<2^61):∀(r:List Pr) (i acc:Nat) (s:St),p.ks.drop i=r→i≤p.ks.length→(∀k∈r,∀h,RunCall E1 (.f 53) [k.av] h (vI (k.nest:Nat)) h)→s.h.get 0=some (.cells p.cells true)→
  s.eval (.t 1)=some (.ptr 0 0)→s.eval (.t 4)=some (vI (i:Nat))→s.eval (.t 3)=some (vI (acc:Nat))→s.defers=[]→
  Run E1 ym s fun e s'=>e=.exit 0∧s'.eval (.t 3)=some (vI (max acc (Pr.nestL r):Nat))∧s'.eval (.t 1)=some (.ptr 0 0)∧s'.h=s.h∧s'.defers=[]
 | [],i,acc,s,hd,hi,ih,g0,h1,h4,h3,hf=>by
  have hl:=aG hd hi;subst hl;apply aB (rfl:ym=.loop tF);simp-implicitDefEqProofs only[tF,V,↓reduceIte,rA,h1,h4,h3,g0,hf,bA,Pr.nestL,Nat.max_zero]
 |k::r,i,acc,s,hd,hi,ih,g0,h1,h4,h3,hf=>by
  have hl:=aH hd;have hlt:=bD hl;have w1:IntKind.i64.wrap ((i:Int)+1)=((i+1:Nat):Int):=aD (n:=i+1) om;apply aB (rfl:ym=.loop tF);simp-implicitDefEqProofs only[tF,V,↓reduceIte,rA,h1,h4,h3,g0,hlt,dJ p i k r hd,aA (ih k ik),w1];have hq:max acc (Pr.nestL (k::r))=max (max acc k.nest) (Pr.nestL r):=by
   have:Pr.nestL (k::r)=max k.nest (Pr.nestL r):=rfl;omega
  rw[hq];refine(Fo p hN r (i+1) (max acc k.nest) _ (aF hd) om (fun k' hk=>ih k' (j4 _ hk)) ?_ ?_ ?_ ?_ ?_).mono ?_
  ·exact U80
  ·exact U68
  ·exact U36
  ·exact U36
  ·exact U69
  rintro e s2 ⟨rfl,e3,e1,eh,d⟩;simp-implicitDefEqProofs only[V] at eh;exact⟨rfl,e3,e1,eh,d⟩
theorem Re(p:Pr)(hb:p.nodes<2^61)(ih:∀k∈p.ks,∀h,RunCall E1 (.f 53) [k.av] h (vI (k.nest:Nat)) h)(h:AH):RunCall E1 (.f 53) [p.av] h (vI ((Pr.nestL p.ks+(bif decide (p.op=5) then 1 else 0):Nat):Int)) h:=by
 have hnk:1+Pr.nodesL p.ks<2^61:=by rw[←p.nodes_eq];exact hb
 have hks:p.ks.length≤Pr.nodesL p.ks:=an _;have hnl:=fh p.ks;refine ai kr aJC (aN (Tree.pr p)) rfl (Tree.val _) (fun s hs hh hd hr=>?_) h;have h0:=hs 0 _ rfl;simp-implicitDefEqProofs only[Wu,f53,V,h0,hh];refine(Fo p om p.ks 0 0 _ rfl (ic _) ih ?_ ?_ ?_ ?_ ?_).mono ?_
 ·exact U36
 ·exact U36
 ·exact U58
 ·exact U58
 ·exact U40
 rintro e s1 ⟨rfl,e3,e1,eh,d1⟩;have g0:s1.h.get 0=some (.cells p.cells true):=by rw[eh];simp-implicitDefEqProofs only[V,↓reduceIte]
 rw[Nat.zero_max] at e3;have w1:IntKind.i64.wrap (((Pr.nestL p.ks:Nat):Int)+1)=((Pr.nestL p.ks+1:Nat):Int):=aD (n:=Pr.nestL p.ks+1) om;cases ho:decide (p.op=5) with
 |true=>simp-implicitDefEqProofs only[V,↓reduceIte,rA,reduceCtorEq,WB,e1,e3,g0,d1,ho,w1]
 |false=>simp-implicitDefEqProofs only[V,↓reduceIte,rA,reduceCtorEq,WB,e1,e3,g0,d1,ho]
mutual
theorem dL:∀p:Pr,p.nodes<2^61→∀h,RunCall E1 (.f 53) [p.av] h (vI (p.nest:Nat)) h
 |.mk o s n ks nl cap,hb,h=>by
  have hb':1+Pr.nodesL ks<2^61:=hb;exact Re (.mk o s n ks nl cap) hb (kZ ks om) h
theorem kZ:∀l:List Pr,Pr.nodesL l<2^61→∀k∈l,∀h,RunCall E1 (.f 53) [k.av] h (vI (k.nest:Nat)) h
 | [],_,k,hk,_=>by cases hk
 |p::r,hb,k,hk,h=>by
  have hb':p.nodes+Pr.nodesL r<2^61:=hb;rcases ie.1 hk with e|hk
  ·have:=dL p om h;rw[e];exact this
  ·exact kZ r om k hk h
end
def n2(p:Pr):Bool:= !decide ((2:Int)<(p.nest:Nat))
def flatL:List Pr→Bool
 | []=>true
 |p::r=>n2 p&&flatL r
def flatC:List Cl→Bool
 | []=>true
 |c::r=>flatL c.hy.l&&(n2 c.hd&&flatC r)
theorem Yh{c:Cl}{l:List AV}:fieldAddrV 1 (.iptr (c.cells++l))=some (.iptr (c.hy.A Pr.cells::(c.hd.cells++[vI c.tag]++l))):=rfl
theorem Pd{c:Cl}{l:List AV}:fieldAddrV 2 (.iptr (c.cells++l))=some (.iptr (c.hd.cells++([vI c.tag]++l))):=by
 rw[←jk];have:Nat.ble 2 (c.cells++l).length=true:=Nat.ble_eq.mpr (by rw[io,c.len];omega)
 simp only[fieldAddrV,this,cond_true];rfl
theorem tQ(H:Hn)(c:Cl)(rest:List Cl)(j:Nat)(hc:H.cs.l.drop j=c::rest)(hN:c.hy.l.length<2^61)(hn:∀p∈c.hy.l,p.nodes<2^61):∀(r:List Pr) (i:Nat) (s:St),c.hy.l.drop i=r→i≤c.hy.l.length→s.h.get 0=some (.cells H.cells true)→
  s.eval (.t 1)=some (.ptr 0 0)→s.eval (.t 3)=some (vI (j:Nat))→s.eval (.t 4)=some (vI (i:Nat))→s.defers=[]→
  Run E1 zC s fun e s'=>s'.defers=[]∧s'.h=s.h∧s'.eval (.t 1)=some (.ptr 0 0)∧s'.eval (.t 3)=some (vI (j:Nat))∧((flatL r=true∧e=.exit 2)∨(flatL r=false∧e=.ret∧s'.eval (.t 2)=some (vB false)))
 | [],i,s,hd,hi,g0,h1,h3,h4,hf=>by
  have hl:=aG hd hi;subst hl;apply aB (rfl:zC=.loop mg);simp-implicitDefEqProofs only[mg,V,↓reduceIte,rA,reduceCtorEq,h1,h3,h4,g0,hf,bA,H.cs.at Cl.len hc,Yh,flatL]
 |k::r,i,s,hd,hi,g0,h1,h3,h4,hf=>by
  have hl:=aH hd;have hlt:=bD hl;have hm:k∈c.hy.l:=jh (i:=i) (by rw[hd];exact ik)
  have w1:IntKind.i64.wrap ((i:Int)+1)=((i+1:Nat):Int):=aD (n:=i+1) om;apply aB (rfl:zC=.loop mg);cases hq:decide ((2:Int)<(k.nest:Nat)) with
  |true=>simp-implicitDefEqProofs only[mg,V,↓reduceIte,rA,reduceCtorEq,h1,h3,h4,g0,hf,hlt,H.cs.at Cl.len hc,Yh,c.hy.at Pr.len hd,aA (dL k (hn k hm)),hq,flatL,n2]
  |false=>
   simp-implicitDefEqProofs only[mg,V,↓reduceIte,rA,h1,h3,h4,g0,hlt,H.cs.at Cl.len hc,Yh,c.hy.at Pr.len hd,aA (dL k (hn k hm)),hq,flatL,n2,w1];refine(tQ H c rest j hc hN hn r (i+1) _ (aF hd) om ?_ ?_ ?_ ?_ ?_).mono ?_
   ·exact U80
   ·exact U68
   ·exact U49
   ·exact U36
   ·exact U69
   rintro e s1 ⟨a1,a2,a3,a4,a5⟩;simp-implicitDefEqProofs only[V] at a2;exact⟨a1,a2,a3,a4,a5⟩
theorem tP(H:Hn)(hN:H.cs.l.length<2^61)(hc:∀c∈H.cs.l,c.hy.l.length<2^61∧(∀p∈c.hy.l,p.nodes<2^61)∧c.hd.nodes<2^61):∀(r:List Cl) (i:Nat) (s:St),H.cs.l.drop i=r→i≤H.cs.l.length→s.h.get 0=some (.cells H.cells true)→
  s.eval (.t 1)=some (.ptr 0 0)→s.eval (.t 3)=some (vI (i:Nat))→s.defers=[]→
  Run E1 zB s fun e s'=>s'.defers=[]∧((flatC r=true∧e=.exit 0)∨(flatC r=false∧e=.ret∧s'.eval (.t 2)=some (vB false)))
 | [],i,s,hd,hi,g0,h1,h3,hf=>by
  have hl:=aG hd hi;subst hl;apply aB (rfl:zB=.loop tR);simp-implicitDefEqProofs only[tR,V,↓reduceIte,rA,reduceCtorEq,h1,h3,g0,hf,bA,flatC]
 |c::r,i,s,hd,hi,g0,h1,h3,hf=>by
  have hl:=aH hd;have hlt:=bD hl;have hm:c∈H.cs.l:=jh (i:=i) (by rw[hd];exact ik)
  obtain⟨b1,b2,b3⟩:=hc c hm;have w1:IntKind.i64.wrap ((i:Int)+1)=((i+1:Nat):Int):=aD (n:=i+1) om;apply aB (rfl:zB=.loop tR);simp-implicitDefEqProofs only[tR,V,↓reduceIte,rA,h1,h3,g0,hlt];refine(tQ H c r i hd b1 b2 c.hy.l 0 _ rfl (ic _) ?_ ?_ ?_ ?_ ?_).mono ?_
  ·exact U80
  ·exact U68
  ·exact U49
  ·exact U58
  ·exact U69
  rintro e s1 ⟨d1,a2,a3,a4,⟨q,rfl⟩|⟨q,rfl,q2⟩⟩
  ·have k0:s1.h.get 0=some (.cells H.cells true):=by rw[a2];simp-implicitDefEqProofs only[V,g0]
   cases hq:decide ((2:Int)<(c.hd.nest:Nat)) with
   |true=>simp-implicitDefEqProofs only[V,↓reduceIte,rA,reduceCtorEq,WB,a3,a4,k0,d1,H.cs.at Cl.len hd,Pd,aA (dL c.hd b3),hq,flatC,n2,q]
   |false=>
    simp-implicitDefEqProofs only[V,↓reduceIte,rA,WB,a3,a4,k0,H.cs.at Cl.len hd,Pd,aA (dL c.hd b3),hq,flatC,n2,q,w1];refine tP H hN hc r (i+1) _ (aF hd) om ?_ ?_ ?_ ?_
    ·simp-implicitDefEqProofs only[V,k0]
    ·simp-implicitDefEqProofs only[V,↓reduceIte,rA,a3]
    ·exact U36
    ·exact U81
  ·simp-implicitDefEqProofs only[V,reduceCtorEq,d1,q,q2,flatC]
theorem Ee(H:Hn)(hN:H.cs.l.length<2^61)(hc:∀c∈H.cs.l,c.hy.l.length<2^61∧(∀p∈c.hy.l,p.nodes<2^61)∧c.hd.nodes<2^61)(h:AH):RunCall E1 (.f 26) [.agg H.cells] h (vB (flatC H.cs.l)) h:=by
 refine ai kr aJR (aN (Tree.hn H)) rfl (Tree.val _) (fun s hs hh hd hr=>?_) h;have h0:=hs 0 _ rfl;simp-implicitDefEqProofs only[Xf,f26,V,h0,hh];refine(tP H hN hc H.cs.l 0 _ rfl (ic _) ?_ ?_ ?_ ?_).mono ?_
 ·exact U36
 ·exact U36
 ·exact U58
 ·exact U40
 rintro e s1 ⟨d1,⟨q,rfl⟩|⟨q,rfl,q2⟩⟩
 ·exact U82
 ·exact U83
def vlk(b:ByteArray):List Vr→Option ByteArray
 | []=>none
 |v::r=>bif strEq v.nm b then some v.so else vlk b r
def optR:Option ByteArray→List AV
 |some s=>[vS s,vB true]
 |none=>[vS ⟨#[]⟩,vB false]
theorem zx{l r:List Vr}{v:Vr}{k:Nat}(h:l.drop k=v::r):(l.take (k+1)).reverse=v::(l.take k).reverse:=by
 have h2:l[k]? =some v:=by
  have:=List.getElem?_drop (xs:=l) (i:=k) (j:=0);rw[h] at this
  simpa using this.symm
 rw[List.take_succ,h2,List.reverse_append];rfl
theorem wu(Vx:Evr)(b:ByteArray)(hN:Vx.vs.l.length<2^61):∀(k:Nat) (s:St),k≤Vx.vs.l.length→s.h.get 0=some (.cells Vx.cells true)→s.eval (.t 2)=some (.ptr 0 0)→s.eval (.t 1)=some (vS b)→s.eval (.t 6)=some (vI ((k:Int)-1))→s.defers=[]→
  Run E1 pu s fun e s'=>s'.defers=[]∧((vlk b (Vx.vs.l.take k).reverse=none∧e=.exit 0)∨(∃x,vlk b (Vx.vs.l.take k).reverse=some x∧e=.ret∧s'.eval (.t 4)=some (vS x)∧s'.eval (.t 5)=some (vB true)))
 |0,s,hk,g0,h2,h1,h6,hf=>by
  have c1:decide ((0:Int)≤((0:Nat):Int)-1)=false:=decide_eq_false om;apply aB (rfl:pu=.loop g9);simp-implicitDefEqProofs only[g9,V,↓reduceIte,rA,reduceCtorEq,h6,c1,hf,jg,List.reverse_nil,vlk]
 |k+1,s,hk,g0,h2,h1,h6,hf=>by
  have e6:(((k+1:Nat):Int)-1)=(k:Int):=by omega
  rw[e6] at h6;have c1:decide ((0:Int)≤(k:Int))=true:=decide_eq_true om;obtain⟨v,r,hd⟩:∃v r,Vx.vs.l.drop k=v::r:=⟨Vx.vs.l[k],Vx.vs.l.drop (k+1),List.drop_eq_getElem_cons om⟩;have w1:IntKind.i64.wrap ((k:Int)-1)=(k:Int)-1:=IntWalk.i64_in _ om;rw[zx hd];apply aB (rfl:pu=.loop g9);cases hq:strEq v.nm b with
  |true=>
   simp-implicitDefEqProofs only[g9,V,↓reduceIte,rA,reduceCtorEq,h2,h1,h6,g0,c1,hf,Vx.vs.at Vr.len hd,hq,vlk];exact .inr ⟨_,rfl,rfl⟩
  |false=>
   simp-implicitDefEqProofs only[g9,V,↓reduceIte,rA,h2,h1,h6,g0,c1,Vx.vs.at Vr.len hd,hq,vlk,w1];refine wu Vx b hN k _ om ?_ ?_ ?_ ?_ ?_
   all_goals simp-implicitDefEqProofs only[V,↓reduceIte,rA,h2,h1,g0,hf]
theorem vg(o:Option ByteArray):Tree (.tup (optR o)):=by cases o<;>exact Tree.two _ _
theorem vh(o:Option ByteArray):isFlat (.tup (optR o))=true:=by cases o<;>rfl
def varS(l:List Vr)(b:ByteArray):Option ByteArray:=vlk b l.reverse
theorem nE(Vx:Evr)(b:ByteArray)(hN:Vx.vs.l.length<2^61)(h:AH):RunCall E1 (.f 115) [.agg Vx.cells,vS b] h (.tup (optR (varS Vx.vs.l b))) h:=by
 have one:oneOrTup (optR (varS Vx.vs.l b))=.tup (optR (varS Vx.vs.l b)):=by cases varS Vx.vs.l b<;>rfl
 have key:=cg (g:=115) (l:=[.agg Vx.cells,vS b]) (rs:=optR (varS Vx.vs.l b)) aDO fun s hs hh hd=>by
  have h0:=hs 0 _ rfl;have h1:=hs 1 _ rfl;simp-implicitDefEqProofs only[Ot,f115,V,↓reduceIte,rA,h0,hh];have w1:IntKind.i64.wrap (((Vx.vs.l.length:Nat):Int)-1)=((Vx.vs.l.length:Nat):Int)-1:=IntWalk.i64_in _ om;refine(wu Vx b hN Vx.vs.l.length _ (ib _) ?_ ?_ ?_ ?_ ?_).mono ?_
  ·exact U36
  ·exact U36
  ·exact U68
  ·exact U157
  ·exact U40
  rw[List.take_length];rintro e s1 ⟨d1,⟨q,rfl⟩|⟨x,q,rfl,e4,e5⟩⟩
  ·exact U84
  ·exact U85
 rw[one] at key;exact aC kr kr (bT (Tree.ev Vx) (Tree.val _)) (vh _) (vg _) key h
def plainS(s:ByteArray):Bool:=strEq s ⟨#[73,110,116]⟩||(strEq s ⟨#[66,111,111,108]⟩||strEq s ⟨#[67,101,108,108]⟩)
theorem iH(b:ByteArray)(h:AH):RunCall E1 (.f 152) [vS b] h (vB (plainS b)) h:=by
 refine ai kr aCN (aN (Tree.val _)) rfl (Tree.val _) (fun s hs hh hd hr=>?_) h;have h0:=hs 0 _ rfl;cases x:strEq b ⟨#[73,110,116]⟩ with
 |true=>simp-implicitDefEqProofs only[pV,f152,V,↓reduceIte,rA,reduceCtorEq,h0,hd,plainS,x]
 |false=>cases y:strEq b ⟨#[66,111,111,108]⟩ with
  |true=>simp-implicitDefEqProofs only[pV,f152,V,↓reduceIte,rA,reduceCtorEq,h0,hd,plainS,x,y]
  |false=>simp-implicitDefEqProofs only[pV,f152,V,↓reduceIte,rA,reduceCtorEq,h0,hd,plainS,x,y]
end Go.Proofs.YtkhblipgiijoiaaGreatDoor
