/- A part of the proof about filled horn systems: ZInner ZInnerb ZHoles. -/
import Derived.Test.YtkhblipgiijoiaaGreatDoorU0
import Derived.Test.YtkhblipgiijoiaaGreatDoorH1

set_option linter.all false
open Nat renaming reduceEqDiff → rA, reduceAdd → rB, reduceMul → rC
open Int renaming reduceEq → rD, reduceLT → rE, reduceLE → rF
open Option.some renaming injEq → sI
open Prod.mk renaming injEq → pI
namespace Go.Proofs.YtkhblipgiijoiaaGreatDoor
open Go Go.AM
set_option maxHeartbeats 4000000
def hasS(p:Pr):List Pr→Bool
 | []=>false
 |q::r=>p.same q||hasS p r
theorem sk(p:Pr)(w:Vl Pr)(hp:p.nodes<2^61)(hN:w.l.length<2^61):∀(r:List Pr) (i:Nat) (s:St),w.l.drop i=r→i≤w.l.length→0<s.h.next→s.h.get 0=some (.cells p.cells true)→
  s.eval (.t 2)=some (.fn (.func 48) [] [])→s.eval (.t 4)=some (.ptr 0 0)→s.eval (.t 9)=some (w.A Pr.cells)→s.eval (.t 10)=some (.val (.int .i64 (w.l.length:Nat)))→s.eval (.t 11)=some (.val (.int .i64 (i:Nat)))→s.defers=[]→
  Run E1 me s fun e s'=>s'.defers=[]∧((hasS p r=false∧e=.exit 0)∨(hasS p r=true∧e=.ret∧s'.eval (.t 6)=some (.val (.bool true))))
 | [],i,s,hd,hi,h0n,g0,h2,h4,h9,h10,h11,hf=>by
  have hl:=aN hd hi
  subst hl
  apply aC (rfl:me=.loop gN)
  simp-implicitDefEqProofs only[gN,V,↓reduceIte,rA,rB,rC,reduceCtorEq,rD,rE,rF,WB,h2,h4,h9,h10,h11,hf,lt_f,hasS]
 |q::r,i,s,hd,hi,h0n,g0,h2,h4,h9,h10,h11,hf=>by
  have hl:=aV hd
  have hlt:=lt_t hl
  have w1:IntKind.i64.wrap ((i:Int)+1)=((i+1:Nat):Int):=aE (n:=i+1) om
  have n0:(0=s.h.next)=False:=eq_false om
  apply aC (rfl:me=.loop gN)
  cases hs:p.same q with
  |true=>
   simp-implicitDefEqProofs only[gN,V,↓reduceIte,rA,rB,rC,reduceCtorEq,rD,rE,rF,WB,WF,h2,h4,h9,h10,h11,hlt,w.at Pr.len hd,g0,n0,List.nil_append,List.append_nil,aA (cC p hp q),hs,hf,hasS]
  |false=>
   simp-implicitDefEqProofs only[gN,V,↓reduceIte,rA,rB,rC,reduceCtorEq,rD,rE,rF,WB,WF,h2,h4,h9,h10,h11,hlt,w.at Pr.len hd,g0,n0,List.nil_append,List.append_nil,aA (cC p hp q),hs,hasS,w1]
   refine sk p w hp hN r (i+1) _ (aF hd) om ?_ ?_ ?_ ?_ ?_ ?_ ?_ ?_
   ·exact U53
   ·exact U73
   all_goals simp-implicitDefEqProofs only[V,↓reduceIte,rA,rB,rC,reduceCtorEq,rD,rE,rF,h2,h4,h9,h10,hf]
theorem xL(w:Vl Pr)(p:Pr)(hp:p.nodes<2^61)(hN:w.l.length<2^61)(h:AH):RunCall E1 (.f 191) [w.A Pr.cells,p.av,.fn (.func 48) [] []] h (.val (.bool (hasS p w.l))) h:=by
 refine cK kr f191_ok (mem3 Tree.vl (Tree.pr p) (Leaf.fn0 _).tree) rfl (Tree.val _) (fun s hs hh hd hr=>?_) h
 have h0:=hs 0 _ rfl
 have h1:=hs 1 _ rfl
 have h2:=hs 2 _ rfl
 simp-implicitDefEqProofs only[f191_fn,f191,V,↓reduceIte,rA,rB,rC,reduceCtorEq,rD,rE,rF,WB,h0,h1,h2,hh]
 refine(sk p w hp hN w.l 0 _ rfl (Nat.zero_le _) ?_ ?_ ?_ ?_ ?_ ?_ ?_ ?_).mono ?_
 ·exact U81
 ·exact U28
 ·exact U80
 ·exact U28
 ·exact U28
 ·exact U28
 ·exact U66
 ·exact U33
 rintro e s1 ⟨d1,⟨q1,rfl⟩|⟨q1,rfl,q2⟩⟩
 ·simp-implicitDefEqProofs only[V,↓reduceIte,rA,rB,rC,reduceCtorEq,rD,rE,rF,WB,d1,q1]
 ·exact U70
theorem cZ{E:Env}{g:Nat}{xs ys:List AV}{a a' t:AV}{h h1:AH}(hs:E.shared.get g=none)(hx:∀v∈xs,Tree v)(hy:∀v∈ys,Tree v)(ha:Tree a')(hz:AM.freeze deepest a h=h1)(hm:toTree h1 deepest a=some a')(hf:isFlat t=true)
  (hc:∀h,RunCall E (.f g) (xs++a'::ys) h t h):RunCall E (.f g) (xs++a::ys) h t h:=by
 have hfo:(xs++a::ys).foldl (fun h v=>AM.freeze deepest v h) h=h1:=by
  rw[List.foldl_append,bX hx,List.foldl_cons,hz,bX hy]
 have hm1:=uD hm hy hx
 have hl':∀v∈xs++a'::ys,Tree v:=fun v hv=>by
  rcases List.mem_append.1 hv with hv|hv
  ·exact hx v hv
  ·rcases List.mem_cons.1 hv with rfl|hv
   ·exact ha
   ·exact hy v hv
 refine(hc h1).mono fun n p=>?_
 have p:cQ E (enterA E (exec E n)) g (xs++a'::ys) h1=some (t,h1):=p
 show cQ E (enterA E (exec E n)) g (xs++a::ys) h=_
 simp only[cQ,hs,bX hl',cR hl'] at p
 simp only[cQ,hs,hfo,hm1]
 revert p
 cases E.known g (xs++a'::ys) with
 |some r=>
  intro p
  simp only[sI,pI] at p
  obtain⟨e,_⟩:=p
  subst e
  simp only[hf,cond_true]
 |none=>
  simp only
  cases enterA E (exec E n) g (xs++a'::ys) .empty with
  |none=>intro p;cases p
  |some q=>
   obtain⟨r,hc'⟩:=q
   simp only
   cases toTree (AM.freeze deepest r hc') deepest r with
   |none=>intro p;cases p
   |some t'=>
    intro p
    simp only[sI,pI] at p
    obtain⟨e,_⟩:=p
    subst e
    simp only[hf,cond_true]
mutual
def inn(op:Int):Pr→List Pr→List Pr
 |.mk o s n ks a b,L=>bif decide (o=op)&& !hasS (.mk o s n ks a b) (innL op ks L) then innL op ks L++[(Pr.mk o s n ks a b).cp] else innL op ks L
def innL(op:Int):List Pr→List Pr→List Pr
 | [],L=>L
 |k::r,L=>innL op r (inn op k L)
end
mutual
theorem uT(op:Int):∀(p:Pr) (L:List Pr),(inn op p L).length≤L.length+p.nodes
 |.mk o s n ks a b,L=>by
  have:=pL op ks L
  simp only[inn,Pr.nodes]
  cases decide (o=op)&& !hasS (.mk o s n ks a b) (innL op ks L)
  ·simp only[cond_false];omega
  ·simp only[cond_true,List.length_append,List.length_cons,List.length_nil];omega
theorem pL(op:Int):∀(l L:List Pr),(innL op l L).length≤L.length+Pr.nodesL l
 | [],L=>by simp only[innL,Pr.nodesL];omega
 |k::r,L=>by
  have h1:=uT op k L
  have h2:=pL op r (inn op k L)
  simp only[innL,Pr.nodesL]
  omega
end
def InnOk(op:Int)(k:Pr):Prop:=∀(h:AH) (lo:Nat) (v:AV) (L:List Pr),RowC h lo L.length 4 v (Pr.cellsL L)→lo≤h.next→L.length+k.nodes<2^29→∃v' h',RunCall E1 (.f 168) [k.av,.val (.int .i64 op),v] h v' h'∧RowC h' lo (inn op k L).length 4 v' (Pr.cellsL (inn op k L))∧h.next≤h'.next∧(∀x,x<h.next→x∉ids v→h'.get x=h.get x)∧(∀x∈ids v',x∈ids v∨h.next≤x)
theorem sv(op:Int)(p:Pr){lo B:Nat}(hlB:lo≤B)(hN:p.ks.length<2^29):∀(r:List Pr) (i:Nat) (s:St) (v:AV) (L:List Pr),p.ks.drop i=r→i≤p.ks.length→(∀k∈r,InnOk op k)→L.length+Pr.nodesL r<2^29→RowC s.h lo L.length 4 v (Pr.cellsL L)→B<s.h.next→B∉ids v→s.h.get B=some (.cells p.cells true)→
  s.eval (.t 1)=some (.val (.int .i64 op))→s.eval (.t 2)=some v→s.eval (.t 3)=some (.ptr B 0)→s.eval (.t 10)=some p.kids→s.eval (.t 11)=some (.val (.int .i64 (p.ks.length:Nat)))→s.eval (.t 12)=some (.val (.int .i64 (i:Nat)))→s.defers=[]→
  Run E1 mh s fun e s'=>e=.exit 0∧s'.defers=[]∧s'.eval (.t 1)=some (.val (.int .i64 op))∧s'.eval (.t 3)=some (.ptr B 0)∧∃v',s'.eval (.t 2)=some v'∧RowC s'.h lo (innL op r L).length 4 v' (Pr.cellsL (innL op r L))∧s.h.next≤s'.h.next∧(∀x,x<s.h.next→x∉ids v→s'.h.get x=s.h.get x)∧(∀x∈ids v',x∈ids v∨s.h.next≤x)
 | [],i,s,v,L,hd,hi,hk,hL,hr,hB,hBv,gB,h1,h2,h3,h10,h11,h12,hf=>by
  have hl:=aN hd hi
  subst hl
  apply aC (rfl:mh=.loop jH)
  simp-implicitDefEqProofs only[jH,V,↓reduceIte,rA,rB,rC,reduceCtorEq,rD,rE,rF,WB,h1,h2,h3,h10,h11,h12,hf,lt_f,innL]
  exact⟨v,rfl,hr,Nat.le_refl _,fun x _ _=>by first|rfl|trivial,fun x hx=>.inl hx⟩
 |k::r,i,s,v,L,hd,hi,hk,hL,hr,hB,hBv,gB,h1,h2,h3,h10,h11,h12,hf=>by
  have hl:=aV hd
  have hlt:=lt_t hl
  have hL':L.length+(k.nodes+Pr.nodesL r)<2^29:=hL
  have w1:IntKind.i64.wrap ((i:Int)+1)=((i+1:Nat):Int):=aE (n:=i+1) om
  apply aC (rfl:mh=.loop jH)
  simp-implicitDefEqProofs only[jH,V,↓reduceIte,rA,rB,rC,reduceCtorEq,rD,rE,rF,WB,WF,h1,h2,h3,h10,h11,h12,hlt,fJ p i k r hd]
  obtain⟨v1,h1',c1,r1,n1,o1,j1⟩:=hk k List.mem_cons_self ((s.h.alloc (.cells [.val (.int .i64 0),.val (.string ⟨#[]⟩),.val (.int .i64 0),.val (.slice none 0 0)] true)).put s.h.next (some (.cells k.cells true))) lo v L (hr.to (Nat.le_succ _) fun x _ x2=>by rw[ac om,aP x2]) (by show lo≤s.h.next+1;omega) om
  have n1:s.h.next+1≤h1'.next:=n1
  have o1:∀x,x<s.h.next→x∉ids v→h1'.get x=s.h.get x:=fun x hx hv=>by
   rw[o1 x (by show x<s.h.next+1;omega) hv,ac om,aP hx]
  have j1:∀x∈ids v1,x∈ids v∨s.h.next+1≤x:=j1
  refine ah (v:=v1) (h':=h1') ?_ ?_
  ·exact U76
  simp-implicitDefEqProofs only[V,↓reduceIte,rA,rB,rC,reduceCtorEq,rD,rE,rF,WB,h12,w1]
  have hlen:=uT op k L
  refine(sv op p (lo:=lo) (B:=B) hlB hN r (i+1) _ v1 (inn op k L) (aF hd) om (fun k' hk'=>hk k' (List.mem_cons_of_mem _ hk')) om ?_ ?_ ?_ ?_ ?_ ?_ ?_ ?_ ?_ ?_ ?_).mono ?_
  ·exact U86
  ·exact U53
  ·intro hx
   rcases j1 B hx with q|q
   ·exact hBv q
   ·omega
  ·simp-implicitDefEqProofs only[V,↓reduceIte,rA,rB,rC,reduceCtorEq,rD,rE,rF]
   rw[o1 B hB hBv,gB]
  ·exact U39
  ·exact U28
  ·exact U50
  ·exact U87
  ·exact U71
  ·exact U28
  ·exact U72
  rintro e s2 ⟨rfl,d2,e1,e3,v2,e2,r2,n2,o2,j2⟩
  simp-implicitDefEqProofs only[V,↓reduceIte,rA,rB,rC,reduceCtorEq,rD,rE,rF] at n2 o2 j2
  refine⟨rfl,d2,e1,e3,v2,e2,r2,om,fun x x1 x2=>?_,fun x hx=>?_⟩
  ·rw[o2 x om (fun hx=>by
    rcases j1 x hx with q|q
    ·exact x2 q
    ·omega),o1 x x1 x2]
  ·rcases j2 x hx with q|q
   ·rcases j1 x q with q|q
    ·exact .inl q
    ·exact .inr om
   ·exact .inr om
theorem app_wpE{E:Env}{s:St}{K:St→Prop}{r:List AOper}{dst:Option Nat}{es bytes a d k m lo:Nat}{v x:AV}{cs new:List AV}(hr:RowC s.h lo k es v cs)(hlo:lo≤s.h.next)(he:elemsOf s.h es x=some (new,m))(hm:0<m)(hl:new.length=m*es)(hn:∀c∈new,Leaf c)(hok:okLen (k+m) bytes=true)(ha:s.eval (.t a)=some v)(hx:s.eval (.t d)=some x)
  (kk:∀h',RowC h' lo (k+m) es (.own s.h.next 0 (k+m) es none) (cs++new)→s.h.next≤h'.next→(∀y,y<s.h.next→y∉ids v→h'.get y=s.h.get y)→AM.wpOps E r ((s.toH h').put dst (.own s.h.next 0 (k+m) es none)) K):AM.wpOps E (⟨dst,none,.append es bytes (.t a) (.t d)⟩::r) s K:=by
 obtain⟨p1,p2,p3,p4⟩:=tp hr hlo hn hl hm
 rw[bn,kx hr he hm hok ha hx]
 exact kk (pushC s.h v new) p2 om p3
theorem iM{a b c d:AV}{q:Pr}:putC [a,b,c,d] 0 4 q.cells=some q.cells:=by
 have h1:Nat.beq q.cells.length 4=true:=by rw[q.len];rfl
 have h2:Nat.ble (0+4) [a,b,c,d].length=true:=rfl
 have h3:putAt [a,b,c,d] 0 q.cells=q.cells:=by
  simp only[putAt,List.take_zero,List.nil_append,Nat.zero_add]
  rw[List.drop_eq_nil_of_le (by rw[q.len];exact Nat.le_refl 4),List.append_nil]
 simp only[putC,h1,h2,Bool.and_self,cond_true,h3]
theorem zT(op:Int)(p:Pr)(hN:p.nodes<2^29)(hk:∀k∈p.ks,InnOk op k)(L1:List Pr→List Pr)(hL1:∀L,L1 L=(bif decide (p.op=op)&& !hasS p (innL op p.ks L) then innL op p.ks L++[p.cp] else innL op p.ks L))(h:AH)(lo:Nat)(v:AV)(L:List Pr)(hr:RowC h lo L.length 4 v (Pr.cellsL L))(hlo:lo≤h.next)(hb:L.length+p.nodes<2^29):
  ∃v' h',RunCall E1 (.f 168) [p.av,.val (.int .i64 op),v] h v' h'∧RowC h' lo (L1 L).length 4 v' (Pr.cellsL (L1 L))∧h.next≤h'.next∧(∀x,x<h.next→x∉ids v→h'.get x=h.get x)∧(∀x∈ids v',x∈ids v∨h.next≤x):=by
 have hnk:1+Pr.nodesL p.ks<2^29:=by rw[←p.nodes_eq];exact hN
 have hb':L.length+(1+Pr.nodesL p.ks)<2^29:=by rw[←p.nodes_eq];exact hb
 have hks:p.ks.length≤Pr.nodesL p.ks:=am _
 refine il (fun v' h'=>RowC h' lo (L1 L).length 4 v' (Pr.cellsL (L1 L))∧h.next≤h'.next∧(∀x,x<h.next→x∉ids v→h'.get x=h.get x)∧(∀x∈ids v',x∈ids v∨h.next≤x)) kr f168_ok fun s hs hh hd hrd=>?_
 have h0:=hs 0 _ rfl
 have h1:=hs 1 _ rfl
 have h2:=hs 2 _ rfl
 simp-implicitDefEqProofs only[f168_fn,f168,V,↓reduceIte,rA,rB,rC,reduceCtorEq,rD,rE,rF,WB,h0,h1,h2,hh]
 refine(sv op p (lo:=lo) (B:=h.next) hlo om p.ks 0 _ v L rfl (Nat.zero_le _) hk om ?_ ?_ ?_ ?_ ?_ ?_ ?_ ?_ ?_ ?_ ?_).mono ?_
 ·simp-implicitDefEqProofs only[V,↓reduceIte,rA,rB,rC,reduceCtorEq,rD,rE,rF,hh]
  exact hr.to (Nat.le_succ _) fun x _ x2=>by rw[aP x2]
 ·exact U88
 ·intro hx
  have:=(hr.ids _ hx).2.1
  omega
 ·exact U89
 ·exact U39
 ·exact U80
 ·exact U89
 ·exact U28
 ·exact U28
 ·exact U66
 ·exact U33
 rintro e s1 ⟨rfl,d1,e1,e3,v1,e2,r1,n1,o1,j1⟩
 simp-implicitDefEqProofs only[V,↓reduceIte,rA,rB,rC,reduceCtorEq,rD,rE,rF,hh] at n1 o1 j1
 have gB:s1.h.get h.next=some (.cells p.cells true):=by
  rw[o1 h.next om (fun hx=>by have:=(hr.ids _ hx).2.1;omega),if_pos rfl]
 have o1':∀x,x<h.next→x∉ids v→s1.h.get x=h.get x:=fun x hx hv=>by rw[o1 x om hv,if_neg om]
 have j1':∀x∈ids v1,x∈ids v∨h.next≤x:=fun x hx=>by
  rcases j1 x hx with q|q
  ·exact .inl q
  ·exact .inr om
 have hlen:=pL op p.ks L
 cases ho:decide (p.op=op) with
 |false=>
  have e:L1 L=innL op p.ks L:=by rw[hL1,ho];rfl
  rw[e]
  simp-implicitDefEqProofs only[V,↓reduceIte,rA,rB,rC,reduceCtorEq,rD,rE,rF,WB,e1,e2,e3,gB,ho,d1]
  exact⟨_,rfl,r1,om,o1',j1'⟩
 |true=>
  obtain⟨h2',f1,f2,f3,f4⟩:=dx r1
  have hcall:RunCall E1 (.f 191) [v1,p.av,.fn (.func 48) [] []] s1.h (.val (.bool (hasS p (innL op p.ks L)))) s1.h:=cZ (xs:=[]) (ys:=[p.av,.fn (.func 48) [] []]) kr (fun v hv=>by cases hv) (mem2 (Tree.pr p) (Leaf.fn0 _).tree) jx.tree f1 f4 rfl (fun h0=>by
   rw[Pr.cellsL_eq,cd rfl]
   exact xL ⟨innL op p.ks L,nilK,none⟩ p om (by show(innL op p.ks L).length<_;omega) h0)
  simp-implicitDefEqProofs only[V,↓reduceIte,rA,rB,rC,reduceCtorEq,rD,rE,rF,WB,e1,e2,e3,gB,ho,d1]
  refine ah (v:=.val (.bool (hasS p (innL op p.ks L)))) (h':=s1.h) ?_ ?_
  ·exact U90
  cases hz:hasS p (innL op p.ks L) with
  |true=>
   have e:L1 L=innL op p.ks L:=by rw[hL1,ho,hz];rfl
   rw[e]
   simp-implicitDefEqProofs only[V,↓reduceIte,rA,rB,rC,reduceCtorEq,rD,rE,rF,WB,e1,e2,e3,gB,ho,d1,hz]
   exact⟨_,rfl,r1,om,o1',j1'⟩
  |false=>
   have e:L1 L=innL op p.ks L++[p.cp]:=by rw[hL1,ho,hz];rfl
   rw[e]
   simp-implicitDefEqProofs only[V,↓reduceIte,rA,rB,rC,reduceCtorEq,rD,rE,rF,WB,WF,e1,e2,e3,gB,ho,d1,hz,go hN,iM]
   refine app_wpE (k:=(innL op p.ks L).length) (m:=1) (lo:=lo) (v:=v1) (x:=.own s1.h.next 0 1 4 (some 1)) (cs:=Pr.cellsL (innL op p.ks L)) (new:=p.cp.cells) ?_ ?_ ?_ de (by rw[p.cp.len]) p.cp.leaves (bD om de) ?_ ?_ ?_
   ·simp-implicitDefEqProofs only[V,↓reduceIte,rA,rB,rC,reduceCtorEq,rD,rE,rF]
    exact r1.to (Nat.le_succ _) fun x _ x2=>by rw[aP x2]
   ·exact U53
   ·refine cE (rw':=true) ?_ (by rw[p.cp.len])
    exact U28
   ·exact U91
   ·exact U28
   intro h2 r2 n2 o2
   simp-implicitDefEqProofs only[V,↓reduceIte,rA,rB,rC,reduceCtorEq,rD,rE,rF] at n2 o2 r2
   simp-implicitDefEqProofs only[V,↓reduceIte,rA,rB,rC,reduceCtorEq,rD,rE,rF,WB,d1]
   refine⟨_,rfl,?_,?_,?_,?_⟩
   ·show RowC h2 lo _ 4 _ _
    rw[lX,List.length_append]
    exact r2
   ·show h.next≤h2.next
    omega
   ·intro x x1 x2
    show h2.get x=h.get x
    rw[o2 x om (fun hx=>by
     rcases j1' x hx with q|q
     ·exact x2 q
     ·omega),if_neg om,o1' x x1 x2]
   ·intro x hx
    simp only[oneOrTup,ids,List.mem_singleton] at hx
    exact .inr om
mutual
theorem iC(op:Int):∀(p:Pr),p.nodes<2^29→InnOk op p
 |.mk o s n ks nl cap,hb=>fun h lo v L hr hlo hL=>by
  have hb':1+Pr.nodesL ks<2^29:=hb
  exact zT op (.mk o s n ks nl cap) hb (fT op ks om) (inn op (.mk o s n ks nl cap)) (fun L=>by rw[inn];rfl) h lo v L hr hlo hL
theorem fT(op:Int):∀(l:List Pr),Pr.nodesL l<2^29→∀k∈l,InnOk op k
 | [],_,k,hk=>by cases hk
 |p::r,hb,k,hk=>by
  have hb':p.nodes+Pr.nodesL r<2^29:=hb
  rcases List.mem_cons.1 hk with e|hk
  ·have:=iC op p om
   rw[e]
   exact this
  ·exact fT op r om k hk
end
def holesS(p:Pr):List Pr:=inn 5 p []
theorem rb(p:Pr)(hb:p.nodes<2^28)(h:AH):RunCall E1 (.f 133) [p.av] h ((⟨holesS p,nilK,none⟩:Vl Pr).A Pr.cells) h:=by
 refine bw kr f133_ok (mem1 (Tree.pr p)) (fun s hs hh hd hr=>?_) h
 have h0:=hs 0 _ rfl
 obtain⟨v1,h1,c1,r1,n1,o1,j1⟩:=iC 5 p om (AH.empty.alloc (.cells p.cells true)) 1 (.val (.slice none 0 0)) [] RowC.nil (Nat.le_refl 1) (by simp only[List.length_nil];omega)
 simp-implicitDefEqProofs only[f133_fn,f133,V,↓reduceIte,rA,rB,rC,reduceCtorEq,rD,rE,rF,WB,h0,hh]
 refine ah (v:=v1) (h':=h1) ?_ ?_
 ·exact U76
 simp-implicitDefEqProofs only[V,↓reduceIte,rA,rB,rC,reduceCtorEq,rD,rE,rF,WB,hd]
 refine⟨_,rfl,1,de,?_⟩
 have:=r1.rep
 rw[show(bif Nat.beq (inn 5 p []).length 0 then AV.val (.slice none 0 0) else .imm (Pr.cellsL (inn 5 p [])) (inn 5 p []).length none)=rowT (inn 5 p []).length (Pr.cellsL (inn 5 p [])) from rfl,Pr.cellsL_eq,cd rfl] at this
 exact Rep.to (Nat.zero_le _) (Nat.le_refl _) (fun b _ _ cs rw g=>⟨rw,g⟩) (Nat.le_refl _) this
theorem dl:∀(a b:List Pr),Pr.cellsL (a++b)=Pr.cellsL a++Pr.cellsL b
 | [],b=>by simp only[List.nil_append,Pr.cellsL]
 |k::a,b=>by simp only[List.cons_append,Pr.cellsL,dl a b,List.append_assoc]
theorem holes_len(p:Pr):(holesS p).length≤p.nodes:=by
 have:=uT 5 p []
 simp only[List.length_nil,Nat.zero_add] at this
 exact this
theorem xb(w:Vl Pr)(hN:w.l.length<2^28)(hn:∀p∈w.l,p.nodes<2^28){lo:Nat}:∀(r:List Pr) (i:Nat) (s:St) (v:AV) (L:List Pr),w.l.drop i=r→i≤w.l.length→L.length+Pr.nodesL r<2^29→RowC s.h lo L.length 4 v (Pr.cellsL L)→lo≤s.h.next→
  s.eval (.t 3)=some v→s.eval (.t 6)=some (w.A Pr.cells)→s.eval (.t 7)=some (.val (.int .i64 (w.l.length:Nat)))→s.eval (.t 8)=some (.val (.int .i64 (i:Nat)))→s.defers=[]→
  Run E1 uf s fun e s'=>e=.exit 0∧s'.defers=[]∧∃v',s'.eval (.t 3)=some v'∧RowC s'.h lo (L++r.flatMap holesS).length 4 v' (Pr.cellsL (L++r.flatMap holesS))
 | [],i,s,v,L,hd,hi,hL,hr,hlo,h3,h6,h7,h8,hf=>by
  have hl:=aN hd hi
  subst hl
  apply aC (rfl:uf=.loop pX)
  simp-implicitDefEqProofs only[pX,V,↓reduceIte,rA,rB,rC,reduceCtorEq,rD,rE,rF,WB,h3,h6,h7,h8,hf,lt_f,List.flatMap_nil,List.append_nil]
  exact⟨v,rfl,hr⟩
 |p::r,i,s,v,L,hd,hi,hL,hr,hlo,h3,h6,h7,h8,hf=>by
  have hl:=aV hd
  have hlt:=lt_t hl
  have hm:p∈w.l:=List.mem_of_mem_drop (i:=i) (by rw[hd];exact List.mem_cons_self)
  have hL':L.length+(p.nodes+Pr.nodesL r)<2^29:=hL
  have hh:=holes_len p
  have w1:IntKind.i64.wrap ((i:Int)+1)=((i+1:Nat):Int):=aE (n:=i+1) om
  apply aC (rfl:uf=.loop pX)
  simp-implicitDefEqProofs only[pX,V,↓reduceIte,rA,rB,rC,reduceCtorEq,rD,rE,rF,WB,WF,h3,h6,h7,h8,hlt,w.at Pr.len hd,ae,aA (rb p (hn p hm))]
  refine app_wp (k:=L.length) (m:=(holesS p).length) (lo:=lo) (v:=v) (x:=(⟨holesS p,nilK,none⟩:Vl Pr).A Pr.cells) (cs:=Pr.cellsL L) (new:=Pr.cellsL (holesS p)) ?_ ?_ ?_ (cX _) (Pr.leavesL _) (bD om de) ?_ ?_ ?_
  ·exact U52
  ·exact U53
  ·rw[Pr.cellsL_eq]
   exact bU Pr.len
  ·exact U50
  ·exact U28
  intro v1 h1 r1 n1 o1
  simp-implicitDefEqProofs only[V,↓reduceIte,rA,rB,rC,reduceCtorEq,rD,rE,rF] at n1 o1
  simp-implicitDefEqProofs only[V,↓reduceIte,rA,rB,rC,reduceCtorEq,rD,rE,rF,WB,h8,w1]
  rw[←dl,←List.length_append] at r1
  have e:L++(p::r).flatMap holesS=(L++holesS p)++r.flatMap holesS:=by rw[List.flatMap_cons,List.append_assoc]
  rw[e]
  refine xb w hN hn (lo:=lo) r (i+1) _ v1 (L++holesS p) (aF hd) om (by rw[List.length_append];omega) ?_ ?_ ?_ ?_ ?_ ?_ ?_
  ·exact U86
  ·exact U53
  ·exact U28
  ·exact U75
  ·exact U44
  ·exact U28
  ·exact U72
theorem iD(w:Vl Pr)(hN:w.l.length<2^28)(hn:∀p∈w.l,p.nodes<2^28)(hb:Pr.nodesL w.l<2^29)(h:AH):RunCall E1 (.f 86) [w.A Pr.cells] h ((⟨w.l.flatMap holesS,nilK,none⟩:Vl Pr).A Pr.cells) h:=by
 refine bw kr f86_ok (mem1 Tree.vl) (fun s hs hh hd hr=>?_) h
 have h0:=hs 0 _ rfl
 simp-implicitDefEqProofs only[f86_fn,f86,V,↓reduceIte,rA,rB,rC,reduceCtorEq,rD,rE,rF,WB,h0,hh]
 refine(xb w hN hn (lo:=0) w.l 0 _ (.val (.slice none 0 0)) [] rfl (Nat.zero_le _) (by simp only[List.length_nil];omega) RowC.nil (Nat.zero_le _) ?_ ?_ ?_ ?_ ?_).mono ?_
 ·exact U28
 ·exact U32
 ·exact U28
 ·exact U66
 ·exact U33
 rintro e s1 ⟨rfl,d1,v1,e1,r1⟩
 simp-implicitDefEqProofs only[V,↓reduceIte,rA,rB,rC,reduceCtorEq,rD,rE,rF,WB,e1,d1]
 refine⟨_,rfl,1,de,?_⟩
 have:=r1.rep
 rw[List.nil_append] at this
 rw[show(bif Nat.beq (w.l.flatMap holesS).length 0 then AV.val (.slice none 0 0) else .imm (Pr.cellsL (w.l.flatMap holesS)) (w.l.flatMap holesS).length none)=rowT (w.l.flatMap holesS).length (Pr.cellsL (w.l.flatMap holesS)) from rfl,Pr.cellsL_eq,cd rfl] at this
 exact this
end Go.Proofs.YtkhblipgiijoiaaGreatDoor
