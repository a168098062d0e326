/- A part of the proof about filled horn systems: ZColl ZNest ZFlat ZVarf ZPlain. -/
import Derived.Test.YtkhblipgiijoiaaGreatDoorU0
import Derived.Test.YtkhblipgiijoiaaGreatDoorH2

set_option linter.all false
open Nat renaming reduceEqDiff → rA, reduceAdd → rB, reduceMul → rC
open Int renaming reduceEq → rD, reduceLT → rE, reduceLE → rF
namespace Go.Proofs.YtkhblipgiijoiaaGreatDoor
open Go Go.AM
set_option maxHeartbeats 4000000
def CollOk(k:Pr):Prop:=∀h:AH,∃h',RunCall E1 (.f 47) [k.av,.val (.int .i64 5),.val (.slice none 0 0)] h (.val (.slice none 0 0)) h'∧h.next≤h'.next∧(∀x,x<h.next→h'.get x=h.get x)
theorem xu(p:Pr){B:Nat}(hN:p.ks.length<2^61):∀(r:List Pr) (i:Nat) (s:St),p.ks.drop i=r→i≤p.ks.length→(∀k∈r,CollOk k)→B<s.h.next→s.h.get B=some (.cells p.cells true)→
  s.eval (.t 1)=some (.val (.int .i64 5))→s.eval (.t 2)=some (.val (.slice none 0 0))→s.eval (.t 3)=some (.ptr B 0)→s.eval (.t 10)=some p.kids→s.eval (.t 11)=some (.val (.int .i64 (p.ks.length:Nat)))→s.eval (.t 12)=some (.val (.int .i64 (i:Nat)))→s.defers=[]→
  Run E1 vC s fun e s'=>e=.exit 0∧s'.defers=[]∧s'.eval (.t 1)=some (.val (.int .i64 5))∧s'.eval (.t 3)=some (.ptr B 0)∧s'.eval (.t 2)=some (.val (.slice none 0 0))∧s.h.next≤s'.h.next∧(∀x,x<s.h.next→s'.h.get x=s.h.get x)
 | [],i,s,hd,hi,hk,hB,gB,h1,h2,h3,h10,h11,h12,hf=>by
  have hl:=aN hd hi
  subst hl
  apply aC (rfl:vC=.loop pq)
  simp-implicitDefEqProofs only[pq,V,↓reduceIte,rA,rB,rC,reduceCtorEq,rD,rE,rF,WB,h1,h2,h3,h10,h11,h12,hf,lt_f]
  exact⟨Nat.le_refl _,fun x _=>by first|rfl|trivial⟩
 |k::r,i,s,hd,hi,hk,hB,gB,h1,h2,h3,h10,h11,h12,hf=>by
  have hl:=aV hd
  have hlt:=lt_t hl
  have w1:IntKind.i64.wrap ((i:Int)+1)=((i+1:Nat):Int):=aE (n:=i+1) om
  apply aC (rfl:vC=.loop pq)
  simp-implicitDefEqProofs only[pq,V,↓reduceIte,rA,rB,rC,reduceCtorEq,rD,rE,rF,WB,WF,h1,h2,h3,h10,h11,h12,hlt,fJ p i k r hd]
  obtain⟨h1',c1,n1,o1⟩:=hk k List.mem_cons_self ((s.h.alloc (.cells [.val (.int .i64 0),.val (.string ⟨#[]⟩),.val (.int .i64 0),.val (.slice none 0 0)] true)).put s.h.next (some (.cells k.cells true)))
  have n1:s.h.next+1≤h1'.next:=n1
  have o1:∀x,x<s.h.next→h1'.get x=s.h.get x:=fun x hx=>by
   rw[o1 x (by show x<s.h.next+1;omega),ac om,aP hx]
  refine ah (v:=.val (.slice none 0 0)) (h':=h1') ?_ ?_
  ·exact U76
  simp-implicitDefEqProofs only[V,↓reduceIte,rA,rB,rC,reduceCtorEq,rD,rE,rF,WB,h12,w1]
  refine(xu p (B:=B) hN r (i+1) _ (aF hd) om (fun k' hk'=>hk k' (List.mem_cons_of_mem _ hk')) ?_ ?_ ?_ ?_ ?_ ?_ ?_ ?_ ?_).mono ?_
  ·exact U53
  ·simp-implicitDefEqProofs only[V,↓reduceIte,rA,rB,rC,reduceCtorEq,rD,rE,rF]
   rw[o1 B hB,gB]
  ·exact U39
  ·exact U28
  ·exact U50
  ·exact U87
  ·exact U71
  ·exact U28
  ·exact U72
  rintro e s2 ⟨rfl,d2,e1,e3,e2,n2,o2⟩
  simp-implicitDefEqProofs only[V,↓reduceIte,rA,rB,rC,reduceCtorEq,rD,rE,rF] at n2 o2
  exact⟨rfl,d2,e1,e3,e2,om,fun x x1=>by rw[o2 x om,o1 x x1]⟩
theorem coll_body(p:Pr)(hN:p.ks.length<2^61)(ho:decide (p.op=5)=false)(hk:∀k∈p.ks,CollOk k):CollOk p:=fun h=>by
 have key:=il (g:=47) (l:=[p.av,.val (.int .i64 5),.val (.slice none 0 0)]) (h:=h) (fun v' h'=>v'=.val (.slice none 0 0)∧h.next≤h'.next∧(∀x,x<h.next→h'.get x=h.get x)) kr f47_ok fun s hs hh hd hrd=>by
  have h0:=hs 0 _ rfl
  have h1:=hs 1 _ rfl
  have h2:=hs 2 _ rfl
  simp-implicitDefEqProofs only[f47_fn,f47,V,↓reduceIte,rA,rB,rC,reduceCtorEq,rD,rE,rF,WB,h0,h1,h2,hh]
  refine(xu p (B:=h.next) hN p.ks 0 _ rfl (Nat.zero_le _) hk ?_ ?_ ?_ ?_ ?_ ?_ ?_ ?_ ?_).mono ?_
  ·exact U88
  ·exact U89
  ·exact U39
  ·exact U80
  ·exact U89
  ·exact U28
  ·exact U28
  ·exact U66
  ·exact U33
  rintro e s1 ⟨rfl,d1,e1,e3,e2,n1,o1⟩
  simp-implicitDefEqProofs only[V,↓reduceIte,rA,rB,rC,reduceCtorEq,rD,rE,rF,hh] at n1 o1
  have gB:s1.h.get h.next=some (.cells p.cells true):=by rw[o1 h.next om,if_pos rfl]
  simp-implicitDefEqProofs only[V,↓reduceIte,rA,rB,rC,reduceCtorEq,rD,rE,rF,WB,e1,e2,e3,gB,ho,d1]
  exact⟨_,rfl,rfl,om,fun x hx=>by rw[o1 x om,if_neg om]⟩
 obtain⟨v,h',c,rfl,n,o⟩:=key
 exact⟨h',c,n,o⟩
mutual
theorem lV:∀p:Pr,p.plain=true→p.nodes<2^61→CollOk p
 |.mk o s n ks nl cap,hp,hb=>by
  have hb':1+Pr.nodesL ks<2^61:=hb
  have hks:ks.length≤Pr.nodesL ks:=am _
  simp only[Pr.plain,Bool.and_eq_true,Bool.not_eq_true'] at hp
  exact coll_body (.mk o s n ks nl cap) (by show ks.length<_;omega) hp.1 (jd ks hp.2 om)
theorem jd:∀l:List Pr,Pr.plainL l=true→Pr.nodesL l<2^61→∀k∈l,CollOk k
 | [],_,_,k,hk=>by cases hk
 |p::r,hp,hb,k,hk=>by
  have hb':p.nodes+Pr.nodesL r<2^61:=hb
  simp only[Pr.plainL,Bool.and_eq_true] at hp
  rcases List.mem_cons.1 hk with e|hk
  ·have:=lV p hp.1 om
   rw[e]
   exact this
  ·exact jd r hp.2 om k hk
end
theorem qe(p:Pr)(hp:p.plain=true)(hb:p.nodes<2^61)(h:AH):RunCall E1 (.f 20) [p.av] h (.val (.slice none 0 0)) h:=by
 refine bw kr f20_ok (mem1 (Tree.pr p)) (fun s hs hh hd hr=>?_) h
 have h0:=hs 0 _ rfl
 obtain⟨h1,c1,n1,o1⟩:=lV p hp hb (AH.empty.alloc (.cells p.cells true))
 simp-implicitDefEqProofs only[f20_fn,f20,V,↓reduceIte,rA,rB,rC,reduceCtorEq,rD,rE,rF,WB,h0,hh]
 refine ah (v:=.val (.slice none 0 0)) (h':=h1) ?_ ?_
 ·exact U76
 simp-implicitDefEqProofs only[V,↓reduceIte,rA,rB,rC,reduceCtorEq,rD,rE,rF,WB,hd]
 exact⟨_,rfl,1,de,Rep.leaf (Leaf.val _)⟩
mutual
def Pr.nest:Pr→Nat
 |.mk o _ _ ks _ _=>Pr.nestL ks+(bif decide (o=5) then 1 else 0)
def Pr.nestL:List Pr→Nat
 | []=>0
 |k::r=>max k.nest (Pr.nestL r)
end
mutual
theorem zJ:∀p:Pr,p.nest≤p.nodes
 |.mk o _ _ ks _ _=>by
  have:=fR ks
  simp only[Pr.nest,Pr.nodes]
  cases decide (o=5)
  ·simp only[cond_false];omega
  ·simp only[cond_true];omega
theorem fR:∀l:List Pr,Pr.nestL l≤Pr.nodesL l
 | []=>Nat.le_refl _
 |k::r=>by
  have:=zJ k
  have:=fR r
  simp only[Pr.nestL,Pr.nodesL]
  omega
end
theorem xn(p:Pr)(hN:p.ks.length<2^61):∀(r:List Pr) (i acc:Nat) (s:St),p.ks.drop i=r→i≤p.ks.length→(∀k∈r,∀h,RunCall E1 (.f 53) [k.av] h (.val (.int .i64 (k.nest:Nat))) h)→s.h.get 0=some (.cells p.cells true)→
  s.eval (.t 1)=some (.ptr 0 0)→s.eval (.t 4)=some (.val (.int .i64 (i:Nat)))→s.eval (.t 3)=some (.val (.int .i64 (acc:Nat)))→s.defers=[]→
  Run E1 uz s fun e s'=>e=.exit 0∧s'.eval (.t 3)=some (.val (.int .i64 (max acc (Pr.nestL r):Nat)))∧s'.eval (.t 1)=some (.ptr 0 0)∧s'.h=s.h∧s'.defers=[]
 | [],i,acc,s,hd,hi,ih,g0,h1,h4,h3,hf=>by
  have hl:=aN hd hi
  subst hl
  apply aC (rfl:uz=.loop pn)
  simp-implicitDefEqProofs only[pn,V,↓reduceIte,rA,rB,rC,reduceCtorEq,rD,rE,rF,WB,h1,h4,h3,g0,hf,lt_f,Pr.nestL,Nat.max_zero]
 |k::r,i,acc,s,hd,hi,ih,g0,h1,h4,h3,hf=>by
  have hl:=aV hd
  have hlt:=lt_t hl
  have w1:IntKind.i64.wrap ((i:Int)+1)=((i+1:Nat):Int):=aE (n:=i+1) om
  apply aC (rfl:uz=.loop pn)
  simp-implicitDefEqProofs only[pn,V,↓reduceIte,rA,rB,rC,reduceCtorEq,rD,rE,rF,WB,h1,h4,h3,g0,hlt,fJ p i k r hd,ae,aA (ih k List.mem_cons_self),w1]
  have hq:max acc (Pr.nestL (k::r))=max (max acc k.nest) (Pr.nestL r):=by
   have:Pr.nestL (k::r)=max k.nest (Pr.nestL r):=rfl
   omega
  rw[hq]
  refine(xn p hN r (i+1) (max acc k.nest) _ (aF hd) om (fun k' hk=>ih k' (List.mem_cons_of_mem _ hk)) ?_ ?_ ?_ ?_ ?_).mono ?_
  ·exact U92
  ·exact U39
  ·exact U28
  ·exact U28
  ·exact U72
  rintro e s2 ⟨rfl,e3,e1,eh,d⟩
  simp-implicitDefEqProofs only[V,↓reduceIte,rA,rB,rC,reduceCtorEq,rD,rE,rF] at eh
  exact⟨rfl,e3,e1,eh,d⟩
theorem nest_body(p:Pr)(hb:p.nodes<2^61)(ih:∀k∈p.ks,∀h,RunCall E1 (.f 53) [k.av] h (.val (.int .i64 (k.nest:Nat))) h)(h:AH):RunCall E1 (.f 53) [p.av] h (.val (.int .i64 ((Pr.nestL p.ks+(bif decide (p.op=5) then 1 else 0):Nat):Int))) h:=by
 have hnk:1+Pr.nodesL p.ks<2^61:=by rw[←p.nodes_eq];exact hb
 have hks:p.ks.length≤Pr.nodesL p.ks:=am _
 have hnl:=fR p.ks
 refine cK kr f53_ok (mem1 (Tree.pr p)) rfl (Tree.val _) (fun s hs hh hd hr=>?_) h
 have h0:=hs 0 _ rfl
 simp-implicitDefEqProofs only[f53_fn,f53,V,↓reduceIte,rA,rB,rC,reduceCtorEq,rD,rE,rF,WB,h0,hh]
 refine(xn p om p.ks 0 0 _ rfl (Nat.zero_le _) ih ?_ ?_ ?_ ?_ ?_).mono ?_
 ·exact U28
 ·exact U28
 ·exact U66
 ·exact U66
 ·exact U33
 rintro e s1 ⟨rfl,e3,e1,eh,d1⟩
 have g0:s1.h.get 0=some (.cells p.cells true):=by rw[eh];simp-implicitDefEqProofs only[V,↓reduceIte,rA,rB,rC,reduceCtorEq,rD,rE,rF]
 rw[Nat.zero_max] at e3
 have w1:IntKind.i64.wrap (((Pr.nestL p.ks:Nat):Int)+1)=((Pr.nestL p.ks+1:Nat):Int):=aE (n:=Pr.nestL p.ks+1) om
 cases ho:decide (p.op=5) with
 |true=>simp-implicitDefEqProofs only[V,↓reduceIte,rA,rB,rC,reduceCtorEq,rD,rE,rF,WB,e1,e3,g0,d1,ho,w1]
 |false=>simp-implicitDefEqProofs only[V,↓reduceIte,rA,rB,rC,reduceCtorEq,rD,rE,rF,WB,e1,e3,g0,d1,ho]
mutual
theorem cm:∀p:Pr,p.nodes<2^61→∀h,RunCall E1 (.f 53) [p.av] h (.val (.int .i64 (p.nest:Nat))) h
 |.mk o s n ks nl cap,hb,h=>by
  have hb':1+Pr.nodesL ks<2^61:=hb
  exact nest_body (.mk o s n ks nl cap) hb (iy ks om) h
theorem iy:∀l:List Pr,Pr.nodesL l<2^61→∀k∈l,∀h,RunCall E1 (.f 53) [k.av] h (.val (.int .i64 (k.nest:Nat))) h
 | [],_,k,hk,_=>by cases hk
 |p::r,hb,k,hk,h=>by
  have hb':p.nodes+Pr.nodesL r<2^61:=hb
  rcases List.mem_cons.1 hk with e|hk
  ·have:=cm p om h
   rw[e]
   exact this
  ·exact iy r om k hk h
end
def n2(p:Pr):Bool:= !decide ((2:Int)<(p.nest:Nat))
def flatL:List Pr→Bool
 | []=>true
 |p::r=>n2 p&&flatL r
def flatC:List Cl→Bool
 | []=>true
 |c::r=>flatL c.hy.l&&(n2 c.hd&&flatC r)
theorem cl_s1{c:Cl}{l:List AV}:fieldAddrV 1 (.iptr (c.cells++l))=some (.iptr (c.hy.A Pr.cells::(c.hd.cells++[.val (.int .i64 c.tag)]++l))):=rfl
theorem cl_s2{c:Cl}{l:List AV}:fieldAddrV 2 (.iptr (c.cells++l))=some (.iptr (c.hd.cells++([.val (.int .i64 c.tag)]++l))):=by
 rw[←List.append_assoc]
 have:Nat.ble 2 (c.cells++l).length=true:=Nat.ble_eq.mpr (by rw[List.length_append,c.len];omega)
 simp only[fieldAddrV,this,cond_true]
 rfl
theorem qA(H:Hn)(c:Cl)(rest:List Cl)(j:Nat)(hc:H.cs.l.drop j=c::rest)(hN:c.hy.l.length<2^61)(hn:∀p∈c.hy.l,p.nodes<2^61):∀(r:List Pr) (i:Nat) (s:St),c.hy.l.drop i=r→i≤c.hy.l.length→s.h.get 0=some (.cells H.cells true)→
  s.eval (.t 1)=some (.ptr 0 0)→s.eval (.t 3)=some (.val (.int .i64 (j:Nat)))→s.eval (.t 4)=some (.val (.int .i64 (i:Nat)))→s.defers=[]→
  Run E1 vN s fun e s'=>s'.defers=[]∧s'.h=s.h∧s'.eval (.t 1)=some (.ptr 0 0)∧s'.eval (.t 3)=some (.val (.int .i64 (j:Nat)))∧((flatL r=true∧e=.exit 2)∨(flatL r=false∧e=.ret∧s'.eval (.t 2)=some (.val (.bool false))))
 | [],i,s,hd,hi,g0,h1,h3,h4,hf=>by
  have hl:=aN hd hi
  subst hl
  apply aC (rfl:vN=.loop ke)
  simp-implicitDefEqProofs only[ke,V,↓reduceIte,rA,rB,rC,reduceCtorEq,rD,rE,rF,WB,h1,h3,h4,g0,hf,lt_f,H.cs.at Cl.len hc,cl_s1,flatL]
 |k::r,i,s,hd,hi,g0,h1,h3,h4,hf=>by
  have hl:=aV hd
  have hlt:=lt_t hl
  have hm:k∈c.hy.l:=List.mem_of_mem_drop (i:=i) (by rw[hd];exact List.mem_cons_self)
  have w1:IntKind.i64.wrap ((i:Int)+1)=((i+1:Nat):Int):=aE (n:=i+1) om
  apply aC (rfl:vN=.loop ke)
  cases hq:decide ((2:Int)<(k.nest:Nat)) with
  |true=>simp-implicitDefEqProofs only[ke,V,↓reduceIte,rA,rB,rC,reduceCtorEq,rD,rE,rF,WB,h1,h3,h4,g0,hf,hlt,H.cs.at Cl.len hc,cl_s1,c.hy.at Pr.len hd,ae,aA (cm k (hn k hm)),hq,flatL,n2]
  |false=>
   simp-implicitDefEqProofs only[ke,V,↓reduceIte,rA,rB,rC,reduceCtorEq,rD,rE,rF,WB,h1,h3,h4,g0,hlt,H.cs.at Cl.len hc,cl_s1,c.hy.at Pr.len hd,ae,aA (cm k (hn k hm)),hq,flatL,n2,w1]
   refine(qA H c rest j hc hN hn r (i+1) _ (aF hd) om ?_ ?_ ?_ ?_ ?_).mono ?_
   ·exact U92
   ·exact U39
   ·exact U50
   ·exact U28
   ·exact U72
   rintro e s1 ⟨a1,a2,a3,a4,a5⟩
   simp-implicitDefEqProofs only[V,↓reduceIte,rA,rB,rC,reduceCtorEq,rD,rE,rF] at a2
   exact⟨a1,a2,a3,a4,a5⟩
theorem pz(H:Hn)(hN:H.cs.l.length<2^61)(hc:∀c∈H.cs.l,c.hy.l.length<2^61∧(∀p∈c.hy.l,p.nodes<2^61)∧c.hd.nodes<2^61):∀(r:List Cl) (i:Nat) (s:St),H.cs.l.drop i=r→i≤H.cs.l.length→s.h.get 0=some (.cells H.cells true)→
  s.eval (.t 1)=some (.ptr 0 0)→s.eval (.t 3)=some (.val (.int .i64 (i:Nat)))→s.defers=[]→
  Run E1 vM s fun e s'=>s'.defers=[]∧((flatC r=true∧e=.exit 0)∨(flatC r=false∧e=.ret∧s'.eval (.t 2)=some (.val (.bool false))))
 | [],i,s,hd,hi,g0,h1,h3,hf=>by
  have hl:=aN hd hi
  subst hl
  apply aC (rfl:vM=.loop qB)
  simp-implicitDefEqProofs only[qB,V,↓reduceIte,rA,rB,rC,reduceCtorEq,rD,rE,rF,WB,h1,h3,g0,hf,lt_f,flatC]
 |c::r,i,s,hd,hi,g0,h1,h3,hf=>by
  have hl:=aV hd
  have hlt:=lt_t hl
  have hm:c∈H.cs.l:=List.mem_of_mem_drop (i:=i) (by rw[hd];exact List.mem_cons_self)
  obtain⟨b1,b2,b3⟩:=hc c hm
  have w1:IntKind.i64.wrap ((i:Int)+1)=((i+1:Nat):Int):=aE (n:=i+1) om
  apply aC (rfl:vM=.loop qB)
  simp-implicitDefEqProofs only[qB,V,↓reduceIte,rA,rB,rC,reduceCtorEq,rD,rE,rF,WB,h1,h3,g0,hlt]
  refine(qA H c r i hd b1 b2 c.hy.l 0 _ rfl (Nat.zero_le _) ?_ ?_ ?_ ?_ ?_).mono ?_
  ·exact U92
  ·exact U39
  ·exact U50
  ·exact U66
  ·exact U72
  rintro e s1 ⟨d1,a2,a3,a4,⟨q,rfl⟩|⟨q,rfl,q2⟩⟩
  ·have k0:s1.h.get 0=some (.cells H.cells true):=by rw[a2];simp-implicitDefEqProofs only[V,↓reduceIte,rA,rB,rC,reduceCtorEq,rD,rE,rF,g0]
   cases hq:decide ((2:Int)<(c.hd.nest:Nat)) with
   |true=>simp-implicitDefEqProofs only[V,↓reduceIte,rA,rB,rC,reduceCtorEq,rD,rE,rF,WB,a3,a4,k0,d1,H.cs.at Cl.len hd,cl_s2,ae,aA (cm c.hd b3),hq,flatC,n2,q]
   |false=>
    simp-implicitDefEqProofs only[V,↓reduceIte,rA,rB,rC,reduceCtorEq,rD,rE,rF,WB,a3,a4,k0,H.cs.at Cl.len hd,cl_s2,ae,aA (cm c.hd b3),hq,flatC,n2,q,w1]
    refine pz H hN hc r (i+1) _ (aF hd) om ?_ ?_ ?_ ?_
    ·simp-implicitDefEqProofs only[V,↓reduceIte,rA,rB,rC,reduceCtorEq,rD,rE,rF,k0]
    ·simp-implicitDefEqProofs only[V,↓reduceIte,rA,rB,rC,reduceCtorEq,rD,rE,rF,a3]
    ·exact U28
    ·exact U69
  ·simp-implicitDefEqProofs only[V,↓reduceIte,rA,rB,rC,reduceCtorEq,rD,rE,rF,WB,d1,q,q2,flatC]
theorem xP(H:Hn)(hN:H.cs.l.length<2^61)(hc:∀c∈H.cs.l,c.hy.l.length<2^61∧(∀p∈c.hy.l,p.nodes<2^61)∧c.hd.nodes<2^61)(h:AH):RunCall E1 (.f 26) [.agg H.cells] h (.val (.bool (flatC H.cs.l))) h:=by
 refine cK kr f26_ok (mem1 (Tree.hn H)) rfl (Tree.val _) (fun s hs hh hd hr=>?_) h
 have h0:=hs 0 _ rfl
 simp-implicitDefEqProofs only[f26_fn,f26,V,↓reduceIte,rA,rB,rC,reduceCtorEq,rD,rE,rF,WB,h0,hh]
 refine(pz H hN hc H.cs.l 0 _ rfl (Nat.zero_le _) ?_ ?_ ?_ ?_).mono ?_
 ·exact U28
 ·exact U28
 ·exact U66
 ·exact U33
 rintro e s1 ⟨d1,⟨q,rfl⟩|⟨q,rfl,q2⟩⟩
 ·exact U93
 ·exact U94
def vlk(b:ByteArray):List Vr→Option ByteArray
 | []=>none
 |v::r=>bif strEq v.nm b then some v.so else vlk b r
def optR:Option ByteArray→List AV
 |some s=>[.val (.string s),.val (.bool true)]
 |none=>[.val (.string ⟨#[]⟩),.val (.bool false)]
theorem take_rev{l r:List Vr}{v:Vr}{k:Nat}(h:l.drop k=v::r):(l.take (k+1)).reverse=v::(l.take k).reverse:=by
 have h2:l[k]? =some v:=by
  have:=List.getElem?_drop (xs:=l) (i:=k) (j:=0)
  rw[h] at this
  simpa using this.symm
 rw[List.take_succ,h2,List.reverse_append]
 rfl
theorem tL(Vx:Evr)(b:ByteArray)(hN:Vx.vs.l.length<2^61):∀(k:Nat) (s:St),k≤Vx.vs.l.length→s.h.get 0=some (.cells Vx.cells true)→s.eval (.t 2)=some (.ptr 0 0)→s.eval (.t 1)=some (.val (.string b))→s.eval (.t 6)=some (.val (.int .i64 ((k:Int)-1)))→s.defers=[]→
  Run E1 nK s fun e s'=>s'.defers=[]∧((vlk b (Vx.vs.l.take k).reverse=none∧e=.exit 0)∨(∃x,vlk b (Vx.vs.l.take k).reverse=some x∧e=.ret∧s'.eval (.t 4)=some (.val (.string x))∧s'.eval (.t 5)=some (.val (.bool true))))
 |0,s,hk,g0,h2,h1,h6,hf=>by
  have c1:decide ((0:Int)≤((0:Nat):Int)-1)=false:=decide_eq_false om
  apply aC (rfl:nK=.loop gY)
  simp-implicitDefEqProofs only[gY,V,↓reduceIte,rA,rB,rC,reduceCtorEq,rD,rE,rF,WB,h2,h1,h6,g0,c1,hf,List.take_zero,List.reverse_nil,vlk]
 |k+1,s,hk,g0,h2,h1,h6,hf=>by
  have e6:(((k+1:Nat):Int)-1)=(k:Int):=by omega
  rw[e6] at h6
  have c1:decide ((0:Int)≤(k:Int))=true:=decide_eq_true om
  obtain⟨v,r,hd⟩:∃v r,Vx.vs.l.drop k=v::r:=⟨Vx.vs.l[k],Vx.vs.l.drop (k+1),List.drop_eq_getElem_cons om⟩
  have w1:IntKind.i64.wrap ((k:Int)-1)=(k:Int)-1:=IntWalk.i64_in _ om
  rw[take_rev hd]
  apply aC (rfl:nK=.loop gY)
  cases hq:strEq v.nm b with
  |true=>
   simp-implicitDefEqProofs only[gY,V,↓reduceIte,rA,rB,rC,reduceCtorEq,rD,rE,rF,WB,h2,h1,h6,g0,c1,hf,Vx.vs.at Vr.len hd,hq,vlk]
   exact .inr ⟨_,rfl,rfl⟩
  |false=>
   simp-implicitDefEqProofs only[gY,V,↓reduceIte,rA,rB,rC,reduceCtorEq,rD,rE,rF,WB,h2,h1,h6,g0,c1,Vx.vs.at Vr.len hd,hq,vlk,w1]
   refine tL Vx b hN k _ om ?_ ?_ ?_ ?_ ?_
   all_goals simp-implicitDefEqProofs only[V,↓reduceIte,rA,rB,rC,reduceCtorEq,rD,rE,rF,h2,h1,g0,hf]
theorem optR_tree(o:Option ByteArray):Tree (.tup (optR o)):=by cases o<;>exact Tree.two _ _
theorem optR_flat(o:Option ByteArray):isFlat (.tup (optR o))=true:=by cases o<;>rfl
def varS(l:List Vr)(b:ByteArray):Option ByteArray:=vlk b l.reverse
theorem lA(Vx:Evr)(b:ByteArray)(hN:Vx.vs.l.length<2^61)(h:AH):RunCall E1 (.f 115) [.agg Vx.cells,.val (.string b)] h (.tup (optR (varS Vx.vs.l b))) h:=by
 have one:oneOrTup (optR (varS Vx.vs.l b))=.tup (optR (varS Vx.vs.l b)):=by cases varS Vx.vs.l b<;>rfl
 have key:=iH (g:=115) (l:=[.agg Vx.cells,.val (.string b)]) (rs:=optR (varS Vx.vs.l b)) f115_ok fun s hs hh hd=>by
  have h0:=hs 0 _ rfl
  have h1:=hs 1 _ rfl
  simp-implicitDefEqProofs only[f115_fn,f115,V,↓reduceIte,rA,rB,rC,reduceCtorEq,rD,rE,rF,WB,h0,h1,hh]
  have w1:IntKind.i64.wrap (((Vx.vs.l.length:Nat):Int)-1)=((Vx.vs.l.length:Nat):Int)-1:=IntWalk.i64_in _ om
  refine(tL Vx b hN Vx.vs.l.length _ (Nat.le_refl _) ?_ ?_ ?_ ?_ ?_).mono ?_
  ·exact U28
  ·exact U28
  ·exact U39
  ·simp-implicitDefEqProofs only[V,↓reduceIte,rA,rB,rC,reduceCtorEq,rD,rE,rF,w1]
  ·exact U33
  rw[List.take_length]
  rintro e s1 ⟨d1,⟨q,rfl⟩|⟨x,q,rfl,e4,e5⟩⟩
  ·simp-implicitDefEqProofs only[V,↓reduceIte,rA,rB,rC,reduceCtorEq,rD,rE,rF,WB,d1,varS,q,optR]
  ·simp-implicitDefEqProofs only[V,↓reduceIte,rA,rB,rC,reduceCtorEq,rD,rE,rF,WB,d1,varS,q,optR,e4,e5]
 rw[one] at key
 exact aB kr kr (mem2 (Tree.ev Vx) (Tree.val _)) (optR_flat _) (optR_tree _) key h
def plainS(s:ByteArray):Bool:=strEq s ⟨#[73,110,116]⟩||(strEq s ⟨#[66,111,111,108]⟩||strEq s ⟨#[67,101,108,108]⟩)
theorem gz(b:ByteArray)(h:AH):RunCall E1 (.f 152) [.val (.string b)] h (.val (.bool (plainS b))) h:=by
 refine cK kr f152_ok (mem1 (Tree.val _)) rfl (Tree.val _) (fun s hs hh hd hr=>?_) h
 have h0:=hs 0 _ rfl
 cases x:strEq b ⟨#[73,110,116]⟩ with
 |true=>simp-implicitDefEqProofs only[ml,f152,V,↓reduceIte,rA,rB,rC,reduceCtorEq,rD,rE,rF,WB,h0,hh,hd,plainS,x]
 |false=>cases y:strEq b ⟨#[66,111,111,108]⟩ with
  |true=>simp-implicitDefEqProofs only[ml,f152,V,↓reduceIte,rA,rB,rC,reduceCtorEq,rD,rE,rF,WB,h0,hh,hd,plainS,x,y]
  |false=>simp-implicitDefEqProofs only[ml,f152,V,↓reduceIte,rA,rB,rC,reduceCtorEq,rD,rE,rF,WB,h0,hh,hd,plainS,x,y]
end Go.Proofs.YtkhblipgiijoiaaGreatDoor
