/- ZSnames ZNums ZQue ZQueb ZRlook ZRsort ZRenv ZRsame ZRsorts ZRof ZRbool -/
import Derived.Test.YtkhblipgiijoiaaGreatDoorU0
import Derived.Test.YtkhblipgiijoiaaGreatDoorC1
import Derived.Test.YtkhblipgiijoiaaGreatDoorD2
import Derived.Test.YtkhblipgiijoiaaGreatDoorH1
import Derived.Test.YtkhblipgiijoiaaGreatDoorR1
import Derived.Test.YtkhblipgiijoiaaGreatDoorR4

set_option linter.all false
open Nat renaming reduceEqDiff → rA, reduceAdd → rB, reduceMul → rC
open Int renaming reduceEq → rD, reduceLT → rE, reduceLE → rF
open Option.some renaming injEq → sI
open Bool renaming and_eq_true → ii
open List renaming all_cons → iv, all_nil → is, append_assoc → jk, append_nil → iz, cons_append → j6, drop_eq_nil_iff → jz, flatMap_append → Bh, length_append → io, mem_cons → ie, mem_cons_of_mem → j4, mem_cons_self → ik, mem_nil_iff → j7, mem_of_mem_drop → jh, mem_singleton → ig, nil_append → im
open Nat renaming le_refl → ib, zero_le → ic
namespace Go.Proofs.YtkhblipgiijoiaaGreatDoor
open Go Go.AM
set_option maxHeartbeats 4000000
variable [KR]
def eqN:List ByteArray→List ByteArray→Bool
 |a::l,b::r=>strEq a b&&eqN l r
 |_,_=>true
theorem aBP(w u:Vl ByteArray){i:Nat}{a b:ByteArray}{r t:List ByteArray}{s:St}(hw:w.l.drop i=a::r)(hu:u.l.drop i=b::t)
  (h0:s.eval (.t 0)=some (w.A strA)) (h1:s.eval (.t 1)=some (u.A strA)) (h5:s.eval (.t 5)=some (vI (i:Nat))):
  Run E1 aEZ s fun e s'=>e=.normal∧s'.h=s.h∧s'.defers=s.defers∧s'.eval (.t 0)=s.eval (.t 0)∧s'.eval (.t 1)=s.eval (.t 1)∧s'.eval (.t 5)=s.eval (.t 5)∧s'.eval (.t 25)=some (vB (!strEq a b)):=by
 have k0:=w.at aK hw;have k1:=u.at aK hu;have vi:∀b,ids (AV.val b)=[]:=fun _=>rfl;refine am ?_
 refine bG (R:=[]) rfl (fun x hx=>by cases hx) (fun r hr'=>by cases hr') ?_
 simp-implicitDefEqProofs only[aEY,wpDm,aw,iv,is,footed,V,↓reduceIte,rA,reduceCtorEq,h0,h1,h5,aO Vl.ids,az Vl.ids,k0,k1,bF,show∀l,onlyT [] (some (AV.iptr l))=true from fun _=>rfl,strA,j6,im,aO (vi _),az (vi _)]
theorem Mn(w u:Vl ByteArray)(hN:w.l.length<2^61)(hl:w.l.length=u.l.length):∀(r t:List ByteArray) (i:Nat) (s:St),w.l.drop i=r→u.l.drop i=t→i≤w.l.length→
  s.eval (.t 0)=some (w.A strA)→s.eval (.t 1)=some (u.A strA)→s.eval (.t 5)=some (vI (i:Nat))→s.defers=[]→
  Run E1 Mo s fun e s'=>s'.defers=[]∧s'.h=s.h∧((eqN r t=true∧e=.exit 0)∨(eqN r t=false∧e=.ret∧s'.eval (.t 4)=some (vB false)))
 | [],t,i,s,hd,hu,hi,h0,h1,h5,hf=>by
  have hl':=aG hd hi;subst hl';apply aB (rfl:Mo=.loop El);simp-implicitDefEqProofs only[El,V,↓reduceIte,rA,reduceCtorEq,h0,h5,hf,bA,eqN]
 |a::r,[],i,s,hd,hu,hi,h0,h1,h5,hf=>by
  have x1:=aH hd;have x2:=jz.1 hu;omega
 |a::r,b::t,i,s,hd,hu,hi,h0,h1,h5,hf=>by
  have x1:=aH hd;have hlt:=bD x1;have w1:IntKind.i64.wrap ((i:Int)+1)=((i+1:Nat):Int):=aD (n:=i+1) om;apply aB (rfl:Mo=.loop El);simp-implicitDefEqProofs only[El,V,↓reduceIte,rA,reduceCtorEq,h0,h5,hlt];refine Run.mono (aBP w u hd hu ?_ ?_ ?_) ?_
  ·exact U41
  ·exact U68
  ·exact U114
  rintro e s1 ⟨rfl,e1,e2,e3,e4,e5,e6⟩;simp-implicitDefEqProofs only[V,↓reduceIte,rA,reduceCtorEq,h0,h1,h5,hf] at e1 e2 e3 e4 e5;cases q:strEq a b with
  |false=>
   exact U163
  |true=>
   simp-implicitDefEqProofs only[V,↓reduceIte,e5,e6,q,eqN,w1];refine(Mn w u hN hl r t (i+1) _ (aF hd) (aF hu) om ?_ ?_ ?_ ?_).mono ?_
   ·exact U54
   ·exact U115
   ·exact U36
   ·exact U77
   intro e s2 h;simp-implicitDefEqProofs only[V,e1] at h;exact h
def sameN(l r:List ByteArray):Bool:=decide (l.length=r.length)&&eqN l r
theorem Hf(w u:Vl ByteArray)(hN:w.l.length<2^61)(hU:u.l.length<2^61)(h:AH):RunCall E1 (.f 9) [w.A strA,u.A strA] h (vB (sameN w.l u.l)) h:=by
 refine ai kr aNE (bT Vl.leaf.tree Vl.leaf.tree) rfl (Tree.val _) (fun s hs hh hd hr=>?_) h;have h0:=hs 0 _ rfl;have h1:=hs 1 _ rfl;have q0:decide ((w.l.length:Int)=(u.l.length:Int))=decide (w.l.length=u.l.length):=by rw[decide_eq_decide];omega
 cases q:decide (w.l.length=u.l.length) with
 |false=>
  simp-implicitDefEqProofs only[Vs,f9,V,↓reduceIte,rA,reduceCtorEq,h0,h1,hd,q0,q,sameN]
 |true=>
  simp-implicitDefEqProofs only[Vs,f9,V,↓reduceIte,rA,reduceCtorEq,h0,h1,q0,q,sameN];refine(Mn w u hN (of_decide_eq_true q) w.l u.l 0 _ rfl rfl (ic _) ?_ ?_ ?_ ?_).mono ?_
  ·exact U41
  ·exact U68
  ·exact U58
  ·exact U40
  rintro e s1 ⟨d1,e1,⟨z,rfl⟩|⟨z,rfl,e3⟩⟩
  ·exact U116
  ·exact U117
def numA(n:Int):List AV:=[vI n]
theorem Di(n:Int):(numA n).length=1:=rfl
def eqI:List Int→List Int→Bool
 |a::l,b::r=>decide (a=b)&&eqI l r
 |_,_=>true
theorem Xq(w u:Vl Int){i:Nat}{a b:Int}{r t:List Int}{s:St}(hw:w.l.drop i=a::r)(hu:u.l.drop i=b::t)
  (h0:s.eval (.t 0)=some (w.A numA)) (h1:s.eval (.t 1)=some (u.A numA)) (h5:s.eval (.t 5)=some (vI (i:Nat))):
  Run E1 Xr s fun e s'=>e=.normal∧s'.h=s.h∧s'.defers=s.defers∧s'.eval (.t 0)=s.eval (.t 0)∧s'.eval (.t 1)=s.eval (.t 1)∧s'.eval (.t 5)=s.eval (.t 5)∧s'.eval (.t 25)=some (vB (!decide (a=b))):=by
 have k0:=w.at Di hw;have k1:=u.at Di hu;have vi:∀b,ids (AV.val b)=[]:=fun _=>rfl;refine am ?_
 refine bG (R:=[]) rfl (fun x hx=>by cases hx) (fun r hr'=>by cases hr') ?_
 simp-implicitDefEqProofs only[Xp,wpDm,aw,iv,is,footed,V,↓reduceIte,rA,reduceCtorEq,h0,h1,h5,aO Vl.ids,az Vl.ids,k0,k1,bF,show∀l,onlyT [] (some (AV.iptr l))=true from fun _=>rfl,numA,j6,im,aO (vi _),az (vi _)]
theorem Fu(w u:Vl Int)(hN:w.l.length<2^61)(hl:w.l.length=u.l.length):∀(r t:List Int) (i:Nat) (s:St),w.l.drop i=r→u.l.drop i=t→i≤w.l.length→
  s.eval (.t 0)=some (w.A numA)→s.eval (.t 1)=some (u.A numA)→s.eval (.t 5)=some (vI (i:Nat))→s.defers=[]→
  Run E1 zN s fun e s'=>s'.defers=[]∧s'.h=s.h∧((eqI r t=true∧e=.exit 0)∨(eqI r t=false∧e=.ret∧s'.eval (.t 4)=some (vB false)))
 | [],t,i,s,hd,hu,hi,h0,h1,h5,hf=>by
  have hl':=aG hd hi;subst hl';apply aB (rfl:zN=.loop tX);simp-implicitDefEqProofs only[tX,V,↓reduceIte,rA,reduceCtorEq,h0,h5,hf,bA,eqI]
 |a::r,[],i,s,hd,hu,hi,h0,h1,h5,hf=>by
  have x1:=aH hd;have x2:=jz.1 hu;omega
 |a::r,b::t,i,s,hd,hu,hi,h0,h1,h5,hf=>by
  have x1:=aH hd;have hlt:=bD x1;have w1:IntKind.i64.wrap ((i:Int)+1)=((i+1:Nat):Int):=aD (n:=i+1) om;apply aB (rfl:zN=.loop tX);simp-implicitDefEqProofs only[tX,V,↓reduceIte,rA,reduceCtorEq,h0,h5,hlt];refine Run.mono (Xq w u hd hu ?_ ?_ ?_) ?_
  ·exact U41
  ·exact U68
  ·exact U114
  rintro e s1 ⟨rfl,e1,e2,e3,e4,e5,e6⟩;simp-implicitDefEqProofs only[V,↓reduceIte,rA,reduceCtorEq,h0,h1,h5,hf] at e1 e2 e3 e4 e5;cases q:decide (a=b) with
  |false=>
   simp-implicitDefEqProofs only[V,↓reduceIte,reduceCtorEq,e1,e2,e6,q,eqI]
  |true=>
   simp-implicitDefEqProofs only[V,↓reduceIte,e5,e6,q,eqI,w1];refine(Fu w u hN hl r t (i+1) _ (aF hd) (aF hu) om ?_ ?_ ?_ ?_).mono ?_
   ·exact U54
   ·exact U115
   ·exact U36
   ·exact U77
   intro e s2 h;simp-implicitDefEqProofs only[V,e1] at h;exact h
def sameI(l r:List Int):Bool:=decide (l.length=r.length)&&eqI l r
theorem Ck(w u:Vl Int)(hN:w.l.length<2^61)(hU:u.l.length<2^61)(h:AH):RunCall E1 (.f 14) [w.A numA,u.A numA] h (vB (sameI w.l u.l)) h:=by
 refine ai kr aKA (bT Vl.leaf.tree Vl.leaf.tree) rfl (Tree.val _) (fun s hs hh hd hr=>?_) h;have h0:=hs 0 _ rfl;have h1:=hs 1 _ rfl;have q0:decide ((w.l.length:Int)=(u.l.length:Int))=decide (w.l.length=u.l.length):=by rw[decide_eq_decide];omega
 cases q:decide (w.l.length=u.l.length) with
 |false=>
  simp-implicitDefEqProofs only[Kp,f14,V,↓reduceIte,rA,reduceCtorEq,h0,h1,hd,q0,q,sameI]
 |true=>
  simp-implicitDefEqProofs only[Kp,f14,V,↓reduceIte,rA,reduceCtorEq,h0,h1,q0,q,sameI];refine(Fu w u hN (of_decide_eq_true q) w.l u.l 0 _ rfl rfl (ic _) ?_ ?_ ?_ ?_).mono ?_
  ·exact U41
  ·exact U68
  ·exact U58
  ·exact U40
  rintro e s1 ⟨d1,e1,⟨z,rfl⟩|⟨z,rfl,e3⟩⟩
  ·exact U116
  ·exact U117
def qrs:Nat→List Cl→List Int
 |_,[]=>[]
 |i,c::r=>bif decide (c.hd.op=5) then qrs (i+1) r else(i:Int)::qrs (i+1) r
theorem aOH{c:Cl}{l:List AV}:fieldAddrV 0 (.iptr (c.hd.cells++l))=some (.iptr (c.hd.cells++l)):=rfl
theorem Pc{c:Cl}{l:List AV}:takeN none (c.hd.cells++l)=some (vI c.hd.op):=by rw[c.hd.cells_eq];rfl
theorem tV{lo:Nat}(H:Hn)(hN:H.cs.l.length<2^29)(hlo0:0<lo):∀(r:List Cl) (i:Nat) (L:List Int) (s:St) (v:AV),H.cs.l.drop i=r→i≤H.cs.l.length→L.length≤i→RowC s.h lo L.length 1 v (L.flatMap numA)→lo≤s.h.next→
  s.h.get 0=some (.cells H.cells true)→s.eval (.t 1)=some (.ptr 0 0)→s.eval (.t 3)=some v→s.eval (.t 4)=some (vI (i:Nat))→s.defers=[]→
  Run E1 zK s fun e s'=>e=.exit 0∧(∃v',RowC s'.h lo (L++qrs i r).length 1 v' ((L++qrs i r).flatMap numA)∧s'.eval (.t 3)=some v')∧lo≤s'.h.next∧(∀x,x<lo→s'.h.get x=s.h.get x)∧s'.defers=[]
 | [],i,L,s,v,hd,hi,hL,hr,hlo,g0,h1,h3,h4,hf=>by
  have hl:=aG hd hi;subst hl;apply aB (rfl:zK=.loop mh);simp-implicitDefEqProofs only[mh,V,↓reduceIte,rA,g0,h1,h3,h4,hf,bA,qrs,iz];exact⟨⟨v,hr,rfl⟩,hlo,fun _ _=>trivial⟩
 |c::r,i,L,s,v,hd,hi,hL,hr,hlo,g0,h1,h3,h4,hf=>by
  have hl:=aH hd;have hlt:=bD hl;have w1:IntKind.i64.wrap ((i:Int)+1)=((i+1:Nat):Int):=aD (n:=i+1) om;apply aB (rfl:zK=.loop mh);cases q:decide (c.hd.op=5) with
  |true=>
   simp-implicitDefEqProofs only[mh,V,↓reduceIte,rA,g0,h1,h4,hlt,H.cs.at Cl.len hd,Pd,Pc,q,w1,qrs,cond_true];refine(tV (lo:=lo) H hN hlo0 r (i+1) L _ v (aF hd) om om ?_ ?_ ?_ ?_ ?_ ?_ ?_).mono ?_
   ·exact U118
   ·exact U119
   ·exact U80
   ·exact U68
   ·exact U49
   ·exact U36
   ·exact U69
   rintro e s2 ⟨rfl,⟨v2,r2,g2⟩,n2,o2,d2⟩;simp-implicitDefEqProofs only[V] at o2;exact⟨rfl,⟨v2,r2,g2⟩,n2,o2,d2⟩
  |false=>
   have hb:(L++[(i:Int)]).length=L.length+1:=by rw[io];rfl
   simp-implicitDefEqProofs only[mh,V,↓reduceIte,rA,WF,g0,h1,h3,h4,hlt,H.cs.at Cl.len hd,Pd,Pc,q,qrs,cond_false];refine bt (k:=L.length) (m:=1) (lo:=lo) (v:=v) (x:=.own s.h.next 0 1 1 (some 1)) (cs:=L.flatMap numA) (new:=[vI (i:Nat)]) ?_ ?_ ?_ rfl ?_ (aX om de) ?_ ?_ ?_
   ·exact U120
   ·exact U52
   ·refine aq (rw':=true) ?_ rfl;exact U36
   ·exact fun c hc=>by rw[ig.1 hc];exact Leaf.val _
   ·exact U36
   ·exact U36
   intro v1 h1' r1 n1 o1;simp-implicitDefEqProofs only[V] at n1 o1;have hid:∀x,x<lo→x∉ids v:=fun x hx h=>by have:=(hr.ids x h).1;omega
   have o3:∀x,x<lo→h1'.get x=s.h.get x:=fun x hx=>by
    rw[o1 x om (hid x hx)]
    try rw[if_neg om]
   simp-implicitDefEqProofs only[V,↓reduceIte,rA,h4,w1];refine(tV (lo:=lo) H hN hlo0 r (i+1) (L++[(i:Int)]) _ v1 (aF hd) om om ?_ ?_ ?_ ?_ ?_ ?_ ?_).mono ?_
   ·exact U121
   ·exact U52
   ·simp-implicitDefEqProofs only[V];rw[o3 0 hlo0,g0]
   ·exact U68
   ·exact U36
   ·exact U36
   ·exact U69
   rintro e s2 ⟨rfl,⟨v2,r2,g2⟩,n2,o2,d2⟩;simp-implicitDefEqProofs only[V] at o2;rw[jk] at r2;exact⟨rfl,⟨v2,r2,g2⟩,n2,fun x hx=>by rw[o2 x hx,o3 x hx],d2⟩
theorem RowC.low{h:AH}{lo lo' k es:Nat}{v:AV}{cs:List AV}(r:RowC h lo k es v cs)(hl:lo'≤lo):RowC h lo' k es v cs:=⟨r.1,r.2.1,r.2.2.imp id fun⟨b,b1,b2⟩=>⟨b,om,b2⟩⟩
theorem qf(H:Hn)(hN:H.cs.l.length<2^29)(h:AH):RunCall E1 (.f 16) [.agg H.cells] h ((⟨qrs 0 H.cs.l,nilK,none⟩:Vl Int).A numA) h:=by
 refine bW kr aJY (aN (Tree.hn H)) (fun s hs hh hd hr=>?_) h;have h0:=hs 0 _ rfl;simp-implicitDefEqProofs only[Xl,f16,V,h0,hh];refine(tV (lo:=1) H hN de H.cs.l 0 [] _ (.val (.slice none 0 0)) rfl (ic _) (ib _) RowC.nil ?_ ?_ ?_ ?_ ?_ ?_).mono ?_
 ·exact U122
 ·exact U36
 ·exact U36
 ·exact U36
 ·exact U58
 ·exact U40
 rintro e s1 ⟨rfl,⟨v1,r1,e1⟩,n1,o1,d1⟩;simp-implicitDefEqProofs only[V,↓reduceIte,reduceCtorEq,WB,e1,d1];refine⟨_,rfl,1,de,?_⟩;have:=(r1.low (ic 1)).rep;rw[im] at this;rw[show(bif Nat.beq (qrs 0 H.cs.l).length 0 then AV.val (.slice none 0 0) else .imm ((qrs 0 H.cs.l).flatMap numA) (qrs 0 H.cs.l).length none)=rowT (qrs 0 H.cs.l).length ((qrs 0 H.cs.l).flatMap numA) from rfl,bU rfl] at this;exact this
theorem tW{lo:Nat}(H:Hn)(hN:H.cs.l.length<2^29):∀(r:List Cl) (i:Nat) (L:List Int) (s:St) (v:AV),H.cs.l.drop i=r→i≤H.cs.l.length→L.length≤i→RowC s.h lo L.length 1 v (L.flatMap numA)→lo≤s.h.next→
  s.eval (.t 7)=some (H.cs.A Cl.cells)→s.eval (.t 8)=some (vI (H.cs.l.length:Nat))→s.eval (.t 3)=some v→s.eval (.t 9)=some (vI (i:Nat))→s.defers=[]→
  Run E1 zM s fun e s'=>e=.exit 0∧(∃v',RowC s'.h lo (L++qrs i r).length 1 v' ((L++qrs i r).flatMap numA)∧s'.eval (.t 3)=some v')∧lo≤s'.h.next∧s'.defers=[]
 | [],i,L,s,v,hd,hi,hL,hr,hlo,h7,h8,h3,h9,hf=>by
  have hl:=aG hd hi;subst hl;apply aB (rfl:zM=.loop mi);simp-implicitDefEqProofs only[mi,V,↓reduceIte,rA,h8,h3,h9,hf,bA,qrs,iz];exact⟨⟨v,hr,rfl⟩,hlo⟩
 |c::r,i,L,s,v,hd,hi,hL,hr,hlo,h7,h8,h3,h9,hf=>by
  have hl:=aH hd;have hlt:=bD hl;have w1:IntKind.i64.wrap ((i:Int)+1)=((i+1:Nat):Int):=aD (n:=i+1) om;apply aB (rfl:zM=.loop mi);cases q:decide (c.hd.op=5) with
  |true=>
   simp-implicitDefEqProofs only[mi,V,↓reduceIte,rA,WF,h7,h8,h9,hlt,H.cs.at Cl.len hd,dp,Pc,q,w1,qrs,cond_true];refine(tW (lo:=lo) H hN r (i+1) L _ v (aF hd) om om ?_ ?_ ?_ ?_ ?_ ?_ ?_).mono ?_
   ·exact U123
   ·exact U52
   ·exact U48
   ·exact U124
   ·exact U49
   ·exact U36
   ·exact U69
   intro e s2 h;exact h
  |false=>
   have hb:(L++[(i:Int)]).length=L.length+1:=by rw[io];rfl
   simp-implicitDefEqProofs only[mi,V,↓reduceIte,rA,WF,h7,h8,h3,h9,hlt,H.cs.at Cl.len hd,dp,Pc,q,qrs,cond_false];refine bt (k:=L.length) (m:=1) (lo:=lo) (v:=v) (x:=.own (s.h.next+1) 0 1 1 (some 1)) (cs:=L.flatMap numA) (new:=[vI (i:Nat)]) ?_ ?_ ?_ rfl ?_ (aX om de) ?_ ?_ ?_
   ·exact U125
   ·exact U52
   ·refine aq (rw':=true) ?_ rfl;exact U36
   ·exact fun c hc=>by rw[ig.1 hc];exact Leaf.val _
   ·exact U49
   ·exact U36
   intro v1 h1' r1 n1 o1;simp-implicitDefEqProofs only[V] at n1;simp-implicitDefEqProofs only[V,↓reduceIte,rA,h9,w1];refine(tW (lo:=lo) H hN r (i+1) (L++[(i:Int)]) _ v1 (aF hd) om om ?_ ?_ ?_ ?_ ?_ ?_ ?_).mono ?_
   ·exact U121
   ·exact U52
   ·exact U48
   ·exact U124
   ·exact U36
   ·exact U36
   ·exact U69
   rintro e s2 ⟨rfl,⟨v2,r2,g2⟩,n2,d2⟩;rw[jk] at r2;exact⟨rfl,⟨v2,r2,g2⟩,n2,d2⟩
theorem qg(H:Hn)(hN:H.cs.l.length<2^29)(h:AH):RunCall E1 (.f 15) [.agg H.cells] h ((⟨qrs 0 H.cs.l,nilK,none⟩:Vl Int).A numA) h:=by
 refine bW kr aJZ (aN (Tree.hn H)) (fun s hs hh hd hr=>?_) h;have h0:=hs 0 _ rfl;simp-implicitDefEqProofs only[Xm,f15,V,↓reduceIte,rA,h0,hh];refine(tW (lo:=1) H hN H.cs.l 0 [] _ (.val (.slice none 0 0)) rfl (ic _) (ib _) RowC.nil ?_ ?_ ?_ ?_ ?_ ?_).mono ?_
 ·exact U122
 ·exact U36
 ·exact U36
 ·exact U36
 ·exact U58
 ·exact U40
 rintro e s1 ⟨rfl,⟨v1,r1,e1⟩,n1,d1⟩;simp-implicitDefEqProofs only[V,↓reduceIte,reduceCtorEq,WB,e1,d1];refine⟨_,rfl,1,de,?_⟩;have:=(r1.low (ic 1)).rep;rw[im] at this;rw[show(bif Nat.beq (qrs 0 H.cs.l).length 0 then AV.val (.slice none 0 0) else .imm ((qrs 0 H.cs.l).flatMap numA) (qrs 0 H.cs.l).length none)=rowT (qrs 0 H.cs.l).length ((qrs 0 H.cs.l).flatMap numA) from rfl,bU rfl] at this;exact this
theorem wV(Vx:Evr)(b:ByteArray)(hN:Vx.vs.l.length<2^61):∀(k:Nat) (s:St),k≤Vx.vs.l.length→s.h.get 0=some (.cells Vx.cells true)→s.eval (.t 2)=some (.ptr 0 0)→s.eval (.t 1)=some (vS b)→s.eval (.t 6)=some (vI ((k:Int)-1))→s.defers=[]→
  Run E1 pR s fun e s'=>s'.defers=[]∧((vlk b (Vx.vs.l.take k).reverse=none∧e=.exit 0)∨(∃x,vlk b (Vx.vs.l.take k).reverse=some x∧e=.ret∧s'.eval (.t 4)=some (vS x)∧s'.eval (.t 5)=some (vB true)))
 |0,s,hk,g0,h2,h1,h6,hf=>by
  have c1:decide ((0:Int)≤((0:Nat):Int)-1)=false:=decide_eq_false om;apply aB (rfl:pR=.loop gZ);simp-implicitDefEqProofs only[gZ,V,↓reduceIte,rA,reduceCtorEq,h6,c1,hf,List.take_zero,List.reverse_nil,vlk]
 |k+1,s,hk,g0,h2,h1,h6,hf=>by
  have e6:(((k+1:Nat):Int)-1)=(k:Int):=by omega
  rw[e6] at h6;have c1:decide ((0:Int)≤(k:Int))=true:=decide_eq_true om;obtain⟨v,r,hd⟩:∃v r,Vx.vs.l.drop k=v::r:=⟨Vx.vs.l[k],Vx.vs.l.drop (k+1),List.drop_eq_getElem_cons om⟩;have w1:IntKind.i64.wrap ((k:Int)-1)=(k:Int)-1:=IntWalk.i64_in _ om;rw[zx hd];apply aB (rfl:pR=.loop gZ);cases hq:strEq v.nm b with
  |true=>
   simp-implicitDefEqProofs only[gZ,V,↓reduceIte,rA,reduceCtorEq,h2,h1,h6,g0,c1,hf,Vx.vs.at Vr.len hd,hq,vlk];exact .inr ⟨_,rfl,rfl⟩
  |false=>
   simp-implicitDefEqProofs only[gZ,V,↓reduceIte,rA,h2,h1,h6,g0,c1,Vx.vs.at Vr.len hd,hq,vlk,w1];refine wV Vx b hN k _ om ?_ ?_ ?_ ?_ ?_
   all_goals simp-implicitDefEqProofs only[V,↓reduceIte,rA,h2,h1,g0,hf]
theorem kO(Vx:Evr)(b:ByteArray)(hN:Vx.vs.l.length<2^61)(h:AH):RunCall E1 (.f 173) [.agg Vx.cells,vS b] h (.tup (optR (varS Vx.vs.l b))) h:=by
 have one:oneOrTup (optR (varS Vx.vs.l b))=.tup (optR (varS Vx.vs.l b)):=by cases varS Vx.vs.l b<;>rfl
 have key:=cg (g:=173) (l:=[.agg Vx.cells,vS b]) (rs:=optR (varS Vx.vs.l b)) aBZ fun s hs hh hd=>by
  have h0:=hs 0 _ rfl;have h1:=hs 1 _ rfl;simp-implicitDefEqProofs only[Nk,f173,V,↓reduceIte,rA,h0,hh];have w1:IntKind.i64.wrap (((Vx.vs.l.length:Nat):Int)-1)=((Vx.vs.l.length:Nat):Int)-1:=IntWalk.i64_in _ om;refine(wV Vx b hN Vx.vs.l.length _ (ib _) ?_ ?_ ?_ ?_ ?_).mono ?_
  ·exact U36
  ·exact U36
  ·exact U68
  ·exact U157
  ·exact U40
  rw[List.take_length];rintro e s1 ⟨d1,⟨q,rfl⟩|⟨x,q,rfl,e4,e5⟩⟩
  ·exact U84
  ·exact U85
 rw[one] at key;exact aC kr kr (bT (Tree.ev Vx) (Tree.val _)) (vh _) (vg _) key h
theorem wP(Vx:Evr)(b:ByteArray)(hN:Vx.hs.l.length<2^61):∀(r:List Ho) (i:Nat) (s:St),Vx.hs.l.drop i=r→i≤Vx.hs.l.length→s.h.get 0=some (.cells Vx.cells true)→
  s.h.get 1=some (.cells [vS ⟨#[]⟩,.val (.slice none 0 0)] true)→s.eval (.t 1)=some (vS b)→s.eval (.t 2)=some (.ptr 0 0)→s.eval (.t 4)=some (.ptr 1 0)→s.eval (.t 6)=some (vI (i:Nat))→s.defers=[]→
  Run E1 pG s fun e s'=>s'.defers=[]∧s'.eval (.t 4)=some (.ptr 1 0)∧((hoLk b r=none∧e=.exit 0∧s'.h.get 1=some (.cells [vS ⟨#[]⟩,.val (.slice none 0 0)] true))∨(∃x,hoLk b r=some x∧e=.ret∧s'.eval (.t 5)=some (vB true)∧s'.h.get 1=some (.cells x.cells true)))
 | [],i,s,hd,hi,g0,g1,h1,h2,h4,h6,hf=>by
  have hl:=aG hd hi;subst hl;apply aB (rfl:pG=.loop gV);simp-implicitDefEqProofs only[gV,V,↓reduceIte,rA,reduceCtorEq,g0,h2,h4,h6,hf,bA,hoLk,g1]
 |k::r,i,s,hd,hi,g0,g1,h1,h2,h4,h6,hf=>by
  have hl:=aH hd;have hlt:=bD hl;have w1:IntKind.i64.wrap ((i:Int)+1)=((i+1:Nat):Int):=aD (n:=i+1) om;apply aB (rfl:pG=.loop gV);cases hq:strEq k.nm b with
  |true=>
   simp-implicitDefEqProofs only[gV,V,↓reduceIte,rA,reduceCtorEq,WF,g0,g1,h1,h2,h4,h6,hf,hlt,Vx.hs.at Ho.len hd,bh,hq,hoLk];exact .inr ⟨_,rfl,rfl⟩
  |false=>
   simp-implicitDefEqProofs only[gV,V,↓reduceIte,rA,g0,h1,h2,h6,hlt,Vx.hs.at Ho.len hd,hq,w1,hoLk];refine wP Vx b hN r (i+1) _ (aF hd) om ?_ ?_ ?_ ?_ ?_ ?_ ?_
   all_goals simp-implicitDefEqProofs only[V,↓reduceIte,rA,g0,g1,h1,h2,h4,hf]
theorem uO(Vx:Evr)(b:ByteArray)(hN:Vx.hs.l.length<2^61)(h:AH):
  RunCall E1 (.f 195) [.agg Vx.cells,vS b] h (match hoLk b Vx.hs.l with
   |some x=>.tup [.agg x.cells,vB true]
   |none=>.tup [.agg (Ho.mk ⟨#[]⟩ ⟨[],nilK,none⟩).cells,vB false]) h:=by
 refine Lu kr aBR (bT (Tree.ev Vx) (Tree.val _)) (fun s hs hh hd hr=>?_) h;have h0:=hs 0 _ rfl;have h1:=hs 1 _ rfl;simp-implicitDefEqProofs only[My,f195,V,h0,hh];refine(wP Vx b hN Vx.hs.l 0 _ rfl (ic _) ?_ ?_ ?_ ?_ ?_ ?_ ?_).mono ?_
 ·exact U36
 ·exact U36
 ·exact U68
 ·exact U36
 ·exact U36
 ·exact U58
 ·exact U40
 rintro e s1 ⟨d1,e4,⟨q,rfl,g1⟩|⟨x,q,rfl,e5,g1⟩⟩
 ·exact U91
 ·exact U92
theorem wR(Vx:Evr)(b:ByteArray)(hN:Vx.sy.l.length<2^61):∀(r:List Sm) (i:Nat) (s:St),Vx.sy.l.drop i=r→i≤Vx.sy.l.length→s.h.get 0=some (.cells Vx.cells true)→
  s.h.get 1=some (.cells [vS ⟨#[]⟩,.val (.slice none 0 0),vS ⟨#[]⟩] true)→s.eval (.t 1)=some (vS b)→s.eval (.t 2)=some (.ptr 0 0)→s.eval (.t 4)=some (.ptr 1 0)→s.eval (.t 6)=some (vI (i:Nat))→s.defers=[]→
  Run E1 pJ s fun e s'=>s'.defers=[]∧s'.eval (.t 4)=some (.ptr 1 0)∧((smLk b r=none∧e=.exit 0∧s'.h.get 1=some (.cells [vS ⟨#[]⟩,.val (.slice none 0 0),vS ⟨#[]⟩] true))∨(∃x,smLk b r=some x∧e=.ret∧s'.eval (.t 5)=some (vB true)∧s'.h.get 1=some (.cells x.cells true)))
 | [],i,s,hd,hi,g0,g1,h1,h2,h4,h6,hf=>by
  have hl:=aG hd hi;subst hl;apply aB (rfl:pJ=.loop gW);simp-implicitDefEqProofs only[gW,V,↓reduceIte,rA,reduceCtorEq,g0,h2,h4,h6,hf,bA,smLk,g1]
 |k::r,i,s,hd,hi,g0,g1,h1,h2,h4,h6,hf=>by
  have hl:=aH hd;have hlt:=bD hl;have w1:IntKind.i64.wrap ((i:Int)+1)=((i+1:Nat):Int):=aD (n:=i+1) om;apply aB (rfl:pJ=.loop gW);cases hq:strEq k.nm b with
  |true=>
   simp-implicitDefEqProofs only[gW,V,↓reduceIte,rA,reduceCtorEq,WF,g0,g1,h1,h2,h4,h6,hf,hlt,Vx.sy.at Sm.len hd,cD,hq,smLk];exact .inr ⟨_,rfl,rfl⟩
  |false=>
   simp-implicitDefEqProofs only[gW,V,↓reduceIte,rA,g0,h1,h2,h6,hlt,Vx.sy.at Sm.len hd,hq,w1,smLk];refine wR Vx b hN r (i+1) _ (aF hd) om ?_ ?_ ?_ ?_ ?_ ?_ ?_
   all_goals simp-implicitDefEqProofs only[V,↓reduceIte,rA,g0,g1,h1,h2,h4,hf]
def rsym(sy:List Sm)(b:ByteArray):Option Sm:=bif strEq b sTag then some ⟨sTag,⟨[],nilK,none⟩,sInt⟩ else bif strEq b sVal then some ⟨sVal,⟨[sCell],none,some 1⟩,sInt⟩ else smLk b sy
theorem Ty(sy:List Sm)(b:ByteArray):symS sy b=(rsym sy b).map fun y=>(y.as.l,y.res):=by
 unfold symS rsym;cases strEq b sTag with
 |true=>rfl
 |false=>cases strEq b sVal with
  |true=>rfl
  |false=>rfl
theorem uP(Vx:Evr)(b:ByteArray)(hN:Vx.sy.l.length<2^61)(h:AH):
  RunCall E1 (.f 193) [.agg Vx.cells,vS b] h (match rsym Vx.sy.l b with
   |some x=>.tup [.agg x.cells,vB true]
   |none=>.tup [.agg (Sm.mk ⟨#[]⟩ ⟨[],nilK,none⟩ ⟨#[]⟩).cells,vB false]) h:=by
 refine Lu kr aBT (bT (Tree.ev Vx) (Tree.val _)) (fun s hs hh hd hr=>?_) h;have h0:=hs 0 _ rfl;have h1:=hs 1 _ rfl;have s1e:(⟨#[116,97,103]⟩:ByteArray)=sTag:=rfl;have s2e:(⟨#[118,97,108]⟩:ByteArray)=sVal:=rfl;unfold rsym;cases q1:strEq b sTag with
 |true=>
  simp-implicitDefEqProofs only[pK,f193,V,↓reduceIte,rA,rB,reduceCtorEq,WF,h0,h1,hh,hd,s1e,s2e,q1,vR,qD];exact⟨_,rfl,2,de,eD (b:=.val .nilFunc) (dC (fun v hv=>by
   simp only[ie,j7,or_false] at hv;rcases hv with rfl|rfl|rfl<;>exact Leaf.val _))⟩
 |false=>cases q2:strEq b sVal with
  |true=>
   simp-implicitDefEqProofs only[pK,f193,V,↓reduceIte,rA,rB,reduceCtorEq,WF,h0,h1,hh,hd,s1e,s2e,q1,q2,vR,qD];refine⟨_,rfl,3,de,eD (b:=.val .nilFunc) (Ls (o:=0) ?_ ?_)⟩
   ·exact U58
   ·decide
  |false=>
   simp-implicitDefEqProofs only[pK,f193,V,↓reduceIte,rA,h0,h1,hh,s1e,s2e,q1,q2];refine(wR Vx b hN Vx.sy.l 0 _ rfl (ic _) ?_ ?_ ?_ ?_ ?_ ?_ ?_).mono ?_
   ·exact U36
   ·exact U36
   ·exact U68
   ·exact U36
   ·exact U36
   ·exact U58
   ·exact U40
   rintro e s1 ⟨d1,e4,⟨q,rfl,g1⟩|⟨x,q,rfl,e5,g1⟩⟩
   ·exact U93
   ·exact U94
theorem wO(x:ByteArray)(w:Vl ByteArray)(hN:w.l.length<2^61):∀(r:List ByteArray) (i:Nat) (s:St),w.l.drop i=r→i≤w.l.length→s.eval (.t 0)=some (w.A strA)→s.eval (.t 1)=some (vS x)→s.eval (.t 5)=some (vI (i:Nat))→s.defers=[]→
  Run E1 pF s fun e s'=>s'.defers=[]∧((allS x r=true∧e=.exit 0)∨(allS x r=false∧e=.ret∧s'.eval (.t 4)=some (vB false)))
 | [],i,s,hr,hi,h0,h1,h5,hd=>by
  have hl:=aG hr hi;subst hl;apply aB (rfl:pF=.loop gU);simp-implicitDefEqProofs only[gU,V,↓reduceIte,rA,reduceCtorEq,h0,h5,hd,bA,allS]
 |a::r,i,s,hr,hi,h0,h1,h5,hd=>by
  have hl:=aH hr;have hlt:=bD hl;have w1:IntKind.i64.wrap ((i:Int)+1)=((i+1:Nat):Int):=aD (n:=i+1) om;apply aB (rfl:pF=.loop gU);rw[allS];cases hq:strEq a x with
  |false=>simp-implicitDefEqProofs only[gU,V,↓reduceIte,rA,reduceCtorEq,h0,h1,h5,hd,hlt,w.at aK hr,nG,hq]
  |true=>
   simp-implicitDefEqProofs only[gU,V,↓reduceIte,rA,reduceCtorEq,h0,h1,h5,hlt,w.at aK hr,nG,hq,w1];refine wO x w hN r (i+1) _ (aF hr) om ?_ ?_ ?_ ?_
   all_goals simp-implicitDefEqProofs only[V,↓reduceIte,rA,reduceCtorEq,h0,h1,hd]
theorem kT(x:ByteArray)(w:Vl ByteArray)(hN:w.l.length<2^61)(h:AH):RunCall E1 (.f 196) [w.A strA,vS x] h (vB (allS x w.l)) h:=by
 refine ai kr aBQ (bT Tree.vl (Tree.val _)) rfl (Tree.val _) (fun s hs hh hd hr=>?_) h;have h0:=hs 0 _ rfl;have h1:=hs 1 _ rfl;simp-implicitDefEqProofs only[Mx,f196,V];refine(wO x w hN w.l 0 _ rfl (ic _) ?_ ?_ ?_ ?_).mono ?_
 all_goals try simp-implicitDefEqProofs only[V,↓reduceIte,rA,reduceCtorEq,h0,h1,hd]
 ·rfl
 rintro e s1 ⟨d1,⟨q,rfl⟩|⟨q,rfl,q2⟩⟩
 ·exact U82
 ·exact U83
theorem En(v:Vl ByteArray)(b:ByteArray)(hN:v.l.length<2^61):∀(r:List ByteArray) (i:Nat) (s:St),v.l.drop i=r→i≤v.l.length→s.eval (.t 0)=some (v.A strA)→s.eval (.t 1)=some (vS b)→s.eval (.t 5)=some (vI (i:Nat))→s.defers=[]→
  Run E1 yP s fun e s'=>s'.defers=[]∧((memS b r=false∧e=.exit 0)∨(memS b r=true∧e=.ret∧s'.eval (.t 4)=some (vB true)))
 | [],i,s,hr,hi,h0,h1,h5,hd=>by
  have hl:=aG hr hi;subst hl;apply aB (rfl:yP=.loop mO);simp-implicitDefEqProofs only[mO,V,↓reduceIte,rA,reduceCtorEq,h0,h5,hd,bA,memS]
 |a::r,i,s,hr,hi,h0,h1,h5,hd=>by
  have hl:=aH hr;have hlt:=bD hl;have w1:IntKind.i64.wrap ((i:Int)+1)=((i+1:Nat):Int):=aD (n:=i+1) om;apply aB (rfl:yP=.loop mO);rw[memS,jA];cases hq:strEq a b with
  |true=>simp-implicitDefEqProofs only[mO,V,↓reduceIte,rA,reduceCtorEq,h0,h1,h5,hd,hlt,v.at aK hr,nG,hq]
  |false=>
   simp-implicitDefEqProofs only[mO,V,↓reduceIte,rA,reduceCtorEq,h0,h1,h5,hlt,v.at aK hr,nG,hq,w1];refine En v b hN r (i+1) _ (aF hr) om ?_ ?_ ?_ ?_
   all_goals simp-implicitDefEqProofs only[V,↓reduceIte,rA,reduceCtorEq,h0,h1,hd]
theorem xp(v:Vl ByteArray)(b:ByteArray)(hN:v.l.length<2^61)(h:AH):RunCall E1 (.f 90) [v.A strA,vS b] h (vB (memS b v.l)) h:=by
 refine ai kr aHW (bT Tree.vl (Tree.val _)) rfl (Tree.val _) (fun s hs hh hd hr=>?_) h;have h0:=hs 0 _ rfl;have h1:=hs 1 _ rfl;simp-implicitDefEqProofs only[Vz,f90,V];refine(En v b hN v.l 0 _ rfl (ic _) ?_ ?_ ?_ ?_).mono ?_
 all_goals try simp-implicitDefEqProofs only[V,↓reduceIte,rA,reduceCtorEq,h0,h1,hd]
 ·rfl
 rintro e s1 ⟨d1,⟨q,rfl⟩|⟨q,rfl,q2⟩⟩
 ·exact U82
 ·exact U83
theorem cX(b:ByteArray)(h:AH):RunCall E1 (.f 91) [vS b] h (vI (srtE b)) h:=by
 have hA:=bV b;refine ai kr aHV (aN (Tree.val _)) rfl (Tree.val _) (fun s hs hh hd hr=>?_) h;have h0:=hs 0 _ rfl;unfold srtE;cases q1:strEq b ⟨#[73,110,116]⟩ with
 |true=>simp-implicitDefEqProofs only[mN,f91,V,↓reduceIte,rA,reduceCtorEq,h0,hd,q1]
 |false=>cases q2:strEq b ⟨#[66,111,111,108]⟩ with
  |true=>simp-implicitDefEqProofs only[mN,f91,V,↓reduceIte,rA,reduceCtorEq,h0,hd,q1,q2]
  |false=>cases q3:strEq b ⟨#[67,101,108,108]⟩ with
   |true=>simp-implicitDefEqProofs only[mN,f91,V,↓reduceIte,rA,reduceCtorEq,h0,hd,q1,q2,q3]
   |false=>
    by_cases hz:1≤b.size
    ·have z1:decide ((0:Int)<((b.size:Nat):Int))=true:=decide_eq_true om;obtain⟨c,r,hi,hl⟩:=d4 hz;have hx:=cE hi;obtain⟨l1,e1⟩:∃B,decide (65≤((c.toNat:Nat):Int))=B:=⟨_,rfl⟩;obtain⟨l2,e2⟩:∃B,decide (((c.toNat:Nat):Int)≤90)=B:=⟨_,rfl⟩;have ec:headB capB (bs b)=(l1&&l2):=by rw[hl,←e1,←e2];rfl
     obtain⟨C,hc⟩:∃B,decide (coreA b=0)=B:=⟨_,rfl⟩;rw[ec,hc];cases l1<;>cases l2<;>cases C<;>simp-implicitDefEqProofs only[mN,f91,V,↓reduceIte,rA,reduceCtorEq,ae,h0,hd,q1,q2,q3,z1,aA hA,hc,hx,e1,e2]
    ·have z1:decide ((0:Int)<((b.size:Nat):Int))=false:=decide_eq_false om;have hc:decide (coreA b=0)=false:=decide_eq_false fun e=>hz (w7 e);rw[hc];simp-implicitDefEqProofs only[mN,f91,V,↓reduceIte,rA,reduceCtorEq,ae,h0,hd,q1,q2,q3,z1]
theorem Zj(b:ByteArray):srtE b=0∨srtE b=11:=by
 unfold srtE;cases (strEq b ⟨#[73,110,116]⟩||strEq b ⟨#[66,111,111,108]⟩||strEq b ⟨#[67,101,108,108]⟩) with
 |true=>exact .inl rfl
 |false=>cases (decide (coreA b=0)&&headB capB (bs b)) with
  |true=>exact .inl rfl
  |false=>exact .inr rfl
theorem To{b:ByteArray}(h:decide (srtE b=0)=false):srtE b=11:=(Zj b).resolve_left (of_decide_eq_false h)
theorem Em(y:Sm)(hN:y.as.l.length<2^61):∀(r:List ByteArray) (i:Nat) (s:St),y.as.l.drop i=r→i≤y.as.l.length→
  s.eval (.t 1)=some (.ptr 0 0)→s.h.get 0=some (.cells y.cells true)→s.eval (.t 3)=some (vI (i:Nat))→s.defers=[]→
  Run E1 yO s fun e s'=>s'.defers=[]∧((argE r=0∧e=.exit 0∧s'.h=s.h∧s'.eval (.t 1)=some (.ptr 0 0))∨(argE r=11∧e=.ret∧s'.eval (.t 2)=some (vI 11)))
 | [],i,s,hd,hi,h1,g0,h3,hf=>by
  have hl:=aG hd hi;subst hl;apply aB (rfl:yO=.loop mM);simp-implicitDefEqProofs only[mM,V,↓reduceIte,rA,reduceCtorEq,rD,h1,g0,h3,hf,bA,argE]
 |k::r,i,s,hd,hi,h1,g0,h3,hf=>by
  have hl:=aH hd;have hlt:=bD hl;have w1:IntKind.i64.wrap ((i:Int)+1)=((i+1:Nat):Int):=aD (n:=i+1) om;apply aB (rfl:yO=.loop mM);rw[argE];cases ht:decide (srtE k=0) with
  |false=>
   simp-implicitDefEqProofs only[mM,V,↓reduceIte,rA,reduceCtorEq,h1,g0,h3,hf,hlt,y.as.at aK hd,strA,j6,im,aA (cX k),ht];exact .inr (To ht)
  |true=>
   simp-implicitDefEqProofs only[mM,V,↓reduceIte,rA,h1,g0,h3,hlt,y.as.at aK hd,strA,j6,im,aA (cX k),ht,w1];refine(Em y hN r (i+1) _ (aF hd) om ?_ ?_ ?_ ?_).mono ?_
   all_goals simp-implicitDefEqProofs only[V,↓reduceIte,rA,h1,g0,hf]
   intro e s1 h;exact h
theorem Cn(y:Sm)(hN:y.as.l.length<2^61)(h:AH):RunCall E1 (.f 92) [.agg y.cells] h (vI (symE y)) h:=by
 refine ai kr aHU (aN (Tree.sm y)) rfl (Tree.val _) (fun s hs hh hd hr=>?_) h;have h0:=hs 0 _ rfl;unfold symE;cases hc:decide (coreA y.nm=0) with
 |false=>simp-implicitDefEqProofs only[sj,f92,V,↓reduceIte,rA,reduceCtorEq,h0,hh,hd,aA (bV y.nm),hc]
 |true=>
  cases l1:decide (((y.as.l.length:Nat):Int)<1) with
  |true=>simp-implicitDefEqProofs only[sj,f92,V,↓reduceIte,rA,reduceCtorEq,h0,hh,hd,aA (bV y.nm),hc,l1]
  |false=>cases l2:decide ((6:Int)<((y.as.l.length:Nat):Int)) with
   |true=>simp-implicitDefEqProofs only[sj,f92,V,↓reduceIte,rA,reduceCtorEq,h0,hh,hd,aA (bV y.nm),hc,l1,l2]
   |false=>
    simp-implicitDefEqProofs only[sj,f92,V,↓reduceIte,rA,h0,hh,aA (bV y.nm),hc,l1,l2];refine(Em y hN y.as.l 0 _ rfl (ic _) ?_ ?_ ?_ ?_).mono ?_
    ·exact U36
    ·exact U36
    ·exact U58
    ·exact U40
    rintro e s1 ⟨d1,⟨z,rfl,e1,e2⟩|⟨z,rfl,e2⟩⟩
    ·simp-implicitDefEqProofs only[V] at e1;simp-implicitDefEqProofs only[V,↓reduceIte,reduceCtorEq,WF,d1,e1,e2,aA (cX y.res),z]
    ·simp-implicitDefEqProofs only[V,reduceCtorEq,rD,d1,e2,z]
theorem mI{h:AH}{lo k:Nat}{v:AV}{acc:List ByteArray}(hr:RowC h lo k 1 v (acc.flatMap strA))(hk:acc.length=k)(hN:k<2^61)(b:ByteArray):RunCall E1 (.f 90) [v,vS b] h (vB (memS b acc)) h:=by
 obtain⟨h2,f1,f2,f3,f4⟩:=bm hr;exact ba (xs:=[]) (ys:=[vS b]) kr (fun v hv=>by cases hv) (aN (Tree.val _)) gR.tree f1 f4 rfl (fun h0=>by
  rw[bU hk];exact xp ⟨acc,nilK,none⟩ b (by show acc.length<_;omega) h0)
theorem uE{x:ByteArray}{l:List ByteArray}(h:memS x l=false):addS x l=l++[x]:=by rw[addS,h];rfl
theorem Fg(w:Vl Vr)(hN:w.l.length<2^28){lo:Nat}:∀(r:List Vr) (i:Nat) (s:St) (v:AV) (acc:List ByteArray),w.l.drop i=r→i≤w.l.length→acc.length=i→RowC s.h lo i 1 v (acc.flatMap strA)→lo≤s.h.next→
  s.eval (.t 0)=some (w.A Vr.cells)→s.eval (.t 3)=some v→s.eval (.t 4)=some (vI (i:Nat))→s.defers=[]→
  Run E1 tB s fun e s'=>s'.defers=[]∧((vE acc r=0∧e=.exit 0)∨(vE acc r≠0∧e=.ret∧s'.eval (.t 2)=some (vI (vE acc r))))
 | [],i,s,v,acc,hd,hi,ha,hr,hlo,h0,h3,h4,hf=>by
  have hl:=aG hd hi;subst hl;apply aB (rfl:tB=.loop jM);simp-implicitDefEqProofs only[jM,V,↓reduceIte,rA,reduceCtorEq,h0,h4,hf,bA,vE]
 |k::r,i,s,v,acc,hd,hi,ha,hr,hlo,h0,h3,h4,hf=>by
  have hl:=aH hd;have hlt:=bD hl;have w1:IntKind.i64.wrap ((i:Int)+1)=((i+1:Nat):Int):=aD (n:=i+1) om;have s1e:(⟨#[118]⟩:ByteArray)=sV:=rfl;have hA:=bV k.nm;have hk:=mI hr ha om k.nm;have key:∀(s1:St),s1.h=s.h→s1.eval (.t 0)=some (w.A Vr.cells)→s1.eval (.t 3)=some v→s1.eval (.t 4)=some (vI (i:Nat))→s1.defers=[]→memS k.nm acc=false→
    ∀(s2:St) (v2:AV),RowC s2.h lo (i+1) 1 v2 ((acc++[k.nm]).flatMap strA)→lo≤s2.h.next→s2.eval (.t 0)=some (w.A Vr.cells)→s2.eval (.t 3)=some v2→s2.eval (.t 4)=some (vI ((i+1:Nat):Int))→s2.defers=[]→
    Run E1 tB s2 fun e s'=>s'.defers=[]∧((vE (addS k.nm acc) r=0∧e=.exit 0)∨(vE (addS k.nm acc) r≠0∧e=.ret∧s'.eval (.t 2)=some (vI (vE (addS k.nm acc) r)))):=fun s1 _ _ _ _ _ hm s2 v2 a1 a2 a3 a4 a5 a6=>by
   rw[uE hm];exact Fg w hN r (i+1) s2 v2 (acc++[k.nm]) (aF hd) om (by rw[io,ha];rfl) a1 a2 a3 a4 a5 a6
  apply aB (rfl:tB=.loop jM);rw[vE];obtain⟨Vx,hv⟩:∃B,strEq k.nm sV=B:=⟨_,rfl⟩;obtain⟨C,hc⟩:∃B,decide (coreA k.nm=0)=B:=⟨_,rfl⟩;obtain⟨M,hm⟩:∃B,memS k.nm acc=B:=⟨_,rfl⟩;rw[hm] at hk;rw[hv,hc,hm];cases Vx<;>cases C
  ·simp-implicitDefEqProofs only[jM,V,↓reduceIte,rA,reduceCtorEq,rD,h0,h4,hf,hlt,w.at Vr.len hd,s1e,hv,aA hA,hc];exact .inr de
  all_goals
   cases M with
   |true=>
    simp-implicitDefEqProofs only[jM,V,↓reduceIte,rA,reduceCtorEq,rD,h0,h3,h4,hlt,w.at Vr.len hd,s1e,hv,aA hA,hc];refine aW (v:=vB true) (h':=s.h) ?_ ?_
    ·exact U126
    simp-implicitDefEqProofs only[V,↓reduceIte,reduceCtorEq,hf];exact .inr de
   |false=>
    simp-implicitDefEqProofs only[jM,V,↓reduceIte,rA,reduceCtorEq,h0,h3,h4,hlt,w.at Vr.len hd,s1e,hv,aA hA,hc];refine aW (v:=vB false) (h':=s.h) ?_ ?_
    ·exact U126
    simp-implicitDefEqProofs only[V,↓reduceIte,rA,reduceCtorEq,WF,h0,h3,h4,w.at Vr.len hd];refine bt (k:=i) (m:=1) (lo:=lo) (v:=v) (x:=.own s.h.next 0 1 1 (some 1)) (cs:=acc.flatMap strA) (new:=[vS k.nm]) ?_ ?_ ?_ rfl ?_ (aX om de) ?_ ?_ ?_
    ·exact U120
    ·exact U52
    ·refine aq (rw':=true) ?_ rfl;exact U36
    ·exact fun c hc=>by rw[ig.1 hc];exact Leaf.val _
    ·exact U49
    ·exact U36
    intro v1 h1' r1 n1 o1;simp-implicitDefEqProofs only[V] at n1;have r1':RowC h1' lo (i+1) 1 v1 ((acc++[k.nm]).flatMap strA):=by rw[Bh];exact r1
    cases ht:decide (srtE k.so=0) with
    |false=>
     simp-implicitDefEqProofs only[V,↓reduceIte,rA,reduceCtorEq,h0,h4,hf,w.at Vr.len hd,aA (cX k.so),ht];rw[To ht];exact .inr ⟨de,rfl⟩
    |true=>
     simp-implicitDefEqProofs only[V,↓reduceIte,rA,reduceCtorEq,h0,h4,w.at Vr.len hd,aA (cX k.so),ht,w1];refine key s rfl h0 h3 h4 hf hm _ v1 ?_ ?_ ?_ ?_ ?_ ?_
     ·exact U127
     ·exact U52
     ·exact U41
     ·exact U36
     ·exact U36
     ·exact U69
theorem kN(w:Vl Vr)(hN:w.l.length<2^28)(h:AH):RunCall E1 (.f 62) [w.A Vr.cells] h (vI (varsE w.l)) h:=by
 refine ai kr aIQ (aN Vl.leaf.tree) rfl (Tree.val _) (fun s hs hh hd hr=>?_) h;have h0:=hs 0 _ rfl;unfold varsE;cases hc:decide ((24:Int)<(w.l.length:Nat)) with
 |true=>simp-implicitDefEqProofs only[Jv,f62,V,↓reduceIte,reduceCtorEq,h0,hd,hc]
 |false=>
  simp-implicitDefEqProofs only[Jv,f62,V,↓reduceIte,reduceCtorEq,h0,hc];refine(Fg w hN (lo:=0) w.l 0 _ (.val (.slice none 0 0)) [] rfl (ic _) rfl RowC.nil (ic _) ?_ ?_ ?_ ?_).mono ?_
  ·exact U41
  ·exact U36
  ·exact U58
  ·exact U40
  rintro e s1 ⟨d1,⟨q,rfl⟩|⟨q,rfl,e2⟩⟩
  ·exact U82
  ·exact U102
theorem Ff(w:Vl Sm)(hN:w.l.length<2^28)(hP:∀x∈w.l,x.as.l.length<2^61){lo:Nat}:∀(r:List Sm) (i:Nat) (s:St) (v:AV) (acc:List ByteArray),w.l.drop i=r→i≤w.l.length→acc.length=i→RowC s.h lo i 1 v (acc.flatMap strA)→lo≤s.h.next→
  s.eval (.t 0)=some (w.A Sm.cells)→s.eval (.t 3)=some v→s.eval (.t 4)=some (vI (i:Nat))→s.defers=[]→
  Run E1 tA s fun e s'=>s'.defers=[]∧((yE acc r=0∧e=.exit 0)∨(yE acc r≠0∧e=.ret∧s'.eval (.t 2)=some (vI (yE acc r))))
 | [],i,s,v,acc,hd,hi,ha,hr,hlo,h0,h3,h4,hf=>by
  have hl:=aG hd hi;subst hl;apply aB (rfl:tA=.loop jL);simp-implicitDefEqProofs only[jL,V,↓reduceIte,rA,reduceCtorEq,h0,h4,hf,bA,yE]
 |k::r,i,s,v,acc,hd,hi,ha,hr,hlo,h0,h3,h4,hf=>by
  have hl:=aH hd;have hlt:=bD hl;have w1:IntKind.i64.wrap ((i:Int)+1)=((i+1:Nat):Int):=aD (n:=i+1) om;have hk:=mI hr ha om k.nm;have hmem:=jh (i:=i) (l:=w.l) (a:=k) (by rw[hd];exact ik)
  have key:memS k.nm acc=false→
    ∀(s2:St) (v2:AV),RowC s2.h lo (i+1) 1 v2 ((acc++[k.nm]).flatMap strA)→lo≤s2.h.next→s2.eval (.t 0)=some (w.A Sm.cells)→s2.eval (.t 3)=some v2→s2.eval (.t 4)=some (vI ((i+1:Nat):Int))→s2.defers=[]→
    Run E1 tA s2 fun e s'=>s'.defers=[]∧((yE (addS k.nm acc) r=0∧e=.exit 0)∨(yE (addS k.nm acc) r≠0∧e=.ret∧s'.eval (.t 2)=some (vI (yE (addS k.nm acc) r)))):=fun hm s2 v2 a1 a2 a3 a4 a5 a6=>by
   rw[uE hm];exact Ff w hN hP r (i+1) s2 v2 (acc++[k.nm]) (aF hd) om (by rw[io,ha];rfl) a1 a2 a3 a4 a5 a6
  have hA:=Cn k (hP k hmem);apply aB (rfl:tA=.loop jL);rw[yE];obtain⟨M,hm⟩:∃B,memS k.nm acc=B:=⟨_,rfl⟩;rw[hm] at hk⊢
  cases hc:decide (symE k=0) with
  |false=>
   simp-implicitDefEqProofs only[jL,V,↓reduceIte,rA,reduceCtorEq,h0,h4,hf,hlt,w.at Sm.len hd,aA hA,hc];exact .inr (of_decide_eq_false hc)
  |true=>cases M with
   |true=>
    simp-implicitDefEqProofs only[jL,V,↓reduceIte,rA,reduceCtorEq,rD,h0,h3,h4,hlt,w.at Sm.len hd,aA hA,hc];refine aW (v:=vB true) (h':=s.h) ?_ ?_
    ·exact U126
    simp-implicitDefEqProofs only[V,↓reduceIte,reduceCtorEq,hf];exact .inr de
   |false=>
    simp-implicitDefEqProofs only[jL,V,↓reduceIte,rA,reduceCtorEq,h0,h3,h4,hlt,w.at Sm.len hd,aA hA,hc];refine aW (v:=vB false) (h':=s.h) ?_ ?_
    ·exact U126
    simp-implicitDefEqProofs only[V,↓reduceIte,rA,reduceCtorEq,WF,h0,h3,h4,w.at Sm.len hd];refine bt (k:=i) (m:=1) (lo:=lo) (v:=v) (x:=.own s.h.next 0 1 1 (some 1)) (cs:=acc.flatMap strA) (new:=[vS k.nm]) ?_ ?_ ?_ rfl ?_ (aX om de) ?_ ?_ ?_
    ·exact U120
    ·exact U52
    ·refine aq (rw':=true) ?_ rfl;exact U36
    ·exact fun c hc=>by rw[ig.1 hc];exact Leaf.val _
    ·exact U49
    ·exact U36
    intro v1 h1' r1 n1 o1;simp-implicitDefEqProofs only[V] at n1;have r1':RowC h1' lo (i+1) 1 v1 ((acc++[k.nm]).flatMap strA):=by rw[Bh];exact r1
    simp-implicitDefEqProofs only[V,↓reduceIte,rA,h4,w1];refine key hm _ v1 ?_ ?_ ?_ ?_ ?_ ?_
    ·exact U127
    ·exact U52
    ·exact U41
    ·exact U36
    ·exact U36
    ·exact U69
theorem xU(w:Vl Sm)(hN:w.l.length<2^28)(hP:∀x∈w.l,x.as.l.length<2^61)(h:AH):RunCall E1 (.f 63) [w.A Sm.cells] h (vI (symsE w.l)) h:=by
 refine ai kr aIP (aN Vl.leaf.tree) rfl (Tree.val _) (fun s hs hh hd hr=>?_) h;have h0:=hs 0 _ rfl;unfold symsE;cases hc:decide ((64:Int)<(w.l.length:Nat)) with
 |true=>simp-implicitDefEqProofs only[Ju,f63,V,↓reduceIte,reduceCtorEq,h0,hd,hc]
 |false=>
  simp-implicitDefEqProofs only[Ju,f63,V,↓reduceIte,reduceCtorEq,h0,hc];refine(Ff w hN hP (lo:=0) w.l 0 _ (.val (.slice none 0 0)) [] rfl (ic _) rfl RowC.nil (ic _) ?_ ?_ ?_ ?_).mono ?_
  ·exact U41
  ·exact U36
  ·exact U58
  ·exact U40
  rintro e s1 ⟨d1,⟨q,rfl⟩|⟨q,rfl,e2⟩⟩
  ·exact U82
  ·exact U102
theorem Fe(w:Vl Ho)(hN:w.l.length<2^28)(hP:∀x∈w.l,x.ps.l.length<2^28){lo:Nat}:∀(r:List Ho) (i:Nat) (s:St) (v:AV) (acc:List ByteArray),w.l.drop i=r→i≤w.l.length→acc.length=i→RowC s.h lo i 1 v (acc.flatMap strA)→lo≤s.h.next→
  s.eval (.t 0)=some (w.A Ho.cells)→s.eval (.t 3)=some v→s.eval (.t 4)=some (vI (i:Nat))→s.defers=[]→
  Run E1 s9 s fun e s'=>s'.defers=[]∧((hE acc r=0∧e=.exit 0)∨(hE acc r≠0∧e=.ret∧s'.eval (.t 2)=some (vI (hE acc r))))
 | [],i,s,v,acc,hd,hi,ha,hr,hlo,h0,h3,h4,hf=>by
  have hl:=aG hd hi;subst hl;apply aB (rfl:s9=.loop jK);simp-implicitDefEqProofs only[jK,V,↓reduceIte,rA,reduceCtorEq,h0,h4,hf,bA,hE]
 |k::r,i,s,v,acc,hd,hi,ha,hr,hlo,h0,h3,h4,hf=>by
  have hl:=aH hd;have hlt:=bD hl;have w1:IntKind.i64.wrap ((i:Int)+1)=((i+1:Nat):Int):=aD (n:=i+1) om;have hk:=mI hr ha om k.nm;have hmem:=jh (i:=i) (l:=w.l) (a:=k) (by rw[hd];exact ik)
  have key:memS k.nm acc=false→
    ∀(s2:St) (v2:AV),RowC s2.h lo (i+1) 1 v2 ((acc++[k.nm]).flatMap strA)→lo≤s2.h.next→s2.eval (.t 0)=some (w.A Ho.cells)→s2.eval (.t 3)=some v2→s2.eval (.t 4)=some (vI ((i+1:Nat):Int))→s2.defers=[]→
    Run E1 s9 s2 fun e s'=>s'.defers=[]∧((hE (addS k.nm acc) r=0∧e=.exit 0)∨(hE (addS k.nm acc) r≠0∧e=.ret∧s'.eval (.t 2)=some (vI (hE (addS k.nm acc) r)))):=fun hm s2 v2 a1 a2 a3 a4 a5 a6=>by
   rw[uE hm];exact Fe w hN hP r (i+1) s2 v2 (acc++[k.nm]) (aF hd) om (by rw[io,ha];rfl) a1 a2 a3 a4 a5 a6
  have hA:=bV k.nm;have hv:=kN k.ps (hP k hmem);apply aB (rfl:s9=.loop jK);rw[hE];obtain⟨M,hm⟩:∃B,memS k.nm acc=B:=⟨_,rfl⟩;rw[hm] at hk⊢
  cases hc:decide (coreA k.nm=0) with
  |false=>
   simp-implicitDefEqProofs only[jK,V,↓reduceIte,rA,reduceCtorEq,rD,h0,h4,hf,hlt,w.at Ho.len hd,aA hA,hc];exact .inr de
  |true=>cases M with
   |true=>
    simp-implicitDefEqProofs only[jK,V,↓reduceIte,rA,reduceCtorEq,rD,h0,h3,h4,hlt,w.at Ho.len hd,aA hA,hc];refine aW (v:=vB true) (h':=s.h) ?_ ?_
    ·exact U126
    simp-implicitDefEqProofs only[V,↓reduceIte,reduceCtorEq,hf];exact .inr de
   |false=>
    simp-implicitDefEqProofs only[jK,V,↓reduceIte,rA,reduceCtorEq,h0,h3,h4,hlt,w.at Ho.len hd,aA hA,hc];refine aW (v:=vB false) (h':=s.h) ?_ ?_
    ·exact U126
    simp-implicitDefEqProofs only[V,↓reduceIte,rA,reduceCtorEq,WF,h0,h3,h4,w.at Ho.len hd];refine bt (k:=i) (m:=1) (lo:=lo) (v:=v) (x:=.own s.h.next 0 1 1 (some 1)) (cs:=acc.flatMap strA) (new:=[vS k.nm]) ?_ ?_ ?_ rfl ?_ (aX om de) ?_ ?_ ?_
    ·exact U120
    ·exact U52
    ·refine aq (rw':=true) ?_ rfl;exact U36
    ·exact fun c hc=>by rw[ig.1 hc];exact Leaf.val _
    ·exact U49
    ·exact U36
    intro v1 h1' r1 n1 o1;simp-implicitDefEqProofs only[V] at n1;have r1':RowC h1' lo (i+1) 1 v1 ((acc++[k.nm]).flatMap strA):=by rw[Bh];exact r1
    cases hz:decide (((k.ps.l.length:Nat):Int)=0) with
    |true=>
     simp-implicitDefEqProofs only[V,↓reduceIte,rA,reduceCtorEq,rD,h0,h4,hf,w.at Ho.len hd,hz];exact .inr de
    |false=>cases ht:decide (varsE k.ps.l=0) with
     |false=>
      simp-implicitDefEqProofs only[V,↓reduceIte,rA,reduceCtorEq,h0,h4,hf,w.at Ho.len hd,hz,aA hv,ht];exact .inr (of_decide_eq_false ht)
     |true=>
      simp-implicitDefEqProofs only[V,↓reduceIte,rA,reduceCtorEq,h0,h4,w.at Ho.len hd,hz,aA hv,ht,w1];refine key hm _ v1 ?_ ?_ ?_ ?_ ?_ ?_
      ·exact U127
      ·exact U52
      ·exact U41
      ·exact U36
      ·exact U36
      ·exact U69
theorem uN(w:Vl Ho)(hN:w.l.length<2^28)(hP:∀x∈w.l,x.ps.l.length<2^28)(h:AH):RunCall E1 (.f 64) [w.A Ho.cells] h (vI (holesE w.l)) h:=by
 refine ai kr aIO (aN Vl.leaf.tree) rfl (Tree.val _) (fun s hs hh hd hr=>?_) h;have h0:=hs 0 _ rfl;unfold holesE;cases hc:decide ((40:Int)<(w.l.length:Nat)) with
 |true=>simp-implicitDefEqProofs only[Jt,f64,V,↓reduceIte,reduceCtorEq,h0,hd,hc]
 |false=>
  simp-implicitDefEqProofs only[Jt,f64,V,↓reduceIte,reduceCtorEq,h0,hc];refine(Fe w hN hP (lo:=0) w.l 0 _ (.val (.slice none 0 0)) [] rfl (ic _) rfl RowC.nil (ic _) ?_ ?_ ?_ ?_).mono ?_
  ·exact U41
  ·exact U36
  ·exact U58
  ·exact U40
  rintro e s1 ⟨d1,⟨q,rfl⟩|⟨q,rfl,e2⟩⟩
  ·exact U82
  ·exact U102
theorem nM(Vx:Evr)(hV:Vx.vs.l.length<2^28)(hY:Vx.sy.l.length<2^28)(hYP:∀x∈Vx.sy.l,x.as.l.length<2^61)(hN:Vx.hs.l.length<2^28)(hP:∀x∈Vx.hs.l,x.ps.l.length<2^28)(h:AH):
  RunCall E1 (.f 35) [.agg Vx.cells] h (vI (envE Vx)) h:=by
 have c1:=kN Vx.vs hV;have c2:=xU Vx.sy hY hYP;have c3:=uN Vx.hs hN hP;refine ai kr aJN (aN (Tree.ev Vx)) rfl (Tree.val _) (fun s hs hh hd hr=>?_) h;have h0:=hs 0 _ rfl;unfold envE;cases q1:decide (varsE Vx.vs.l=0) with
 |false=>simp-implicitDefEqProofs only[y8,f35,V,↓reduceIte,rA,reduceCtorEq,h0,hh,hd,aA c1,q1]
 |true=>cases q2:decide (symsE Vx.sy.l=0) with
  |false=>simp-implicitDefEqProofs only[y8,f35,V,↓reduceIte,rA,reduceCtorEq,h0,hh,hd,aA c1,aA c2,q1,q2]
  |true=>simp-implicitDefEqProofs only[y8,f35,V,↓reduceIte,rA,reduceCtorEq,h0,hh,hd,aA c1,aA c2,aA c3,q1,q2]
theorem Sa{s:St}{p q:Pr}{i:Nat}{k k':Pr}{r r':List Pr}{x:Bool}(h1:p.ks.drop i=k::r)(h2:q.ks.drop i=k'::r')(hc:∀h,RunCall E1 (.f 110) [k.av,k'.av] h (vB x) h)
  (hn:1<s.h.next) (g0:s.h.get 0=some (.cells p.cells true)) (g1:s.h.get 1=some (.cells q.cells true)) (e2:s.eval (.t 2)=some (.ptr 0 0)) (e3:s.eval (.t 3)=some (.ptr 1 0)) (e5:s.eval (.t 5)=some (vI (i:Nat))):
  Run E1 Oy s fun e s'=>e=.normal∧s'.h=s.h∧s'.defers=s.defers∧s'.eval (.t 2)=s.eval (.t 2)∧s'.eval (.t 3)=s.eval (.t 3)∧s'.eval (.t 36)=s.eval (.t 36)∧s'.eval (.t 37)=s.eval (.t 37)∧s'.eval (.t 51)=some (vB (!x)):=by
 have vi:∀b,ids (AV.val b)=[]:=fun _=>rfl;have n0:∀o,niceT s.h (some (.ptr 0 o))=true:=fun o=>bj om g0 (by rw[p.ids0];rfl)
 have n1:∀o,niceT s.h (some (.ptr 1 o))=true:=fun o=>bj hn g1 (by rw[q.ids0];rfl)
 have o0:∀o,onlyT [0,1] (some (.ptr 0 o))=true:=fun o=>bu (by simp[memN])
 have o1:∀o,onlyT [0,1] (some (.ptr 1 o))=true:=fun o=>bu (by simp[memN])
 have pi:ids p.kids=[]:=(Leaf.kids p).ids;have qi:ids q.kids=[]:=(Leaf.kids q).ids;refine am ?_
 refine bG (R:=[0,1]) rfl (fun x hx=>by cases hx) (fun r hr'=>by
  simp only[ie,j7,or_false] at hr';omega) ?_
 simp-implicitDefEqProofs only[Ox,wpDm,aw,iv,is,footed,V,↓reduceIte,rA,e2,e3,e5,g0,g1,n0,n1,o0,o1,aO pi,aO qi,aO k.idsA,ab k.idsA,aO k'.idsA,ab k'.idsA,dJ p i k r h1,dJ q i k' r' h2,bF,aV,show∀l,onlyT [0,1] (some (AV.iptr l))=true from fun _=>rfl,az (vi _)];refine⟨_,hc,?_⟩;simp-implicitDefEqProofs only[V,↓reduceIte,rA,aV];exact⟨e2,e3⟩
theorem wx(p q:Pr)(hN:p.ks.length<2^61)(hl:p.ks.length=q.ks.length):∀(r r':List Pr) (i:Nat) (s:St),p.ks.drop i=r→q.ks.drop i=r'→i≤p.ks.length→(∀k∈r,∀k' h,RunCall E1 (.f 110) [k.av,k'.av] h (vB (k.same k')) h)→
  1<s.h.next→s.h.get 0=some (.cells p.cells true)→s.h.get 1=some (.cells q.cells true)→s.eval (.t 2)=some (.ptr 0 0)→s.eval (.t 3)=some (.ptr 1 0)→s.eval (.t 36)=some (vI (p.ks.length:Nat))→s.eval (.t 37)=some (vI (i:Nat))→s.defers=[]→
  Run E1 py s fun e s'=>s'.defers=[]∧((Pr.sameL r r'=true∧e=.exit 0)∨(Pr.sameL r r'=false∧e=.ret∧s'.eval (.t 4)=some (vB false)))
 | [],r',i,s,hr,hr',hi,hc,hn,g0,g1,h2,h3,h36,h37,hd=>by
  have hl:=aG hr hi;subst hl;apply aB (rfl:py=.loop lK);simp-implicitDefEqProofs only[lK,V,↓reduceIte,rA,reduceCtorEq,h36,h37,hd,bA,Pr.sameL]
 |k::r,[],i,s,hr,hr',hi,hc,hn,g0,g1,h2,h3,h36,h37,hd=>by
  have h3:=aH hr;have:=aG hr' om;omega
 |k::r,k'::r',i,s,hr,hr',hi,hc,hn,g0,g1,h2,h3,h36,h37,hd=>by
  have hlt:=bD (aH hr);have hll:=aH hr;have w1:IntKind.i64.wrap ((i:Int)+1)=((i+1:Nat):Int):=aD (n:=i+1) om;apply aB (rfl:py=.loop lK);simp-implicitDefEqProofs only[lK,V,↓reduceIte,rA,h36,h37,hlt];refine(Sa hr hr' (hc k ik k') ?_ ?_ ?_ ?_ ?_ ?_).mono ?_
  ·exact U128
  ·exact U80
  ·exact U109
  ·exact U63
  ·exact U49
  ·exact U36
  rintro e s1 ⟨rfl,x1,x2,x3,x4,x5,x6,x7⟩;simp-implicitDefEqProofs only[V,↓reduceIte,rA,h2,h3,h36,h37,hd] at x1 x2 x3 x4 x5 x6;rw[Pr.sameL];cases hs:k.same k' with
  |false=>
   rw[hs] at x7;simp-implicitDefEqProofs only[V,↓reduceIte,reduceCtorEq,x2,x7]
  |true=>
   rw[hs] at x7;simp-implicitDefEqProofs only[V,↓reduceIte,x6,x7,w1];refine wx p q hN hl r r' (i+1) _ (aF hr) (aF hr') om (fun k0 h0=>hc k0 (j4 _ h0)) ?_ ?_ ?_ ?_ ?_ ?_ ?_ ?_
   ·simp-implicitDefEqProofs only[V,x1];exact hn
   ·simp-implicitDefEqProofs only[V,x1,g0]
   ·simp-implicitDefEqProofs only[V,x1,g1]
   ·simp-implicitDefEqProofs only[V,↓reduceIte,rA,x3]
   ·simp-implicitDefEqProofs only[V,↓reduceIte,rA,x4]
   ·simp-implicitDefEqProofs only[V,↓reduceIte,rA,x5]
   ·exact U36
   ·simp-implicitDefEqProofs only[V,x2]
theorem Hm(p q:Pr)(hN:p.ks.length<2^61)(hc:∀k∈p.ks,∀k' h,RunCall E1 (.f 110) [k.av,k'.av] h (vB (k.same k')) h)(h:AH):
  RunCall E1 (.f 110) [p.av,q.av] h (vB (decide (p.op=q.op)&&(strEq p.nm q.nm&&(decide (p.n=q.n)&&(decide (p.ks.length=q.ks.length)&&Pr.sameL p.ks q.ks))))) h:=by
 refine ai kr aDS (bT (Tree.pr p) (Tree.pr q)) rfl (Tree.val _) (fun s hs hh hd hr=>?_) h;have h0:=hs 0 _ rfl;have h1:=hs 1 _ rfl;cases a:decide (p.op=q.op) with
 |false=>simp-implicitDefEqProofs only[hG,f110,V,↓reduceIte,rA,reduceCtorEq,h0,h1,hh,hd,a]
 |true=>cases b:strEq p.nm q.nm with
  |false=>simp-implicitDefEqProofs only[hG,f110,V,↓reduceIte,rA,reduceCtorEq,h0,h1,hh,hd,a,b]
  |true=>cases c:decide (p.n=q.n) with
   |false=>simp-implicitDefEqProofs only[hG,f110,V,↓reduceIte,rA,reduceCtorEq,h0,h1,hh,hd,a,b,c]
   |true=>
    by_cases hl:p.ks.length=q.ks.length
    ·have hne:decide (((p.ks.length:Nat):Int)=(q.ks.length:Nat))=true:=decide_eq_true om;have hle:decide (p.ks.length=q.ks.length)=true:=decide_eq_true hl;simp-implicitDefEqProofs only[hG,f110,V,↓reduceIte,rA,reduceCtorEq,h0,h1,hh,a,b,c,hne,hle];refine(wx p q hN hl p.ks q.ks 0 _ rfl rfl (ic _) hc ?_ ?_ ?_ ?_ ?_ ?_ ?_ ?_).mono ?_
     ·exact U129
     ·exact U36
     ·exact U36
     ·exact U36
     ·exact U36
     ·exact U36
     ·exact U58
     ·exact U40
     rintro e s1 ⟨d1,⟨q1,rfl⟩|⟨q1,rfl,q2⟩⟩
     ·exact U64
     ·exact U59
    ·have hne:decide (((p.ks.length:Nat):Int)=(q.ks.length:Nat))=false:=decide_eq_false om;have hle:decide (p.ks.length=q.ks.length)=false:=decide_eq_false hl;simp-implicitDefEqProofs only[hG,f110,V,↓reduceIte,rA,reduceCtorEq,h0,h1,hh,hd,a,b,c,hne,hle]
mutual
theorem dB:∀(p:Pr),p.nodes<2^61→∀q h,RunCall E1 (.f 110) [p.av,q.av] h (vB (p.same q)) h
 |.mk o s n ks nl cap,hb,q,h=>by
  have hb':1+Pr.nodesL ks<2^61:=hb;have hk:ks.length≤Pr.nodesL ks:=an ks;rw[Pr.same];exact Hm (.mk o s n ks nl cap) q (by show ks.length<_;omega) (fX ks om) h
theorem fX:∀(l:List Pr),Pr.nodesL l<2^61→∀k∈l,∀q h,RunCall E1 (.f 110) [k.av,q.av] h (vB (k.same q)) h
 | [],_,k,hk,_,_=>by cases hk
 |p::r,hb,k,hk,q,h=>by
  have hb':p.nodes+Pr.nodesL r<2^61:=hb;rcases ie.1 hk with e|hk
  ·have:=dB p om q h;rw[e];exact this
  ·exact fX r om k hk q h
end
theorem xK(h:AH):RunCall E1 (.f 139) [] h tPr.av h:=by
 refine bW kr aCT (fun v hv=>by cases hv) (fun s hs hh hd hr=>?_) h
 simp-implicitDefEqProofs only[Oc,f139,V,↓reduceIte,reduceCtorEq,WF,hh,hd];exact⟨_,rfl,1,de,dC tPr.leaves⟩
theorem Vv{s:St}{p:Pr}{B:Nat}(hb:p.nodes<2^61)(hB:B<s.h.next)(g:s.h.get B=some (.cells p.cells true))(h1:s.eval (.t 1)=some (.ptr B 0)):
  Run E1 Vw s fun e s'=>e=.normal∧s'.eval (.t 2)=some (vB p.void)∧s'.h=s.h∧s'.defers=s.defers:=by
 have n1:∀o,niceT s.h (some (.ptr B o))=true:=fun o=>bj hB g (by rw[p.ids0];rfl)
 have o1:∀o,onlyT [B] (some (.ptr B o))=true:=fun o=>bu (by simp[memN])
 have c0:∀h,RunCall E1 (.f 110) [p.av,.agg [vI 0,vS ⟨#[]⟩,vI 0,.val (.slice none 0 0)]] h (vB (p.same zPr)) h:=dB p hb zPr;have c1:∀h,RunCall E1 (.f 110) [p.av,tPr.av] h (vB (p.same tPr)) h:=dB p hb tPr;have zi:ids (AV.agg [vI 0,vS ⟨#[]⟩,vI 0,.val (.slice none 0 0)])=[]:=rfl;have bi:∀b,ids (AV.val (.bool b))=[]:=fun _=>rfl;have ui:ids undefA=[]:=rfl;have ev:p.void=(p.same tPr||p.same zPr):=by rw[Pr.void,Bool.or_comm]
 refine am ?_
 show DrawTo E1 Jh [] s _;refine bG (R:=[B]) rfl (fun x hx=>by cases hx) (fun r hr'=>by rw[ig.1 hr'];exact hB) ?_
 rw[ev];simp-implicitDefEqProofs only[Jh,wpDm,aw,cq,iv,is,footed,V,↓reduceIte,rA,WF,h1,g,n1,o1,aO p.idsA,ab p.idsA,aO zi,ab zi];refine⟨_,xK,?_⟩;simp-implicitDefEqProofs only[V,aO tPr.idsA,ab tPr.idsA,aO ui,ab ui];cases hz:p.same tPr with
 |true=>
  rw[hz] at c1;refine⟨_,c1,?_⟩;exact U164
 |false=>
  rw[hz] at c1;refine⟨_,c1,?_⟩;simp-implicitDefEqProofs only[fT,V,↓reduceIte,aO (bi _),ab (bi _),az (bi _),aO ui];refine⟨_,c0,?_⟩;exact U164
theorem kM(p:Pr)(hb:p.nodes<2^61)(h:AH):RunCall E1 (.f 95) [p.av] h (vB p.void) h:=by
 refine ai kr aHR (aN (Tree.pr p)) rfl (Tree.val _) (fun s hs hh hd hr=>?_) h;have h0:=hs 0 _ rfl;simp-implicitDefEqProofs only[Vu,f95,V,h0,hh];refine(Vv (p:=p) (B:=0) hb ?_ ?_ ?_).mono ?_
 ·exact U60
 ·exact U36
 ·exact U36
 rintro e s1 ⟨rfl,e2,e3,e4⟩;simp-implicitDefEqProofs only[V,hd] at e4;exact U154
theorem Ru(w u:Vl ByteArray){i:Nat}{a b:ByteArray}{r t:List ByteArray}{s:St}(hw:w.l.drop i=a::r)(hu:u.l.drop i=b::t)
  (h0:s.eval (.t 0)=some (w.A strA)) (h1:s.eval (.t 1)=some (u.A strA)) (h5:s.eval (.t 5)=some (vI (i:Nat))):
  Run E1 Nc s fun e s'=>e=.normal∧s'.h=s.h∧s'.defers=s.defers∧s'.eval (.t 0)=s.eval (.t 0)∧s'.eval (.t 1)=s.eval (.t 1)∧s'.eval (.t 5)=s.eval (.t 5)∧s'.eval (.t 25)=some (vB (!strEq a b)):=by
 have k0:=w.at aK hw;have k1:=u.at aK hu;have vi:∀b,ids (AV.val b)=[]:=fun _=>rfl;refine am ?_
 refine bG (R:=[]) rfl (fun x hx=>by cases hx) (fun r hr'=>by cases hr') ?_
 simp-implicitDefEqProofs only[Mz,wpDm,aw,iv,is,footed,V,↓reduceIte,rA,reduceCtorEq,h0,h1,h5,aO Vl.ids,az Vl.ids,k0,k1,bF,show∀l,onlyT [] (some (AV.iptr l))=true from fun _=>rfl,strA,j6,im,aO (vi _),az (vi _)]
theorem wQ(w u:Vl ByteArray)(hN:w.l.length<2^61)(hl:w.l.length=u.l.length):∀(r t:List ByteArray) (i:Nat) (s:St),w.l.drop i=r→u.l.drop i=t→i≤w.l.length→
  s.eval (.t 0)=some (w.A strA)→s.eval (.t 1)=some (u.A strA)→s.eval (.t 5)=some (vI (i:Nat))→s.defers=[]→
  Run E1 pH s fun e s'=>s'.defers=[]∧s'.h=s.h∧((eqN r t=true∧e=.exit 0)∨(eqN r t=false∧e=.ret∧s'.eval (.t 4)=some (vB false)))
 | [],t,i,s,hd,hu,hi,h0,h1,h5,hf=>by
  have hl':=aG hd hi;subst hl';apply aB (rfl:pH=.loop kp);simp-implicitDefEqProofs only[kp,V,↓reduceIte,rA,reduceCtorEq,h0,h5,hf,bA,eqN]
 |a::r,[],i,s,hd,hu,hi,h0,h1,h5,hf=>by
  have x1:=aH hd;have x2:=jz.1 hu;omega
 |a::r,b::t,i,s,hd,hu,hi,h0,h1,h5,hf=>by
  have x1:=aH hd;have hlt:=bD x1;have w1:IntKind.i64.wrap ((i:Int)+1)=((i+1:Nat):Int):=aD (n:=i+1) om;apply aB (rfl:pH=.loop kp);simp-implicitDefEqProofs only[kp,V,↓reduceIte,rA,reduceCtorEq,h0,h5,hlt];refine Run.mono (Ru w u hd hu ?_ ?_ ?_) ?_
  ·exact U41
  ·exact U68
  ·exact U114
  rintro e s1 ⟨rfl,e1,e2,e3,e4,e5,e6⟩;simp-implicitDefEqProofs only[V,↓reduceIte,rA,reduceCtorEq,h0,h1,h5,hf] at e1 e2 e3 e4 e5;cases q:strEq a b with
  |false=>
   exact U163
  |true=>
   simp-implicitDefEqProofs only[V,↓reduceIte,e5,e6,q,eqN,w1];refine(wQ w u hN hl r t (i+1) _ (aF hd) (aF hu) om ?_ ?_ ?_ ?_).mono ?_
   ·exact U54
   ·exact U115
   ·exact U36
   ·exact U77
   intro e s2 h;simp-implicitDefEqProofs only[V,e1] at h;exact h
theorem xP(w u:Vl ByteArray)(hN:w.l.length<2^61)(hU:u.l.length<2^61)(h:AH):RunCall E1 (.f 194) [w.A strA,u.A strA] h (vB (sameN w.l u.l)) h:=by
 refine ai kr aBS (bT Vl.leaf.tree Vl.leaf.tree) rfl (Tree.val _) (fun s hs hh hd hr=>?_) h;have h0:=hs 0 _ rfl;have h1:=hs 1 _ rfl;have q0:decide ((w.l.length:Int)=(u.l.length:Int))=decide (w.l.length=u.l.length):=by rw[decide_eq_decide];omega
 cases q:decide (w.l.length=u.l.length) with
 |false=>
  simp-implicitDefEqProofs only[zI,f194,V,↓reduceIte,rA,reduceCtorEq,h0,h1,hd,q0,q,sameN]
 |true=>
  simp-implicitDefEqProofs only[zI,f194,V,↓reduceIte,rA,reduceCtorEq,h0,h1,q0,q,sameN];refine(wQ w u hN (of_decide_eq_true q) w.l u.l 0 _ rfl rfl (ic _) ?_ ?_ ?_ ?_).mono ?_
  ·exact U41
  ·exact U68
  ·exact U58
  ·exact U40
  rintro e s1 ⟨d1,e1,⟨z,rfl⟩|⟨z,rfl,e3⟩⟩
  ·exact U116
  ·exact U117
theorem Pa:∀(l r:List ByteArray),l.length=r.length→eqN l r=eqS l r
 | [],[],_=>rfl
 |a::l,b::r,h=>by
  rw[eqN,eqS,Pa l r (by simpa using h)]
 | [],_::_,h=>by cases h
 |_::_,[],h=>by cases h
theorem xb(Vx:Evr)(b:ByteArray)(w:Vl ByteArray)(hN:Vx.sy.l.length<2^61)(hP:∀x∈Vx.sy.l,x.as.l.length<2^31)(hw:w.l.length<2^61)(h:AH):
  RunCall E1 (.f 174) [.agg Vx.cells,vS b,w.A strA] h (ansA (appS Vx.sy.l b w.l)) h:=by
 have fc:=uP Vx b hN;refine aC kr kr (Dt (Tree.ev Vx) (Tree.val _) Vl.leaf.tree) rfl (br _) (cg (rs:=[vS ((appS Vx.sy.l b w.l).1),vI ((appS Vx.sy.l b w.l).2)]) aBY fun s hs hh hd=>?_) h;have h0:=hs 0 _ rfl;have h1:=hs 1 _ rfl;have h2:=hs 2 _ rfl;have s1e:(⟨#[116,97,103]⟩:ByteArray)=sTag:=rfl;have s2e:(⟨#[73,110,116]⟩:ByteArray)=sInt:=rfl;unfold appS;rw[Ty];cases hx:rsym Vx.sy.l b with
 |none=>
  rw[hx] at fc;simp-implicitDefEqProofs only[ku,f174,V,↓reduceIte,rA,reduceCtorEq,WF,h0,h1,hh,hd,aA fc,cD];rfl
 |some y=>
  rw[hx] at fc;simp only[Option.map_some];cases ht:strEq b sTag with
  |true=>
   have hy:y.res=sInt:=by
    unfold rsym at hx;rw[ht] at hx;simp only[cond_true,sI] at hx;rw[←hx]
   rw[hy];cases hk:decide ((w.l.length:Int)=1) with
   |false=>
    exact U165
   |true=>
    obtain⟨k,hwk⟩:∃k,w.l=[k]:=by
     have:=of_decide_eq_true hk
     match hq:w.l,(show w.l.length=1 by omega) with
     | [k],_=>exact⟨k,rfl⟩
    have ka:=w.at aK (i:=0) (k:=k) (r:=[]) (by rw[hwk];rfl)
    have e1:hdS w.l=k:=by rw[hwk];rfl
    have e2:strA k++List.flatMap strA []=[vS k]:=rfl;rw[e1];rw[e2] at ka;obtain⟨a1,q1⟩:∃B,strEq k ⟨#[73,110,116]⟩=B:=⟨_,rfl⟩;obtain⟨a2,q2⟩:∃B,strEq k ⟨#[66,111,111,108]⟩=B:=⟨_,rfl⟩;obtain⟨a3,q3⟩:∃B,strEq k ⟨#[67,101,108,108]⟩=B:=⟨_,rfl⟩;have q1':strEq k sInt=a1:=q1;have ep:plainS k=(a1||(a2||a3)):=by rw[plainS,q1,q2,q3]
    rw[ep];cases a1<;>cases a2<;>cases a3<;>simp-implicitDefEqProofs only[ku,f174,V,↓reduceIte,rA,reduceCtorEq,WF,h0,h1,h2,hh,hd,aA fc,cD,s1e,s2e,ht,hk,ka,q1',q2,q3]
  |false=>
   cases hk:decide ((w.l.length:Int)=(y.as.l.length:Nat)) with
   |false=>
    exact U165
   |true=>
    have hlen:w.l.length=y.as.l.length:=by have:=of_decide_eq_true hk;omega
    have hs:=xP w y.as hw om;have es:sameN w.l y.as.l=eqS w.l y.as.l:=by rw[sameN,decide_eq_true hlen,Bool.true_and,Pa _ _ hlen]
    rw[es] at hs;obtain⟨B,eb⟩:∃B,eqS w.l y.as.l=B:=⟨_,rfl⟩;rw[eb] at hs⊢
    cases B<;>simp-implicitDefEqProofs only[ku,f174,V,↓reduceIte,rA,reduceCtorEq,WF,h0,h1,h2,hh,hd,aA fc,cD,s1e,ht,hk,aA hs]
theorem Rw(w:Vl ByteArray)(y:Ho){i:Nat}{a:ByteArray}{v:Vr}{r:List ByteArray}{t:List Vr}{s:St}(hw:w.l.drop i=a::r)(hy:y.ps.l.drop i=v::t)(hn:1<s.h.next)(g1:s.h.get 1=some (.cells y.cells true))
  (h2:s.eval (.t 2)=some (w.A strA)) (h8:s.eval (.t 8)=some (.ptr 1 0)) (h10:s.eval (.t 10)=some (vI (i:Nat))):
  Run E1 Nj s fun e s'=>e=.normal∧s'.h=s.h∧s'.defers=s.defers∧s'.eval (.t 2)=s.eval (.t 2)∧s'.eval (.t 8)=s.eval (.t 8)∧s'.eval (.t 10)=s.eval (.t 10)∧s'.eval (.t 41)=some (vB (!strEq a v.so)):=by
 have k0:=w.at aK hw;have k1:=y.ps.at Vr.len hy;have vi:∀b,ids (AV.val b)=[]:=fun _=>rfl;have n1:∀o,niceT s.h (some (.ptr 1 o))=true:=fun o=>bj hn g1 (by rw[y.ids0];rfl)
 have o1:∀o,onlyT [1] (some (.ptr 1 o))=true:=fun o=>bu (by simp[memN])
 refine am ?_
 refine bG (R:=[1]) rfl (fun x hx=>by cases hx) (fun r hr'=>by rw[ig.1 hr'];exact hn) ?_
 simp-implicitDefEqProofs only[Ni,wpDm,aw,iv,is,footed,V,↓reduceIte,rA,h2,h8,h10,g1,n1,o1,aO Vl.ids,az Vl.ids,k0,k1,bF,show∀l,onlyT [1] (some (AV.iptr l))=true from fun _=>rfl,strA,j6,im,aO (vi _),az (vi _)]
theorem wU(y:Ho)(w:Vl ByteArray)(hN:w.l.length<2^61)(hlen:w.l.length=y.ps.l.length):∀(r:List ByteArray) (q:List Vr) (i:Nat) (s:St),w.l.drop i=r→y.ps.l.drop i=q→i≤w.l.length→1<s.h.next→s.h.get 1=some (.cells y.cells true)→
  s.eval (.t 8)=some (.ptr 1 0)→s.eval (.t 2)=some (w.A strA)→s.eval (.t 10)=some (vI (i:Nat))→s.defers=[]→
  Run E1 pP s fun e s'=>s'.defers=[]∧((eqS r (q.map Vr.so)=true∧e=.exit 0)∨(eqS r (q.map Vr.so)=false∧e=.ret∧s'.eval (.t 6)=some (vS ⟨#[]⟩)∧s'.eval (.t 7)=some (vI 11)))
 | [],q,i,s,hd,hq,hi,hn,g1,h8,h2,h10,hf=>by
  have hl:=aG hd hi;subst hl;apply aB (rfl:pP=.loop kq);simp-implicitDefEqProofs only[kq,V,↓reduceIte,rA,reduceCtorEq,h2,h10,hf,bA,eqS]
 |k::r,q,i,s,hd,hq,hi,hn,g1,h8,h2,h10,hf=>by
  have hl:=aH hd;have hlt:=bD hl;have w1:IntKind.i64.wrap ((i:Int)+1)=((i+1:Nat):Int):=aD (n:=i+1) om;obtain⟨a,q',rfl⟩:∃a q',q=a::q':=by
   cases q with
   |nil=>
    have:=jz.1 hq;omega
   |cons a q'=>exact⟨a,q',rfl⟩
  apply aB (rfl:pP=.loop kq);rw[List.map_cons,eqS];simp-implicitDefEqProofs only[kq,V,↓reduceIte,rA,h2,h10,hlt];refine Run.mono (Rw w y hd hq ?_ ?_ ?_ ?_ ?_) ?_
  ·exact U128
  ·exact U53
  ·exact U63
  ·exact U124
  ·simp-implicitDefEqProofs only[V,↓reduceIte,rA];exact h10
  rintro e s1 ⟨rfl,e1,e2,e3,e4,e5,e6⟩;simp-implicitDefEqProofs only[V,↓reduceIte,rA,h2,h8,h10,hf] at e1 e2 e3 e4 e5;cases hc:strEq k a.so with
  |false=>simp-implicitDefEqProofs only[V,↓reduceIte,rA,reduceCtorEq,e2,e6,hc]
  |true=>
   simp-implicitDefEqProofs only[V,↓reduceIte,e5,e6,hc,w1];refine wU y w hN hlen r q' (i+1) _ (aF hd) (aF hq) om ?_ ?_ ?_ ?_ ?_ ?_
   ·simp-implicitDefEqProofs only[V,e1];exact hn
   ·simp-implicitDefEqProofs only[V,e1,g1]
   ·exact U115
   ·exact U54
   ·exact U36
   ·exact U77
theorem xW(Vx:Evr)(b:ByteArray)(w:Vl ByteArray)(hN:Vx.hs.l.length<2^61)(hw:w.l.length<2^61)(h:AH):
  RunCall E1 (.f 175) [.agg Vx.cells,vS b,w.A strA] h (ansA (filS Vx.hs.l b w.l)) h:=by
 have fc:=uO Vx b hN;refine aC kr kr (Dt (Tree.ev Vx) (Tree.val _) Vl.leaf.tree) rfl (br _) (cg (rs:=[vS ((filS Vx.hs.l b w.l).1),vI ((filS Vx.hs.l b w.l).2)]) aBX fun s hs hh hd=>?_) h;have h0:=hs 0 _ rfl;have h1:=hs 1 _ rfl;have h2:=hs 2 _ rfl;have s1e:(⟨#[66,111,111,108]⟩:ByteArray)=sBool:=rfl;unfold filS;cases hx:hoLk b Vx.hs.l with
 |none=>
  rw[hx] at fc;simp-implicitDefEqProofs only[pQ,f175,V,↓reduceIte,rA,reduceCtorEq,WF,h0,h1,hh,hd,aA fc,bh]
 |some y=>
  rw[hx] at fc;simp only;cases hk:decide ((w.l.length:Int)=(y.ps.l.length:Nat)) with
  |false=>
   simp-implicitDefEqProofs only[pQ,f175,V,↓reduceIte,rA,reduceCtorEq,WF,h0,h1,h2,hh,hd,aA fc,bh,s1e,hk]
  |true=>
   have hlen:w.l.length=y.ps.l.length:=by have:=of_decide_eq_true hk;omega
   simp-implicitDefEqProofs only[pQ,f175,V,↓reduceIte,rA,WF,h0,h1,h2,hh,aA fc,bh,s1e,hk];refine(wU y w hw hlen w.l y.ps.l 0 _ rfl rfl (ic _) ?_ ?_ ?_ ?_ ?_ ?_).mono ?_
   ·exact U129
   ·exact U36
   ·exact U36
   ·exact U63
   ·exact U58
   ·exact U40
   rintro e s1 ⟨d1,⟨q,rfl⟩|⟨q,rfl,e6,e7⟩⟩
   ·exact U96
   ·exact U95
theorem Rv(w:Vl ByteArray){a b:ByteArray}{r:List ByteArray}{s:St}(hw:w.l=a::b::r)(h1:s.eval (.t 1)=some (w.A strA)):
  Run E1 Nh s fun e s'=>e=.normal∧s'.h=s.h∧s'.defers=s.defers∧s'.eval (.t 25)=some (vB (strEq a b)):=by
 have k0:=w.at aK (i:=0) (k:=a) (r:=b::r) (by rw[hw];rfl)
 have k1:=w.at aK (i:=1) (k:=b) (r:=r) (by rw[hw];rfl)
 have vi:∀b,ids (AV.val b)=[]:=fun _=>rfl;refine am ?_
 refine bG (R:=[]) rfl (fun x hx=>by cases hx) (fun r hr'=>by cases hr') ?_
 simp-implicitDefEqProofs only[Ng,wpDm,aw,iv,is,footed,V,↓reduceIte,rA,h1,aO Vl.ids,az Vl.ids,k0,k1,bF,show∀l,onlyT [] (some (AV.iptr l))=true from fun _=>rfl,strA,j6,im,aO (vi _)]
theorem Cp(op:Int)(w:Vl ByteArray)(hw:w.l.length<2^61)(hq2:op=10∨op=11→2≤w.l.length)(h:AH):
  RunCall E1 (.f 176) [vI op,w.A strA] h (ansA (ruleS op w.l)) h:=by
 refine aC kr kr (bT (Tree.val _) Vl.leaf.tree) rfl (br _) (cg (rs:=[vS ((ruleS op w.l).1),vI ((ruleS op w.l).2)]) aBW fun s hs hh hd=>?_) h;have h0:=hs 0 _ rfl;have h1:=hs 1 _ rfl;have s1e:(⟨#[66,111,111,108]⟩:ByteArray)=sBool:=rfl;have s2e:(⟨#[73,110,116]⟩:ByteArray)=sInt:=rfl;have cI:=kT sInt w hw;have cB:=kT sBool w hw;obtain⟨BI,eI⟩:∃B,allS sInt w.l=B:=⟨_,rfl⟩;obtain⟨BB,eB⟩:∃B,allS sBool w.l=B:=⟨_,rfl⟩;rw[eI] at cI;rw[eB] at cB
 by_cases c10:op=10∨op=11
 ·obtain⟨x,y,l,hxy⟩:∃x y l,w.l=x::y::l:=by
   match hq:w.l,hq2 c10 with
   |x::y::l,_=>exact⟨x,y,l,rfl⟩
  have e2:eq2S w.l=strEq x y:=by rw[hxy];rfl
  have er:ruleS op w.l=bif strEq x y then(sBool,0) else(⟨#[]⟩,11):=by rcases c10 with rfl|rfl<;>(rw[←e2];rfl)
  rw[er];rcases c10 with rfl|rfl
  all_goals
   simp-implicitDefEqProofs only[pO,f176,V,↓reduceIte,rA,reduceCtorEq,rD,h0];refine Run.mono (Rv w hxy ?_) ?_
   ·exact U68
   rintro e s1 ⟨rfl,e1,e2,e6⟩;simp-implicitDefEqProofs only[V,hd] at e2;obtain⟨B,eb⟩:∃B,strEq x y=B:=⟨_,rfl⟩;rw[eb] at e6⊢
   cases B<;>simp-implicitDefEqProofs only[V,↓reduceIte,rA,reduceCtorEq,e2,e6,s1e]
 ·by_cases c6:op=6∨op=7∨op=8∨op=9
  ·have er:ruleS op w.l=bif BI then(sInt,0) else(⟨#[]⟩,11):=by rcases c6 with rfl|rfl|rfl|rfl<;>(rw[←eI];rfl)
   rw[er];rcases c6 with rfl|rfl|rfl|rfl<;>cases BI<;>exact U166
  ·by_cases c12:op=12∨op=13
   ·have er:ruleS op w.l=bif BI then(sBool,0) else(⟨#[]⟩,11):=by rcases c12 with rfl|rfl<;>(rw[←eI];rfl)
    rw[er];rcases c12 with rfl|rfl<;>cases BI<;>exact U166
   ·have er:ruleS op w.l=bif BB then(sBool,0) else(⟨#[]⟩,11):=by
     have ea:argS op=some sBool:=by
      unfold argS;rw[if_neg om,if_neg om]
     have eb:resS op=sBool:=by
      unfold resS;rw[if_neg om]
     unfold ruleS;rw[ea,eb,←eB]
    have n6:decide (op=6)=false:=decide_eq_false om;have n7:decide (op=7)=false:=decide_eq_false om;have n8:decide (op=8)=false:=decide_eq_false om;have n9:decide (op=9)=false:=decide_eq_false om;have n10:decide (op=10)=false:=decide_eq_false om;have n11:decide (op=11)=false:=decide_eq_false om;have n12:decide (op=12)=false:=decide_eq_false om;have n13:decide (op=13)=false:=decide_eq_false om;rw[er];cases BB<;>simp-implicitDefEqProofs only[pO,f176,V,↓reduceIte,rA,reduceCtorEq,h0,h1,hd,s1e,s2e,n6,n7,n8,n9,n10,n11,n12,n13,aA cB]
def ROk(Vx:Evr)(k:Pr):Prop:=∀h:AH,RunCall E1 (.f 138) [.agg Vx.cells,k.av] h (ansA (k.sor Vx)) h
theorem Rx(Vx:Evr)(p:Pr){i:Nat}{k:Pr}{r:List Pr}{s:St}(hd:p.ks.drop i=k::r)(hk:ROk Vx k)(hn:1<s.h.next)(g0:s.h.get 0=some (.cells Vx.cells true))(g1:s.h.get 1=some (.cells p.cells true))
  (h2:s.eval (.t 2)=some (.ptr 0 0)) (h3:s.eval (.t 3)=some (.ptr 1 0)) (h7:s.eval (.t 7)=some (vI (i:Nat))):
  Run E1 Of s fun e s'=>e=.normal∧s'.h=s.h∧s'.defers=s.defers∧s'.eval (.t 2)=s.eval (.t 2)∧s'.eval (.t 3)=s.eval (.t 3)∧s'.eval (.t 6)=s.eval (.t 6)∧s'.eval (.t 7)=s.eval (.t 7)∧s'.eval (.t 8)=some (vS ((k.sor Vx).1))∧s'.eval (.t 9)=some (vI ((k.sor Vx).2)):=by
 have vi:∀b,ids (AV.val b)=[]:=fun _=>rfl;have ei:ids (AV.agg Vx.cells)=[]:=Vx.ids0;have ti:ids (ansA (k.sor Vx))=[]:=rfl;have n0:∀o,niceT s.h (some (.ptr 0 o))=true:=fun o=>bj om g0 (by rw[Vx.ids0];rfl)
 have n1:∀o,niceT s.h (some (.ptr 1 o))=true:=fun o=>bj hn g1 (by rw[p.ids0];rfl)
 have o0:∀o,onlyT [0,1] (some (.ptr 0 o))=true:=fun o=>bu (by simp[memN])
 have o1:∀o,onlyT [0,1] (some (.ptr 1 o))=true:=fun o=>bu (by simp[memN])
 have ki:ids p.kids=[]:=by cases p;exact ee
 refine am ?_
 refine bG (R:=[0,1]) rfl (fun x hx=>by cases hx) (fun r hr'=>by
  simp only[ie,j7,or_false] at hr';omega) ?_
 simp-implicitDefEqProofs only[Od,wpDm,aw,iv,is,footed,V,↓reduceIte,rA,h2,h3,h7,g0,g1,n0,n1,o0,o1,aO ki,aO ei,ab ei,aO k.idsA,ab k.idsA,dJ p i k r hd,bF,aV,show∀l,onlyT [0,1] (some (AV.iptr l))=true from fun _=>rfl,az (vi _)];refine⟨_,hk,?_⟩;simp-implicitDefEqProofs only[V,↓reduceIte,rA,ansA,aV,aO (show ids (AV.tup [vS ((k.sor Vx).1),vI ((k.sor Vx).2)])=[] from rfl)];exact⟨h2,h3,h7⟩
theorem we(Vx:Evr)(p:Pr){lo:Nat}(hlo1:1<lo)(hN:p.ks.length<2^29):∀(r:List Pr) (i:Nat) (s:St) (v:AV) (acc:List ByteArray),p.ks.drop i=r→i≤p.ks.length→acc.length=i→(∀k∈r,ROk Vx k)→RowC s.h lo i 1 v (acc.flatMap strA)→lo≤s.h.next→
  s.h.get 0=some (.cells Vx.cells true)→s.h.get 1=some (.cells p.cells true)→s.eval (.t 2)=some (.ptr 0 0)→s.eval (.t 3)=some (.ptr 1 0)→s.eval (.t 6)=some v→s.eval (.t 7)=some (vI (i:Nat))→s.defers=[]→
  Run E1 pb s fun e s'=>s'.defers=[]∧s.h.next≤s'.h.next∧(∀x,x<lo→s'.h.get x=s.h.get x)∧((∃v',(Pr.sorL Vx r).2=0∧e=.exit 0∧RowC s'.h lo (acc++(Pr.sorL Vx r).1).length 1 v' ((acc++(Pr.sorL Vx r).1).flatMap strA)∧s'.eval (.t 6)=some v'∧s'.eval (.t 2)=some (.ptr 0 0)∧s'.eval (.t 3)=some (.ptr 1 0))∨
   ((Pr.sorL Vx r).2≠0∧e=.ret∧s'.eval (.t 4)=some (vS ⟨#[]⟩)∧s'.eval (.t 5)=some (vI ((Pr.sorL Vx r).2))))
 | [],i,s,v,acc,hd,hi,ha,hk,hr,hlo,g0,g1,h2,h3,h6,h7,hf=>by
  have hl:=aG hd hi;subst hl;apply aB (rfl:pb=.loop kz);simp-implicitDefEqProofs only[kz,V,↓reduceIte,rA,reduceCtorEq,h2,h3,h6,h7,g1,hf,bA,Pr.sorL];refine⟨ib _,fun x _=>by first|rfl|trivial,.inl ⟨v,?_,rfl⟩⟩
  rw[iz,ha];exact hr
 |k::r,i,s,v,acc,hd,hi,ha,hk,hr,hlo,g0,g1,h2,h3,h6,h7,hf=>by
  have hl:=aH hd;have hlt:=bD hl;have w1:IntKind.i64.wrap ((i:Int)+1)=((i+1:Nat):Int):=aD (n:=i+1) om;apply aB (rfl:pb=.loop kz);simp-implicitDefEqProofs only[kz,V,↓reduceIte,rA,h3,h7,g1,hlt];refine Run.mono (Rx Vx p hd (hk k ik) ?_ ?_ ?_ ?_ ?_ ?_) ?_
  ·exact U52
  ·exact U80
  ·exact U109
  ·exact U63
  ·exact U49
  ·exact U130
  rintro e s1 ⟨rfl,e1,e2,e3,e4,e5,e6,e8,e9⟩;simp-implicitDefEqProofs only[V,↓reduceIte,rA,h2,h3,h6,h7,hf] at e1 e2 e3 e4 e5 e6;cases he:decide ((k.sor Vx).2=0) with
  |false=>
   have eL:Pr.sorL Vx (k::r)=([],(k.sor Vx).2):=by simp only[Pr.sorL,he,cond_false]
   rw[eL];simp-implicitDefEqProofs only[V,↓reduceIte,rA,reduceCtorEq,e1,e2,e9,he];exact⟨ib _,fun x hx=>by first|rfl|trivial,.inr (of_decide_eq_false he)⟩
  |true=>
   simp-implicitDefEqProofs only[V,↓reduceIte,rA,WF,e1,e5,e8,e9,he];refine bt (k:=i) (m:=1) (lo:=lo) (v:=v) (x:=.own s.h.next 0 1 1 (some 1)) (cs:=acc.flatMap strA) (new:=[vS ((k.sor Vx).1)]) ?_ ?_ ?_ rfl ?_ (aX om de) ?_ ?_ ?_
   ·simp-implicitDefEqProofs only[V];exact hr.to (by show s.h.next≤s.h.next+1;omega) fun x _ x2=>by rw[aJ x2]
   ·simp-implicitDefEqProofs only[V];omega
   ·refine aq (rw':=true) ?_ rfl;exact U110
   ·exact fun c hc=>by rw[ig.1 hc];exact Leaf.val _
   ·exact U131
   ·exact U110
   intro v1 h2' r1 n2 o2;simp-implicitDefEqProofs only[V] at n2 o2;simp-implicitDefEqProofs only[V,↓reduceIte,rA,e6,w1];refine(we Vx p (lo:=lo) hlo1 hN r (i+1) _ v1 (acc++[(k.sor Vx).1]) (aF hd) om (by rw[io,ha];rfl) (fun k' hk'=>hk k' (j4 _ hk')) ?_ ?_ ?_ ?_ ?_ ?_ ?_ ?_ ?_).mono ?_
   ·exact U99
   ·exact U52
   ·simp-implicitDefEqProofs only[V];rw[o2 0 om (fun hv=>by have:=(hr.ids 0 hv).1;omega),if_neg om,g0]
   ·simp-implicitDefEqProofs only[V];rw[o2 1 om (fun hv=>by have:=(hr.ids 1 hv).1;omega),if_neg om,g1]
   ·exact U54
   ·exact U115
   ·exact U36
   ·exact U36
   ·exact U77
   rintro e s2 ⟨d2,m2,q2,H⟩;simp-implicitDefEqProofs only[V] at m2 q2;refine⟨d2,om,fun x hx=>?_,?_⟩
   ·rw[q2 x hx,o2 x om (fun hv=>by have:=(hr.ids x hv).1;omega),if_neg om]
   have eL:Pr.sorL Vx (k::r)=bif decide ((Pr.sorL Vx r).2=0) then((k.sor Vx).1::(Pr.sorL Vx r).1,0) else([],(Pr.sorL Vx r).2):=by
    rw[Pr.sorL,he];rfl
   rw[eL];rcases H with⟨v',z,rfl,r2,t6,t2,t3⟩|⟨z,rfl,t4,t5⟩
   ·exact U101
   ·rw[decide_eq_false z];exact .inr ⟨z,rfl,t4,t5⟩
theorem Ua(Vx:Evr)(hV:EvB Vx)(p:Pr)(hN:p.ks.length<2^29)(h2:p.op=10∨p.op=11→2≤p.ks.length)(hk:∀k∈p.ks,ROk Vx k):ROk Vx p:=fun h=>by
 refine aC kr kr (bT (Tree.ev Vx) (Tree.pr p)) rfl (br _) (cg (rs:=[vS ((p.sor Vx).1),vI ((p.sor Vx).2)]) aCU fun s hs hh hd=>?_) h;have h0:=hs 0 _ rfl;have h1:=hs 1 _ rfl;have s1e:(⟨#[66,111,111,108]⟩:ByteArray)=sBool:=rfl;have s2e:(⟨#[73,110,116]⟩:ByteArray)=sInt:=rfl;simp-implicitDefEqProofs only[Oe,f138,V,↓reduceIte,rA,h0,h1,hh];refine(we Vx p (lo:=2) de hN p.ks 0 _ (.val (.slice none 0 0)) [] rfl (ic _) rfl hk RowC.nil ?_ ?_ ?_ ?_ ?_ ?_ ?_ ?_).mono ?_
 ·exact U129
 ·exact U36
 ·exact U36
 ·exact U36
 ·exact U36
 ·exact U36
 ·exact U58
 ·exact U40
 rintro e s1 ⟨d1,m1,o1,H⟩;simp-implicitDefEqProofs only[V,rB] at m1 o1;rw[Tq];rcases H with⟨v1,z,rfl,r1,e6,e2,e3⟩|⟨z,rfl,e4,e5⟩
 ·rw[im] at r1;have g0:s1.h.get 0=some (.cells Vx.cells true):=by rw[o1 0 om];rfl
  have g1:s1.h.get 1=some (.cells p.cells true):=by rw[o1 1 om];rfl
  have hlen:=qL Vx p.ks z;obtain⟨h2'',f1,f2,f3,f4⟩:=bm r1;rw[decide_eq_true z,cond_true];generalize hL:(Pr.sorL Vx p.ks).1=L at*;have hv:(rowT L.length (L.flatMap strA))=(⟨L,nilK,none⟩:Vl ByteArray).A strA:=bU rfl;rw[hv] at f4;have cA:RunCall E1 (.f 174) [.agg Vx.cells,vS p.nm,v1] s1.h (ansA (appS Vx.sy.l p.nm L)) s1.h:=ba (xs:=[.agg Vx.cells,vS p.nm]) (ys:=[]) kr (bT (Tree.ev Vx) (Tree.val _)) (fun v hv=>by cases hv) Vl.leaf.tree f1 f4 rfl (xb Vx p.nm ⟨L,nilK,none⟩ hV.y hV.ya (by show L.length<_;omega))
  have cH:RunCall E1 (.f 175) [.agg Vx.cells,vS p.nm,v1] s1.h (ansA (filS Vx.hs.l p.nm L)) s1.h:=ba (xs:=[.agg Vx.cells,vS p.nm]) (ys:=[]) kr (bT (Tree.ev Vx) (Tree.val _)) (fun v hv=>by cases hv) Vl.leaf.tree f1 f4 rfl (xW Vx p.nm ⟨L,nilK,none⟩ hV.h (by show L.length<_;omega))
  have cO:RunCall E1 (.f 176) [vI p.op,v1] s1.h (ansA (ruleS p.op L)) s1.h:=ba (xs:=[vI p.op]) (ys:=[]) kr (aN (Tree.val _)) (fun v hv=>by cases hv) Vl.leaf.tree f1 f4 rfl (Cp p.op ⟨L,nilK,none⟩ (by show L.length<_;omega) (fun q=>by show 2≤L.length;rw[hlen];exact h2 q))
  unfold sortN;cases c1:decide (p.op=1) with
  |true=>simp-implicitDefEqProofs only[V,↓reduceIte,rA,reduceCtorEq,WF,d1,e3,g1,c1,s1e,s2e]
  |false=>cases c2:decide (p.op=2) with
   |true=>simp-implicitDefEqProofs only[V,↓reduceIte,rA,reduceCtorEq,WF,d1,e3,g1,c1,c2,s1e,s2e]
   |false=>cases c3:decide (p.op=3) with
    |true=>
     cases hv:varS Vx.vs.l p.nm with
     |none=>simp-implicitDefEqProofs only[V,↓reduceIte,rA,reduceCtorEq,WF,d1,e2,e3,g0,g1,c1,c2,c3,s1e,s2e,aA (kO Vx p.nm hV.v),hv,optR]
     |some x=>simp-implicitDefEqProofs only[V,↓reduceIte,rA,reduceCtorEq,WF,d1,e2,e3,g0,g1,c1,c2,c3,s1e,s2e,aA (kO Vx p.nm hV.v),hv,optR]
    |false=>cases c4:decide (p.op=4) with
     |true=>
      simp-implicitDefEqProofs only[V,↓reduceIte,rA,WF,e2,e3,e6,g0,g1,c1,c2,c3,c4,s1e,s2e];refine aW (v:=ansA (appS Vx.sy.l p.nm L)) (h':=s1.h) ?_ ?_
      ·simp-implicitDefEqProofs only[V];exact cA
      exact U167
     |false=>cases c5:decide (p.op=5) with
      |true=>
       simp-implicitDefEqProofs only[V,↓reduceIte,rA,WF,e2,e3,e6,g0,g1,c1,c2,c3,c4,c5,s1e,s2e];refine aW (v:=ansA (filS Vx.hs.l p.nm L)) (h':=s1.h) ?_ ?_
       ·simp-implicitDefEqProofs only[V];exact cH
       exact U167
      |false=>
       simp-implicitDefEqProofs only[V,↓reduceIte,rA,WF,e3,e6,g1,c1,c2,c3,c4,c5,s1e,s2e];refine aW (v:=ansA (ruleS p.op L)) (h':=s1.h) ?_ ?_
       ·simp-implicitDefEqProofs only[V];exact cO
       exact U167
 ·rw[decide_eq_false z];simp-implicitDefEqProofs only[V,reduceCtorEq,d1,e4,e5]
mutual
theorem nL(Vx:Evr)(hV:EvB Vx):∀(p:Pr),p.two=true→p.nodes<2^29→ROk Vx p
 |.mk o s n ks nl cap,ht,hb=>by
  have hb':1+Pr.nodesL ks<2^29:=hb;have hk:ks.length≤Pr.nodesL ks:=an ks;simp only[Pr.two,ii,Bool.or_eq_true,Bool.not_eq_true',Bool.or_eq_false_iff,decide_eq_true_eq,decide_eq_false_iff_not] at ht;exact Ua Vx hV (.mk o s n ks nl cap) (by show ks.length<_;omega) (fun q=>by
   have q:o=10∨o=11:=q;show 2≤ks.length;rcases ht.1 with h|h
   ·omega
   ·exact h) (kP Vx hV ks ht.2 om)
theorem kP(Vx:Evr)(hV:EvB Vx):∀(l:List Pr),Pr.twoL l=true→Pr.nodesL l<2^29→∀k∈l,ROk Vx k
 | [],_,_,k,hk=>by cases hk
 |p::r,ht,hb,k,hk=>by
  have hb':p.nodes+Pr.nodesL r<2^29:=hb;simp only[Pr.twoL,ii] at ht;rcases ie.1 hk with e|hk
  ·have:=nL Vx hV p ht.1 om;rw[e];exact this
  ·exact kP Vx hV r ht.2 om k hk
end
theorem aKW:Na=Nb:=funext aNY
theorem jE(Vx:Evr)(hV:EvB Vx)(p:Pr)(hb:p.nodes<2^61)(h:AH):RunCall E1 (.f 94) [.agg Vx.cells,p.av] h (ansA (ofS Vx p)) h:=by
 refine aC kr kr (bT (Tree.ev Vx) (Tree.pr p)) rfl (br _) (cg (rs:=[vS ((ofS Vx p).1),vI ((ofS Vx p).2)]) aHS fun s hs hh hd=>?_) h;have h0:=hs 0 _ rfl;have h1:=hs 1 _ rfl;have hk:=zZ p hb;rw[←aKW] at hk;unfold ofS;cases hc:decide (ckS Na p=0) with
 |false=>simp-implicitDefEqProofs only[Ji,f94,V,↓reduceIte,rA,reduceCtorEq,h0,h1,hh,hd,aA hk,hc]
 |true=>
  obtain⟨q1,q2,q3,q4⟩:=Yi (of_decide_eq_true hc);simp-implicitDefEqProofs only[Ji,f94,V,↓reduceIte,rA,reduceCtorEq,h0,h1,hh,hd,aA hk,hc,aA (nL Vx hV p q1 om),ansA]
theorem Pp(p:Pr):p.same zPr=(decide (p.op=0)&&strEq p.nm ⟨#[]⟩&&decide (p.n=0)&&decide (((p.ks.length:Nat):Int)=0)):=by
 obtain⟨o,nm,n,ks,nl,cap⟩:=p;have e:decide (((ks.length:Nat):Int)=0)=decide (ks.length=0):=by rw[decide_eq_decide];omega
 show(decide (o=0)&&(strEq nm ⟨#[]⟩&&(decide (n=0)&&(decide (ks.length=0)&&Pr.sameL ks []))))=(decide (o=0)&&strEq nm ⟨#[]⟩&&decide (n=0)&&decide (((ks.length:Nat):Int)=0));rw[e];have f:Pr.sameL ks []=true:=by cases ks<;>rfl
 rw[f,Bool.and_true,Bool.and_assoc,Bool.and_assoc]
theorem dX(p:Pr)(h:AH):RunCall E1 (.f 93) [p.av] h (vB (p.same zPr)) h:=by
 refine ai kr aHT (aN (Tree.pr p)) rfl (Tree.val _) (fun s hs hh hd hr=>?_) h;have h0:=hs 0 _ rfl;rw[Pp];obtain⟨a,qa⟩:∃B,decide (p.op=0)=B:=⟨_,rfl⟩;obtain⟨b,qb⟩:∃B,strEq p.nm ⟨#[]⟩=B:=⟨_,rfl⟩;obtain⟨c,qc⟩:∃B,decide (p.n=0)=B:=⟨_,rfl⟩;obtain⟨d,qd⟩:∃B,decide (((p.ks.length:Nat):Int)=0)=B:=⟨_,rfl⟩;rw[qa,qb,qc,qd];cases a<;>cases b<;>cases c<;>cases d<;>simp-implicitDefEqProofs only[Vy,f93,V,↓reduceIte,rA,reduceCtorEq,h0,hh,hd,qa,qb,qc,qd]
theorem kS(Vx:Evr)(hV:EvB Vx)(p:Pr)(hb:p.nodes<2^61)(h:AH):RunCall E1 (.f 66) [.agg Vx.cells,p.av] h (vI (boolS Vx p)) h:=by
 refine ai kr aIM (bT (Tree.ev Vx) (Tree.pr p)) rfl (Tree.val _) (fun s hs hh hd hr=>?_) h;have h0:=hs 0 _ rfl;have h1:=hs 1 _ rfl;have s1e:(⟨#[66,111,111,108]⟩:ByteArray)=sBool:=rfl;unfold boolS;cases hz:p.same zPr with
 |true=>simp-implicitDefEqProofs only[s8,f66,V,↓reduceIte,rA,reduceCtorEq,h0,h1,hh,hd,aA (dX p),hz]
 |false=>
  cases hc:decide ((ofS Vx p).2=0) with
  |false=>simp-implicitDefEqProofs only[s8,f66,V,↓reduceIte,rA,reduceCtorEq,h0,h1,hh,hd,aA (dX p),hz,aA (jE Vx hV p hb),ansA,hc]
  |true=>
   have h00:=of_decide_eq_true hc;cases hq:strEq (ofS Vx p).1 sBool with
   |true=>simp-implicitDefEqProofs only[s8,f66,V,↓reduceIte,rA,reduceCtorEq,h0,h1,hh,hd,aA (dX p),hz,aA (jE Vx hV p hb),ansA,s1e,hq,h00]
   |false=>simp-implicitDefEqProofs only[s8,f66,V,↓reduceIte,rA,reduceCtorEq,h0,h1,hh,hd,aA (dX p),hz,aA (jE Vx hV p hb),ansA,s1e,hq,h00]
end Go.Proofs.YtkhblipgiijoiaaGreatDoor
