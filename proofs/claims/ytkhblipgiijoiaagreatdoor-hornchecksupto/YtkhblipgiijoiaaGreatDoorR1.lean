/- ZSplit ZRule ZLook ZAppl ZNamv ZOf ZCheck ZTop -/
import Derived.Test.YtkhblipgiijoiaaGreatDoorU0
import Derived.Test.YtkhblipgiijoiaaGreatDoorW1
import Derived.Test.YtkhblipgiijoiaaGreatDoorD1
import Derived.Test.YtkhblipgiijoiaaGreatDoorN4
import Derived.Test.YtkhblipgiijoiaaGreatDoorH1

set_option linter.all false
open Nat renaming reduceEqDiff → rA, reduceAdd → rB, reduceMul → rC
open Int renaming reduceEq → rD, reduceLT → rE, reduceLE → rF
open Option.some renaming injEq → sI
open Bool renaming and_eq_true → ii
open List renaming all_cons → iv, all_nil → is, append_nil → iz, cons_append → j6, drop_eq_nil_iff → jz, drop_succ_cons → jq, drop_zero → j9, length_append → io, length_cons → il, length_nil → jf, map_cons → jc, mem_cons → ie, mem_cons_of_mem → j4, mem_cons_self → ik, mem_nil_iff → j7, mem_of_mem_drop → jh, mem_singleton → ig, nil_append → im, take_succ_cons → jr, take_zero → jg
open Nat renaming le_refl → ib, le_succ → Ab, lt_succ_self → jx, zero_le → ic
open Go.Proofs.Tryz renaming prog → i7
namespace Go.Proofs.YtkhblipgiijoiaaGreatDoor
open Go Go.AM
set_option maxHeartbeats 4000000
variable [KR]
mutual
def Pr.spl:Pr→List Pr
 |.mk o s n ks a b=>bif decide (o=15)&&decide (ks.length=2) then Pr.splL ks else bif (Pr.mk o s n ks a b).void then [] else [(Pr.mk o s n ks a b).cp]
def Pr.splL:List Pr→List Pr
 | []=>[]
 |k::r=>k.spl++Pr.splL r
end
mutual
theorem kG:∀p:Pr,p.spl.length≤p.nodes
 |.mk o s n ks a b=>by
  have:=qK ks;simp only[Pr.spl,Pr.nodes];cases decide (o=15)&&decide (ks.length=2)
  ·cases (Pr.mk o s n ks a b).void
   ·simp only[cond_false,il,jf];omega
   ·simp only[cond_false,cond_true,jf];omega
  ·simp only[cond_true];omega
theorem qK:∀l:List Pr,(Pr.splL l).length≤Pr.nodesL l
 | []=>by simp only[Pr.splL,jf];omega
 |k::r=>by
  have h1:=kG k;have h2:=qK r;simp only[Pr.splL,Pr.nodesL,io];omega
end
def SplOk(p:Pr)(L:List Pr):Prop:=∀(h:AH),∃v h',RunCall E1 (.f 61) [p.av] h v h'∧RowX h' h.next L.length 4 v (Pr.cellsL L)∧h.next≤h'.next∧(∀x,x<h.next→h'.get x=h.get x)∧(NoTag h→NoTag h')
theorem Jw{s:St}{p a b:Pr}{La Lb:List Pr}{B:Nat}(hks:p.ks=[a,b])(hN:La.length+Lb.length<2^30)(ha:SplOk a La)(hb:SplOk b Lb)(hB:B<s.h.next)(g:s.h.get B=some (.cells p.cells true))(h1:s.eval (.t 1)=some (.ptr B 0)):
  Run E1 Wo s fun e s'=>e=.normal∧∃v,s'.eval (.t 2)=some v∧RowX s'.h s.h.next (La++Lb).length 4 v (Pr.cellsL (La++Lb))∧s.h.next≤s'.h.next∧(∀x,x<s.h.next→s'.h.get x=s.h.get x)∧(NoTag s.h→NoTag s'.h)∧s'.defers=s.defers:=by
 have n1:∀o,niceT s.h (some (.ptr B o))=true:=fun o=>bj hB g (by rw[p.ids0];rfl)
 have o1:∀o,onlyT [B] (some (.ptr B o))=true:=fun o=>bu (by simp[memN])
 have k0:=dJ p 0 a [b] hks;have k1:=dJ p 1 b [] (by rw[hks];rfl)
 have ki:ids p.kids=[]:=by cases p;exact ee
 refine am ?_
 show DrawTo E1 (fv.take 4++fv.drop 4) [] s _;refine fi (R:=[B]) _ [] s rfl (fun x hx=>by cases hx) (fun r hr'=>by rw[ig.1 hr'];exact hB) ?_
 simp-implicitDefEqProofs only[fv,jr,jg,jq,j9,wpDm,aw,iv,is,footed,V,↓reduceIte,h1,g,n1,o1,aO ki,k0,bF,show∀l,onlyT [B] (some (AV.iptr l))=true from fun _=>rfl];intro _ done hdl hdm;have hdl:done.length=4:=hdl;obtain⟨v0,h0',c0,r0,m0,q0,t0⟩:=ha (restrictH s.h []);refine jZ (a:=a.av) (v:=v0) (h1:=h0') ?_ a.idsA ?_ m0 (fun j hj=>by cases hj) ?_
 ·exact U36
 ·simp-implicitDefEqProofs only[V];exact c0
 intro h0 e1 e2 e3 e4;have m0:s.h.next≤h0'.next:=m0;have e1:h0.next=h0'.next:=e1;have q0:∀x,s.h.next≤x→x<h0'.next→h0.get x=h0'.get x:=e2;have e3:∀x,x<s.h.next→h0.get x=s.h.get x:=e3;have r0:RowX h0 s.h.next La.length 4 v0 (Pr.cellsL La):=r0.to (by rw[e1];exact ib _) fun x x1 x2=>q0 x x1 x2
 have g0:h0.get B=some (.cells p.cells true):=by rw[e3 B hB,g]
 have nB:∀o,niceT h0 (some (.ptr B o))=true:=fun o=>bj om g0 (by rw[p.ids0];rfl)
 have hq5:∀x∈done++[(⟨[],[],s.h.next,h0'.next⟩:DRec)],MildR [B] x:=fun x hx=>by
  rcases List.mem_append.1 hx with hx|hx
  ·exact hdm x hx
  ·rw[ig.1 hx];exact Me fun r hr=>by rw[ig.1 hr];exact hB
 have hl5:(done++[(⟨[],[],s.h.next,h0'.next⟩:DRec)]).length=5:=by rw[io,hdl];rfl
 simp-implicitDefEqProofs only[V];generalize done++[(⟨[],[],s.h.next,h0'.next⟩:DRec)]=dn at hq5 hl5;show DrawTo E1 ((fv.drop 5).take 4++fv.drop 9) dn _ _;refine fi (R:=[B]) ((fv.drop 5).take 4) dn _ (by rw[hl5];rfl) hq5 (fun r hr'=>?_) ?_
 ·rw[ig.1 hr'];simp-implicitDefEqProofs only[V];omega
 simp-implicitDefEqProofs only[fv,jr,jg,jq,j9,wpDm,aw,iv,is,footed,V,↓reduceIte,rA,h1,g0,nB,o1,aO ki,k1,bF,show∀l,onlyT [B] (some (AV.iptr l))=true from fun _=>rfl];intro _ done2 hdl2 hdm2;obtain⟨v1,h1',c1,r1,m1,q1,t1⟩:=hb (restrictH h0 []);refine jZ (a:=b.av) (v:=v1) (h1:=h1') ?_ b.idsA ?_ ?_ (fun j hj=>by cases hj) ?_
 ·exact U36
 ·exact U65
 ·exact U86
 intro h2 e5 e6 e7 e8;simp-implicitDefEqProofs only[V] at e5 e6 e7 e8;have m1:h0.next≤h1'.next:=m1;have r1:RowX h2 h0.next Lb.length 4 v1 (Pr.cellsL Lb):=r1.to (by rw[e5];exact ib _) fun x x1 x2=>e6 x x1 x2
 have r0:RowX h2 s.h.next La.length 4 v0 (Pr.cellsL La):=r0.toB om fun x hx=>e7 x (r0.ids x hx).2.1;refine m7 (k:=La.length) (m:=Lb.length) (lo:=s.h.next) (v:=v0) (x:=v1) (cs:=Pr.cellsL La) (new:=Pr.cellsL Lb) ?_ ?_ ?_ (cG _) r1.leafs (aX om de) ?_ ?_ ?_ de de (fun j hj=>?_) rfl rfl ?_
 ·simp-implicitDefEqProofs only[V];exact r0
 ·exact U52
 ·intro h gy;refine Sd r1 h fun y hy=>?_
  have:=gy y hy;simp-implicitDefEqProofs only[V] at this;exact this
 ·intro y hy;obtain⟨y1,y2,y3⟩:=r1.ids y hy;simp-implicitDefEqProofs only[V];refine⟨y2,_,y3,?_⟩;simp only[idsB,bz r1.leafs];rfl
 ·exact U36
 ·exact U36
 ·exact U87
 intro rec v2 h3 r2 m2 o2 t2 _;simp-implicitDefEqProofs only[V] at m2 o2 t2;refine bc (v:=v2) rfl rfl ?_ ?_ (fun j hj=>by cases hj) ?_
 ·simp-implicitDefEqProofs only[V,↓reduceIte,iv,is,r2.nice]
 ·exact U88
 refine b9 ?_
 refine⟨v2,?_,?_,?_,?_,?_,?_⟩
 ·exact U36
 ·simp-implicitDefEqProofs only[V];rw[io,dz];exact r2
 ·exact U52
 ·intro x hx;simp-implicitDefEqProofs only[V];rw[o2 x om (fun hv=>by have:=(r0.ids x hv).1;omega),e7 x om,e3 x hx]
 ·intro nt;simp-implicitDefEqProofs only[V];exact t2 (e8 (e4 nt (t0 jH)) (t1 jH))
 ·exact U36
theorem Tp(p:Pr):p.spl=bif decide (p.op=15)&&decide (p.ks.length=2) then Pr.splL p.ks else bif p.void then [] else [p.cp]:=by
 cases p;rw[Pr.spl];rfl
theorem qI{p:Pr}{h:AH}(hb:p.nodes<2^29)(hq:(decide (p.op=15)&&decide ((p.ks.length:Int)=2))=false):p.spl=bif p.void then [] else [p.cp]:=by
 have:decide (p.ks.length=2)=decide ((p.ks.length:Int)=2):=by
  by_cases q:p.ks.length=2
  ·rw[decide_eq_true q,decide_eq_true om]
  ·rw[decide_eq_false q,decide_eq_false om]
 rw[Tp,this,hq];rfl
theorem Hb(p:Pr)(hb:p.nodes<2^29)(hk:∀k∈p.ks,SplOk k k.spl):SplOk p p.spl:=fun h=>by
 refine kH (fun v h'=>RowX h' h.next p.spl.length 4 v (Pr.cellsL p.spl)∧h.next≤h'.next∧(∀x,x<h.next→h'.get x=h.get x)∧(NoTag h→NoTag h')) kr aIR fun s hs hh hd hrd=>?_
 have h0:=hs 0 _ rfl;have hvoid:=fun r s dst K=>Zb (p:=p) (show p.nodes<2^61 by omega) (r:=r) (s:=s) (dst:=dst) (K:=K)
 have ki:ids p.kids=[]:=by cases p;exact ee
 cases c1:decide (p.op=15) with
 |false=>
  rw[qI (h:=h) hb (by rw[c1];rfl)]
  cases hv:p.void with
  |true=>
   simp-implicitDefEqProofs only[mW,f61,V,↓reduceIte,rA,reduceCtorEq,h0,hh,hd,c1,hvoid,hv];exact⟨_,rfl,.inl RowC.nil,Ab _,fun x hx=>by rw[if_neg om],fun nt=>nt.alloc⟩
  |false=>
   simp-implicitDefEqProofs only[mW,f61,V,↓reduceIte,rA,reduceCtorEq,WF,h0,hh,hd,c1,hvoid,hv,mq hb,fa];refine⟨_,rfl,?_,om,fun x hx=>by rw[if_neg om,if_neg om],fun nt=>nt.alloc.alloc⟩
   refine RowX.made (k:=1) (es:=4) (b:=h.next+1) (fun c hc=>?_) ?_ om (jx _) (by rw[show Pr.cellsL [p.cp]=p.cp.cells by simp only[Pr.cellsL,iz]];exact ax (h:=h.alloc (.cells p.cells true)))
   ·simp only[Pr.cellsL,iz] at hc;exact p.cp.leaves c hc
   ·simp only[Pr.cellsL,iz,p.cp.len]
 |true=>
  cases c2:decide ((p.ks.length:Int)=2) with
  |false=>
   rw[qI (h:=h) hb (by rw[c1,c2];rfl)]
   cases hv:p.void with
   |true=>
    simp-implicitDefEqProofs only[mW,f61,V,↓reduceIte,rA,reduceCtorEq,h0,hh,hd,c1,c2,hvoid,hv];exact⟨_,rfl,.inl RowC.nil,Ab _,fun x hx=>by rw[if_neg om],fun nt=>nt.alloc⟩
   |false=>
    simp-implicitDefEqProofs only[mW,f61,V,↓reduceIte,rA,reduceCtorEq,WF,h0,hh,hd,c1,c2,hvoid,hv,mq hb,fa];refine⟨_,rfl,?_,om,fun x hx=>by rw[if_neg om,if_neg om],fun nt=>nt.alloc.alloc⟩
    refine RowX.made (k:=1) (es:=4) (b:=h.next+1) (fun c hc=>?_) ?_ om (jx _) (by rw[show Pr.cellsL [p.cp]=p.cp.cells by simp only[Pr.cellsL,iz]];exact ax (h:=h.alloc (.cells p.cells true)))
    ·simp only[Pr.cellsL,iz] at hc;exact p.cp.leaves c hc
    ·simp only[Pr.cellsL,iz,p.cp.len]
  |true=>
   have hl:p.ks.length=2:=by have:=of_decide_eq_true c2;omega
   obtain⟨a,b,hab⟩:∃a b,p.ks=[a,b]:=by
    match hk:p.ks,hl with
    | [a,b],_=>exact⟨a,b,rfl⟩
   have e:p.spl=a.spl++b.spl:=by
    rw[Tp,c1,hl,hab];simp only[decide_true,Bool.and_self,cond_true,Pr.splL,iz]
   have hn:1+(a.nodes+(b.nodes+0))<2^29:=by
    have:=p.nodes_eq;rw[hab] at this;simp only[Pr.nodesL] at this;omega
   have la:=kG a;have lb:=kG b;rw[e];simp-implicitDefEqProofs only[mW,f61,V,↓reduceIte,rA,h0,hh,c1,c2];refine(Jw (p:=p) (a:=a) (b:=b) (La:=a.spl) (Lb:=b.spl) (B:=h.next) hab om (hk a (by rw[hab];exact ik)) (hk b (by rw[hab];exact j4 _ ik)) ?_ ?_ ?_).mono ?_
   ·exact U73
   ·exact U74
   ·exact U36
   rintro e' s1 ⟨rfl,v,e2,r1,m1,o1,t1,d1⟩;simp-implicitDefEqProofs only[V] at r1 m1 o1 t1 d1;simp-implicitDefEqProofs only[V,reduceCtorEq,e2,d1,hd];exact⟨_,rfl,r1.low om,om,fun x hx=>by rw[o1 x om,if_neg om],fun nt=>t1 nt.alloc⟩
mutual
theorem fA:∀(p:Pr),p.nodes<2^29→SplOk p p.spl
 |.mk o s n ks nl cap,hb=>by
  have hb':1+Pr.nodesL ks<2^29:=hb;exact Hb (.mk o s n ks nl cap) hb (iE ks om)
theorem iE:∀(l:List Pr),Pr.nodesL l<2^29→∀k∈l,SplOk k k.spl
 | [],_,k,hk=>by cases hk
 |p::r,hb,k,hk=>by
  have hb':p.nodes+Pr.nodesL r<2^29:=hb;rcases ie.1 hk with e|hk
  ·have:=fA p om;rw[e];exact this
  ·exact iE r om k hk
end
theorem xl{h:AH}{b o:Nat}{ys:List AV}:∀{xs:List AV},mapTree h (xs++ .ptr b o::ys)=none
 | []=>by
  have:toTree h deepest (.ptr b o)=none:=by
   rw[show deepest=999999999+1 from rfl,toTree.eq_def]
  simp only[im,mapTree,this]
 |x::xs=>by
  simp only[j6,mapTree,xl];cases toTree h deepest x<;>rfl
theorem aEV{g:Nat}{l:List AV}{h:AH}{a:AFun}(P:AV→AH→Prop)(hs:E1.shared.get g=none)(hm:∀h,mapTree h l=none)(hf:funOf i7 g=some a)
  (H:∀s:St,(∀i v,(enterTm l 0 .nil).get i=some v→s.eval (.t i)=some v)→s.h=h→s.defers=[]→s.round=none→wp E1 a.body s fun e s=>(e=.normal∨e=.ret)∧s.defers=[]∧∃r,resultsA E1.globs s a.res=some r∧P (oneOrTup r) s.h):
  ∃v h',RunCall E1 (.f g) l h v h'∧P v h':=by
 obtain⟨v,h',hp,hr⟩:=tp P hf fun s h1 h2 h3 h4=>ay _ _ _ (H s h1 h2 h3 h4);refine⟨v,h',hr.mono fun n p=>?_,hp⟩;simp only[ap,cT,hs,hm,p]
def allS(x:ByteArray):List ByteArray→Bool
 | []=>true
 |k::r=>strEq k x&&allS x r
theorem wT(x:ByteArray)(w:Vl ByteArray){b:Nat}{rw:Bool}(hN:w.l.length<2^61):∀(r:List ByteArray) (i:Nat) (s:St),w.l.drop i=r→i≤w.l.length→s.h.get b=some (.cells [vS x] rw)→
  s.eval (.t 1)=some (.ptr b 0)→s.eval (.t 6)=some (w.A strA)→s.eval (.t 7)=some (vI (w.l.length:Nat))→s.eval (.t 8)=some (vI (i:Nat))→s.defers=[]→
  Run E1 pM s fun e s'=>s'.defers=[]∧s'.h=s.h∧((allS x r=true∧e=.exit 0)∨(allS x r=false∧e=.ret∧s'.eval (.t 3)=some (vB false)))
 | [],i,s,hd,hi,g0,h1,h6,h7,h8,hf=>by
  have hl:=aG hd hi;subst hl;apply aB (rfl:pM=.loop gY);simp-implicitDefEqProofs only[gY,V,↓reduceIte,rA,reduceCtorEq,h7,h8,hf,bA,allS]
 |k::r,i,s,hd,hi,g0,h1,h6,h7,h8,hf=>by
  have hl:=aH hd;have hlt:=bD hl;have w1:IntKind.i64.wrap ((i:Int)+1)=((i+1:Nat):Int):=aD (n:=i+1) om;apply aB (rfl:pM=.loop gY);cases hq:strEq k x with
  |false=>
   simp-implicitDefEqProofs only[gY,V,↓reduceIte,rA,reduceCtorEq,h1,h6,h7,h8,hf,hlt,w.at aK hd,strA,j6,im,g0,hq,allS]
  |true=>
   simp-implicitDefEqProofs only[gY,V,↓reduceIte,rA,h1,h6,h7,h8,hlt,w.at aK hd,strA,j6,im,g0,hq,allS,w1];refine(wT x w (b:=b) (rw:=rw) hN r (i+1) _ (aF hd) om ?_ ?_ ?_ ?_ ?_ ?_).mono ?_
   all_goals simp-implicitDefEqProofs only[V,↓reduceIte,rA,h1,h6,h7,g0,hf]
   intro e s1 h;exact h
theorem nv(x:ByteArray)(w:Vl ByteArray){b:Nat}{rw:Bool}{h:AH}(hN:w.l.length<2^61)(g:h.get b=some (.cells [vS x] rw)):RunCall E1 (.f 179) [w.A strA,.ptr b 0] h (vB (allS x w.l)) h:=by
 obtain⟨v,h',hr,rfl,rfl⟩:=aEV (g:=179) (l:=[w.A strA,.ptr b 0]) (h:=h) (fun v h'=>v=vB (allS x w.l)∧h'=h) kr (fun h=>xl (xs:=[w.A strA])) aBV fun s hs hh hd hrd=>by
  have h0:=hs 0 _ rfl;have h1:=hs 1 _ rfl;simp-implicitDefEqProofs only[Nf,f179,V,↓reduceIte,reduceCtorEq,h0];refine(wT x w (b:=b) (rw:=rw) hN w.l 0 _ rfl (ic _) ?_ ?_ ?_ ?_ ?_ ?_).mono ?_
  ·simp-implicitDefEqProofs only[V,hh];exact g
  ·exact U68
  ·exact U36
  ·exact U36
  ·exact U58
  ·exact U40
  rintro e s1 ⟨d1,e1,⟨q,rfl⟩|⟨q,rfl,e3⟩⟩
  ·simp-implicitDefEqProofs only[V,hh] at e1;simp-implicitDefEqProofs only[V,↓reduceIte,reduceCtorEq,WB,d1,q,e1];exact⟨_,rfl,rfl⟩
  ·simp-implicitDefEqProofs only[V,hh] at e1;simp-implicitDefEqProofs only[V,reduceCtorEq,d1,q,e1,e3];exact⟨_,rfl,rfl⟩
 exact hr
theorem tj(w:Vl ByteArray){a b:ByteArray}{r:List ByteArray}(hw:w.l=a::b::r)(h:AH):RunCall E1 (.f 155) [w.A strA] h (vB (strEq a b)) h:=by
 refine ai kr aCJ (aN Vl.leaf.tree) rfl (Tree.val _) (fun s hs hh hd hr=>?_) h;have h0:=hs 0 _ rfl;have k0:=w.at aK (i:=0) hw;have k1:=w.at aK (i:=1) (k:=b) (r:=r) (by rw[hw];rfl)
 have vi:∀b,ids (AV.val b)=[]:=fun _=>rfl;simp-implicitDefEqProofs only[Nw,f155,V];refine Run.mono (am (Q:=fun e s'=>e=.normal∧s'.eval (.t 2)=some (vB (strEq a b))∧s'.defers=s.defers) ?_) ?_
 ·refine bG (R:=[]) rfl (fun x hx=>by cases hx) (fun r hr'=>by cases hr') ?_
  simp-implicitDefEqProofs only[Nv,wpDm,aw,iv,is,footed,V,↓reduceIte,rA,reduceCtorEq,h0,aO Vl.ids,az Vl.ids,k0,k1,bF,show∀l,onlyT [] (some (AV.iptr l))=true from fun _=>rfl,strA,j6,im,aO (vi _)]
 rintro e s1 ⟨rfl,e2,e3⟩;simp-implicitDefEqProofs only[V,reduceCtorEq,e2,e3,hd]
theorem gL(x:ByteArray)(h:AH):RunCall E1 (.f 154) [vS x] h (.fn (.func 179) [] [.ptr h.next 0]) (h.alloc (.cells [vS x] true)):=by
 obtain⟨v,h',hr,rfl,rfl⟩:=kH (g:=154) (l:=[vS x]) (h:=h) (fun v h'=>v=.fn (.func 179) [] [.ptr h.next 0]∧h'=h.alloc (.cells [vS x] true)) kr aCL fun s hs hh hd hrd=>by
  have h0:=hs 0 _ rfl;simp-implicitDefEqProofs only[Nx,f154,V,↓reduceIte,rA,reduceCtorEq,h0,hh,hd];exact⟨_,rfl,rfl⟩
 exact hr
def sInt:ByteArray:=⟨#[73,110,116]⟩
def sBool:ByteArray:=⟨#[66,111,111,108]⟩
def sCell:ByteArray:=⟨#[67,101,108,108]⟩
def argS(op:Int):Option ByteArray:=
 if op=6∨op=7∨op=8∨op=9∨op=12∨op=13 then some sInt else if op=10∨op=11 then none else some sBool
def resS(op:Int):ByteArray:=if op=6∨op=7∨op=8∨op=9 then sInt else sBool
def RuleOk(op:Int)(h:AH):Prop:=match argS op with
 |some a=>∃h' b,RunCall E1 (.f 118) [vI op] h (.agg [.fn (.func 179) [] [.ptr b 0],vS (resS op)]) h'∧b<h'.next∧h'.get b=some (.cells [vS a] true)∧h.next≤h'.next∧∀x,x<h.next→h'.get x=h.get x
 |none=>∃h',RunCall E1 (.f 118) [vI op] h (.agg [.fn (.func 155) [] [],vS (resS op)]) h'∧h.next≤h'.next∧∀x,x<h.next→h'.get x=h.get x
theorem ez{h:AH}{b:Nat}{a0 a1 x y:AV}:stK h b 2 0 [x,y] (some (.cells [a0,a1] true))=some (h.put b (some (.cells [x,y] true))):=dA rfl rfl
theorem Gr{f:Fn}{a b:List AV}:(AV.fn f a b).cells=some [.fn f a b]:=rfl
theorem qE{a b:AV}:takeN (some 2) [a,b]=some (.agg [a,b]):=rfl
theorem eC{op:Int}{h h':AH}{v:AV}(H:∀s:St,s.eval (.t 0)=some (vI op)→s.h=h→s.defers=[]→wp E1 fJ.body s fun e s=>(e=.normal∨e=.ret)∧s.defers=[]∧∃r,resultsA E1.globs s fJ.res=some r∧oneOrTup r=v∧s.h=h'):RunCall E1 (.f 118) [vI op] h v h':=by
 obtain⟨v,h',hr,rfl,rfl⟩:=kH (g:=118) (l:=[vI op]) (h:=h) (fun v' h''=>v'=v∧h''=h') kr aDL fun s hs hh hd hrd=>H s (hs 0 _ rfl) hh hd;exact hr
theorem aGP(h:AH):RuleOk 6 h:=U14
theorem aGO(h:AH):RuleOk 7 h:=U14
theorem aGN(h:AH):RuleOk 8 h:=U14
theorem aGM(h:AH):RuleOk 9 h:=U14
theorem Zr(h:AH):RuleOk 12 h:=U13
theorem Zq(h:AH):RuleOk 13 h:=U13
theorem Zt(h:AH):RuleOk 10 h:=U12
theorem Zs(h:AH):RuleOk 11 h:=U12
theorem Qj{op:Int}(h6:op≠6)(h7:op≠7)(h8:op≠8)(h9:op≠9)(h10:op≠10)(h11:op≠11)(h12:op≠12)(h13:op≠13)(h:AH):RuleOk op h:=by
 have e1:argS op=some sBool:=by
  simp only[argS,h6,h7,h8,h9,h10,h11,h12,h13,or_self,if_false]
 have e2:resS op=sBool:=by
  simp only[resS,h6,h7,h8,h9,or_self,if_false]
 unfold RuleOk;rw[e1,e2];refine⟨((h.alloc (.cells [.val .nilFunc,vS ⟨#[]⟩] true)).alloc (.cells [vS sBool] true)).put h.next (some (.cells [.fn (.func 179) [] [.ptr (h.next+1) 0],vS sBool] true)),h.next+1,eC fun s h0 hh hd=>?_,jx _,?_,by show h.next≤h.next+1+1;omega,fun x hx=>?_⟩
 ·simp-implicitDefEqProofs only[fJ,f118,V,↓reduceIte,rA,reduceCtorEq,h0,hh,decide_eq_false h6,decide_eq_false h7,decide_eq_false h8,decide_eq_false h9,decide_eq_false h10,decide_eq_false h11,decide_eq_false h12,decide_eq_false h13];refine aW (gL sBool _) ?_
  simp-implicitDefEqProofs only[V,↓reduceIte,rA,reduceCtorEq,WF,hd,ez,Gr,qE,(eq_false om:(h.next=h.next+1)=False)];exact⟨_,rfl,rfl,rfl⟩
 ·rw[aS om];exact ax (h:=h.alloc (.cells [.val .nilFunc,vS ⟨#[]⟩] true))
 ·rw[aS om,aJ (by show x<h.next+1;omega),aJ hx]
theorem xT(op:Int)(h:AH):RuleOk op h:=by
 by_cases h6:op=6
 ·subst h6;exact aGP h
 by_cases h7:op=7
 ·subst h7;exact aGO h
 by_cases h8:op=8
 ·subst h8;exact aGN h
 by_cases h9:op=9
 ·subst h9;exact aGM h
 by_cases h10:op=10
 ·subst h10;exact Zt h
 by_cases h11:op=11
 ·subst h11;exact Zs h
 by_cases h12:op=12
 ·subst h12;exact Zr h
 by_cases h13:op=13
 ·subst h13;exact Zq h
 exact Qj h6 h7 h8 h9 h10 h11 h12 h13 h
theorem Lu{g:Nat}{l:List AV}{a:AFun}{t:AV}(hs:freshF g=true)(hf:funOf i7 g=some a)(hl:∀v∈l,Tree v)
  (H:∀s:St,(∀i v,(enterTm l 0 .nil).get i=some v→s.eval (.t i)=some v)→s.h=.empty→s.defers=[]→s.round=none→wp E1 a.body s fun e s=>(e=.normal∨e=.ret)∧s.defers=[]∧∃rs,resultsA E1.globs s a.res=some rs∧∃n,n<1000∧Rep s.h 0 s.h.next n (oneOrTup rs) t) (h:AH):
  RunCall E1 (.f g) l h t h:=by
 obtain⟨v,h',⟨n,hn,hr⟩,hrun⟩:=tp (g:=g) (l:=l) (h:=.empty) (a:=a) (fun v h'=>∃n,n<1000∧Rep h' 0 h'.next n v t) hf fun s h1 h2 h3 h4=>(ay _ _ _ (H s h1 h2 h3 h4));exact tv (dh hs) (eH hs _) hl hrun hr (Nat.lt_trans hn de) h
def hoLk(b:ByteArray):List Ho→Option Ho
 | []=>none
 |h::r=>bif strEq h.nm b then some h else hoLk b r
def smLk(b:ByteArray):List Sm→Option Sm
 | []=>none
 |s::r=>bif strEq s.nm b then some s else smLk b r
theorem bh{h:AH}{b:Nat}{a0 a1:AV}{p:Ho}:stK h b 2 0 p.cells (some (.cells [a0,a1] true))=some (h.put b (some (.cells p.cells true))):=dA rfl rfl
theorem cD{h:AH}{b:Nat}{a0 a1 a2:AV}{p:Sm}:stK h b 3 0 p.cells (some (.cells [a0,a1,a2] true))=some (h.put b (some (.cells p.cells true))):=dA rfl rfl
theorem vR{h:AH}{b:Nat}{a0 a1 a2 x y z:AV}:stK h b 3 0 [x,y,z] (some (.cells [a0,a1,a2] true))=some (h.put b (some (.cells [x,y,z] true))):=dA rfl rfl
theorem aGB{h:AH}{b:Nat}{p:Ho}{w:Vl Vr}:stK h b 1 1 [w.A Vr.cells] (some (.cells p.cells true))=some (h.put b (some (.cells (Ho.mk p.nm w).cells true))):=rfl
theorem aGA{h:AH}{b:Nat}{p:Sm}{w:Vl ByteArray}:stK h b 1 1 [w.A strA] (some (.cells p.cells true))=some (h.put b (some (.cells (Sm.mk p.nm w p.res).cells true))):=rfl
theorem wY(b:ByteArray)(w:Vl Ho)(hN:w.l.length<2^61)(cl:Ho→Vl Vr)(hc:∀x∈w.l,∀h,RunCall E1 (.f 45) [x.ps.A Vr.cells] h ((cl x).A Vr.cells) h):∀(r:List Ho) (i:Nat) (s:St),w.l.drop i=r→i≤w.l.length→1<s.h.next→
  s.h.get 1=some (.cells [vS ⟨#[]⟩,.val (.slice none 0 0)] true)→s.eval (.t 1)=some (vS b)→s.eval (.t 4)=some (.ptr 1 0)→s.eval (.t 9)=some (w.A Ho.cells)→s.eval (.t 10)=some (vI (w.l.length:Nat))→s.eval (.t 11)=some (vI (i:Nat))→s.defers=[]→
  Run E1 pU s fun e s'=>s'.defers=[]∧s'.eval (.t 4)=some (.ptr 1 0)∧((hoLk b r=none∧e=.exit 0∧s'.h.get 1=some (.cells [vS ⟨#[]⟩,.val (.slice none 0 0)] true))∨(∃x,hoLk b r=some x∧e=.ret∧s'.eval (.t 5)=some (vB true)∧s'.h.get 1=some (.cells (Ho.mk x.nm (cl x)).cells true)))
 | [],i,s,hd,hi,hn,g1,h1,h4,h9,h10,h11,hf=>by
  have hl:=aG hd hi;subst hl;apply aB (rfl:pU=.loop ge);simp-implicitDefEqProofs only[ge,V,↓reduceIte,rA,reduceCtorEq,h4,h10,h11,hf,bA,hoLk,g1]
 |k::r,i,s,hd,hi,hn,g1,h1,h4,h9,h10,h11,hf=>by
  have hl:=aH hd;have hlt:=bD hl;have w1:IntKind.i64.wrap ((i:Int)+1)=((i+1:Nat):Int):=aD (n:=i+1) om;have n1:(1=s.h.next)=False:=eq_false om;apply aB (rfl:pU=.loop ge);cases hq:strEq k.nm b with
  |true=>
   have c1:=hc k (jh (i:=i) (by rw[hd];exact ik))
   simp-implicitDefEqProofs only[ge,V,↓reduceIte,rA,reduceCtorEq,WF,h1,h4,h9,h10,h11,hf,hlt,w.at Ho.len hd,bh,hq,aA c1,aGB,g1,n1,hoLk];exact .inr ⟨_,rfl,rfl⟩
  |false=>
   simp-implicitDefEqProofs only[ge,V,↓reduceIte,rA,WF,h1,h9,h10,h11,hlt,w.at Ho.len hd,bh,hq,w1,hoLk];refine wY b w hN cl hc r (i+1) _ (aF hd) om ?_ ?_ ?_ ?_ ?_ ?_ ?_ ?_
   ·exact U52
   ·exact U89
   all_goals simp-implicitDefEqProofs only[V,↓reduceIte,rA,h1,h4,h9,h10,hf]
theorem w9{α β:Type}{l:List α}{p:α→β→Prop}(z:β)(h:∀x∈l,∃y,p x y):∃f:α→β,∀x∈l,p x (f x):=by
 have:∀x,∃y,x∈l→p x y:=fun x=>by
  by_cases m:x∈l
  ·obtain⟨y,hy⟩:=h x m;exact⟨y,fun _=>hy⟩
  ·exact⟨z,fun k=>absurd k m⟩
 obtain⟨f,hf⟩:=Classical.skolem.1 this;exact⟨f,fun x m=>hf x m⟩
theorem Ea{b:ByteArray}:∀{l:List Ho} {x:Ho},hoLk b l=some x→x∈l
 |h::r,x,e=>by
  simp only[hoLk] at e;cases q:strEq h.nm b with
  |true=>
   rw[q] at e;simp only[cond_true,sI] at e;rw[e];exact ik
  |false=>
   rw[q] at e;exact j4 _ (Ea e)
theorem Cf{b:ByteArray}:∀{l:List Sm} {x:Sm},smLk b l=some x→x∈l
 |h::r,x,e=>by
  simp only[smLk] at e;cases q:strEq h.nm b with
  |true=>
   rw[q] at e;simp only[cond_true,sI] at e;rw[e];exact ik
  |false=>
   rw[q] at e;exact j4 _ (Cf e)
theorem eD{h:AH}{hi n:Nat}{a b t:AV}{v:Value}(r:Rep h 0 hi n a t):Rep h 0 hi (n+1) (.tup [a,.val v]) (.tup [t,.val v]):=by
 have:=Rep.tup (h:=h) (lo:=0) (hi:=hi) (n:=n) (ps:=[(a,t),(.val v,.val v)]) (fun p hp=>by
  simp only[ie,j7,or_false] at hp;rcases hp with rfl|rfl
  ·exact r
  ·exact Rep.leaf (Leaf.val _))
 exact this
theorem Xn(Vx:Evr)(b:ByteArray)(hN:Vx.hs.l.length<2^61)(cl:Ho→Vl Vr)(hc:∀x∈Vx.hs.l,∀h,RunCall E1 (.f 45) [x.ps.A Vr.cells] h ((cl x).A Vr.cells) h)(h:AH):
  RunCall E1 (.f 153) [.agg Vx.cells,vS b] h (match hoLk b Vx.hs.l with
   |some x=>.tup [.agg (Ho.mk x.nm (cl x)).cells,vB true]
   |none=>.tup [.agg (Ho.mk ⟨#[]⟩ ⟨[],nilK,none⟩).cells,vB false]) h:=by
 refine Lu kr aCM (bT (Tree.ev Vx) (Tree.val _)) (fun s hs hh hd hr=>?_) h;have h0:=hs 0 _ rfl;have h1:=hs 1 _ rfl;simp-implicitDefEqProofs only[Ny,f153,V,↓reduceIte,rA,reduceCtorEq,h0,hh];refine(wY b Vx.hs hN cl hc Vx.hs.l 0 _ rfl (ic _) ?_ ?_ ?_ ?_ ?_ ?_ ?_ ?_).mono ?_
 ·exact U90
 ·exact U36
 ·exact U68
 ·exact U36
 ·exact U36
 ·exact U36
 ·exact U58
 ·exact U40
 rintro e s1 ⟨d1,e4,⟨q,rfl,g1⟩|⟨x,q,rfl,e5,g1⟩⟩
 ·exact U91
 ·exact U92
theorem yK(Vx:Evr)(b:ByteArray)(hN:Vx.hs.l.length<2^61)(hP:∀x∈Vx.hs.l,x.ps.l.length<2^31):
  match hoLk b Vx.hs.l with
  |some x=>∃y:Ho,y.ps.l=x.ps.l∧∀h,RunCall E1 (.f 153) [.agg Vx.cells,vS b] h (.tup [.agg y.cells,vB true]) h
  |none=>∃y:Ho,∀h,RunCall E1 (.f 153) [.agg Vx.cells,vS b] h (.tup [.agg y.cells,vB false]) h:=by
 obtain⟨cl,hc⟩:=w9 (l:=Vx.hs.l) (p:=fun(x:Ho) (w:Vl Vr)=>w.l=x.ps.l∧∀h,RunCall E1 (.f 45) [x.ps.A Vr.cells] h (w.A Vr.cells) h) ⟨[],nilK,none⟩ fun x hx=>lN x.ps (cS Vr.leaves _) (hP x hx);have key:=Xn Vx b hN cl fun x hx=>(hc x hx).2;cases hx:hoLk b Vx.hs.l with
 |none=>
  rw[hx] at key;exact⟨_,key⟩
 |some x=>
  rw[hx] at key;exact⟨_,(hc x (Ea hx)).1,key⟩
def sTag:ByteArray:=⟨#[116,97,103]⟩
def sVal:ByteArray:=⟨#[118,97,108]⟩
def symS(sy:List Sm)(b:ByteArray):Option (List ByteArray×ByteArray):=
 bif strEq b sTag then some ([],sInt) else bif strEq b sVal then some ([sCell],sInt) else(smLk b sy).map fun s=>(s.as.l,s.res)
theorem wZ(b:ByteArray)(w:Vl Sm)(hN:w.l.length<2^61)(cl:Sm→Vl ByteArray)(hc:∀x∈w.l,∀h,RunCall E1 (.f 178) [x.as.A strA] h ((cl x).A strA) h):∀(r:List Sm) (i:Nat) (s:St),w.l.drop i=r→i≤w.l.length→1<s.h.next→
  s.h.get 1=some (.cells [vS ⟨#[]⟩,.val (.slice none 0 0),vS ⟨#[]⟩] true)→s.eval (.t 1)=some (vS b)→s.eval (.t 4)=some (.ptr 1 0)→s.eval (.t 17)=some (w.A Sm.cells)→s.eval (.t 18)=some (vI (w.l.length:Nat))→s.eval (.t 19)=some (vI (i:Nat))→s.defers=[]→
  Run E1 pW s fun e s'=>s'.defers=[]∧s'.eval (.t 4)=some (.ptr 1 0)∧((smLk b r=none∧e=.exit 1∧s'.h.get 1=some (.cells [vS ⟨#[]⟩,.val (.slice none 0 0),vS ⟨#[]⟩] true))∨(∃x,smLk b r=some x∧e=.ret∧s'.eval (.t 5)=some (vB true)∧s'.h.get 1=some (.cells (Sm.mk x.nm (cl x) x.res).cells true)))
 | [],i,s,hd,hi,hn,g1,h1,h4,h9,h10,h11,hf=>by
  have hl:=aG hd hi;subst hl;apply aB (rfl:pW=.loop gh);simp-implicitDefEqProofs only[gh,V,↓reduceIte,rA,reduceCtorEq,h4,h10,h11,hf,bA,smLk,g1]
 |k::r,i,s,hd,hi,hn,g1,h1,h4,h9,h10,h11,hf=>by
  have hl:=aH hd;have hlt:=bD hl;have w1:IntKind.i64.wrap ((i:Int)+1)=((i+1:Nat):Int):=aD (n:=i+1) om;have n1:(1=s.h.next)=False:=eq_false om;apply aB (rfl:pW=.loop gh);cases hq:strEq k.nm b with
  |true=>
   have c1:=hc k (jh (i:=i) (by rw[hd];exact ik))
   simp-implicitDefEqProofs only[gh,V,↓reduceIte,rA,reduceCtorEq,WF,h1,h4,h9,h10,h11,hf,hlt,w.at Sm.len hd,cD,hq,aA c1,aGA,g1,n1,smLk];exact .inr ⟨_,rfl,rfl⟩
  |false=>
   simp-implicitDefEqProofs only[gh,V,↓reduceIte,rA,WF,h1,h9,h10,h11,hlt,w.at Sm.len hd,cD,hq,w1,smLk];refine wZ b w hN cl hc r (i+1) _ (aF hd) om ?_ ?_ ?_ ?_ ?_ ?_ ?_ ?_
   ·exact U52
   ·exact U89
   all_goals simp-implicitDefEqProofs only[V,↓reduceIte,rA,h1,h4,h9,h10,hf]
theorem Ls{h:AH}{hi a o:Nat}{x z:ByteArray}(g:h.get a=some (.cells [vS sCell] true))(ha:a<hi):Rep h 0 hi 2 (.agg [vS x,.own a 0 1 1 (some 1),vS z]) (.agg (Sm.mk x ⟨[sCell],none,some 1⟩ z).cells):=by
 have r1:Rep h 0 hi 1 (.own a 0 1 1 (some 1)) (.imm [vS sCell] 1 (some 1)):=Rep.own (ps:=[(vS sCell,vS sCell)]) (ic _) ha g rfl (fun p hp=>by
  rw[ig.1 hp];exact Rep.leaf (Leaf.val _))
 have:=Rep.agg (h:=h) (lo:=0) (hi:=hi) (n:=1) (ps:=[(vS x,vS x),(.own a 0 1 1 (some 1),.imm [vS sCell] 1 (some 1)),(vS z,vS z)]) (fun p hp=>by
  simp only[ie,j7,or_false] at hp;rcases hp with rfl|rfl|rfl
  ·exact Rep.leaf (Leaf.val _)
  ·exact r1
  ·exact Rep.leaf (Leaf.val _))
 exact this
theorem Xo(Vx:Evr)(b:ByteArray)(hN:Vx.sy.l.length<2^61)(cl:Sm→Vl ByteArray)(hc:∀x∈Vx.sy.l,∀h,RunCall E1 (.f 178) [x.as.A strA] h ((cl x).A strA) h)(h:AH):
  RunCall E1 (.f 151) [.agg Vx.cells,vS b] h (bif strEq b sTag then .tup [.agg (Sm.mk sTag ⟨[],nilK,none⟩ sInt).cells,vB true] else bif strEq b sVal then .tup [.agg (Sm.mk sVal ⟨[sCell],none,some 1⟩ sInt).cells,vB true] else match smLk b Vx.sy.l with
   |some x=>.tup [.agg (Sm.mk x.nm (cl x) x.res).cells,vB true]
   |none=>.tup [.agg (Sm.mk ⟨#[]⟩ ⟨[],nilK,none⟩ ⟨#[]⟩).cells,vB false]) h:=by
 refine Lu kr aCO (bT (Tree.ev Vx) (Tree.val _)) (fun s hs hh hd hr=>?_) h;have h0:=hs 0 _ rfl;have h1:=hs 1 _ rfl;have s1e:(⟨#[116,97,103]⟩:ByteArray)=sTag:=rfl;have s2e:(⟨#[118,97,108]⟩:ByteArray)=sVal:=rfl;cases q1:strEq b sTag with
 |true=>
  simp-implicitDefEqProofs only[pX,f151,V,↓reduceIte,rA,rB,reduceCtorEq,WF,h0,h1,hh,hd,s1e,s2e,q1,vR,qD];exact⟨_,rfl,2,de,eD (b:=.val .nilFunc) (dC (fun v hv=>by
   simp only[ie,j7,or_false] at hv;rcases hv with rfl|rfl|rfl<;>exact Leaf.val _))⟩
 |false=>cases q2:strEq b sVal with
  |true=>
   simp-implicitDefEqProofs only[pX,f151,V,↓reduceIte,rA,rB,reduceCtorEq,WF,h0,h1,hh,hd,s1e,s2e,q1,q2,vR,qD];refine⟨_,rfl,3,de,eD (b:=.val .nilFunc) (Ls (o:=0) ?_ ?_)⟩
   ·exact U58
   ·decide
  |false=>
   simp-implicitDefEqProofs only[pX,f151,V,↓reduceIte,rA,reduceCtorEq,h0,h1,hh,s1e,s2e,q1,q2];refine(wZ b Vx.sy hN cl hc Vx.sy.l 0 _ rfl (ic _) ?_ ?_ ?_ ?_ ?_ ?_ ?_ ?_).mono ?_
   ·exact U90
   ·exact U36
   ·exact U68
   ·exact U36
   ·exact U36
   ·exact U36
   ·exact U58
   ·exact U40
   rintro e s1 ⟨d1,e4,⟨q,rfl,g1⟩|⟨x,q,rfl,e5,g1⟩⟩
   ·exact U93
   ·exact U94
theorem yM(Vx:Evr)(b:ByteArray)(hN:Vx.sy.l.length<2^61)(hP:∀x∈Vx.sy.l,x.as.l.length<2^31):
  match symS Vx.sy.l b with
  |some x=>∃y:Sm,y.as.l=x.1∧y.res=x.2∧∀h,RunCall E1 (.f 151) [.agg Vx.cells,vS b] h (.tup [.agg y.cells,vB true]) h
  |none=>∃y:Sm,∀h,RunCall E1 (.f 151) [.agg Vx.cells,vS b] h (.tup [.agg y.cells,vB false]) h:=by
 obtain⟨cl,hc⟩:=w9 (l:=Vx.sy.l) (p:=fun(x:Sm) (w:Vl ByteArray)=>w.l=x.as.l∧∀h,RunCall E1 (.f 178) [x.as.A strA] h (w.A strA) h) ⟨[],nilK,none⟩ fun x hx=>vJ x.as (zz _) (hP x hx);have key:=Xo Vx b hN cl fun x hx=>(hc x hx).2;unfold symS;cases q1:strEq b sTag with
 |true=>
  rw[q1] at key;exact⟨_,rfl,rfl,key⟩
 |false=>cases q2:strEq b sVal with
  |true=>
   rw[q1,q2] at key;exact⟨_,rfl,rfl,key⟩
  |false=>
   rw[q1,q2] at key;cases hx:smLk b Vx.sy.l with
   |none=>
    rw[hx] at key;exact⟨_,key⟩
   |some x=>
    rw[hx] at key;exact⟨Sm.mk x.nm (cl x) x.res,(hc x (Cf hx)).1,rfl,key⟩
def eqS:List ByteArray→List ByteArray→Bool
 | [],_=>true
 |k::ks,a::l=>strEq k a&&eqS ks l
 |_::_,[]=>false
def hdS:List ByteArray→ByteArray
 |k::_=>k
 | []=>⟨#[]⟩
def appS(sy:List Sm)(b:ByteArray)(ks:List ByteArray):ByteArray×Int:=
 match symS sy b with
 |none=>(⟨#[]⟩,5)
 |some x=>bif strEq b sTag then(bif !decide ((ks.length:Int)=1) then(⟨#[]⟩,13) else bif plainS (hdS ks) then(⟨#[]⟩,11) else(x.2,0))
  else bif !decide ((ks.length:Int)=(x.1.length:Nat)) then(⟨#[]⟩,13) else bif eqS ks x.1 then(x.2,0) else(⟨#[]⟩,11)
def filS(hs:List Ho)(b:ByteArray)(ks:List ByteArray):ByteArray×Int:=
 match hoLk b hs with
 |none=>(⟨#[]⟩,5)
 |some x=>bif !decide ((ks.length:Int)=(x.ps.l.length:Nat)) then(⟨#[]⟩,13) else bif eqS ks (x.ps.l.map Vr.so) then(sBool,0) else(⟨#[]⟩,11)
def ansA(r:ByteArray×Int):AV:=.tup [vS r.1,vI r.2]
theorem br(r:ByteArray×Int):Tree (ansA r):=Tree.two _ _
theorem ws(y:Sm)(w:Vl ByteArray)(hN:w.l.length<2^61)(hlen:w.l.length=y.as.l.length):∀(r q:List ByteArray) (i:Nat) (s:St),w.l.drop i=r→y.as.l.drop i=q→i≤w.l.length→s.h.get 1=some (.cells y.cells true)→
  s.eval (.t 8)=some (.ptr 1 0)→s.eval (.t 37)=some (w.A strA)→s.eval (.t 38)=some (vI (w.l.length:Nat))→s.eval (.t 39)=some (vI (i:Nat))→s.defers=[]→
  Run E1 pq s fun e s'=>s'.defers=[]∧s'.h=s.h∧((eqS r q=true∧e=.exit 0∧s'.eval (.t 8)=some (.ptr 1 0))∨(eqS r q=false∧e=.ret∧s'.eval (.t 6)=some (vS ⟨#[]⟩)∧s'.eval (.t 7)=some (vI 11)))
 | [],q,i,s,hd,hq,hi,g1,h8,h37,h38,h39,hf=>by
  have hl:=aG hd hi;subst hl;apply aB (rfl:pq=.loop g8);simp-implicitDefEqProofs only[g8,V,↓reduceIte,rA,reduceCtorEq,h8,h38,h39,hf,bA,eqS]
 |k::r,q,i,s,hd,hq,hi,g1,h8,h37,h38,h39,hf=>by
  have hl:=aH hd;have hlt:=bD hl;have w1:IntKind.i64.wrap ((i:Int)+1)=((i+1:Nat):Int):=aD (n:=i+1) om;obtain⟨a,q',rfl⟩:∃a q',q=a::q':=by
   cases q with
   |nil=>
    have:=jz.1 hq;omega
   |cons a q'=>exact⟨a,q',rfl⟩
  apply aB (rfl:pq=.loop g8);cases hc:strEq k a with
  |false=>
   simp-implicitDefEqProofs only[g8,V,↓reduceIte,rA,reduceCtorEq,h8,h37,h38,h39,hf,hlt,w.at aK hd,y.as.at aK hq,strA,j6,im,g1,hc,eqS]
  |true=>
   simp-implicitDefEqProofs only[g8,V,↓reduceIte,rA,h8,h37,h38,h39,hlt,w.at aK hd,y.as.at aK hq,strA,j6,im,g1,hc,eqS,w1];refine(ws y w hN hlen r q' (i+1) _ (aF hd) (aF hq) om ?_ ?_ ?_ ?_ ?_ ?_).mono ?_
   all_goals simp-implicitDefEqProofs only[V,↓reduceIte,rA,h8,h37,h38,g1,hf]
   intro e s1 h;exact h
theorem Gt(Vx:Evr)(b:ByteArray)(w:Vl ByteArray)(hN:Vx.sy.l.length<2^61)(hP:∀x∈Vx.sy.l,x.as.l.length<2^31)(hw:w.l.length<2^61)(h:AH):
  RunCall E1 (.f 116) [.agg Vx.cells,vS b,w.A strA] h (ansA (appS Vx.sy.l b w.l)) h:=by
 have fc:=yM Vx b hN hP;refine aC kr kr (Dt (Tree.ev Vx) (Tree.val _) Vl.leaf.tree) rfl (br _) (cg (rs:=[vS ((appS Vx.sy.l b w.l).1),vI ((appS Vx.sy.l b w.l).2)]) aDN fun s hs hh hd=>?_) h;have h0:=hs 0 _ rfl;have h1:=hs 1 _ rfl;have h2:=hs 2 _ rfl;unfold appS;cases hx:symS Vx.sy.l b with
 |none=>
  rw[hx] at fc;obtain⟨y,fc⟩:=fc;simp-implicitDefEqProofs only[gz,f116,V,↓reduceIte,rA,reduceCtorEq,WF,h0,h1,hh,hd,aA fc,cD]
 |some x=>
  rw[hx] at fc;obtain⟨y,ya,yr,fc⟩:=fc;have s1e:(⟨#[116,97,103]⟩:ByteArray)=sTag:=rfl;simp only;cases ht:strEq b sTag with
  |true=>
   cases hk:decide ((w.l.length:Int)=1) with
   |false=>
    exact U158
   |true=>
    obtain⟨k,hwk⟩:∃k,w.l=[k]:=by
     have:=of_decide_eq_true hk
     match hq:w.l,(show w.l.length=1 by omega) with
     | [k],_=>exact⟨k,rfl⟩
    have ka:=w.at aK (i:=0) (k:=k) (r:=[]) (by rw[hwk];rfl)
    have e1:hdS w.l=k:=by rw[hwk];rfl
    have e2:strA k++List.flatMap strA []=[vS k]:=rfl;rw[e1];rw[e2] at ka;cases hp:plainS k with
    |true=>simp-implicitDefEqProofs only[gz,f116,V,↓reduceIte,rA,reduceCtorEq,WF,h0,h1,h2,hh,hd,aA fc,cD,s1e,ht,hk,ka,aA (iH k),hp]
    |false=>simp-implicitDefEqProofs only[gz,f116,V,↓reduceIte,rA,reduceCtorEq,WF,h0,h1,h2,hh,hd,aA fc,cD,s1e,ht,hk,ka,aA (iH k),hp,yr]
  |false=>
   rw[←ya];cases hk:decide ((w.l.length:Int)=(y.as.l.length:Nat)) with
   |false=>
    exact U158
   |true=>
    have hlen:w.l.length=y.as.l.length:=by have:=of_decide_eq_true hk;omega
    simp-implicitDefEqProofs only[gz,f116,V,↓reduceIte,rA,WF,h0,h1,h2,hh,aA fc,cD,s1e,ht,hk];refine(ws y w hw hlen w.l y.as.l 0 _ rfl rfl (ic _) ?_ ?_ ?_ ?_ ?_ ?_).mono ?_
    ·exact U36
    ·exact U36
    ·exact U36
    ·exact U36
    ·exact U58
    ·exact U40
    rintro e s1 ⟨d1,e1,⟨q,rfl,e8⟩|⟨q,rfl,e6,e7⟩⟩
    ·simp-implicitDefEqProofs only[V] at e1;simp-implicitDefEqProofs only[V,↓reduceIte,rA,reduceCtorEq,WF,d1,e1,e8,q,yr]
    ·exact U95
theorem wq(y:Ho)(w:Vl ByteArray)(hN:w.l.length<2^61)(hlen:w.l.length=y.ps.l.length):∀(r:List ByteArray) (q:List Vr) (i:Nat) (s:St),w.l.drop i=r→y.ps.l.drop i=q→i≤w.l.length→s.h.get 1=some (.cells y.cells true)→
  s.eval (.t 8)=some (.ptr 1 0)→s.eval (.t 26)=some (w.A strA)→s.eval (.t 27)=some (vI (w.l.length:Nat))→s.eval (.t 28)=some (vI (i:Nat))→s.defers=[]→
  Run E1 po s fun e s'=>s'.defers=[]∧((eqS r (q.map Vr.so)=true∧e=.exit 0)∨(eqS r (q.map Vr.so)=false∧e=.ret∧s'.eval (.t 6)=some (vS ⟨#[]⟩)∧s'.eval (.t 7)=some (vI 11)))
 | [],q,i,s,hd,hq,hi,g1,h8,h37,h38,h39,hf=>by
  have hl:=aG hd hi;subst hl;apply aB (rfl:po=.loop gx);simp-implicitDefEqProofs only[gx,V,↓reduceIte,rA,reduceCtorEq,h38,h39,hf,bA,eqS]
 |k::r,q,i,s,hd,hq,hi,g1,h8,h37,h38,h39,hf=>by
  have hl:=aH hd;have hlt:=bD hl;have w1:IntKind.i64.wrap ((i:Int)+1)=((i+1:Nat):Int):=aD (n:=i+1) om;obtain⟨a,q',rfl⟩:∃a q',q=a::q':=by
   cases q with
   |nil=>
    have:=jz.1 hq;omega
   |cons a q'=>exact⟨a,q',rfl⟩
  apply aB (rfl:po=.loop gx);cases hc:strEq k a.so with
  |false=>
   simp-implicitDefEqProofs only[gx,V,↓reduceIte,rA,reduceCtorEq,h8,h37,h38,h39,hf,hlt,w.at aK hd,y.ps.at Vr.len hq,strA,j6,im,g1,hc,eqS,jc]
  |true=>
   simp-implicitDefEqProofs only[gx,V,↓reduceIte,rA,h8,h37,h38,h39,hlt,w.at aK hd,y.ps.at Vr.len hq,strA,j6,im,g1,hc,eqS,w1,jc];refine(wq y w hN hlen r q' (i+1) _ (aF hd) (aF hq) om ?_ ?_ ?_ ?_ ?_ ?_)
   all_goals simp-implicitDefEqProofs only[V,↓reduceIte,rA,h8,h37,h38,g1,hf]
theorem Ej(Vx:Evr)(b:ByteArray)(w:Vl ByteArray)(hN:Vx.hs.l.length<2^61)(hP:∀x∈Vx.hs.l,x.ps.l.length<2^31)(hw:w.l.length<2^61)(h:AH):
  RunCall E1 (.f 117) [.agg Vx.cells,vS b,w.A strA] h (ansA (filS Vx.hs.l b w.l)) h:=by
 have fc:=yK Vx b hN hP;refine aC kr kr (Dt (Tree.ev Vx) (Tree.val _) Vl.leaf.tree) rfl (br _) (cg (rs:=[vS ((filS Vx.hs.l b w.l).1),vI ((filS Vx.hs.l b w.l).2)]) aDM fun s hs hh hd=>?_) h;have h0:=hs 0 _ rfl;have h1:=hs 1 _ rfl;have h2:=hs 2 _ rfl;unfold filS;cases hx:hoLk b Vx.hs.l with
 |none=>
  rw[hx] at fc;obtain⟨y,fc⟩:=fc;simp-implicitDefEqProofs only[pp,f117,V,↓reduceIte,rA,reduceCtorEq,WF,h0,h1,hh,hd,aA fc,bh]
 |some x=>
  rw[hx] at fc;obtain⟨y,ya,fc⟩:=fc;have s1e:(⟨#[66,111,111,108]⟩:ByteArray)=sBool:=rfl;simp only;rw[←ya];cases hk:decide ((w.l.length:Int)=(y.ps.l.length:Nat)) with
  |false=>
   simp-implicitDefEqProofs only[pp,f117,V,↓reduceIte,rA,reduceCtorEq,WF,h0,h1,h2,hh,hd,aA fc,bh,s1e,hk]
  |true=>
   have hlen:w.l.length=y.ps.l.length:=by have:=of_decide_eq_true hk;omega
   simp-implicitDefEqProofs only[pp,f117,V,↓reduceIte,rA,WF,h0,h1,h2,hh,aA fc,bh,s1e,hk];refine(wq y w hw hlen w.l y.ps.l 0 _ rfl rfl (ic _) ?_ ?_ ?_ ?_ ?_ ?_).mono ?_
   ·exact U36
   ·exact U36
   ·exact U36
   ·exact U36
   ·exact U58
   ·exact U40
   rintro e s1 ⟨d1,⟨q,rfl⟩|⟨q,rfl,e6,e7⟩⟩
   ·exact U96
   ·exact U95
def eq2S:List ByteArray→Bool
 |a::b::_=>strEq a b
 |_=>false
def ruleS(op:Int)(ks:List ByteArray):ByteArray×Int:=match argS op with
 |some a=>bif allS a ks then(resS op,0) else(⟨#[]⟩,11)
 |none=>bif eq2S ks then(resS op,0) else(⟨#[]⟩,11)
def sortN(Vx:Evr)(op:Int)(nm:ByteArray)(ks:List ByteArray):ByteArray×Int:=
 bif decide (op=1) then(sInt,0) else bif decide (op=2) then(sBool,0)
 else bif decide (op=3) then(match varS Vx.vs.l nm with|some s=>(s,0)|none=>(⟨#[]⟩,5))
 else bif decide (op=4) then appS Vx.sy.l nm ks else bif decide (op=5) then filS Vx.hs.l nm ks else ruleS op ks
theorem aFF{a b:AV}{rw:Bool}:cfB (some (.cells [a,b] rw)) 1=some [b]:=rfl
theorem Dl(Vx:Evr)(p:Pr)(w:Vl ByteArray)(hV:Vx.vs.l.length<2^61)(hY:Vx.sy.l.length<2^61)(hYP:∀x∈Vx.sy.l,x.as.l.length<2^31)(hN:Vx.hs.l.length<2^61)(hP:∀x∈Vx.hs.l,x.ps.l.length<2^31)(hw:w.l.length<2^61)
  (h2:p.op=10∨p.op=11→2≤w.l.length) (h:AH):RunCall E1 (.f 78) [.agg Vx.cells,p.av,w.A strA] h (ansA (sortN Vx p.op p.nm w.l)) h:=by
 refine aC kr kr (Dt (Tree.ev Vx) (Tree.pr p) Vl.leaf.tree) rfl (br _) (cg (rs:=[vS ((sortN Vx p.op p.nm w.l).1),vI ((sortN Vx p.op p.nm w.l).2)]) aIE fun s hs hh hd=>?_) h;have k0:=hs 0 _ rfl;have k1:=hs 1 _ rfl;have k2:=hs 2 _ rfl;have s1e:(⟨#[66,111,111,108]⟩:ByteArray)=sBool:=rfl;have s2e:(⟨#[73,110,116]⟩:ByteArray)=sInt:=rfl;unfold sortN;cases c1:decide (p.op=1) with
 |true=>simp-implicitDefEqProofs only[fu,f78,V,↓reduceIte,rA,reduceCtorEq,k0,k1,hh,hd,c1,s1e,s2e]
 |false=>cases c2:decide (p.op=2) with
  |true=>simp-implicitDefEqProofs only[fu,f78,V,↓reduceIte,rA,reduceCtorEq,k0,k1,hh,hd,c1,c2,s1e,s2e]
  |false=>cases c3:decide (p.op=3) with
   |true=>
    cases hv:varS Vx.vs.l p.nm with
    |none=>simp-implicitDefEqProofs only[fu,f78,V,↓reduceIte,rA,reduceCtorEq,k0,k1,hh,hd,c1,c2,c3,s1e,s2e,aA (nE Vx p.nm hV),hv,optR]
    |some x=>simp-implicitDefEqProofs only[fu,f78,V,↓reduceIte,rA,reduceCtorEq,k0,k1,hh,hd,c1,c2,c3,s1e,s2e,aA (nE Vx p.nm hV),hv,optR]
   |false=>cases c4:decide (p.op=4) with
    |true=>simp-implicitDefEqProofs only[fu,f78,V,↓reduceIte,rA,reduceCtorEq,k0,k1,k2,hh,hd,c1,c2,c3,c4,s1e,s2e,aA (Gt Vx p.nm w hY hYP hw),ansA]
    |false=>cases c5:decide (p.op=5) with
     |true=>simp-implicitDefEqProofs only[fu,f78,V,↓reduceIte,rA,reduceCtorEq,k0,k1,k2,hh,hd,c1,c2,c3,c4,c5,s1e,s2e,aA (Ej Vx p.nm w hN hP hw),ansA]
     |false=>
      simp-implicitDefEqProofs only[fu,f78,V,↓reduceIte,rA,k0,k1,hh,c1,c2,c3,c4,c5,s1e,s2e];have rc:=xT p.op ((AH.empty.alloc (.cells Vx.cells true)).alloc (.cells p.cells true));unfold RuleOk at rc;unfold ruleS;cases ha:argS p.op with
      |some a=>
       rw[ha] at rc;obtain⟨h1,b,r1,r2,r3,r4,r5⟩:=rc;have hb1:(b=h1.next)=False:=eq_false om;refine aW (v:=.agg [.fn (.func 179) [] [.ptr b 0],vS (resS p.op)]) (h':=h1) ?_ ?_
       ·exact U97
       cases hq:allS a w.l with
       |true=>
        simp-implicitDefEqProofs only[V,↓reduceIte,rA,WF,k2,ez,im];refine aW (nv a w (b:=b) (rw:=true) hw ?_) ?_
        ·exact U98
        exact U159
       |false=>
        simp-implicitDefEqProofs only[V,↓reduceIte,rA,WF,k2,ez,im];refine aW (nv a w (b:=b) (rw:=true) hw ?_) ?_
        ·exact U98
        exact U159
      |none=>
       rw[ha] at rc;obtain⟨h1,r1,r4,r5⟩:=rc;have ho:p.op=10∨p.op=11:=by
        unfold argS at ha;split at ha
        ·cases ha
        ·split at ha
         ·assumption
         ·cases ha
       obtain⟨x,y,l,hxy⟩:∃x y l,w.l=x::y::l:=by
        match hq:w.l,h2 ho with
        |x::y::l,_=>exact⟨x,y,l,rfl⟩
       have e2:eq2S w.l=strEq x y:=by rw[hxy];rfl
       rw[e2];refine aW (v:=.agg [.fn (.func 155) [] [],vS (resS p.op)]) (h':=h1) ?_ ?_
       ·exact U97
       cases hq:strEq x y with
       |true=>simp-implicitDefEqProofs only[V,↓reduceIte,rA,reduceCtorEq,WF,k2,ez,iz,im,aA (tj w hxy),hq,hd,aFF]
       |false=>simp-implicitDefEqProofs only[V,↓reduceIte,rA,reduceCtorEq,WF,k2,ez,iz,im,aA (tj w hxy),hq,hd]
set_option maxHeartbeats 40000000
set_option maxRecDepth 10000
theorem aKV{p:Pr}(h:Na p=0)(ho:p.op=10∨p.op=11):p.ks.length=2:=by
 have hn:¬isNamed p:=by unfold isNamed;omega
 have:=(aNX hn h).2.2.2.2;exact this om
mutual
def Pr.sor(Vx:Evr):Pr→ByteArray×Int
 |.mk o s n ks _ _=>bif decide ((Pr.sorL Vx ks).2=0) then sortN Vx o s (Pr.sorL Vx ks).1 else(⟨#[]⟩,(Pr.sorL Vx ks).2)
def Pr.sorL(Vx:Evr):List Pr→List ByteArray×Int
 | []=>([],0)
 |k::r=>bif decide ((k.sor Vx).2=0) then(bif decide ((Pr.sorL Vx r).2=0) then((k.sor Vx).1::(Pr.sorL Vx r).1,0) else([],(Pr.sorL Vx r).2)) else([],(k.sor Vx).2)
end
mutual
def Pr.two:Pr→Bool
 |.mk o _ _ ks _ _=>(!(decide (o=10)||decide (o=11))||decide (2≤ks.length))&&Pr.twoL ks
def Pr.twoL:List Pr→Bool
 | []=>true
 |k::r=>k.two&&Pr.twoL r
end
theorem qL(Vx:Evr):∀l:List Pr,(Pr.sorL Vx l).2=0→(Pr.sorL Vx l).1.length=l.length
 | [],_=>rfl
 |k::r,h=>by
  simp only[Pr.sorL] at h⊢
  cases h1:decide ((k.sor Vx).2=0) with
  |false=>
   rw[h1] at h;exact absurd h (of_decide_eq_false h1)
  |true=>
   rw[h1] at h;simp only[cond_true] at h⊢
   cases h2:decide ((Pr.sorL Vx r).2=0) with
   |false=>
    rw[h2] at h;exact absurd h (of_decide_eq_false h2)
   |true=>
    simp only[cond_true,il,qL Vx r (of_decide_eq_true h2)]
def OfOk(Vx:Evr)(k:Pr):Prop:=∀(h:AH) (B C:Nat),B<h.next→C<h.next→h.get B=some (.cells Vx.cells true)→h.get C=some (.cells [.fn (.func 77) [] [.ptr C 0,.ptr B 0]] true)→
 ∃h',RunCall E1 (.f 77) [k.av,.ptr C 0,.ptr B 0] h (ansA (k.sor Vx)) h'∧h.next≤h'.next∧∀x,x<h.next→h'.get x=h.get x
theorem Ey(Vx:Evr)(p:Pr){A B C lo:Nat}(hN:p.ks.length<2^29)(hA:A<lo)(hB:B<lo)(hC:C<lo):∀(r:List Pr) (i:Nat) (s:St) (v:AV) (acc:List ByteArray),p.ks.drop i=r→i≤p.ks.length→acc.length=i→(∀k∈r,OfOk Vx k)→RowC s.h lo i 1 v (acc.flatMap strA)→lo≤s.h.next→
  s.h.get B=some (.cells Vx.cells true)→s.h.get C=some (.cells [.fn (.func 77) [] [.ptr C 0,.ptr B 0]] true)→
  s.eval (.t 1)=some (.ptr C 0)→s.eval (.t 2)=some (.ptr B 0)→s.eval (.t 3)=some (.ptr A 0)→s.eval (.t 6)=some v→s.eval (.t 12)=some p.kids→s.eval (.t 13)=some (vI (p.ks.length:Nat))→s.eval (.t 14)=some (vI (i:Nat))→s.defers=[]→
  Run E1 yY s fun e s'=>s'.defers=[]∧s.h.next≤s'.h.next∧(∀x,x<lo→s'.h.get x=s.h.get x)∧((∃v',(Pr.sorL Vx r).2=0∧e=.exit 0∧RowC s'.h lo (acc++(Pr.sorL Vx r).1).length 1 v' ((acc++(Pr.sorL Vx r).1).flatMap strA)∧s'.eval (.t 6)=some v'∧s'.eval (.t 2)=some (.ptr B 0)∧s'.eval (.t 3)=some (.ptr A 0))∨
   ((Pr.sorL Vx r).2≠0∧e=.ret∧s'.eval (.t 4)=some (vS ⟨#[]⟩)∧s'.eval (.t 5)=some (vI ((Pr.sorL Vx r).2))))
 | [],i,s,v,acc,hd,hi,ha,hk,hr,hlo,gB,gC,h1,h2,h3,h6,h12,h13,h14,hf=>by
  have hl:=aG hd hi;subst hl;apply aB (rfl:yY=.loop mR);simp-implicitDefEqProofs only[mR,V,↓reduceIte,rA,reduceCtorEq,h2,h3,h6,h13,h14,hf,bA,Pr.sorL];refine⟨ib _,fun x _=>by first|rfl|trivial,.inl ⟨v,?_,rfl⟩⟩
  rw[iz,ha];exact hr
 |k::r,i,s,v,acc,hd,hi,ha,hk,hr,hlo,gB,gC,h1,h2,h3,h6,h12,h13,h14,hf=>by
  have hl:=aH hd;have hlt:=bD hl;have w1:IntKind.i64.wrap ((i:Int)+1)=((i+1:Nat):Int):=aD (n:=i+1) om;have nB:(B=s.h.next)=False:=eq_false om;have nC:(C=s.h.next)=False:=eq_false om;apply aB (rfl:yY=.loop mR);obtain⟨h1',c1,n1,o1⟩:=hk k ik ((s.h.alloc (.cells [vI 0,vS ⟨#[]⟩,vI 0,.val (.slice none 0 0)] true)).put s.h.next (some (.cells k.cells true))) B C (by show B<s.h.next+1;omega) (by show C<s.h.next+1;omega) (by rw[aS om,aJ om,gB]) (by rw[aS om,aJ om,gC])
  have n1:s.h.next+1≤h1'.next:=n1;have o1:∀x,x<s.h.next→h1'.get x=s.h.get x:=fun x hx=>by
   rw[o1 x (by show x<s.h.next+1;omega),aS om,aJ hx]
  cases he:decide ((k.sor Vx).2=0) with
  |false=>
   have e1:Pr.sorL Vx (k::r)=([],(k.sor Vx).2):=by simp only[Pr.sorL,he,cond_false]
   rw[e1];simp-implicitDefEqProofs only[mR,V,↓reduceIte,rA,WF,h1,h12,h13,h14,hlt,dJ p i k r hd,gC,nC,im,j6];refine aW c1 ?_
   simp-implicitDefEqProofs only[V,↓reduceIte,rA,reduceCtorEq,ansA,he,hf];exact⟨om,fun x hx=>by rw[o1 x om],.inr (of_decide_eq_false he)⟩
  |true=>
   have e0:(k.sor Vx).2=0:=of_decide_eq_true he;simp-implicitDefEqProofs only[mR,V,↓reduceIte,rA,WF,h1,h12,h13,h14,hlt,dJ p i k r hd,gC,nC,im,j6];refine aW c1 ?_
   simp-implicitDefEqProofs only[V,↓reduceIte,rA,WF,ansA,he,h6];refine bt (k:=i) (m:=1) (lo:=lo) (v:=v) (x:=.own h1'.next 0 1 1 (some 1)) (cs:=acc.flatMap strA) (new:=[vS ((k.sor Vx).1)]) ?_ ?_ ?_ rfl ?_ (aX om de) ?_ ?_ ?_
   ·simp-implicitDefEqProofs only[V];exact hr.to (by show s.h.next≤h1'.next+1;omega) fun x _ x2=>by rw[aJ om,o1 x x2]
   ·exact U52
   ·refine aq (rw':=true) ?_ rfl;exact U36
   ·exact fun c hc=>by rw[ig.1 hc];exact Leaf.val _
   ·exact U36
   ·exact U36
   intro v1 h2' r1 n2 o2;simp-implicitDefEqProofs only[V] at n2 o2;simp-implicitDefEqProofs only[V,↓reduceIte,rA,h14,w1];refine(Ey Vx p (A:=A) (B:=B) (C:=C) (lo:=lo) hN hA hB hC r (i+1) _ v1 (acc++[(k.sor Vx).1]) (aF hd) om (by rw[io,ha];rfl) (fun k' hk'=>hk k' (j4 _ hk')) ?_ ?_ ?_ ?_ ?_ ?_ ?_ ?_ ?_ ?_ ?_ ?_).mono ?_
   ·exact U99
   ·exact U52
   ·simp-implicitDefEqProofs only[V];rw[o2 B om (fun hv=>by have:=(hr.ids B hv).1;omega),if_neg om,o1 B om,gB]
   ·simp-implicitDefEqProofs only[V];rw[o2 C om (fun hv=>by have:=(hr.ids C hv).1;omega),if_neg om,o1 C om,gC]
   ·exact U68
   ·exact U63
   ·exact U49
   ·exact U36
   ·exact U100
   ·simp-implicitDefEqProofs only[V,↓reduceIte,rA,h13]
   ·exact U36
   ·exact U69
   rintro e s2 ⟨d2,m2,q2,H⟩;simp-implicitDefEqProofs only[V] at m2 q2;refine⟨d2,om,fun x hx=>?_,?_⟩
   ·rw[q2 x hx,o2 x om (fun hv=>by have:=(hr.ids x hv).1;omega),if_neg om,o1 x om]
   have e2:Pr.sorL Vx (k::r)=bif decide ((Pr.sorL Vx r).2=0) then((k.sor Vx).1::(Pr.sorL Vx r).1,0) else([],(Pr.sorL Vx r).2):=by
    rw[Pr.sorL,he];rfl
   rw[e2];rcases H with⟨v',z,rfl,r2,t6,t2,t3⟩|⟨z,rfl,t4,t5⟩
   ·exact U101
   ·rw[decide_eq_false z];exact .inr ⟨z,rfl,t4,t5⟩
structure EvB (Vx:Evr):Prop where
 v:Vx.vs.l.length<2^61
 y:Vx.sy.l.length<2^61
 ya:∀x∈Vx.sy.l,x.as.l.length<2^31
 h:Vx.hs.l.length<2^61
 hp:∀x∈Vx.hs.l,x.ps.l.length<2^31
theorem Tq(Vx:Evr)(p:Pr):p.sor Vx=bif decide ((Pr.sorL Vx p.ks).2=0) then sortN Vx p.op p.nm (Pr.sorL Vx p.ks).1 else(⟨#[]⟩,(Pr.sorL Vx p.ks).2):=by
 cases p;rw[Pr.sor];rfl
theorem aAP(Vx:Evr)(hV:EvB Vx)(p:Pr)(hN:p.ks.length<2^29)(h2:p.op=10∨p.op=11→2≤p.ks.length)(hk:∀k∈p.ks,OfOk Vx k):OfOk Vx p:=fun h B C hB hC gB gC=>by
 obtain⟨v,h',hr,rfl,k1,k2⟩:=aEV (g:=77) (l:=[p.av,.ptr C 0,.ptr B 0]) (h:=h) (fun v h'=>v=ansA (p.sor Vx)∧h.next≤h'.next∧∀x,x<h.next→h'.get x=h.get x) kr (fun h=>xl (xs:=[p.av])) aIF fun s hs hh hd hrd=>by
  have h0:=hs 0 _ rfl;have h1:=hs 1 _ rfl;have h2':=hs 2 _ rfl;simp-implicitDefEqProofs only[Wh,f77,V,↓reduceIte,rA,h0,hh];refine(Ey Vx p (A:=h.next) (B:=B) (C:=C) (lo:=h.next+1) hN (jx _) om om p.ks 0 _ (.val (.slice none 0 0)) [] rfl (ic _) rfl hk RowC.nil ?_ ?_ ?_ ?_ ?_ ?_ ?_ ?_ ?_ ?_ ?_).mono ?_
  ·simp-implicitDefEqProofs only[V];exact ib _
  ·simp-implicitDefEqProofs only[V,↓reduceIte,(eq_false om:(B=h.next)=False)];exact gB
  ·simp-implicitDefEqProofs only[V,↓reduceIte,(eq_false om:(C=h.next)=False)];exact gC
  ·exact U68
  ·simp-implicitDefEqProofs only[V,↓reduceIte,rA,h2']
  ·exact U36
  ·exact U36
  ·exact U36
  ·exact U36
  ·exact U58
  ·exact U40
  rintro e s1 ⟨d1,m1,o1,H⟩;simp-implicitDefEqProofs only[V] at m1 o1;rw[Tq];rcases H with⟨v1,z,rfl,r1,e6,e2,e3⟩|⟨z,rfl,e4,e5⟩
  ·rw[im] at r1;have gA:s1.h.get h.next=some (.cells p.cells true):=by rw[o1 h.next om,if_pos rfl]
   have gB':s1.h.get B=some (.cells Vx.cells true):=by rw[o1 B om,if_neg om,gB]
   have hlen:=qL Vx p.ks z;obtain⟨h2'',f1,f2,f3,f4⟩:=bm r1;have hcall:RunCall E1 (.f 78) [.agg Vx.cells,p.av,v1] s1.h (ansA (sortN Vx p.op p.nm (Pr.sorL Vx p.ks).1)) s1.h:=ba (xs:=[.agg Vx.cells,p.av]) (ys:=[]) kr (bT (Tree.ev Vx) (Tree.pr p)) (fun v hv=>by cases hv) gR.tree f1 f4 rfl (fun h0=>by
    rw[bU rfl];exact Dl Vx p ⟨(Pr.sorL Vx p.ks).1,nilK,none⟩ hV.v hV.y hV.ya hV.h hV.hp (by show(Pr.sorL Vx p.ks).1.length<_;omega) (fun q=>by show 2≤(Pr.sorL Vx p.ks).1.length;rw[hlen];exact h2 q) h0)
   rw[decide_eq_true z];simp-implicitDefEqProofs only[V,↓reduceIte,rA,WB,e2,e3,e6,gA,gB'];refine aW (v:=ansA (sortN Vx p.op p.nm (Pr.sorL Vx p.ks).1)) (h':=s1.h) ?_ ?_
   ·exact U75
   simp-implicitDefEqProofs only[V,↓reduceIte,rA,reduceCtorEq,ansA,d1];exact⟨_,rfl,rfl,om,fun x hx=>by rw[o1 x om,if_neg om]⟩
  ·rw[decide_eq_false z];simp-implicitDefEqProofs only[V,reduceCtorEq,ansA,d1,e4,e5];exact⟨_,rfl,rfl,om,fun x hx=>by rw[o1 x om,if_neg om]⟩
 exact⟨h',hr,k1,k2⟩
mutual
theorem vm(Vx:Evr)(hV:EvB Vx):∀(p:Pr),p.two=true→p.nodes<2^29→OfOk Vx p
 |.mk o s n ks nl cap,ht,hb=>by
  have hb':1+Pr.nodesL ks<2^29:=hb;have hk:ks.length≤Pr.nodesL ks:=an ks;simp only[Pr.two,ii,Bool.or_eq_true,Bool.not_eq_true',Bool.or_eq_false_iff,decide_eq_true_eq,decide_eq_false_iff_not] at ht;exact aAP Vx hV (.mk o s n ks nl cap) (by show ks.length<_;omega) (fun q=>by
   have q:o=10∨o=11:=q;show 2≤ks.length;rcases ht.1 with h|h
   ·omega
   ·exact h) (qp Vx hV ks ht.2 om)
theorem qp(Vx:Evr)(hV:EvB Vx):∀(l:List Pr),Pr.twoL l=true→Pr.nodesL l<2^29→∀k∈l,OfOk Vx k
 | [],_,_,k,hk=>by cases hk
 |p::r,ht,hb,k,hk=>by
  have hb':p.nodes+Pr.nodesL r<2^29:=hb;simp only[Pr.twoL,ii] at ht;rcases ie.1 hk with e|hk
  ·have:=vm Vx hV p ht.1 om;rw[e];exact this
  ·exact qp Vx hV r ht.2 om k hk
end
def rangesOf:ACode→Option (Code×Code)
 |.range _ _ a b _=>some (a,b)
 |.seq a b=>match rangesOf a with
  |some r=>some r
  |none=>rangesOf b
 |.cond _ a b=>match rangesOf a with
  |some r=>some r
  |none=>rangesOf b
 |.block _ b=>rangesOf b
 |.loop b=>rangesOf b
 |_=>none
noncomputable def asg32:Code:=match (funOf i7 76).bind fun a=>rangesOf a.body with
 |some (a,_)=>a
 |none=>.skip
noncomputable def bdy32:Code:=match (funOf i7 76).bind fun a=>rangesOf a.body with
 |some (_,b)=>b
 |none=>.skip
noncomputable def Mt:ACode:=.range (.t 12) [13] asg32 bdy32 19
noncomputable def f76:ACode:=(.seq (.region [⟨some 1,none,.box (.t 0)⟩,⟨some 2,none,.alloc [vI 0]⟩])
 (.seq (.seq (.region [⟨some 5,none,.load (some 4) (.t 1)⟩,⟨some 6,none,.call 111 [.t 5]⟩,⟨some 7,none,.bin .gtr 3 true (.t 6) (.c (vI 400))⟩])
 (.cond (.t 7) (.seq (.region [⟨none,none,.store 1 (.t 2) (.c (vI 7))⟩])
 .ret) .skip))
 (.seq (.seq (.region [⟨some 8,none,.load (some 4) (.t 1)⟩,⟨some 9,none,.call 112 [.t 8]⟩,⟨some 10,none,.bin .gtr 3 true (.t 9) (.c (vI 40))⟩])
 (.cond (.t 10) (.seq (.region [⟨none,none,.store 1 (.t 2) (.c (vI 8))⟩])
 .ret) .skip))
 (.seq (.seq (.region [⟨some 11,none,.load (some 4) (.t 1)⟩,⟨some 12,none,.call 113 [.t 11]⟩])
 (.block 0 Mt))
 (.seq (.region [⟨none,none,.store 1 (.t 2) (.c (vI 0))⟩])
 .ret)))))
noncomputable def yZ:AFun:=⟨f76,[.cell 2 none]⟩
theorem aIG:funOf i7 76=some yZ:=by kernel_rfl
theorem Pj:cCode E1.P 19 asg32=yb:=by kernel_rfl
theorem Ph:cCode E1.P 19 bdy32=pE:=by kernel_rfl
theorem zT{g:Nat}{l:List AV}{h:AH}{a:AFun}{P:List AV→AH→Prop}(hf:funOf i7 g=some a)
  (H:∀s:St,(∀i v,(enterTm l 0 .nil).get i=some v→s.eval (.t i)=some v)→s.h=h→s.defers=[]→s.round=none→wp E1 a.body s fun e s=>(e=.normal∨e=.ret)∧∃h',runDefers E1 s.defers s.h=some h'∧∃r,P r h'∧resultsA E1.globs (s.toH h') a.res=some r):
  ∃r h',P r h'∧Ev fun n=>enterA E1 (exec E1 n) g l h=some (oneOrTup r,h'):=by
 obtain⟨e,s',x,y1,h',y2,r,hp,y3⟩:=ay _ _ _ (H {tm:=enterTm l 0 .nil,h:=h,defers:=[],round:=none} (fun _ _ h=>h) rfl rfl rfl);refine⟨r,h',hp,x.mono fun n p=>?_⟩;have y4:resultsA E1.globs {s' with h:=h'} a.res=some r:=y3;have hl:leaveA E1 a s'=some (oneOrTup r,h'):=by
  simp only[leaveA,y2,y4]
 simp only[enterA,(show funOf E1.P g=some a by rw[Sw];exact hf),p]
 rcases y1 with rfl|rfl<;>exact hl
theorem xE{E:Env}{g:Nat}{l:List AV}{h h1 h':AH}{r:AV}(hs:E.shared.get g=none)(hz:l.foldl (fun h v=>AM.freeze deepest v h) h=h1)(hm:mapTree h1 l=none)
  (a:Ev fun n=>enterA E (exec E n) g l h=some (r,h')):RunCall E (.f g) l h r h':=by
 refine a.mono fun n p=>?_
 simp only[ap,cT,hs,hz,hm,p]
theorem Gl{E:Env}{g:Nat}{l:List AV}{h h':AH}{r:AV}(hs:E.shared.get g=some ())(a:Ev fun n=>enterA E (exec E n) g l h=some (r,h')):RunCall E (.f g) l h r h':=by
 refine a.mono fun n p=>?_
 simp only[ap,cT,hs,p]
theorem Yl{E:Env}{s:St}{K:St→Prop}{r:List AOper}{dst:Option Nat}{x:Opd}{l:List Opd}{b:Nat}{args:List AV}{v:AV}{h':AH}(hx:s.eval x=some (.yld b))(hl:evalAll s l=some args)(hr:RunCall E (.y b) args s.h v h'):
  AM.wpOps E (⟨dst,none,.callv x l⟩::r) s K=AM.wpOps E r ((s.toH h').put dst v) K:=by
 rw[Yy hx,hl];exact propext (jY hr)
def LoopOk(tm:Tr AV)(b:Nat)(h:AH):Prop:=h.get b=some (.loop tm [13] asg32 bdy32 19 .ready)∧(∃x,h.get 1=some (.cells [vI x] true))∧b<h.next∧1<b
def LoopDone(tm:Tr AV)(b:Nat)(x:Int)(h:AH):Prop:=h.get b=some (.loop tm [13] asg32 bdy32 19 (.done .ret))∧h.get 1=some (.cells [vI x] true)∧b<h.next∧1<b
def Frame(b:Nat)(h h':AH):Prop:=h.next≤h'.next∧∀c,c<h.next→c≠b→c≠1→h'.get c=h.get c
theorem Frame.refl(b:Nat)(h:AH):Frame b h h:=⟨ib _,fun _ _ _ _=>rfl⟩
theorem Frame.trans{b:Nat}{h h1 h2:AH}(x:Frame b h h1)(y:Frame b h1 h2):Frame b h h2:=
 ⟨Nat.le_trans x.1 y.1,fun c h1 h2 h3=>by rw[y.2 c (Nat.lt_of_lt_of_le h1 x.1) h2 h3,x.2 c h1 h2 h3]⟩
theorem li{h:AH}{b:Nat}{x y:AV}(hb:h.get b=some (.cells [x] true)):storeH h 1 (.ptr b 0) [y]=some (h.put b (some (.cells [y] true))):=by
 simp only[storeH,hb];rfl
theorem aKX{v:Value}:(AV.val v).cells=some [.val v]:=rfl
theorem aEJ(q:Pr)(b:Nat)(s:St)(h13:s.eval (.t 13)=some q.av)(hd:s.defers=[])(hr:s.round=some b):
  Run E1 yb s fun e s'=>e=.normal∧s'.defers=[]∧s'.round=some b∧s'.h=(s.h.alloc (.cells [vI 0,vS ⟨#[]⟩,vI 0,.val (.slice none 0 0)] true)).put s.h.next (some (.cells q.cells true))∧s'.eval (.t 2)=s.eval (.t 2)∧s'.eval (.t 3)=some (.ptr s.h.next 0):=by
 have hs:∀h:AH,storeH (h.alloc (.cells [vI 0,vS ⟨#[]⟩,vI 0,.val (.slice none 0 0)] true)) 4 (.ptr h.next 0) q.cells=_:=fun h=>cL rfl q.len;refine ay _ _ _ ?_
 simp-implicitDefEqProofs only[yb,V,↓reduceIte,rA,h13,hs,hd,hr,St.rd_set,St.rd_toH]
theorem aEI(q:Pr)(b c:Nat)(x:Int)(s:St)(h2:s.eval (.t 2)=some (.ptr 1 0))(h3:s.eval (.t 3)=some (.ptr c 0))(g1:s.h.get 1=some (.cells [vI x] true))(gc:s.h.get c=some (.cells q.cells true))(hd:s.defers=[]):
  Run E1 pE s fun e s'=>s'.defers=[]∧(Na q=0∧e=.normal∧s'.h=s.h∨Na q≠0∧e=.ret∧s'.h=s.h.put 1 (some (.cells [vI (Na q)] true))):=by
 have hs:storeH s.h 1 (.ptr 1 0) [vI (Na q)]=some (s.h.put 1 (some (.cells [vI (Na q)] true))):=li g1;refine ay _ _ _ ?_
 by_cases e:Na q=0
 ·have e':decide (Na q=0)=true:=decide_eq_true e;simp-implicitDefEqProofs only[pE,V,↓reduceIte,reduceCtorEq,h3,gc,hd,aA (Pn q),e'];exact .inl e
 ·have e':decide (Na q=0)=false:=decide_eq_false e;simp-implicitDefEqProofs only[pE,V,↓reduceIte,rA,reduceCtorEq,h2,h3,gc,hd,aA (Pn q),e',hs];exact .inr e
theorem Hp(tm:Tr AV)(htm:tm.get 2=some (.ptr 1 0))(q:Pr)(b:Nat)(h:AH)(ok:LoopOk tm b h):
  ∃h',RunCall E1 (.y b) [q.av] h (vB (decide (Na q=0))) h'∧Frame b h h'∧(Na q=0→LoopOk tm b h')∧(Na q≠0→LoopDone tm b (Na q) h'):=by
 obtain⟨hb,⟨x,hx⟩,hn,h1b⟩:=ok;obtain⟨e1,s1,r1,rfl,d1,o1,k1,t2,t3⟩:=aEJ q b {tm:=tm.put 13 (some q.av),h,defers:=[],round:=some b} (by show(tm.put 13 _).get 13=_;rw[Tr.get_put,if_pos rfl]) rfl rfl
 simp only at k1 t2 t3;have hp2:s1.eval (.t 2)=some (.ptr 1 0):=by
  rw[t2];show(tm.put 13 _).get 2=_;rw[Tr.get_put,if_neg de,htm]
 have gb:s1.h.get b=some (.loop tm [13] asg32 bdy32 19 .ready):=by rw[k1,pD hn,hb]
 have gc:s1.h.get h.next=some (.cells q.cells true):=by rw[k1,AH.get_put,if_pos rfl]
 have g1:s1.h.get 1=some (.cells [vI x] true):=by rw[k1,pD om,hx]
 have n1:s1.h.next=h.next+1:=by rw[k1];rfl
 have gf:∀c,c<h.next→s1.h.get c=h.get c:=fun c hc=>by rw[k1,pD hc]
 obtain⟨e2,s2,r2,d2,k2⟩:=aEI q b h.next x {s1 with h:=s1.h.put b (some (.loop tm [13] asg32 bdy32 19 .busy))} hp2 t3 (by show(s1.h.put b _).get 1=_;rw[AH.get_put,if_neg om,g1]) (by show(s1.h.put b _).get h.next=_;rw[AH.get_put,if_neg om,gc]) d1
 simp only at k2;have pa:putAll [13] [q.av] tm=some (tm.put 13 (some q.av)):=rfl;have al:[13].all (fun p=>Nat.blt p 19)=true:=rfl;rcases k2 with⟨z,rfl,kh⟩|⟨z,rfl,kh⟩
 ·have z':decide (Na q=0)=true:=decide_eq_true z;have gb2:s2.h.get b=some (.loop tm [13] asg32 bdy32 19 .busy):=by rw[kh,AH.get_put,if_pos rfl]
  refine⟨s2.h.put b (some (.loop tm [13] asg32 bdy32 19 .ready)),?_,?_,fun _=>?_,fun q=>absurd z q⟩
  ·rw[z'];refine(r1.and r2).mono fun n ⟨p1,p2⟩=>?_
   simp only[ap,roundA,hb,pa,al,cond_true,Pj,p1,gb,Ph,p2,d2,gb2,isNormal]
  ·refine⟨?_,fun c h1 h2 h3=>?_⟩
   ·rw[dT,kh,dT];omega
   ·rw[AH.get_put,if_neg h2,kh,AH.get_put,if_neg h2,gf c h1]
  ·refine⟨by rw[AH.get_put,if_pos rfl],⟨x,?_⟩,?_,h1b⟩
   ·rw[AH.get_put,if_neg om,kh,AH.get_put,if_neg om,g1]
   ·rw[dT,kh,dT];omega
 ·have z':decide (Na q=0)=false:=decide_eq_false z;have gb2:s2.h.get b=some (.loop tm [13] asg32 bdy32 19 .busy):=by rw[kh,AH.get_put,if_neg om,AH.get_put,if_pos rfl]
  refine⟨s2.h.put b (some (.loop tm [13] asg32 bdy32 19 (.done .ret))),?_,?_,fun q=>absurd q z,fun _=>?_⟩
  ·rw[z'];refine(r1.and r2).mono fun n ⟨p1,p2⟩=>?_
   simp only[ap,roundA,hb,pa,al,cond_true,Pj,p1,gb,Ph,p2,d2,gb2,isNormal,cond_false]
  ·refine⟨?_,fun c h1 h2 h3=>?_⟩
   ·rw[dT,kh,dT,dT];omega
   ·rw[AH.get_put,if_neg h2,kh,AH.get_put,if_neg h3,AH.get_put,if_neg h2,gf c h1]
  ·refine⟨by rw[AH.get_put,if_pos rfl],?_,?_,h1b⟩
   ·rw[AH.get_put,if_neg om,kh,AH.get_put,if_pos rfl]
   ·rw[dT,kh,dT,dT];omega
def Visits(tm:Tr AV)(q:Pr):Prop:=∀(b:Nat) (h:AH),LoopOk tm b h→∃h',RunCall E1 (.f 147) [q.av,.yld b] h (vB (decide (chk Na q=0))) h'∧Frame b h h'∧(chk Na q=0→LoopOk tm b h')∧(chk Na q≠0→LoopDone tm b (chk Na q) h')
theorem wc(tm:Tr AV)(p:Pr)(b:Nat):∀(r:List Pr) (i:Nat) (s:St),p.ks.drop i=r→i≤p.ks.length→i+r.length+2<2^62→(∀k∈r,Visits tm k)→LoopOk tm b s.h→
  s.eval (.t 1)=some (.yld b)→s.eval (.t 12)=some p.kids→s.eval (.t 13)=some (vI (p.ks.length:Nat))→s.eval (.t 14)=some (vI i)→s.defers=[]→
  Run E1 pZ s fun e s'=>s'.defers=[]∧Frame b s.h s'.h∧(chkL Na r=0∧e=.exit 0∧LoopOk tm b s'.h∨chkL Na r≠0∧e=.ret∧s'.eval (.t 4)=some (vB false)∧LoopDone tm b (chkL Na r) s'.h)
 | [],i,s,hr,hi,hb,ih,ok,h1,h12,h13,h14,hd=>by
  have hl:i=p.ks.length:=by
   have:=jz.1 hr;omega
  subst hl;have hlt:decide (((p.ks.length:Nat):Int)<(p.ks.length:Nat))=false:=by simp
  apply aB (rfl:pZ=.loop gi);simp-implicitDefEqProofs only[gi,V,↓reduceIte,rA,reduceCtorEq,h13,h14,hd,hlt];exact⟨Frame.refl _ _,.inl ⟨rfl,ok⟩⟩
 |k::r,i,s,hr,hi,hb,ih,ok,h1,h12,h13,h14,hd=>by
  have hl':i<p.ks.length:=by
   rcases Nat.lt_or_ge i p.ks.length with x|x
   ·exact x
   ·rw[List.drop_eq_nil_of_le x] at hr;cases hr
  have hlt:decide ((i:Int)<(p.ks.length:Nat))=true:=by simp;omega
  have hr':p.ks.drop (i+1)=r:=by rw[←List.drop_drop,hr];rfl
  have hs:∀h:AH,storeH (h.alloc (.cells [vI 0,vS ⟨#[]⟩,vI 0,.val (.slice none 0 0)] true)) 4 (.ptr h.next 0) k.cells=_:=fun h=>cL rfl k.len;have w1:IntKind.i64.wrap ((i:Int)+1)=((i+1:Nat):Int):=aD (n:=i+1) (by simp only[il] at hb;omega)
  obtain⟨h2,hh2⟩:∃h1,(s.h.alloc (.cells [vI 0,vS ⟨#[]⟩,vI 0,.val (.slice none 0 0)] true)).put s.h.next (some (.cells k.cells true))=h1:=⟨_,rfl⟩;have hn2:h2.next=s.h.next+1:=by rw[←hh2];rfl
  have gk:h2.get s.h.next=some (.cells k.cells true):=by rw[←hh2,AH.get_put,if_pos rfl]
  have hg2:∀c,c<s.h.next→h2.get c=s.h.get c:=fun c hc=>by rw[←hh2];exact pD hc
  have f2:Frame b s.h h2:=⟨om,fun c h1 _ _=>hg2 c h1⟩;have ok2:LoopOk tm b h2:=by
   obtain⟨a1,⟨x,a2⟩,a3,a4⟩:=ok;exact⟨by rw[hg2 b a3,a1],⟨x,by rw[hg2 1 om,a2]⟩,om,a4⟩
  obtain⟨h3,hc,hf,hz,hnz⟩:=ih k ik b h2 ok2;have hk:=fun(s:St) (hs:s.h=h2) K r dst=>lZ (E:=E1) (s:=s) (K:=K) (r:=r) (dst:=dst) (by rw[hs];exact hc)
  apply aB (rfl:pZ=.loop gi)
  by_cases c:chk Na k=0
  ·have hq:chkL Na (k::r)=chkL Na r:=by simp only[chkL,c,if_true]
   have c':decide (chk Na k=0)=true:=decide_eq_true c;simp-implicitDefEqProofs only[gi,V,↓reduceIte,rA,h1,h12,h13,h14,hlt,dt hr,hs,hh2,gk,hk,c',w1,hq];refine(wc tm p b r (i+1) _ hr' om (by simp only[il] at hb;omega) (fun k' hk=>ih k' (j4 _ hk)) ?_ ?_ ?_ ?_ ?_ ?_).mono ?_
   ·simp-implicitDefEqProofs only[V];exact hz c
   all_goals try (simp-implicitDefEqProofs only[V,↓reduceIte,rA,h1,h12,h13,hd];done)
   ·rintro e s' ⟨m1,m2,m3⟩;simp-implicitDefEqProofs only[V] at m2;exact⟨m1,(f2.trans hf).trans m2,m3⟩
  ·have hq:chkL Na (k::r)=chk Na k:=by simp only[chkL,c,if_false]
   have c':decide (chk Na k=0)=false:=decide_eq_false c;simp-implicitDefEqProofs only[gi,V,↓reduceIte,rA,reduceCtorEq,h1,h12,h13,h14,hd,hlt,dt hr,hs,hh2,gk,hk,c',hq];exact⟨f2.trans hf,.inr ⟨c,hnz c⟩⟩
mutual
theorem qC(tm:Tr AV)(htm:tm.get 2=some (.ptr 1 0)):∀(p:Pr),p.nodes<2^61→Visits tm p
 |.mk o nm n ks nl cap,hb=>by
  have hb':1+Pr.nodesL ks<2^61:=hb;have hk:ks.length≤Pr.nodesL ks:=an ks;have hI:=m9 tm htm ks om;have hc:chk Na (.mk o nm n ks nl cap)=if Na (.mk o nm n ks nl cap)=0 then chkL Na ks else Na (.mk o nm n ks nl cap):=by simp only[chk]
  generalize hp:Pr.mk o nm n ks nl cap=p at*;have hks:p.ks=ks:=by rw[←hp];rfl
  intro b h ok;have h1b:=ok.2.2.2;obtain⟨r,h',⟨rfl,hf,hz,hnz⟩,ha⟩:=zT (g:=147) (l:=[p.av,.yld b]) (h:=h) (P:=fun r h'=>r=[vB (decide (chk Na p=0))]∧Frame b h h'∧(chk Na p=0→LoopOk tm b h')∧(chk Na p≠0→LoopDone tm b (chk Na p) h')) aCR fun s hs hh hd hrd=>by
   have h0:=hs 0 _ rfl;have h1:=hs 1 _ rfl;have gb:∀c,c<h.next→(h.alloc (.cells p.cells true)).get c=h.get c:=fun c hc=>by rw[AH.get_alloc,if_neg om]
   have f1:Frame b h (h.alloc (.cells p.cells true)):=⟨Ab _,fun c h1 _ _=>gb c h1⟩;have ok1:LoopOk tm b (h.alloc (.cells p.cells true)):=by
    obtain⟨a1,⟨x,a2⟩,a3,a4⟩:=ok;exact⟨by rw[gb b a3,a1],⟨x,by rw[gb 1 om,a2]⟩,Nat.lt_succ_of_lt a3,a4⟩
   obtain⟨h2,hc2,hf2,hz2,hnz2⟩:=Hp tm htm p b _ ok1;have gp:h2.get h.next=some (.cells p.cells true):=by
    rw[hf2.2 h.next (jx _) (by have:=ok.2.2.1;omega) (by have:=ok.2.2.1;omega),AH.get_alloc,if_pos rfl]
   have hy:=fun(s:St) (hs:s.h=h.alloc (.cells p.cells true)) (hx:s.eval (.t 7)=some (.yld b)) (ha:evalAll s [.t 8]=some [p.av]) K r dst=>Yl (E:=E1) (s:=s) (K:=K) (r:=r) (dst:=dst) hx ha (by rw[hs];exact hc2)
   by_cases c:Na p=0
   ·have c':decide (Na p=0)=true:=decide_eq_true c;rw[if_pos c] at hc;simp-implicitDefEqProofs only[zO,f147,V,↓reduceIte,rA,h0,h1,hh,hy,c',gp];refine(wc tm p b ks 0 _ (by rw[j9,hks]) (ic _) om hI ?_ ?_ ?_ ?_ ?_ ?_).mono ?_
    ·simp-implicitDefEqProofs only[V];exact hz2 c
    ·exact U68
    ·exact U37
    ·exact U37
    ·exact U37
    ·exact U40
    ·rintro e s' ⟨m1,m2,⟨z,rfl,m3⟩|⟨z,rfl,m4,m3⟩⟩
     ·simp-implicitDefEqProofs only[V] at m2;have:Nat.beq 0 0=true:=rfl;have z':decide (chk Na p=0)=true:=decide_eq_true (by rw[hc];exact z)
      simp-implicitDefEqProofs only[V,↓reduceIte,reduceCtorEq,this,m1];exact⟨_,rfl,_,⟨by rw[z'],(f1.trans hf2).trans m2,fun _=>m3,fun q=>absurd (by rw[hc];exact z) q⟩,by simp-implicitDefEqProofs only[]<;>rfl⟩
     ·simp-implicitDefEqProofs only[V] at m2;have z':decide (chk Na p=0)=false:=decide_eq_false (by rw[hc];exact z)
      simp-implicitDefEqProofs only[V,reduceCtorEq,m1,m4];exact⟨_,rfl,_,⟨by rw[z'],(f1.trans hf2).trans m2,fun q=>absurd (by rw[←hc];exact q) z,fun _=>by rw[hc];exact m3⟩,by simp-implicitDefEqProofs only[]<;>rfl⟩
   ·have c':decide (Na p=0)=false:=decide_eq_false c;rw[if_neg c] at hc;have z':decide (chk Na p=0)=false:=decide_eq_false (by rw[hc];exact c)
    simp-implicitDefEqProofs only[zO,f147,V,↓reduceIte,rA,reduceCtorEq,h0,h1,hh,hd,hy,c'];exact⟨_,rfl,_,⟨by rw[z'],f1.trans hf2,fun q=>absurd (by rw[←hc];exact q) c,fun _=>by rw[hc];exact hnz2 c⟩,by simp-implicitDefEqProofs only[]<;>rfl⟩
  refine⟨h',xE kr (h1:=h) ?_ ?_ ha,hf,hz,hnz⟩
  ·have e1:AM.freeze deepest p.av h=h:=(Tree.pr p).2 h 999999998;simp only[List.foldl_cons,List.foldl_nil,e1];rfl
  ·have e1:toTree h deepest p.av=some p.av:=(Tree.pr p).1 h 999999998;have e2:toTree h deepest (.yld b)=none:=rfl;simp only[mapTree,e1,e2]
theorem m9(tm:Tr AV)(htm:tm.get 2=some (.ptr 1 0)):∀(l:List Pr),Pr.nodesL l<2^61→∀k∈l,Visits tm k
 | [],_,k,hk=>by cases hk
 |a::r,hb,k,hk=>by
  have hb':a.nodes+Pr.nodesL r<2^61:=hb;rcases ie.1 hk with e|hk
  ·rw[e];exact qC tm htm a om
  ·exact m9 tm htm r om k hk
end
theorem aOE{x:AV}{l:List AV}{rw:Bool}:cfB (some (.cells (x::l) rw)) 0=some (x::l):=rfl
theorem fV{E:Env}{h:AH}{b:Nat}(hg:h.get b=some (.dfr true)):runDefers E [.mark b] h=some (h.put b (some (.dfr false))):=by
 simp only[runDefers,hg]
theorem uC(p:Pr)(h:AH):RunCall E1 (.f 113) [p.av] h (.fn (.func 146) [] [.ptr h.next 0]) (h.alloc (.cells p.cells true)):=by
 obtain⟨r,h',⟨rfl,rfl⟩,ha⟩:=zT (g:=113) (l:=[p.av]) (h:=h) (P:=fun r h'=>r=[.fn (.func 146) [] [.ptr h.next 0]]∧h'=h.alloc (.cells p.cells true)) aDP fun s hs hh hd hrd=>by
  have h0:=hs 0 _ rfl;simp-implicitDefEqProofs only[Ou,f113,V,↓reduceIte,rA,reduceCtorEq,h0,hh,hd];exact⟨_,rfl,_,⟨rfl,rfl⟩,by simp-implicitDefEqProofs only[]⟩
 exact Gl kr ha
theorem uB(tm:Tr AV)(htm:tm.get 2=some (.ptr 1 0))(p:Pr)(hb:p.nodes<2^61)(b c:Nat)(h:AH)(ok:LoopOk tm b h)(hc:h.get c=some (.cells p.cells true)):
  ∃h',RunCall E1 (.f 146) [.yld b,.ptr c 0] h (.tup []) h'∧Frame b h h'∧(chk Na p=0→LoopOk tm b h')∧(chk Na p≠0→LoopDone tm b (chk Na p) h'):=by
 obtain⟨h2,hr2,hf,hz,hnz⟩:=qC tm htm p hb b h ok;obtain⟨r,h',⟨rfl,rfl⟩,ha⟩:=zT (g:=146) (l:=[.yld b,.ptr c 0]) (h:=h) (P:=fun r h'=>r=[]∧h'=h2) aCS fun s hs hh hd hrd=>by
  have h0:=hs 0 _ rfl;have h1:=hs 1 _ rfl;have hk:=fun(s:St) (hs:s.h=h) K r dst=>lZ (E:=E1) (s:=s) (K:=K) (r:=r) (dst:=dst) (by rw[hs];exact hr2)
  simp-implicitDefEqProofs only[Ob,f146,V,↓reduceIte,rA,reduceCtorEq,h0,h1,hh,hd,hc,hk];exact⟨_,rfl,_,⟨rfl,rfl⟩,rfl⟩
 refine⟨h',xE kr (h1:=h) rfl ?_ ha,hf,hz,hnz⟩;have e2:toTree h deepest (.yld b)=none:=rfl;simp only[mapTree,e2]
theorem vV{E:Env}{g:Opd}{ps ps3:List Nat}{asg body asg3 body3:Code}{M M3 f:Nat}{s:St}{Q:Ex→St→Prop}{a bb:List AV}{v:AV}{h3:AH}{tm3:Tr AV}{st:LSt}{e:Ex}(hr:s.round=none)(hg:s.eval g=some (.fn (.func f) a bb))
  (hc:RunCall E (.f f) (a++(.yld (s.h.next+1)::bb)) ((s.h.alloc (.dfr true)).alloc (.loop s.tm ps asg body M .ready)) v h3) (hb:h3.get (s.h.next+1)=some (.loop tm3 ps3 asg3 body3 M3 st))
  (hst:(st=.ready∧e=.normal)∨st=.done e)
  (hQ:Q e {s with h:=h3.put (s.h.next+1) (some (.loop tm3 ps3 asg3 body3 M3 .gone)),defers:=.mark s.h.next::s.defers}):Run E (.range g ps asg body M) s Q:=by
 refine⟨_,_,(Ev.mono hc fun n p=>?_:Ev fun n=>exec E (n+1) (.range g ps asg body M) s=some (e,_)).step,hQ⟩;have hn:(s.h.alloc (.dfr true)).next=s.h.next+1:=rfl;simp only[exec,hg,hr,hn,p,hb];rcases hst with⟨rfl,rfl⟩|rfl<;>rfl
theorem Rr(p:Pr)(hb:p.nodes<2^61)(c:Nat)(x:Int)(s:St)(h12:s.eval (.t 12)=some (.fn (.func 146) [] [.ptr c 0]))(h2:s.eval (.t 2)=some (.ptr 1 0))(hc:s.h.get c=some (.cells p.cells true))(nc:c<s.h.next)(h1:s.h.get 1=some (.cells [vI x] true))(n1:1<s.h.next)(hd:s.defers=[])(hr:s.round=none):
  Run E1 Mt s fun e s'=>s'.defers=[.mark s.h.next]∧s'.h.get s.h.next=some (.dfr true)∧s'.eval (.t 2)=some (.ptr 1 0)∧(chk Na p=0∧e=.normal∧(∃x,s'.h.get 1=some (.cells [vI x] true))∨chk Na p≠0∧e=.ret∧s'.h.get 1=some (.cells [vI (chk Na p)] true)):=by
 have htm:s.tm.get 2=some (.ptr 1 0):=h2;have gg:∀k,k<s.h.next→((s.h.alloc (.dfr true)).alloc (.loop s.tm [13] asg32 bdy32 19 .ready)).get k=s.h.get k:=fun k hk=>by
  have:(s.h.alloc (.dfr true)).next=s.h.next+1:=rfl;rw[AH.get_alloc,if_neg om,AH.get_alloc,if_neg om]
 have gl:((s.h.alloc (.dfr true)).alloc (.loop s.tm [13] asg32 bdy32 19 .ready)).get (s.h.next+1)=some (.loop s.tm [13] asg32 bdy32 19 .ready):=by
  have:(s.h.alloc (.dfr true)).next=s.h.next+1:=rfl;rw[AH.get_alloc,if_pos this.symm]
 have gd:((s.h.alloc (.dfr true)).alloc (.loop s.tm [13] asg32 bdy32 19 .ready)).get s.h.next=some (.dfr true):=by
  have:(s.h.alloc (.dfr true)).next=s.h.next+1:=rfl;rw[AH.get_alloc,if_neg om,AH.get_alloc,if_pos rfl]
 have gn:((s.h.alloc (.dfr true)).alloc (.loop s.tm [13] asg32 bdy32 19 .ready)).next=s.h.next+2:=rfl;have ok:LoopOk s.tm (s.h.next+1) ((s.h.alloc (.dfr true)).alloc (.loop s.tm [13] asg32 bdy32 19 .ready)):=⟨gl,⟨x,by rw[gg 1 n1,h1]⟩,by rw[gn];omega,om⟩
 obtain⟨h3,hr3,hf,hz,hnz⟩:=uB s.tm htm p hb (s.h.next+1) c _ ok (by rw[gg c nc,hc])
 have fd:h3.get s.h.next=some (.dfr true):=by rw[hf.2 s.h.next (by rw[gn];omega) om om,gd]
 by_cases k:chk Na p=0
 ·obtain⟨a1,⟨y,a2⟩,a3,a4⟩:=hz k;refine vV (e:=.normal) hr h12 hr3 a1 (.inl ⟨rfl,rfl⟩) ⟨by rw[hd],?_,h2,.inl ⟨k,rfl,y,?_⟩⟩
  ·show(h3.put _ _).get _=_;rw[AH.get_put,if_neg om,fd]
  ·show(h3.put _ _).get _=_;rw[AH.get_put,if_neg om,a2]
 ·obtain⟨a1,a2,a3,a4⟩:=hnz k;refine vV (e:=.ret) hr h12 hr3 a1 (.inr rfl) ⟨by rw[hd],?_,h2,.inr ⟨k,rfl,?_⟩⟩
  ·show(h3.put _ _).get _=_;rw[AH.get_put,if_neg om,fd]
  ·show(h3.put _ _).get _=_;rw[AH.get_put,if_neg om,a2]
def ckS(N:Pr→Int)(p:Pr):Int:=if 400<p.nodes then 7 else if 40<p.depth then 8 else chk N p
theorem lO(p:Pr)(hb:p.nodes<2^61)(h:AH):RunCall E1 (.f 76) [p.av] h (vI (ckS Na p)) h:=by
 have hdp:p.depth<2^61:=Nat.lt_of_le_of_lt (nf p) hb;obtain⟨r,h',rfl,ha⟩:=zT (g:=76) (l:=[p.av]) (h:=.empty) (P:=fun r _=>r=[vI (ckS Na p)]) aIG fun s hs hh hd hrd=>by
  have h0:=hs 0 _ rfl;have b0:Nat.beq 0 0=true:=rfl;obtain⟨H,hH⟩:∃H,(AH.empty.alloc (.cells p.cells true)).alloc (.cells [vI 0] true)=H:=⟨_,rfl⟩;have H1:H.get 1=some (.cells [vI 0] true):=by rw[←hH];simp[AH.get_alloc,mn]
  have H0:H.get 0=some (.cells p.cells true):=by rw[←hH];simp[AH.get_alloc,mn]
  have Hn:H.next=2:=by rw[←hH];rfl
  have hst:∀x:Int,storeH H 1 (.ptr 1 0) [vI x]=some (H.put 1 (some (.cells [vI x] true))):=fun x=>li H1
  by_cases z1:400<p.nodes
  ·have c1:decide (400<((p.nodes:Nat):Int))=true:=decide_eq_true om;have hv:ckS Na p=7:=by unfold ckS;rw[if_pos z1]
   simp-implicitDefEqProofs only[yZ,f76,V,↓reduceIte,rA,reduceCtorEq,h0,hh,hd,hH,H0,aA (dD p hb),c1,hst,hv];exact⟨_,rfl,_,rfl,by simp-implicitDefEqProofs only[V,↓reduceIte]⟩
  ·have c1:decide (400<((p.nodes:Nat):Int))=false:=decide_eq_false om
   by_cases z2:40<p.depth
   ·have c2:decide (40<((p.depth:Nat):Int))=true:=decide_eq_true om;have hv:ckS Na p=8:=by unfold ckS;rw[if_neg z1,if_pos z2]
    simp-implicitDefEqProofs only[yZ,f76,V,↓reduceIte,rA,reduceCtorEq,h0,hh,hd,hH,H0,aA (dD p hb),aA (eV p hb),c1,c2,hst,hv];exact⟨_,rfl,_,rfl,by simp-implicitDefEqProofs only[V,↓reduceIte]⟩
   ·have c2:decide (40<((p.depth:Nat):Int))=false:=decide_eq_false om;have hv:ckS Na p=chk Na p:=by unfold ckS;rw[if_neg z1,if_neg z2]
    have hk:=fun(s:St) (hs:s.h=H) K r dst=>lZ (E:=E1) (s:=s) (K:=K) (r:=r) (dst:=dst) (by rw[hs];exact uC p H)
    have wd:∀(s:St) Q,wp E1 Mt s Q=Run E1 Mt s Q:=fun _ _=>rfl;simp-implicitDefEqProofs only[yZ,f76,V,↓reduceIte,rA,h0,hh,hH,H0,aA (dD p hb),aA (eV p hb),c1,c2,hk,wd];refine(Rr p hb H.next 0 _ ?_ ?_ ?_ ?_ ?_ ?_ ?_ ?_).mono ?_
    ·exact U36
    ·simp-implicitDefEqProofs only[V,↓reduceIte,rA,Hn]
    ·exact U36
    ·simp-implicitDefEqProofs only[V];omega
    ·simp-implicitDefEqProofs only[V,↓reduceIte,rA,Hn,H1]
    ·simp-implicitDefEqProofs only[V];omega
    ·exact U40
    ·simp-implicitDefEqProofs only[St.rd_set,St.rd_toH,hrd]
    ·rintro e s' ⟨m1,m2,m3,⟨k,rfl,x,m4⟩|⟨k,rfl,m4⟩⟩
     ·have hs2:storeH s'.h 1 (.ptr 1 0) [vI 0]=some (s'.h.put 1 (some (.cells [vI 0] true))):=li m4;simp-implicitDefEqProofs only[V,rB,Hn] at m1 m2;simp-implicitDefEqProofs only[V,reduceCtorEq,m1,m3,hs2];refine⟨_,fV ?_,_,rfl,?_⟩
      ·exact U160
      ·simp-implicitDefEqProofs only[V,↓reduceIte,rA,hv,k]
     ·simp-implicitDefEqProofs only[V,rB,Hn] at m1 m2;simp-implicitDefEqProofs only[V,reduceCtorEq,m1,m3];refine⟨_,fV ?_,_,rfl,?_⟩
      ·exact U160
      ·simp-implicitDefEqProofs only[V,↓reduceIte,rA,m4,hv]
 exact aC kr kr (aN (Tree.pr p)) rfl (Tree.val _) ⟨h',ha⟩ h
theorem zZ(p:Pr)(hb:p.nodes<2^61)(h:AH):RunCall E1 (.f 25) [p.av] h (vI (ckS Nb p)) h:=by
 refine aC kr kr (aN (Tree.pr p)) rfl (Tree.val _) (ah aJS fun s hs hh hd=>?_) h;have h0:=hs 0 _ rfl
 by_cases z1:400<p.nodes
 ·have c1:decide (400<((p.nodes:Nat):Int))=true:=decide_eq_true om;have hv:ckS Nb p=7:=by unfold ckS;rw[if_pos z1]
  simp-implicitDefEqProofs only[zE,f25,V,↓reduceIte,rA,reduceCtorEq,h0,hh,hd,aA (da p hb),c1,hv]
 ·have c1:decide (400<((p.nodes:Nat):Int))=false:=decide_eq_false om
  by_cases z2:40<p.depth
  ·have c2:decide (40<((p.depth:Nat):Int))=true:=decide_eq_true om;have hv:ckS Nb p=8:=by unfold ckS;rw[if_neg z1,if_pos z2]
   simp-implicitDefEqProofs only[zE,f25,V,↓reduceIte,rA,reduceCtorEq,h0,hh,hd,aA (da p hb),aA (fN p hb),c1,c2,hv]
  ·have c2:decide (40<((p.depth:Nat):Int))=false:=decide_eq_false om;have hv:ckS Nb p=chk Nb p:=by unfold ckS;rw[if_neg z1,if_neg z2]
   simp-implicitDefEqProofs only[zE,f25,V,↓reduceIte,rA,reduceCtorEq,h0,hh,hd,aA (da p hb),aA (fN p hb),aA (nW Nb aEL p hb),c1,c2,hv]
end Go.Proofs.YtkhblipgiijoiaaGreatDoor
