/- ZQueue ZWork ZIter ZDem -/
import Derived.Test.YtkhblipgiijoiaaGreatDoorU0
import Derived.Test.YtkhblipgiijoiaaGreatDoorC1
import Derived.Test.YtkhblipgiijoiaaGreatDoorA1
import Derived.Test.YtkhblipgiijoiaaGreatDoorQ7
import Derived.Test.YtkhblipgiijoiaaGreatDoorX1
import Derived.Test.YtkhblipgiijoiaaGreatDoorT1

set_option linter.all false
open Nat renaming reduceEqDiff → rA, reduceAdd → rB, reduceMul → rC
open Int renaming reduceEq → rD, reduceLT → rE, reduceLE → rF
open Option.some renaming injEq → sI
open Prod.mk renaming injEq → pI
open Bool renaming and_self → iu
open List renaming append_assoc → jk, append_nil → iz, cons_append → j6, flatMap_cons → A8, getElem?_map → A6, length_append → io, length_cons → il, length_eq_zero_iff → At, length_map → jp, map_cons → jc, mem_append → jb, mem_append_left → Bj, mem_append_right → By, mem_cons → ie, mem_cons_of_mem → j4, mem_cons_self → ik, mem_map → Ao, mem_range → Bd, mem_singleton → ig, nil_append → im, nodup_cons → Bi, nodup_nil → B9, not_mem_nil → Al, range → Ac, take_succ_cons → jr
open Nat renaming beq → i8, beq_refl → jm, ble → ia, ble_eq → ir, le_refl → ib, le_succ → Ab, lt_succ_self → jx, mul_one → Aj, zero_le → ic
open Go.Proofs.Tryz renaming prog → i7
namespace Go.Proofs.YtkhblipgiijoiaaGreatDoor
open Go Go.AM
variable {E:Env}{s:St}{K:St→Prop}{r:List AOper}{dst:Option Nat}
def Que(h:AH)(lo:Nat)(v:AV)(Q:List ByteArray):Prop:=
 ∃b off cap cs,v=.own b off Q.length 1 cap∧lo≤b∧b<h.next∧h.get b=some (.cells cs true)∧off+Q.length≤cs.length∧(cs.drop off).take Q.length=Q.flatMap strA∧(cap=some Q.length∨(cap=none∧off+Q.length=cs.length))
theorem Que.to{h h':AH}{lo:Nat}{v:AV}{Q:List ByteArray}(q:Que h lo v Q)(hn:h.next≤h'.next)(g:∀x,lo≤x→x<h.next→h'.get x=h.get x):Que h' lo v Q:=by
 obtain⟨b,off,cap,cs,e,b1,b2,gb,q1,q2,q3⟩:=q;exact⟨b,off,cap,cs,e,b1,om,by rw[g b b1 b2,gb],q1,q2,q3⟩
theorem Que.len{h:AH}{lo:Nat}{v:AV}{Q:List ByteArray}(q:Que h lo v Q):lenV v=some (vI (Q.length:Nat)):=by
 obtain⟨b,off,cap,cs,rfl,_⟩:=q;rfl
theorem Que.hd{h:AH}{lo:Nat}{v:AV}{a:ByteArray}{Q:List ByteArray}(q:Que h lo v (a::Q)):∃b off l,lo≤b∧b<h.next∧idxAddrSV 1 v 0=some (.ptr b off)∧cfB (h.get b) off=some (vS a::l):=by
 obtain⟨b,off,cap,cs,rfl,b1,b2,gb,q1,q2,q3⟩:=q;have h1:Nat.blt 0 (a::Q).length=true:=Nat.blt_eq.mpr (Nat.zero_lt_succ _);have h2:ia off cs.length=true:=ir.mpr om;cases hc:cs.drop off with
 |nil=>
  rw[hc] at q2;simp[strA] at q2
 |cons c l=>
  rw[hc,il,jr,A8,strA,j6,im,List.cons.injEq] at q2;refine⟨b,off,l,b1,b2,?_,?_⟩
  ·simp only[idxAddrSV,h1,jm,iu,cond_true,Nat.zero_mul,Nat.add_zero]
  ·rw[gb];simp only[cfB,h2,cond_true,hc,q2.1]
theorem Que.tl{h:AH}{lo:Nat}{v:AV}{a:ByteArray}{Q:List ByteArray}(q:Que h lo v (a::Q)):∃v',sliceA' 1 v (some 1) none none=some v'∧Que h lo v' Q:=by
 obtain⟨b,off,cap,cs,rfl,b1,b2,gb,q1,q2,q3⟩:=q;have h1:ia 1 (Q.length+1)=true:=ir.mpr om;have h2:ia (Q.length+1) (Q.length+1)=true:=ir.mpr (ib _);have e1:sliceB (Q.length+1) (Q.length+1) (some 1) none none=some (1,Q.length+1,Q.length+1):=by
  simp only[sliceB,Option.getD_some,Option.getD_none,h1,h2,Option.isNone_none,Bool.true_or,iu,cond_true]
 rw[il] at q1 q2;have tail:∀o,o=off+1→(cs.drop o).take Q.length=Q.flatMap strA:=fun o ho=>by
  subst ho;have:cs.drop (off+1)=(cs.drop off).drop 1:=by rw[List.drop_drop]
  rw[this];cases hc:cs.drop off with
  |nil=>
   rw[hc] at q2;simp[strA] at q2
  |cons c l=>
   rw[hc,jr,A8,strA,j6,im,List.cons.injEq] at q2;rw[List.drop_one,List.tail_cons,q2.2]
 rcases q3 with rfl|⟨rfl,q3⟩
 ·refine⟨.own b (bif i8 (Q.length+1) 1 then off else off+1) Q.length 1 (some Q.length),?_,?_⟩
  ·simp only[il,sliceA',jm,cond_true,e1,Nat.add_sub_cancel,Aj]
  ·cases hq:i8 (Q.length+1) 1 with
   |true=>
    have:Q=[]:=At.1 (by have:=Nat.eq_of_beq_eq_true hq;omega)
    subst this;exact⟨b,off,some 0,cs,rfl,b1,b2,gb,by simp;omega,rfl,.inl rfl⟩
   |false=>exact⟨b,off+1,some Q.length,cs,rfl,b1,b2,gb,om,tail _ rfl,.inl rfl⟩
 ·have e2:i8 1 0=false:=rfl;refine⟨.own b (off+1) Q.length 1 none,?_,b,off+1,none,cs,rfl,b1,b2,gb,om,tail _ rfl,.inr ⟨rfl,by rw[il] at q3;omega⟩⟩
  simp only[il,sliceA',jm,cond_true,e1,h1,h2,e2,cond_false,Nat.add_sub_cancel,Aj]
theorem Zy{a d lo:Nat}{v x:AV}{Q:List ByteArray}{y:ByteArray}(q:Que s.h lo v Q)(hlo:lo≤s.h.next)(he:elemsOf s.h 1 x=some ([vS y],1))(hQ:Q.length<2^29)(ha:s.eval (.t a)=some v)(hx:s.eval (.t d)=some x)
  (kk:∀v' h',Que h' lo v' (Q++[y])→s.h.next≤h'.next→(∀z,z<lo→h'.get z=s.h.get z)→AM.wpOps E r ((s.toH h').put dst v') K):AM.wpOps E (⟨dst,none,.append 1 16 (.t a) (.t d)⟩::r) s K:=by
 obtain⟨b,off,cap,cs,rfl,b1,b2,gb,q1,q2,q3⟩:=q;have hok:okLen (Q.length+1) 16=true:=aX om de;have h0:i8 1 0=false:=rfl;have h1:ia (off+Q.length) cs.length=true:=ir.mpr om;have hb:(Q++[y]).length=Q.length+1:=by rw[io];rfl
 have hlen:(Q.flatMap strA).length=Q.length:=by rw[au aK,Aj]
 rcases q3 with rfl|⟨rfl,q3⟩
 ·have h2:ia (Q.length+1) Q.length=false:=by
   cases hh:ia (Q.length+1) Q.length with
   |false=>rfl
   |true=>have:=Nat.le_of_ble_eq_true hh;omega
  have e:appendA s 1 16 (.t a) (.t d)=some (.own s.h.next 0 (Q.length+1) 1 none,s.toH (s.h.alloc (.cells (Q.flatMap strA++[vS y]) true))):=by
   simp only[appendA,ha,hx,he,h0,cond_false,gb,jm,h1,hok,iu,cond_true,h2,Aj,q2];rfl
  rw[bZ,e];refine kk (.own s.h.next 0 (Q.length+1) 1 none) (s.h.alloc (.cells (Q.flatMap strA++[vS y]) true)) ⟨s.h.next,0,none,Q.flatMap strA++[vS y],by rw[hb],hlo,jx _,ax,?_,?_,.inr ⟨rfl,?_⟩⟩ (Ab _) (fun z hz=>aJ om)
  ·exact U142
  ·exact U143
  ·exact U142
 ·have h2:i8 (off+Q.length) cs.length=true:=by rw[q3];exact jm _
  have q4:cs.drop off=Q.flatMap strA:=by
   rw[←q2,List.take_of_length_le];rw[List.length_drop];omega
  have e:appendA s 1 16 (.t a) (.t d)=some (.own s.h.next 0 (Q.length+1) 1 none,s.toH ((s.h.put b none).alloc (.cells (Q.flatMap strA++[vS y]) true))):=by
   simp only[appendA,ha,hx,he,h0,cond_false,gb,jm,h1,hok,iu,cond_true,h2,q4,Aj];rfl
  rw[bZ,e];have nx:(s.h.put b none).next=s.h.next:=rfl;refine kk (.own s.h.next 0 (Q.length+1) 1 none) ((s.h.put b none).alloc (.cells (Q.flatMap strA++[vS y]) true)) ⟨s.h.next,0,none,Q.flatMap strA++[vS y],by rw[hb],hlo,?_,?_,?_,?_,.inr ⟨rfl,?_⟩⟩ (Ab _) (fun z hz=>?_)
  ·exact jx _
  ·exact ax (h:=s.h.put b none)
  ·exact U142
  ·exact U143
  ·exact U142
  ·rw[aJ (by rw[nx];omega),aS om]
end Go.Proofs.YtkhblipgiijoiaaGreatDoor
namespace Go.Proofs.YtkhblipgiijoiaaGreatDoor
open Go Go.AM
set_option maxHeartbeats 4000000
variable [KR]
theorem rl{x:ByteArray}:∀{l:List ByteArray},memS x l=true↔x∈l
 | []=>by simp[memS]
 |y::r=>by
  rw[memS,Bool.or_eq_true,rl (l:=r),ie];constructor
  ·rintro(h|h)
   ·exact .inl (eW h)
   ·exact .inr h
  ·rintro(h|h)
   ·exact .inl (by rw[h];exact cj _)
   ·exact .inr h
def pushN:List ByteArray→List ByteArray×List ByteArray→List ByteArray×List ByteArray
 | [],w=>w
 |n::N,w=>bif memS n w.1 then pushN N w else pushN N (w.1++[n],w.2++[n])
theorem lp:∀(a b:List ByteArray) (w:List ByteArray×List ByteArray),pushN (a++b) w=pushN b (pushN a w)
 | [],b,w=>rfl
 |n::N,b,w=>by
  rw[j6,pushN,pushN];cases memS n w.1 with
  |true=>exact lp N b w
  |false=>exact lp N b _
theorem dq:∀(N:List ByteArray) (w:List ByteArray×List ByteArray),∃new,(pushN N w).1=w.1++new∧(pushN N w).2=w.2++new∧(∀z∈new,z∈N)∧(∀z∈N,z∈(pushN N w).1)∧(w.1.Nodup→(pushN N w).1.Nodup)∧new.length≤N.length
 | [],w=>⟨[],by rw[iz];rfl,by rw[iz];rfl,fun z hz=>hz,fun z hz=>(by cases hz),fun h=>h,ib _⟩
 |n::N,w=>by
  rw[pushN];cases q:memS n w.1 with
  |true=>
   obtain⟨new,h1,h2,h3,h4,h5,h6⟩:=dq N w;refine⟨new,h1,h2,fun z hz=>j4 _ (h3 z hz),fun z hz=>?_,h5,by rw[il];omega⟩
   rcases ie.1 hz with e|hz
   ·rw[cond_true,h1,e];exact Bj _ (rl.1 q)
   ·exact h4 z hz
  |false=>
   obtain⟨new,h1,h2,h3,h4,h5,h6⟩:=dq N (w.1++[n],w.2++[n]);refine⟨n::new,by rw[cond_false,h1,jk];rfl,by rw[cond_false,h2,jk];rfl,fun z hz=>?_,fun z hz=>?_,fun hn=>?_,by rw[il,il];omega⟩
   ·rcases ie.1 hz with e|hz
    ·rw[e];exact ik
    ·exact j4 _ (h3 z hz)
   ·rcases ie.1 hz with e|hz
    ·rw[cond_false,h1,e];exact Bj _ (By _ ik)
    ·exact h4 z hz
   ·refine h5 ?_
    refine List.nodup_append.2 ⟨hn,Bi.2 ⟨Al,B9⟩,fun a ha b hb e=>?_⟩;rw[ig.1 hb] at e;subst e;rw[rl.2 ha] at q;cases q
theorem ml{lo:Nat}(hlo2:2≤lo)(N:List ByteArray)(hN:N.length<2^28):∀(r:List ByteArray) (i:Nat) (F Q:List ByteArray) (s:St) (v:AV),N.drop i=r→i≤N.length→Q.length+r.length<2^29→Que s.h lo v Q→lo≤s.h.next→s.h.get 1=some (mapB F)→
  s.eval (.t 44)=some (nmV N)→s.eval (.t 45)=some (vI (N.length:Nat))→s.eval (.t 46)=some (vI (i:Nat))→s.eval (.t 5)=some (.mp 1)→s.eval (.t 6)=some v→s.defers=[]→
  Run E1 zQ s fun e s'=>e=.exit 4∧s'.defers=[]∧lo≤s'.h.next∧s'.h.get 0=s.h.get 0∧s'.h.get 1=some (mapB (pushN r (F,Q)).1)∧s'.eval (.t 2)=s.eval (.t 2)∧s'.eval (.t 5)=some (.mp 1)∧s'.eval (.t 7)=s.eval (.t 7)∧s'.eval (.t 26)=s.eval (.t 26)∧s'.eval (.t 27)=s.eval (.t 27)∧s'.eval (.t 28)=s.eval (.t 28)∧∃v',Que s'.h lo v' (pushN r (F,Q)).2∧s'.eval (.t 6)=some v'
 | [],i,F,Q,s,v,hd,hi,hA,hq,hlo,g1,h44,h45,h46,h5,h6,hf=>by
  have hl:=aG hd hi;subst hl;apply aB (rfl:zQ=.loop mm);simp-implicitDefEqProofs only[mm,V,↓reduceIte,rA,h45,h46,h5,h6,hf,bA,pushN];exact⟨hlo,g1,v,hq,rfl⟩
 |n::r,i,F,Q,s,v,hd,hi,hA,hq,hlo,g1,h44,h45,h46,h5,h6,hf=>by
  have hl:=aH hd;have hlt:=bD hl;have hA':Q.length+(r.length+1)<2^29:=hA;have w1:IntKind.i64.wrap ((i:Int)+1)=((i+1:Nat):Int):=aD (n:=i+1) om;have hat:idxAddrSV 1 (nmV N) i=some (.iptr (vS n::r.flatMap strA)):=Vl.at (v:=⟨N,nilK,none⟩) aK hd;apply aB (rfl:zQ=.loop mm);cases hm:memS n F with
  |true=>
   simp-implicitDefEqProofs only[mm,V,↓reduceIte,rA,h44,h45,h46,h5,hlt,hat,cW,bX,bk,g1,hm,w1,pushN];refine(ml hlo2 N hN r (i+1) F Q _ v (aF hd) om om ?_ ?_ ?_ ?_ ?_ ?_ ?_ ?_ ?_).mono ?_
   ·simp-implicitDefEqProofs only[V];exact hq
   ·exact U119
   ·exact U109
   ·exact U171
   ·exact U172
   ·exact U36
   ·exact U43
   ·exact U79
   ·exact U69
   rintro e s2 ⟨rfl,d2,n2,o0,o1,t2,t5,t7,t26,t27,t28,H⟩;simp-implicitDefEqProofs only[V,↓reduceIte,rA] at o0 t2 t7 t26 t27 t28;exact⟨rfl,d2,n2,o0,o1,t2,t5,t7,t26,t27,t28,H⟩
  |false=>
   have ha:addS n F=F++[n]:=by rw[addS,hm];rfl
   simp-implicitDefEqProofs only[mm,V,↓reduceIte,rA,WF,h44,h45,h46,h5,h6,hlt,hat,cW,bX,bk,kL,dW,ew,g1,hm,pushN];refine Zy (lo:=lo) (v:=v) (x:=.own s.h.next 0 1 1 (some 1)) (Q:=Q) (y:=n) ?_ ?_ ?_ om ?_ ?_ ?_
   ·simp-implicitDefEqProofs only[V];exact hq.to (by show s.h.next≤s.h.next+1;omega) fun x x1 x2=>by rw[aJ (by show x<s.h.next;omega),aS om]
   ·exact U52
   ·refine aq (rw':=true) ?_ rfl;exact U36
   ·exact U79
   ·exact U36
   intro v1 h1' q1 n1 o1;simp-implicitDefEqProofs only[V,ha] at n1 o1 q1;have o0':h1'.get 0=s.h.get 0:=by rw[o1 0 om,if_neg om,if_neg om]
   have o1':h1'.get 1=some (mapB (F++[n])):=by rw[o1 1 om,if_neg om,if_pos rfl]
   simp-implicitDefEqProofs only[V,↓reduceIte,rA,h46,w1];refine(ml hlo2 N hN r (i+1) (F++[n]) (Q++[n]) _ v1 (aF hd) om (by rw[io];show Q.length+1+r.length<_;omega) ?_ ?_ ?_ ?_ ?_ ?_ ?_ ?_ ?_).mono ?_
   ·exact U144
   ·exact U52
   ·simp-implicitDefEqProofs only[V];exact o1'
   ·exact U171
   ·exact U172
   ·exact U36
   ·exact U43
   ·exact U36
   ·exact U69
   rintro e s2 ⟨rfl,d2,n2,p0,p1,t2,t5,t7,t26,t27,t28,H⟩;simp-implicitDefEqProofs only[V,↓reduceIte,rA] at p0 t2 t7 t26 t27 t28;exact⟨rfl,d2,n2,by rw[p0,o0'],p1,t2,t5,t7,t26,t27,t28,H⟩
theorem aHN(x:ByteArray)(c:Cl)(r:List Cl):hypS x (c::r)=bif gives x c then needL c.hy.l++hypS x r else hypS x r:=by rw[hypS,Md]
theorem wy{lo:Nat}(hlo2:2≤lo)(H:Hn)(a:ByteArray)(hw:∀c∈H.cs.l,Pr.wtL c.hy.l+c.hd.wt≤2^22):∀(r:List Cl) (i:Nat) (F Q:List ByteArray) (s:St) (v:AV),H.cs.l.drop i=r→i≤H.cs.l.length→H.cs.l.length<2^28→Q.length+totS r<2^29→Que s.h lo v Q→lo≤s.h.next→s.h.get 1=some (mapB F)→
  s.eval (.t 26)=some (H.cs.A Cl.cells)→s.eval (.t 27)=some (vI (H.cs.l.length:Nat))→s.eval (.t 28)=some (vI (i:Nat))→s.eval (.t 5)=some (.mp 1)→s.eval (.t 6)=some v→s.eval (.t 7)=some (vS a)→s.defers=[]→
  Run E1 td s fun e s'=>e=.exit 2∧s'.defers=[]∧lo≤s'.h.next∧s'.h.get 0=s.h.get 0∧s'.h.get 1=some (mapB (pushN (hypS a r) (F,Q)).1)∧s'.eval (.t 2)=s.eval (.t 2)∧s'.eval (.t 5)=some (.mp 1)∧∃v',Que s'.h lo v' (pushN (hypS a r) (F,Q)).2∧s'.eval (.t 6)=some v'
 | [],i,F,Q,s,v,hd,hi,hN,hA,hq,hlo,g1,h26,h27,h28,h5,h6,h7,hf=>by
  have hl:=aG hd hi;subst hl;apply aB (rfl:td=.loop jV);simp-implicitDefEqProofs only[jV,V,↓reduceIte,rA,h27,h28,h5,h6,hf,bA,hypS,pushN];exact⟨hlo,g1,v,hq,rfl⟩
 |c::r,i,F,Q,s,v,hd,hi,hN,hA,hq,hlo,g1,h26,h27,h28,h5,h6,h7,hf=>by
  have hl:=aH hd;have hlt:=bD hl;have hA':Q.length+(Pr.nodesL c.hy.l+totS r)<2^29:=hA;have w1:IntKind.i64.wrap ((i:Int)+1)=((i+1:Nat):Int):=aD (n:=i+1) om;have hcw:=hw c (List.mem_of_mem_drop (i:=i) (by rw[hd];exact ik))
  have hl2:=cQ c.hy.l;have hnl:=vp c.hy.l;have n1:(1=s.h.next)=False:=eq_false om;have hq1:Que ((s.h.alloc (.cells [.val (.slice none 0 0),.val (.slice none 0 0),vI 0,vS ⟨#[]⟩,vI 0,.val (.slice none 0 0),vI 0] true)).put s.h.next (some (.cells c.cells true))) lo v Q:=hq.to (by show s.h.next≤s.h.next+1;omega) fun x x1 x2=>by rw[aS om,aJ x2]
  have go:∀(s1:St) (v1:AV) (F1 Q1:List ByteArray),Q1.length+totS r<2^29→Que s1.h lo v1 Q1→lo≤s1.h.next→s1.h.get 0=s.h.get 0→s1.h.get 1=some (mapB F1)→s1.eval (.t 2)=s.eval (.t 2)→s1.eval (.t 26)=some (H.cs.A Cl.cells)→s1.eval (.t 27)=some (vI (H.cs.l.length:Nat))→s1.eval (.t 28)=some (vI ((i+1:Nat):Int))→s1.eval (.t 5)=some (.mp 1)→s1.eval (.t 6)=some v1→s1.eval (.t 7)=some (vS a)→s1.defers=[]→
    Run E1 td s1 fun e s'=>e=.exit 2∧s'.defers=[]∧lo≤s'.h.next∧s'.h.get 0=s.h.get 0∧s'.h.get 1=some (mapB (pushN (hypS a r) (F1,Q1)).1)∧s'.eval (.t 2)=s.eval (.t 2)∧s'.eval (.t 5)=some (.mp 1)∧∃v',Que s'.h lo v' (pushN (hypS a r) (F1,Q1)).2∧s'.eval (.t 6)=some v':=
   fun s1 v1 F1 Q1 a1 a2 a3 a4 a5 a6 b1 b2 b3 b4 b5 b6 b7=>(wy hlo2 H a hw r (i+1) F1 Q1 s1 v1 (aF hd) om hN a1 a2 a3 a5 b1 b2 b3 b4 b5 b6 b7).mono fun e s' ⟨z1,z2,z3,z4,z5,z6,z7⟩=>⟨z1,z2,z3,by rw[z4,a4],z5,by rw[z6,a6],z7⟩
  rw[aHN];apply aB (rfl:td=.loop jV);cases q:gives a c with
  |false=>
   cases q1:decide (c.hd.op=5) with
   |false=>
    simp-implicitDefEqProofs only[jV,V,↓reduceIte,rA,WF,h26,h27,h28,hlt,H.cs.at Cl.len hd,dp,nP,q1,w1];refine go _ v F Q om ?_ ?_ ?_ ?_ ?_ ?_ ?_ ?_ ?_ ?_ ?_ ?_
    ·exact U145
    ·exact U52
    ·exact U146
    ·exact U89
    all_goals simp-implicitDefEqProofs only[V,↓reduceIte,rA,h26,h27,h5,h6,h7,hf]
   |true=>
    have q2:strEq c.hd.nm a=false:=by rw[gives,q1,Bool.true_and] at q;exact q
    simp-implicitDefEqProofs only[jV,V,↓reduceIte,rA,rB,WF,h26,h27,h28,h7,hlt,H.cs.at Cl.len hd,dp,nP,Pe,q1,q2,w1];refine go _ v F Q om ?_ ?_ ?_ ?_ ?_ ?_ ?_ ?_ ?_ ?_ ?_ ?_
    ·exact U145
    ·exact U52
    ·exact U146
    ·exact U89
    all_goals simp-implicitDefEqProofs only[V,↓reduceIte,rA,h26,h27,h5,h6,h7,hf]
  |true=>
   rw[gives,Bool.and_eq_true] at q;have q1:decide (c.hd.op=5)=true:=q.1;have q2:strEq c.hd.nm a=true:=q.2;have hc:=xj c hcw;simp-implicitDefEqProofs only[jV,V,↓reduceIte,rA,rB,WF,h26,h27,h28,h7,hlt,H.cs.at Cl.len hd,dp,nP,Pe,q1,q2,aA hc,fB];refine(ml hlo2 (needL c.hy.l) om (needL c.hy.l) 0 F Q _ v rfl (ic _) om ?_ ?_ ?_ ?_ ?_ ?_ ?_ ?_ ?_).mono ?_
   ·exact U145
   ·exact U52
   ·exact U89
   ·exact U36
   ·exact U36
   ·exact U58
   ·exact U43
   ·exact U79
   ·exact U69
   rintro e s2 ⟨rfl,d2,m2,o0,o1,t2,t5,t7,t26,t27,t28,v2,q2',t6⟩;simp-implicitDefEqProofs only[V,↓reduceIte,rA,h26,h27,h28,h7] at o0 t2 t7 t26 t27 t28;rw[if_neg om,if_neg om] at o0;obtain⟨new,p1,p2,p3,p4,p5,p6⟩:=dq (needL c.hy.l) (F,Q);have p2':(pushN (needL c.hy.l) (F,Q)).2.length=Q.length+new.length:=by rw[p2,io]
   simp-implicitDefEqProofs only[V,↓reduceIte,WB,t28,w1,lp];refine go _ v2 (pushN (needL c.hy.l) (F,Q)).1 (pushN (needL c.hy.l) (F,Q)).2 om ?_ ?_ ?_ ?_ ?_ ?_ ?_ ?_ ?_ ?_ ?_ ?_
   ·simp-implicitDefEqProofs only[V];exact q2'
   ·simp-implicitDefEqProofs only[V];exact m2
   ·simp-implicitDefEqProofs only[V];exact o0
   ·simp-implicitDefEqProofs only[V];exact o1
   ·simp-implicitDefEqProofs only[V,↓reduceIte,rA];exact t2
   all_goals simp-implicitDefEqProofs only[V,↓reduceIte,rA,t26,t27,t5,t6,t7,d2]
structure Wk (cs:List Cl) (x:ByteArray) (F Q:List ByteArray):Prop where
 nd:F.Nodup
 rc:∀z∈F,RC cs x z
 q:∀z∈Q,z=x∨z∈F
 cl:∀y,(y=x∨y∈F)→y∉Q→∀z∈hypS y cs,z∈F
theorem Wk.len{cs:List Cl}{x:ByteArray}{F Q:List ByteArray}(w:Wk cs x F Q):F.length≤(allN cs).length:=be w.nd fun z hz=>(w.rc z hz).all
theorem Wk.next{cs:List Cl}{x a:ByteArray}{F Q:List ByteArray}(w:Wk cs x F (a::Q)):Wk cs x (pushN (hypS a cs) (F,Q)).1 (pushN (hypS a cs) (F,Q)).2:=by
 obtain⟨new,p1,p2,p3,p4,p5,p6⟩:=dq (hypS a cs) (F,Q);refine⟨p5 w.nd,fun z hz=>?_,fun z hz=>?_,fun y hy hq z hz=>?_⟩
 ·rw[p1] at hz;rcases jb.1 hz with h|h
  ·exact w.rc z h
  ·rcases w.q a ik with e|e
   ·have:=p3 z h;rw[e] at this;exact .base this
   ·exact .step (w.rc a e) (p3 z h)
 ·rw[p2] at hz;rw[p1];rcases jb.1 hz with h|h
  ·rcases w.q z (j4 _ h) with e|e
   ·exact .inl e
   ·exact .inr (Bj _ e)
  ·exact .inr (By _ h)
 ·rcases Classical.em (y=a) with e|e
  ·rw[e] at hz;exact p4 z hz
  ·rw[p2] at hq;rw[p1] at hy⊢
   refine Bj _ (w.cl y ?_ ?_ z hz)
   ·rcases hy with h|h
    ·exact .inl h
    ·rcases jb.1 h with h|h
     ·exact .inr h
     ·exact absurd (By _ h) hq
   ·intro h;rcases ie.1 h with h|h
    ·exact e h
    ·exact hq (Bj _ h)
theorem Wk.done{cs:List Cl}{x:ByteArray}{F:List ByteArray}(w:Wk cs x F []):∀z,z∈F↔RC cs x z:=fun z=>⟨w.rc z,fun h=>by
 induction h with
 |base h=>exact w.cl x (.inl rfl) Al _ h
 |step _ h ih=>exact w.cl _ (.inr ih) Al _ h⟩
theorem Sc{lo:Nat}(hlo2:2≤lo)(H:Hn)(hH:HnT H)(x:ByteArray):∀(n:Nat) (F Q:List ByteArray) (s:St) (v:AV),2*((allN H.cs.l).length-F.length)+Q.length≤n→Q.length≤F.length+1→Wk H.cs.l x F Q→Que s.h lo v Q→lo≤s.h.next→s.h.get 0=some (.cells H.cells true)→s.h.get 1=some (mapB F)→
  s.eval (.t 2)=some (.ptr 0 0)→s.eval (.t 5)=some (.mp 1)→s.eval (.t 6)=some v→s.defers=[]→
  Run E1 tc s fun e s'=>e=.exit 0∧s'.defers=[]∧lo≤s'.h.next∧s'.eval (.t 5)=some (.mp 1)∧∃F',s'.h.get 1=some (mapB F')∧F'.Nodup∧∀z,z∈F'↔RC H.cs.l x z:=by
 intro n
 induction n with
 |zero=>
  intro F Q s v hn hb w hq hlo g0 g1 h2 h5 h6 hf;have:Q=[]:=At.1 om;subst this;have hl:lenV v=some (vI 0):=hq.len;apply aB (rfl:tc=.loop jU);simp-implicitDefEqProofs only[jU,V,↓reduceIte,rA,WF,h5,h6,hf,hl];exact⟨hlo,F,g1,w.nd,w.done⟩
 |succ n ih=>
  intro F Q s v hn hb w hq hlo g0 g1 h2 h5 h6 hf;cases Q with
  |nil=>
   have hl:lenV v=some (vI 0):=hq.len;apply aB (rfl:tc=.loop jU);simp-implicitDefEqProofs only[jU,V,↓reduceIte,rA,WF,h5,h6,hf,hl];exact⟨hlo,F,g1,w.nd,w.done⟩
  |cons a Q=>
   have hl:=hq.len;have hl0:decide ((((a::Q).length:Nat):Int)=0)=false:=decide_eq_false (by rw[il];omega)
   obtain⟨b,off,l,b1,b2,ix,cf⟩:=hq.hd;obtain⟨v1,sl,q1⟩:=hq.tl;have hFl:=w.len;have hal:=gM H.cs.l;have htot:=hH.tot;have hw1:=w.next;have hhl:=kf a H.cs.l;have hw1l:=hw1.len;obtain⟨new,p1,p2,p3,p4,p5,p6⟩:=dq (hypS a H.cs.l) (F,Q);have p1':(pushN (hypS a H.cs.l) (F,Q)).1.length=F.length+new.length:=by rw[p1,io]
   have p2':(pushN (hypS a H.cs.l) (F,Q)).2.length=Q.length+new.length:=by rw[p2,io]
   rw[il] at hn hb;apply aB (rfl:tc=.loop jU);simp-implicitDefEqProofs only[jU,V,↓reduceIte,rA,h2,h6,hl,hl0,ix,cf,sl,g0];refine(wy (lo:=lo) hlo2 H a hH.cw H.cs.l 0 F Q _ v1 rfl (ic _) hH.cs om ?_ ?_ ?_ ?_ ?_ ?_ ?_ ?_ ?_ ?_).mono ?_
   ·exact U144
   ·exact U119
   ·exact U53
   ·exact U36
   ·exact U36
   ·exact U58
   ·exact U43
   ·exact U36
   ·exact U36
   ·exact U69
   rintro e s1 ⟨rfl,d1,m1,o0,o1,t2,t5,v2,q2,t6⟩;simp-implicitDefEqProofs only[V,↓reduceIte,rA,h2] at o0 t2;simp-implicitDefEqProofs only[V,WB];exact ih _ _ _ v2 om om hw1 q2 m1 (by rw[o0,g0]) o1 t2 t5 t6 d1
def Xx:ACode:=(.region [⟨some 64,none,.nextMap (.t 63)⟩,⟨some 65,none,.extract 0 (.t 64)⟩])
def Kr:ACode:=(.seq (.cond (.t 65) .skip (.exit 6))
 (.block 7 (.seq (.region [⟨some 66,none,.curMap (.t 63)⟩,⟨some 67,none,.extract 0 (.t 66)⟩,⟨some 13,none,.mv (.t 67)⟩])
 (.region [⟨some 68,none,.mv (.t 12)⟩,⟨some 69,none,.mv (.t 13)⟩,⟨some 70,none,.buildSlice 1 1 [vS ⟨#[]⟩] [(0,1,(.t 69))]⟩,⟨some 71,none,.append 1 16 (.t 68) (.t 70)⟩,⟨some 12,none,.mv (.t 71)⟩]))))
theorem wz:zR=.seq Xx Kr:=rfl
theorem Fv{lo B:Nat}{z:ByteArray}{acc:List ByteArray}{v:AV}{s:St}(hA:acc.length<2^28)(h63:s.eval (.t 63)=some (.it B))(h65:s.eval (.t 65)=some (vB true))(hc:CurIs s.h B (.string z) (vB true))(hr:RowC s.h lo acc.length 1 v (acc.flatMap strA))(hlo:lo≤s.h.next)(h12:s.eval (.t 12)=some v)(hf:s.defers=[]):
  Run E1 Kr s fun e s'=>e=.normal∧s'.defers=[]∧s'.eval (.t 63)=some (.it B)∧lo≤s'.h.next∧(∀y,y<lo→s'.h.get y=s.h.get y)∧∃v',s'.eval (.t 12)=some v'∧RowC s'.h lo (acc++[z]).length 1 v' ((acc++[z]).flatMap strA):=by
 have hb:(acc++[z]).length=acc.length+1:=by rw[io];rfl
 apply ay;simp-implicitDefEqProofs only[Kr,V,h65];refine aKI (k:=.string z) (u:=vB true) (b:=B) ?_ ?_ rfl ?_
 ·exact h63
 ·exact hc
 simp-implicitDefEqProofs only[V,↓reduceIte,rA,WF,h12];refine bt (k:=acc.length) (m:=1) (lo:=lo) (v:=v) (x:=.own s.h.next 0 1 1 (some 1)) (cs:=acc.flatMap strA) (new:=[vS z]) ?_ ?_ ?_ rfl ?_ (aX om de) ?_ ?_ ?_
 ·exact U120
 ·exact U52
 ·refine aq (rw':=true) ?_ rfl;exact U36
 ·exact fun c hc=>by rw[ig.1 hc];exact Leaf.val _
 ·exact U100
 ·exact U36
 intro v1 h1 r1 n1 o1;simp-implicitDefEqProofs only[V] at n1 o1 r1;simp-implicitDefEqProofs only[V,↓reduceIte,rA,h63,hf];refine⟨om,fun y hy=>?_,v1,rfl,?_⟩
 ·rw[o1 y om (fun q=>by have:=(hr.ids y q).1;omega),if_neg om]
 ·rw[hb,List.flatMap_append];exact r1
theorem Xz{B:Nat}{s:St}(h63:s.eval (.t 63)=some (.it B))(hc:AtEnd s.h B)(hf:s.defers=[]):
  Run E1 zR s fun e s'=>e=.exit 6∧s'.defers=[]∧s'.h=s.h∧s'.eval (.t 12)=s.eval (.t 12):=by
 apply ay;simp-implicitDefEqProofs only[zR,V];refine Ii (b:=B) h63 hc ?_
 simp-implicitDefEqProofs only[V,↓reduceIte,rA,hf]
def Got(F:List ByteArray)(lo:Nat)(e:Ex)(s':St):Prop:=
 e=.exit 6∧s'.defers=[]∧lo≤s'.h.next∧∃(acc:List ByteArray) (v:AV),s'.eval (.t 12)=some v∧RowC s'.h lo acc.length 1 v (acc.flatMap strA)∧acc.Nodup∧∀z,z∈acc↔z∈F
theorem sb{F acc:List ByteArray}{lo B:Nat}{v:AV}{s:St}(h63:s.eval (.t 63)=some (.it B))(hc:AtEnd s.h B)(hf:s.defers=[])(hlo:lo≤s.h.next)(h12:s.eval (.t 12)=some v)(hr:RowC s.h lo acc.length 1 v (acc.flatMap strA))(hn:acc.Nodup)(hm:∀z,z∈acc↔z∈F):
  DW i7 E1 jT s (Got F lo):=by
 refine DW.loop (K1:=fun e s'=>Got F lo e s') (DW.run rfl ((Xz h63 hc hf).mono fun e s' ⟨e1,d1,o1,t1⟩=>⟨e1,d1,by rw[o1];exact hlo,acc,v,by rw[t1,h12],by rw[o1];exact hr,hn,hm⟩)) (fun s1 h=>by cases h.1) fun e s1 _ h=>h
theorem Ya{F:List ByteArray}(hF:F.Nodup)(hF2:1≤F.length)(hFl:F.length<2^28){lo B:Nat}(hB:B<lo)(h1B:1<B):∀(k:Nat) (seen:List Nat) (acc:List ByteArray) (s:St) (v:AV),k+seen.length=F.length→seen.Nodup→(∀i∈seen,i<F.length)→acc.length=seen.length→acc.Nodup→(∀z,z∈acc↔∃i∈seen,F[i]? =some z)→
  s.h.get 1=some (mapB F)→s.h.get B=some (.mitr 1 F.length seen)→RowC s.h lo acc.length 1 v (acc.flatMap strA)→lo≤s.h.next→s.eval (.t 63)=some (.it B)→s.eval (.t 12)=some v→s.defers=[]→DW i7 E1 jT s (Got F lo):=by
 intro k
 induction k with
 |zero=>
  intro seen acc s v hk hs hsb hal han ham g1 gB hr hlo h63 h12 hf;have hall:∀i,i<F.length→i∈seen:=fun i hi=>by
   rcases Classical.em (i∈seen) with q|q
   ·exact q
   ·have:=be (a:=i::seen) (b:=Ac F.length) (Bi.2 ⟨q,hs⟩) fun j hj=>by
     rcases ie.1 hj with e|e
     ·rw[e];exact Bd.2 hi
     ·exact Bd.2 (hsb j e)
    rw[il,List.length_range] at this;omega
  refine sb h63 (.inr (.inr ⟨1,F.length,seen,_,gB,g1,by rw[jp],hF2,th hall⟩)) hf hlo h12 hr han fun z=>?_
  rw[ham z];constructor
  ·rintro⟨i,_,hi⟩;exact List.mem_of_getElem? hi
  ·intro hz;obtain⟨i,hi⟩:=List.getElem?_of_mem hz;exact⟨i,hall i (List.getElem?_eq_some_iff.1 hi).1,hi⟩
 |succ k ih=>
  intro seen acc s v hk hs hsb hal han ham g1 gB hr hlo h63 h12 hf;have hex:∃i,i<F.length∧i∉seen:=by
   refine Classical.byContradiction fun h=>?_
   have:=be (a:=Ac F.length) (b:=seen) List.nodup_range fun j hj=>by
    refine Classical.byContradiction fun q=>h ⟨j,Bd.1 hj,q⟩
   rw[List.length_range] at this;omega
  refine DW.loop (K1:=fun e s2=>e=.normal∧DW i7 E1 jT s2 (Got F lo)) ?_ (fun s1 h=>h.2) (fun e s1 hn h=>by rw[h.1] at hn;cases hn)
  rw[wz];refine DW.seq (K1:=fun e s1=>e=.normal∧∃i z,i<F.length∧i∉seen∧F[i]? =some z∧s1.h=s.h.put B (some (.mitr 1 F.length (seen++[i])))∧s1.eval (.t 63)=some (.it B)∧s1.eval (.t 65)=some (vB true)∧s1.eval (.t 12)=some v∧s1.defers=[]) ?_ ?_ (fun e s1 hn h=>by rw[h.1] at hn;cases hn)
  ·refine DW.region ?_
   refine Sg (b:=B) (m:=1) (n:=F.length) (seen:=seen) h63 gB g1 (by rw[jp]) hex fun i q u hi hni he=>?_
   rw[A6] at he;cases hz:F[i]? with
   |none=>rw[hz] at he;cases he
   |some z=>
    rw[hz,Option.map_some,sI,pI] at he;obtain⟨rfl,rfl⟩:=he;refine⟨rfl,aDY ?_⟩;simp-implicitDefEqProofs only[V,↓reduceIte,rA];exact⟨i,z,hi,hni,hz,rfl,h63,h12,hf⟩
  ·rintro s1 ⟨_,i,z,hi,hni,hz,eh,t63,t65,t12,d1⟩;have hzn:z∉acc:=fun q=>by
    obtain⟨j,hj,hjz⟩:=(ham z).1 q;have:i=j:=(List.getElem?_inj hi hF).1 (by rw[hz,hjz])
    exact hni (by rw[this];exact hj)
   have nx:(s.h.put B (some (Blk.mitr 1 F.length (seen++[i])))).next=s.h.next:=rfl;refine DW.run rfl ((Fv (lo:=lo) (B:=B) (z:=z) (acc:=acc) (v:=v) ?_ t63 t65 ?_ ?_ ?_ t12 d1).mono ?_)
   ·have:=be (a:=seen) (b:=Ac F.length) hs fun j hj=>Bd.2 (hsb j hj);rw[List.length_range] at this;omega
   ·rw[eh];refine .inr ⟨1,F.length,seen,F.map fun b=>(.string b,vB true),i,fZ,by rw[aS om];exact g1,by rw[jp],by rw[A6,hz];rfl⟩
   ·rw[eh];exact hr.to (by rw[nx];exact ib _) fun x x1 _=>by rw[aS om]
   ·rw[eh,nx];exact hlo
   rintro e s2 ⟨rfl,d2,u63,n2,o2,v2,u12,r2⟩;refine⟨rfl,ih (seen++[i]) (acc++[z]) s2 v2 (by rw[io];show k+(seen.length+1)=_;omega) ?_ ?_ (by rw[io,io,hal];rfl) ?_ ?_ ?_ ?_ r2 n2 u63 u12 d2⟩
   ·refine List.nodup_append.2 ⟨hs,Bi.2 ⟨Al,B9⟩,fun a ha b hb e=>?_⟩;rw[ig.1 hb] at e;subst e;exact hni ha
   ·intro j hj;rcases jb.1 hj with h|h
    ·exact hsb j h
    ·rw[ig.1 h];exact hi
   ·refine List.nodup_append.2 ⟨han,Bi.2 ⟨Al,B9⟩,fun a ha b hb e=>?_⟩;rw[ig.1 hb] at e;subst e;exact hzn ha
   ·intro y;rw[jb,ig,ham y];constructor
    ·rintro(⟨j,hj,hjy⟩|rfl)
     ·exact⟨j,Bj _ hj,hjy⟩
     ·exact⟨i,By _ (ig.2 rfl),hz⟩
    ·rintro⟨j,hj,hjy⟩;rcases jb.1 hj with h|h
     ·exact .inl ⟨j,h,hjy⟩
     ·rw[ig.1 h,hz] at hjy;exact .inr (Option.some.inj hjy).symm
   ·rw[o2 1 om,eh,aS om,g1]
   ·rw[o2 B hB,eh,fZ]
theorem aDT{f:ByteArray}{lo B:Nat}(hB:B<lo)(h1B:1<B){s:St}(g1:s.h.get 1=some (mapB [f]))(gB:s.h.get B=some (.mit1 1 false))(hlo:lo≤s.h.next)(h63:s.eval (.t 63)=some (.it B))(h12:s.eval (.t 12)=some (.val (.slice none 0 0)))(hf:s.defers=[]):DW i7 E1 jT s (Got [f] lo):=by
 refine DW.loop (K1:=fun e s2=>e=.normal∧DW i7 E1 jT s2 (Got [f] lo)) ?_ (fun s1 h=>h.2) (fun e s1 hn h=>by rw[h.1] at hn;cases hn)
 rw[wz];refine fM rfl (ay _ _ _ ?_);simp-implicitDefEqProofs only[Xx,V];refine Ux (b:=B) (m:=1) (k:=.string f) (u:=vB true) h63 gB g1 rfl ?_
 simp-implicitDefEqProofs only[V,↓reduceIte];have nx:(s.h.put B (some (Blk.mit1 1 true))).next=s.h.next:=rfl;refine DW.run rfl ((Fv (lo:=lo) (B:=B) (z:=f) (acc:=[]) (v:=.val (.slice none 0 0)) de ?_ ?_ ?_ RowC.nil ?_ ?_ ?_).mono ?_)
 ·simp-implicitDefEqProofs only[V,↓reduceIte,rA,h63]
 ·exact U36
 ·simp-implicitDefEqProofs only[V];exact .inl ⟨1,fZ,by rw[aS om];exact g1⟩
 ·exact U119
 ·exact U100
 ·exact U69
 rintro e s2 ⟨rfl,d2,u63,n2,o2,v2,u12,r2⟩;simp-implicitDefEqProofs only[V] at o2;refine⟨rfl,sb u63 (.inr (.inl ⟨1,(.string f,vB true),?_,?_⟩)) d2 n2 u12 r2 (Bi.2 ⟨Al,B9⟩) fun z=>Iff.rfl⟩
 ·rw[o2 B hB,if_pos rfl]
 ·rw[o2 1 om,if_neg om];exact g1
theorem nj(l:List ByteArray):(l.map fun b=>b.data.toList).map strL8=l.flatMap strA:=by
 induction l with
 |nil=>rfl
 |cons a r ih=>
  rw[jc,jc,A8,ih];rfl
theorem xN{acc L:List ByteArray}(hn:acc.Nodup)(hL:Srt L)(hm:∀z,z∈acc↔z∈L):(acc.map fun b=>b.data.toList).mergeSort (fun x y=>decide (x≤y))=L.map fun b=>b.data.toList:=by
 have hp:=List.mergeSort_perm (acc.map fun b:ByteArray=>b.data.toList) (fun x y=>decide (x≤y));have hs:=List.pairwise_mergeSort (le:=fun x y:List UInt8=>decide (x≤y)) (fun a b c h1 h2=>decide_eq_true (List.le_trans (of_decide_eq_true h1) (of_decide_eq_true h2))) (fun a b=>by
  rcases List.le_total a b with h|h
  ·simp[h]
  ·simp[h]) (acc.map fun b:ByteArray=>b.data.toList)
 have hmap:(acc.map fun b:ByteArray=>b.data.toList).Nodup:=List.Pairwise.map _ (fun a b h e=>h (Dq e)) hn;have hnd:((acc.map fun b:ByteArray=>b.data.toList).mergeSort (fun x y=>decide (x≤y))).Nodup:=hp.nodup_iff.2 hmap;have hE:((acc.map fun b:ByteArray=>b.data.toList).mergeSort (fun x y=>decide (x≤y))).map (fun l=>(⟨l.toArray⟩:ByteArray))=L:=by
  refine xM _ _ ?_ hL fun z=>?_
  ·refine List.Pairwise.map (R:=fun a b:List UInt8=>a≤b∧a≠b) _ (fun a b h=>?_) ?_
   ·rcases Mh (a:=⟨a.toArray⟩) (b:=⟨b.toArray⟩) h.1 with e|e
    ·exact e
    ·exact absurd (congrArg (fun x:ByteArray=>x.data.toList) e) h.2
   ·exact List.pairwise_and_iff.2 ⟨hs.imp fun h=>of_decide_eq_true h,hnd⟩
  ·rw[←hm z,Ao];constructor
   ·rintro⟨l,hl,rfl⟩;obtain⟨b,hb,rfl⟩:=Ao.1 (hp.mem_iff.1 hl);exact hb
   ·intro hz;exact⟨z.data.toList,hp.mem_iff.2 (Ao.2 ⟨z,hz,rfl⟩),rfl⟩
 rw[←hE,List.map_map];exact(List.map_id' _).symm
theorem Cc{acc L:List ByteArray}(hn:acc.Nodup)(hL:Srt L)(hm:∀z,z∈acc↔z∈L)(h0:0<acc.length)(h1:acc.length<2^28){h:AH}{b:Nat}(hb:h.get b=some (.cells (acc.flatMap strA) true)):
  CallFact i7 E1 38 [.own b 0 acc.length 1 none] h (.tup []) (h.put b (some (.cells (L.flatMap strA) true))):=by
 have:=Qd (P:=i7) (E:=E1) (g:=38) (h:=h) (b:=b) (k:=acc.length) (cap:=none) (ss:=acc.map fun b=>b.data.toList) ⟨_,Tz.lays190.f190,kr,kr⟩ (fun blk off cap ss w hH hb hl=>Any.slices_Sort_string Tz.lays190 blk off cap ss w hH hb hl) (jp _) h0 om (by rw[nj];exact hb)
 rw[xN hn hL hm,nj] at this;exact this
theorem Uu:KFact i7 E0.globs 38 [.val (.slice none 0 0)] (.tup []):=ve aQ (n:=200) kr
theorem Hc(h:AH):CallFact i7 E1 38 [.val (.slice none 0 0)] h (.tup []) h:=by
 refine KFact.flat (E:=E1) Uu rfl fun S f vals hv=>?_
 simp only[RelL,Rel] at hv⊢
 exact hv
def RDone(L:List ByteArray)(e:Ex)(s1:St):Prop:=(e=.normal∨e=.ret)∧∃r hc,leaveA E1 te s1=some (r,hc)∧toTree (AM.freeze deepest r hc) deepest r=some (nmV L)
theorem Ue{L acc:List ByteArray}{lo:Nat}{s:St}{v:AV}(h4:s.eval (.t 4)=some v)(hf:s.defers=[])(hr:RowC s.h lo L.length 1 v (L.flatMap strA)):RDone L .ret s:=by
 obtain⟨h1,f1,f2,f3,f4⟩:=bm hr;refine⟨.inr rfl,v,s.h,?_,?_⟩
 ·obtain⟨tm,h1,df,rd⟩:=s;have hf:df=[]:=hf;subst hf;have y3:resultsA E1.globs {tm:=tm,h:=h1,defers:=[],round:=rd} te.res=some [v]:=by
   simp-implicitDefEqProofs only[te,V,h4]
  simp only[leaveA,runDefers,y3];rfl
 ·rw[f1,f4,bU rfl];rfl
theorem Xy{L acc:List ByteArray}{lo:Nat}(hL:Srt L)(hn:acc.Nodup)(hm:∀z,z∈acc↔z∈L)(hA:acc.length<2^28){s:St}{v:AV}(h12:s.eval (.t 12)=some v)(hr:RowC s.h lo acc.length 1 v (acc.flatMap strA))(hlo:lo≤s.h.next)(hf:s.defers=[]):
  DW i7 E1 (.seq (.region [⟨some 72,none,.mv (.t 12)⟩,⟨some 73,none,.call 38 [.t 72]⟩]) (.seq (.region [⟨some 74,none,.mv (.t 12)⟩,⟨some 4,none,.mv (.t 74)⟩]) .ret)) s (RDone L):=by
 have hlen:acc.length=L.length:=by
  have h1:=be hn fun z hz=>(hm z).1 hz;have h2:=be hL.nodup fun z hz=>(hm z).2 hz;omega
 have key:∀h',CallFact i7 E1 38 [v] s.h (.tup []) h'→RowC h' lo L.length 1 v (L.flatMap strA)→DW i7 E1 (.seq (.region [⟨some 72,none,.mv (.t 12)⟩,⟨some 73,none,.call 38 [.t 72]⟩]) (.seq (.region [⟨some 74,none,.mv (.t 12)⟩,⟨some 4,none,.mv (.t 74)⟩]) .ret)) s (RDone L):=fun h' hc hr'=>by
  refine DW.seq (K1:=fun e s1=>e=.normal∧s1.h=h'∧s1.eval (.t 12)=some v∧s1.defers=[]) (DW.region ?_) ?_ (fun e s1 hn h=>by rw[h.1] at hn;cases hn)
  ·refine dy [⟨some 72,none,.mv (.t 12)⟩] [⟨some 73,none,.call 38 [.t 72]⟩] s ?_
   simp-implicitDefEqProofs only[V,h12];refine Sh (l:=[v]) (v:=.tup []) (h':=h') ?_ ?_ ?_
   ·exact U36
   ·simp-implicitDefEqProofs only[V];exact hc
   ·simp-implicitDefEqProofs only[dops,V,↓reduceIte,rA,h12,hf]
  ·rintro s1 ⟨_,e1,e2,e3⟩;refine DW.run rfl (ay _ _ _ ?_);simp-implicitDefEqProofs only[V,↓reduceIte,e2];refine Ue (acc:=acc) (lo:=lo) (v:=v) ?_ ?_ ?_
   ·exact U36
   ·exact U54
   ·simp-implicitDefEqProofs only[V,e1];exact hr'
 have hr0:=hr;rcases hr with⟨l1,l2,⟨h0,rfl⟩|⟨b,b1,b2,hk,rfl,gb⟩⟩
 ·have:L=[]:=At.1 om;subst this;exact key s.h (Hc s.h) RowC.nil
 ·refine key _ (Cc hn hL hm hk hA gb) ?_
  refine⟨cS (fun a v hv=>by rw[ig.1 hv];exact Leaf.val _) L,au aK L,.inr ⟨b,b1,b2,om,by rw[hlen],fZ⟩⟩
theorem Sb{L F:List ByteArray}(hL:Srt L)(hF:F.Nodup)(hm:∀z,z∈F↔z∈L)(hFl:F.length<2^28){s:St}(h5:s.eval (.t 5)=some (.mp 1))(g1:s.h.get 1=some (mapB F))(h2:2≤s.h.next)(h12:s.eval (.t 12)=some (.val (.slice none 0 0)))(hf:s.defers=[]):
  DW i7 E1 (.seq (.seq (.region [⟨some 62,none,.mv (.t 5)⟩,⟨some 63,none,.rangeMap (.t 62)⟩]) (.block 6 jT)) (.seq (.region [⟨some 72,none,.mv (.t 12)⟩,⟨some 73,none,.call 38 [.t 72]⟩]) (.seq (.region [⟨some 74,none,.mv (.t 12)⟩,⟨some 4,none,.mv (.t 74)⟩]) .ret))) s (RDone L):=by
 refine DW.seq (K1:=fun e s1=>e=.normal∧s1.defers=[]∧s.h.next+1≤s1.h.next∧∃(acc:List ByteArray) (v:AV),s1.eval (.t 12)=some v∧RowC s1.h (s.h.next+1) acc.length 1 v (acc.flatMap strA)∧acc.Nodup∧∀z,z∈acc↔z∈F) ?_ ?_ (fun e s1 hn h=>by rw[h.1] at hn;cases hn)
 ·refine fM rfl (ay _ _ _ ?_);simp-implicitDefEqProofs only[V,h5];refine Cx (b:=1) (es:=F.map fun b=>(.string b,vB true)) ?_ ?_ ?_
  ·exact U36
  ·exact U53
  simp-implicitDefEqProofs only[V];refine DW.block (K1:=Got F (s.h.next+1)) ?_ ?_
  ·have e1:∀k,((s.toH (s.h.alloc k)).h).get 1=some (mapB F):=fun k=>by
    show(s.h.alloc k).get 1=_;rw[aJ om];exact g1
   match F,hF,hFl,g1,e1 with
   | [],_,_,_,e1=>
    refine sb (B:=s.h.next) (acc:=[]) (v:=.val (.slice none 0 0)) ?_ (.inl ⟨1,?_,?_⟩) ?_ ?_ ?_ RowC.nil B9 (fun z=>Iff.rfl)
    ·exact U36
    ·exact U58
    ·exact e1 _
    ·exact U69
    ·exact U122
    ·exact U100
   | [f],_,_,_,e1=>
    refine aDT (f:=f) (B:=s.h.next) (jx _) om (e1 _) ?_ ?_ ?_ ?_ ?_
    ·exact U58
    ·exact U122
    ·exact U36
    ·exact U100
    ·exact U69
   |f::f2::r,hF,hFl,_,e1=>
    refine Ya hF (Nat.succ_le_succ (ic _)) hFl (B:=s.h.next) (jx _) om (f::f2::r).length [] [] _ (.val (.slice none 0 0)) rfl B9 (fun i hi=>by cases hi) rfl B9 (fun z=>⟨fun h=>(by cases h),fun⟨i,hi,_⟩=>(by cases hi)⟩) (e1 _) ?_ RowC.nil ?_ ?_ ?_ ?_
    ·simp-implicitDefEqProofs only[V,↓reduceIte];simp only[itOf,jc,il,jp]
    ·exact U122
    ·exact U36
    ·exact U100
    ·exact U69
  ·rintro e s1 ⟨rfl,d1,n1,H⟩;exact⟨rfl,d1,n1,H⟩
 ·rintro s1 ⟨_,d1,n1,acc,v,t12,hr,hn,ha⟩;have hal:=be hn fun z hz=>(ha z).1 hz;exact Xy (lo:=s.h.next+1) hL hn (fun z=>(ha z).trans (hm z)) om t12 hr n1 d1
theorem Hr(ok:EnvOk i7 E1)(H:Hn)(hH:HnT H)(x:ByteArray)(L:List ByteArray)(hL:ReachL H.cs.l x L):KFact i7 E0.globs 10 [.agg H.cells,vS x] (nmV L):=by
 have htot:=hH.tot;have hal:=gM H.cs.l;refine Yg (E:=E1) ok aKE ?_
 show DW i7 E1 te.body _ (RDone L);have main:∀s:St,s.eval (.t 0)=some (.agg H.cells)→s.eval (.t 1)=some (vS x)→s.h=.empty→s.defers=[]→DW i7 E1 f10 s (RDone L):=fun s h0 h1 hh hd=>by
  unfold f10;refine fM rfl (ay _ _ _ ?_);simp-implicitDefEqProofs only[V,h0,hh];refine fM rfl (ay _ _ _ ?_);simp-implicitDefEqProofs only[V];refine fM rfl (ay _ _ _ ?_);simp-implicitDefEqProofs only[V,↓reduceIte,o6];refine fM rfl (ay _ _ _ ?_);simp-implicitDefEqProofs only[V,↓reduceIte,rA,rB,WF,h1];refine fM rfl (ay _ _ _ ?_);simp-implicitDefEqProofs only[V];refine fM rfl (ay _ _ _ ?_);simp-implicitDefEqProofs only[V];refine(Sc (lo:=2) (ib 2) H hH x (2*(allN H.cs.l).length+1) [] [x] _ (.own 2 0 1 1 (some 1)) (by simp) (ib 1) ⟨B9,fun z hz=>(by cases hz),fun z hz=>.inl (ig.1 hz),fun y hy hq z hz=>?_⟩ ?_ ?_ ?_ ?_ ?_ ?_ ?_ ?_).mono ?_
  ·rcases hy with e|e
   ·exact absurd (ig.2 e) hq
   ·cases e
  ·refine⟨2,0,some 1,[vS x],rfl,ib 2,?_,?_,ib 1,rfl,.inl rfl⟩
   ·simp-implicitDefEqProofs only[V,rB];exact jx 2
   ·exact U36
  ·simp-implicitDefEqProofs only[V,rB];exact Ab 2
  ·exact U36
  ·exact U58
  ·exact U36
  ·exact U36
  ·exact U36
  ·exact U40
  rintro e s1 ⟨rfl,d1,m1,t5,F,g1,hF,hFm⟩;have hFl:F.length≤(allN H.cs.l).length:=be hF fun z hz=>((hFm z).1 hz).all;simp-implicitDefEqProofs only[V,WB];refine fM rfl (ay _ _ _ ?_);simp-implicitDefEqProofs only[V];refine Sb hL.srt hF (fun z=>(hFm z).trans (hL.mem z).symm) om ?_ ?_ ?_ ?_ ?_
  ·simp-implicitDefEqProofs only[V,↓reduceIte,rA,t5]
  ·exact U53
  ·exact U86
  ·exact U36
  ·exact U81
 exact main _ rfl rfl rfl rfl
end Go.Proofs.YtkhblipgiijoiaaGreatDoor
