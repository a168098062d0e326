/- TSet TOcc TVis TFree -/
import Derived.Test.YtkmoeaplhnabcaaGreatDoorU0
import Derived.Test.YtkmoeaplhnabcaaGreatDoorN1

set_option linter.all false
open Nat renaming reduceEqDiff → rA, reduceAdd → rB, reduceMul → rC
open Int renaming reduceEq → rD, reduceLT → rE, reduceLE → rF
open Bool renaming and_self → ip
open List renaming all_cons → j4, all_nil → j5, append_assoc → jh, append_nil → j6, cons_append → ja, drop_left → Bu, drop_zero → jj, filter_cons → Ay, filter_nil → Bs, flatMap_append → A8, length_append → io, length_cons → im, length_map → ji, mem_cons → i8, mem_cons_of_mem → j0, mem_cons_self → il, mem_nil_iff → jb, mem_of_mem_drop → A4, mem_singleton → ig, nil_append → iz, take_succ_cons → jm, take_zero → jv
open Nat renaming ble_eq → iu, blt_eq → j8, le_refl → i7, le_succ → jw, lt_succ_self → js, zero_le → ir
open Option renaming bind_some → j9
namespace Go.Proofs.YtkmoeaplhnabcaaGreatDoor
open Go Go.AM
set_option maxHeartbeats 4000000
variable [KR]
theorem dU{g:Nat}{l:List AV}{h:AH}{a:AFun}(P:AV→AH→Prop)(hs:freshF g=true)(hf:funOf Tryz.prog g=some a)(hm:∀h,mapTree h l=none)
  (H:∀s:St,(∀i v,(enterTm l 0 .nil).get i=some v→s.eval (.t i)=some v)→s.h=h→s.defers=[]→s.round=none→wp E1 a.body s fun e s=>(e=.normal∨e=.ret)∧s.defers=[]∧∃r,resultsA E1.globs s a.res=some r∧P (oneOrTup r) s.h):
  ∃v h',RunCall E1 (.f g) l h v h'∧P v h':=by
 obtain⟨v,h',hp,hr⟩:=dT P hf fun s h1 h2 h3 h4=>ag _ _ _ (H s h1 h2 h3 h4);refine⟨v,h',hr.mono fun n p=>?_,hp⟩;simp only[aZ,cD,bI hs,hm,p]
structure SetAt (h:AH) (q m:Nat) (F:List ByteArray):Prop where
 lq:q<h.next
 lm:m<h.next
 ne:q≠m
 gq:h.get q=some (.cells [.mp m] true)
 gm:h.get m=some (mapB F)
theorem SetAt.to{h h':AH}{q m:Nat}{F:List ByteArray}(k:SetAt h q m F)(hn:h.next≤h'.next)(g:∀x,x=q∨x=m→h'.get x=h.get x):SetAt h' q m F:=
 ⟨by have:=k.lq;omega,by have:=k.lm;omega,k.ne,by rw[g q (.inl rfl),k.gq],by rw[g m (.inr rfl),k.gm]⟩
theorem xl{h:AH}{q:Nat}:RunCall E1 (.f 76) [.ptr q 0,.val (.slice none 0 0)] h (.tup []) h:=by
 obtain⟨v,h',hr,rfl,rfl⟩:=dU (g:=76) (l:=[.ptr q 0,.val (.slice none 0 0)]) (h:=h) (fun v h'=>v=.tup []∧h'=h) kr zk (fun h=>ae bQ) fun s hs hh hd hrd=>by
  have h0:=hs 0 _ rfl;have h1:=hs 1 _ rfl;have hl:lenV (.val (.slice none 0 0))=some (vI 0):=rfl;have z:decide ((0:Int)<0)=false:=rfl;simp-implicitDefEqProofs only[uQ,f76,V,↓reduceIte,h1,hl];apply aC (rfl:pY=.loop fc);simp-implicitDefEqProofs only[fc,V,↓reduceIte,rA,reduceCtorEq,rE,WF,hh,hd]
  first|exact⟨_,rfl,rfl,hh⟩|exact⟨_,rfl,rfl⟩|exact⟨_,rfl,hh⟩
 exact hr
theorem oU{h:AH}{q m b:Nat}{F:List ByteArray}{x:ByteArray}(k:SetAt h q m F)(gb:h.get b=some (.cells [vS x] true)):∃h',RunCall E1 (.f 76) [.ptr q 0,.own b 0 1 1 (some 1)] h (.tup []) h'∧h'.next=h.next∧(∀y,h'.get y=if y=m then some (mapB (addS x F)) else h.get y):=by
 obtain⟨v,h',hr,rfl,h1,h2⟩:=dU (g:=76) (l:=[.ptr q 0,.own b 0 1 1 (some 1)]) (h:=h) (fun v h'=>v=.tup []∧h'.next=h.next∧(∀y,h'.get y=if y=m then some (mapB (addS x F)) else h.get y)) kr zk (fun h=>ae bQ) fun s hs hh hd hrd=>by
  have h0:=hs 0 _ rfl;have h1:=hs 1 _ rfl;have gq:=k.gq;have gm:=k.gm;have hl:lenV (.own b 0 1 1 (some 1))=some (vI 1):=rfl;have i0:idxAddrSV 1 (.own b 0 1 1 (some 1)) 0=some (.ptr b 0):=rfl;have w1:IntKind.i64.wrap ((0:Int)+1)=1:=rfl;simp-implicitDefEqProofs only[uQ,f76,V,↓reduceIte,h1,hl];apply aC (rfl:pY=.loop fc);simp-implicitDefEqProofs only[fc,V,↓reduceIte,rA,reduceCtorEq,rE,h0,hh,i0,gb,gq,gm,Ii,vP,xy,w1];apply aC (rfl:pY=.loop fc);simp-implicitDefEqProofs only[fc,V,↓reduceIte,rA,reduceCtorEq,rE,WF,hd];exact⟨_,rfl,rfl,fun y=>trivial⟩
 exact⟨h',hr,h1,h2⟩
theorem Ja{b:Nat}:(AV.mp b).cells=some [.mp b]:=rfl
theorem Em{b o:Nat}:(AV.ptr b o).cells=some [.ptr b o]:=rfl
theorem fN{h:AH}:∃h',RunCall E1 (.f 73) [.val (.slice none 0 0)] h (.ptr (h.next+1) 0) h'∧h'.next=h.next+2∧SetAt h' (h.next+1) h.next []∧(∀x,x<h.next→h'.get x=h.get x)∧(NoTag h→NoTag h'):=by
 obtain⟨v,h',hr,rfl,h1,h2,h3,h4⟩:=d6 (g:=73) (l:=[.val (.slice none 0 0)]) (h:=h) (fun v h'=>v=.ptr (h.next+1) 0∧h'.next=h.next+2∧SetAt h' (h.next+1) h.next []∧(∀x,x<h.next→h'.get x=h.get x)∧(NoTag h→NoTag h')) kr Lz fun s hs hh hd hrd=>by
  have h0:=hs 0 _ rfl;simp-implicitDefEqProofs only[zm,f73,V,↓reduceIte,rA,reduceCtorEq,WF,h0,hh,hd,vU,Ja,aG (fun h=>xl (h:=h))];refine⟨_,rfl,rfl,⟨js _,by show h.next<h.next+2;omega,om,?_,?_⟩,fun x hx=>?_,fun k b x t n e=>?_⟩
  ·exact aO
  ·rw[aB (js _)];exact aO
  ·rw[if_neg om,if_neg om]
  ·refine(NoTag.alloc (h:=h.alloc (.map [])) (fun b x t n e=>?_)) b x t n e;rw[AH.get_alloc] at e;split at e
   ·cases e
   ·exact k b x t n e
 exact⟨h',hr,h1,h2,h3,h4⟩
theorem nh{s:St}{i b n:Nat}{cs:List AV}{rw':Bool}(he:s.eval (.t i)=some (.ptr b 0))(hg:s.h.get b=some (.cells cs rw'))(hl:cs.length=n):runOp E1 noCall s (.load (some n) (.t i))=some (.agg cs,s):=by
 have h1:Nat.ble 0 cs.length=true:=iu.mpr (ir _);simp only[runOp,he,cellsFrom,hg,h1,cond_true,jj,j9,bf hl]
theorem iJ{s:St}{i:Nat}{v:AV}(he:s.eval (.t i)=some v):runOp E1 noCall s (.mv (.t i))=some (v,s):=by
 simp only[runOp,he,j9]
theorem od:∀l:List ByteArray,eqL (l.flatMap strA) (l.flatMap strA)=true
 | []=>rfl
 |a::r=>by
  have h1:eqA (vS a) (vS a)=true:=by simp only[eqA,eqV];exact bA a
  simp only[List.flatMap_cons,strA,ja,iz,eqL,h1,Bool.true_and];exact od r
theorem bR(l:List ByteArray):∀c∈l.flatMap strA,Leaf c:=fI (fun a v hv=>by rw[ig.1 hv];exact Leaf.val _) l
theorem cE(l:List ByteArray):(l.flatMap strA).length=l.length*1:=bG aI l
theorem nZ{h:AH}(k:NoTag h){l:List Nat}:NoTag (restrictH h l):=fun b x t n e=>by
 by_cases m:b∈l
 ·rw[aV m] at e;exact k b x t n e
 ·rw[cf m] at e;cases e
theorem sf{s:St}{Q:AM.Ex→St→Prop}{e k:Ex}{i B T lo:Nat}{v F:AV}{hid:List ByteArray}(r:RowX s.h lo hid.length 1 v (hid.flatMap strA))(hsz:hid.length+e.pm.l.length<2^28)(hi:i<2^60)
  (h1:s.eval (.t 1)=some v) (h2:s.eval (.t 2)=some F) (h3:s.eval (.t 3)=some (.ptr B 0)) (h6:s.eval (.t 6)=some (vI (i:Nat))) (h7:s.eval (.t 7)=some (.ptr T 0))
  (gB:s.h.get B=some (.cells e.cells true)) (gT:s.h.get T=some (.cells k.cells true)) (hB:B<s.h.next) (hT:T<s.h.next) (nt:NoTag s.h) (hF:∀h':AH,s.h.next≤h'.next→(∀x,x<s.h.next→h'.get x=s.h.get x)→niceT h' (some F)=true)
  (post:∀s' v',(∀j,j<30→s'.eval (.t j)=s.eval (.t j))→s'.eval (.t 30)=some (.agg k.cells)→s'.eval (.t 36)=some v'→s'.eval (.t 37)=some F→RowX s'.h s.h.next (hid++insS e i).length 1 v' ((hid++insS e i).flatMap strA)→s.h.next≤s'.h.next→(∀x,x<s.h.next→s'.h.get x=s.h.get x)→NoTag s'.h→s'.defers=s.defers→
   AM.wpOps E1 [⟨some 38,none,.call 120 [.t 30,.t 36,.t 37]⟩] s' (Q .normal)):Run E1 wI s Q:=by
 have hins:(insS e i).length≤e.pm.l.length+1:=by
  rw[insS];cases decide (e.op=7)&&decide (0<i)
  ·cases decide (e.op=6)
   ·exact ir _
   ·rw[cond_false,cond_true,pnm,ji];omega
  ·rw[cond_true];simp
 obtain⟨iv,ic,ie,ii⟩:=ly e i om hi;refine bT (ops:=kg) (pre:=kg.take 8) (d:=⟨⟨some 38,none,.call 120 [.t 30,.t 36,.t 37]⟩,[30,36,37],[]⟩) rfl ?_
 simp-implicitDefEqProofs only[kg,jm,jv];refine eE (b:=T) h7 hT (bt hT gT (by rw[k.ids0];rfl)) (nh h7 gT k.len) (fun F lo hF=>rfl) fun rec0 q0 f0=>?_
 refine bH (v:=v) de rfl ?_ (iJ U38) (by simp) ?_
 ·exact U49
 have rr:RowX (restrictH s.h (ids v)) lo hid.length 1 v (hid.flatMap strA):=r.toB (i7 _) fun x hx=>aV hx;obtain⟨cv,ch,cr,crow,cn,cold,ctag⟩:=wM rr om;have cn:s.h.next≤ch.next:=cn;have crow:RowX ch s.h.next hid.length 1 cv (hid.flatMap strA):=crow;refine mi (r:=r) (v:=cv) (h1:=ch) (cs:=hid.flatMap strA) ?_ ?_ nt (od hid) cr cn (fun x hx=>by rw[cold x (r.ids x hx).2.1];exact aV hx) (fun G lo hi hG=>?_) (by simp) fun G1 h2' hG1 n2 new2 old2 tag2=>?_
 ·exact U38
 ·have e31:((s.put (some 30) (AV.agg k.cells)).put (some 31) v).eval (.t 31)=some v:=by simp-implicitDefEqProofs only[V,↓reduceIte]
  exact vd e31
 ·refine dQ (fun x hx r hr=>?_) (by simp)
  simp only[iz,ja,i8,jb,or_false] at hr;rcases hr with rfl|rfl
  ·have:=q0.1;rw[this.1,this.2];exact⟨fun h=>(by cases h),om⟩
  ·refine⟨fun h=>(by cases h),fun h=>?_⟩
   have h1:s.h.next≤x:=h.1;have h2:x<s.h.next:=h.2;omega
 have new2:∀x,s.h.next≤x→x<ch.next→h2'.get x=ch.get x:=new2;have old2:∀x,x<s.h.next→h2'.get x=s.h.get x:=old2;have row2:RowX h2' s.h.next hid.length 1 cv (hid.flatMap strA):=crow.to om fun x x1 x2=>new2 x x1 x2;have mild0:∀x,x<s.h.next→x∉rec0.D∧¬(rec0.lo≤x∧x<rec0.hi):=fun x hx=>by
  have:=q0.1;rw[this.1,this.2];exact⟨fun h=>(by cases h),om⟩
 refine eE (b:=B) (o:=0) (v:=.agg e.cells) ?_ ?_ ?_ ?_ (fun F lo hF=>?_) fun rec3 q3 f3=>?_
 ·exact U48
 ·show B<h2'.next;omega
 ·exact bt (h:=h2') om (by rw[old2 B hB,gB]) (by rw[e.ids0];rfl)
 ·exact nh (b:=B) U48 (by simp-implicitDefEqProofs only[V];rw[old2 B hB,gB]) e.len
 ·refine dQ (fun x hx r hr=>?_) (by simp)
  rw[hF x hx];simp only[iz,ja,i8,jb,or_false] at hr;rcases hr with rfl|rfl|rfl
  ·exact mild0 B hB
  ·refine⟨fun h=>(by cases h),fun h=>?_⟩
   have h1:s.h.next≤B:=h.1;have h2:B<s.h.next:=h.2;omega
  ·refine⟨fun h=>(by cases h),fun h=>?_⟩
   have h1:s.h.next≤B:=h.1;omega
 refine bH (v:=vI (i:Nat)) de rfl ?_ (iJ U69) (by simp) ?_
 ·simp-implicitDefEqProofs only[V,↓reduceIte,rA,h6,j4,j5];rfl
 refine vD (v:=iv) (l:=[.agg e.cells,vI (i:Nat)]) de ?_ ?_ ic (by simp) ?_
 ·simp-implicitDefEqProofs only[V,↓reduceIte,rA,j4,j5];simp only[ak (v:=.agg e.cells) (by show idsL e.cells=[];exact e.ids0),ak (v:=vI (i:Nat)) rfl,ip]
 ·exact U36
 refine fK (k:=hid.length) (m:=(insS e i).length) (lo:=s.h.next) (v:=cv) (x:=iv) (cs:=hid.flatMap strA) (new:=(insS e i).flatMap strA) ?_ ?_ (fun h _=>ie h) (cE _) (bR _) (aS om de) (fun y hy=>by rw[ii] at hy;cases hy) ?_ ?_ (by simp) (by simp) (fun j hj=>by
   simp only[i8,jb,or_false] at hj;rcases hj with rfl|rfl
   ·exact .inl rfl
   ·exact .inr (.inl rfl)) rfl rfl (fun F D lo hi hF hD=>?_) fun rec6 v6 h6' r6 n6 o6 t6 m6=>?_
 ·exact row2
 ·show s.h.next≤h2'.next;omega
 ·exact U36
 ·exact U36
 ·refine cz (done:=[rec0]) (n:=s.h.next) (fun x hx=>by rw[ig.1 hx];exact q0) (fun y hy=>?_) (fun y hy=>(row2.ids y (hD y hy)).1) (by simp)
  rcases hF y hy with h|h
  ·exact(row2.ids y h).1
  ·rw[ii] at h;cases h
 have n6:h2'.next≤h6'.next:=n6;have o6':∀y,y<s.h.next→h6'.get y=s.h.get y:=fun y hy=>by
  rw[o6 y (by show y<h2'.next;omega) (fun h=>by have:=(row2.ids y h).1;omega)]
  exact old2 y hy
 refine bH (v:=F) de rfl ?_ (iJ U52) (by simp) ?_
 ·exact U50
 refine bO ?_
 refine post _ v6 (fun j hj=>?_) ?_ ?_ ?_ ?_ ?_ ?_ ?_ rfl
 ·have:∀n,30≤n→((.t j:Opd)=.t n)=False:=fun n hn=>by simp;omega
  have q:∀n,30≤n→(j=n)=False:=fun n hn=>by simp;omega
  simp-implicitDefEqProofs only[V,↓reduceIte,q 30 om,q 31 om,q 32 om,q 33 om,q 34 om,q 35 om,q 36 om,q 37 om]
 ·exact U36
 ·exact U36
 ·exact U36
 ·rw[io,A8];exact r6
 ·show s.h.next≤h6'.next;omega
 ·exact o6'
 ·exact t6 (tag2 (ctag (nZ nt)))
theorem Gu{s:St}{i b o n:Nat}{cs X Y:List AV}{rw':Bool}(he:s.eval (.t i)=some (.ptr b o))(hg:s.h.get b=some (.cells (X++(cs++Y)) rw'))(hX:X.length=o)(hl:cs.length=n):runOp E1 noCall s (.load (some n) (.t i))=some (.agg cs,s):=by
 have h1:Nat.ble o (X++(cs++Y)).length=true:=iu.mpr (by rw[io];omega)
 have h2:(X++(cs++Y)).drop o=cs++Y:=by rw[←hX,Bu]
 simp only[runOp,he,cellsFrom,hg,h1,cond_true,h2,j9,bq hl]
theorem yw{s:St}{i b o:Nat}{c:AV}{X Y:List AV}{rw':Bool}(he:s.eval (.t i)=some (.ptr b o))(hg:s.h.get b=some (.cells (X++c::Y) rw'))(hX:X.length=o):runOp E1 noCall s (.load none (.t i))=some (c,s):=by
 have h1:Nat.ble o (X++c::Y).length=true:=iu.mpr (by rw[io];omega)
 have h2:(X++c::Y).drop o=c::Y:=by rw[←hX,Bu]
 simp only[runOp,he,cellsFrom,hg,h1,cond_true,h2,j9];rfl
theorem zZ{s:St}{i b o k:Nat}(he:s.eval (.t i)=some (.ptr b o)):runOp E1 noCall s (.fieldAddr k (.t i))=some (.ptr b (o+k),s):=by
 simp only[runOp,he]
theorem se{s:St}{Q:AM.Ex→St→Prop}{k:Al}{T lo:Nat}{v F:AV}{hid:List ByteArray}(r:RowX s.h lo hid.length 1 v (hid.flatMap strA))(hsz:hid.length+k.ns.l.length<2^28)
  (h1:s.eval (.t 1)=some v) (h2:s.eval (.t 2)=some F) (h9:s.eval (.t 9)=some (.ptr T 0))
  (gT:s.h.get T=some (.cells k.cells true)) (hT:T<s.h.next) (nt:NoTag s.h) (hF:∀h':AH,s.h.next≤h'.next→(∀x,x<s.h.next→h'.get x=s.h.get x)→niceT h' (some F)=true)
  (post:∀s' v',(∀j,j<47→s'.eval (.t j)=s.eval (.t j))→s'.eval (.t 48)=some (.agg k.b.cells)→s'.eval (.t 53)=some v'→s'.eval (.t 54)=some F→RowX s'.h s.h.next (hid++k.ns.l).length 1 v' ((hid++k.ns.l).flatMap strA)→s.h.next≤s'.h.next→(∀x,x<s.h.next→s'.h.get x=s.h.get x)→NoTag s'.h→s'.defers=s.defers→
   AM.wpOps E1 [⟨some 55,none,.call 120 [.t 48,.t 53,.t 54]⟩] s' (Q .normal)):Run E1 wH s Q:=by
 have kid:below s.h.next (idsL k.cells)=true:=by
  have:idsL k.cells=[]:=by rw[k.cells_eq];simp only[idsL,AM.ids,Vl.ids,k.b.ids0,j6]
  rw[this];rfl
 have kid':∀n,below n (idsL k.cells)=true:=fun n=>by
  have:idsL k.cells=[]:=by rw[k.cells_eq];simp only[idsL,AM.ids,Vl.ids,k.b.ids0,j6]
  rw[this];rfl
 have lTT:∀n,takeN none (k.ns.A strA::n)=some (k.ns.A strA):=fun n=>rfl;refine bT (ops:=kf) (pre:=kf.take 8) (d:=⟨⟨some 55,none,.call 120 [.t 48,.t 53,.t 54]⟩,[48,53,54],[]⟩) rfl ?_
 simp-implicitDefEqProofs only[kf,jm,jv];refine bH (v:=.ptr T 2) de rfl ?_ (by rw[zZ h9]) (by simp) ?_
 ·simp-implicitDefEqProofs only[V,h9,j4,j5];rw[bt hT gT kid]
 refine eE (b:=T) (o:=2) (v:=.agg k.b.cells) ?_ hT (bt hT gT kid) ?_ (fun F lo hF=>?_) fun rec0 q0 f0=>?_
 ·exact U36
 ·exact Gu (b:=T) (o:=2) (X:=[vS k.con,k.ns.A strA]) (Y:=[]) U36 (by simp-implicitDefEqProofs only[V];rw[gT,k.cells_eq,j6];rfl) rfl k.b.len
 ·rfl
 refine bH (v:=v) de rfl ?_ (iJ U38) (by simp) ?_
 ·exact U49
 have rr:RowX (restrictH s.h (ids v)) lo hid.length 1 v (hid.flatMap strA):=r.toB (i7 _) fun x hx=>aV hx;obtain⟨cv,ch,cr,crow,cn,cold,ctag⟩:=wM rr om;have cn:s.h.next≤ch.next:=cn;have crow:RowX ch s.h.next hid.length 1 cv (hid.flatMap strA):=crow;have mild0:∀x,x<s.h.next→x∉rec0.D∧¬(rec0.lo≤x∧x<rec0.hi):=fun x hx=>by
  have:=q0.1;rw[this.1,this.2];exact⟨fun h=>(by cases h),om⟩
 refine mi (r:=r) (v:=cv) (h1:=ch) (cs:=hid.flatMap strA) ?_ ?_ nt (od hid) cr cn (fun x hx=>by rw[cold x (r.ids x hx).2.1];exact aV hx) (fun G lo hi hG=>?_) (by simp) fun G1 h2' hG1 n2 new2 old2 tag2=>?_
 ·exact U38
 ·have e31:(((s.put (some 47) (AV.ptr T 2)).put (some 48) (.agg k.b.cells)).put (some 49) v).eval (.t 49)=some v:=by simp-implicitDefEqProofs only[V,↓reduceIte]
  exact vd e31
 ·refine dQ (fun x hx r' hr=>?_) (by simp)
  have hx':=(r.ids x (hG x hx)).2.1;simp only[iz,ja,i8,jb,or_false] at hr;rcases hr with rfl|rfl|rfl
  ·refine⟨fun h=>(by cases h),fun h=>?_⟩
   have h1:s.h.next≤x:=h.1;omega
  ·exact mild0 x hx'
  ·refine⟨fun h=>(by cases h),fun h=>?_⟩
   have h1:s.h.next≤x:=h.1;omega
 have new2:∀x,s.h.next≤x→x<ch.next→h2'.get x=ch.get x:=new2;have old2:∀x,x<s.h.next→h2'.get x=s.h.get x:=old2;have row2:RowX h2' s.h.next hid.length 1 cv (hid.flatMap strA):=crow.to om fun x x1 x2=>new2 x x1 x2;have gT2:h2'.get T=some (.cells k.cells true):=by rw[old2 T hT,gT]
 refine bH (v:=.ptr T 1) de rfl ?_ (by rw[zZ (b:=T) (o:=0)];simp-implicitDefEqProofs only[V,↓reduceIte,rA,h9]) (by simp) ?_
 ·simp-implicitDefEqProofs only[V,↓reduceIte,rA,h9,j4,j5];rw[bt (h:=h2') om gT2 (kid' _)]
 refine eE (b:=T) (o:=1) (v:=k.ns.A strA) ?_ ?_ ?_ ?_ (fun F lo hF=>?_) fun rec3 q3 f3=>?_
 ·exact U36
 ·show T<h2'.next;omega
 ·exact bt (h:=h2') om gT2 (kid' _)
 ·exact yw (b:=T) (o:=1) (X:=[vS k.con]) (Y:=k.b.cells) U36 (by simp-implicitDefEqProofs only[V];rw[gT2,k.cells_eq];rfl) rfl
 ·refine dQ (fun x hx r hr=>?_) (by simp)
  rw[hF x hx];simp only[iz,ja,i8,jb,or_false] at hr;rcases hr with rfl|rfl|rfl|rfl|rfl
  ·refine⟨fun h=>(by cases h),fun h=>?_⟩
   have h1:s.h.next≤T:=h.1;omega
  ·exact mild0 T hT
  ·refine⟨fun h=>(by cases h),fun h=>?_⟩
   have h1:s.h.next≤T:=h.1;omega
  ·refine⟨fun h=>(by cases h),fun h=>?_⟩
   have h1:s.h.next≤T:=h.1;omega
  ·refine⟨fun h=>(by cases h),fun h=>?_⟩
   have h1:h2'.next≤T:=h.1;omega
 refine fK (k:=hid.length) (m:=k.ns.l.length) (lo:=s.h.next) (v:=cv) (x:=k.ns.A strA) (cs:=hid.flatMap strA) (new:=k.ns.l.flatMap strA) ?_ ?_ (fun h _=>bW aI) (cE _) (bR _) (aS om de) (fun y hy=>by rw[Vl.ids] at hy;cases hy) ?_ ?_ (by simp) (by simp) (fun j hj=>by
   simp only[i8,jb,or_false] at hj;rcases hj with rfl|rfl
   ·exact .inl rfl
   ·exact .inr (.inl rfl)) rfl rfl (fun F D lo hi hF hD=>?_) fun rec6 v6 h6' r6 n6 o6 t6 m6=>?_
 ·exact row2
 ·show s.h.next≤h2'.next;omega
 ·exact U36
 ·exact U36
 ·refine cz (done:=[⟨[],[],s.h.next,s.h.next⟩,rec0]) (n:=s.h.next) (fun x hx=>?_) (fun y hy=>?_) (fun y hy=>(row2.ids y (hD y hy)).1) (by simp)
  ·simp only[i8,jb,or_false] at hx;rcases hx with rfl|rfl
   ·exact⟨⟨rfl,rfl⟩,rfl⟩
   ·exact q0
  ·rcases hF y hy with h|h
   ·exact(row2.ids y h).1
   ·rw[Vl.ids] at h;cases h
 have n6:h2'.next≤h6'.next:=n6;have o6':∀y,y<s.h.next→h6'.get y=s.h.get y:=fun y hy=>by
  rw[o6 y (by show y<h2'.next;omega) (fun h=>by have:=(row2.ids y h).1;omega)]
  exact old2 y hy
 refine bH (v:=F) de rfl ?_ (iJ U52) (by simp) ?_
 ·exact U50
 refine bO ?_
 refine post _ v6 (fun j hj=>?_) ?_ ?_ ?_ ?_ ?_ ?_ ?_ rfl
 ·have q:∀n,47≤n→(j=n)=False:=fun n hn=>by simp;omega
  simp-implicitDefEqProofs only[V,↓reduceIte,q 47 om,q 48 om,q 49 om,q 50 om,q 51 om,q 52 om,q 53 om,q 54 om]
 ·exact U36
 ·exact U36
 ·exact U36
 ·rw[io,A8];exact r6
 ·show s.h.next≤h6'.next;omega
 ·exact o6'
 ·exact t6 (tag2 (ctag (nZ nt)))
theorem d9{α:Type}{f:α→List AV}{l:List α}{h:AH}{lo es:Nat}{v:AV}(r:RowX h lo l.length es v (l.flatMap f)):∃nl cap,rowX v l.length (l.flatMap f)=Vl.A f ⟨l,nl,cap⟩:=by
 rcases r with⟨_,_,⟨h1,rfl⟩|⟨b,c,_,_,rfl,_⟩⟩|⟨_,_,b,_,_,rfl,_⟩
 ·have:l=[]:=List.eq_nil_of_length_eq_zero h1;subst this;exact⟨nilK,none,rfl⟩
 ·exact⟨none,_,rfl⟩
 ·exact⟨none,_,rfl⟩
theorem nN{k:Nat}{v:AV}{cs:List AV}:Leaf (rowX v k cs):=by
 rw[rowX.eq_def];split
 ·exact Leaf.imm _ _ _
 ·exact Leaf.val _
theorem uK{h:AH}{lo:Nat}{v:AV}{l:List ByteArray}{b:ByteArray}(r:RowX h lo l.length 1 v (l.flatMap strA))(hN:l.length<2^61):RunCall E1 (.f 48) [v,vS b] h (vI (fndI b l)) h:=by
 obtain⟨h1,f1,f2,f3,f4⟩:=bN r;obtain⟨nl,cap,e⟩:=d9 r;refine dE (xs:=[]) (ys:=[vS b]) kr (fun v hv=>by cases hv) (iM (Tree.val _)) nN.tree f1 f4 rfl fun h=>?_
 rw[e];exact ef ⟨l,nl,cap⟩ b hN h
theorem l8{b:ByteArray}:∀{l:List ByteArray},fnd b l=none↔memS b l=false
 | []=>by simp[fnd,memS]
 |a::r=>by
  rw[fnd,memS];cases strEq b a with
  |true=>simp
  |false=>simp only[cond_false,Option.map_eq_none_iff,Bool.false_or];exact l8
theorem cB(b:ByteArray)(l:List ByteArray):decide (fndI b l<0)= !memS b l:=by
 rw[fndI];cases h:fnd b l with
 |none=>rw[l8.1 h];rfl
 |some i=>
  cases hm:memS b l with
  |false=>rw[l8.2 hm] at h;cases h
  |true=>simp only[Bool.not_true,decide_eq_false_iff_not];omega
theorem dr(b:ByteArray)(l:List ByteArray):decide (fndI b l≥0)=memS b l:=by
 have h:=cB b l;cases hm:memS b l with
 |true=>rw[hm] at h;have:=of_decide_eq_false h;exact decide_eq_true om
 |false=>rw[hm] at h;have:=of_decide_eq_true h;exact decide_eq_false om
theorem ay{x:ByteArray}:∀{l:List ByteArray},memS x l=true↔x∈l
 | []=>by simp[memS]
 |a::r=>by
  rw[memS,Bool.or_eq_true,i8,ay];constructor
  ·rintro(h|h)
   ·exact .inl (dJ h)
   ·exact .inr h
  ·rintro(h|h)
   ·subst h;exact .inl (bA _)
   ·exact .inr h
mutual
def occ:Ex→List ByteArray→List Ex
 |.mk o s n ks nl cap pm al anl acap ty,hid=>(bif (decide (o=3)||decide (o=5))&& !memS s hid then [.mk o s n ks nl cap pm al anl acap ty] else [])++(occK (fun i=>bif decide (o=7)&&decide (0<i) then [s] else bif decide (o=6) then pnm pm.l else []) ks 0 hid++occA al hid)
def occK(f:Nat→List ByteArray):List Ex→Nat→List ByteArray→List Ex
 | [],_,_=>[]
 |k::r,i,hid=>occ k (hid++f i)++occK f r (i+1) hid
def occA:List Al→List ByteArray→List Ex
 | [],_=>[]
 |.mk _ ns b::r,hid=>occ b (hid++ns.l)++occA r hid
end
def Ex.own(e:Ex)(hid:List ByteArray):List Ex:=bif (decide (e.op=3)||decide (e.op=5))&& !memS e.nm hid then [e] else []
theorem lg(e:Ex)(hid:List ByteArray):occ e hid=e.own hid++(occK (insS e) e.ks 0 hid++occA e.al hid):=by
 cases e;rw[occ];rfl
mutual
def Ex.sz:Ex→Nat
 |.mk _ _ _ ks _ _ pm al _ _ _=>1+pm.l.length+Ex.szL ks+Ex.szA al
def Ex.szL:List Ex→Nat
 | []=>0
 |k::r=>k.sz+Ex.szL r
def Ex.szA:List Al→Nat
 | []=>0
 |.mk _ ns b::r=>1+ns.l.length+b.sz+Ex.szA r
end
theorem Ex.sz_eq(e:Ex):e.sz=1+e.pm.l.length+Ex.szL e.ks+Ex.szA e.al:=by
 cases e;rw[Ex.sz];rfl
theorem dc(a:Al)(r:List Al):Ex.szA (a::r)=1+a.ns.l.length+a.b.sz+Ex.szA r:=by
 cases a;rw[Ex.szA];rfl
theorem nY(a:Al)(r:List Al)(hid:List ByteArray):occA (a::r) hid=occ a.b (hid++a.ns.l)++occA r hid:=by
 cases a;rw[occA];rfl
theorem Gc(e:Ex)(hid:List ByteArray):(e.own hid).length≤1:=by
 rw[Ex.own];cases (decide (e.op=3)||decide (e.op=5))&& !memS e.nm hid<;>simp
mutual
theorem bo:∀(e:Ex) (hid:List ByteArray),(occ e hid).length≤e.sz
 |.mk o s n ks nl cap pm al anl acap ty,hid=>by
  have h1:=Gc (.mk o s n ks nl cap pm al anl acap ty) hid;have h2:=gK (insS (.mk o s n ks nl cap pm al anl acap ty)) ks 0 hid;have h3:=rN al hid;rw[lg,io,io,Ex.sz_eq];simp only[Ex.ks,Ex.al,Ex.pm] at h2 h3⊢
  omega
theorem gK:∀(f:Nat→List ByteArray) (l:List Ex) (i:Nat) (hid:List ByteArray),(occK f l i hid).length≤Ex.szL l
 |f,[],_,_=>by simp[occK]
 |f,k::r,i,hid=>by
  have h1:=bo k (hid++f i);have h2:=gK f r (i+1) hid;rw[occK,io,Ex.szL];omega
theorem rN:∀(l:List Al) (hid:List ByteArray),(occA l hid).length≤Ex.szA l
 | [],_=>by simp[occA]
 |.mk c ns b::r,hid=>by
  have h1:=bo b (hid++ns.l);have h2:=rN r hid;rw[occA,io,Ex.szA];omega
end
structure Aft (I:List Ex→AH→List Nat→Prop) (l:List Ex) (h:AH) (W:List Nat) (h':AH) (W':List Nat):Prop where
 i:I l h' W'
 n:h.next≤h'.next
 o:∀x,x<h.next→x∉W→h'.get x=h.get x
 w:∀x∈W',x∈W∨h.next≤x
 t:NoTag h'
theorem Aft.trans{I:List Ex→AH→List Nat→Prop}{l l':List Ex}{h h1 h2:AH}{W W1 G2:List Nat}(a:Aft I l h W h1 W1)(b:Aft I l' h1 W1 h2 G2):Aft I l' h W h2 G2:=by
 have n1:=a.n;have n2:=b.n;refine⟨b.i,om,fun x hx hW=>?_,fun x hx=>?_,b.t⟩
 ·rw[b.o x om (fun q=>?_),a.o x hx hW];rcases a.w x q with q|q
  ·exact hW q
  ·omega
 ·rcases b.w x hx with q|q
  ·exact a.w x q
  ·exact .inr om
structure Vis (g:Nat) (b:List AV) (I:List Ex→AH→List Nat→Prop):Prop where
 hp:∃q o r,b=.ptr q o::r
 lt:∀l h W,I l h W→∀x∈W,x<h.next
 to:∀l (h h':AH) W,I l h W→h.next≤h'.next→(∀x∈W,h'.get x=h.get x)→I l h' W
 nice:∀l h W,I l h W→niceT h (some (.fn (.func g) [] b))=true
 step:∀l h W (e:Ex),I l h W→NoTag h→l.length<2^28→∃h' W',RunCall E1 (.f g) (.agg e.cells::b) h (.tup []) h'∧Aft I (l++[e]) h W h' W'
variable {g:Nat}{b:List AV}{I:List Ex→AH→List Nat→Prop}
theorem Vis.more(Vx:Vis g b I){l:List Ex}{h h':AH}{W:List Nat}(i:I l h W)(hn:h.next≤h'.next)(ho:∀x,x<h.next→h'.get x=h.get x)(ht:NoTag h'):Aft I l h W h' W:=
 ⟨Vx.to l h h' W i hn fun x hx=>ho x (Vx.lt l h W i x hx),hn,fun x hx _=>ho x hx,fun x hx=>.inl hx,ht⟩
def OccP(g:Nat)(b:List AV)(I:List Ex→AH→List Nat→Prop)(e:Ex):Prop:=
 ∀(hid:List ByteArray) (v:AV) (h:AH) (lo:Nat) (W:List Nat) (l:List Ex),RowX h lo hid.length 1 v (hid.flatMap strA)→(∀x∈ids v,x∉W)→I l h W→NoTag h→hid.length+e.sz<2^28→l.length+e.sz<2^28→
  ∃h' W',RunCall E1 (.f 120) [.agg e.cells,v,.fn (.func g) [] b] h (.tup []) h'∧Aft I (l++occ e hid) h W h' W'
theorem rV(e:Ex)(i:Nat):(insS e i).length≤e.pm.l.length+1:=by
 rw[insS];cases decide (e.op=7)&&decide (0<i)
 ·cases decide (e.op=6)
  ·exact ir _
  ·rw[cond_false,cond_true,pnm,ji];omega
 ·rw[cond_true];simp
theorem kw{k:Ex}{r:List Ex}:∀{l:List Ex} {i:Nat},l.drop i=k::r→k.sz+Ex.szL r≤Ex.szL l
 |l,0,h=>by rw[jj] at h;subst h;rw[Ex.szL];exact i7 _
 | [],i+1,h=>by simp at h
 |a::l,i+1,h=>by
  have:=kw (l:=l) (i:=i) (by simpa using h)
  rw[Ex.szL];omega
theorem ky{k:Al}{r:List Al}:∀{l:List Al} {i:Nat},l.drop i=k::r→1+k.ns.l.length+k.b.sz+Ex.szA r≤Ex.szA l
 |l,0,h=>by rw[jj] at h;subst h;rw[dc];exact i7 _
 | [],i+1,h=>by simp at h
 |a::l,i+1,h=>by
  have:=ky (l:=l) (i:=i) (by simpa using h)
  rw[dc];omega
def zEx7:List AV:=[vI 0,vS ⟨#[]⟩,vI 0,.val (.slice none 0 0),.val (.slice none 0 0),.val (.slice none 0 0),.val (.slice none 0 0)]
theorem Er:[vI 0,vS ⟨#[]⟩,vI 0,.val (.slice none 0 0),.val (.slice none 0 0),.val (.slice none 0 0),.val (.slice none 0 0)]=zEx7:=rfl
theorem Js{h:AH}{b:Nat}{p:Ex}:stK h b 7 0 p.cells (some (.cells zEx7 true))=some (h.put b (some (.cells p.cells true))):=d5 rfl p.len
theorem mU(Vx:Vis g b I)(e:Ex)(ih:∀k∈e.ks,OccP g b I k){hid:List ByteArray}{v:AV}{lo B:Nat}:∀(r:List Ex) (i:Nat) (s:St) (W:List Nat) (l:List Ex),e.ks.drop i=r→i≤e.ks.length→RowX s.h lo hid.length 1 v (hid.flatMap strA)→(∀x∈ids v,x∉W)→I l s.h W→NoTag s.h→hid.length+e.sz<2^28→l.length+Ex.szL r<2^28→e.ks.length<2^59→
  s.h.get B=some (.cells e.cells true)→B<s.h.next→B∉W→s.eval (.t 1)=some v→s.eval (.t 2)=some (.fn (.func g) [] b)→s.eval (.t 3)=some (.ptr B 0)→s.eval (.t 23)=some e.kids→s.eval (.t 24)=some (vI (e.ks.length:Nat))→s.eval (.t 25)=some (vI (i:Nat))→s.defers=[]→
  Run E1 gt s fun ex s'=>ex=.exit 0∧s'.defers=[]∧s'.eval (.t 1)=some v∧s'.eval (.t 2)=some (.fn (.func g) [] b)∧s'.eval (.t 3)=some (.ptr B 0)∧∃W',Aft I (l++occK (insS e) r i hid) s.h W s'.h W'
 | [],i,s,W,l,hd,hi,hr,hv,hI,nt,z1,z2,z3,gB,lB,nB,h1,h2,h3,h23,h24,h25,hf=>by
  have hl:=aK hd hi;subst hl;apply aC (rfl:gt=.loop gv);simp-implicitDefEqProofs only[gv,V,↓reduceIte,rA,h1,h2,h3,h24,h25,hf,ba];refine⟨W,?_⟩;rw[occK,j6];exact Vx.more hI (i7 _) (fun _ _=>rfl) nt
 |k::r,i,s,W,l,hd,hi,hr,hv,hI,nt,z1,z2,z3,gB,lB,nB,h1,h2,h3,h23,h24,h25,hf=>by
  have hl:=aL hd;have hlt:=bY hl;have hs:=kw hd;have hez:=e.sz_eq;have z2':l.length+(k.sz+Ex.szL r)<2^28:=by rw[Ex.szL] at z2;exact z2
  have hin:=rV e i;have hk:k∈e.ks:=A4 (by rw[hd];exact il)
  have w1:IntKind.i64.wrap ((i:Int)+1)=((i+1:Nat):Int):=aE (n:=i+1) om;have hne:(B=s.h.next)=False:=by simp;omega
  apply aC (rfl:gt=.loop gv);simp-implicitDefEqProofs only[gv,V,↓reduceIte,rA,WF,h23,h24,h25,hlt,e.kid hd,Er,Js];have a0:Aft I l s.h W ((s.h.alloc (.cells zEx7 true)).put s.h.next (some (.cells k.cells true))) W:=Vx.more hI (by show s.h.next≤s.h.next+1;omega) (fun x hx=>by rw[aP om,aB hx]) (fun b x t n q=>by
   rw[AH.get_put] at q;split at q
   ·cases q
   ·exact nt.alloc b x t n q)
  refine sf (e:=e) (k:=k) (i:=i) (B:=B) (T:=s.h.next) (lo:=lo) (v:=v) (F:=.fn (.func g) [] b) (hid:=hid) ?_ om om ?_ ?_ ?_ ?_ ?_ ?_ ?_ ?_ ?_ ?_ ?_ ?_
  ·exact U51
  ·exact U38
  ·exact U52
  ·exact U48
  ·exact U36
  ·exact U36
  ·simp-implicitDefEqProofs only[V,↓reduceIte,hne,gB]
  ·exact U36
  ·exact U34
  ·exact U53
  ·exact U54
  ·exact U55
  intro s1 v1 k1 t30 t36 t37 r1 n1 o1 nt1 d1;simp-implicitDefEqProofs only[V] at n1 o1 r1 d1;have n1:s.h.next+1≤s1.h.next:=n1;have o1':∀x,x<s.h.next→s1.h.get x=s.h.get x:=fun x hx=>by rw[o1 x om,if_neg om,if_neg om]
  have a1:Aft I l s.h W s1.h W:=Vx.more hI om o1' nt1;obtain⟨h2',G2,hcall,a2⟩:=ih k hk (hid++insS e i) v1 s1.h (s.h.next+1) W l r1 (fun x hx hW=>by
   have:=(r1.ids x hx).1;have:=Vx.lt l s.h W hI x hW;omega) a1.i nt1 (by rw[io];omega) om
  have t1:s1.eval (.t 1)=some v:=by rw[k1 1 de];simp-implicitDefEqProofs only[V,↓reduceIte,rA,h1]
  have t2:s1.eval (.t 2)=some (.fn (.func g) [] b):=by rw[k1 2 de];simp-implicitDefEqProofs only[V,↓reduceIte,rA,h2]
  have t3:s1.eval (.t 3)=some (.ptr B 0):=by rw[k1 3 de];simp-implicitDefEqProofs only[V,↓reduceIte,rA,h3]
  have t23:s1.eval (.t 23)=some e.kids:=by rw[k1 23 de];simp-implicitDefEqProofs only[V,↓reduceIte,rA,h23]
  have t24:s1.eval (.t 24)=some (vI (e.ks.length:Nat)):=by rw[k1 24 de];simp-implicitDefEqProofs only[V,↓reduceIte,rA,h24]
  have t25:s1.eval (.t 25)=some (vI (i:Nat)):=by rw[k1 25 de];simp-implicitDefEqProofs only[V,↓reduceIte,rA,h25]
  simp-implicitDefEqProofs only[V,t30,t36,t37];refine aW hcall ?_
  simp-implicitDefEqProofs only[V,↓reduceIte,rA,t25,w1];have a3:=a1.trans a2;have hol:=bo k (hid++insS e i);refine(mU (lo:=lo) (v:=v) (B:=B) Vx e ih r (i+1) _ G2 (l++occ k (hid++insS e i)) (aH hd) om ?_ ?_ ?_ ?_ z1 (by rw[io];omega) z3 ?_ ?_ ?_ ?_ ?_ ?_ ?_ ?_ ?_ ?_).mono ?_
  ·exact U56
  ·exact U57
  ·exact U58
  ·exact U59
  ·simp-implicitDefEqProofs only[V];rw[a3.o B lB nB,gB]
  ·simp-implicitDefEqProofs only[V];have:=a3.n;omega
  ·intro hW;rcases a3.w B hW with q|q
   ·exact nB q
   ·omega
  ·exact U86
  ·exact U87
  ·simp-implicitDefEqProofs only[V,↓reduceIte,rA,t3]
  ·simp-implicitDefEqProofs only[V,↓reduceIte,rA,t23]
  ·simp-implicitDefEqProofs only[V,↓reduceIte,rA,t24]
  ·exact U36
  ·exact U60
  rintro ex s3 ⟨rfl,d3,u1,u2,u3,G3,a4⟩;simp-implicitDefEqProofs only[V] at a4;refine⟨rfl,d3,u1,u2,u3,G3,?_⟩;rw[occK,←jh];exact a3.trans a4
def zAl9:List AV:=[vS ⟨#[]⟩,.val (.slice none 0 0),vI 0,vS ⟨#[]⟩,vI 0,.val (.slice none 0 0),.val (.slice none 0 0),.val (.slice none 0 0),.val (.slice none 0 0)]
theorem Es:[vS ⟨#[]⟩,.val (.slice none 0 0),vI 0,vS ⟨#[]⟩,vI 0,.val (.slice none 0 0),.val (.slice none 0 0),.val (.slice none 0 0),.val (.slice none 0 0)]=zAl9:=rfl
theorem Jt{h:AH}{b:Nat}{p:Al}:stK h b 9 0 p.cells (some (.cells zAl9 true))=some (h.put b (some (.cells p.cells true))):=d5 rfl p.len
theorem mT(Vx:Vis g b I)(e:Ex)(ih:∀a∈e.al,OccP g b I a.b){hid:List ByteArray}{v:AV}{lo:Nat}:∀(r:List Al) (i:Nat) (s:St) (W:List Nat) (l:List Ex),e.al.drop i=r→i≤e.al.length→RowX s.h lo hid.length 1 v (hid.flatMap strA)→(∀x∈ids v,x∉W)→I l s.h W→NoTag s.h→hid.length+e.sz<2^28→l.length+Ex.szA r<2^28→e.al.length<2^59→
  s.eval (.t 1)=some v→s.eval (.t 2)=some (.fn (.func g) [] b)→s.eval (.t 41)=some e.alts→s.eval (.t 42)=some (vI (e.al.length:Nat))→s.eval (.t 43)=some (vI (i:Nat))→s.defers=[]→
  Run E1 gp s fun ex s'=>ex=.exit 2∧s'.defers=[]∧∃W',Aft I (l++occA r hid) s.h W s'.h W'
 | [],i,s,W,l,hd,hi,hr,hv,hI,nt,z1,z2,z3,h1,h2,h41,h42,h43,hf=>by
  have hl:=aK hd hi;subst hl;apply aC (rfl:gp=.loop gu);simp-implicitDefEqProofs only[gu,V,↓reduceIte,h42,h43,hf,ba];refine⟨W,?_⟩;rw[occA,j6];exact Vx.more hI (i7 _) (fun _ _=>rfl) nt
 |k::r,i,s,W,l,hd,hi,hr,hv,hI,nt,z1,z2,z3,h1,h2,h41,h42,h43,hf=>by
  have hl:=aL hd;have hlt:=bY hl;have hs:=ky hd;have hez:=e.sz_eq;have z2':l.length+(1+k.ns.l.length+k.b.sz+Ex.szA r)<2^28:=by rw[dc] at z2;exact z2
  have hk:k∈e.al:=A4 (by rw[hd];exact il)
  have w1:IntKind.i64.wrap ((i:Int)+1)=((i+1:Nat):Int):=aE (n:=i+1) om;apply aC (rfl:gp=.loop gu);simp-implicitDefEqProofs only[gu,V,↓reduceIte,rA,WF,h41,h42,h43,hlt,e.alt hd,Es,Jt];have a0:Aft I l s.h W ((s.h.alloc (.cells zAl9 true)).put s.h.next (some (.cells k.cells true))) W:=Vx.more hI (by show s.h.next≤s.h.next+1;omega) (fun x hx=>by rw[aP om,aB hx]) (fun b x t n q=>by
   rw[AH.get_put] at q;split at q
   ·cases q
   ·exact nt.alloc b x t n q)
  refine se (k:=k) (T:=s.h.next) (lo:=lo) (v:=v) (F:=.fn (.func g) [] b) (hid:=hid) ?_ om ?_ ?_ ?_ ?_ ?_ ?_ ?_ ?_
  ·exact U51
  ·exact U38
  ·exact U52
  ·exact U36
  ·exact U36
  ·exact U53
  ·exact U54
  ·exact U55
  intro s1 v1 k1 t30 t36 t37 r1 n1 o1 nt1 d1;simp-implicitDefEqProofs only[V] at n1 o1 r1 d1;have n1:s.h.next+1≤s1.h.next:=n1;have o1':∀x,x<s.h.next→s1.h.get x=s.h.get x:=fun x hx=>by rw[o1 x om,if_neg om,if_neg om]
  have a1:Aft I l s.h W s1.h W:=Vx.more hI om o1' nt1;obtain⟨h2',G2,hcall,a2⟩:=ih k hk (hid++k.ns.l) v1 s1.h (s.h.next+1) W l r1 (fun x hx hW=>by
   have:=(r1.ids x hx).1;have:=Vx.lt l s.h W hI x hW;omega) a1.i nt1 (by rw[io];omega) om
  have t1:s1.eval (.t 1)=some v:=by rw[k1 1 de];simp-implicitDefEqProofs only[V,↓reduceIte,rA,h1]
  have t2:s1.eval (.t 2)=some (.fn (.func g) [] b):=by rw[k1 2 de];simp-implicitDefEqProofs only[V,↓reduceIte,rA,h2]
  have t41:s1.eval (.t 41)=some e.alts:=by rw[k1 41 de];simp-implicitDefEqProofs only[V,↓reduceIte,rA,h41]
  have t42:s1.eval (.t 42)=some (vI (e.al.length:Nat)):=by rw[k1 42 de];simp-implicitDefEqProofs only[V,↓reduceIte,rA,h42]
  have t43:s1.eval (.t 43)=some (vI (i:Nat)):=by rw[k1 43 de];simp-implicitDefEqProofs only[V,↓reduceIte,rA,h43]
  simp-implicitDefEqProofs only[V,t30,t36,t37];refine aW hcall ?_
  simp-implicitDefEqProofs only[V,↓reduceIte,rA,t43,w1];have a3:=a1.trans a2;have hol:=bo k.b (hid++k.ns.l);refine(mT (lo:=lo) (v:=v) Vx e ih r (i+1) _ G2 (l++occ k.b (hid++k.ns.l)) (aH hd) om ?_ ?_ ?_ ?_ z1 (by rw[io];omega) z3 ?_ ?_ ?_ ?_ ?_ ?_).mono ?_
  ·exact U56
  ·exact U57
  ·exact U58
  ·exact U59
  ·exact U86
  ·exact U87
  ·simp-implicitDefEqProofs only[V,↓reduceIte,rA,t41]
  ·simp-implicitDefEqProofs only[V,↓reduceIte,rA,t42]
  ·exact U36
  ·exact U60
  rintro ex s3 ⟨rfl,d3,G3,a4⟩;simp-implicitDefEqProofs only[V] at a4;refine⟨rfl,d3,G3,?_⟩;rw[nY,←jh];exact a3.trans a4
def ul:ACode:=(.seq (.seq (.region [⟨some 22,none,.fieldAddr 3 (.t 3)⟩,⟨some 23,none,.load none (.t 22)⟩,⟨some 24,none,.lenS (.t 23)⟩,⟨some 25,none,.mv (.c (vI 0))⟩])
 (.block 0 gt))
 (.seq (.region [⟨some 40,none,.fieldAddr 5 (.t 3)⟩,⟨some 41,none,.load none (.t 40)⟩,⟨some 42,none,.lenS (.t 41)⟩,⟨some 43,none,.mv (.c (vI 0))⟩])
 (.block 2 gp)))
def um:ACode:=(.region [⟨some 10,none,.load (some 7) (.t 3)⟩,⟨some 11,none,.call 172 [.t 10]⟩,⟨some 12,none,.mv (.t 11)⟩,⟨some 13,some (12,true),.mv (.t 1)⟩,⟨some 14,some (12,true),.fieldAddr 1 (.t 3)⟩,⟨some 15,some (12,true),.load none (.t 14)⟩,⟨some 16,some (12,true),.call 48 [.t 13,.t 15]⟩,⟨some 17,some (12,true),.bin .lss 3 true (.t 16) (.c (vI 0))⟩,⟨some 18,none,.pick (.t 12) (.t 17) (.c (vB false))⟩])
def uo:ACode:=(.cond (.t 18) (.region [⟨some 19,none,.mv (.t 2)⟩,⟨some 20,none,.load (some 7) (.t 3)⟩,⟨some 21,none,.callv (.t 19) [.t 20]⟩]) .skip)
theorem Hl:f120=.seq (.region [⟨some 3,none,.box (.t 0)⟩]) (.seq (.seq um uo) ul):=rfl
theorem fl(Vx:Vis g b I)(e:Ex)(ihk:∀k∈e.ks,OccP g b I k)(iha:∀a∈e.al,OccP g b I a.b){hid:List ByteArray}{v:AV}{lo B:Nat}{s:St}{W:List Nat}{l:List Ex}(hr:RowX s.h lo hid.length 1 v (hid.flatMap strA))(hv:∀x∈ids v,x∉W)(hI:I l s.h W)(nt:NoTag s.h)(z1:hid.length+e.sz<2^28)(z2:l.length+(Ex.szL e.ks+Ex.szA e.al)<2^28)(z3:e.ks.length<2^59)(z4:e.al.length<2^59)
  (gB:s.h.get B=some (.cells e.cells true)) (lB:B<s.h.next) (nB:B∉W) (h1:s.eval (.t 1)=some v) (h2:s.eval (.t 2)=some (.fn (.func g) [] b)) (h3:s.eval (.t 3)=some (.ptr B 0)) (hf:s.defers=[]) {Q:AM.Ex→St→Prop}
  (kq:∀ex s',(ex=.normal∨ex=.ret)→s'.defers=[]→(∃W',Aft I (l++(occK (insS e) e.ks 0 hid++occA e.al hid)) s.h W s'.h W')→Q ex s'):wp E1 ul s Q:=by
 simp-implicitDefEqProofs only[ul,V,↓reduceIte,h3,gB];refine(mU (lo:=lo) (v:=v) (B:=B) Vx e ihk e.ks 0 _ W l rfl (ir _) ?_ hv ?_ ?_ z1 om z3 ?_ ?_ nB ?_ ?_ ?_ ?_ ?_ ?_ ?_).mono ?_
 all_goals try simp-implicitDefEqProofs only[V,↓reduceIte,rA,h1,h2,h3,hf]
 ·exact hr
 ·exact hI
 ·exact nt
 ·exact gB
 ·exact lB
 ·rfl
 rintro ex s1 ⟨rfl,d1,u1,u2,u3,G1,a1⟩
 try simp-implicitDefEqProofs only[V,↓reduceIte,rA,rB,rC,reduceCtorEq,rD,rE,rF] at a1
 have gB1:s1.h.get B=some (.cells e.cells true):=by rw[a1.o B lB nB,gB]
 simp-implicitDefEqProofs only[V,↓reduceIte,WF,u3,gB1];have hol:=gK (insS e) e.ks 0 hid;refine(mT (lo:=lo) (v:=v) Vx e iha e.al 0 _ G1 (l++occK (insS e) e.ks 0 hid) rfl (ir _) ?_ ?_ ?_ ?_ z1 (by rw[io];omega) z4 ?_ ?_ ?_ ?_ ?_ ?_).mono ?_
 all_goals try simp-implicitDefEqProofs only[V,↓reduceIte,rA,u1,u2,d1]
 ·exact hr.toB a1.n fun x hx=>a1.o x (hr.ids x hx).2.1 (hv x hx)
 ·intro x hx hW;rcases a1.w x hW with q|q
  ·exact hv x hx q
  ·have:=(hr.ids x hx).2.1;omega
 ·exact a1.i
 ·exact a1.t
 ·rfl
 rintro ex s2 ⟨rfl,d2,G2,a2⟩
 try simp-implicitDefEqProofs only[V,↓reduceIte,rA,rB,rC,reduceCtorEq,rD,rE,rF] at a2
 simp-implicitDefEqProofs only[V,WF];refine kq _ _ (.inl rfl) d2 ⟨G2,?_⟩;rw[←jh];exact a1.trans a2
theorem yl(Vx:Vis g b I)(e:Ex)(ihk:∀k∈e.ks,OccP g b I k)(iha:∀a∈e.al,OccP g b I a.b)(z3:e.ks.length<2^59)(z4:e.al.length<2^59):OccP g b I e:=by
 intro hid v h lo W l hr hv hI nt z1 z2;have hez:=e.sz_eq;obtain⟨q,o,r0,hb⟩:=Vx.hp;have hW:=Vx.lt l h W hI;have hn:h.next≤(h.alloc (.cells e.cells true)).next:=jw _;have a0:Aft I l h W (h.alloc (.cells e.cells true)) W:=Vx.more hI hn (fun x hx=>aB hx) nt.alloc;have hr0:RowX (h.alloc (.cells e.cells true)) lo hid.length 1 v (hid.flatMap strA):=hr.to hn fun x _ x2=>aB x2;obtain⟨v',h',hrun,rfl,W',hA⟩:=dU (g:=120) (l:=[.agg e.cells,v,.fn (.func g) [] b]) (h:=h) (fun v' h'=>v'=.tup []∧∃W',Aft I (l++occ e hid) h W h' W') kr Hj (fun h=>ah (ah (ae (by rw[hb];exact dI)))) fun s hs hh hd hrd=>by
  have h0:=hs 0 _ rfl;have h1:=hs 1 _ rfl;have h2:=hs 2 _ rfl;have hNb:h.next∉W:=fun q=>by have:=hW _ q;omega
  show wp E1 f120 s _;rw[Hl];simp-implicitDefEqProofs only[V,h0,hh];cases qv:decide (e.op=3)||decide (e.op=5) with
  |false=>
   have how:e.own hid=[]:=by rw[Ex.own,qv];rfl
   simp-implicitDefEqProofs only[um,uo,V,↓reduceIte,rA,aG (jO e),qv];refine(fl (lo:=lo) (v:=v) (B:=h.next) Vx e ihk iha (W:=W) (l:=l) ?_ hv ?_ ?_ z1 om z3 z4 ?_ ?_ hNb ?_ ?_ ?_ ?_ ?_)
   all_goals try simp-implicitDefEqProofs only[V,↓reduceIte,rA,h1,h2,hd]
   ·exact hr0
   ·exact a0.i
   ·exact a0.t
   ·exact js _
   rintro ex s1 he d1 ⟨G1,a1⟩
   try simp-implicitDefEqProofs only[V,↓reduceIte,rA,rB,rC,reduceCtorEq,rD,rE,rF] at a1
   refine⟨he,d1,[],rfl,rfl,G1,?_⟩;rw[lg,how,iz];exact a0.trans a1
  |true=>
   have hfind:RunCall E1 (.f 48) [v,vS e.nm] (h.alloc (.cells e.cells true)) (vI (fndI e.nm hid)) (h.alloc (.cells e.cells true)):=uK hr0 om;simp-implicitDefEqProofs only[um,uo,V,↓reduceIte,rA,h1,aG (jO e),qv];refine aW hfind ?_
   cases qm:memS e.nm hid with
   |true=>
    have how:e.own hid=[]:=by rw[Ex.own,qv,qm];rfl
    have qf:=cB e.nm hid;rw[qm] at qf;simp-implicitDefEqProofs only[V,↓reduceIte,rA,qf];refine(fl (lo:=lo) (v:=v) (B:=h.next) Vx e ihk iha (W:=W) (l:=l) ?_ hv ?_ ?_ z1 om z3 z4 ?_ ?_ hNb ?_ ?_ ?_ ?_ ?_)
    all_goals try simp-implicitDefEqProofs only[V,↓reduceIte,rA,h1,h2,hd]
    ·exact hr0
    ·exact a0.i
    ·exact a0.t
    ·exact js _
    rintro ex s1 he d1 ⟨G1,a1⟩
    try simp-implicitDefEqProofs only[V,↓reduceIte,rA,rB,rC,reduceCtorEq,rD,rE,rF] at a1
    refine⟨he,d1,[],rfl,rfl,G1,?_⟩;rw[lg,how,iz];exact a0.trans a1
   |false=>
    have how:e.own hid=[e]:=by rw[Ex.own,qv,qm];rfl
    have qf:=cB e.nm hid;rw[qm] at qf;obtain⟨h2',G2,hvis,a2⟩:=Vx.step l _ W e a0.i a0.t om;simp-implicitDefEqProofs only[V,↓reduceIte,rA,h2,qf,iz,ja];refine aW hvis ?_
    have a3:=a0.trans a2;simp-implicitDefEqProofs only[V];refine(fl (lo:=lo) (v:=v) (B:=h.next) Vx e ihk iha (W:=G2) (l:=l++[e]) ?_ ?_ ?_ ?_ z1 (by rw[io,List.length_singleton];omega) z3 z4 ?_ ?_ ?_ ?_ ?_ ?_ ?_ ?_)
    all_goals try simp-implicitDefEqProofs only[V,↓reduceIte,rA,h1,h2,hd]
    ·exact hr.toB a3.n fun x hx=>a3.o x (hr.ids x hx).2.1 (hv x hx)
    ·exact U57
    ·exact a3.i
    ·exact a3.t
    ·rw[a2.o _ (js _) hNb];exact aO
    ·exact Nat.lt_of_lt_of_le (js _) a2.n
    ·intro q;rcases a2.w _ q with q|q
     ·exact hNb q
     ·have q:h.next+1≤h.next:=q;omega
    rintro ex s1 he d1 ⟨G1,a1⟩
    try simp-implicitDefEqProofs only[V,↓reduceIte,rA,rB,rC,reduceCtorEq,rD,rE,rF] at a1
    refine⟨he,d1,[],rfl,rfl,G1,?_⟩;rw[lg,how];have:=a3.trans a1
    rwa [jh] at this
 exact⟨h',W',hrun,hA⟩
end Go.Proofs.YtkmoeaplhnabcaaGreatDoor
namespace Go.Proofs.YtkmoeaplhnabcaaGreatDoor
open Go Go.AM
set_option maxHeartbeats 4000000
variable [KR]
theorem Jn(e:Ex):1≤e.sz:=by rw[e.sz_eq];omega
theorem oa:∀l:List Ex,l.length≤Ex.szL l
 | []=>ir _
 |k::r=>by
  have h1:=Jn k;have h2:=oa r;rw[Ex.szL,im];omega
theorem ob:∀l:List Al,l.length≤Ex.szA l
 | []=>ir _
 |k::r=>by
  have h2:=ob r;rw[dc,im];omega
section
variable {g:Nat}{b:List AV}{I:List Ex→AH→List Nat→Prop}
theorem xD(Vx:Vis g b I)(e:Ex)(ihk:∀k∈e.ks,OccP g b I k)(iha:∀a∈e.al,OccP g b I a.b):OccP g b I e:=by
 intro hid v h lo W l hr hv hI nt z1 z2;have h1:=e.sz_eq;have h2:=oa e.ks;have h3:=ob e.al;exact yl Vx e ihk iha om om hid v h lo W l hr hv hI nt z1 z2
mutual
theorem kZ(Vx:Vis g b I):∀e:Ex,OccP g b I e
 |.mk o s n ks nl cap pm al anl acap ty=>xD Vx (.mk o s n ks nl cap pm al anl acap ty) (rL Vx ks) (rM Vx al)
theorem rL(Vx:Vis g b I):∀l:List Ex,∀k∈l,OccP g b I k
 | [],k,h=>(by cases h)
 |a::r,k,h=>(i8.1 h).elim (fun e=>e▸kZ Vx a) (rL Vx r k)
theorem rM(Vx:Vis g b I):∀l:List Al,∀k∈l,OccP g b I k.b
 | [],k,h=>(by cases h)
 |.mk c ns e0::r,k,h=>(i8.1 h).elim (fun e=>by rw[e];exact kZ Vx e0) (rM Vx r k)
end
end
def addAll(F:List ByteArray)(l:List ByteArray):List ByteArray:=l.foldl (fun F x=>addS x F) F
def nmE(l:List Ex):List ByteArray:=l.map Ex.nm
theorem tE{F l:List ByteArray}{x:ByteArray}:addAll F (l++[x])=addS x (addAll F l):=by
 rw[addAll,List.foldl_append];rfl
theorem dk{x z:ByteArray}{F:List ByteArray}:z∈addS x F↔z∈F∨z=x:=by
 rw[addS];cases h:memS x F with
 |true=>
  rw[cond_true];constructor
  ·exact .inl
  ·rintro(h1|rfl)
   ·exact h1
   ·exact ay.1 h
 |false=>rw[cond_false,List.mem_append,ig]
theorem lh{x:ByteArray}{F:List ByteArray}(h:F.Nodup):(addS x F).Nodup:=by
 rw[addS];cases hm:memS x F with
 |true=>exact h
 |false=>
  rw[cond_false];refine List.nodup_append.2 ⟨h,List.nodup_cons.2 ⟨List.not_mem_nil,List.nodup_nil⟩,fun a ha b hb e=>?_⟩;rw[ig.1 hb] at e;subst e;rw[ay.2 ha] at hm;cases hm
theorem bM{z:ByteArray}:∀{l F:List ByteArray},z∈addAll F l↔z∈F∨z∈l
 | [],F=>by simp[addAll]
 |a::r,F=>by
  show z∈addAll (addS a F) r↔_;rw[bM,dk,i8,or_assoc]
theorem cj:∀{l F:List ByteArray},F.Nodup→(addAll F l).Nodup
 | [],F,h=>h
 |a::r,F,h=>cj (l:=r) (lh h)
theorem mr:∀(l F:List ByteArray),(addAll F l).length≤F.length+l.length
 | [],F=>i7 _
 |a::r,F=>by
  have h1:=mr r (addS a F);have h2:(addS a F).length≤F.length+1:=by
   rw[addS];cases memS a F
   ·rw[cond_false,io];exact i7 _
   ·rw[cond_true];omega
  show(addAll (addS a F) r).length≤_;rw[im];omega
theorem fF{h:AH}{b:Nat}{cs:List AV}{rw':Bool}(k:NoTag h):NoTag (h.put b (some (.cells cs rw'))):=fun x y t n q=>by
 rw[AH.get_put] at q;split at q
 ·cases q
 ·exact k x y t n q
theorem tj{h:AH}{b:Nat}(k:NoTag h):NoTag (h.put b none):=fun x y t n q=>by
 rw[AH.get_put] at q;split at q
 ·cases q
 ·exact k x y t n q
theorem tk{h:AH}{lo k es:Nat}{v:AV}{cs new:List AV}(r:RowC h lo k es v cs)(kt:NoTag h):NoTag (pushC h v new):=by
 obtain⟨_,_,⟨_,rfl⟩|⟨b,_,_,_,rfl,b5⟩⟩:=r
 ·exact kt.alloc
 ·simp only[pushC,b5];exact(tj kt).alloc
theorem qM{s:St}{K:St→Prop}{r:List AOper}{dst:Option Nat}{es bytes a d k m lo:Nat}{v x:AV}{cs new:List AV}(hr:RowC s.h lo k es v cs)(hlo:lo≤s.h.next)(he:elemsOf s.h es x=some (new,m))(hm:0<m)(hl:new.length=m*es)(hn:∀c∈new,Leaf c)(hok:okLen (k+m) bytes=true)(ha:s.eval (.t a)=some v)(hx:s.eval (.t d)=some x)
  (kk:∀h',RowC h' lo (k+m) es (.own s.h.next 0 (k+m) es none) (cs++new)→s.h.next≤h'.next→(∀y,y<s.h.next→y∉ids v→h'.get y=s.h.get y)→(NoTag s.h→NoTag h')→AM.wpOps E1 r ((s.toH h').put dst (.own s.h.next 0 (k+m) es none)) K):AM.wpOps E1 (⟨dst,none,.append es bytes (.t a) (.t d)⟩::r) s K:=by
 obtain⟨p1,p2,p3,p4⟩:=pB hr hlo hn hl hm;rw[cR,jM hr he hm hok ha hx];exact kk (pushC s.h v new) p2 om p3 (tk hr)
def IF(C q m:Nat)(l:List Ex)(h:AH)(W:List Nat):Prop:=W=[C,q,m]∧C<h.next∧C≠q∧C≠m∧h.get C=some (.cells [.ptr q 0] true)∧SetAt h q m (addAll [] (nmE l))
theorem wZ{C q m:Nat}{l:List Ex}{h:AH}{W:List Nat}{e:Ex}(hI:IF C q m l h W)(nt:NoTag h):∃h' W',RunCall E1 (.f 121) [.agg e.cells,.ptr C 0] h (.tup []) h'∧Aft (IF C q m) (l++[e]) h W h' W':=by
 obtain⟨rfl,lC,nq,nm,gC,hS⟩:=hI;obtain⟨v',h',hrun,rfl,hA⟩:=dU (g:=121) (l:=[.agg e.cells,.ptr C 0]) (h:=h) (fun v' h'=>v'=.tup []∧Aft (IF C q m) (l++[e]) h [C,q,m] h' [C,q,m]) kr Hi (fun h=>ah (ae bQ)) fun s hs hh hd hrd=>by
  have h0:=hs 0 _ rfl;have h1:=hs 1 _ rfl;have hne:(C=h.next)=False:=by simp;omega
  simp-implicitDefEqProofs only[wG,f121,V,↓reduceIte,rA,reduceCtorEq,WF,h0,h1,hh,hne,gC];have n2:∀x,x<h.next→((h.alloc (.cells e.cells true)).alloc (.cells [vS e.nm] true)).get x=h.get x:=fun x hx=>by
   rw[aB (by show x<h.next+1;omega),aB hx]
  have hS2:=hS.to (h':=(h.alloc (.cells e.cells true)).alloc (.cells [vS e.nm] true)) (by show h.next≤h.next+2;omega) (fun x hx=>n2 x (by
   rcases hx with rfl|rfl
   ·exact hS.lq
   ·exact hS.lm))
  obtain⟨h3,hr3,n3,o3⟩:=oU (b:=h.next+1) (x:=e.nm) hS2 aO;refine aW hr3 ?_
  have n3':h3.next=h.next+2:=n3;have lq:=hS.lq;have lm:=hS.lm;have o3':∀x,x<h.next→x≠m→h3.get x=h.get x:=fun x hx hm=>by rw[o3,if_neg hm,n2 x hx]
  simp-implicitDefEqProofs only[V,hd];refine⟨[],rfl,rfl,⟨⟨rfl,om,nq,nm,?_,⟨om,om,hS.ne,?_,?_⟩⟩,om,fun x hx hW=>o3' x hx (fun q=>hW (by simp[q])),fun x hx=>.inl hx,fun b x t n q=>?_⟩⟩
  ·rw[o3' C lC nm,gC]
  ·rw[o3' q lq hS.ne,hS.gq]
  ·rw[o3,if_pos rfl,show nmE (l++[e])=nmE l++[e.nm] from by rw[nmE,List.map_append];rfl,tE]
  ·rw[o3] at q;split at q
   ·cases q
   ·exact nt.alloc.alloc b x t n q
 exact⟨h',_,hrun,hA⟩
theorem Ut(C q m:Nat):Vis 121 [.ptr C 0] (IF C q m) where
 hp:=⟨_,_,_,rfl⟩
 lt:=fun l h W hI x hx=>by
  obtain⟨rfl,lC,nq,nm,gC,hS⟩:=hI;simp only[i8,jb,or_false] at hx;rcases hx with rfl|rfl|rfl
  ·exact lC
  ·exact hS.lq
  ·exact hS.lm
 to:=fun l h h' W hI hn ho=>by
  obtain⟨rfl,lC,nq,nm,gC,hS⟩:=hI;exact⟨rfl,om,nq,nm,by rw[ho C (by simp),gC],hS.to hn fun x hx=>ho x (by rcases hx with rfl|rfl<;>simp)⟩
 nice:=fun l h W hI=>by
  obtain⟨rfl,lC,nq,nm,gC,hS⟩:=hI;have h1:Nat.blt C h.next=true:=j8.mpr lC;have h2:Nat.blt q h.next=true:=j8.mpr hS.lq;simp only[niceT,niceV,ids,idsL,j6,iz,j4,j5,h1,gC,AM.below,h2,ip]
 step:=fun l h W e hI nt _=>wZ hI nt
def isCall'(e:Ex):Bool:=decide (e.op=5)
def nmC(l:List Ex):List ByteArray:=nmE (l.filter isCall')
theorem pL(l:List Ex):(nmC l).length≤l.length:=by
 rw[nmC,nmE,ji];exact List.length_filter_le _ _
theorem rO{l:List Ex}{e:Ex}:nmC (l++[e])=nmC l++(bif isCall' e then [e.nm] else []):=by
 rw[nmC,List.filter_append,nmE,List.map_append];cases h:isCall' e with
 |true=>simp only[Ay,Bs,h,if_true,cond_true];rfl
 |false=>simp only[Ay,Bs,h,Bool.false_eq_true,if_false,cond_false];rfl
def IC(C lo:Nat)(l:List Ex)(h:AH)(W:List Nat):Prop:=∃v,W=C::ids v∧C<h.next∧C<lo∧lo≤h.next∧h.get C=some (.cells [v] true)∧RowC h lo (nmC l).length 1 v ((nmC l).flatMap strA)
theorem wa{C lo:Nat}{l:List Ex}{h:AH}{W:List Nat}{e:Ex}(hI:IC C lo l h W)(nt:NoTag h)(hl:l.length<2^28):∃h' W',RunCall E1 (.f 165) [.agg e.cells,.ptr C 0] h (.tup []) h'∧Aft (IC C lo) (l++[e]) h W h' W':=by
 obtain⟨v,rfl,lC,lo1,lo2,gC,hr⟩:=hI;have hnl:=pL l;obtain⟨v',h',hrun,rfl,W',hA⟩:=dU (g:=165) (l:=[.agg e.cells,.ptr C 0]) (h:=h) (fun v' h'=>v'=.tup []∧∃W',Aft (IC C lo) (l++[e]) h (C::ids v) h' W') kr Hh (fun h=>ah (ae bQ)) fun s hs hh hd hrd=>by
  have h0:=hs 0 _ rfl;have h1:=hs 1 _ rfl;have hne:(C=h.next)=False:=by simp;omega
  have hne2:(C=h.next+1)=False:=by simp;omega
  cases qc:decide (e.op=5) with
  |false=>
   simp-implicitDefEqProofs only[pu,f165,V,↓reduceIte,reduceCtorEq,h0,hh,qc,hd];have e1:nmC (l++[e])=nmC l:=by rw[rO,isCall',qc,cond_false,j6]
   refine⟨[],rfl,rfl,C::ids v,⟨⟨v,rfl,Nat.lt_succ_of_lt lC,lo1,Nat.le_succ_of_le lo2,by rw[aB lC,gC],?_⟩,jw _,fun x hx _=>aB hx,fun x hx=>.inl hx,nt.alloc⟩⟩
   rw[e1];exact hr.to (jw _) fun x _ x2=>aB x2
  |true=>
   simp-implicitDefEqProofs only[pu,f165,V,↓reduceIte,rA,reduceCtorEq,WF,h0,h1,hh,hne,gC,qc];have n2:∀x,x<h.next→((h.alloc (.cells e.cells true)).alloc (.cells [vS e.nm] true)).get x=h.get x:=fun x hx=>by
    rw[aB (by show x<h.next+1;omega),aB hx]
   have e1:nmC (l++[e])=nmC l++[e.nm]:=by rw[rO,isCall',qc,cond_true]
   refine qM (k:=(nmC l).length) (m:=1) (lo:=lo) (v:=v) (x:=.own (h.next+1) 0 1 1 (some 1)) (cs:=(nmC l).flatMap strA) (new:=[vS e.nm]) ?_ ?_ ?_ de rfl ?_ (aS om de) ?_ ?_ ?_
   ·simp-implicitDefEqProofs only[V];exact hr.to (by show h.next≤h.next+2;omega) fun x _ x2=>n2 x x2
   ·exact U34
   ·refine aq (rw':=true) ?_ rfl;exact U36
   ·exact fun c hc=>by rw[ig.1 hc];exact Leaf.val _
   ·exact U36
   ·exact U36
   intro h1' r1 n1 o1 t1;simp-implicitDefEqProofs only[V] at n1 o1 r1 t1;have n1:h.next+2≤h1'.next:=n1;have hCv:C∉ids v:=fun q=>by have:=(hr.ids C q).1;omega
   have gC1:h1'.get C=some (.cells [v] true):=by
    rw[o1 C om hCv,if_neg om,if_neg om,gC]
   simp-implicitDefEqProofs only[V,↓reduceIte,rA,WF,h1,gC1,hd,r1.cells];refine⟨[],rfl,rfl,C::[h.next+2],⟨⟨_,rfl,by show C<h1'.next;omega,lo1,by show lo≤h1'.next;omega,bL,?_⟩,by show h.next≤h1'.next;omega,fun x hx hW=>?_,fun x hx=>?_,fF (t1 nt.alloc.alloc)⟩⟩
   ·rw[e1,io,A8];exact r1.to (i7 _) fun x x1 _=>aP om
   ·rw[aP (fun q=>hW (by rw[q];exact il)),o1 x om (fun q=>hW (j0 _ q)),if_neg om,if_neg om]
   ·rcases i8.1 hx with rfl|hx
    ·exact .inl il
    ·rw[ig.1 hx];exact .inr om
 exact⟨h',W',hrun,hA⟩
theorem Uu(C lo:Nat):Vis 165 [.ptr C 0] (IC C lo) where
 hp:=⟨_,_,_,rfl⟩
 lt:=fun l h W hI x hx=>by
  obtain⟨v,rfl,lC,lo1,lo2,gC,hr⟩:=hI;rcases i8.1 hx with rfl|hx
  ·exact lC
  ·exact(hr.ids x hx).2.1
 to:=fun l h h' W hI hn ho=>by
  obtain⟨v,rfl,lC,lo1,lo2,gC,hr⟩:=hI;exact⟨v,rfl,om,lo1,om,by rw[ho C il,gC],hr.toB hn fun x hx=>ho x (j0 _ hx)⟩
 nice:=fun l h W hI=>by
  obtain⟨v,rfl,lC,lo1,lo2,gC,hr⟩:=hI;have h1:Nat.blt C h.next=true:=j8.mpr lC;have h2:=hr.below;simp only[niceT,niceV,ids,idsL,j6,iz,j4,j5,h1,gC,h2,ip]
 step:=fun l h W e hI nt hl=>wa hI nt hl
end Go.Proofs.YtkmoeaplhnabcaaGreatDoor
