/- ZOrd ZPut ZUnion ZReach ZLawc -/
import Derived.Test.YtkhblipgiijoiaaGreatDoorU0
import Derived.Test.YtkhblipgiijoiaaGreatDoorD1
import Derived.Test.YtkhblipgiijoiaaGreatDoorR4
import Derived.Test.YtkhblipgiijoiaaGreatDoorQ1
import Derived.Test.YtkhblipgiijoiaaGreatDoorQ4
import Derived.Sort.Walk0

set_option linter.all false
open Nat renaming reduceEqDiff → rA, reduceAdd → rB, reduceMul → rC
open Int renaming reduceEq → rD, reduceLT → rE, reduceLE → rF
open List renaming all_cons → iv, all_nil → is, cons_append → j6, drop_succ_cons → jq, drop_zero → j9, flatMap_append → Bh, length_append → io, length_cons → il, length_drop → Az, length_nil → jf, mem_append → jb, mem_cons → ie, mem_cons_of_mem → j4, mem_cons_self → ik, mem_nil_iff → j7, mem_singleton → ig, nil_append → im, nodup_cons → Bi, not_mem_nil → Al, pairwise_cons → Bx, take_succ_cons → jr, take_zero → jg
open Nat renaming ble_eq → ir, le_refl → ib, zero_le → ic
namespace Go.Proofs.YtkhblipgiijoiaaGreatDoor
open Go Go.AM
def strLess(a b:ByteArray):Bool:=bytesLessL a.data.toList b.data.toList
theorem ed{a b:ByteArray}:strLess a b=true↔a.data.toList<b.data.toList:=by
 rw[strLess,AM.bytesLess_eq,Go.Proofs.bytesLess_eq];exact decide_eq_true_iff
theorem Dq{a b:ByteArray}(h:a.data.toList=b.data.toList):a=b:=by
 cases a;cases b;simp only[ByteArray.mk.injEq];exact Array.toList_inj.1 h
theorem eF(a:ByteArray):strLess a a=false:=by
 cases h:strLess a a with
 |false=>rfl
 |true=>exact absurd (ed.1 h) (List.lt_irrefl _)
theorem sA{a b c:ByteArray}(h:strLess a b=true)(k:strLess b c=true):strLess a c=true:=ed.2 (List.lt_trans (ed.1 h) (ed.1 k))
theorem Mh{a b:ByteArray}(h:a.data.toList≤b.data.toList):strLess a b=true∨a=b:=by
 rcases List.le_iff_lt_or_eq.1 h with e|e
 ·exact .inl (ed.2 e)
 ·exact .inr (Dq e)
theorem Va{a b:ByteArray}(h:strLess a b=false)(k:strEq a b=false):strLess b a=true:=by
 have h1:¬a.data.toList<b.data.toList:=fun q=>by rw[ed.2 q] at h;cases h
 rcases Mh (List.not_lt.1 h1) with e|e
 ·exact e
 ·subst e;rw[cj] at k;cases k
def Srt(l:List ByteArray):Prop:=l.Pairwise fun a b=>strLess a b=true
theorem Srt.nodup{l:List ByteArray}(h:Srt l):l.Nodup:=List.Pairwise.imp (fun h e=>by subst e;rw[eF] at h;cases h) h
theorem xM:∀(a b:List ByteArray),Srt a→Srt b→(∀z,z∈a↔z∈b)→a=b
 | [],[],_,_,_=>rfl
 | [],y::q,_,_,h=>absurd ((h y).2 ik) Al
 |x::r,[],_,_,h=>absurd ((h x).1 ik) Al
 |x::r,y::q,ha,hb,h=>by
  have ha':=Bx.1 ha;have hb':=Bx.1 hb;have e:x=y:=by
   rcases ie.1 ((h x).1 ik) with e|e
   ·exact e
   ·rcases ie.1 ((h y).2 ik) with e2|e2
    ·exact e2.symm
    ·have:=sA (hb'.1 x e) (ha'.1 y e2);rw[eF] at this;cases this
  subst e;have:r=q:=xM r q ha'.2 hb'.2 fun z=>by
   constructor
   ·intro hz;rcases ie.1 ((h z).1 (j4 _ hz)) with e|e
    ·subst e;have:=ha'.1 z hz;rw[eF] at this;cases this
    ·exact e
   ·intro hz;rcases ie.1 ((h z).2 (j4 _ hz)) with e|e
    ·subst e;have:=hb'.1 z hz;rw[eF] at this;cases this
    ·exact e
  rw[this]
def putS(x:ByteArray):List ByteArray→List ByteArray
 | []=>[x]
 |a::r=>bif strLess a x then a::putS x r else bif strEq a x then x::r else x::a::r
theorem rj{x z:ByteArray}:∀{l:List ByteArray},z∈putS x l↔z=x∨z∈l
 | []=>by simp[putS]
 |a::r=>by
  rw[putS];cases strLess a x with
  |true=>
   simp only[cond_true,ie,rj (l:=r)];constructor
   ·rintro(h|h|h)
    ·exact .inr (.inl h)
    ·exact .inl h
    ·exact .inr (.inr h)
   ·rintro(h|h|h)
    ·exact .inr (.inl h)
    ·exact .inl h
    ·exact .inr (.inr h)
  |false=>
   cases q:strEq a x with
   |true=>
    have e:=eW q;subst e;simp only[cond_false,cond_true,ie];constructor
    ·rintro(h|h)
     ·exact .inl h
     ·exact .inr (.inr h)
    ·rintro(h|h|h)
     ·exact .inl h
     ·exact .inl h
     ·exact .inr h
   |false=>simp only[cond_false,ie]
theorem Cb{x:ByteArray}:∀{l:List ByteArray},Srt l→Srt (putS x l)
 | [],_=>List.pairwise_singleton _ _
 |a::r,h=>by
  have h':=Bx.1 h;rw[putS];cases p:strLess a x with
  |true=>
   refine Bx.2 ⟨fun z hz=>?_,Cb h'.2⟩;rcases rj.1 hz with e|e
   ·rw[e];exact p
   ·exact h'.1 z e
  |false=>
   cases q:strEq a x with
   |true=>
    have e:=eW q;subst e;exact h
   |false=>
    have hx:=Va p q;refine Bx.2 ⟨fun z hz=>?_,h⟩;rcases ie.1 hz with e|e
    ·rw[e];exact hx
    ·exact sA hx (h'.1 z e)
def putsS:List ByteArray→List ByteArray→List ByteArray
 |acc,[]=>acc
 |acc,x::r=>putsS (putS x acc) r
def unionS(a b:List ByteArray):List ByteArray:=putsS (putsS [] a) b
theorem mG{z:ByteArray}:∀{r acc:List ByteArray},z∈putsS acc r↔z∈acc∨z∈r
 | [],acc=>by simp[putsS]
 |x::r,acc=>by
  rw[putsS,mG (r:=r),rj,ie];constructor
  ·rintro((h|h)|h)
   ·exact .inr (.inl h)
   ·exact .inl h
   ·exact .inr (.inr h)
  ·rintro(h|h|h)
   ·exact .inl (.inr h)
   ·exact .inl (.inl h)
   ·exact .inr h
theorem lj:∀{r acc:List ByteArray},Srt acc→Srt (putsS acc r)
 | [],acc,h=>h
 |x::r,acc,h=>lj (r:=r) (Cb h)
theorem cm{z:ByteArray}{a b:List ByteArray}:z∈unionS a b↔z∈a∨z∈b:=by
 rw[unionS,mG,mG];simp only[Al,false_or]
theorem qH(a b:List ByteArray):Srt (unionS a b):=lj (lj List.Pairwise.nil)
theorem be{α:Type}:∀{a b:List α},a.Nodup→(∀z∈a,z∈b)→a.length≤b.length
 | [],b,_,_=>ic _
 |x::r,b,h,k=>by
  have h':=Bi.1 h;have hx:=k x ik;obtain⟨p,q,e⟩:=List.append_of_mem hx;subst e;have h1:r.length≤(p++q).length:=be h'.2 fun z hz=>by
   rcases jb.1 (k z (j4 _ hz)) with e|e
   ·exact List.mem_append_left _ e
   ·rcases ie.1 e with e|e
    ·exact absurd (by rw[←e];exact hz) h'.1
    ·exact List.mem_append_right _ e
  rw[io] at h1;rw[io,il,il];omega
theorem Py{a b:List ByteArray}(h:a.Nodup)(k:(unionS a b).length≤a.length):∀z∈b,z∈a:=fun z hz=>by
 rcases Classical.em (z∈a) with q|q
 ·exact q
 ·have:(z::a).length≤(unionS a b).length:=be (Bi.2 ⟨q,h⟩) fun y hy=>by
   rcases ie.1 hy with e|e
   ·rw[e];exact cm.2 (.inr hz)
   ·exact cm.2 (.inl e)
  rw[il] at this;omega
end Go.Proofs.YtkhblipgiijoiaaGreatDoor
namespace Go.Proofs.YtkhblipgiijoiaaGreatDoor
open Go Go.AM
set_option maxHeartbeats 4000000
variable [KR]
theorem Tb{P:Program}{t:TypeId}{g:Bool}{a b:ByteArray}:binA P .lss t g (vS a) (vS b)=some (vB (strLess a b)):=by
 simp only[binA,strLess];rfl
def ahead(x:ByteArray):List ByteArray→List ByteArray
 | []=>[]
 |a::r=>bif strLess a x then a::ahead x r else []
theorem Fc{lo:Nat}(w:Vl ByteArray)(x:ByteArray)(hN:w.l.length<2^29):∀(r:List ByteArray) (i:Nat) (s:St) (v:AV),w.l.drop i=r→i≤w.l.length→RowC s.h lo i 1 v ((w.l.take i).flatMap strA)→lo≤s.h.next→
  s.eval (.t 0)=some (w.A strA)→s.eval (.t 1)=some (vS x)→s.eval (.t 5)=some v→s.eval (.t 6)=some (vI (i:Nat))→s.defers=[]→
  Run E1 yg s fun e s'=>e=.exit 0∧∃n v',n=i+(ahead x r).length∧n≤w.l.length∧RowC s'.h lo n 1 v' ((w.l.take n).flatMap strA)∧s'.eval (.t 5)=some v'∧s'.eval (.t 6)=some (vI (n:Nat))∧s'.eval (.t 0)=some (w.A strA)∧s'.eval (.t 1)=some (vS x)∧lo≤s'.h.next∧s'.defers=[]
 | [],i,s,v,hd,hi,hr,hlo,h0,h1,h5,h6,hf=>by
  have hl:=aG hd hi;subst hl;apply aB (rfl:yg=.loop mU);simp-implicitDefEqProofs only[mU,V,↓reduceIte,rA,reduceCtorEq,h0,h1,h5,h6,hf,bA];exact⟨_,v,rfl,ib _,hr,rfl,rfl,hlo⟩
 |a::r,i,s,v,hd,hi,hr,hlo,h0,h1,h5,h6,hf=>by
  have hl:=aH hd;have hlt:=bD hl;have w1:IntKind.i64.wrap ((i:Int)+1)=((i+1:Nat):Int):=aD (n:=i+1) om;apply aB (rfl:yg=.loop mU);cases q:strLess a x with
  |false=>
   simp-implicitDefEqProofs only[mU,V,↓reduceIte,rA,reduceCtorEq,h0,h1,h5,h6,hf,hlt,w.at aK hd,strA,j6,im,Tb,q];exact⟨_,v,by simp only[ahead,q,cond_false,jf];rfl,hi,hr,rfl,rfl,hlo⟩
  |true=>
   simp-implicitDefEqProofs only[mU,V,↓reduceIte,rA,reduceCtorEq,WF,h0,h1,h5,h6,hlt,w.at aK hd,strA,j6,im,Tb,q];refine bt (k:=i) (m:=1) (lo:=lo) (v:=v) (x:=.own s.h.next 0 1 1 (some 1)) (cs:=(w.l.take i).flatMap strA) (new:=[vS a]) ?_ ?_ ?_ rfl ?_ (aX om de) ?_ ?_ ?_
   ·exact U120
   ·exact U52
   ·refine aq (rw':=true) ?_ rfl;exact U36
   ·exact fun c hc=>by rw[ig.1 hc];exact Leaf.val _
   ·exact U43
   ·exact U36
   intro v1 h1' r1 n1 o1;simp-implicitDefEqProofs only[V] at n1;simp-implicitDefEqProofs only[V,↓reduceIte,rA,h6,w1];have ht:(w.l.take (i+1)).flatMap strA=(w.l.take i).flatMap strA++[vS a]:=by
    have h2:w.l[i]? =some a:=by
     have:=List.getElem?_drop (xs:=w.l) (i:=i) (j:=0);rw[hd] at this
     simpa using this.symm
    rw[List.take_succ,h2,Bh];rfl
   refine(Fc (lo:=lo) w x hN r (i+1) _ v1 (aF hd) om ?_ ?_ ?_ ?_ ?_ ?_ ?_).mono ?_
   ·simp-implicitDefEqProofs only[V];rw[ht];exact r1
   ·exact U52
   ·exact U41
   ·exact U68
   ·exact U36
   ·exact U36
   ·exact U69
   rintro e s2 ⟨rfl,n,v2,e1,z⟩;refine⟨rfl,n,v2,?_,z⟩;rw[e1];simp only[ahead,q,cond_true,il];omega
theorem uD(x:ByteArray):∀l:List ByteArray,l.take (ahead x l).length=ahead x l
 | []=>rfl
 |a::r=>by
  rw[ahead];cases strLess a x with
  |true=>simp only[cond_true,il,jr,uD x r]
  |false=>rfl
def behind(x:ByteArray)(l:List ByteArray):List ByteArray:=l.drop (ahead x l).length
def skipS(x:ByteArray):List ByteArray→List ByteArray
 | []=>[]
 |a::r=>bif strEq a x then r else a::r
theorem pA(x:ByteArray):∀l:List ByteArray,putS x l=ahead x l++([x]++skipS x (behind x l))
 | []=>rfl
 |a::r=>by
  have ih:=pA x r;rw[putS,behind,ahead];cases h:strLess a x with
  |true=>
   simp only[cond_true,il,jq,j6];rw[ih];rfl
  |false=>
   simp only[cond_false,jf,j9,im,skipS];cases strEq a x<;>rfl
theorem kU(x:ByteArray):∀l:List ByteArray,(putS x l).length≤l.length+1
 | []=>ib _
 |a::r=>by
  have ih:=kU x r;rw[putS];cases strLess a x
  ·cases strEq a x
   ·simp only[cond_false,il];omega
   ·exact U140
  ·simp only[cond_true,il];omega
theorem Ut(a:ByteArray)(r:List ByteArray):nmV (a::r)=.imm ((a::r).flatMap strA) (a::r).length none:=rfl
theorem fB{l:List ByteArray}:lenV (nmV l)=some (vI (l.length:Nat)):=Vl.len
theorem qM{l:List ByteArray}{n:Nat}(hn:n≤l.length):∃v,sliceA' 1 (nmV l) (some n) none none=some v∧∀h,elemsOf h 1 v=some ((l.drop n).flatMap strA,(l.drop n).length):=by
 cases l with
 |nil=>
  have:n=0:=by simpa using hn
  subst this;exact⟨.val (.slice none 0 0),rfl,fun h=>rfl⟩
 |cons a r=>
  have e1:sliceB (a::r).length (a::r).length (some n) none none=some (n,(a::r).length,(a::r).length):=by
   have h1:Nat.ble n (a::r).length=true:=ir.mpr hn;have h2:Nat.ble (a::r).length (a::r).length=true:=ir.mpr (ib _);simp only[sliceB,Option.getD_some,Option.getD_none,h1,h2,Option.isNone_none,Bool.true_or,Bool.and_self,cond_true]
  have e2:Nat.ble (a::r).length (a::r).length=true:=ir.mpr (ib _);refine⟨.imm ((((a::r).flatMap strA).drop (n*1)).take (((a::r).length-n)*1)) ((a::r).length-n) none,?_,fun h=>?_⟩
  ·simp only[Ut,sliceA',e1,e2,cond_true]
  ·have h3:((a::r).flatMap strA).drop (n*1)=((a::r).drop n).flatMap strA:=jI aK (a::r) n;have h4:(((a::r).drop n).flatMap strA).length=((a::r).length-n)*1:=by rw[au aK,Az]
   rw[h3,List.take_of_length_le (by rw[h4];exact ib _),Az]
   exact eo h4
theorem qh(l:List ByteArray)(x:ByteArray)(hN:l.length<2^28)(h:AH):RunCall E1 (.f 71) [nmV l,vS x] h (nmV (putS x l)) h:=by
 refine bW kr aIK (bT Vl.leaf.tree (Tree.val _)) (fun s hs hh hd hr=>?_) h;have h0:=hs 0 _ rfl;have h1:=hs 1 _ rfl;simp-implicitDefEqProofs only[Wm,f71,V];refine(Fc (lo:=0) ⟨l,nilK,none⟩ x (by show l.length<_;omega) l 0 _ (.val (.slice none 0 0)) rfl (ic _) RowC.nil (ic _) ?_ ?_ ?_ ?_ ?_).mono ?_
 ·exact U41
 ·exact U68
 ·exact U36
 ·exact U58
 ·exact U40
 rintro e s1 ⟨rfl,n,v1,hn,hn2,r1,e5,e6,e0,e1,n1,d1⟩;rw[Nat.zero_add] at hn;have r1:RowC s1.h 0 n 1 v1 ((l.take n).flatMap strA):=r1;have hn2:n≤l.length:=hn2;have e0:s1.eval (.t 0)=some (nmV l):=e0;simp-implicitDefEqProofs only[V,↓reduceIte,rA,WF,e5,e1];refine bt (k:=n) (m:=1) (lo:=0) (v:=v1) (x:=.own s1.h.next 0 1 1 (some 1)) (cs:=(l.take n).flatMap strA) (new:=[vS x]) ?_ ?_ ?_ rfl ?_ (aX om de) ?_ ?_ ?_
 ·simp-implicitDefEqProofs only[V];exact r1.to (by show s1.h.next≤s1.h.next+1;omega) fun x _ x2=>by rw[aJ x2]
 ·exact ic _
 ·refine aq (rw':=true) ?_ rfl;exact U36
 ·exact fun c hc=>by rw[ig.1 hc];exact Leaf.val _
 ·exact U131
 ·exact U36
 intro v2 h2 r2 n2 o2;have n2:s1.h.next+1≤h2.next:=n2;have hlt':l.length-n=(l.drop n).length:=Az.symm;have w1:IntKind.i64.wrap ((n:Int)+1)=((n+1:Nat):Int):=aD (n:=n+1) om;have leafs:∀q:List ByteArray,∀c∈q.flatMap strA,Leaf c:=fun q=>cS (fun a v hv=>by rw[ig.1 hv];exact Leaf.val _) q
 have fin:∀(j:Nat) (h3:AH) (v3:AV),(l.take n++([x]++l.drop j))=putS x l→RowC h3 0 (n+1+(l.drop j).length) 1 v3 (((l.take n).flatMap strA++[vS x])++(l.drop j).flatMap strA)→Rep h3 0 h3.next 1 v3 (nmV (putS x l)):=fun j h3 v3 e r3=>by
  refine lm (lo:=0) ?_
  rw[←e,io,io,List.length_take,Nat.min_eq_left hn2,Bh,Bh];have:n+([x].length+(l.drop j).length)=n+1+(l.drop j).length:=by rw[List.length_singleton];omega
  rw[this,←List.append_assoc];exact r3
 have ta:l.take n=ahead x l:=by rw[hn];exact uD x l
 have tb:l.drop n=behind x l:=by rw[hn,behind]
 obtain⟨rr,hrr⟩:∃rr,l.drop n=rr:=⟨_,rfl⟩;cases rr with
 |nil=>
  have hl:=aG hrr hn2;have hf0:decide ((n:Int)<(l.length:Nat))=false:=by rw[hl];exact bA
  obtain⟨sv,hs1,hs2⟩:=qM (l:=l) (n:=n) hn2;simp-implicitDefEqProofs only[V,↓reduceIte,rA,reduceCtorEq,e6,e0,fB,hf0,hs1];refine bt (k:=n+1) (m:=(l.drop n).length) (lo:=0) (v:=v2) (x:=sv) (cs:=(l.take n).flatMap strA++[vS x]) (new:=(l.drop n).flatMap strA) ?_ ?_ ?_ (au aK _) (leafs _) (aX om de) ?_ ?_ ?_
  ·exact U103
  ·exact ic _
  ·exact hs2 _
  ·exact U36
  ·exact U36
  intro v3 h3 r3 n3 o3;simp-implicitDefEqProofs only[V,↓reduceIte,reduceCtorEq,d1];refine⟨_,rfl,1,de,?_⟩;refine fin n h3 v3 ?_ r3;rw[pA,ta,←tb,hrr];rfl
 |cons y r=>
  have hl:=aH hrr;have hf1:decide ((n:Int)<(l.length:Nat))=true:=bD hl;have hat:idxAddrSV 1 (nmV l) n=some (.iptr (vS y::r.flatMap strA)):=Vl.at (v:=⟨l,nilK,none⟩) aK hrr;have hnext:l.drop (n+1)=r:=aF hrr;cases q:strEq y x with
  |false=>
   obtain⟨sv,hs1,hs2⟩:=qM (l:=l) (n:=n) hn2;simp-implicitDefEqProofs only[V,↓reduceIte,rA,reduceCtorEq,e6,e0,e1,fB,hf1,hat,q,hs1];refine bt (k:=n+1) (m:=(l.drop n).length) (lo:=0) (v:=v2) (x:=sv) (cs:=(l.take n).flatMap strA++[vS x]) (new:=(l.drop n).flatMap strA) ?_ ?_ ?_ (au aK _) (leafs _) (aX om de) ?_ ?_ ?_
   ·exact U103
   ·exact ic _
   ·exact hs2 _
   ·exact U36
   ·exact U36
   intro v3 h3 r3 n3 o3;simp-implicitDefEqProofs only[V,↓reduceIte,reduceCtorEq,d1];refine⟨_,rfl,1,de,?_⟩;refine fin n h3 v3 ?_ r3;rw[pA,ta,←tb,hrr,skipS,q];rfl
  |true=>
   obtain⟨sv,hs1,hs2⟩:=qM (l:=l) (n:=n+1) om;have hl2:(l.drop (n+1)).length=l.length-(n+1):=Az;simp-implicitDefEqProofs only[V,↓reduceIte,rA,reduceCtorEq,e6,e0,e1,fB,hf1,hat,q,w1,hs1];refine bt (k:=n+1) (m:=(l.drop (n+1)).length) (lo:=0) (v:=v2) (x:=sv) (cs:=(l.take n).flatMap strA++[vS x]) (new:=(l.drop (n+1)).flatMap strA) ?_ ?_ ?_ (au aK _) (leafs _) (aX om de) ?_ ?_ ?_
   ·exact U103
   ·exact ic _
   ·exact hs2 _
   ·exact U36
   ·exact U36
   intro v3 h3 r3 n3 o3;simp-implicitDefEqProofs only[V,↓reduceIte,reduceCtorEq,d1];refine⟨_,rfl,1,de,?_⟩;refine fin (n+1) h3 v3 ?_ r3;rw[pA,ta,←tb,hrr,skipS,q,hnext];rfl
theorem vc:∀(r acc:List ByteArray),(putsS acc r).length≤acc.length+r.length
 | [],acc=>ib _
 |x::r,acc=>by
  have h1:=vc r (putS x acc);have h2:=kU x acc;rw[putsS,il];omega
theorem wK(a:List ByteArray)(hN:a.length<2^27):∀(r:List ByteArray) (i:Nat) (acc:List ByteArray) (s:St),a.drop i=r→i≤a.length→acc.length+r.length<2^28→s.eval (.t 0)=some (nmV a)→s.eval (.t 5)=some (nmV acc)→s.eval (.t 9)=some (vI (a.length:Nat))→s.eval (.t 10)=some (vI (i:Nat))→s.defers=[]→
  Run E1 yy s fun e s'=>e=.exit 0∧s'.defers=[]∧s'.eval (.t 5)=some (nmV (putsS acc r))∧s'.eval (.t 1)=s.eval (.t 1)
 | [],i,acc,s,hd,hi,hA,h0,h5,h9,h10,hf=>by
  have hl:=aG hd hi;subst hl;apply aB (rfl:yy=.loop tL);simp-implicitDefEqProofs only[tL,V,↓reduceIte,rA,h5,h9,h10,hf,bA,putsS]
 |x::r,i,acc,s,hd,hi,hA,h0,h5,h9,h10,hf=>by
  have hl:=aH hd;have hlt:=bD hl;have hA':acc.length+(r.length+1)<2^28:=hA;have w1:IntKind.i64.wrap ((i:Int)+1)=((i+1:Nat):Int):=aD (n:=i+1) om;have hat:idxAddrSV 1 (nmV a) i=some (.iptr (vS x::r.flatMap strA)):=Vl.at (v:=⟨a,nilK,none⟩) aK hd;have hp:=qh acc x om;have hpl:=kU x acc;apply aB (rfl:yy=.loop tL);simp-implicitDefEqProofs only[tL,V,↓reduceIte,rA,reduceCtorEq,h0,h5,h9,h10,hlt,hat,aA hp,w1];refine(wK a hN r (i+1) (putS x acc) _ (aF hd) om om ?_ ?_ ?_ ?_ ?_).mono ?_
  ·exact U41
  ·exact U36
  ·exact U138
  ·exact U36
  ·exact U69
  rintro e s2 ⟨rfl,d2,e5,e1⟩;simp-implicitDefEqProofs only[V,↓reduceIte,rA] at e1;exact⟨rfl,d2,e5,e1⟩
theorem wJ(a:List ByteArray)(hN:a.length<2^27):∀(r:List ByteArray) (i:Nat) (acc:List ByteArray) (s:St),a.drop i=r→i≤a.length→acc.length+r.length<2^28→s.eval (.t 1)=some (nmV a)→s.eval (.t 5)=some (nmV acc)→s.eval (.t 21)=some (vI (a.length:Nat))→s.eval (.t 22)=some (vI (i:Nat))→s.defers=[]→
  Run E1 yx s fun e s'=>e=.exit 2∧s'.defers=[]∧s'.eval (.t 5)=some (nmV (putsS acc r))
 | [],i,acc,s,hd,hi,hA,h0,h5,h9,h10,hf=>by
  have hl:=aG hd hi;subst hl;apply aB (rfl:yx=.loop tK);simp-implicitDefEqProofs only[tK,V,↓reduceIte,rA,h5,h9,h10,hf,bA,putsS]
 |x::r,i,acc,s,hd,hi,hA,h0,h5,h9,h10,hf=>by
  have hl:=aH hd;have hlt:=bD hl;have hA':acc.length+(r.length+1)<2^28:=hA;have w1:IntKind.i64.wrap ((i:Int)+1)=((i+1:Nat):Int):=aD (n:=i+1) om;have hat:idxAddrSV 1 (nmV a) i=some (.iptr (vS x::r.flatMap strA)):=Vl.at (v:=⟨a,nilK,none⟩) aK hd;have hp:=qh acc x om;have hpl:=kU x acc;apply aB (rfl:yx=.loop tK);simp-implicitDefEqProofs only[tK,V,↓reduceIte,rA,h0,h5,h9,h10,hlt,hat,aA hp,w1];refine wJ a hN r (i+1) (putS x acc) _ (aF hd) om om ?_ ?_ ?_ ?_ ?_
  ·exact U41
  ·exact U36
  ·exact U138
  ·exact U36
  ·exact U69
theorem kF(a b:List ByteArray)(ha:a.length<2^27)(hb:b.length<2^27)(h:AH):RunCall E1 (.f 39) [nmV a,nmV b] h (nmV (unionS a b)) h:=by
 refine bW kr aJK (bT Vl.leaf.tree Vl.leaf.tree) (fun s hs hh hd hr=>?_) h;have h0:=hs 0 _ rfl;have h1:=hs 1 _ rfl;have hl:=vc a [];have hl:(putsS [] a).length≤0+a.length:=hl;simp-implicitDefEqProofs only[Wz,f39,V,↓reduceIte,reduceCtorEq,h0];refine(wK a ha a 0 [] _ rfl (ic _) (by show 0+a.length<_;omega) ?_ ?_ ?_ ?_ ?_).mono ?_
 ·simp-implicitDefEqProofs only[V,↓reduceIte,reduceCtorEq,h0];rfl
 ·exact U58
 ·exact U36
 ·exact U58
 ·exact U40
 rintro e s1 ⟨rfl,d1,e5,e1⟩;simp-implicitDefEqProofs only[V,↓reduceIte,rA,h1] at e1;simp-implicitDefEqProofs only[V,↓reduceIte,WF,e1];refine(wJ b hb b 0 (putsS [] a) _ rfl (ic _) om ?_ ?_ ?_ ?_ ?_).mono ?_
 ·simp-implicitDefEqProofs only[V,↓reduceIte,rA,e1];rfl
 ·exact U131
 ·exact U36
 ·exact U58
 ·exact U81
 rintro e s2 ⟨rfl,d2,e5⟩;simp-implicitDefEqProofs only[V,↓reduceIte,reduceCtorEq,WF,e5,d2];exact⟨_,rfl,0,de,Rep.leaf Vl.leaf⟩
inductive RC (cs:List Cl) (x:ByteArray):ByteArray→Prop where
 |base {z:ByteArray}:z∈hypS x cs→RC cs x z
 |step {y z:ByteArray}:RC cs x y→z∈hypS y cs→RC cs x z
def allN:List Cl→List ByteArray
 | []=>[]
 |c::r=>needR c.hy.l++allN r
theorem kg{x z:ByteArray}:∀{l:List Cl},z∈hypS x l→z∈allN l
 | [],h=>h
 |c::r,h=>by
  rw[hypS] at h;rw[allN,jb];cases q:gives x c with
  |true=>
   rw[q,cond_true,jb] at h;exact h.imp id kg
  |false=>
   rw[q,cond_false] at h;exact .inr (kg h)
theorem gM:∀l:List Cl,(allN l).length≤totS l
 | []=>ib _
 |c::r=>by
  have h1:=gM r;have h2:=lu c.hy.l;rw[allN,totS,io];omega
theorem RC.all{cs:List Cl}{x z:ByteArray}(h:RC cs x z):z∈allN cs:=by
 cases h with
 |base h=>exact kg h
 |step _ h=>exact kg h
structure ReachL (cs:List Cl) (x:ByteArray) (L:List ByteArray):Prop where
 srt:Srt L
 mem:∀z,z∈L↔RC cs x z
structure Kn (cs:List Cl) (x:ByteArray) (K:List ByteArray):Prop where
 srt:Srt K
 base:∀z∈hypS x cs,z∈K
 rc:∀z∈K,RC cs x z
theorem Kn.len{cs:List Cl}{x:ByteArray}{K:List ByteArray}(k:Kn cs x K):K.length≤(allN cs).length:=be k.srt.nodup fun z hz=>(k.rc z hz).all
theorem Kn.next{cs:List Cl}{x y:ByteArray}{K:List ByteArray}(k:Kn cs x K)(hy:y∈K):Kn cs x (unionS K (hypS y cs)):=
 ⟨qH _ _,fun z hz=>cm.2 (.inl (k.base z hz)),fun z hz=>by
  rcases cm.1 hz with h|h
  ·exact k.rc z h
  ·exact .step (k.rc y hy) h⟩
theorem Kn.done{cs:List Cl}{x:ByteArray}{K:List ByteArray}(k:Kn cs x K)(h:∀y∈K,∀z∈hypS y cs,z∈K):ReachL cs x K:=
 ⟨k.srt,fun z=>⟨k.rc z,fun hz=>by
  induction hz with
  |base hz=>exact k.base _ hz
  |step _ hz ih=>exact h _ ih _ hz⟩⟩
theorem Kq{s:St}{H:Hn}(hH:HnT H){K r:List ByteArray}{y:ByteArray}{i:Nat}(hd:K.drop i=y::r)(hK:K.length<2^27)(hn:0<s.h.next)(g0:s.h.get 0=some (.cells H.cells true))(h2:s.eval (.t 2)=some (.ptr 0 0))(h5:s.eval (.t 5)=some (nmV K))(h7:s.eval (.t 7)=some (vI (i:Nat))):
  Run E1 Xw s fun e s'=>e=.normal∧s'.eval (.t 8)=some (nmV (unionS K (hypS y H.cs.l)))∧s'.h=s.h∧s'.defers=s.defers∧s'.eval (.t 2)=s.eval (.t 2)∧s'.eval (.t 5)=s.eval (.t 5)∧s'.eval (.t 6)=s.eval (.t 6)∧s'.eval (.t 7)=s.eval (.t 7):=by
 have vi:∀b,ids (AV.val b)=[]:=fun _=>rfl;have ei:ids (AV.agg H.cells)=[]:=H.ids0;have ni:∀l,ids (nmV l)=[]:=fun l=>Vl.ids;have n0:∀o,niceT s.h (some (.ptr 0 o))=true:=fun o=>bj hn g0 (by rw[H.ids0];rfl)
 have o0:∀o,onlyT [0] (some (.ptr 0 o))=true:=fun o=>bu (by simp[memN])
 have hat:idxAddrSV 1 (nmV K) i=some (.iptr (vS y::r.flatMap strA)):=Vl.at (v:=⟨K,nilK,none⟩) aK hd;have htot:=hH.tot;have hyl:=kf y H.cs.l;refine am ?_
 refine bG (R:=[0]) rfl (fun x hx=>by cases hx) (fun r hr'=>by
  simp only[ie,j7,or_false] at hr';omega) ?_
 simp-implicitDefEqProofs only[Xu,wpDm,aw,iv,is,footed,V,↓reduceIte,rA,h2,h5,h7,g0,n0,o0,aO (ni _),ab (ni _),az (ni _),aO ei,ab ei,hat,bF,aV,show∀l,onlyT [0] (some (AV.iptr l))=true from fun _=>rfl,az (vi _),ab (vi _)];refine⟨_,sZ H hH y,?_⟩;simp-implicitDefEqProofs only[V,aO (ni _),ab (ni _)];refine⟨_,kF K (hypS y H.cs.l) hK om,?_⟩;simp-implicitDefEqProofs only[V,aO (ni _)]
theorem wo(H:Hn)(hH:HnT H)(x:ByteArray):∀(n i:Nat) (K:List ByteArray) (m:Bool) (s:St),(allN H.cs.l).length≤i+n→i≤K.length→Kn H.cs.l x K→0<s.h.next→s.h.get 0=some (.cells H.cells true)→
  s.eval (.t 2)=some (.ptr 0 0)→s.eval (.t 5)=some (nmV K)→s.eval (.t 6)=some (vB m)→s.eval (.t 7)=some (vI (i:Nat))→s.defers=[]→
  Run E1 tZ s fun e s'=>e=.exit 2∧s'.defers=[]∧s'.h=s.h∧s'.eval (.t 2)=some (.ptr 0 0)∧∃(K':List ByteArray) (m':Bool),s'.eval (.t 5)=some (nmV K')∧s'.eval (.t 6)=some (vB m')∧Kn H.cs.l x K'∧
   ((m'=m∧K'=K∧∀y∈K.drop i,∀z∈hypS y H.cs.l,z∈K)∨(m'=true∧K.length<K'.length)):=by
 intro n
 induction n with
 |zero=>
  intro i K m s hA hi hK hn g0 h2 h5 h6 h7 hf;have hl:=hK.len;have hi':i=K.length:=by omega
  subst hi';apply aB (rfl:tZ=.loop jS);simp-implicitDefEqProofs only[jS,V,↓reduceIte,rA,h2,h5,h6,h7,hf,fB,bA];exact⟨K,m,rfl,rfl,hK,.inl ⟨rfl,rfl,fun y hy=>by rw[List.drop_length] at hy;cases hy⟩⟩
 |succ n ih=>
  intro i K m s hA hi hK hn g0 h2 h5 h6 h7 hf;obtain⟨rr,hd⟩:∃rr,K.drop i=rr:=⟨_,rfl⟩;have hl:=hK.len;have htot:=hH.tot;have hal:=gM H.cs.l;cases rr with
  |nil=>
   have hi':=aG hd hi;subst hi';apply aB (rfl:tZ=.loop jS);simp-implicitDefEqProofs only[jS,V,↓reduceIte,rA,h2,h5,h6,h7,hf,fB,bA];exact⟨K,m,rfl,rfl,hK,.inl ⟨rfl,rfl,fun y hy=>by rw[List.drop_length] at hy;cases hy⟩⟩
  |cons y r=>
   have hlt0:=aH hd;have hlt:=bD hlt0;have hy:y∈K:=List.mem_of_mem_drop (i:=i) (by rw[hd];exact ik)
   have w1:IntKind.i64.wrap ((i:Int)+1)=((i+1:Nat):Int):=aD (n:=i+1) om;have hK1:=hK.next hy;apply aB (rfl:tZ=.loop jS);simp-implicitDefEqProofs only[jS,V,↓reduceIte,rA,h5,h7,fB,hlt];refine Run.mono (Kq hH hd om ?_ ?_ ?_ ?_ ?_) ?_
   ·exact U128
   ·exact U80
   ·exact U63
   ·exact U43
   ·exact U130
   rintro e s1 ⟨rfl,e8,e0,d1,e2,e5,e6,e7⟩;simp-implicitDefEqProofs only[V,↓reduceIte,rA,h2,h5,h6,h7,hf] at e0 d1 e2 e5 e6 e7;cases q:decide (((K.length:Nat):Int)<((unionS K (hypS y H.cs.l)).length:Nat)) with
   |false=>
    have hq:=of_decide_eq_false q;have hall:=Py hK.srt.nodup (b:=hypS y H.cs.l) om;simp-implicitDefEqProofs only[V,↓reduceIte,rA,e5,e7,e8,fB,q,w1];refine(ih (i+1) K m _ om om hK ?_ ?_ ?_ ?_ ?_ ?_ ?_).mono ?_
    ·exact U133
    ·exact U134
    ·exact U77
    ·exact U131
    ·exact U55
    ·exact U36
    ·exact U81
    rintro e s2 ⟨rfl,d2,o2,t2,K',m',a1,a2,a3,a4⟩;simp-implicitDefEqProofs only[V,e0] at o2;refine⟨rfl,d2,o2,t2,K',m',a1,a2,a3,?_⟩;rcases a4 with⟨b1,b2,b3⟩|a4
    ·refine .inl ⟨b1,b2,fun z hz=>?_⟩;rw[hd] at hz;rcases ie.1 hz with e|hz
     ·rw[e];exact hall
     ·rw[←aF hd] at hz;exact b3 z hz
    ·exact .inr a4
   |true=>
    have hq:=of_decide_eq_true q;have hq':K.length<(unionS K (hypS y H.cs.l)).length:=by omega
    simp-implicitDefEqProofs only[V,↓reduceIte,rA,e5,e7,e8,fB,q,w1];refine(ih (i+1) (unionS K (hypS y H.cs.l)) true _ om om hK1 ?_ ?_ ?_ ?_ ?_ ?_ ?_).mono ?_
    ·exact U133
    ·exact U134
    ·exact U77
    ·exact U36
    ·exact U36
    ·exact U36
    ·exact U81
    rintro e s2 ⟨rfl,d2,o2,t2,K',m',a1,a2,a3,a4⟩;simp-implicitDefEqProofs only[V,e0] at o2;refine⟨rfl,d2,o2,t2,K',m',a1,a2,a3,.inr ?_⟩;rcases a4 with⟨b1,b2,b3⟩|⟨b1,b2⟩
    ·exact⟨b1,by rw[b2];exact hq'⟩
    ·exact⟨b1,om⟩
theorem Rz(H:Hn)(hH:HnT H)(x:ByteArray):∀(n:Nat) (K:List ByteArray) (s:St),(allN H.cs.l).length≤K.length+n→Kn H.cs.l x K→0<s.h.next→s.h.get 0=some (.cells H.cells true)→
  s.eval (.t 2)=some (.ptr 0 0)→s.eval (.t 5)=some (nmV K)→s.eval (.t 6)=some (vB true)→s.defers=[]→
  Run E1 tY s fun e s'=>e=.exit 0∧s'.defers=[]∧∃L,ReachL H.cs.l x L∧s'.eval (.t 5)=some (nmV L):=by
 intro n
 induction n with
 |zero=>
  intro K s hA hK hn g0 h2 h5 h6 hf;have hl:=hK.len;apply aB (rfl:tY=.loop jR);simp-implicitDefEqProofs only[jR,V,↓reduceIte,h6];refine(wo H hH x (allN H.cs.l).length 0 K false _ om (ic _) hK ?_ ?_ ?_ ?_ ?_ ?_ ?_).mono ?_
  ·exact U128
  ·exact U80
  ·exact U63
  ·exact U43
  ·exact U36
  ·exact U58
  ·exact U69
  rintro e s1 ⟨rfl,d1,o1,t2,K',m',a1,a2,a3,⟨rfl,rfl,b3⟩|⟨b1,b2⟩⟩
  ·exact U141
  ·have:=a3.len;omega
 |succ n ih=>
  intro K s hA hK hn g0 h2 h5 h6 hf;have hl:=hK.len;apply aB (rfl:tY=.loop jR);simp-implicitDefEqProofs only[jR,V,↓reduceIte,h6];refine(wo H hH x (allN H.cs.l).length 0 K false _ om (ic _) hK ?_ ?_ ?_ ?_ ?_ ?_ ?_).mono ?_
  ·exact U128
  ·exact U80
  ·exact U63
  ·exact U43
  ·exact U36
  ·exact U58
  ·exact U69
  rintro e s1 ⟨rfl,d1,o1,t2,K',m',a1,a2,a3,⟨rfl,rfl,b3⟩|⟨rfl,b2⟩⟩
  ·exact U141
  ·simp-implicitDefEqProofs only[V] at o1;simp-implicitDefEqProofs only[V,WB];refine ih K' _ om a3 ?_ ?_ t2 a1 a2 d1
   ·rw[o1];exact hn
   ·rw[o1];exact g0
theorem kQ(H:Hn)(hH:HnT H)(x:ByteArray):∃L,ReachL H.cs.l x L∧∀h,RunCall E1 (.f 11) [.agg H.cells,vS x] h (nmV L) h:=by
 have htot:=hH.tot;have hyl:=kf x H.cs.l;have hk0:Kn H.cs.l x (unionS (hypS x H.cs.l) []):=⟨qH _ _,fun z hz=>cm.2 (.inl hz),fun z hz=>by
  rcases cm.1 hz with h|h
  ·exact .base h
  ·cases h⟩
 have cu:∀h,RunCall E1 (.f 39) [nmV (hypS x H.cs.l),.val (.slice none 0 0)] h (nmV (unionS (hypS x H.cs.l) [])) h:=kF (hypS x H.cs.l) [] om de;obtain⟨r,⟨L,hL,rfl⟩,h',hrun⟩:=Yt (g:=11) (l:=[.agg H.cells,vS x]) (P:=fun r=>∃L,ReachL H.cs.l x L∧r=nmV L) aKD fun s hs hh hd=>by
  have h0:=hs 0 _ rfl;have h1:=hs 1 _ rfl;simp-implicitDefEqProofs only[Xv,f11,V,↓reduceIte,rA,h0,h1,hh,aA (sZ H hH x),aA cu];refine(Rz H hH x (allN H.cs.l).length _ _ om hk0 ?_ ?_ ?_ ?_ ?_ ?_).mono ?_
  ·exact U135
  ·exact U36
  ·exact U36
  ·exact U36
  ·exact U36
  ·exact U40
  rintro e s1 ⟨rfl,d1,L,hL,e5⟩;simp-implicitDefEqProofs only[V,↓reduceIte,reduceCtorEq,WF,e5,d1];exact⟨_,⟨L,hL,rfl⟩,rfl⟩
 have hf:freshF 11=true:=by kernel_rfl
 exact⟨L,hL,fun h=>tv (n:=1) (dh hf) (eH hf _) (bT (Tree.hn H) (Tree.val _)) hrun (Rep.leaf (lo:=0) (hi:=0) Vl.leaf) de h⟩
theorem gK(h:AH):RunCall E1 (.f 6) [] h (vB true) h:=by
 refine Ev.of fun n=>?_
 have hs:E1.shared.get 6=none:=by kernel_rfl
 have hk:E1.known 6 []=some (vB true):=by kernel_rfl
 simp only[ap,cT,hs,List.foldl_nil,mapTree,hk,isFlat,cond_true]
theorem kd{l:List AV}{r:AV}(hk:KR.k l=some r)(hl:∀v∈l,Tree v)(h:AH):RunCall E1 (.f 10) l h r h:=by
 refine Ev.of fun n=>?_
 have hs:E1.shared.get 10=none:=by kernel_rfl
 have hk:E1.known 10 l=some r:=hk;simp only[ap,cT,hs,bR hl,cK hl,hk];cases isFlat r<;>rfl
theorem Ga:∀l:List ByteArray,eqN l l=true
 | []=>rfl
 |a::r=>by rw[eqN,cj,Ga r];rfl
theorem Hg(l:List ByteArray):sameN l l=true:=by rw[sameN,Ga,decide_eq_true rfl];rfl
theorem Gb:∀l:List Int,eqI l l=true
 | []=>rfl
 |a::r=>by rw[eqI,decide_eq_true rfl,Gb r];rfl
theorem Hh(l:List Int):sameI l l=true:=by rw[sameI,Gb,decide_eq_true rfl];rfl
theorem Zd(a b:Bool):binA Tryz.prog .eql 4 false (vB a) (vB b)=some (vB (decide (a=b))):=by
 cases a<;>cases b<;>kernel_rfl
theorem aFW{a b:Bool}:binA E1.P .eql 4 false (vB a) (vB b)=some (vB (decide (a=b))):=Zd a b
theorem Kx{H:Hn}{x:ByteArray}{L:List ByteArray}(hN:L.length<2^28)(hk:KR.k [.agg H.cells,vS x]=some (nmV L))(h:AH):RunCall E1 (.f 12) [.agg H.cells,vS x] h (vB (decide ((0:Int)≤fndI x L))) h:=by
 have c1:=kd hk (bT (Tree.hn H) (Tree.val _));have c2:∀h,RunCall E1 (.f 41) [nmV L,vS x] h (vI (fndI x L)) h:=Eh ⟨L,nilK,none⟩ x (by show L.length<_;omega)
 refine ai kr aKC (bT (Tree.hn H) (Tree.val _)) rfl (Tree.val _) (fun s hs hh hd hr=>?_) h;have h0:=hs 0 _ rfl;have h1:=hs 1 _ rfl;simp-implicitDefEqProofs only[Xt,f12,V,↓reduceIte,rA,reduceCtorEq,h0,h1,hh,hd,aA c1,aA c2]
theorem Kw{H:Hn}{x:ByteArray}{L:List ByteArray}(hN:L.length<2^28)(c1:∀h,RunCall E1 (.f 11) [.agg H.cells,vS x] h (nmV L) h)(h:AH):RunCall E1 (.f 13) [.agg H.cells,vS x] h (vB (decide ((0:Int)≤fndI x L))) h:=by
 have c2:∀h,RunCall E1 (.f 42) [nmV L,vS x] h (vI (fndI x L)) h:=nY ⟨L,nilK,none⟩ x (by show L.length<_;omega)
 refine ai kr aKB (bT (Tree.hn H) (Tree.val _)) rfl (Tree.val _) (fun s hs hh hd hr=>?_) h;have h0:=hs 0 _ rfl;have h1:=hs 1 _ rfl;simp-implicitDefEqProofs only[Xs,f13,V,↓reduceIte,rA,reduceCtorEq,h0,h1,hh,hd,aA c1,aA c2]
theorem Rt{s:St}{H:Hn}{x:ByteArray}{L:List ByteArray}{n e:Int}{b:Bool}{q:List Int}(c10:∀h,RunCall E1 (.f 10) [.agg H.cells,vS x] h (nmV L) h)(c11:∀h,RunCall E1 (.f 11) [.agg H.cells,vS x] h (nmV L) h)
  (c9:∀h,RunCall E1 (.f 9) [nmV L,nmV L] h (vB true) h) (c12:∀h,RunCall E1 (.f 12) [.agg H.cells,vS x] h (vB b) h) (c13:∀h,RunCall E1 (.f 13) [.agg H.cells,vS x] h (vB b) h)
  (c15:∀h,RunCall E1 (.f 15) [.agg H.cells] h ((⟨q,nilK,none⟩:Vl Int).A numA) h) (c16:∀h,RunCall E1 (.f 16) [.agg H.cells] h ((⟨q,nilK,none⟩:Vl Int).A numA) h) (c14:∀h,RunCall E1 (.f 14) [(⟨q,nilK,none⟩:Vl Int).A numA,(⟨q,nilK,none⟩:Vl Int).A numA] h (vB true) h)
  (hn:0<s.h.next) (g0:s.h.get 0=some (.cells H.cells true)) (h1:s.eval (.t 1)=some (vS x)) (h2:s.eval (.t 2)=some (.ptr 0 0)) (h5:s.eval (.t 5)=some (vI n)) (h7:s.eval (.t 7)=some (vI n)) (h6:s.eval (.t 6)=some (vI e)) (h8:s.eval (.t 8)=some (vI e)) (hf:s.defers=[]):
  Run E1 aFD s fun e s'=>e=.normal∧s'.eval (.t 4)=some (vB true)∧s'.defers=[]:=by
 have vi:∀b,ids (AV.val b)=[]:=fun _=>rfl;have ei:ids (AV.agg H.cells)=[]:=H.ids0;have ni:∀l,ids (nmV l)=[]:=fun l=>Vl.ids;have n0:∀o,niceT s.h (some (.ptr 0 o))=true:=fun o=>bj hn g0 (by rw[H.ids0];rfl)
 have o0:∀o,onlyT [0] (some (.ptr 0 o))=true:=fun o=>bu (by simp[memN])
 have dn:decide (n=n)=true:=decide_eq_true rfl;have de:decide (e=e)=true:=decide_eq_true rfl;have db:decide (b=b)=true:=decide_eq_true rfl;refine am ?_
 have hR:∀r∈[0],r<s.h.next:=fun r hr'=>by
  simp only[ie,j7,or_false] at hr';omega
 show DrawTo E1 (eM.take 9++eM.drop 9) [] s _;refine dF (R:=[0]) (K1:=fun s'=>s'.eval (.t 36)=some (vB true)∧s'.eval (.t 1)=some (vS x)∧s'.eval (.t 2)=some (.ptr 0 0)∧s'.defers=[]) (eM.take 9) [] s s.h 9 rfl (fun x hx=>by cases hx) hR rfl rfl ?_ ?_
 ·simp-implicitDefEqProofs only[eM,jr,jg,wpDm,aw,cq,fT,sc,iv,is,footed,V,↓reduceIte,rA,h1,h2,h5,h6,h7,h8,hf,aV,az (vi _)]
 rintro s1 ⟨a36,a1,a2,d1⟩ hh1 dn1 hl1 hq1;show DrawTo E1 ((eM.drop 9).take 9++eM.drop 18) dn1 s1 _;refine dF (R:=[0]) (K1:=fun s'=>s'.eval (.t 45)=some (vB true)∧s'.eval (.t 1)=some (vS x)∧s'.eval (.t 2)=some (.ptr 0 0)∧s'.defers=[]) ((eM.drop 9).take 9) dn1 s1 s.h 18 (by rw[hl1];rfl) hq1 (by rw[hh1];exact hR) hh1 (by rw[hl1];rfl) ?_ ?_
 ·simp-implicitDefEqProofs only[eM,jr,jg,jq,j9,wpDm,aw,cq,fT,iv,is,footed,V,↓reduceIte,rA,hh1,a36,a1,a2,g0,n0,o0,aV,eX,az (vi _),aO ei,ab ei];refine⟨_,c10,?_⟩;simp-implicitDefEqProofs only[V,aO (ni _),ab (ni _)];refine⟨_,c11,?_⟩;simp-implicitDefEqProofs only[V,aO (ni _),ab (ni _)];refine⟨_,c9,?_⟩;simp-implicitDefEqProofs only[V,aV,d1]
 rintro s2 ⟨b45,b1,b2,d2⟩ hh2 dn2 hl2 hq2;show DrawTo E1 ((eM.drop 18).take 9++eM.drop 27) dn2 s2 _;refine dF (R:=[0]) (K1:=fun s'=>s'.eval (.t 54)=some (vB true)∧s'.eval (.t 1)=some (vS x)∧s'.eval (.t 2)=some (.ptr 0 0)∧s'.defers=[]) ((eM.drop 18).take 9) dn2 s2 s.h 27 (by rw[hl2];rfl) hq2 (by rw[hh2];exact hR) hh2 (by rw[hl2];rfl) ?_ ?_
 ·simp-implicitDefEqProofs only[eM,jr,jg,jq,j9,wpDm,aw,cq,fT,iv,is,footed,V,↓reduceIte,rA,hh2,b45,b1,b2,g0,n0,o0,aV,eX,az (vi _),aO ei,ab ei];refine⟨_,c12,?_⟩;simp-implicitDefEqProofs only[V,aV];refine⟨_,c13,?_⟩;simp-implicitDefEqProofs only[V,↓reduceIte,rA,hh2,b45,b1,b2,aV,aFW,d2]
 rintro s3 ⟨e54,e1,e2,d3⟩ hh3 dn3 hl3 hq3;refine bG (R:=[0]) (by rw[hl3];rfl) hq3 (by rw[hh3];exact hR) ?_
 have qi:∀l,ids ((⟨l,nilK,none⟩:Vl Int).A numA)=[]:=fun l=>Vl.ids;simp-implicitDefEqProofs only[eM,jq,j9,wpDm,aw,cq,fT,sc,iv,is,footed,V,↓reduceIte,rA,hh3,e54,e2,g0,n0,o0,aV,eX,az (vi _),aO ei,ab ei];refine⟨_,c15,?_⟩;simp-implicitDefEqProofs only[V,aO (qi _),ab (qi _)];refine⟨_,c16,?_⟩;simp-implicitDefEqProofs only[V,aO (qi _),ab (qi _)];refine⟨_,c14,?_⟩;simp-implicitDefEqProofs only[fT,V,↓reduceIte,hh3,aV,eX];refine⟨_,gK,?_⟩;simp-implicitDefEqProofs only[V,aV,d3]
theorem Uz{x:ByteArray}:lenStrV (vS x)=some (vI (x.size:Nat)):=rfl
theorem Lt:∀(l:List Cl) (i:Nat),(qrs i l).length≤l.length
 | [],i=>ic _
 |c::r,i=>by
  have:=Lt r (i+1);rw[qrs,il];cases decide (c.hd.op=5)
  ·exact U140
  ·exact U140
theorem Td{n:Nat}:∀{l:List Cl},(∀c∈l,Pr.nodesL c.hy.l≤n)→totS l≤l.length*n
 | [],_=>ic _
 |c::r,h=>by
  have h1:=h c ik;have h2:=Td (l:=r) fun c hc=>h c (j4 _ hc);rw[totS,il,Nat.succ_mul];omega
theorem aMX(H:Hn)(hH:HnB H)(x:ByteArray)(hk:SmallH H→HnT H→∃L,ReachL H.cs.l x L∧KR.k [.agg H.cells,vS x]=some (nmV L)):∃h',Ev fun n=>enterA E1 (exec E1 n) 3 [.agg H.cells,vS x] .empty=some (vB true,h'):=by
 have hcs:=hH.cs;have hhs:=hH.hs;obtain⟨b,hb,c5⟩:=Ce H om om hH.cw;obtain⟨r,rfl,ha⟩:=Yt (g:=3) (l:=[.agg H.cells,vS x]) (P:=fun r=>r=vB true) aNI fun s hs hh hd=>by
  have h0:=hs 0 _ rfl;have h1:=hs 1 _ rfl;cases b with
  |false=>
   simp-implicitDefEqProofs only[Mw,f3,V,↓reduceIte,rA,reduceCtorEq,h0,hh,hd,aA c5,aA gK];exact⟨_,rfl,rfl⟩
  |true=>
   have hS:=hb rfl;cases q:decide ((100:Int)<(x.size:Nat)) with
   |true=>
    simp-implicitDefEqProofs only[Mw,f3,V,↓reduceIte,rA,reduceCtorEq,h0,h1,hh,hd,aA c5,Uz,q,aA gK];exact⟨_,rfl,rfl⟩
   |false=>
    have hT:HnT H:=⟨hH,by
     have h1:=Td (n:=120) (l:=H.cs.l) fun c hc=>by have:=(hS.cl c hc).2.2;omega
     have h2:=hS.cs;have h3:H.cs.l.length*120≤15*120:=Nat.mul_le_mul_right _ h2;omega⟩
    obtain⟨L,hL,hKR⟩:=hk hS hT;obtain⟨L',hL',c11⟩:=kQ H hT x;have eL:L'=L:=xM _ _ hL'.srt hL.srt fun z=>(hL'.mem z).trans (hL.mem z).symm;subst eL;have htot:=hT.tot;have hal:=gM H.cs.l;have hLl:L'.length≤(allN H.cs.l).length:=be hL.srt.nodup fun z hz=>((hL.mem z).1 hz).all;have c9:∀h,RunCall E1 (.f 9) [nmV L',nmV L'] h (vB true) h:=fun h=>by
     have:=Hf ⟨L',nilK,none⟩ ⟨L',nilK,none⟩ (by show L'.length<_;omega) (by show L'.length<_;omega) h
     rw[Hg] at this;exact this
    have c14:∀h,RunCall E1 (.f 14) [(⟨qrs 0 H.cs.l,nilK,none⟩:Vl Int).A numA,(⟨qrs 0 H.cs.l,nilK,none⟩:Vl Int).A numA] h (vB true) h:=fun h=>by
     have hq:(qrs 0 H.cs.l).length<2^61:=by
      have:=Lt H.cs.l 0;omega
     have:=Ck ⟨qrs 0 H.cs.l,nilK,none⟩ ⟨qrs 0 H.cs.l,nilK,none⟩ hq hq h;rw[Hh] at this;exact this
    have c7:=zY H hH;have c8:=xa H hH;simp-implicitDefEqProofs only[Mw,f3,V,↓reduceIte,rA,h0,h1,hh,aA c5,Uz,q,aA c7,aA c8];refine Run.mono (Rt (H:=H) (x:=x) (L:=L') (n:=(checkR H).1) (e:=(checkR H).2) (q:=qrs 0 H.cs.l) (kd hKR (bT (Tree.hn H) (Tree.val _))) c11 c9 (Kx om hKR) (Kw om c11) (qg H om) (qf H om) c14 ?_ ?_ ?_ ?_ ?_ ?_ ?_ ?_ ?_) ?_
    ·exact U135
    ·exact U36
    ·exact U68
    ·exact U36
    ·exact U36
    ·exact U36
    ·exact U36
    ·exact U36
    ·exact U40
    rintro e s1 ⟨rfl,e4,d1⟩;simp-implicitDefEqProofs only[V,reduceCtorEq,e4,d1];exact⟨_,rfl,rfl⟩
 obtain⟨h',hrun⟩:=ha;exact⟨h',hrun⟩
end Go.Proofs.YtkhblipgiijoiaaGreatDoor
