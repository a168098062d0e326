/- ZCopy ZCopb ZFind ZSub ZSame ZFill ZFillb ZClone ZVoid -/
import Derived.Test.YtkhblipgiijoiaaGreatDoorU0
import Derived.Test.YtkhblipgiijoiaaGreatDoorD1
import Derived.Test.YtkhblipgiijoiaaGreatDoorN4

set_option linter.all false
open Nat renaming reduceEqDiff → rA, reduceAdd → rB, reduceMul → rC
open Int renaming reduceEq → rD, reduceLT → rE, reduceLE → rF
open And renaming intro → i9
open Bool renaming and_self → iu, true_and → jj
open List renaming all_cons → iv, all_nil → is, append_nil → iz, cons_append → j6, drop_eq_nil_of_le → B5, drop_succ_cons → jq, drop_zero → j9, length_cons → il, length_nil → jf, mem_cons → ie, mem_cons_of_mem → j4, mem_cons_self → ik, mem_nil_iff → j7, mem_singleton → ig, nil_append → im, take_succ_cons → jr, take_zero → jg
open Nat renaming beq → i8, beq_refl → jm, ble → ia, ble_eq → ir, le_refl → ib, zero_add → je, zero_le → ic
open Option renaming isSome_some → C1
namespace Go.Proofs.YtkhblipgiijoiaaGreatDoor
open Go Go.AM
set_option maxHeartbeats 4000000
variable [KR]
theorem bj{h:AH}{b o:Nat}{cs:List AV}(hb:b<h.next)(g:h.get b=some (.cells cs true))(hi:below h.next (idsL cs)=true):niceT h (some (.ptr b o))=true:=by
 have:Nat.blt b h.next=true:=Nat.blt_eq.mpr hb;simp only[niceT,niceV,ids,iv,is,this,g,hi,iu]
theorem aO{h:AH}{v:AV}(hi:ids v=[]):niceT h (some v)=true:=by simp only[niceT,niceV,hi,is]
theorem ab{v:AV}(hi:ids v=[]):plainT (some v)=true:=by simp only[plainT,hi];rfl
theorem az{R:List Nat}{v:AV}(hi:ids v=[]):onlyT R (some v)=true:=by simp only[onlyT,hi,is]
theorem bu{R:List Nat}{b o:Nat}(hi:memN R b=true):onlyT R (some (.ptr b o))=true:=by simp only[onlyT,ids,iv,is,hi,iu]
theorem Pr.idsA(p:Pr):ids p.av=[]:=by show idsL p.cells=[];exact p.ids0
theorem Jk{s:St}{C B lo k:Nat}{v:AV}{cs X:List AV}{q q':Pr}{a1 a2:AV}(hr:RowC s.h lo k 4 v cs)(hC:C<lo)(hlo:lo≤s.h.next)(hg:s.h.get C=some (.cells (X++[v]) true))(hX:X.length=3)(iX:idsL X=[])(hB:B<s.h.next)(gB:s.h.get B=some (.cells q.cells true))(hk:k<2^30)
  (hc:∀h,RunCall E1 (.f 88) [q.av] h q'.av h) (h3:s.eval (.t 3)=some (.ptr C 0)) (h5:s.eval (.t 5)=some (.ptr B 0)):
  Run E1 Wb s fun e s'=>e=.normal∧(∃v',RowC s'.h lo (k+1) 4 v' (cs++q'.cells)∧s'.h.get C=some (.cells (X++[v']) true))∧s.h.next≤s'.h.next∧(∀x,x<lo→x≠C→s'.h.get x=s.h.get x)∧s'.defers=s.defers∧∀i,i<20→s'.eval (.t i)=s.eval (.t i):=by
 have hCn:C<s.h.next:=by omega
 have hbc:below s.h.next (idsL (X++[v]))=true:=by
  rw[fm,iX];simp only[idsL,iz,im];exact hr.below
 have n1:∀o,niceT s.h (some (.ptr C o))=true:=fun o=>bj hCn hg hbc;have n2:∀o,niceT s.h (some (.ptr B o))=true:=fun o=>bj hB gB (by rw[q.ids0];rfl)
 have o1:∀o,onlyT [C,B] (some (.ptr C o))=true:=fun o=>bu (by simp[memN])
 have o2:∀o,onlyT [C,B] (some (.ptr B o))=true:=fun o=>bu (by simp[memN])
 have hdrop:cfB (some (.cells (X++[v]) true)) 3=some [v]:=by
  have hle:ia 3 (X++[v]).length=true:=ir.mpr (by rw[List.length_append,hX];omega)
  simp only[cfB,hle,cond_true];rw[←hX,List.drop_left]
 refine am ?_
 show DrawTo E1 (yR.take 4++yR.drop 4) [] s _;refine fi (R:=[C,B]) _ [] s rfl (fun x hx=>by cases hx) (fun r hr'=>by
  simp only[ie,j7,or_false] at hr';rcases hr' with rfl|rfl
  ·exact hCn
  ·exact hB) ?_
 simp-implicitDefEqProofs only[yR,jr,jg,jq,j9,wpDm,aw,iv,is,footed,V,↓reduceIte,rA,h3,h5,hg,gB,hdrop,n1,n2,o1,o2,aO q.idsA,ab q.idsA];refine⟨_,hc,fun _ done hdl hdm=>?_⟩;refine Rk (C:=C) (k:=k) (lo:=lo) (v:=v) (w:=q'.av) (cs:=cs) (new:=q'.cells) (X:=X) (Y:=[]) hr hC hlo hg hX iX rfl ?_ ?_ rfl q'.leaves q'.idsA q'.len rfl ?_ (aX om de) (fun j hj=>?_) de de de de ?_
 ·exact U36
 ·exact U36
 ·exact U49
 ·have hdl:done.length=4:=hdl;simp only[ie,j7,or_false] at hj;omega
 intro h' v' x y u r2 g2 n2 o2;refine⟨⟨v',r2,g2⟩,n2,o2,rfl,fun i hi=>?_⟩;simp only[St.put,St.eval_set,St.eval_toH]
 repeat rw[if_neg om]
theorem gD(l:List Pr)(k:Pr):Pr.cellsL (l++[k])=Pr.cellsL l++k.cells:=by
 induction l with
 |nil=>simp only[im,Pr.cellsL,iz]
 |cons a l ih=>simp only[j6,Pr.cellsL,ih,List.append_assoc]
theorem Qa{l r:List Pr}{k:Pr}{i:Nat}(h:l.drop i=k::r)(F:Pr→Pr):(l.take (i+1)).map F=(l.take i).map F++[F k]:=by
 have:l.take (i+1)=l.take i++[k]:=by
  have h2:l[i]? =some k:=by
   have:=List.getElem?_drop (xs:=l) (i:=i) (j:=0);rw[h] at this
   simpa using this.symm
  rw[List.take_succ,h2];rfl
 rw[this,List.map_append];rfl
theorem Pr.leavesL:∀l:List Pr,∀v∈Pr.cellsL l,Leaf v
 | [],v,h=>by cases h
 |k::r,v,h=>by
  rw[Pr.cellsL] at h;rcases List.mem_append.1 h with h|h
  ·exact k.leaves v h
  ·exact Pr.leavesL r v h
theorem sn{C lo:Nat}{l:List Pr}{L:AV}{X:List AV}{F:Pr→Pr}{a1 a2:AV}(hL:∀i k r,l.drop i=k::r→idxAddrSV 4 L i=some (.iptr (k.cells++Pr.cellsL r)))(hC:C<lo)(hX:X.length=3)(iX:idsL X=[])(hN:l.length<2^29)(i1:ids a1=[])(i2:ids a2=[]):
  ∀(r:List Pr) (i:Nat) (s:St) (v:AV),l.drop i=r→i≤l.length→(∀k∈r,∀h,RunCall E1 (.f 88) [k.av] h (F k).av h)→RowC s.h lo i 4 v (Pr.cellsL ((l.take i).map F))→lo≤s.h.next→s.h.get C=some (.cells (X++[v]) true)→
  s.eval (.t 3)=some (.ptr C 0)→s.eval (.t 14)=some L→s.eval (.t 15)=some (vI (l.length:Nat))→s.eval (.t 16)=some (vI (i:Nat))→(h1:88=88∨s.eval (.t 1)=some a1)→(h2:88=88∨s.eval (.t 2)=some a2)→s.defers=[]→
  Run E1 yS s fun e s'=>e=.exit 0∧(∃v',RowC s'.h lo l.length 4 v' (Pr.cellsL (l.map F))∧s'.h.get C=some (.cells (X++[v']) true))∧s.h.next≤s'.h.next∧(∀x,x<lo→x≠C→s'.h.get x=s.h.get x)∧s'.defers=[]∧∀j,j<16→j≠5→s'.eval (.t j)=s.eval (.t j)
 | [],i,s,v,hd,hi,hc,hr,hlo,hg,h3,h6,h7,h8,h1,h2,hf=>by
  have hl:i=l.length:=by
   have:=List.drop_eq_nil_iff.1 hd;omega
  subst hl;have hlt:decide (((l.length:Nat):Int)<(l.length:Nat))=false:=by simp
  rw[List.take_length] at hr;apply aB (rfl:yS=.loop sq);simp-implicitDefEqProofs only[sq,V,↓reduceIte,h7,h8,hf,hlt];refine⟨⟨v,hr,hg⟩,ib _,fun x _ _=>by first|rfl|trivial,fun j hj hj2=>?_⟩
  rw[if_neg om]
 |k::r,i,s,v,hd,hi,hc,hr,hlo,hg,h3,h6,h7,h8,h1,h2,hf=>by
  have hl:i<l.length:=by
   rcases Nat.lt_or_ge i l.length with x|x
   ·exact x
   ·exact U35
  have hlt:decide ((i:Int)<(l.length:Nat))=true:=by simp;omega
  have hd':l.drop (i+1)=r:=by rw[←List.drop_drop,hd];rfl
  have hs:∀h:AH,storeH (h.alloc (.cells [vI 0,vS ⟨#[]⟩,vI 0,.val (.slice none 0 0)] true)) 4 (.ptr h.next 0) k.cells=_:=fun h=>cL rfl k.len;have w1:IntKind.i64.wrap ((i:Int)+1)=((i+1:Nat):Int):=aD (n:=i+1) om;have hCn:C<s.h.next:=by omega
  apply aB (rfl:yS=.loop sq);simp-implicitDefEqProofs only[sq,V,↓reduceIte,rA,h6,h7,h8,hlt,hL i k r hd,hs];have h1:88=88∨s.eval (.t 1)=some a1:=h1;have h2:88=88∨s.eval (.t 2)=some a2:=h2;refine(Jk (C:=C) (B:=s.h.next) (lo:=lo) (k:=i) (v:=v) (cs:=Pr.cellsL ((l.take i).map F)) (X:=X) (q:=k) (q':=F k) (a1:=a1) (a2:=a2) ?_ hC ?_ ?_ hX iX ?_ ?_ om (hc k ik) ?_ ?_).mono ?_
  ·exact U51
  ·exact U52
  ·simp-implicitDefEqProofs only[V];rw[if_neg om,if_neg om];exact hg
  ·exact U52
  ·exact U36
  ·exact U49
  ·exact U36
  rintro e s1 ⟨rfl,⟨v1,r1,g1⟩,n1,o1,d1,t1⟩;simp-implicitDefEqProofs only[V] at n1 o1 d1 t1;have e3:s1.eval (.t 3)=some (.ptr C 0):=by rw[t1 _ de];simp-implicitDefEqProofs only[↓reduceIte,rA,h3]
  have e6:s1.eval (.t 14)=some L:=by rw[t1 _ de];simp-implicitDefEqProofs only[↓reduceIte,rA,h6]
  have e7:s1.eval (.t 15)=some (vI (l.length:Nat)):=by rw[t1 _ de];simp-implicitDefEqProofs only[↓reduceIte,rA,h7]
  have e8:s1.eval (.t 16)=some (vI (i:Nat)):=by rw[t1 _ de];simp-implicitDefEqProofs only[↓reduceIte,rA,h8]
  have e1:s1.eval (.t 1)=s.eval (.t 1):=by rw[t1 _ de];simp-implicitDefEqProofs only[↓reduceIte,rA]
  have e2:s1.eval (.t 2)=s.eval (.t 2):=by rw[t1 _ de];simp-implicitDefEqProofs only[↓reduceIte,rA]
  simp-implicitDefEqProofs only[V,↓reduceIte,e8,w1];refine(sn hL hC hX iX hN i1 i2 r (i+1) _ v1 hd' om (fun k' hk=>hc k' (j4 _ hk)) ?_ ?_ ?_ ?_ ?_ ?_ ?_ ?_ ?_ ?_).mono ?_
  ·simp-implicitDefEqProofs only[V];rw[Qa hd,gD];exact r1
  ·exact U52
  ·exact U53
  ·exact U54
  ·exact U55
  ·simp-implicitDefEqProofs only[V,↓reduceIte,rA,e7]
  ·exact U36
  ·exact h1.imp id fun q=>by
    simp-implicitDefEqProofs only[V,↓reduceIte,rA,e1];exact q
  ·exact h2.imp id fun q=>by
    simp-implicitDefEqProofs only[V,↓reduceIte,rA,e2];exact q
  ·exact U56
  rintro e s2 ⟨rfl,⟨v2,r2,g2⟩,n2,o2,d2,t2⟩;simp-implicitDefEqProofs only[V] at n2 o2 t2;refine⟨rfl,⟨v2,r2,g2⟩,om,fun x x1 x2=>?_,d2,fun j hj hj2=>?_⟩
  ·rw[o2 x x1 x2,o1 x x1 x2,if_neg om,if_neg om]
  ·rw[t2 j hj hj2];rw[if_neg om,if_neg om,t1 j om]
   repeat rw[if_neg om]
def putC(z:List AV)(o n:Nat)(l:List AV):Option (List AV):=bif i8 l.length n&&ia (o+n) z.length then some (putAt z o l) else none
def fillP(s:St)(r:List (Nat×Nat×Opd)):Option (List AV)→Option (List AV)
 |some z=>fill s z r
 |none=>none
def fillC(s:St)(z:List AV)(o n:Nat)(r:List (Nat×Nat×Opd)):Option (List AV)→Option (List AV)
 |some l=>fillP s r (putC z o n l)
 |none=>none
def fillK(s:St)(z:List AV)(o n:Nat)(r:List (Nat×Nat×Opd)):Option AV→Option (List AV)
 |some v=>fillC s z o n r v.cells
 |none=>none
theorem Vq{s:St}{z:List AV}:fill s z []=some z:=by cases z<;>rfl
theorem Rn{s:St}{z:List AV}{o n:Nat}{x:Opd}{r:List (Nat×Nat×Opd)}:fill s z ((o,n,x)::r)=fillK s z o n r (s.eval x):=by
 cases he:s.eval x with
 |none=>simp only[fill,he,fillK]
 |some v=>
  cases hv:v.cells with
  |none=>simp only[fill,he,hv,fillK,fillC]
  |some l=>
   simp only[fill,he,hv,fillK,fillC,putC];cases i8 l.length n&&ia (o+n) z.length<;>rfl
theorem Jf{s:St}{z:List AV}{o n:Nat}{r:List (Nat×Nat×Opd)}{v:AV}:fillK s z o n r (some v)=fillC s z o n r v.cells:=rfl
theorem Jg{s:St}{z:List AV}{o n:Nat}{r:List (Nat×Nat×Opd)}{l:List AV}:fillC s z o n r (some l)=fillP s r (putC z o n l):=rfl
theorem Je{s:St}{z:List AV}{r:List (Nat×Nat×Opd)}:fillP s r (some z)=fill s z r:=rfl
theorem aMG{a x:AV}{z:List AV}:putC (a::z) 0 1 [x]=some (x::z):=by
 have h:ia (0+1) (a::z).length=true:=ir.mpr (by simp)
 simp only[putC,il,jf];rfl
theorem aMF{a b x:AV}{z:List AV}:putC (a::b::z) 1 1 [x]=some (a::x::z):=by
 have h:ia (1+1) (a::b::z).length=true:=ir.mpr (by simp)
 simp only[il] at h;simp only[putC,il,jf,h];rfl
theorem aME{a b c x:AV}{z:List AV}:putC (a::b::c::z) 2 1 [x]=some (a::b::x::z):=by
 have h:ia (2+1) (a::b::c::z).length=true:=ir.mpr (by simp)
 simp only[il] at h;simp only[putC,il,jf,h];rfl
theorem aMD{a b c d x:AV}{z:List AV}:putC (a::b::c::d::z) 3 1 [x]=some (a::b::c::x::z):=by
 have h:ia (3+1) (a::b::c::d::z).length=true:=ir.mpr (by simp)
 simp only[il] at h;simp only[putC,il,jf,h];rfl
theorem aFX{a b c d:AV}:takeN (some 4) [a,b,c,d]=some (.agg [a,b,c,d]):=rfl
theorem aFZ{h:AH}{b n:Nat}{cs l:List AV}(g:h.get b=some (.cells cs true))(hc:cs.length=n)(hl:l.length=n):storeH h n (.ptr b 0) l=some (h.put b (some (.cells l true))):=by
 have h1:i8 l.length n=true:=by rw[hl];exact jm n
 have h2:ia (0+n) cs.length=true:=ir.mpr om;have h3:putAt cs 0 l=l:=by
  simp only[putAt,jg,im,je];rw[B5 om,iz]
 simp only[storeH,g,h1,h2,iu,cond_true,h3]
def stK(h:AH)(b n off:Nat)(l:List AV):Option Blk→Option AH
 |some (.cells cs true)=>bif i8 l.length n&&ia (off+n) cs.length then some (h.put b (some (.cells (putAt cs off l) true))) else none
 |_=>none
theorem Zi{h:AH}{b n off:Nat}{l:List AV}:storeH h n (.ptr b off) l=stK h b n off l (h.get b):=by
 cases hg:h.get b with
 |none=>simp only[storeH,hg,stK]
 |some k=>
  cases k with
  |cells cs rw=>cases rw<;>simp only[storeH,hg,stK]
  |_=>simp only[storeH,hg,stK]
theorem dA{h:AH}{b n:Nat}{cs l:List AV}(hc:cs.length=n)(hl:l.length=n):stK h b n 0 l (some (.cells cs true))=some (h.put b (some (.cells l true))):=by
 have h1:i8 l.length n=true:=by rw[hl];exact jm n
 have h2:ia (0+n) cs.length=true:=ir.mpr om;have h3:putAt cs 0 l=l:=by
  simp only[putAt,jg,im,je];rw[B5 om,iz]
 simp only[stK,h1,h2,iu,cond_true,h3]
theorem aLU{h:AH}{b:Nat}{a0 a1 a2 a3 x0 x1 x2 x3:AV}:stK h b 4 0 [x0,x1,x2,x3] (some (.cells [a0,a1,a2,a3] true))=some (h.put b (some (.cells [x0,x1,x2,x3] true))):=dA rfl rfl
theorem aLT{h:AH}{b:Nat}{a0 a1 a2 a3:AV}{p:Pr}:stK h b 4 0 p.cells (some (.cells [a0,a1,a2,a3] true))=some (h.put b (some (.cells p.cells true))):=dA rfl p.len
theorem aLV{h:AH}{b:Nat}{a x:AV}{z:List AV}:stK h b 1 0 [x] (some (.cells (a::z) true))=some (h.put b (some (.cells (x::z) true))):=by
 have h2:ia (0+1) (a::z).length=true:=ir.mpr (by simp)
 simp only[stK,h2];rfl
theorem aAZ{n:Nat}:i8 n n=true:=jm n
theorem aMR:i8 1 2=false:=rfl
theorem aMO:i8 2 1=false:=rfl
theorem aMS:i8 1 0=false:=rfl
theorem aMV:i8 0 1=false:=rfl
theorem aMP:i8 2 0=false:=rfl
theorem aMU:i8 0 2=false:=rfl
theorem aMK:i8 3 2=false:=rfl
theorem aMN:i8 2 3=false:=rfl
theorem aML:i8 3 1=false:=rfl
theorem aMQ:i8 1 3=false:=rfl
theorem aMM:i8 3 0=false:=rfl
theorem aMT:i8 0 3=false:=rfl
def WB:=i9 @aAZ (i9 aMR (i9 aMO (i9 aMS (i9 aMV (i9 aMP (i9 aMU (i9 aMK (i9 aMN (i9 aML (i9 aMQ (i9 aMM aMT)))))))))))
def WF:=i9 WB (i9 @Zi (i9 @aLU (i9 @aLT (i9 @aLV (i9 @Vq (i9 @Rn (i9 @Jf (i9 @Jg (i9 @Je (i9 @aMG (i9 @aMF (i9 @aME (i9 @aMD @aFX)))))))))))))
theorem bW{g:Nat}{l:List AV}{a:AFun}{t:AV}(hs:freshF g=true)(hf:funOf Tryz.prog g=some a)(hl:∀v∈l,Tree v)
  (H:∀s:St,(∀i v,(enterTm l 0 .nil).get i=some v→s.eval (.t i)=some v)→s.h=.empty→s.defers=[]→s.round=none→wp E1 a.body s fun e s=>(e=.normal∨e=.ret)∧s.defers=[]∧∃r,resultsA E1.globs s a.res=some [r]∧∃n,n<1000∧Rep s.h 0 s.h.next n r t) (h:AH):
  RunCall E1 (.f g) l h t h:=by
 obtain⟨v,h',⟨n,hn,hr⟩,hrun⟩:=tp (g:=g) (l:=l) (h:=.empty) (a:=a) (fun v h'=>∃n,n<1000∧Rep h' 0 h'.next n v t) hf fun s h1 h2 h3 h4=>(ay _ _ _ (H s h1 h2 h3 h4)).mono fun e s' ⟨k1,k2,r,k3,k4⟩=>⟨k1,k2,[r],k3,k4⟩;exact tv (dh hs) (eH hs _) hl hrun hr (Nat.lt_trans hn de) h
def nilK:Option (Option Addr×Nat):=some (none,0)
theorem aGR{h:AH}{lo k:Nat}{v:AV}{o n:Int}{nm:ByteArray}{l:List Pr}(r:RowC h lo k 4 v (Pr.cellsL l))(hk:l.length=k):Rep h 0 h.next 2 (.agg [vI o,vS nm,vI n,v]) (Pr.mk o nm n l nilK none).av:=by
 have e:(Pr.mk o nm n l nilK none).kids=(bif i8 k 0 then .val (.slice none 0 0) else .imm (Pr.cellsL l) k none):=by
  subst hk;simp only[Pr.kids,kidsA,nilK,C1,jj,noKids]
 have:=Rep.agg (h:=h) (lo:=0) (hi:=h.next) (n:=1) (ps:=[(vI o,vI o),(vS nm,vS nm),(vI n,vI n),(v,(Pr.mk o nm n l nilK none).kids)]) (fun p hp=>by
  simp only[ie,j7,or_false] at hp;rcases hp with rfl|rfl|rfl|rfl
  ·exact Rep.leaf (Leaf.val _)
  ·exact Rep.leaf (Leaf.val _)
  ·exact Rep.leaf (Leaf.val _)
  ·rw[e];exact Rep.to (ic _) (ib _) (fun b _ _ cs rw g=>⟨rw,g⟩) (ib _) r.rep)
 simp only[List.map_cons,List.map_nil] at this;show Rep _ _ _ _ _ (.agg (Pr.mk o nm n l nilK none).cells);rw[Pr.cells_eq];exact this
mutual
def Pr.cp:Pr→Pr
 |.mk o s n ks _ _=>.mk o s n (Pr.cpL ks) nilK none
def Pr.cpL:List Pr→List Pr
 | []=>[]
 |k::r=>k.cp::Pr.cpL r
end
theorem Pb:∀l:List Pr,Pr.cpL l=l.map Pr.cp
 | []=>rfl
 |k::r=>by rw[Pr.cpL,Pb r];rfl
theorem dJ(p:Pr):∀i k r,p.ks.drop i=k::r→idxAddrSV 4 p.kids i=some (.iptr (k.cells++Pr.cellsL r)):=fun _ _ _ h=>dt h
theorem Gf(p:Pr)(hN:p.ks.length<2^29)(hc:∀k∈p.ks,∀h,RunCall E1 (.f 88) [k.av] h k.cp.av h)(h:AH):RunCall E1 (.f 88) [p.av] h (Pr.mk p.op p.nm p.n (p.ks.map Pr.cp) nilK none).av h:=by
 refine bW kr aHY (aN (Tree.pr p)) (fun s hs hh hd hr=>?_) h;have h0:=hs 0 _ rfl;simp-implicitDefEqProofs only[Wa,f88,V,↓reduceIte,rA,rB,reduceCtorEq,WF,h0,hh];refine(sn (C:=2) (lo:=3) (l:=p.ks) (L:=p.kids) (X:=[vI p.op,vS p.nm,vI p.n]) (F:=Pr.cp) (a1:=p.av) (a2:=p.av) (dJ p) de rfl rfl hN p.idsA p.idsA p.ks 0 _ (.val (.slice none 0 0)) rfl (ic _) hc RowC.nil ?_ ?_ ?_ ?_ ?_ ?_ (.inl rfl) (.inl rfl) ?_).mono ?_
 ·exact U57
 ·exact U58
 ·exact U36
 ·exact U36
 ·exact U36
 ·exact U58
 ·exact U40
 rintro e s1 ⟨rfl,⟨v1,r1,g1⟩,n1,o1,d1,t1⟩;simp only[j6,im] at g1;have g0:s1.h.get 1=some (.cells [vI 0,vS ⟨#[]⟩,vI 0,.val (.slice none 0 0)] true):=by
  rw[o1 1 de de];exact U36
 have e3:s1.eval (.t 3)=some (.ptr 2 0):=by rw[t1 3 de de];simp-implicitDefEqProofs only[V,↓reduceIte,rA]
 have e2:s1.eval (.t 2)=some (.ptr 1 0):=by rw[t1 2 de de];simp-implicitDefEqProofs only[V,↓reduceIte,rA]
 simp-implicitDefEqProofs only[V,↓reduceIte,rA,reduceCtorEq,WF,e3,e2,g1,g0,d1];refine⟨_,rfl,2,de,?_⟩;have hn:3≤s1.h.next:=n1;exact aGR (lo:=3) (r1.to (ib _) fun x x1 x2=>aS om) (List.length_map _)
mutual
theorem iS:∀(p:Pr),p.nodes<2^29→∀h,RunCall E1 (.f 88) [p.av] h p.cp.av h
 |.mk o s n ks nl cap,hb,h=>by
  have hb':1+Pr.nodesL ks<2^29:=hb;have hk:ks.length≤Pr.nodesL ks:=an ks;have:=Gf (.mk o s n ks nl cap) (by show ks.length<_;omega) (f6 ks om) h
  rw[show(Pr.mk o s n ks nl cap).cp=Pr.mk o s n (Pr.cpL ks) nilK none from rfl,Pb];exact this
theorem f6:∀(l:List Pr),Pr.nodesL l<2^29→∀k∈l,∀h,RunCall E1 (.f 88) [k.av] h k.cp.av h
 | [],_,k,hk,_=>by cases hk
 |p::r,hb,k,hk,h=>by
  have hb':p.nodes+Pr.nodesL r<2^29:=hb;rcases ie.1 hk with e|hk
  ·have:=iS p om h;rw[e];exact this
  ·exact f6 r om k hk h
end
theorem mq{p:Pr}(hb:p.nodes<2^29){r:List AOper}{s:St}{dst:Option Nat}{K:St→Prop}:aM E1 88 r s dst K (some [p.av])=AM.wpOps E1 r (s.put dst p.cp.av) K:=aA (iS p hb)
theorem Fb(v:Vl ByteArray)(b:ByteArray)(hN:v.l.length<2^61):∀(r:List ByteArray) (i:Nat) (s:St),v.l.drop i=r→i≤v.l.length→s.eval (.t 0)=some (v.A strA)→s.eval (.t 6)=some (v.A strA)→s.eval (.t 1)=some (vS b)→s.eval (.t 7)=some (vI (v.l.length:Nat))→s.eval (.t 8)=some (vI (i:Nat))→s.defers=[]→
  Run E1 yf s fun e s'=>s'.defers=[]∧((fnd b r=none∧e=.exit 0)∨(∃j,fnd b r=some j∧e=.ret∧s'.eval (.t 4)=some (vI ((i+j:Nat):Int))))
 | [],i,s,hr,hi,h0,h6,h1,h7,h8,hd=>by
  have hl:=aG hr hi;subst hl;apply aB (rfl:yf=.loop mT);simp-implicitDefEqProofs only[mT,V,↓reduceIte,rA,reduceCtorEq,h7,h8,hd,bA,fnd]
 |a::r,i,s,hr,hi,h0,h6,h1,h7,h8,hd=>by
  have hl:=aH hr;have hlt:=bD hl;have w1:IntKind.i64.wrap ((i:Int)+1)=((i+1:Nat):Int):=aD (n:=i+1) om;apply aB (rfl:yf=.loop mT);cases hq:strEq b a with
  |true=>
   simp-implicitDefEqProofs only[mT,V,↓reduceIte,rA,reduceCtorEq,h0,h1,h7,h8,hd,hlt,v.at aK hr,nG,hq,fnd];exact .inr ⟨0,rfl,rfl⟩
  |false=>
   simp-implicitDefEqProofs only[mT,V,↓reduceIte,rA,reduceCtorEq,h0,h1,h7,h8,hlt,v.at aK hr,nG,hq,fnd,w1];refine(Fb v b hN r (i+1) _ (aF hr) om ?_ ?_ ?_ ?_ ?_ ?_).mono ?_
   all_goals try simp-implicitDefEqProofs only[V,↓reduceIte,rA,reduceCtorEq,h0,h1,h6,h7,hd]
   rintro e s1 ⟨d1,⟨q,rfl⟩|⟨j,q,rfl,q2⟩⟩
   ·exact⟨d1,.inl ⟨by rw[q];rfl,rfl⟩⟩
   ·exact⟨d1,.inr ⟨j+1,by rw[q];rfl,rfl,by rw[q2,show i+(j+1)=i+1+j by omega]⟩⟩
theorem yI(v:Vl ByteArray)(b:ByteArray)(hN:v.l.length<2^61)(h:AH):RunCall E1 (.f 72) [v.A strA,vS b] h (vI (fndI b v.l)) h:=by
 refine ai kr aIJ (bT Tree.vl (Tree.val _)) rfl (Tree.val _) (fun s hs hh hd hr=>?_) h;have h0:=hs 0 _ rfl;have h1:=hs 1 _ rfl;simp-implicitDefEqProofs only[Wl,f72,V,↓reduceIte,reduceCtorEq,h0];refine(Fb v b hN v.l 0 _ rfl (ic _) ?_ ?_ ?_ ?_ ?_ ?_).mono ?_
 all_goals try simp-implicitDefEqProofs only[V,↓reduceIte,rA,reduceCtorEq,h0,h1,hd]
 ·rfl
 rintro e s1 ⟨d1,⟨q,rfl⟩|⟨j,q,rfl,q2⟩⟩
 ·simp-implicitDefEqProofs only[V,↓reduceIte,reduceCtorEq,WB,d1,fndI,q]
 ·simp-implicitDefEqProofs only[V,reduceCtorEq,d1,fndI,q,q2]
theorem Eh(v:Vl ByteArray)(b:ByteArray)(hN:v.l.length<2^61)(h:AH):RunCall E1 (.f 41) [v.A strA,vS b] h (vI (fndI b v.l)) h:=by
 refine ai kr aJI (bT Tree.vl (Tree.val _)) rfl (Tree.val _) (fun s hs hh hd hr=>?_) h;have h0:=hs 0 _ rfl;have h1:=hs 1 _ rfl;simp-implicitDefEqProofs only[Wx,f41,V,↓reduceIte,rA,reduceCtorEq,h0,h1,hd,aA (yI v b hN)]
set_option maxHeartbeats 400000
def pickS(o:Int)(s:ByteArray)(l:List ByteArray)(bys:List Pr):Option Pr:=bif decide (o=3) then(fnd s l).bind (fun i=>bys[i]?) else none
mutual
def Pr.sub(l:List ByteArray)(bys:List Pr):Pr→Pr
 |.mk o s n ks _ _=>match pickS o s l bys with
  |some q=>q.cp
  |none=>.mk o s n (Pr.subL l bys ks) nilK none
def Pr.subL(l:List ByteArray)(bys:List Pr):List Pr→List Pr
 | []=>[]
 |k::r=>k.sub l bys::Pr.subL l bys r
end
theorem dC{h:AH}{lo hi:Nat}{cs:List AV}(hc:∀c∈cs,Leaf c):Rep h lo hi 1 (.agg cs) (.agg cs):=by
 have:=Rep.agg (h:=h) (lo:=lo) (hi:=hi) (n:=0) (ps:=cs.map fun c=>(c,c)) (fun p hp=>by
  obtain⟨c,hc',rfl⟩:=List.mem_map.1 hp;exact Rep.leaf (hc c hc'))
 rwa [p7,pz] at this
mutual
def Pr.same:Pr→Pr→Bool
 |.mk o s n ks _ _,q=>decide (o=q.op)&&(strEq s q.nm&&(decide (n=q.n)&&(decide (ks.length=q.ks.length)&&Pr.sameL ks q.ks)))
def Pr.sameL:List Pr→List Pr→Bool
 |k::r,k'::r'=>k.same k'&&Pr.sameL r r'
 |_,_=>true
end
theorem Jq{s:St}{p q:Pr}{i:Nat}{k k':Pr}{r r':List Pr}{x:Bool}(h1:p.ks.drop i=k::r)(h2:q.ks.drop i=k'::r')(hc:∀h,RunCall E1 (.f 48) [k.av,k'.av] h (vB x) h)
  (e0:s.eval (.t 0)=some p.kids) (e1:s.eval (.t 1)=some q.kids) (e2:s.eval (.t 2)=some (.fn (.func 48) [] [])) (e7:s.eval (.t 7)=some (vI (i:Nat))):
  Run E1 Wi s fun e s'=>e=.normal∧s'.eval (.t 28)=some (vB (!x))∧s'.h=s.h∧s'.defers=s.defers∧∀j,j<18→s'.eval (.t j)=s.eval (.t j):=by
 have i1:ids p.kids=[]:=(Leaf.kids p).ids;have i2:ids q.kids=[]:=(Leaf.kids q).ids;have i3:ids (AV.iptr (k.cells++Pr.cellsL r))=[]:=by simp only[ids]
 have i4:ids (AV.iptr (k'.cells++Pr.cellsL r'))=[]:=by simp only[ids]
 have i5:ids (AV.fn (.func 48) [] [])=[]:=rfl;have i6:ids (AV.val (.int .i64 (i:Int)))=[]:=rfl;refine am ?_
 show DrawTo E1 (yc.take 9++yc.drop 9) [] s _;refine fi (R:=[]) _ [] s rfl (fun x hx=>by cases hx) (fun r hr'=>by cases hr') ?_
 simp-implicitDefEqProofs only[yc,jr,jg,jq,j9,wpDm,aw,iv,is,footed,V,↓reduceIte,rA,reduceCtorEq,e0,e1,e2,e7,dJ p i k r h1,dJ q i k' r' h2,aO i1,aO i2,aO i3,aO i4,aO i5,aO i6,az i3,az i4];intro _ done hdl hdm;refine Gi (a:=[]) (b:=[]) (l:=[k.av,k'.av]) (v:=vB x) ?_ rfl rfl ?_ ?_ hc (fun j hj=>by cases hj) ?_
 ·exact U36
 ·simp-implicitDefEqProofs only[iv,is,V,↓reduceIte,rA,ab i5,ab k.idsA,ab k'.idsA]
 ·exact U36
 refine bc (v:=vB (!x)) rfl rfl ?_ ?_ (fun j hj=>by cases hj) (b9 ?_)
 ·simp-implicitDefEqProofs only[iv,is,V,↓reduceIte];rfl
 ·simp-implicitDefEqProofs only[runOp,V,↓reduceIte];rfl
 refine⟨?_,rfl,rfl,fun j hj=>?_⟩
 ·exact U36
 ·simp only[St.put,St.eval_set]
  repeat rw[if_neg om]
theorem Ez(p q:Pr)(hN:p.ks.length<2^61)(hl:p.ks.length=q.ks.length):∀(r r':List Pr) (i:Nat) (s:St),p.ks.drop i=r→q.ks.drop i=r'→i≤p.ks.length→(∀k∈r,∀k' h,RunCall E1 (.f 48) [k.av,k'.av] h (vB (k.same k')) h)→
  s.eval (.t 0)=some p.kids→s.eval (.t 1)=some q.kids→s.eval (.t 2)=some (.fn (.func 48) [] [])→s.eval (.t 14)=some (vI (p.ks.length:Nat))→s.eval (.t 15)=some (vI (i:Nat))→s.defers=[]→
  Run E1 yd s fun e s'=>s'.defers=[]∧((Pr.sameL r r'=true∧e=.exit 0)∨(Pr.sameL r r'=false∧e=.ret∧s'.eval (.t 6)=some (vB false)))
 | [],r',i,s,hr,hr',hi,hc,h0,h1,h2,h14,h15,hd=>by
  have hl:=aG hr hi;subst hl;apply aB (rfl:yd=.loop sz);simp-implicitDefEqProofs only[sz,V,↓reduceIte,rA,reduceCtorEq,h14,h15,hd,bA,Pr.sameL]
 |k::r,[],i,s,hr,hr',hi,hc,h0,h1,h2,h14,h15,hd=>by
  have h3:=aH hr;have:=aG hr' om;omega
 |k::r,k'::r',i,s,hr,hr',hi,hc,h0,h1,h2,h14,h15,hd=>by
  have h3:=aH hr;have hlt:=bD h3;have w1:IntKind.i64.wrap ((i:Int)+1)=((i+1:Nat):Int):=aD (n:=i+1) om;apply aB (rfl:yd=.loop sz);simp-implicitDefEqProofs only[sz,V,↓reduceIte,rA,h14,h15,hlt];refine(Jq hr hr' (hc k ik k') ?_ ?_ ?_ ?_).mono ?_
  all_goals try simp-implicitDefEqProofs only[V,↓reduceIte,rA,reduceCtorEq,h0,h1,h2]
  rintro e s1 ⟨rfl,x1,x2,x3,x4⟩
  try simp-implicitDefEqProofs only[V,↓reduceIte,rA,rB,rC,reduceCtorEq,rD,rE,rF] at x2 x3
  have e15:s1.eval (.t 15)=some (vI (i:Nat)):=by rw[x4 15 de];simp-implicitDefEqProofs only[↓reduceIte,rA,h15]
  have e14:s1.eval (.t 14)=some (vI (p.ks.length:Nat)):=by rw[x4 14 de];simp-implicitDefEqProofs only[↓reduceIte,rA,h14]
  have e0:s1.eval (.t 0)=some p.kids:=by rw[x4 0 de];simp-implicitDefEqProofs only[↓reduceIte,reduceCtorEq,h0]
  have e1:s1.eval (.t 1)=some q.kids:=by rw[x4 1 de];simp-implicitDefEqProofs only[↓reduceIte,rA,h1]
  have e2:s1.eval (.t 2)=some (.fn (.func 48) [] []):=by rw[x4 2 de];simp-implicitDefEqProofs only[↓reduceIte,rA,h2]
  cases hs:k.same k' with
  |false=>
   rw[hs] at x1;simp-implicitDefEqProofs only[V,↓reduceIte,reduceCtorEq,x1,x3,hd,Pr.sameL,hs]
  |true=>
   rw[hs] at x1;simp-implicitDefEqProofs only[V,↓reduceIte,x1,e15,w1];refine(Ez p q hN hl r r' (i+1) _ (aF hr) (aF hr') om (fun k0 h0=>hc k0 (j4 _ h0)) ?_ ?_ ?_ ?_ ?_ ?_).mono ?_
   all_goals try simp-implicitDefEqProofs only[V,↓reduceIte,rA,reduceCtorEq,e0,e1,e2,e14,x3,hd]
   simp only[Pr.sameL,hs,jj];exact fun e s' h=>h
theorem zS(p q:Pr)(hN:p.ks.length<2^61)(hc:∀k∈p.ks,∀k' h,RunCall E1 (.f 48) [k.av,k'.av] h (vB (k.same k')) h)(h:AH):
  RunCall E1 (.f 75) [p.kids,q.kids,.fn (.func 48) [] []] h (vB (decide (p.ks.length=q.ks.length)&&Pr.sameL p.ks q.ks)) h:=by
 refine ai kr aIH (Dt (Leaf.kids p).tree (Leaf.kids q).tree (Leaf.fn0 _).tree) rfl (Tree.val _) (fun s hs hh hd hr=>?_) h;have h0:=hs 0 _ rfl;have h1:=hs 1 _ rfl;have h2:=hs 2 _ rfl
 by_cases hl:p.ks.length=q.ks.length
 ·have hne:decide (((p.ks.length:Nat):Int)=(q.ks.length:Nat))=true:=decide_eq_true om;have hle:decide (p.ks.length=q.ks.length)=true:=decide_eq_true hl;simp-implicitDefEqProofs only[Jp,f75,V,↓reduceIte,rA,reduceCtorEq,h0,h1,hne];refine(Ez p q hN hl p.ks q.ks 0 _ rfl rfl (ic _) hc ?_ ?_ ?_ ?_ ?_ ?_).mono ?_
  all_goals try simp-implicitDefEqProofs only[V,↓reduceIte,rA,reduceCtorEq,h0,h1,h2,hd]
  ·rfl
  rintro e s1 ⟨d1,⟨q1,rfl⟩|⟨q1,rfl,q2⟩⟩
  ·simp-implicitDefEqProofs only[V,↓reduceIte,reduceCtorEq,WB,d1,q1,hle]
  ·exact U59
 ·have hne:decide (((p.ks.length:Nat):Int)=(q.ks.length:Nat))=false:=decide_eq_false om;have hle:decide (p.ks.length=q.ks.length)=false:=decide_eq_false hl;simp-implicitDefEqProofs only[Jp,f75,V,↓reduceIte,rA,reduceCtorEq,h0,h1,hd,hne,hle]
theorem Qg(p q:Pr)(hN:p.ks.length<2^61)(hc:∀k∈p.ks,∀k' h,RunCall E1 (.f 48) [k.av,k'.av] h (vB (k.same k')) h)(h:AH):
  RunCall E1 (.f 48) [p.av,q.av] h (vB (decide (p.op=q.op)&&(strEq p.nm q.nm&&(decide (p.n=q.n)&&(decide (p.ks.length=q.ks.length)&&Pr.sameL p.ks q.ks))))) h:=by
 refine ai kr aJF (bT (Tree.pr p) (Tree.pr q)) rfl (Tree.val _) (fun s hs hh hd hr=>?_) h;have h0:=hs 0 _ rfl;have h1:=hs 1 _ rfl;cases a:decide (p.op=q.op) with
 |false=>simp-implicitDefEqProofs only[tG,f48,V,↓reduceIte,rA,reduceCtorEq,h0,h1,hh,hd,a]
 |true=>cases b:strEq p.nm q.nm with
  |false=>simp-implicitDefEqProofs only[tG,f48,V,↓reduceIte,rA,reduceCtorEq,h0,h1,hh,hd,a,b]
  |true=>cases c:decide (p.n=q.n) with
   |false=>simp-implicitDefEqProofs only[tG,f48,V,↓reduceIte,rA,reduceCtorEq,h0,h1,hh,hd,a,b,c]
   |true=>simp-implicitDefEqProofs only[tG,f48,V,↓reduceIte,rA,reduceCtorEq,h0,h1,hh,hd,a,b,c,aA (zS p q hN hc)]
mutual
theorem cN:∀(p:Pr),p.nodes<2^61→∀q h,RunCall E1 (.f 48) [p.av,q.av] h (vB (p.same q)) h
 |.mk o s n ks nl cap,hb,q,h=>by
  have hb':1+Pr.nodesL ks<2^61:=hb;have hk:ks.length≤Pr.nodesL ks:=an ks;rw[Pr.same];exact Qg (.mk o s n ks nl cap) q (by show ks.length<_;omega) (kJ ks om) h
theorem kJ:∀(l:List Pr),Pr.nodesL l<2^61→∀k∈l,∀q h,RunCall E1 (.f 48) [k.av,q.av] h (vB (k.same q)) h
 | [],_,k,hk,_,_=>by cases hk
 |p::r,hb,k,hk,q,h=>by
  have hb':p.nodes+Pr.nodesL r<2^61:=hb;rcases ie.1 hk with e|hk
  ·have:=cN p om q h;rw[e];exact this
  ·exact kJ r om k hk q h
end
def tPr:Pr:=.mk 2 ⟨#[]⟩ 1 [] nilK none
def zPr:Pr:=.mk 0 ⟨#[]⟩ 0 [] nilK none
theorem aDZ(h:AH):RunCall E1 (.f 108) [vB true] h tPr.av h:=by
 refine bW kr aDU (aN (Tree.val _)) (fun s hs hh hd hr=>?_) h;have h0:=hs 0 _ rfl;simp-implicitDefEqProofs only[Oz,f108,V,↓reduceIte,rA,reduceCtorEq,WF,h0,hh,hd];exact⟨_,rfl,1,de,dC tPr.leaves⟩
theorem kK{p:Pr}(hb:p.nodes<2^61){r:List AOper}{s:St}{dst:Option Nat}{K:St→Prop}:aM E1 48 r s dst K (some [p.av,.agg [vI 0,vS ⟨#[]⟩,vI 0,.val (.slice none 0 0)]])=AM.wpOps E1 r (s.put dst (vB (p.same zPr))) K:=aA (cN p hb zPr)
def nms(l:List Vr):List ByteArray:=l.map Vr.nm
theorem zz(l:List ByteArray):∀c∈l.flatMap strA,Leaf c:=fun c hc=>by
 obtain⟨b,_,h⟩:=List.mem_flatMap.1 hc;rw[ig.1 h];exact Leaf.val _
theorem bU{α:Type}{f:α→List AV}{l:List α}{n:Nat}(hn:l.length=n):rowT n (l.flatMap f)=(⟨l,nilK,none⟩:Vl α).A f:=by
 subst hn;simp only[rowT,Vl.A,kidsA,nilK,C1,jj,noKids]
def Pr.vl:Pr→Vl Pr|.mk _ _ _ ks nl cap=>⟨ks,nl,cap⟩
theorem Pr.vl_l(p:Pr):p.vl.l=p.ks:=by cases p;rfl
theorem Pr.vl_A(p:Pr):p.vl.A Pr.cells=p.kids:=by
 cases p;simp only[Pr.vl,Vl.A,Pr.kids,Pr.cellsL_eq]
def fillH(p sp:Pr):List Ho→Option Pr
 | []=>none
 |h::r=>bif strEq h.nm p.nm then some (sp.sub (nms h.ps.l) p.ks) else fillH p sp r
def fillO(hs:List Ho)(p:Pr):List So→Option Pr
 | []=>none
 |s::r=>bif strEq s.nm p.nm then(bif s.p.same zPr then some tPr else some ((fillH p s.p hs).getD tPr)) else fillO hs p r
def zc:List AV:=[vI 0,vS ⟨#[]⟩,vI 0,.val (.slice none 0 0)]
def fillS(hs:List Ho)(l:List So)(p:Pr):Pr:=(fillO hs p l).getD tPr
mutual
def Pr.fl(hs:List Ho)(l:List So):Pr→Pr
 |.mk o s n ks _ _=>bif decide (o=5) then fillS hs l (.mk o s n (Pr.flL hs l ks) nilK none) else .mk o s n (Pr.flL hs l ks) nilK none
def Pr.flL(hs:List Ho)(l:List So):List Pr→List Pr
 | []=>[]
 |k::r=>k.fl hs l::Pr.flL hs l r
end
mutual
def Pr.plain:Pr→Bool
 |.mk o _ _ ks _ _=> !decide (o=5)&&Pr.plainL ks
def Pr.plainL:List Pr→Bool
 | []=>true
 |k::r=>k.plain&&Pr.plainL r
end
mutual
def Pr.whole:Pr→Bool
 |.mk o _ _ ks _ _=>bif decide (o=5) then Pr.plainL ks else Pr.wholeL ks
def Pr.wholeL:List Pr→Bool
 | []=>true
 |k::r=>k.whole&&Pr.wholeL r
end
mutual
theorem Dj:∀p:Pr,p.cp.nodes=p.nodes
 |.mk o s n ks _ _=>by simp only[Pr.cp,Pr.nodes,vo ks]
theorem vo:∀l:List Pr,Pr.nodesL (Pr.cpL l)=Pr.nodesL l
 | []=>rfl
 |k::r=>by simp only[Pr.cpL,Pr.nodesL,Dj k,vo r]
end
theorem cP:∀{l:List Pr} {k:Pr},k∈l→k.nodes≤Pr.nodesL l
 |p::r,k,h=>by
  rw[Pr.nodesL];rcases ie.1 h with rfl|h
  ·omega
  ·have:=cP h;omega
theorem qA{s:St}{es bytes a d n b:Nat}{x:AV}{cs new:List AV}{rw':Bool}(hb:s.h.get b=some (.cells [] rw'))(he:elemsOf s.h es x=some (new,n))(hn:0<n)(hok:okLen n bytes=true)(ha:s.eval (.t a)=some (.own b 0 0 es (some 0)))(hx:s.eval (.t d)=some x):
  appendA s es bytes (.t a) (.t d)=some (.own s.h.next 0 n es none,s.toH (s.h.alloc (.cells new true))):=by
 have h0:i8 n 0=false:=by
  cases hk:i8 n 0 with
  |false=>rfl
  |true=>
   have:=Nat.eq_of_beq_eq_true hk;omega
 have h1:i8 es es=true:=jm es;have h2:ia 0 0=true:=rfl;have h3:ia (0+n) 0=false:=by
  cases hk:ia (0+n) 0 with
  |false=>rfl
  |true=>
   have:=Nat.le_of_ble_eq_true hk;omega
 simp only[appendA,ha,hx,he,h0,cond_false,hb,h1,h2,je,Nat.zero_mul,jf,hok,iu,cond_true] at h3⊢
 simp only[h3,cond_false,List.drop_nil,List.take_nil,im];rfl
theorem ld{s:St}{es bytes a d b k:Nat}{c:Option Nat}{x:AV}{new:List AV}(he:elemsOf s.h es x=some (new,0))(ha:s.eval (.t a)=some (.own b 0 k es c))(hx:s.eval (.t d)=some x):
  appendA s es bytes (.t a) (.t d)=some (.own b 0 k es c,s):=by
 have h0:i8 0 0=true:=rfl;simp only[appendA,ha,hx,he,h0,cond_true]
theorem bJ{α:Type}{f:α→List AV}{es:Nat}(hf:∀a,(f a).length=es){w:Vl α}{h:AH}:elemsOf h es (w.A f)=some (w.l.flatMap f,w.l.length):=by
 obtain⟨l,nl,cap⟩:=w;simp only[Vl.A,kidsA];cases nl with
 |none=>
  simp only[Option.isSome_none,Bool.false_and,cond_false];exact eo (au hf l)
 |some x=>
  obtain⟨a,c⟩:=x;cases l with
  |nil=>rfl
  |cons k r=>
   simp only[C1,jj,il];exact eo (by rw[au hf];rfl)
theorem Mb{a:Option Addr}{c:Nat}:binA E1.P .eql 42 true (.val (.slice a 0 c)) (.val (.slice none 0 0))=some (vB a.isNone):=by cases a<;>kernel_rfl
theorem Mc{cs:List AV}{n:Nat}{cap:Option Nat}:binA E1.P .eql 42 true (.imm cs n cap) (.val (.slice none 0 0))=some (vB false):=by kernel_rfl
theorem lN(w:Vl Vr)(hl:∀v∈w.l.flatMap Vr.cells,Leaf v)(hN:w.l.length<2^31):∃w':Vl Vr,w'.l=w.l∧∀h,RunCall E1 (.f 45) [w.A Vr.cells] h (w'.A Vr.cells) h:=by
 have nilc:∀x:AV,binA E1.P .eql 42 true x (.val (.slice none 0 0))=some (vB true)→Leaf x→∀h,RunCall E1 (.f 45) [x] h ((⟨[],nilK,none⟩:Vl Vr).A Vr.cells) h:=fun x hx hlx h=>by
  refine bW kr Ki (aN hlx.tree) (fun s hs hh hd hr=>?_) h;have h0:=hs 0 _ rfl;simp-implicitDefEqProofs only[yt,f45,V,↓reduceIte,reduceCtorEq,h0,hh,hd,hx];exact⟨_,rfl,1,de,Rep.leaf (Leaf.val _)⟩
 have emp:∀(w:Vl Vr) (x:AV),w.l=[]→w.A Vr.cells=x→binA E1.P .eql 42 true x (.val (.slice none 0 0))=some (vB false)→∀h,RunCall E1 (.f 45) [x] h ((⟨[],none,some 0⟩:Vl Vr).A Vr.cells) h:=fun w x hl0 hxe hx h=>by
  refine bW kr Ki (aN (by rw[←hxe];exact Tree.vl)) (fun s hs hh hd hr=>?_) h
  have h0:=hs 0 _ rfl;have he:∀h:AH,elemsOf h 2 x=some ([],0):=fun h=>by
   have:=bJ Vr.len (w:=w) (h:=h);rw[hl0,hxe] at this;exact this
  simp-implicitDefEqProofs only[yt,f45,V,↓reduceIte,reduceCtorEq,WF,h0,hh,hx];rw[bZ,ld (x:=x) (new:=[]) (he _) U37 U36];simp-implicitDefEqProofs only[aP,V,↓reduceIte,reduceCtorEq,hd];refine⟨_,rfl,1,de,?_⟩;exact Rep.own (ps:=[]) (rw:=true) (ib _) (by show 0<1;decide) rfl rfl fun p hp=>by cases hp
 have some':∀x:AV,0<w.l.length→w.A Vr.cells=x→binA E1.P .eql 42 true x (.val (.slice none 0 0))=some (vB false)→∀h,RunCall E1 (.f 45) [x] h ((⟨w.l,nilK,none⟩:Vl Vr).A Vr.cells) h:=fun x hl0 hxe hx h=>by
  refine bW kr Ki (aN (by rw[←hxe];exact Tree.vl)) (fun s hs hh hd hr=>?_) h
  have h0:=hs 0 _ rfl;have he:∀h:AH,elemsOf h 2 x=some (w.l.flatMap Vr.cells,w.l.length):=fun h=>by
   rw[←hxe];exact bJ Vr.len
  simp-implicitDefEqProofs only[yt,f45,V,↓reduceIte,reduceCtorEq,WF,h0,hh,hx];rw[bZ,qA (cs:=[]) (rw':=true) (x:=x) (b:=0) U37 (he _) hl0 (aX hN de) U37 U36];simp-implicitDefEqProofs only[aP,V,↓reduceIte,rB,reduceCtorEq,hd];refine⟨_,rfl,1,de,?_⟩;have r:RowC ((AH.empty.alloc (.cells [] true)).alloc (.cells (w.l.flatMap Vr.cells) true)) 0 w.l.length 2 (.own 1 0 w.l.length 2 none) (w.l.flatMap Vr.cells):=⟨hl,au Vr.len _,.inr ⟨1,ic _,by show 1<2;decide,hl0,rfl,rfl⟩⟩
  have:=r.rep;rw[show(bif i8 w.l.length 0 then AV.val (.slice none 0 0) else .imm (w.l.flatMap Vr.cells) w.l.length none)=rowT w.l.length (w.l.flatMap Vr.cells) from rfl,bU rfl] at this;exact this
 obtain⟨l,nl,cap⟩:=w;cases l with
 |cons k r=>
  refine⟨⟨k::r,nilK,none⟩,rfl,some' _ (by show 0<r.length+1;omega) rfl ?_⟩
  have:(⟨k::r,nl,cap⟩:Vl Vr).A Vr.cells=.imm ((k::r).flatMap Vr.cells) (k::r).length cap:=by
   simp only[Vl.A,kidsA];cases nl<;>rfl
  rw[this];exact Mc
 |nil=>
  cases nl with
  |none=>exact⟨⟨[],none,some 0⟩,rfl,emp ⟨[],none,cap⟩ _ rfl rfl Mc⟩
  |some x=>
   obtain⟨a,c⟩:=x;cases a with
   |none=>exact⟨⟨[],nilK,none⟩,rfl,nilc _ Mb (Leaf.val _)⟩
   |some a=>exact⟨⟨[],none,some 0⟩,rfl,emp ⟨[],some (some a,c),cap⟩ _ rfl rfl Mb⟩
theorem Lz{a:Option Addr}{c:Nat}:binA E1.P .eql 22 true (.val (.slice a 0 c)) (.val (.slice none 0 0))=some (vB a.isNone):=by cases a<;>kernel_rfl
theorem Ma{cs:List AV}{n:Nat}{cap:Option Nat}:binA E1.P .eql 22 true (.imm cs n cap) (.val (.slice none 0 0))=some (vB false):=by kernel_rfl
theorem zW(w:Vl Sm)(hl:∀v∈w.l.flatMap Sm.cells,Leaf v)(hN:w.l.length<2^31):∃w':Vl Sm,w'.l=w.l∧∀h,RunCall E1 (.f 50) [w.A Sm.cells] h (w'.A Sm.cells) h:=by
 have nilc:∀x:AV,binA E1.P .eql 22 true x (.val (.slice none 0 0))=some (vB true)→Leaf x→∀h,RunCall E1 (.f 50) [x] h ((⟨[],nilK,none⟩:Vl Sm).A Sm.cells) h:=fun x hx hlx h=>by
  refine bW kr Kg (aN hlx.tree) (fun s hs hh hd hr=>?_) h;have h0:=hs 0 _ rfl;simp-implicitDefEqProofs only[yp,f50,V,↓reduceIte,reduceCtorEq,h0,hh,hd,hx];exact⟨_,rfl,1,de,Rep.leaf (Leaf.val _)⟩
 have emp:∀(w:Vl Sm) (x:AV),w.l=[]→w.A Sm.cells=x→binA E1.P .eql 22 true x (.val (.slice none 0 0))=some (vB false)→∀h,RunCall E1 (.f 50) [x] h ((⟨[],none,some 0⟩:Vl Sm).A Sm.cells) h:=fun w x hl0 hxe hx h=>by
  refine bW kr Kg (aN (by rw[←hxe];exact Tree.vl)) (fun s hs hh hd hr=>?_) h
  have h0:=hs 0 _ rfl;have he:∀h:AH,elemsOf h 3 x=some ([],0):=fun h=>by
   have:=bJ Sm.len (w:=w) (h:=h);rw[hl0,hxe] at this;exact this
  simp-implicitDefEqProofs only[yp,f50,V,↓reduceIte,reduceCtorEq,WF,h0,hh,hx];rw[bZ,ld (x:=x) (new:=[]) (he _) U37 U36];simp-implicitDefEqProofs only[aP,V,↓reduceIte,reduceCtorEq,hd];refine⟨_,rfl,1,de,?_⟩;exact Rep.own (ps:=[]) (rw:=true) (ib _) (by show 0<1;decide) rfl rfl fun p hp=>by cases hp
 have some':∀x:AV,0<w.l.length→w.A Sm.cells=x→binA E1.P .eql 22 true x (.val (.slice none 0 0))=some (vB false)→∀h,RunCall E1 (.f 50) [x] h ((⟨w.l,nilK,none⟩:Vl Sm).A Sm.cells) h:=fun x hl0 hxe hx h=>by
  refine bW kr Kg (aN (by rw[←hxe];exact Tree.vl)) (fun s hs hh hd hr=>?_) h
  have h0:=hs 0 _ rfl;have he:∀h:AH,elemsOf h 3 x=some (w.l.flatMap Sm.cells,w.l.length):=fun h=>by
   rw[←hxe];exact bJ Sm.len
  simp-implicitDefEqProofs only[yp,f50,V,↓reduceIte,reduceCtorEq,WF,h0,hh,hx];rw[bZ,qA (cs:=[]) (rw':=true) (x:=x) (b:=0) U37 (he _) hl0 (aX hN de) U37 U36];simp-implicitDefEqProofs only[aP,V,↓reduceIte,rB,reduceCtorEq,hd];refine⟨_,rfl,1,de,?_⟩;have r:RowC ((AH.empty.alloc (.cells [] true)).alloc (.cells (w.l.flatMap Sm.cells) true)) 0 w.l.length 3 (.own 1 0 w.l.length 3 none) (w.l.flatMap Sm.cells):=⟨hl,au Sm.len _,.inr ⟨1,ic _,by show 1<2;decide,hl0,rfl,rfl⟩⟩
  have:=r.rep;rw[show(bif i8 w.l.length 0 then AV.val (.slice none 0 0) else .imm (w.l.flatMap Sm.cells) w.l.length none)=rowT w.l.length (w.l.flatMap Sm.cells) from rfl,bU rfl] at this;exact this
 obtain⟨l,nl,cap⟩:=w;cases l with
 |cons k r=>
  refine⟨⟨k::r,nilK,none⟩,rfl,some' _ (by show 0<r.length+1;omega) rfl ?_⟩
  have:(⟨k::r,nl,cap⟩:Vl Sm).A Sm.cells=.imm ((k::r).flatMap Sm.cells) (k::r).length cap:=by
   simp only[Vl.A,kidsA];cases nl<;>rfl
  rw[this];exact Ma
 |nil=>
  cases nl with
  |none=>exact⟨⟨[],none,some 0⟩,rfl,emp ⟨[],none,cap⟩ _ rfl rfl Ma⟩
  |some x=>
   obtain⟨a,c⟩:=x;cases a with
   |none=>exact⟨⟨[],nilK,none⟩,rfl,nilc _ Lz (Leaf.val _)⟩
   |some a=>exact⟨⟨[],none,some 0⟩,rfl,emp ⟨[],some (some a,c),cap⟩ _ rfl rfl Lz⟩
theorem Lx{a:Option Addr}{c:Nat}:binA E1.P .eql 23 true (.val (.slice a 0 c)) (.val (.slice none 0 0))=some (vB a.isNone):=by cases a<;>kernel_rfl
theorem Ly{cs:List AV}{n:Nat}{cap:Option Nat}:binA E1.P .eql 23 true (.imm cs n cap) (.val (.slice none 0 0))=some (vB false):=by kernel_rfl
theorem zV(w:Vl Ho)(hl:∀v∈w.l.flatMap Ho.cells,Leaf v)(hN:w.l.length<2^31):∃w':Vl Ho,w'.l=w.l∧∀h,RunCall E1 (.f 51) [w.A Ho.cells] h (w'.A Ho.cells) h:=by
 have nilc:∀x:AV,binA E1.P .eql 23 true x (.val (.slice none 0 0))=some (vB true)→Leaf x→∀h,RunCall E1 (.f 51) [x] h ((⟨[],nilK,none⟩:Vl Ho).A Ho.cells) h:=fun x hx hlx h=>by
  refine bW kr Kf (aN hlx.tree) (fun s hs hh hd hr=>?_) h;have h0:=hs 0 _ rfl;simp-implicitDefEqProofs only[yo,f51,V,↓reduceIte,reduceCtorEq,h0,hh,hd,hx];exact⟨_,rfl,1,de,Rep.leaf (Leaf.val _)⟩
 have emp:∀(w:Vl Ho) (x:AV),w.l=[]→w.A Ho.cells=x→binA E1.P .eql 23 true x (.val (.slice none 0 0))=some (vB false)→∀h,RunCall E1 (.f 51) [x] h ((⟨[],none,some 0⟩:Vl Ho).A Ho.cells) h:=fun w x hl0 hxe hx h=>by
  refine bW kr Kf (aN (by rw[←hxe];exact Tree.vl)) (fun s hs hh hd hr=>?_) h
  have h0:=hs 0 _ rfl;have he:∀h:AH,elemsOf h 2 x=some ([],0):=fun h=>by
   have:=bJ Ho.len (w:=w) (h:=h);rw[hl0,hxe] at this;exact this
  simp-implicitDefEqProofs only[yo,f51,V,↓reduceIte,reduceCtorEq,WF,h0,hh,hx];rw[bZ,ld (x:=x) (new:=[]) (he _) U37 U36];simp-implicitDefEqProofs only[aP,V,↓reduceIte,reduceCtorEq,hd];refine⟨_,rfl,1,de,?_⟩;exact Rep.own (ps:=[]) (rw:=true) (ib _) (by show 0<1;decide) rfl rfl fun p hp=>by cases hp
 have some':∀x:AV,0<w.l.length→w.A Ho.cells=x→binA E1.P .eql 23 true x (.val (.slice none 0 0))=some (vB false)→∀h,RunCall E1 (.f 51) [x] h ((⟨w.l,nilK,none⟩:Vl Ho).A Ho.cells) h:=fun x hl0 hxe hx h=>by
  refine bW kr Kf (aN (by rw[←hxe];exact Tree.vl)) (fun s hs hh hd hr=>?_) h
  have h0:=hs 0 _ rfl;have he:∀h:AH,elemsOf h 2 x=some (w.l.flatMap Ho.cells,w.l.length):=fun h=>by
   rw[←hxe];exact bJ Ho.len
  simp-implicitDefEqProofs only[yo,f51,V,↓reduceIte,reduceCtorEq,WF,h0,hh,hx];rw[bZ,qA (cs:=[]) (rw':=true) (x:=x) (b:=0) U37 (he _) hl0 (aX hN de) U37 U36];simp-implicitDefEqProofs only[aP,V,↓reduceIte,rB,reduceCtorEq,hd];refine⟨_,rfl,1,de,?_⟩;have r:RowC ((AH.empty.alloc (.cells [] true)).alloc (.cells (w.l.flatMap Ho.cells) true)) 0 w.l.length 2 (.own 1 0 w.l.length 2 none) (w.l.flatMap Ho.cells):=⟨hl,au Ho.len _,.inr ⟨1,ic _,by show 1<2;decide,hl0,rfl,rfl⟩⟩
  have:=r.rep;rw[show(bif i8 w.l.length 0 then AV.val (.slice none 0 0) else .imm (w.l.flatMap Ho.cells) w.l.length none)=rowT w.l.length (w.l.flatMap Ho.cells) from rfl,bU rfl] at this;exact this
 obtain⟨l,nl,cap⟩:=w;cases l with
 |cons k r=>
  refine⟨⟨k::r,nilK,none⟩,rfl,some' _ (by show 0<r.length+1;omega) rfl ?_⟩
  have:(⟨k::r,nl,cap⟩:Vl Ho).A Ho.cells=.imm ((k::r).flatMap Ho.cells) (k::r).length cap:=by
   simp only[Vl.A,kidsA];cases nl<;>rfl
  rw[this];exact Ly
 |nil=>
  cases nl with
  |none=>exact⟨⟨[],none,some 0⟩,rfl,emp ⟨[],none,cap⟩ _ rfl rfl Ly⟩
  |some x=>
   obtain⟨a,c⟩:=x;cases a with
   |none=>exact⟨⟨[],nilK,none⟩,rfl,nilc _ Lx (Leaf.val _)⟩
   |some a=>exact⟨⟨[],none,some 0⟩,rfl,emp ⟨[],some (some a,c),cap⟩ _ rfl rfl Lx⟩
theorem Dn{a:Option Addr}{c:Nat}:binA E1.P .eql 88 true (.val (.slice a 0 c)) (.val (.slice none 0 0))=some (vB a.isNone):=by cases a<;>kernel_rfl
theorem Do{cs:List AV}{n:Nat}{cap:Option Nat}:binA E1.P .eql 88 true (.imm cs n cap) (.val (.slice none 0 0))=some (vB false):=by kernel_rfl
theorem vJ(w:Vl ByteArray)(hl:∀v∈w.l.flatMap strA,Leaf v)(hN:w.l.length<2^31):∃w':Vl ByteArray,w'.l=w.l∧∀h,RunCall E1 (.f 178) [w.A strA] h (w'.A strA) h:=by
 have nilc:∀x:AV,binA E1.P .eql 88 true x (.val (.slice none 0 0))=some (vB true)→Leaf x→∀h,RunCall E1 (.f 178) [x] h ((⟨[],nilK,none⟩:Vl ByteArray).A strA) h:=fun x hx hlx h=>by
  refine bW kr zJ (aN hlx.tree) (fun s hs hh hd hr=>?_) h;have h0:=hs 0 _ rfl;simp-implicitDefEqProofs only[pN,f178,V,↓reduceIte,reduceCtorEq,h0,hh,hd,hx];exact⟨_,rfl,1,de,Rep.leaf (Leaf.val _)⟩
 have emp:∀(w:Vl ByteArray) (x:AV),w.l=[]→w.A strA=x→binA E1.P .eql 88 true x (.val (.slice none 0 0))=some (vB false)→∀h,RunCall E1 (.f 178) [x] h ((⟨[],none,some 0⟩:Vl ByteArray).A strA) h:=fun w x hl0 hxe hx h=>by
  refine bW kr zJ (aN (by rw[←hxe];exact Tree.vl)) (fun s hs hh hd hr=>?_) h
  have h0:=hs 0 _ rfl;have he:∀h:AH,elemsOf h 1 x=some ([],0):=fun h=>by
   have:=bJ aK (w:=w) (h:=h);rw[hl0,hxe] at this;exact this
  simp-implicitDefEqProofs only[pN,f178,V,↓reduceIte,reduceCtorEq,WF,h0,hh,hx];rw[bZ,ld (x:=x) (new:=[]) (he _) U37 U36];simp-implicitDefEqProofs only[aP,V,↓reduceIte,reduceCtorEq,hd];refine⟨_,rfl,1,de,?_⟩;exact Rep.own (ps:=[]) (rw:=true) (ib _) (by show 0<1;decide) rfl rfl fun p hp=>by cases hp
 have some':∀x:AV,0<w.l.length→w.A strA=x→binA E1.P .eql 88 true x (.val (.slice none 0 0))=some (vB false)→∀h,RunCall E1 (.f 178) [x] h ((⟨w.l,nilK,none⟩:Vl ByteArray).A strA) h:=fun x hl0 hxe hx h=>by
  refine bW kr zJ (aN (by rw[←hxe];exact Tree.vl)) (fun s hs hh hd hr=>?_) h
  have h0:=hs 0 _ rfl;have he:∀h:AH,elemsOf h 1 x=some (w.l.flatMap strA,w.l.length):=fun h=>by
   rw[←hxe];exact bJ aK
  simp-implicitDefEqProofs only[pN,f178,V,↓reduceIte,reduceCtorEq,WF,h0,hh,hx];rw[bZ,qA (cs:=[]) (rw':=true) (x:=x) (b:=0) U37 (he _) hl0 (aX hN de) U37 U36];simp-implicitDefEqProofs only[aP,V,↓reduceIte,rB,reduceCtorEq,hd];refine⟨_,rfl,1,de,?_⟩;have r:RowC ((AH.empty.alloc (.cells [] true)).alloc (.cells (w.l.flatMap strA) true)) 0 w.l.length 1 (.own 1 0 w.l.length 1 none) (w.l.flatMap strA):=⟨hl,au aK _,.inr ⟨1,ic _,by show 1<2;decide,hl0,rfl,rfl⟩⟩
  have:=r.rep;rw[show(bif i8 w.l.length 0 then AV.val (.slice none 0 0) else .imm (w.l.flatMap strA) w.l.length none)=rowT w.l.length (w.l.flatMap strA) from rfl,bU rfl] at this;exact this
 obtain⟨l,nl,cap⟩:=w;cases l with
 |cons k r=>
  refine⟨⟨k::r,nilK,none⟩,rfl,some' _ (by show 0<r.length+1;omega) rfl ?_⟩
  have:(⟨k::r,nl,cap⟩:Vl ByteArray).A strA=.imm ((k::r).flatMap strA) (k::r).length cap:=by
   simp only[Vl.A,kidsA];cases nl<;>rfl
  rw[this];exact Do
 |nil=>
  cases nl with
  |none=>exact⟨⟨[],none,some 0⟩,rfl,emp ⟨[],none,cap⟩ _ rfl rfl Do⟩
  |some x=>
   obtain⟨a,c⟩:=x;cases a with
   |none=>exact⟨⟨[],nilK,none⟩,rfl,nilc _ Dn (Leaf.val _)⟩
   |some a=>exact⟨⟨[],none,some 0⟩,rfl,emp ⟨[],some (some a,c),cap⟩ _ rfl rfl Dn⟩
def Pr.void(p:Pr):Bool:=p.same zPr||p.same tPr
theorem Jl{s:St}{p:Pr}{B:Nat}(hb:p.nodes<2^61)(hB:B<s.h.next)(g:s.h.get B=some (.cells p.cells true))(h1:s.eval (.t 1)=some (.ptr B 0)):
  Run E1 Wd s fun e s'=>e=.normal∧s'.eval (.t 2)=some (vB p.void)∧s'.h=s.h∧s'.defers=s.defers:=by
 have n1:∀o,niceT s.h (some (.ptr B o))=true:=fun o=>bj hB g (by rw[p.ids0];rfl)
 have o1:∀o,onlyT [B] (some (.ptr B o))=true:=fun o=>bu (by simp[memN])
 have z0:(AV.agg [vI 0,vS ⟨#[]⟩,vI 0,.val (.slice none 0 0)])=zPr.av:=rfl;have c0:∀h,RunCall E1 (.f 48) [p.av,.agg [vI 0,vS ⟨#[]⟩,vI 0,.val (.slice none 0 0)]] h (vB (p.same zPr)) h:=cN p hb zPr;have zi:ids (AV.agg [vI 0,vS ⟨#[]⟩,vI 0,.val (.slice none 0 0)])=[]:=rfl;have bi:∀b,ids (AV.val (.bool b))=[]:=fun _=>rfl;have ui:ids undefA=[]:=rfl;refine am ?_
 show DrawTo E1 yT [] s _;refine bG (R:=[B]) rfl (fun x hx=>by cases hx) (fun r hr'=>by rw[ig.1 hr'];exact hB) ?_
 cases hz:p.same zPr with
 |true=>
  rw[hz] at c0;simp-implicitDefEqProofs only[yT,wpDm,aw,cq,iv,is,footed,V,↓reduceIte,rA,WF,h1,g,n1,o1,aO p.idsA,ab p.idsA,aO zi,ab zi];refine⟨_,c0,?_⟩;simp-implicitDefEqProofs only[sc,V,↓reduceIte,aO (bi _),ab (bi _),az (bi _),aO ui,ab ui,Pr.void,hz]
 |false=>
  rw[hz] at c0;simp-implicitDefEqProofs only[yT,wpDm,aw,cq,iv,is,footed,V,↓reduceIte,rA,WF,h1,g,n1,o1,aO p.idsA,ab p.idsA,aO zi,ab zi];refine⟨_,c0,?_⟩;simp-implicitDefEqProofs only[fT,V,↓reduceIte,aO (bi _),ab (bi _),az (bi _),aO ui,ab ui];refine⟨_,aDZ,?_⟩;simp-implicitDefEqProofs only[V,aO tPr.idsA,ab tPr.idsA];refine⟨_,cN p hb tPr,?_⟩;simp-implicitDefEqProofs only[V,aO (bi _),Pr.void,hz]
theorem zr(p:Pr)(hb:p.nodes<2^61)(h:AH):RunCall E1 (.f 87) [p.av] h (vB p.void) h:=by
 refine ai kr aHZ (aN (Tree.pr p)) rfl (Tree.val _) (fun s hs hh hd hr=>?_) h;have h0:=hs 0 _ rfl;simp-implicitDefEqProofs only[Wc,f87,V,h0,hh];refine(Jl (p:=p) (B:=0) hb ?_ ?_ ?_).mono ?_
 ·exact U60
 ·exact U36
 ·exact U36
 rintro e s1 ⟨rfl,e2,e3,e4⟩;simp-implicitDefEqProofs only[V,hd] at e4;exact U154
theorem Zb{p:Pr}(hb:p.nodes<2^61){r:List AOper}{s:St}{dst:Option Nat}{K:St→Prop}:aM E1 87 r s dst K (some [p.av])=AM.wpOps E1 r (s.put dst (vB p.void)) K:=aA (zr p hb)
end Go.Proofs.YtkhblipgiijoiaaGreatDoor
