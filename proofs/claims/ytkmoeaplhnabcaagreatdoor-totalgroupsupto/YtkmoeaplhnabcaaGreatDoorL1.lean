/- TDiff TLawA TPlawA -/
import Derived.Test.YtkmoeaplhnabcaaGreatDoorU0
import Derived.Test.YtkmoeaplhnabcaaGreatDoorH1
import Derived.Test.YtkmoeaplhnabcaaGreatDoorH3

set_option linter.all false
open Nat renaming reduceEqDiff → rA, reduceAdd → rB, reduceMul → rC
open Int renaming reduceEq → rD, reduceLT → rE, reduceLE → rF
open Bool renaming and_eq_true → i8, and_self → io, and_true → Bs, eq_iff_iff → Aq, not_eq_true' → At, not_false → Ad
open List renaming Pairwise → C5, all_cons → j5, all_nil → j4, any_cons → C1, any_eq_true → B6, append_assoc → ji, cons_append → ja, drop_zero → jq, filter_cons → A6, find?_eq_some_iff_append → Cu, length_append → iq, length_cons → il, length_map → je, length_nil → jc, map_append → By, map_cons → jf, mem_append → jb, mem_append_left → Ba, mem_append_right → An, mem_cons → i9, mem_cons_of_mem → iz, mem_cons_self → im, mem_map → A4, mem_singleton → ig, nil_append → iy, nodup_append → Bw, nodup_cons → B9
open Nat renaming zero_le → ip, zero_lt_one → Bb
namespace Go.Proofs.YtkmoeaplhnabcaaGreatDoor
open Go Go.AM
set_option maxHeartbeats 4000000
variable [KR]
theorem xZ{x:ByteArray}:∀{p r:List ByteArray},memS x p=false→fnd x (p++x::r)=some p.length
 | [],r,_=>by
  show(bif strEq x x then some 0 else _)=_;rw[ax];rfl
 |a::p,r,h=>by
  rw[memS,Bool.or_eq_false_iff] at h;show(bif strEq x a then some 0 else(fnd x (p++x::r)).map (· +1))=_;rw[h.1,xZ h.2];rfl
theorem xY{x:ByteArray}:∀{p r:List ByteArray},memS x p=true→∃j,fnd x (p++r)=some j∧j<p.length
 | [],r,h=>by cases h
 |a::p,r,h=>by
  show∃j,(bif strEq x a then some 0 else(fnd x (p++r)).map (· +1))=some j∧j<p.length+1;cases q:strEq x a with
  |true=>exact⟨0,rfl,om⟩
  |false=>
   rw[memS,q,Bool.false_or] at h;obtain⟨j,h1,h2⟩:=xY (r:=r) h;exact⟨j+1,by rw[h1];rfl,om⟩
open Classical in
noncomputable def disS (l:List ByteArray):Bool:=decide l.Nodup
theorem nZ{l:List ByteArray}:disS l=true↔l.Nodup:=by simp only[disS,decide_eq_true_eq]
theorem wi{l:List ByteArray}(h:¬l.Nodup):disS l=false:=by
 cases q:disS l with
 |true=>exact absurd (nZ.1 q) h
 |false=>rfl
theorem uI(w:Vl ByteArray)(hN:w.l.length<2^61):∀(r:List ByteArray) (i:Nat) (s:St),w.l.drop i=r→i≤w.l.length→(w.l.take i).Nodup→s.eval (.t 0)=some (w.A strA)→s.eval (.t 5)=some (vI (w.l.length:Nat))→s.eval (.t 6)=some (vI (i:Nat))→s.defers=[]→
  Run E1 re s fun e s'=>s'.defers=[]∧((disS w.l=true∧e=.exit 0)∨(disS w.l=false∧e=.ret∧s'.eval (.t 2)=some (vB false)))
 | [],i,s,hd,hi,hn,h0,h5,h6,hf=>by
  have hl:=aK hd hi;subst hl;rw[List.take_length] at hn;apply aC (rfl:re=.loop kK);simp-implicitDefEqProofs only[kK,V,↓reduceIte,rA,reduceCtorEq,h5,h6,hf,bS,nZ.2 hn]
 |x::r,i,s,hd,hi,hn,h0,h5,h6,hf=>by
  have hl:=aL hd;have hlt:=bQ hl;have w1:IntKind.i64.wrap ((i:Int)+1)=((i+1:Nat):Int):=aE (n:=i+1) om;have hc:=fB w x hN;have hsp:w.l=w.l.take i++x::r:=by rw[←hd,List.take_append_drop]
  have htl:(w.l.take i).length=i:=by rw[List.length_take];omega
  apply aC (rfl:re=.loop kK);cases q:memS x (w.l.take i) with
  |true=>
   obtain⟨j,j1,j2⟩:=xY (r:=x::r) q;rw[←hsp] at j1;have hnn:¬w.l.Nodup:=fun h=>by
    rw[hsp] at h;exact(Bw.1 h).2.2 x (aV.1 q) x im rfl
   have hj:fndI x w.l=(j:Nat):=by rw[fndI,j1]
   have hne:decide ((j:Int)=(i:Int))=false:=decide_eq_false om;simp-implicitDefEqProofs only[kK,V,↓reduceIte,rA,reduceCtorEq,h0,h5,h6,hf,hlt,w.at aI hd,bR,aA hc,hj,hne,wi hnn]
  |false=>
   have j1:=xZ (r:=r) q;rw[←hsp,htl] at j1;have hj:fndI x w.l=(i:Nat):=by rw[fndI,j1]
   have hne:decide ((i:Int)=(i:Int))=true:=decide_eq_true rfl;have hn':(w.l.take (i+1)).Nodup:=by
    rw[List.take_add,hd];show(w.l.take i++[x]).Nodup;rw[Bw];refine⟨hn,by simp,fun a ha b hb e=>?_⟩
    rw[ig.1 hb] at e;subst e;rw[aV.2 ha] at q;cases q
   simp-implicitDefEqProofs only[kK,V,↓reduceIte,rA,reduceCtorEq,h0,h5,h6,hlt,w.at aI hd,bR,aA hc,hj,w1];refine(uI w hN r (i+1) _ (aF hd) om hn' ?_ ?_ ?_ ?_).mono ?_
   all_goals try simp-implicitDefEqProofs only[V,↓reduceIte,rA,reduceCtorEq,h0,h5,hf]
   exact fun e s' h=>h
theorem wh(w:Vl ByteArray)(hN:w.l.length<2^61)(h:AH):RunCall E1 (.f 14) [w.A strA] h (vB (disS w.l)) h:=by
 refine dB kr Rw (ei Tree.vl) rfl (Tree.val _) (fun s hs hh hd hr=>?_) h;have h0:=hs 0 _ rfl;simp-implicitDefEqProofs only[Hu,f14,V,↓reduceIte,reduceCtorEq,h0];refine(uI w hN w.l 0 _ rfl (ip _) List.nodup_nil ?_ ?_ ?_ ?_).mono ?_
 all_goals try simp-implicitDefEqProofs only[V,↓reduceIte,rA,reduceCtorEq,h0,hd]
 ·rfl
 rintro e s1 ⟨d1,⟨q,rfl⟩|⟨q,rfl,t2⟩⟩
 ·exact U71
 ·simp-implicitDefEqProofs only[V,reduceCtorEq,d1,q,t2]
theorem zG{h:AH}{lo:Nat}{v:AV}{l:List ByteArray}(r:RowC h lo l.length 1 v (l.flatMap strA))(hN:l.length<2^61):RunCall E1 (.f 14) [v] h (vB (disS l)) h:=by
 obtain⟨h1,f1,f2,f3,f4⟩:=bG r.x;rw[qD r] at f4;exact cZ (xs:=[]) (ys:=[]) kr (fun v hv=>by cases hv) (fun v hv=>by cases hv) Vl.leaf.tree f1 f4 rfl fun h=>wh ⟨l,nilK,none⟩ hN h
def defW(d:Df):Nat:=d.nm.size+d.ps.l.length+d.b.wt
def dsW:List Df→Nat
 | []=>0
 |d::r=>defW d+dsW r
structure DifT (m:Md):Prop where
 n:m.ds.l.length≤20
 b:∀d∈m.ds.l,d.b.sz≤1500∧d.ps.l.length≤1500
 nd:(nmM m).Nodup
theorem DifT.md{m:Md}(h:DifT m):MdT m:=⟨by have:=h.n;omega,fun d hd=>by have:=h.b d hd;omega⟩
theorem y8{s:St}{m:Md}{d:Df}{r:List Df}{i acc:Nat}(hd:m.ds.l.drop i=d::r)(hw:acc+defW d≤2^24)(l0:0<s.h.next)(g0:s.h.get 0=some (.cells m.cells true))(h1:s.eval (.t 1)=some (.ptr 0 0))(h3:s.eval (.t 3)=some (vI (acc:Nat)))(h5:s.eval (.t 5)=some (vI (i:Nat))):
  Run E1 Na s fun x s'=>x=.normal∧s'.defers=s.defers∧s'.h=s.h∧(∃b:Nat,s'.eval (.t 3)=some (vI (b:Nat))∧b≤acc+defW d∧(b≤1500→acc+d.ps.l.length+d.b.sz≤b)∧acc≤b)∧∀j,j<6→j≠3→s'.eval (.t j)=s.eval (.t j):=by
 have n0:∀o,niceT s.h (some (.ptr 0 o))=true:=fun o=>bZ l0 g0 (by rw[m.ids0];rfl)
 have vi:∀v,ids (AV.val v)=[]:=fun _=>rfl;have ib:ids (.agg d.b.cells)=[]:=d.b.ids0;have hdw:defW d=d.nm.size+d.ps.l.length+d.b.wt:=rfl;obtain⟨q,⟨q1,q2⟩,q3⟩:=wv d.b om 1500 om om;have w2:IntKind.i64.wrap ((acc:Int)+(d.ps.l.length:Nat))=((acc+d.ps.l.length:Nat):Int):=aE (n:=acc+d.ps.l.length) om;have w5:IntKind.i64.wrap (((acc+d.ps.l.length:Nat):Int)+(q:Int))=((acc+d.ps.l.length+q:Nat):Int):=aE (n:=acc+d.ps.l.length+q) om;refine bd (ops:=Gf) rfl ?_
 simp-implicitDefEqProofs only[Gf,wpDr,bA,j5,j4,V,↓reduceIte,rA,h1,h3,h5,n0,g0,m.ds.at Df.len hd,aJ ib,aU ib,aJ Vl.ids,aJ (vi _),ab,w2,io];refine⟨_,q3,?_⟩;simp-implicitDefEqProofs only[V,↓reduceIte,aJ (vi _),w5];refine⟨⟨acc+d.ps.l.length+q,rfl,om,fun h=>by have:=q2 om;omega,om⟩,fun j hj hn=>?_⟩
 repeat rw[if_neg om]
theorem xf{m:Md}(hw:dsW m.ds.l≤2^23)(hN:m.ds.l.length<2^30):∀(r:List Df) (i acc:Nat) (nms:List ByteArray) (v:AV) (s:St),m.ds.l.drop i=r→i≤m.ds.l.length→i≤20→acc+dsW r≤2^23→nms.length=i→RowC s.h 1 nms.length 1 v (nms.flatMap strA)→1≤s.h.next→s.h.get 0=some (.cells m.cells true)→
  s.eval (.t 1)=some (.ptr 0 0)→s.eval (.t 3)=some (vI (acc:Nat))→s.eval (.t 4)=some v→s.eval (.t 5)=some (vI (i:Nat))→s.defers=[]→
  Run E1 xg s fun e s'=>s'.defers=[]∧((e=.exit 0∧∃(c:Nat) (nm2:List ByteArray) (v2:AV),s'.eval (.t 3)=some (vI (c:Nat))∧s'.eval (.t 4)=some v2∧RowC s'.h 1 nm2.length 1 v2 (nm2.flatMap strA)∧nm2.length≤20∧(c≤1500→acc≤c∧nm2=nms++r.map Df.nm∧(∀d∈r,d.b.sz≤1500∧d.ps.l.length≤1500)))∨(e=.ret∧s'.eval (.t 2)=some (vB false)))
 | [],i,acc,nms,v,s,hd,hi,h20,ha,hn,hr,l1,g0,h1,h3,h4,h5,hf=>by
  have hl:=aK hd hi;subst hl;apply aC (rfl:xg=.loop lD);simp-implicitDefEqProofs only[lD,V,↓reduceIte,rA,reduceCtorEq,h1,h3,h4,h5,g0,hf,bS];exact .inl ⟨acc,nms,v,rfl,rfl,hr,om,fun _=>⟨Nat.le_refl _,(List.append_nil _).symm,fun d hd=>by cases hd⟩⟩
 |d::r,i,acc,nms,v,s,hd,hi,h20,ha,hn,hr,l1,g0,h1,h3,h4,h5,hf=>by
  have hl:=aL hd;have hlt:=bQ hl;have w1:IntKind.i64.wrap ((i:Int)+1)=((i+1:Nat):Int):=aE (n:=i+1) om;rw[dsW] at ha;apply aC (rfl:xg=.loop lD);cases hc:decide ((acc:Int)≤1500) with
  |false=>
   have hc':=of_decide_eq_false hc;simp-implicitDefEqProofs only[lD,V,↓reduceIte,rA,reduceCtorEq,h1,h3,h4,h5,g0,hf,hlt,hc];exact .inl ⟨acc,nms,v,rfl,rfl,hr,om,fun h=>by omega⟩
  |true=>
   cases hg:decide ((i:Int)≥20) with
   |true=>simp-implicitDefEqProofs only[lD,V,↓reduceIte,rA,reduceCtorEq,h1,h3,h4,h5,g0,hf,hlt,hc,hg]
   |false=>
    have hg':=of_decide_eq_false hg;cases hz:decide ((d.nm.size:Int)>100) with
    |true=>simp-implicitDefEqProofs only[lD,V,↓reduceIte,rA,reduceCtorEq,h1,h3,h4,h5,g0,hf,hlt,hc,hg,m.ds.at Df.len hd,cd,hz]
    |false=>
     simp-implicitDefEqProofs only[lD,V,↓reduceIte,rA,WF,h1,h3,h4,h5,g0,hlt,hc,hg,m.ds.at Df.len hd,cd,hz];refine dJ (k:=nms.length) (m:=1) (lo:=1) (v:=v) (x:=.own s.h.next 0 1 1 (some 1)) (cs:=nms.flatMap strA) (new:=[vS d.nm]) ?_ ?_ ?_ de rfl ?_ (aN (bytes:=16) om de) ?_ ?_ ?_
     ·exact U77
     ·simp-implicitDefEqProofs only[V];exact Nat.le_trans l1 (Nat.le_succ _)
     ·refine ae (rw':=true) ?_ rfl;exact U36
     ·exact fun c hc=>by rw[ig.1 hc];exact Leaf.val _
     ·exact U36
     ·exact U36
     intro h1' r1 m1 o1 _;simp-implicitDefEqProofs only[V] at m1 o1 r1;have m1:s.h.next+1≤h1'.next:=m1;have g1:h1'.get 0=some (.cells m.cells true):=by rw[o1 0 om (fun q=>by have:=(hr.ids 0 q).1;omega),if_neg om,g0]
     simp-implicitDefEqProofs only[V,↓reduceIte];refine(y8 (acc:=acc) hd om ?_ ?_ ?_ ?_ ?_).mono ?_
     all_goals try simp-implicitDefEqProofs only[V,↓reduceIte,rA,h1,h3,h5]
     ·omega
     ·exact g1
     rintro x s1 ⟨rfl,d1,eh,⟨b,t3,b1,b2,b3⟩,k1⟩
     try simp-implicitDefEqProofs only[hf] at d1 eh
     have u1:s1.eval (.t 1)=some (.ptr 0 0):=by rw[k1 1 de de];simp-implicitDefEqProofs only[↓reduceIte,rA,h1]
     have u4:s1.eval (.t 4)=some (.own (s.h.next+1) 0 (nms.length+1) 1 none):=by rw[k1 4 de de];simp-implicitDefEqProofs only[↓reduceIte]
     have u5:s1.eval (.t 5)=some (vI (i:Nat)):=by rw[k1 5 de de];simp-implicitDefEqProofs only[↓reduceIte,rA,h5]
     have hb:(nms++[d.nm]).length=nms.length+1:=by rw[iq];rfl
     simp-implicitDefEqProofs only[V,↓reduceIte,u5,w1];refine(xf hw hN r (i+1) b (nms++[d.nm]) (.own (s.h.next+1) 0 (nms.length+1) 1 none) _ (aF hd) om om om om ?_ ?_ ?_ ?_ ?_ ?_ ?_ ?_).mono ?_
     all_goals try simp-implicitDefEqProofs only[V,↓reduceIte,rA,u1,u4,t3,d1]
     ·rw[hb,List.flatMap_append,eh];exact r1
     ·rw[eh];omega
     ·rw[eh];exact g1
     rintro e s2 ⟨d2,⟨rfl,c,nm2,v2,c3,c4,c5,c6,c7⟩|⟨rfl,t2⟩⟩
     ·refine⟨d2,.inl ⟨rfl,c,nm2,v2,c3,c4,c5,c6,fun hc=>?_⟩⟩;obtain⟨p1,p2,p3⟩:=c7 hc;have:=b2 om;refine⟨om,by rw[p2,ji];rfl,fun e he=>?_⟩
      rcases i9.1 he with rfl|he
      ·omega
      ·exact p3 e he
     ·exact⟨d2,.inr ⟨rfl,t2⟩⟩
theorem Zx{g:Nat}{l:List AV}{a:AFun}{P:Bool→Prop}(hs:freshF g=true)(hf:funOf Tryz.prog g=some a)(hl:∀v∈l,Tree v)
  (H:∀s:St,(∀i v,(enterTm l 0 .nil).get i=some v→s.eval (.t i)=some v)→s.h=.empty→s.defers=[]→wp E1 a.body s fun e s=>(e=.normal∨e=.ret)∧s.defers=[]∧∃r:Bool,P r∧resultsA E1.globs s a.res=some [vB r]):
  ∃r:Bool,P r∧∀h,RunCall E1 (.f g) l h (vB r) h:=by
 obtain⟨v,h',⟨r,hr,rfl⟩,hrun⟩:=dA (g:=g) (l:=l) (h:=.empty) (a:=a) (fun v _=>∃r:Bool,P r∧v=vB r) hf fun s h1 h2 h3 h4=>(aj _ _ _ (H s h1 h2 h3)).mono fun e s' ⟨k1,k2,r,k3,k4⟩=>⟨k1,k2,[vB r],k4,r,k3,rfl⟩;exact⟨r,hr,fun h=>fF (bF hs) (bV hs _) hl hrun (Rep.leaf (lo:=0) (hi:=0) (n:=0) (Leaf.val _)) de h⟩
theorem wj{m:Md}(hw:dsW m.ds.l≤2^23)(hN:m.ds.l.length<2^30):∃b:Bool,(b=true→DifT m)∧∀h,RunCall E1 (.f 5) [.agg m.cells] h (vB b) h:=by
 refine Zx kr Xb (ei (Tree.md m)) fun s hs hh hd=>?_
 have h0:=hs 0 _ rfl;simp-implicitDefEqProofs only[Mz,f5,V,h0,hh];refine(xf hw hN m.ds.l 0 0 [] (.val (.slice none 0 0)) _ rfl (ip _) de om rfl RowC.nil ?_ ?_ ?_ ?_ ?_ ?_ ?_).mono ?_
 all_goals try simp-implicitDefEqProofs only[V,↓reduceIte,rA,hd]
 ·exact Nat.le_refl _
 ·rfl
 ·rfl
 rintro e s1 ⟨d1,⟨rfl,c,nm2,v2,c3,c4,c5,c6,c7⟩|⟨rfl,t2⟩⟩
 ·cases hc:decide ((c:Int)≤1500) with
  |false=>
   simp-implicitDefEqProofs only[V,↓reduceIte,rA,reduceCtorEq,WF,c3,d1,hc];exact⟨false,⟨fun h=>(by cases h),rfl⟩⟩
  |true=>
   have hc':=of_decide_eq_true hc;have hd14:=zG c5 om;simp-implicitDefEqProofs only[V,↓reduceIte,rA,WF,c3,c4,hc];refine aR (by simp-implicitDefEqProofs only[V];exact hd14) ?_
   simp-implicitDefEqProofs only[V,↓reduceIte,rA,reduceCtorEq,d1];refine⟨disS nm2,fun h=>?_,rfl⟩;obtain⟨p1,p2,p3⟩:=c7 om;have hnd:=nZ.1 h;rw[iy] at p2;rw[p2] at hnd c6;rw[je] at c6;exact⟨c6,p3,hnd⟩
 ·simp-implicitDefEqProofs only[V,reduceCtorEq,t2,d1];exact⟨false,⟨fun h=>(by cases h),rfl⟩⟩
def KAwk:Prop:=KR.k 6 []=some (vB true)
theorem lJ(hk:KAwk)(h:AH):RunCall E1 (.f 6) [] h (vB true) h:=fT kr rfl hk (fun v hv=>by cases hv) h
theorem uT:∀l:List ByteArray,eqN l l=true
 | []=>rfl
 |a::r=>by rw[eqN,ax,uT r];rfl
theorem ux(l:List ByteArray):sameN l l=true:=by rw[sameN,uT,decide_eq_true rfl];rfl
theorem Jf(a b:Bool):binA Tryz.prog .eql 4 false (vB a) (vB b)=some (vB (decide (a=b))):=by
 cases a<;>cases b<;>kernel_rfl
theorem Nx{a b:Bool}:binA E1.P .eql 4 false (vB a) (vB b)=some (vB (decide (a=b))):=Jf a b
theorem En(gs:List (List ByteArray)):ids (gsV gs)=[]:=Vl.ids
theorem vd(gs:List (List ByteArray)):lenV (gsV gs)=some (vI (gs.length:Nat)):=Vl.len
theorem Wl{gs r:List (List ByteArray)}{i:Nat}{g:List ByteArray}(h:gs.drop i=g::r):idxAddrSV 1 (gsV gs) i=some (.iptr (nmV g::r.flatMap gA)):=Vl.at (v:=⟨gs,nilK,none⟩) vh h
theorem zC{s:St}{m:Md}{gs:List (List ByteArray)}(c7:∀h,RunCall E1 (.f 7) [.agg m.cells] h (gsV gs) h)(c8:∀h,RunCall E1 (.f 8) [.agg m.cells] h (gsV gs) h)(l0:0<s.h.next)(g0:s.h.get 0=some (.cells m.cells true))(h2:s.eval (.t 2)=some (.ptr 0 0)):
  Run E1 Nd s fun e s'=>e=.normal∧s'.h=s.h∧s'.defers=s.defers∧s'.eval (.t 5)=some (gsV gs)∧s'.eval (.t 6)=some (gsV gs)∧∀j,j<5→s'.eval (.t j)=s.eval (.t j):=by
 have n0:∀o,niceT s.h (some (.ptr 0 o))=true:=fun o=>bZ l0 g0 (by rw[m.ids0];rfl)
 have nm:ids (.agg m.cells)=[]:=by show idsL m.cells=[];exact m.ids0
 have ng:=En gs;refine bd (ops:=Ha) rfl ?_
 simp-implicitDefEqProofs only[Ha,wpDr,bA,j5,j4,V,↓reduceIte,rA,h2,n0,g0,aJ nm,aU nm,io];refine⟨_,c7,?_⟩;simp-implicitDefEqProofs only[V,aJ ng];refine⟨_,c8,?_⟩;simp-implicitDefEqProofs only[V,aJ ng];intro j hj
 repeat rw[if_neg om]
theorem zB{s:St}{gs r:List (List ByteArray)}{g:List ByteArray}{i:Nat}(hg:g.length<2^61)(hd:gs.drop i=g::r)(h5:s.eval (.t 5)=some (gsV gs))(h6:s.eval (.t 6)=some (gsV gs))(h7:s.eval (.t 7)=some (vI (i:Nat))):
  Run E1 Nc s fun e s'=>e=.normal∧s'.h=s.h∧s'.defers=s.defers∧s'.eval (.t 41)=some (vB false)∧∀j,j<8→s'.eval (.t j)=s.eval (.t j):=by
 have ng:=En gs;have nv:ids (nmV g)=[]:=Vl.ids;have vi:∀v,ids (AV.val v)=[]:=fun _=>rfl;have hc:∀h,RunCall E1 (.f 9) [nmV g,nmV g] h (vB true) h:=fun h=>by
  have:=uw ⟨g,nilK,none⟩ ⟨g,nilK,none⟩ hg hg h;rw[ux] at this;exact this
 refine bd (ops:=Gz) rfl ?_
 simp-implicitDefEqProofs only[Gz,wpDr,bA,j5,j4,V,↓reduceIte,rA,h5,h6,h7,Wl hd,aJ ng,aJ nv,aU nv,aJ (vi _),ab,io];refine⟨_,hc,?_⟩;simp-implicitDefEqProofs only[V,↓reduceIte,aJ (vi _)];intro j hj
 repeat rw[if_neg om]
theorem xh{gs:List (List ByteArray)}(hg:∀g∈gs,g.length<2^61)(hN:gs.length<2^60):∀(r:List (List ByteArray)) (i:Nat) (s:St),gs.drop i=r→i≤gs.length→s.eval (.t 5)=some (gsV gs)→s.eval (.t 6)=some (gsV gs)→s.eval (.t 7)=some (vI (i:Nat))→s.defers=[]→
  Run E1 xi s fun e s'=>e=.exit 0∧s'.defers=[]∧s'.h=s.h∧s'.eval (.t 1)=s.eval (.t 1)∧s'.eval (.t 2)=s.eval (.t 2)
 | [],i,s,hd,hi,h5,h6,h7,hf=>by
  have hl:=aK hd hi;subst hl;apply aC (rfl:xi=.loop uB);simp-implicitDefEqProofs only[uB,V,↓reduceIte,rA,h5,h7,vd,hf,bS]
 |g::r,i,s,hd,hi,h5,h6,h7,hf=>by
  have hl:=aL hd;have hlt:=bQ hl;have hgm:g∈gs:=List.mem_of_mem_drop (by rw[hd];exact im)
  have w1:IntKind.i64.wrap ((i:Int)+1)=((i+1:Nat):Int):=aE (n:=i+1) om;apply aC (rfl:xi=.loop uB);simp-implicitDefEqProofs only[uB,V,↓reduceIte,rA,h5,h7,vd,hlt];refine(zB (hg g hgm) hd ?_ ?_ ?_).mono ?_
  all_goals try simp-implicitDefEqProofs only[V,↓reduceIte,rA,h5,h6,h7]
  rintro e s1 ⟨rfl,eh,d1,t41,k1⟩
  try simp-implicitDefEqProofs only[hf] at eh d1
  have u5:s1.eval (.t 5)=some (gsV gs):=by rw[k1 5 de];simp-implicitDefEqProofs only[↓reduceIte,rA,h5]
  have u6:s1.eval (.t 6)=some (gsV gs):=by rw[k1 6 de];simp-implicitDefEqProofs only[↓reduceIte,rA,h6]
  have u7:s1.eval (.t 7)=some (vI (i:Nat)):=by rw[k1 7 de];simp-implicitDefEqProofs only[↓reduceIte,rA,h7]
  simp-implicitDefEqProofs only[V,↓reduceIte,t41,u7,w1];refine(xh hg hN r (i+1) _ (aF hd) om ?_ ?_ ?_ ?_).mono ?_
  all_goals try simp-implicitDefEqProofs only[V,↓reduceIte,rA,u5,u6,d1]
  rintro e s2 ⟨e1,d2,h2,k1',k2'⟩;refine⟨e1,d2,by rw[h2,eh],?_,?_⟩
  ·rw[k1',k1 1 de];simp-implicitDefEqProofs only[↓reduceIte,rA]
  ·rw[k2',k1 2 de];simp-implicitDefEqProofs only[↓reduceIte,rA]
theorem zA{s:St}{m:Md}{x:ByteArray}(hk:KAwk)(c10:∀h,RunCall E1 (.f 10) [.agg m.cells,vS x] h (vB (tog m x x)) h)(c11:∀h,RunCall E1 (.f 11) [.agg m.cells,vS x] h (vB (tog m x x)) h)(l0:0<s.h.next)(g0:s.h.get 0=some (.cells m.cells true))(h1:s.eval (.t 1)=some (vS x))(h2:s.eval (.t 2)=some (.ptr 0 0)):
  Run E1 Nb s fun e s'=>e=.normal∧s'.defers=s.defers∧s'.eval (.t 4)=some (vB true):=by
 have n0:∀o,niceT s.h (some (.ptr 0 o))=true:=fun o=>bZ l0 g0 (by rw[m.ids0];rfl)
 have nm:ids (.agg m.cells)=[]:=by show idsL m.cells=[];exact m.ids0
 have vi:∀v,ids (AV.val v)=[]:=fun _=>rfl;have dt:decide (tog m x x=tog m x x)=true:=decide_eq_true rfl;refine bd (ops:=Gy) rfl ?_
 simp-implicitDefEqProofs only[Gy,wpDr,bA,eu,iG,j5,j4,V,↓reduceIte,rA,h1,h2,n0,g0,aJ nm,aU nm,aJ (vi _),aU (vi _),io];refine⟨_,c10,?_⟩;simp-implicitDefEqProofs only[V,aJ (vi _)];refine⟨_,c11,?_⟩;simp-implicitDefEqProofs only[pA,V,↓reduceIte,aJ (vi _),aU (vi _),Nx];refine⟨_,lJ hk,?_⟩;simp-implicitDefEqProofs only[V,aJ (vi _)]
theorem Vy(hk:KAwk){m:Md}(hw:dsW m.ds.l≤2^23)(hN:m.ds.l.length<2^30)(x:ByteArray)(hx:x.size<2^60)(hL:DifT m→KM m∧KAll m∧KReach m x∧grps m=grpsR m∧∀g∈grps m,g.length<2^61):∃h',Ev fun n=>enterA E1 (exec E1 n) 3 [.agg m.cells,vS x] .empty=some (vB true,h'):=by
 obtain⟨b,hb,c5⟩:=wj hw hN;have c6:=lJ hk;obtain⟨v,h',rfl,hrun⟩:=dA (g:=3) (l:=[.agg m.cells,vS x]) (h:=.empty) (fun v _=>v=vB true) Xo fun s hs hh hd hrd=>by
  refine aj _ _ _ ?_
  have h0:=hs 0 _ rfl;have h1:=hs 1 _ rfl;cases b with
  |false=>
   simp-implicitDefEqProofs only[xj,f3,V,↓reduceIte,rA,reduceCtorEq,h0,hh,hd,aA c5,aA c6];exact⟨_,rfl,rfl⟩
  |true=>
   obtain⟨kM,kA,kx,hG,hgl⟩:=hL (hb rfl);have hD:=hb rfl;have hm:=hD.md;have hn:=hD.n;cases hz:decide ((x.size:Int)>100) with
   |true=>
    simp-implicitDefEqProofs only[xj,f3,V,↓reduceIte,rA,reduceCtorEq,h0,h1,hh,hd,aA c5,aA c6,cd,hz];exact⟨_,rfl,rfl⟩
   |false=>
    have c7:=qg hm kM kA;have c8:=qe hm om;rw[←hG] at c8;have hgsl:(grps m).length≤m.ds.l.length:=by
     have h1:=sX (m:=m) (opn m 0 m.ds.l).length (opn m 0 m.ds.l) [];have h2:=qP (m:=m) m.ds.l 0;rw[jc] at h1;rw[grps];omega
    have dn:decide (((grps m).length:Int)=((grps m).length:Int))=true:=decide_eq_true rfl;simp-implicitDefEqProofs only[xj,f3,V,↓reduceIte,rA,h0,h1,hh,aA c5,cd,hz];refine(zC c7 c8 ?_ ?_ ?_).mono ?_
    all_goals try simp-implicitDefEqProofs only[V,↓reduceIte,rA]
    ·exact Bb
    rintro e s1 ⟨rfl,eh,d1,t5,t6,k1⟩
    try simp-implicitDefEqProofs only[hd] at eh d1
    have u1:s1.eval (.t 1)=some (vS x):=by rw[k1 1 de];simp-implicitDefEqProofs only[↓reduceIte,rA,h1]
    have u2:s1.eval (.t 2)=some (.ptr 0 0):=by rw[k1 2 de];simp-implicitDefEqProofs only[↓reduceIte,rA]
    simp-implicitDefEqProofs only[V,↓reduceIte,rA,t5,t6,vd];refine(xh (gs:=grps m) hgl om (grps m) 0 _ rfl (ip _) ?_ ?_ ?_ ?_).mono ?_
    all_goals try simp-implicitDefEqProofs only[V,↓reduceIte,rA,t5,t6,d1]
    ·rfl
    rintro e s2 ⟨rfl,d2,eh2,k2,k3⟩
    try simp-implicitDefEqProofs only[V,↓reduceIte,rA,rB,rC,reduceCtorEq,rD,rE,rF] at eh2 k2 k3
    simp-implicitDefEqProofs only[V,WF];refine(zA hk (m:=m) (x:=x) (vC kx) (vA hm x) ?_ ?_ ?_ ?_).mono ?_
    ·rw[eh2,eh];exact Bb
    ·rw[eh2,eh];rfl
    ·rw[k2,u1]
    ·rw[k3,u2]
    rintro e s3 ⟨rfl,d3,t4⟩;simp-implicitDefEqProofs only[V,reduceCtorEq,t4,d3,d2];exact⟨_,rfl,rfl⟩
 exact⟨h',hrun⟩
theorem eV{a b:ByteArray}:strEq a b=true↔a=b:=by
 constructor
 ·intro h;have:=aV (x:=a) (l:=[b]);simp only[memS,Bool.or_false,ig] at this;exact this.1 h
 ·rintro rfl;exact ax _
theorem ze{m:Md}{a b:ByteArray}(h:tog m a b=true):tog m b a=true:=eD.2 (eD.1 h).symm
theorem yM{m:Md}{a b c:ByteArray}(h:tog m a b=true)(k:tog m b c=true):tog m a c=true:=by
 obtain⟨h1,h2⟩:=eD.1 h;obtain⟨k1,k2⟩:=eD.1 k;exact eD.2 ⟨h1.trans k1,k2.trans h2⟩
def eqv(m:Md)(a b:ByteArray):Prop:=b=a∨tog m a b=true
theorem iC{m:Md}{x:ByteArray}{d:Df}:inG m x d=true↔eqv m x d.nm:=by rw[inG,Bool.or_eq_true,eV];rfl
theorem eqv.symm{m:Md}{a b:ByteArray}(h:eqv m a b):eqv m b a:=by
 rcases h with rfl|h
 ·exact .inl rfl
 ·exact .inr (ze h)
theorem eqv.trans{m:Md}{a b c:ByteArray}(h:eqv m a b)(k:eqv m b c):eqv m a c:=by
 rcases h with rfl|h
 ·exact k
 ·rcases k with rfl|k
  ·exact .inr h
  ·exact .inr (yM h k)
theorem xW{m:Md}{a b:ByteArray}(h:eqv m a b):grp m a=grp m b:=by
 have key:∀l:List Df,grpD m a l=grpD m b l:=fun l=>by
  induction l with
  |nil=>rfl
  |cons d r ih=>
   have:inG m a d=inG m b d:=by
    rw[Aq,iC,iC];exact⟨fun k=>h.symm.trans k,fun k=>h.trans k⟩
   rw[grpD,grpD,this,ih]
 exact key _
theorem qX{m:Md}{x z:ByteArray}:z∈grp m x↔z∈nmM m∧eqv m x z:=by
 rw[grp,hY];constructor
 ·rintro⟨d,h1,rfl,h3⟩;exact⟨A4.2 ⟨d,h1,rfl⟩,iC.1 h3⟩
 ·rintro⟨h1,h2⟩;obtain⟨d,h3,rfl⟩:=A4.1 h1;exact⟨d,h3,rfl,iC.2 h2⟩
noncomputable abbrev G (m:Md) (d:Df):List ByteArray:=grp m d.nm
theorem Iv{m:Md}{d:Df}(h:d∈m.ds.l):d.nm∈G m d:=qX.2 ⟨A4.2 ⟨d,h,rfl⟩,.inl rfl⟩
theorem Sv{m:Md}{d e:Df}(h:e.nm∈G m d):G m e=G m d:=(xW (qX.1 h).2).symm
theorem Yn{m:Md}{d e:Df}(he:e∈m.ds.l)(h:G m e=G m d):e.nm∈G m d:=by rw[←h];exact Iv he
noncomputable def isF (m:Md) (d:Df):Bool:=strEq (hdG m d) d.nm
theorem qa{m:Md}{d:Df}:isF m d=true↔hdG m d=d.nm:=eV
theorem vQ:∀{l:List Df},(l.map Df.nm).Nodup→∀{a b:Df},a∈l→b∈l→a.nm=b.nm→a=b
 | [],_,a,b,h,_,_=>by cases h
 |d::r,hn,a,b,ha,hb,e=>by
  rw[jf,B9] at hn;rcases i9.1 ha with ha|ha<;>rcases i9.1 hb with hb|hb
  ·rw[ha,hb]
  ·exact absurd (A4.2 ⟨b,hb,by rw[←e,ha]⟩) hn.1
  ·exact absurd (A4.2 ⟨a,ha,by rw[e,hb]⟩) hn.1
  ·exact vQ hn.2 ha hb e
theorem o7{m:Md}{x:ByteArray}:∀{l:List Df} {a:ByteArray} {t:List ByteArray},grpD m x l=a::t→∃e p q,l=p++e::q∧e.nm=a∧inG m x e=true∧∀y∈p,inG m x y=false
 | [],a,t,h=>by cases h
 |d::r,a,t,h=>by
  rw[grpD] at h;cases q:inG m x d with
  |true=>
   rw[q,cond_true] at h;cases h;exact⟨d,[],r,rfl,rfl,q,fun y hy=>by cases hy⟩
  |false=>
   rw[q,cond_false] at h;obtain⟨e,p,u,h1,h2,h3,h4⟩:=o7 h;exact⟨e,d::p,u,by rw[h1];rfl,h2,h3,fun y hy=>by
    rcases i9.1 hy with rfl|hy
    ·exact q
    ·exact h4 y hy⟩
theorem Et{m:Md}{d:Df}(hd:d∈m.ds.l):∃e∈m.ds.l,isF m e=true∧G m e=G m d∧∀p q,m.ds.l=p++d::q→e∈p++[d]:=by
 obtain⟨a,t,hg⟩:=iE hd;obtain⟨e,p,q,h1,h2,h3,h4⟩:=o7 (show grpD m d.nm m.ds.l=a::t from hg);have he:e∈m.ds.l:=by rw[h1];exact An _ im
 have hG:G m e=G m d:=(xW (iC.1 h3)).symm;refine⟨e,he,qa.2 ?_,hG,fun p' q' h'=>?_⟩
 ·show(grp m e.nm).headD _=_;rw[show grp m e.nm=a::t from hG.trans hg];exact h2.symm
 ·rw[h1] at h';rcases List.append_eq_append_iff.1 h' with⟨x,x1,x2⟩|⟨x,x1,x2⟩
  ·cases x with
   |nil=>
    cases x2;exact An _ (ig.2 rfl)
   |cons y x=>
    cases x2;rw[x1];simp
  ·cases x with
   |nil=>
    cases x2;exact An _ (ig.2 rfl)
   |cons y x=>
    cases x2;have:inG m d.nm d=true:=tN;rw[h4 d (by rw[x1];simp)] at this
    cases this
theorem Lg{m:Md}(hn:(nmM m).Nodup){d e:Df}(hd:d∈m.ds.l)(he:e∈m.ds.l)(h1:isF m d=true)(h2:isF m e=true)(h:G m d=G m e):d=e:=by
 refine vQ hn hd he ?_
 rw[←qa.1 h1,←qa.1 h2,hdG,hdG];exact congrArg (fun g=>List.headD g ⟨#[]⟩) h
theorem Eh{x:ByteArray}:∀{p q:List Df} {d:Df},((p++d::q).map Df.nm).Nodup→x∈(p++d::q).map Df.nm→decide (idxI x (p++d::q)=((p.length:Nat):Int))=strEq x d.nm:=by
 intro p q d hn hx;have key:∀{p:List Df},((p++d::q).map Df.nm).Nodup→x∈(p++d::q).map Df.nm→(idxD x (p++d::q)=some p.length↔x=d.nm):=fun{p}=>by
  induction p with
  |nil=>
   intro hn hx;rw[iy,idxD,jc];cases e:strEq d.nm x with
   |true=>rw[cond_true];exact⟨fun _=>(eV.1 e).symm,fun _=>rfl⟩
   |false=>
    rw[cond_false];constructor
    ·intro h;cases k:idxD x q with
     |none=>rw[k] at h;cases h
     |some j=>rw[k] at h;simp at h
    ·rintro rfl;rw[ax] at e;cases e
  |cons a p ih=>
   intro hn hx;rw[ja,jf,B9] at hn;rw[ja,idxD,il];cases e:strEq a.nm x with
   |true=>
    rw[cond_true];have ea:=eV.1 e;constructor
    ·intro h;simp at h
    ·intro h;exact absurd (by rw[ea,h];simp) hn.1
   |false=>
    rw[cond_false];have hx':x∈(p++d::q).map Df.nm:=by
     rw[ja,jf] at hx;rcases i9.1 hx with h|h
     ·rw[←h,ax] at e;cases e
     ·exact h
    rw[←ih hn.2 hx'];cases k:idxD x (p++d::q) with
    |none=>simp
    |some j=>simp
 rw[Aq,eV,←key hn hx,decide_eq_true_eq,idxI];cases k:idxD x (p++d::q) with
 |none=>simp
 |some j=>simp[Int.ofNat_inj]
theorem Cy{m:Md}(hn:(nmM m).Nodup):∀(l p:List Df),m.ds.l=p++l→opn m p.length l=(l.filter (isF m)).map (G m)
 | [],p,_=>rfl
 |d::r,p,h=>by
  have hd:d∈m.ds.l:=by rw[h];exact An _ im
  have ih:=Cy hn r (p++[d]) (by rw[h,ji];rfl)
  rw[iq,List.length_singleton] at ih;have hx:hdG m d∈(p++d::r).map Df.nm:=by
   obtain⟨a,t,hg⟩:=iE hd;have:a∈grp m d.nm:=by rw[hg];exact im
   rw[hdG,hg,←h];exact(qX.1 this).1
  have he:decide (idxI (hdG m d) m.ds.l=((p.length:Nat):Int))=isF m d:=by
   have hn':((p++d::r).map Df.nm).Nodup:=by rw[←h];exact hn
   have:=Eh hn' hx;rw[←h] at this;exact this
  rw[opn,he,ih,A6];cases isF m d<;>rfl
noncomputable def Wt (m:Md) (g x:List ByteArray):Bool:=rchB m g x&& !rchB m x g
theorem yC{m:Md}{g:List ByteArray}:Wt m g g=false:=by rw[Wt];cases rchB m g g<;>rfl
theorem pf{m:Md}{gs:List (List ByteArray)}{g:List ByteArray}{i:Nat}{t:List (List ByteArray)}(hi:gs.drop i=g::t):∀(r:List (List ByteArray)) (k:Nat),gs.drop k=r→wt m g i k r=r.any (Wt m g)
 | [],k,_=>rfl
 |x::r,k,h=>by
  rw[wt,C1,pf hi r (k+1) (aF h)]
  by_cases e:k=i
  ·subst e;rw[hi] at h;cases h;rw[yC];simp
  ·rw[decide_eq_false e];rfl
noncomputable def RL (m:Md) (P:List ByteArray):List Df:=m.ds.l.filter fun d=>isF m d&& !memS d.nm P
theorem qY{m:Md}{P:List ByteArray}{d:Df}:d∈RL m P↔d∈m.ds.l∧isF m d=true∧d.nm∉P:=by
 rw[RL,List.mem_filter,i8,At,←Bool.not_eq_true,aV]
def Cl(m:Md)(P:List ByteArray):Prop:=∀d∈m.ds.l,∀e∈m.ds.l,G m d=G m e→e.nm∈P→d.nm∈P
noncomputable def rd (m:Md) (P:List ByteArray) (d:Df):Bool:= !((RL m P).map (G m)).any (Wt m (G m d))
theorem xG{m:Md}{g P:List ByteArray}:∀l:List Df,rdy m g P l= !l.any (blk m g P)
 | []=>rfl
 |d::r=>by
  rw[rdy,C1,xG r];cases blk m g P d<;>rfl
theorem Ou{m:Md}{P:List ByteArray}(hP:Cl m P)(d:Df):rdy m (G m d) P m.ds.l=rd m P d:=by
 rw[xG,rd]
 congr 1
 rw[Aq,B6,B6];constructor
 ·rintro⟨e,he,hb⟩;simp only[blk,i8,At] at hb;obtain⟨⟨⟨h1,h2⟩,h3⟩,h4⟩:=hb;obtain⟨f,hf,f1,f2,_⟩:=Et he;refine⟨G m f,A4.2 ⟨f,qY.2 ⟨hf,f1,fun h=>?_⟩,rfl⟩,?_⟩
  ·rw[aV.2 (hP e he f hf f2.symm h)] at h1;cases h1
  ·rw[f2,Wt];show(rchB m (G m d) (grp m e.nm)&& !rchB m (grp m e.nm) (G m d))=true;rw[h3,h4];rfl
 ·rintro⟨g,hg,hw⟩;obtain⟨e,he,rfl⟩:=A4.1 hg;obtain⟨h1,h2,h3⟩:=qY.1 he;refine⟨e,h1,?_⟩;have h4:memS e.nm (G m d)=false:=by
   cases q:memS e.nm (G m d) with
   |false=>rfl
   |true=>
    rw[Sv (aV.1 q),yC] at hw;cases hw
  have h5:memS e.nm P=false:=by
   cases q:memS e.nm P with
   |false=>rfl
   |true=>exact absurd (aV.1 q) h3
  rw[Wt,i8] at hw;simp only[blk,h4,h5,Ad,Bool.true_and,i8];exact hw
theorem jN{m:Md}{P:List ByteArray}(hP:Cl m P):∀l:List Df,fstG m P l=(l.find? fun d=> !memS d.nm P&&rd m P d).map (G m)
 | []=>rfl
 |d::r=>by
  rw[fstG,List.find?_cons,show rdy m (grp m d.nm) P m.ds.l=rd m P d from Ou hP d,jN hP r];cases memS d.nm P with
  |true=>rfl
  |false=>
   cases rd m P d<;>rfl
theorem Zt{m:Md}{P:List ByteArray}{d e:Df}(h:G m d=G m e):rd m P d=rd m P e:=by rw[rd,rd,h]
theorem tV{m:Md}(hn:(nmM m).Nodup){P:List ByteArray}(hP:Cl m P):m.ds.l.find? (fun d=> !memS d.nm P&&rd m P d)=(RL m P).find? (rd m P):=by
 rw[RL,List.find?_filter];cases q:m.ds.l.find? (fun d=> !memS d.nm P&&rd m P d) with
 |none=>
  symm;rw[List.find?_eq_none] at q⊢
  intro d hd h;have h1:=q d hd;simp only[i8,decide_eq_true_eq] at h h1;exact h1 ⟨h.1.2,h.2⟩
 |some d=>
  symm;obtain⟨hq,p,t,hpt,hno⟩:=Cu.1 q;simp only[i8] at hq;have hd:d∈m.ds.l:=by rw[hpt];exact An _ im
  obtain⟨e,he,e1,e2,e3⟩:=Et hd;have hed:e=d:=by
   rcases jb.1 (e3 p t hpt) with h|h
   ·have:=hno e h;rw[Zt e2,hq.2] at this;simp only[Bs,Bool.not_not] at this;have h2:memS d.nm P=true:=aV.2 (hP d hd e he e2.symm (aV.1 (by simpa using this)))
    rw[h2] at hq;cases hq.1
   ·exact ig.1 h
  subst hed;refine Cu.2 ⟨by simp[e1,hq.1,hq.2],p,t,hpt,fun a ha=>?_⟩
  have:=hno a ha;simp only[At,Bool.and_eq_false_iff] at this⊢
  rcases this with h|h
  ·simp[h]
  ·simp[h]
theorem oY{m:Md}{gs:List (List ByteArray)}:∀(l:List (List ByteArray)) (i:Nat),gs.drop i=l→(∀g∈l,gs.any (Wt m g)=true)→pickG m gs i l=none
 | [],i,_,_=>rfl
 |g::r,i,h,hw=>by
  rw[pickG,pf h gs 0 rfl,hw g im,cond_true];exact oY r (i+1) (aF h) fun g hg=>hw g (iz _ hg)
theorem oX{m:Md}{gs:List (List ByteArray)}{g:List ByteArray}{t:List (List ByteArray)}(hg:gs.any (Wt m g)=false):∀(p:List (List ByteArray)) (i:Nat),gs.drop i=p++g::t→(∀x∈p,gs.any (Wt m x)=true)→pickG m gs i (p++g::t)=some (i+p.length,g)
 | [],i,h,_=>by
  rw[iy] at h⊢
  rw[pickG,pf h gs 0 rfl,hg];rfl
 |x::p,i,h,hw=>by
  rw[ja] at h⊢
  rw[pickG,pf h gs 0 rfl,hw x im,cond_true,oX hg p (i+1) (aF h) fun x hx=>hw x (iz _ hx),il]
  congr 2
  omega
theorem pU{α:Type}:∀(p:List α) (g:α) (t:List α),(p++g::t).eraseIdx p.length=p++t
 | [],g,t=>rfl
 |x::p,g,t=>by
  rw[ja,il,List.eraseIdx_cons_succ,pU p g t];rfl
theorem sU{m:Md}(hn:(nmM m).Nodup):∀(n k:Nat) (P:List ByteArray) (out:List (List ByteArray)),Cl m P→(RL m P).length=n→n<k→runG m n ((RL m P).map (G m)) out=runR m k P out
 |n,0,P,out,hP,hl,hk=>by omega
 |0,k+1,P,out,hP,hl,hk=>by
  have hR:RL m P=[]:=List.eq_nil_of_length_eq_zero hl;rw[runR,jN hP,tV hn hP,hR];rfl
 |n+1,k+1,P,out,hP,hl,hk=>by
  rw[runG,runR,jN hP,tV hn hP];cases q:(RL m P).find? (rd m P) with
  |none=>
   rw[List.find?_eq_none] at q;rw[oY ((RL m P).map (G m)) 0 jq fun g hg=>?_]
   ·rfl
   ·obtain⟨d,hd,rfl⟩:=A4.1 hg;have:=q d hd;rw[rd] at this
    simpa using this
  |some d=>
   obtain⟨hq,p,t,hpt,hno⟩:=Cu.1 q;have hnd:(RL m P).Nodup:=by
    refine C5.filter _ ?_
    exact C5.of_map Df.nm (fun a b h e=>h (congrArg Df.nm e)) hn
   have hdR:d∈RL m P:=by rw[hpt];exact An _ im
   obtain⟨hd,hdf,hdP⟩:=qY.1 hdR;have hgs:(RL m P).map (G m)=p.map (G m)++G m d::t.map (G m):=by rw[hpt,By,jf]
   have hps:pickG m ((RL m P).map (G m)) 0 ((RL m P).map (G m))=some (p.length,G m d):=by
    have h1:((RL m P).map (G m)).any (Wt m (G m d))=false:=by
     rw[rd] at hq
     simpa using hq
    have h2:∀x∈p.map (G m),((RL m P).map (G m)).any (Wt m x)=true:=fun x hx=>by
     obtain⟨e,he,rfl⟩:=A4.1 hx;have:=hno e he;rw[rd] at this
     simpa using this
    have:=oX h1 (p.map (G m)) 0 (t:=t.map (G m)) (by rw[jq,hgs]) h2
    rw[je,Nat.zero_add,←hgs] at this;exact this
   have hmem:∀e∈p++t,e.nm∉G m d:=fun e he hg=>by
    have heR:e∈RL m P:=by
     rw[hpt];rcases jb.1 he with h|h
     ·exact Ba _ h
     ·exact An _ (iz _ h)
    obtain⟨he1,he2,he3⟩:=qY.1 heR;have hed:=Lg hn he1 hd he2 hdf (Sv hg);subst hed;rw[hpt,Bw] at hnd;rcases jb.1 he with h|h
    ·exact hnd.2.2 e h e im rfl
    ·exact(B9.1 hnd.2.1).1 h
   have hRn:RL m (P++G m d)=p++t:=by
    have h1:RL m (P++G m d)=(RL m P).filter fun e=> !memS e.nm (G m d):=by
     rw[RL,RL,List.filter_filter];refine List.filter_congr fun e _=>?_
     rw[mX];cases isF m e<;>cases memS e.nm P<;>cases memS e.nm (G m d)<;>rfl
    have h2:memS d.nm (G m d)=true:=aV.2 (Iv hd);have h3:∀e∈p++t,(!memS e.nm (G m d))=true:=fun e he=>by
     cases q:memS e.nm (G m d) with
     |false=>rfl
     |true=>exact absurd (aV.1 q) (hmem e he)
    rw[h1,hpt,List.filter_append,A6,h2,if_neg de,List.filter_eq_self.2 fun e he=>h3 e (Ba _ he),List.filter_eq_self.2 fun e he=>h3 e (An _ he)]
   have hln:(p++t).length=n:=by
    rw[hpt,iq,il] at hl;rw[iq];omega
   have her:((RL m P).map (G m)).eraseIdx p.length=(RL m (P++G m d)).map (G m):=by
    have:=pU (p.map (G m)) (G m d) (t.map (G m));rw[je] at this;rw[hgs,this,hRn,By]
   rw[hps];show runG m n (((RL m P).map (G m)).eraseIdx p.length) (out++[G m d])=runR m k (P++G m d) (out++[G m d]);rw[her];refine sU hn n k (P++G m d) (out++[G m d]) (fun a ha b hb hab hbP=>?_) (by rw[hRn,hln]) om
   rcases jb.1 hbP with h|h
   ·exact Ba _ (hP a ha b hb hab h)
   ·exact An _ (Yn ha (hab.trans (Sv h)))
theorem yy{m:Md}(hn:(nmM m).Nodup):grps m=grpsR m:=by
 have h0:RL m []=m.ds.l.filter (isF m):=by
  rw[RL];refine List.filter_congr fun d _=>?_
  show(isF m d&& !false)=_;rw[Ad,Bs]
 have h1:opn m 0 m.ds.l=(RL m []).map (G m):=by
  rw[h0];exact Cy hn m.ds.l [] rfl
 have h2:(RL m []).length≤m.ds.l.length:=List.length_filter_le _ _;rw[grps,grpsR,h1,je];exact sU hn _ _ [] [] (fun a _ b _ _ h=>by cases h) rfl om
end Go.Proofs.YtkmoeaplhnabcaaGreatDoor
