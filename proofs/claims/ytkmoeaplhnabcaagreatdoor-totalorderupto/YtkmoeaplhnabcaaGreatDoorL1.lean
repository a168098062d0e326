/- TDiff TLawA TPlawA -/
import Derived.Test.YtkmoeaplhnabcaaGreatDoorU0
import Derived.Test.YtkmoeaplhnabcaaGreatDoorH1
import Derived.Test.YtkmoeaplhnabcaaGreatDoorH3

set_option linter.all false
open Nat renaming reduceEqDiff → rA, reduceAdd → rB, reduceMul → rC
open Int renaming reduceEq → rD, reduceLT → rE, reduceLE → rF
open Bool renaming eq_iff_iff → Ba
open List renaming append_assoc → jh, cons_append → ja, length_append → io, map_cons → jd, mem_append_right → Ae, mem_cons → i8, mem_cons_self → il, mem_map → A1, mem_singleton → ig, nil_append → iz, nodup_append → C1, nodup_cons → Ax
namespace Go.Proofs.YtkmoeaplhnabcaaGreatDoor
open Go Go.AM
set_option maxHeartbeats 4000000
variable [KR]
theorem vv{x:ByteArray}:∀{p r:List ByteArray},memS x p=false→fnd x (p++x::r)=some p.length
 | [],r,_=>by
  show(bif strEq x x then some 0 else _)=_;rw[bA];rfl
 |a::p,r,h=>by
  rw[memS,Bool.or_eq_false_iff] at h;show(bif strEq x a then some 0 else(fnd x (p++x::r)).map (· +1))=_;rw[h.1,vv h.2];rfl
theorem vu{x:ByteArray}:∀{p r:List ByteArray},memS x p=true→∃j,fnd x (p++r)=some j∧j<p.length
 | [],r,h=>by cases h
 |a::p,r,h=>by
  show∃j,(bif strEq x a then some 0 else(fnd x (p++r)).map (· +1))=some j∧j<p.length+1;cases q:strEq x a with
  |true=>exact⟨0,rfl,om⟩
  |false=>
   rw[memS,q,Bool.false_or] at h;obtain⟨j,h1,h2⟩:=vu (r:=r) h;exact⟨j+1,by rw[h1];rfl,om⟩
open Classical in
noncomputable def disS (l:List ByteArray):Bool:=decide l.Nodup
theorem g8{l:List ByteArray}:disS l=true↔l.Nodup:=by simp only[disS,decide_eq_true_eq]
theorem uv{l:List ByteArray}(h:¬l.Nodup):disS l=false:=by
 cases q:disS l with
 |true=>exact absurd (g8.1 q) h
 |false=>rfl
theorem sa(w:Vl ByteArray)(hN:w.l.length<2^61):∀(r:List ByteArray) (i:Nat) (s:St),w.l.drop i=r→i≤w.l.length→(w.l.take i).Nodup→s.eval (.t 0)=some (w.A strA)→s.eval (.t 5)=some (vI (w.l.length:Nat))→s.eval (.t 6)=some (vI (i:Nat))→s.defers=[]→
  Run E1 pz s fun e s'=>s'.defers=[]∧((disS w.l=true∧e=.exit 0)∨(disS w.l=false∧e=.ret∧s'.eval (.t 2)=some (vB false)))
 | [],i,s,hd,hi,hn,h0,h5,h6,hf=>by
  have hl:=aK hd hi;subst hl;rw[List.take_length] at hn;apply aC (rfl:pz=.loop jG);simp-implicitDefEqProofs only[jG,V,↓reduceIte,rA,reduceCtorEq,h5,h6,hf,ba,g8.2 hn]
 |x::r,i,s,hd,hi,hn,h0,h5,h6,hf=>by
  have hl:=aL hd;have hlt:=bY hl;have w1:IntKind.i64.wrap ((i:Int)+1)=((i+1:Nat):Int):=aE (n:=i+1) om;have hc:=cW w x hN;have hsp:w.l=w.l.take i++x::r:=by rw[←hd,List.take_append_drop]
  have htl:(w.l.take i).length=i:=by rw[List.length_take];omega
  apply aC (rfl:pz=.loop jG);cases q:memS x (w.l.take i) with
  |true=>
   obtain⟨j,j1,j2⟩:=vu (r:=x::r) q;rw[←hsp] at j1;have hnn:¬w.l.Nodup:=fun h=>by
    rw[hsp] at h;exact(C1.1 h).2.2 x (ay.1 q) x il rfl
   have hj:fndI x w.l=(j:Nat):=by rw[fndI,j1]
   have hne:decide ((j:Int)=(i:Int))=false:=decide_eq_false om;simp-implicitDefEqProofs only[jG,V,↓reduceIte,rA,reduceCtorEq,h0,h5,h6,hf,hlt,w.at aI hd,bS,aG hc,hj,hne,uv hnn]
  |false=>
   have j1:=vv (r:=r) q;rw[←hsp,htl] at j1;have hj:fndI x w.l=(i:Nat):=by rw[fndI,j1]
   have hne:decide ((i:Int)=(i:Int))=true:=decide_eq_true rfl;have hn':(w.l.take (i+1)).Nodup:=by
    rw[List.take_add,hd];show(w.l.take i++[x]).Nodup;rw[C1];refine⟨hn,by simp,fun a ha b hb e=>?_⟩
    rw[ig.1 hb] at e;subst e;rw[ay.2 ha] at q;cases q
   simp-implicitDefEqProofs only[jG,V,↓reduceIte,rA,reduceCtorEq,h0,h5,h6,hlt,w.at aI hd,bS,aG hc,hj,w1];refine(sa w hN r (i+1) _ (aH hd) om hn' ?_ ?_ ?_ ?_).mono ?_
   all_goals try simp-implicitDefEqProofs only[V,↓reduceIte,rA,reduceCtorEq,h0,h5,hf]
   exact fun e s' h=>h
theorem mY(w:Vl ByteArray)(hN:w.l.length<2^61)(h:AH):RunCall E1 (.f 14) [w.A strA] h (vB (disS w.l)) h:=by
 refine gJ kr Nc (iM Tree.vl) rfl (Tree.val _) (fun s hs hh hd hr=>?_) h;have h0:=hs 0 _ rfl;simp-implicitDefEqProofs only[Dk,f14,V,↓reduceIte,reduceCtorEq,h0];refine(sa w hN w.l 0 _ rfl (Nat.zero_le _) List.nodup_nil ?_ ?_ ?_ ?_).mono ?_
 all_goals try simp-implicitDefEqProofs only[V,↓reduceIte,rA,reduceCtorEq,h0,hd]
 ·rfl
 rintro e s1 ⟨d1,⟨q,rfl⟩|⟨q,rfl,t2⟩⟩
 ·exact U70
 ·simp-implicitDefEqProofs only[V,reduceCtorEq,d1,q,t2]
theorem xZ{h:AH}{lo:Nat}{v:AV}{l:List ByteArray}(r:RowC h lo l.length 1 v (l.flatMap strA))(hN:l.length<2^61):RunCall E1 (.f 14) [v] h (vB (disS l)) h:=by
 obtain⟨h1,f1,f2,f3,f4⟩:=bN r.x;rw[Kd r] at f4;exact dE (xs:=[]) (ys:=[]) kr (fun v hv=>by cases hv) (fun v hv=>by cases hv) Vl.leaf.tree f1 f4 rfl fun h=>mY ⟨l,nilK,none⟩ hN h
def defW(d:Df):Nat:=d.nm.size+d.ps.l.length+d.b.wt
def dsW:List Df→Nat
 | []=>0
 |d::r=>defW d+dsW r
structure DifT (m:Md):Prop where
 n:m.ds.l.length≤20
 b:∀d∈m.ds.l,d.b.sz≤1500∧d.ps.l.length≤1500
 nd:(nmM m).Nodup
theorem DifT.md{m:Md}(h:DifT m):MdT m:=⟨by have:=h.n;omega,fun d hd=>by have:=h.b d hd;omega⟩
theorem xT{s:St}{m:Md}{d:Df}{r:List Df}{i acc:Nat}(hd:m.ds.l.drop i=d::r)(hw:acc+defW d≤2^24)(l0:0<s.h.next)(g0:s.h.get 0=some (.cells m.cells true))(h1:s.eval (.t 1)=some (.ptr 0 0))(h3:s.eval (.t 3)=some (vI (acc:Nat)))(h5:s.eval (.t 5)=some (vI (i:Nat))):
  Run E1 Is s fun x s'=>x=.normal∧s'.defers=s.defers∧s'.h=s.h∧(∃b:Nat,s'.eval (.t 3)=some (vI (b:Nat))∧b≤acc+defW d∧(b≤1500→acc+d.ps.l.length+d.b.sz≤b)∧acc≤b)∧∀j,j<6→j≠3→s'.eval (.t j)=s.eval (.t j):=by
 have n0:∀o,niceT s.h (some (.ptr 0 o))=true:=fun o=>bt l0 g0 (by rw[m.ids0];rfl)
 have vi:∀v,ids (AV.val v)=[]:=fun _=>rfl;have ib:ids (.agg d.b.cells)=[]:=d.b.ids0;have hdw:defW d=d.nm.size+d.ps.l.length+d.b.wt:=rfl;obtain⟨q,⟨q1,q2⟩,q3⟩:=vF d.b om 1500 om om;have w2:IntKind.i64.wrap ((acc:Int)+(d.ps.l.length:Nat))=((acc+d.ps.l.length:Nat):Int):=aE (n:=acc+d.ps.l.length) om;have w5:IntKind.i64.wrap (((acc+d.ps.l.length:Nat):Int)+(q:Int))=((acc+d.ps.l.length+q:Nat):Int):=aE (n:=acc+d.ps.l.length+q) om;refine eP (ops:=zr) rfl ?_
 simp-implicitDefEqProofs only[zr,wpDr,bZ,List.all_cons,List.all_nil,V,↓reduceIte,rA,h1,h3,h5,n0,g0,m.ds.at Df.len hd,aM ib,ak ib,aM Vl.ids,aM (vi _),an,w2,Bool.and_self];refine⟨_,q3,?_⟩;simp-implicitDefEqProofs only[V,↓reduceIte,aM (vi _),w5];refine⟨⟨acc+d.ps.l.length+q,rfl,om,fun h=>by have:=q2 om;omega,om⟩,fun j hj hn=>?_⟩
 repeat rw[if_neg om]
theorem vz{m:Md}(hw:dsW m.ds.l≤2^23)(hN:m.ds.l.length<2^30):∀(r:List Df) (i acc:Nat) (nms:List ByteArray) (v:AV) (s:St),m.ds.l.drop i=r→i≤m.ds.l.length→i≤20→acc+dsW r≤2^23→nms.length=i→RowC s.h 1 nms.length 1 v (nms.flatMap strA)→1≤s.h.next→s.h.get 0=some (.cells m.cells true)→
  s.eval (.t 1)=some (.ptr 0 0)→s.eval (.t 3)=some (vI (acc:Nat))→s.eval (.t 4)=some v→s.eval (.t 5)=some (vI (i:Nat))→s.defers=[]→
  Run E1 v8 s fun e s'=>s'.defers=[]∧((e=.exit 0∧∃(c:Nat) (nm2:List ByteArray) (v2:AV),s'.eval (.t 3)=some (vI (c:Nat))∧s'.eval (.t 4)=some v2∧RowC s'.h 1 nm2.length 1 v2 (nm2.flatMap strA)∧nm2.length≤20∧(c≤1500→acc≤c∧nm2=nms++r.map Df.nm∧(∀d∈r,d.b.sz≤1500∧d.ps.l.length≤1500)))∨(e=.ret∧s'.eval (.t 2)=some (vB false)))
 | [],i,acc,nms,v,s,hd,hi,h20,ha,hn,hr,l1,g0,h1,h3,h4,h5,hf=>by
  have hl:=aK hd hi;subst hl;apply aC (rfl:v8=.loop kL);simp-implicitDefEqProofs only[kL,V,↓reduceIte,rA,reduceCtorEq,h1,h3,h4,h5,g0,hf,ba];exact .inl ⟨acc,nms,v,rfl,rfl,hr,om,fun _=>⟨Nat.le_refl _,(List.append_nil _).symm,fun d hd=>by cases hd⟩⟩
 |d::r,i,acc,nms,v,s,hd,hi,h20,ha,hn,hr,l1,g0,h1,h3,h4,h5,hf=>by
  have hl:=aL hd;have hlt:=bY hl;have w1:IntKind.i64.wrap ((i:Int)+1)=((i+1:Nat):Int):=aE (n:=i+1) om;rw[dsW] at ha;apply aC (rfl:v8=.loop kL);cases hc:decide ((acc:Int)≤1500) with
  |false=>
   have hc':=of_decide_eq_false hc;simp-implicitDefEqProofs only[kL,V,↓reduceIte,rA,reduceCtorEq,h1,h3,h4,h5,g0,hf,hlt,hc];exact .inl ⟨acc,nms,v,rfl,rfl,hr,om,fun h=>by omega⟩
  |true=>
   cases hg:decide ((i:Int)≥20) with
   |true=>simp-implicitDefEqProofs only[kL,V,↓reduceIte,rA,reduceCtorEq,h1,h3,h4,h5,g0,hf,hlt,hc,hg]
   |false=>
    have hg':=of_decide_eq_false hg;cases hz:decide ((d.nm.size:Int)>100) with
    |true=>simp-implicitDefEqProofs only[kL,V,↓reduceIte,rA,reduceCtorEq,h1,h3,h4,h5,g0,hf,hlt,hc,hg,m.ds.at Df.len hd,dW,hz]
    |false=>
     simp-implicitDefEqProofs only[kL,V,↓reduceIte,rA,WF,h1,h3,h4,h5,g0,hlt,hc,hg,m.ds.at Df.len hd,dW,hz];refine qM (k:=nms.length) (m:=1) (lo:=1) (v:=v) (x:=.own s.h.next 0 1 1 (some 1)) (cs:=nms.flatMap strA) (new:=[vS d.nm]) ?_ ?_ ?_ de rfl ?_ (aS (bytes:=16) om de) ?_ ?_ ?_
     ·exact U74
     ·simp-implicitDefEqProofs only[V];exact Nat.le_trans l1 (Nat.le_succ _)
     ·refine aq (rw':=true) ?_ rfl;exact U36
     ·exact fun c hc=>by rw[ig.1 hc];exact Leaf.val _
     ·exact U36
     ·exact U36
     intro h1' r1 m1 o1 _;simp-implicitDefEqProofs only[V] at m1 o1 r1;have m1:s.h.next+1≤h1'.next:=m1;have g1:h1'.get 0=some (.cells m.cells true):=by rw[o1 0 om (fun q=>by have:=(hr.ids 0 q).1;omega),if_neg om,g0]
     simp-implicitDefEqProofs only[V,↓reduceIte];refine(xT (acc:=acc) hd om ?_ ?_ ?_ ?_ ?_).mono ?_
     all_goals try simp-implicitDefEqProofs only[V,↓reduceIte,rA,h1,h3,h5]
     ·omega
     ·exact g1
     rintro x s1 ⟨rfl,d1,eh,⟨b,t3,b1,b2,b3⟩,k1⟩
     try simp-implicitDefEqProofs only[hf] at d1 eh
     have u1:s1.eval (.t 1)=some (.ptr 0 0):=by rw[k1 1 de de];simp-implicitDefEqProofs only[↓reduceIte,rA,h1]
     have u4:s1.eval (.t 4)=some (.own (s.h.next+1) 0 (nms.length+1) 1 none):=by rw[k1 4 de de];simp-implicitDefEqProofs only[↓reduceIte]
     have u5:s1.eval (.t 5)=some (vI (i:Nat)):=by rw[k1 5 de de];simp-implicitDefEqProofs only[↓reduceIte,rA,h5]
     have hb:(nms++[d.nm]).length=nms.length+1:=by rw[io];rfl
     simp-implicitDefEqProofs only[V,↓reduceIte,u5,w1];refine(vz hw hN r (i+1) b (nms++[d.nm]) (.own (s.h.next+1) 0 (nms.length+1) 1 none) _ (aH hd) om om om om ?_ ?_ ?_ ?_ ?_ ?_ ?_ ?_).mono ?_
     all_goals try simp-implicitDefEqProofs only[V,↓reduceIte,rA,u1,u4,t3,d1]
     ·rw[hb,List.flatMap_append,eh];exact r1
     ·rw[eh];omega
     ·rw[eh];exact g1
     rintro e s2 ⟨d2,⟨rfl,c,nm2,v2,c3,c4,c5,c6,c7⟩|⟨rfl,t2⟩⟩
     ·refine⟨d2,.inl ⟨rfl,c,nm2,v2,c3,c4,c5,c6,fun hc=>?_⟩⟩;obtain⟨p1,p2,p3⟩:=c7 hc;have:=b2 om;refine⟨om,by rw[p2,jh];rfl,fun e he=>?_⟩
      rcases i8.1 he with rfl|he
      ·omega
      ·exact p3 e he
     ·exact⟨d2,.inr ⟨rfl,t2⟩⟩
theorem Vb{g:Nat}{l:List AV}{a:AFun}{P:Bool→Prop}(hs:freshF g=true)(hf:funOf Tryz.prog g=some a)(hl:∀v∈l,Tree v)
  (H:∀s:St,(∀i v,(enterTm l 0 .nil).get i=some v→s.eval (.t i)=some v)→s.h=.empty→s.defers=[]→wp E1 a.body s fun e s=>(e=.normal∨e=.ret)∧s.defers=[]∧∃r:Bool,P r∧resultsA E1.globs s a.res=some [vB r]):
  ∃r:Bool,P r∧∀h,RunCall E1 (.f g) l h (vB r) h:=by
 obtain⟨v,h',⟨r,hr,rfl⟩,hrun⟩:=dT (g:=g) (l:=l) (h:=.empty) (a:=a) (fun v _=>∃r:Bool,P r∧v=vB r) hf fun s h1 h2 h3 h4=>(ag _ _ _ (H s h1 h2 h3)).mono fun e s' ⟨k1,k2,r,k3,k4⟩=>⟨k1,k2,[vB r],k4,r,k3,rfl⟩;exact⟨r,hr,fun h=>hZ (bI hs) (bX hs _) hl hrun (Rep.leaf (lo:=0) (hi:=0) (n:=0) (Leaf.val _)) de h⟩
theorem uw{m:Md}(hw:dsW m.ds.l≤2^23)(hN:m.ds.l.length<2^30):∃b:Bool,(b=true→DifT m)∧∀h,RunCall E1 (.f 5) [.agg m.cells] h (vB b) h:=by
 refine Vb kr Sg (iM (Tree.md m)) fun s hs hh hd=>?_
 have h0:=hs 0 _ rfl;simp-implicitDefEqProofs only[Ir,f5,V,h0,hh];refine(vz hw hN m.ds.l 0 0 [] (.val (.slice none 0 0)) _ rfl (Nat.zero_le _) de om rfl RowC.nil ?_ ?_ ?_ ?_ ?_ ?_ ?_).mono ?_
 all_goals try simp-implicitDefEqProofs only[V,↓reduceIte,rA,hd]
 ·exact Nat.le_refl _
 ·rfl
 ·rfl
 rintro e s1 ⟨d1,⟨rfl,c,nm2,v2,c3,c4,c5,c6,c7⟩|⟨rfl,t2⟩⟩
 ·cases hc:decide ((c:Int)≤1500) with
  |false=>
   simp-implicitDefEqProofs only[V,↓reduceIte,rA,reduceCtorEq,WF,c3,d1,hc];exact⟨false,⟨fun h=>(by cases h),rfl⟩⟩
  |true=>
   have hc':=of_decide_eq_true hc;have hd14:=xZ c5 om;simp-implicitDefEqProofs only[V,↓reduceIte,rA,WF,c3,c4,hc];refine aW (by simp-implicitDefEqProofs only[V];exact hd14) ?_
   simp-implicitDefEqProofs only[V,↓reduceIte,rA,reduceCtorEq,d1];refine⟨disS nm2,fun h=>?_,rfl⟩;obtain⟨p1,p2,p3⟩:=c7 om;have hnd:=g8.1 h;rw[iz] at p2;rw[p2] at hnd c6;rw[List.length_map] at c6;exact⟨c6,p3,hnd⟩
 ·simp-implicitDefEqProofs only[V,reduceCtorEq,t2,d1];exact⟨false,⟨fun h=>(by cases h),rfl⟩⟩
def KAwk:Prop:=KR.k 6 []=some (vB true)
theorem tB(hk:KAwk)(h:AH):RunCall E1 (.f 6) [] h (vB true) h:=fH kr rfl hk (fun v hv=>by cases hv) h
theorem zG(gs:List (List ByteArray)):ids (gsV gs)=[]:=Vl.ids
theorem zF(gs:List (List ByteArray)):lenV (gsV gs)=some (vI (gs.length:Nat)):=Vl.len
theorem rW{gs r:List (List ByteArray)}{i:Nat}{g:List ByteArray}(h:gs.drop i=g::r):idxAddrSV 1 (gsV gs) i=some (.iptr (nmV g::r.flatMap gA)):=Vl.at (v:=⟨gs,nilK,none⟩) uF h
theorem eO{a b:ByteArray}:strEq a b=true↔a=b:=by
 constructor
 ·intro h;have:=ay (x:=a) (l:=[b]);simp only[memS,Bool.or_false,ig] at this;exact this.1 h
 ·rintro rfl;exact bA _
theorem x7{m:Md}{a b:ByteArray}(h:tog m a b=true):tog m b a=true:=dy.2 (dy.1 h).symm
theorem wb{m:Md}{a b c:ByteArray}(h:tog m a b=true)(k:tog m b c=true):tog m a c=true:=by
 obtain⟨h1,h2⟩:=dy.1 h;obtain⟨k1,k2⟩:=dy.1 k;exact dy.2 ⟨h1.trans k1,k2.trans h2⟩
def eqv(m:Md)(a b:ByteArray):Prop:=b=a∨tog m a b=true
theorem gU{m:Md}{x:ByteArray}{d:Df}:inG m x d=true↔eqv m x d.nm:=by rw[inG,Bool.or_eq_true,eO];rfl
theorem eqv.symm{m:Md}{a b:ByteArray}(h:eqv m a b):eqv m b a:=by
 rcases h with rfl|h
 ·exact .inl rfl
 ·exact .inr (x7 h)
theorem eqv.trans{m:Md}{a b c:ByteArray}(h:eqv m a b)(k:eqv m b c):eqv m a c:=by
 rcases h with rfl|h
 ·exact k
 ·rcases k with rfl|k
  ·exact .inr h
  ·exact .inr (wb h k)
theorem vp{m:Md}{a b:ByteArray}(h:eqv m a b):grp m a=grp m b:=by
 have key:∀l:List Df,grpD m a l=grpD m b l:=fun l=>by
  induction l with
  |nil=>rfl
  |cons d r ih=>
   have:inG m a d=inG m b d:=by
    rw[Ba,gU,gU];exact⟨fun k=>h.symm.trans k,fun k=>h.trans k⟩
   rw[grpD,grpD,this,ih]
 exact key _
theorem eD{m:Md}{x z:ByteArray}:z∈grp m x↔z∈nmM m∧eqv m x z:=by
 rw[grp,gO];constructor
 ·rintro⟨d,h1,rfl,h3⟩;exact⟨A1.2 ⟨d,h1,rfl⟩,gU.1 h3⟩
 ·rintro⟨h1,h2⟩;obtain⟨d,h3,rfl⟩:=A1.1 h1;exact⟨d,h3,rfl,gU.2 h2⟩
noncomputable abbrev G (m:Md) (d:Df):List ByteArray:=grp m d.nm
theorem Oc{m:Md}{d:Df}(h:d∈m.ds.l):d.nm∈G m d:=eD.2 ⟨A1.2 ⟨d,h,rfl⟩,.inl rfl⟩
noncomputable def isF (m:Md) (d:Df):Bool:=strEq (hdG m d) d.nm
theorem pP{m:Md}{d:Df}:isF m d=true↔hdG m d=d.nm:=eO
theorem tp:∀{l:List Df},(l.map Df.nm).Nodup→∀{a b:Df},a∈l→b∈l→a.nm=b.nm→a=b
 | [],_,a,b,h,_,_=>by cases h
 |d::r,hn,a,b,ha,hb,e=>by
  rw[jd,Ax] at hn;rcases i8.1 ha with ha|ha<;>rcases i8.1 hb with hb|hb
  ·rw[ha,hb]
  ·exact absurd (A1.2 ⟨b,hb,by rw[←e,ha]⟩) hn.1
  ·exact absurd (A1.2 ⟨a,ha,by rw[e,hb]⟩) hn.1
  ·exact tp hn.2 ha hb e
theorem np{m:Md}{x:ByteArray}:∀{l:List Df} {a:ByteArray} {t:List ByteArray},grpD m x l=a::t→∃e p q,l=p++e::q∧e.nm=a∧inG m x e=true∧∀y∈p,inG m x y=false
 | [],a,t,h=>by cases h
 |d::r,a,t,h=>by
  rw[grpD] at h;cases q:inG m x d with
  |true=>
   rw[q,cond_true] at h;cases h;exact⟨d,[],r,rfl,rfl,q,fun y hy=>by cases hy⟩
  |false=>
   rw[q,cond_false] at h;obtain⟨e,p,u,h1,h2,h3,h4⟩:=np h;exact⟨e,d::p,u,by rw[h1];rfl,h2,h3,fun y hy=>by
    rcases i8.1 hy with rfl|hy
    ·exact q
    ·exact h4 y hy⟩
theorem Lg{m:Md}{d:Df}(hd:d∈m.ds.l):∃e∈m.ds.l,isF m e=true∧G m e=G m d∧∀p q,m.ds.l=p++d::q→e∈p++[d]:=by
 obtain⟨a,t,hg⟩:=l4 hd;obtain⟨e,p,q,h1,h2,h3,h4⟩:=np (show grpD m d.nm m.ds.l=a::t from hg);have he:e∈m.ds.l:=by rw[h1];exact Ae _ il
 have hG:G m e=G m d:=(vp (gU.1 h3)).symm;refine⟨e,he,pP.2 ?_,hG,fun p' q' h'=>?_⟩
 ·show(grp m e.nm).headD _=_;rw[show grp m e.nm=a::t from hG.trans hg];exact h2.symm
 ·rw[h1] at h';rcases List.append_eq_append_iff.1 h' with⟨x,x1,x2⟩|⟨x,x1,x2⟩
  ·cases x with
   |nil=>
    cases x2;exact Ae _ (ig.2 rfl)
   |cons y x=>
    cases x2;rw[x1];simp
  ·cases x with
   |nil=>
    cases x2;exact Ae _ (ig.2 rfl)
   |cons y x=>
    cases x2;have:inG m d.nm d=true:=y8;rw[h4 d (by rw[x1];simp)] at this
    cases this
theorem Hc{m:Md}(hn:(nmM m).Nodup){d e:Df}(hd:d∈m.ds.l)(he:e∈m.ds.l)(h1:isF m d=true)(h2:isF m e=true)(h:G m d=G m e):d=e:=by
 refine tp hn hd he ?_
 rw[←pP.1 h1,←pP.1 h2,hdG,hdG];exact congrArg (fun g=>List.headD g ⟨#[]⟩) h
theorem y9{x:ByteArray}:∀{p q:List Df} {d:Df},((p++d::q).map Df.nm).Nodup→x∈(p++d::q).map Df.nm→decide (idxI x (p++d::q)=((p.length:Nat):Int))=strEq x d.nm:=by
 intro p q d hn hx;have key:∀{p:List Df},((p++d::q).map Df.nm).Nodup→x∈(p++d::q).map Df.nm→(idxD x (p++d::q)=some p.length↔x=d.nm):=fun{p}=>by
  induction p with
  |nil=>
   intro hn hx;rw[iz,idxD,List.length_nil];cases e:strEq d.nm x with
   |true=>rw[cond_true];exact⟨fun _=>(eO.1 e).symm,fun _=>rfl⟩
   |false=>
    rw[cond_false];constructor
    ·intro h;cases k:idxD x q with
     |none=>rw[k] at h;cases h
     |some j=>rw[k] at h;simp at h
    ·rintro rfl;rw[bA] at e;cases e
  |cons a p ih=>
   intro hn hx;rw[ja,jd,Ax] at hn;rw[ja,idxD,List.length_cons];cases e:strEq a.nm x with
   |true=>
    rw[cond_true];have ea:=eO.1 e;constructor
    ·intro h;simp at h
    ·intro h;exact absurd (by rw[ea,h];simp) hn.1
   |false=>
    rw[cond_false];have hx':x∈(p++d::q).map Df.nm:=by
     rw[ja,jd] at hx;rcases i8.1 hx with h|h
     ·rw[←h,bA] at e;cases e
     ·exact h
    rw[←ih hn.2 hx'];cases k:idxD x (p++d::q) with
    |none=>simp
    |some j=>simp
 rw[Ba,eO,←key hn hx,decide_eq_true_eq,idxI];cases k:idxD x (p++d::q) with
 |none=>simp
 |some j=>simp[Int.ofNat_inj]
theorem yY{m:Md}(hn:(nmM m).Nodup):∀(l p:List Df),m.ds.l=p++l→opn m p.length l=(l.filter (isF m)).map (G m)
 | [],p,_=>rfl
 |d::r,p,h=>by
  have hd:d∈m.ds.l:=by rw[h];exact Ae _ il
  have ih:=yY hn r (p++[d]) (by rw[h,jh];rfl)
  rw[io,List.length_singleton] at ih;have hx:hdG m d∈(p++d::r).map Df.nm:=by
   obtain⟨a,t,hg⟩:=l4 hd;have:a∈grp m d.nm:=by rw[hg];exact il
   rw[hdG,hg,←h];exact(eD.1 this).1
  have he:decide (idxI (hdG m d) m.ds.l=((p.length:Nat):Int))=isF m d:=by
   have hn':((p++d::r).map Df.nm).Nodup:=by rw[←h];exact hn
   have:=y9 hn' hx;rw[←h] at this;exact this
  rw[opn,he,ih,List.filter_cons];cases isF m d<;>rfl
noncomputable def Wt (m:Md) (g x:List ByteArray):Bool:=rchB m g x&& !rchB m x g
theorem qO{m:Md}{g:List ByteArray}:Wt m g g=false:=by rw[Wt];cases rchB m g g<;>rfl
theorem tF{m:Md}{gs:List (List ByteArray)}{g:List ByteArray}{i:Nat}{t:List (List ByteArray)}(hi:gs.drop i=g::t):∀(r:List (List ByteArray)) (k:Nat),gs.drop k=r→wt m g i k r=r.any (Wt m g)
 | [],k,_=>rfl
 |x::r,k,h=>by
  rw[wt,List.any_cons,tF hi r (k+1) (aH h)]
  by_cases e:k=i
  ·subst e;rw[hi] at h;cases h;rw[qO];simp
  ·rw[decide_eq_false e];rfl
noncomputable def RL (m:Md) (P:List ByteArray):List Df:=m.ds.l.filter fun d=>isF m d&& !memS d.nm P
noncomputable def rd (m:Md) (P:List ByteArray) (d:Df):Bool:= !((RL m P).map (G m)).any (Wt m (G m d))
end Go.Proofs.YtkmoeaplhnabcaaGreatDoor
