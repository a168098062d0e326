/- TBase TOrd TNames TQueue TDef XCallD TBnd -/
import Derived.Test.YtkmoeaplhnabcaaGreatDoorU0
import Derived.Test.YtkmoeaplhnabcaaGreatDoorD1
import Derived.Test.YtkmoeaplhnabcaaGreatDoorW2
import Derived.Test.YtkmoeaplhnabcaaGreatDoorX1
import Derived.IntWalk
import Derived.Sort.Walk0

set_option linter.all false
open Nat renaming reduceEqDiff → rA, reduceAdd → rB, reduceMul → rC
open Int renaming reduceEq → rD, reduceLT → rE, reduceLE → rF
open Option.some renaming injEq → sI
open Prod.mk renaming injEq → pI
open And renaming intro → i4
open Bool renaming and_eq_true → i9, and_self → ip, false_and → B6, not_false → A5, true_and → A7, true_or → A2
open List renaming Pairwise → Bv, all_cons → j4, all_nil → j5, append_nil → j6, cons_append → ja, drop_drop → Bz, drop_eq_nil_of_le → Bt, eq_nil_of_length_eq_zero → Ai, flatMap_append → A8, flatMap_cons → Ad, getElem?_drop → Az, length_append → io, length_cons → im, length_drop → At, length_nil → jf, mem_append → jc, mem_cons → i8, mem_cons_of_mem → j0, mem_cons_self → il, mem_nil_iff → jb, mem_singleton → ig, nil_append → iz, not_mem_nil → Aw, pairwise_cons → C8, take_of_length_le → jl, take_succ_cons → jm, take_zero → jv
open Nat renaming beq → i5, beq_refl → je, ble → i6, ble_eq → iu, blt → iq, blt_eq → j8, eq_of_beq_eq_true → ij, le_of_ble_eq_true → is, le_refl → i7, le_succ → jw, lt_succ_self → js, mul_one → jt, zero_add → jp, zero_le → ir
open Option renaming getD_none → Ac, getD_some → jr, isNone_none → Bx, isSome_some → Cf
namespace Go.Proofs.YtkmoeaplhnabcaaGreatDoor
open Go Go.AM
set_option maxHeartbeats 4000000
variable [KR]
theorem bt{h:AH}{b o:Nat}{cs:List AV}(hb:b<h.next)(g:h.get b=some (.cells cs true))(hi:below h.next (idsL cs)=true):niceT h (some (.ptr b o))=true:=by
 have:iq b h.next=true:=j8.mpr hb;simp only[niceT,niceV,ids,j4,j5,this,g,hi,ip]
theorem aM{h:AH}{v:AV}(hi:ids v=[]):niceT h (some v)=true:=by simp only[niceT,niceV,hi,j5]
theorem ak{v:AV}(hi:ids v=[]):plainT (some v)=true:=by simp only[plainT,hi];rfl
theorem Qn{R:List Nat}{v:AV}(hi:ids v=[]):onlyT R (some v)=true:=by simp only[onlyT,hi,j5]
theorem Qo{R:List Nat}{b o:Nat}(hi:memN R b=true):onlyT R (some (.ptr b o))=true:=by simp only[onlyT,ids,j4,j5,hi,ip]
def putC(z:List AV)(o n:Nat)(l:List AV):Option (List AV):=bif i5 l.length n&&i6 (o+n) z.length then some (putAt z o l) else none
def fillP(s:St)(r:List (Nat×Nat×Opd)):Option (List AV)→Option (List AV)
 |some z=>fill s z r
 |none=>none
def fillC(s:St)(z:List AV)(o n:Nat)(r:List (Nat×Nat×Opd)):Option (List AV)→Option (List AV)
 |some l=>fillP s r (putC z o n l)
 |none=>none
def fillK(s:St)(z:List AV)(o n:Nat)(r:List (Nat×Nat×Opd)):Option AV→Option (List AV)
 |some v=>fillC s z o n r v.cells
 |none=>none
theorem zY{s:St}{z:List AV}:fill s z []=some z:=by cases z<;>rfl
theorem xQ{s:St}{z:List AV}{o n:Nat}{x:Opd}{r:List (Nat×Nat×Opd)}:fill s z ((o,n,x)::r)=fillK s z o n r (s.eval x):=by
 cases he:s.eval x with
 |none=>simp only[fill,he,fillK]
 |some v=>
  cases hv:v.cells with
  |none=>simp only[fill,he,hv,fillK,fillC]
  |some l=>
   simp only[fill,he,hv,fillK,fillC,putC];cases i5 l.length n&&i6 (o+n) z.length<;>rfl
theorem uM{s:St}{z:List AV}{o n:Nat}{r:List (Nat×Nat×Opd)}{v:AV}:fillK s z o n r (some v)=fillC s z o n r v.cells:=rfl
theorem uN{s:St}{z:List AV}{o n:Nat}{r:List (Nat×Nat×Opd)}{l:List AV}:fillC s z o n r (some l)=fillP s r (putC z o n l):=rfl
theorem uL{s:St}{z:List AV}{r:List (Nat×Nat×Opd)}:fillP s r (some z)=fill s z r:=rfl
theorem Qj{a x:AV}{z:List AV}:putC (a::z) 0 1 [x]=some (x::z):=by
 have h:i6 (0+1) (a::z).length=true:=iu.mpr (by simp)
 simp only[putC,im,jf];rfl
theorem Qi{a b x:AV}{z:List AV}:putC (a::b::z) 1 1 [x]=some (a::x::z):=by
 have h:i6 (1+1) (a::b::z).length=true:=iu.mpr (by simp)
 simp only[im] at h;simp only[putC,im,jf,h];rfl
theorem Qh{a b c x:AV}{z:List AV}:putC (a::b::c::z) 2 1 [x]=some (a::b::x::z):=by
 have h:i6 (2+1) (a::b::c::z).length=true:=iu.mpr (by simp)
 simp only[im] at h;simp only[putC,im,jf,h];rfl
theorem Qg{a b c d x:AV}{z:List AV}:putC (a::b::c::d::z) 3 1 [x]=some (a::b::c::x::z):=by
 have h:i6 (3+1) (a::b::c::d::z).length=true:=iu.mpr (by simp)
 simp only[im] at h;simp only[putC,im,jf,h];rfl
theorem Jm{a b c d:AV}:takeN (some 4) [a,b,c,d]=some (.agg [a,b,c,d]):=rfl
theorem Jq{h:AH}{b n:Nat}{cs l:List AV}(g:h.get b=some (.cells cs true))(hc:cs.length=n)(hl:l.length=n):storeH h n (.ptr b 0) l=some (h.put b (some (.cells l true))):=by
 have h1:i5 l.length n=true:=by rw[hl];exact je n
 have h2:i6 (0+n) cs.length=true:=iu.mpr om;have h3:putAt cs 0 l=l:=by
  simp only[putAt,jv,iz,jp];rw[Bt om,j6]
 simp only[storeH,g,h1,h2,ip,cond_true,h3]
def stK(h:AH)(b n off:Nat)(l:List AV):Option Blk→Option AH
 |some (.cells cs true)=>bif i5 l.length n&&i6 (off+n) cs.length then some (h.put b (some (.cells (putAt cs off l) true))) else none
 |_=>none
theorem vT{h:AH}{b n off:Nat}{l:List AV}:storeH h n (.ptr b off) l=stK h b n off l (h.get b):=by
 cases hg:h.get b with
 |none=>simp only[storeH,hg,stK]
 |some k=>
  cases k with
  |cells cs rw=>cases rw<;>simp only[storeH,hg,stK]
  |_=>simp only[storeH,hg,stK]
theorem d5{h:AH}{b n:Nat}{cs l:List AV}(hc:cs.length=n)(hl:l.length=n):stK h b n 0 l (some (.cells cs true))=some (h.put b (some (.cells l true))):=by
 have h1:i5 l.length n=true:=by rw[hl];exact je n
 have h2:i6 (0+n) cs.length=true:=iu.mpr om;have h3:putAt cs 0 l=l:=by
  simp only[putAt,jv,iz,jp];rw[Bt om,j6]
 simp only[stK,h1,h2,ip,cond_true,h3]
theorem Px{h:AH}{b:Nat}{a0 a1 a2 a3 x0 x1 x2 x3:AV}:stK h b 4 0 [x0,x1,x2,x3] (some (.cells [a0,a1,a2,a3] true))=some (h.put b (some (.cells [x0,x1,x2,x3] true))):=d5 rfl rfl
theorem Pw{h:AH}{b:Nat}{a0 a1 a2 a3:AV}{p:Pr}:stK h b 4 0 p.cells (some (.cells [a0,a1,a2,a3] true))=some (h.put b (some (.cells p.cells true))):=d5 rfl p.len
theorem Py{h:AH}{b:Nat}{a x:AV}{z:List AV}:stK h b 1 0 [x] (some (.cells (a::z) true))=some (h.put b (some (.cells (x::z) true))):=by
 have h2:i6 (0+1) (a::z).length=true:=iu.mpr (by simp)
 simp only[stK,h2];rfl
theorem Gr{n:Nat}:i5 n n=true:=je n
theorem Ra:i5 1 2=false:=rfl
theorem Qx:i5 2 1=false:=rfl
theorem Rb:i5 1 0=false:=rfl
theorem Re:i5 0 1=false:=rfl
theorem Qy:i5 2 0=false:=rfl
theorem Rd:i5 0 2=false:=rfl
theorem Qs:i5 3 2=false:=rfl
theorem Qw:i5 2 3=false:=rfl
theorem Qt:i5 3 1=false:=rfl
theorem Qz:i5 1 3=false:=rfl
theorem Qu:i5 3 0=false:=rfl
theorem Rc:i5 0 3=false:=rfl
def WB:=i4 @Gr (i4 Ra (i4 Qx (i4 Rb (i4 Re (i4 Qy (i4 Rd (i4 Qs (i4 Qw (i4 Qt (i4 Qz (i4 Qu Rc)))))))))))
def WF:=i4 WB (i4 @vT (i4 @Px (i4 @Pw (i4 @Py (i4 @zY (i4 @xQ (i4 @uM (i4 @uN (i4 @uL (i4 @Qj (i4 @Qi (i4 @Qh (i4 @Qg @Jm)))))))))))))
theorem jX{g:Nat}{l:List AV}{a:AFun}{t:AV}(hs:freshF g=true)(hf:funOf Tryz.prog g=some a)(hl:∀v∈l,Tree v)
  (H:∀s:St,(∀i v,(enterTm l 0 .nil).get i=some v→s.eval (.t i)=some v)→s.h=.empty→s.defers=[]→s.round=none→wp E1 a.body s fun e s=>(e=.normal∨e=.ret)∧s.defers=[]∧∃r,resultsA E1.globs s a.res=some [r]∧∃n,n<1000∧Rep s.h 0 s.h.next n r t) (h:AH):
  RunCall E1 (.f g) l h t h:=by
 obtain⟨v,h',⟨n,hn,hr⟩,hrun⟩:=dT (g:=g) (l:=l) (h:=.empty) (a:=a) (fun v h'=>∃n,n<1000∧Rep h' 0 h'.next n v t) hf fun s h1 h2 h3 h4=>(ag _ _ _ (H s h1 h2 h3 h4)).mono fun e s' ⟨k1,k2,r,k3,k4⟩=>⟨k1,k2,[r],k3,k4⟩;exact hZ (bI hs) (bX hs _) hl hrun hr (Nat.lt_trans hn de) h
theorem yQ{g:Nat}{l:List AV}{a:AFun}{t:AV}(hs:freshF g=true)(hf:funOf Tryz.prog g=some a)(hl:∀v∈l,Tree v)
  (H:∀s:St,(∀i v,(enterTm l 0 .nil).get i=some v→s.eval (.t i)=some v)→s.h=.empty→s.defers=[]→s.round=none→wp E1 a.body s fun e s=>(e=.normal∨e=.ret)∧s.defers=[]∧∃rs,resultsA E1.globs s a.res=some rs∧∃n,n<1000∧Rep s.h 0 s.h.next n (oneOrTup rs) t) (h:AH):
  RunCall E1 (.f g) l h t h:=by
 obtain⟨v,h',⟨n,hn,hr⟩,hrun⟩:=dT (g:=g) (l:=l) (h:=.empty) (a:=a) (fun v h'=>∃n,n<1000∧Rep h' 0 h'.next n v t) hf fun s h1 h2 h3 h4=>(ag _ _ _ (H s h1 h2 h3 h4)).mono fun e s' ⟨k1,k2,rs,k3,k4⟩=>⟨k1,k2,rs,k3,k4⟩;exact hZ (bI hs) (bX hs _) hl hrun hr (Nat.lt_trans hn de) h
def nilK:Option (Option Addr×Nat):=some (none,0)
theorem aE{n:Nat}(h:n<2^62):IntKind.i64.wrap (n:Int)=(n:Int):=by
 exact IntWalk.i64_in _ om
def fnd(b:ByteArray):List ByteArray→Option Nat
 | []=>none
 |a::r=>bif strEq b a then some 0 else(fnd b r).map (· +1)
def fndI(b:ByteArray)(l:List ByteArray):Int:=match fnd b l with
 |some i=>(i:Nat)
 |none=> -1
theorem bS{k:ByteArray}{l:List AV}:takeN none (strA k++l)=some (vS k):=rfl
theorem Tree.vl{α:Type}{f:α→List AV}{v:Vl α}:Tree (v.A f):=Vl.leaf.tree
theorem aL{α:Type}{l r:List α}{k:α}{i:Nat}(h:l.drop i=k::r):i<l.length:=by
 rcases Nat.lt_or_ge i l.length with x|x
 ·exact x
 ·rw[Bt x] at h;cases h
theorem aH{α:Type}{l r:List α}{k:α}{i:Nat}(h:l.drop i=k::r):l.drop (i+1)=r:=by rw[←Bz,h];rfl
theorem aK{α:Type}{l:List α}{i:Nat}(h:l.drop i=[])(hi:i≤l.length):i=l.length:=by
 have:=List.drop_eq_nil_iff.1 h;omega
theorem bY{i n:Nat}(h:i<n):decide ((i:Int)<(n:Int))=true:=decide_eq_true om
theorem ba{n:Nat}:decide ((n:Int)<(n:Int))=false:=decide_eq_false om
theorem fI{α:Type}{f:α→List AV}(hf:∀a,∀v∈f a,Leaf v)(l:List α):∀v∈l.flatMap f,Leaf v:=fun v hv=>by
 obtain⟨a,_,h⟩:=List.mem_flatMap.1 hv;exact hf a v h
theorem kV{α:Type}{f:α→List AV}{l:List α}{n:Nat}(hn:l.length=n):rowT n (l.flatMap f)=(⟨l,nilK,none⟩:Vl α).A f:=by
 subst hn;simp only[rowT,Vl.A,kidsA,nilK,Cf,A7,noKids]
def nmV(l:List ByteArray):AV:=(⟨l,nilK,none⟩:Vl ByteArray).A strA
theorem di{h:AH}{lo:Nat}{l:List ByteArray}{v:AV}(r:RowC h lo l.length 1 v (l.flatMap strA)):Rep h 0 h.next 1 v (nmV l):=by
 have:=(r.low (ir lo)).rep;rw[show(bif i5 l.length 0 then AV.val (.slice none 0 0) else .imm (l.flatMap strA) l.length none)=rowT l.length (l.flatMap strA) from rfl,kV rfl] at this;exact this
structure Grw (h h':AH) (u u':AV):Prop where
 n:h.next≤h'.next
 o:∀x,x<h.next→x∉ids u→h'.get x=h.get x
 j:∀x∈ids u',x∈ids u∨h.next≤x
theorem Grw.refl(h:AH)(u:AV):Grw h h u u:=⟨i7 _,fun _ _ _=>rfl,fun _ hx=>.inl hx⟩
theorem Grw.trans{h h1 h2:AH}{u u1 u2:AV}(a:Grw h h1 u u1)(b:Grw h1 h2 u1 u2):Grw h h2 u u2:=by
 have n1:=a.n;have n2:=b.n;refine⟨om,fun x hx hu=>?_,fun x hx=>?_⟩
 ·rw[b.o x om (fun q=>?_),a.o x hx hu];rcases a.j x q with q|q
  ·exact hu q
  ·omega
 ·rcases b.j x hx with q|q
  ·exact a.j x q
  ·exact .inr om
theorem Grw.more{h h':AH}{u u':AV}(hn:h.next≤h'.next)(ho:∀x,x<h.next→h'.get x=h.get x)(hu:u'=u):Grw h h' u u':=⟨hn,fun x hx _=>ho x hx,fun x hx=>.inl (hu▸hx)⟩
theorem Grw.keep{h h':AH}{u u':AV}(g:Grw h h' u u'){x:Nat}(hx:x<h.next)(hu:x∉ids u):h'.get x=h.get x∧x∉ids u':=⟨g.o x hx hu,fun q=>by
 rcases g.j x q with q|q
 ·exact hu q
 ·omega⟩
theorem Vd{b:ByteArray}{l:List AV}:takeN none (vS b::l)=some (vS b):=rfl
theorem Fo{h:AH}{lo hi:Nat}{cs:List AV}(hc:∀c∈cs,Leaf c):Rep h lo hi 1 (.agg cs) (.agg cs):=by
 have:=Rep.agg (h:=h) (lo:=lo) (hi:=hi) (n:=0) (ps:=cs.map fun c=>(c,c)) (fun p hp=>by
  obtain⟨c,hc',rfl⟩:=List.mem_map.1 hp;exact Rep.leaf (hc c hc'))
 rwa [qG,qF] at this
theorem dE{E:Env}{g:Nat}{xs ys:List AV}{a a' t:AV}{h h1:AH}(hs:E.shared.get g=none)(hx:∀v∈xs,Tree v)(hy:∀v∈ys,Tree v)(ha:Tree a')(hz:AM.freeze deepest a h=h1)(hm:toTree h1 deepest a=some a')(hf:isFlat t=true)
  (hc:∀h,RunCall E (.f g) (xs++a'::ys) h t h):RunCall E (.f g) (xs++a::ys) h t h:=by
 have hfo:(xs++a::ys).foldl (fun h v=>AM.freeze deepest v h) h=h1:=by
  rw[List.foldl_append,az hx,List.foldl_cons,hz,az hy]
 have hm1:=pN hm hy hx;have hl':∀v∈xs++a'::ys,Tree v:=fun v hv=>by
  rcases jc.1 hv with hv|hv
  ·exact hx v hv
  ·rcases i8.1 hv with rfl|hv
   ·exact ha
   ·exact hy v hv
 refine(hc h1).mono fun n p=>?_
 have p:cD E (enterA E (exec E n)) g (xs++a'::ys) h1=some (t,h1):=p;show cD E (enterA E (exec E n)) g (xs++a::ys) h=_;simp only[cD,hs,az hl',bb hl'] at p;simp only[cD,hs,hfo,hm1];revert p;cases E.known g (xs++a'::ys) with
 |some r=>
  intro p;simp only[sI,pI] at p;obtain⟨e,_⟩:=p;subst e;simp only[hf,cond_true]
 |none=>
  simp only;cases enterA E (exec E n) g (xs++a'::ys) .empty with
  |none=>intro p;cases p
  |some q=>
   obtain⟨r,hc'⟩:=q;simp only;cases toTree (AM.freeze deepest r hc') deepest r with
   |none=>intro p;cases p
   |some t'=>
    intro p;simp only[sI,pI] at p;obtain⟨e,_⟩:=p;subst e;simp only[hf,cond_true]
end Go.Proofs.YtkmoeaplhnabcaaGreatDoor
namespace Go.Proofs.YtkmoeaplhnabcaaGreatDoor
open Go Go.AM
def strLess(a b:ByteArray):Bool:=bytesLessL a.data.toList b.data.toList
theorem dp{a b:ByteArray}:strLess a b=true↔a.data.toList<b.data.toList:=by
 rw[strLess,AM.bytesLess_eq,Go.Proofs.bytesLess_eq];exact decide_eq_true_iff
theorem rR{a b:ByteArray}(h:a.data.toList=b.data.toList):a=b:=by
 cases a;cases b;simp only[ByteArray.mk.injEq];exact Array.toList_inj.1 h
theorem dV(a:ByteArray):strLess a a=false:=by
 cases h:strLess a a with
 |false=>rfl
 |true=>exact absurd (dp.1 h) (List.lt_irrefl _)
theorem lv{a b c:ByteArray}(h:strLess a b=true)(k:strLess b c=true):strLess a c=true:=dp.2 (List.lt_trans (dp.1 h) (dp.1 k))
theorem vj{a b:ByteArray}(h:a.data.toList≤b.data.toList):strLess a b=true∨a=b:=by
 rcases List.le_iff_lt_or_eq.1 h with e|e
 ·exact .inl (dp.2 e)
 ·exact .inr (rR e)
theorem yx{a b:ByteArray}(h:strLess a b=false)(k:strEq a b=false):strLess b a=true:=by
 have h1:¬a.data.toList<b.data.toList:=fun q=>by rw[dp.2 q] at h;cases h
 rcases vj (List.not_lt.1 h1) with e|e
 ·exact e
 ·subst e;rw[bA] at k;cases k
def Srt(l:List ByteArray):Prop:=l.Pairwise fun a b=>strLess a b=true
theorem Srt.nodup{l:List ByteArray}(h:Srt l):l.Nodup:=Bv.imp (fun h e=>by subst e;rw[dV] at h;cases h) h
theorem oh:∀(a b:List ByteArray),Srt a→Srt b→(∀z,z∈a↔z∈b)→a=b
 | [],[],_,_,_=>rfl
 | [],y::q,_,_,h=>absurd ((h y).2 il) Aw
 |x::r,[],_,_,h=>absurd ((h x).1 il) Aw
 |x::r,y::q,ha,hb,h=>by
  have ha':=C8.1 ha;have hb':=C8.1 hb;have e:x=y:=by
   rcases i8.1 ((h x).1 il) with e|e
   ·exact e
   ·rcases i8.1 ((h y).2 il) with e2|e2
    ·exact e2.symm
    ·have:=lv (hb'.1 x e) (ha'.1 y e2);rw[dV] at this;cases this
  subst e;have:r=q:=oh r q ha'.2 hb'.2 fun z=>by
   constructor
   ·intro hz;rcases i8.1 ((h z).1 (j0 _ hz)) with e|e
    ·subst e;have:=ha'.1 z hz;rw[dV] at this;cases this
    ·exact e
   ·intro hz;rcases i8.1 ((h z).2 (j0 _ hz)) with e|e
    ·subst e;have:=hb'.1 z hz;rw[dV] at this;cases this
    ·exact e
  rw[this]
def putS(x:ByteArray):List ByteArray→List ByteArray
 | []=>[x]
 |a::r=>bif strLess a x then a::putS x r else bif strEq a x then x::r else x::a::r
theorem lp{x z:ByteArray}:∀{l:List ByteArray},z∈putS x l↔z=x∨z∈l
 | []=>by simp[putS]
 |a::r=>by
  rw[putS];cases strLess a x with
  |true=>
   simp only[cond_true,i8,lp (l:=r)];constructor
   ·rintro(h|h|h)
    ·exact .inr (.inl h)
    ·exact .inl h
    ·exact .inr (.inr h)
   ·rintro(h|h|h)
    ·exact .inr (.inl h)
    ·exact .inl h
    ·exact .inr (.inr h)
  |false=>
   cases q:strEq a x with
   |true=>
    have e:=dJ q;subst e;simp only[cond_false,cond_true,i8];constructor
    ·rintro(h|h)
     ·exact .inl h
     ·exact .inr (.inr h)
    ·rintro(h|h|h)
     ·exact .inl h
     ·exact .inl h
     ·exact .inr h
   |false=>simp only[cond_false,i8]
theorem qT{x:ByteArray}:∀{l:List ByteArray},Srt l→Srt (putS x l)
 | [],_=>List.pairwise_singleton _ _
 |a::r,h=>by
  have h':=C8.1 h;rw[putS];cases p:strLess a x with
  |true=>
   refine C8.2 ⟨fun z hz=>?_,qT h'.2⟩;rcases lp.1 hz with e|e
   ·rw[e];exact p
   ·exact h'.1 z e
  |false=>
   cases q:strEq a x with
   |true=>
    have e:=dJ q;subst e;exact h
   |false=>
    have hx:=yx p q;refine C8.2 ⟨fun z hz=>?_,h⟩;rcases i8.1 hz with e|e
    ·rw[e];exact hx
    ·exact lv hx (h'.1 z e)
def putsS:List ByteArray→List ByteArray→List ByteArray
 |acc,[]=>acc
 |acc,x::r=>putsS (putS x acc) r
def unionS(a b:List ByteArray):List ByteArray:=putsS (putsS [] a) b
theorem iK{z:ByteArray}:∀{r acc:List ByteArray},z∈putsS acc r↔z∈acc∨z∈r
 | [],acc=>by simp[putsS]
 |x::r,acc=>by
  rw[putsS,iK (r:=r),lp,i8];constructor
  ·rintro((h|h)|h)
   ·exact .inr (.inl h)
   ·exact .inl h
   ·exact .inr (.inr h)
  ·rintro(h|h|h)
   ·exact .inl (.inr h)
   ·exact .inl (.inl h)
   ·exact .inr h
theorem iD:∀{r acc:List ByteArray},Srt acc→Srt (putsS acc r)
 | [],acc,h=>h
 |x::r,acc,h=>iD (r:=r) (qT h)
theorem fW{z:ByteArray}{a b:List ByteArray}:z∈unionS a b↔z∈a∨z∈b:=by
 rw[unionS,iK,iK];simp only[Aw,false_or]
theorem lA(a b:List ByteArray):Srt (unionS a b):=iD (iD Bv.nil)
theorem bD{α:Type}:∀{a b:List α},a.Nodup→(∀z∈a,z∈b)→a.length≤b.length
 | [],b,_,_=>ir _
 |x::r,b,h,k=>by
  have h':=List.nodup_cons.1 h;have hx:=k x il;obtain⟨p,q,e⟩:=List.append_of_mem hx;subst e;have h1:r.length≤(p++q).length:=bD h'.2 fun z hz=>by
   rcases jc.1 (k z (j0 _ hz)) with e|e
   ·exact List.mem_append_left _ e
   ·rcases i8.1 e with e|e
    ·exact absurd (by rw[←e];exact hz) h'.1
    ·exact List.mem_append_right _ e
  rw[io] at h1;rw[io,im,im];omega
end Go.Proofs.YtkmoeaplhnabcaaGreatDoor
namespace Go.Proofs.YtkmoeaplhnabcaaGreatDoor
open Go Go.AM
set_option maxHeartbeats 4000000
variable [KR]
theorem sJ(v:Vl ByteArray)(b:ByteArray)(hN:v.l.length<2^61):∀(r:List ByteArray) (i:Nat) (s:St),v.l.drop i=r→i≤v.l.length→s.eval (.t 0)=some (v.A strA)→s.eval (.t 6)=some (v.A strA)→s.eval (.t 1)=some (vS b)→s.eval (.t 7)=some (vI (v.l.length:Nat))→s.eval (.t 8)=some (vI (i:Nat))→s.defers=[]→
  Run E1 pZ s fun e s'=>s'.defers=[]∧((fnd b r=none∧e=.exit 0)∨(∃j,fnd b r=some j∧e=.ret∧s'.eval (.t 4)=some (vI ((i+j:Nat):Int))))
 | [],i,s,hr,hi,h0,h6,h1,h7,h8,hd=>by
  have hl:=aK hr hi;subst hl;apply aC (rfl:pZ=.loop iV);simp-implicitDefEqProofs only[iV,V,↓reduceIte,rA,reduceCtorEq,h7,h8,hd,ba,fnd]
 |a::r,i,s,hr,hi,h0,h6,h1,h7,h8,hd=>by
  have hl:=aL hr;have hlt:=bY hl;have w1:IntKind.i64.wrap ((i:Int)+1)=((i+1:Nat):Int):=aE (n:=i+1) om;apply aC (rfl:pZ=.loop iV);cases hq:strEq b a with
  |true=>
   simp-implicitDefEqProofs only[iV,V,↓reduceIte,rA,reduceCtorEq,h0,h1,h7,h8,hd,hlt,v.at aI hr,bS,hq,fnd];exact .inr ⟨0,rfl,rfl⟩
  |false=>
   simp-implicitDefEqProofs only[iV,V,↓reduceIte,rA,reduceCtorEq,h0,h1,h7,h8,hlt,v.at aI hr,bS,hq,fnd,w1];refine(sJ v b hN r (i+1) _ (aH hr) om ?_ ?_ ?_ ?_ ?_ ?_).mono ?_
   all_goals try simp-implicitDefEqProofs only[V,↓reduceIte,rA,reduceCtorEq,h0,h1,h6,h7,hd]
   rintro e s1 ⟨d1,⟨q,rfl⟩|⟨j,q,rfl,q2⟩⟩
   ·exact⟨d1,.inl ⟨by rw[q];rfl,rfl⟩⟩
   ·exact⟨d1,.inr ⟨j+1,by rw[q];rfl,rfl,by rw[q2,show i+(j+1)=i+1+j by omega]⟩⟩
theorem pQ(v:Vl ByteArray)(b:ByteArray)(hN:v.l.length<2^61)(h:AH):RunCall E1 (.f 72) [v.A strA,vS b] h (vI (fndI b v.l)) h:=by
 refine gJ kr Ma (dm Tree.vl (Tree.val _)) rfl (Tree.val _) (fun s hs hh hd hr=>?_) h;have h0:=hs 0 _ rfl;have h1:=hs 1 _ rfl;simp-implicitDefEqProofs only[zn,f72,V,↓reduceIte,reduceCtorEq,h0];refine(sJ v b hN v.l 0 _ rfl (ir _) ?_ ?_ ?_ ?_ ?_ ?_).mono ?_
 all_goals try simp-implicitDefEqProofs only[V,↓reduceIte,rA,reduceCtorEq,h0,h1,hd]
 ·rfl
 rintro e s1 ⟨d1,⟨q,rfl⟩|⟨j,q,rfl,q2⟩⟩
 ·simp-implicitDefEqProofs only[V,↓reduceIte,reduceCtorEq,WB,d1,fndI,q]
 ·simp-implicitDefEqProofs only[V,reduceCtorEq,d1,fndI,q,q2]
theorem ef(v:Vl ByteArray)(b:ByteArray)(hN:v.l.length<2^61)(h:AH):RunCall E1 (.f 48) [v.A strA,vS b] h (vI (fndI b v.l)) h:=by
 refine gJ kr Mj (dm Tree.vl (Tree.val _)) rfl (Tree.val _) (fun s hs hh hd hr=>?_) h;have h0:=hs 0 _ rfl;have h1:=hs 1 _ rfl;simp-implicitDefEqProofs only[Co,f48,V,↓reduceIte,rA,reduceCtorEq,h0,h1,hd,aG (pQ v b hN)]
theorem iQ{v:Vl ByteArray}{b:ByteArray}(hN:v.l.length<2^61){r:List AOper}{s:St}{dst:Option Nat}{K:St→Prop}:mj E1 48 r s dst K (some [v.A strA,vS b])=AM.wpOps E1 r (s.put dst (vI (fndI b v.l))) K:=aG (ef v b hN)
theorem sb(v:Vl ByteArray)(b:ByteArray)(hN:v.l.length<2^61):∀(r:List ByteArray) (i:Nat) (s:St),v.l.drop i=r→i≤v.l.length→s.eval (.t 0)=some (v.A strA)→s.eval (.t 6)=some (v.A strA)→s.eval (.t 1)=some (vS b)→s.eval (.t 7)=some (vI (v.l.length:Nat))→s.eval (.t 8)=some (vI (i:Nat))→s.defers=[]→
  Run E1 p7 s fun e s'=>s'.defers=[]∧((fnd b r=none∧e=.exit 0)∨(∃j,fnd b r=some j∧e=.ret∧s'.eval (.t 4)=some (vI ((i+j:Nat):Int))))
 | [],i,s,hr,hi,h0,h6,h1,h7,h8,hd=>by
  have hl:=aK hr hi;subst hl;apply aC (rfl:p7=.loop jH);simp-implicitDefEqProofs only[jH,V,↓reduceIte,rA,reduceCtorEq,h7,h8,hd,ba,fnd]
 |a::r,i,s,hr,hi,h0,h6,h1,h7,h8,hd=>by
  have hl:=aL hr;have hlt:=bY hl;have w1:IntKind.i64.wrap ((i:Int)+1)=((i+1:Nat):Int):=aE (n:=i+1) om;apply aC (rfl:p7=.loop jH);rw[fnd,tL];cases hq:strEq a b with
  |true=>
   simp-implicitDefEqProofs only[jH,V,↓reduceIte,rA,reduceCtorEq,h0,h1,h7,h8,hd,hlt,v.at aI hr,bS,hq];exact .inr ⟨0,rfl,rfl⟩
  |false=>
   simp-implicitDefEqProofs only[jH,V,↓reduceIte,rA,reduceCtorEq,h0,h1,h7,h8,hlt,v.at aI hr,bS,hq,w1];refine(sb v b hN r (i+1) _ (aH hr) om ?_ ?_ ?_ ?_ ?_ ?_).mono ?_
   all_goals try simp-implicitDefEqProofs only[V,↓reduceIte,rA,reduceCtorEq,h0,h1,h6,h7,hd]
   rintro e s1 ⟨d1,⟨q,rfl⟩|⟨j,q,rfl,q2⟩⟩
   ·exact⟨d1,.inl ⟨by rw[q];rfl,rfl⟩⟩
   ·exact⟨d1,.inr ⟨j+1,by rw[q];rfl,rfl,by rw[q2,show i+(j+1)=i+1+j by omega]⟩⟩
theorem cW(v:Vl ByteArray)(b:ByteArray)(hN:v.l.length<2^61)(h:AH):RunCall E1 (.f 13) [v.A strA,vS b] h (vI (fndI b v.l)) h:=by
 refine gJ kr Nd (dm Tree.vl (Tree.val _)) rfl (Tree.val _) (fun s hs hh hd hr=>?_) h;have h0:=hs 0 _ rfl;have h1:=hs 1 _ rfl;simp-implicitDefEqProofs only[Dl,f13,V,↓reduceIte,reduceCtorEq,h0];refine(sb v b hN v.l 0 _ rfl (ir _) ?_ ?_ ?_ ?_ ?_ ?_).mono ?_
 all_goals try simp-implicitDefEqProofs only[V,↓reduceIte,rA,reduceCtorEq,h0,h1,hd]
 ·rfl
 have h00:i5 0 0=true:=rfl;rintro e s1 ⟨d1,⟨q,rfl⟩|⟨j,q,rfl,q2⟩⟩
 ·simp-implicitDefEqProofs only[V,↓reduceIte,reduceCtorEq,h00,d1,fndI,q]
 ·simp-implicitDefEqProofs only[V,reduceCtorEq,d1,fndI,q,q2]
def eqN:List ByteArray→List ByteArray→Bool
 |a::l,b::r=>strEq a b&&eqN l r
 |_,_=>true
theorem xw{P:Program}{t:TypeId}{g:Bool}{a b:ByteArray}:binA P .lss t g (vS a) (vS b)=some (vB (strLess a b)):=by
 simp only[binA,strLess];rfl
def ahead(x:ByteArray):List ByteArray→List ByteArray
 | []=>[]
 |a::r=>bif strLess a x then a::ahead x r else []
theorem sF{lo:Nat}(w:Vl ByteArray)(x:ByteArray)(hN:w.l.length<2^29):∀(r:List ByteArray) (i:Nat) (s:St) (v:AV),w.l.drop i=r→i≤w.l.length→RowC s.h lo i 1 v ((w.l.take i).flatMap strA)→lo≤s.h.next→
  s.eval (.t 0)=some (w.A strA)→s.eval (.t 1)=some (vS x)→s.eval (.t 5)=some v→s.eval (.t 6)=some (vI (i:Nat))→s.defers=[]→
  Run E1 pW s fun e s'=>e=.exit 0∧∃n v',n=i+(ahead x r).length∧n≤w.l.length∧RowC s'.h lo n 1 v' ((w.l.take n).flatMap strA)∧s'.eval (.t 5)=some v'∧s'.eval (.t 6)=some (vI (n:Nat))∧s'.eval (.t 0)=some (w.A strA)∧s'.eval (.t 1)=some (vS x)∧lo≤s'.h.next∧s'.defers=[]
 | [],i,s,v,hd,hi,hr,hlo,h0,h1,h5,h6,hf=>by
  have hl:=aK hd hi;subst hl;apply aC (rfl:pW=.loop iU);simp-implicitDefEqProofs only[iU,V,↓reduceIte,rA,reduceCtorEq,h0,h1,h5,h6,hf,ba];exact⟨_,v,rfl,i7 _,hr,rfl,rfl,hlo⟩
 |a::r,i,s,v,hd,hi,hr,hlo,h0,h1,h5,h6,hf=>by
  have hl:=aL hd;have hlt:=bY hl;have w1:IntKind.i64.wrap ((i:Int)+1)=((i+1:Nat):Int):=aE (n:=i+1) om;apply aC (rfl:pW=.loop iU);cases q:strLess a x with
  |false=>
   simp-implicitDefEqProofs only[iU,V,↓reduceIte,rA,reduceCtorEq,h0,h1,h5,h6,hf,hlt,w.at aI hd,strA,ja,iz,xw,q];exact⟨_,v,by simp only[ahead,q,cond_false,jf];rfl,hi,hr,rfl,rfl,hlo⟩
  |true=>
   simp-implicitDefEqProofs only[iU,V,↓reduceIte,rA,reduceCtorEq,WF,h0,h1,h5,h6,hlt,w.at aI hd,strA,ja,iz,xw,q];refine cO (k:=i) (m:=1) (lo:=lo) (v:=v) (x:=.own s.h.next 0 1 1 (some 1)) (cs:=(w.l.take i).flatMap strA) (new:=[vS a]) ?_ ?_ ?_ rfl ?_ (aS om de) ?_ ?_ ?_
   ·exact U33
   ·exact U34
   ·refine aq (rw':=true) ?_ rfl;exact U36
   ·exact fun c hc=>by rw[ig.1 hc];exact Leaf.val _
   ·exact U35
   ·exact U36
   intro v1 h1' r1 n1 o1;simp-implicitDefEqProofs only[V] at n1;simp-implicitDefEqProofs only[V,↓reduceIte,rA,h6,w1];have ht:(w.l.take (i+1)).flatMap strA=(w.l.take i).flatMap strA++[vS a]:=by
    have h2:w.l[i]? =some a:=by
     have:=Az (xs:=w.l) (i:=i) (j:=0);rw[hd] at this
     simpa using this.symm
    rw[List.take_succ,h2,A8];rfl
   refine(sF (lo:=lo) w x hN r (i+1) _ v1 (aH hd) om ?_ ?_ ?_ ?_ ?_ ?_ ?_).mono ?_
   ·simp-implicitDefEqProofs only[V];rw[ht];exact r1
   ·exact U34
   ·exact U37
   ·exact U38
   ·exact U36
   ·exact U36
   ·exact U39
   rintro e s2 ⟨rfl,n,v2,e1,z⟩;refine⟨rfl,n,v2,?_,z⟩;rw[e1];simp only[ahead,q,cond_true,im];omega
theorem mq(x:ByteArray):∀l:List ByteArray,l.take (ahead x l).length=ahead x l
 | []=>rfl
 |a::r=>by
  rw[ahead];cases strLess a x with
  |true=>simp only[cond_true,im,jm,mq x r]
  |false=>rfl
def behind(x:ByteArray)(l:List ByteArray):List ByteArray:=l.drop (ahead x l).length
def skipS(x:ByteArray):List ByteArray→List ByteArray
 | []=>[]
 |a::r=>bif strEq a x then r else a::r
theorem kX(x:ByteArray):∀l:List ByteArray,putS x l=ahead x l++([x]++skipS x (behind x l))
 | []=>rfl
 |a::r=>by
  have ih:=kX x r;rw[putS,behind,ahead];cases h:strLess a x with
  |true=>
   simp only[cond_true,im,List.drop_succ_cons,ja];rw[ih];rfl
  |false=>
   simp only[cond_false,jf,List.drop_zero,iz,skipS];cases strEq a x<;>rfl
theorem gG(x:ByteArray):∀l:List ByteArray,(putS x l).length≤l.length+1
 | []=>i7 _
 |a::r=>by
  have ih:=gG x r;rw[putS];cases strLess a x
  ·cases strEq a x
   ·simp only[cond_false,im];omega
   ·simp only[cond_false,cond_true,im];omega
  ·simp only[cond_true,im];omega
theorem yn(a:ByteArray)(r:List ByteArray):nmV (a::r)=.imm ((a::r).flatMap strA) (a::r).length none:=rfl
theorem tn{l:List ByteArray}:lenV (nmV l)=some (vI (l.length:Nat)):=Vl.len
theorem lE{l:List ByteArray}{n:Nat}(hn:n≤l.length):∃v,sliceA' 1 (nmV l) (some n) none none=some v∧∀h,elemsOf h 1 v=some ((l.drop n).flatMap strA,(l.drop n).length):=by
 cases l with
 |nil=>
  have:n=0:=by simpa using hn
  subst this;exact⟨.val (.slice none 0 0),rfl,fun h=>rfl⟩
 |cons a r=>
  have e1:sliceB (a::r).length (a::r).length (some n) none none=some (n,(a::r).length,(a::r).length):=by
   have h1:i6 n (a::r).length=true:=iu.mpr hn;have h2:i6 (a::r).length (a::r).length=true:=iu.mpr (i7 _);simp only[sliceB,jr,Ac,h1,h2,Bx,A2,ip,cond_true]
  have e2:i6 (a::r).length (a::r).length=true:=iu.mpr (i7 _);refine⟨.imm ((((a::r).flatMap strA).drop (n*1)).take (((a::r).length-n)*1)) ((a::r).length-n) none,?_,fun h=>?_⟩
  ·simp only[yn,sliceA',e1,e2,cond_true]
  ·have h3:((a::r).flatMap strA).drop (n*1)=((a::r).drop n).flatMap strA:=cI aI (a::r) n;have h4:(((a::r).drop n).flatMap strA).length=((a::r).length-n)*1:=by rw[bG aI,At]
   rw[h3,jl (by rw[h4];exact i7 _),At]
   exact du h4
theorem lU(l:List ByteArray)(x:ByteArray)(hN:l.length<2^28)(h:AH):RunCall E1 (.f 79) [nmV l,vS x] h (nmV (putS x l)) h:=by
 refine jX kr Lu (dm Vl.leaf.tree (Tree.val _)) (fun s hs hh hd hr=>?_) h;have h0:=hs 0 _ rfl;have h1:=hs 1 _ rfl;simp-implicitDefEqProofs only[zd,f79,V];refine(sF (lo:=0) ⟨l,nilK,none⟩ x (by show l.length<_;omega) l 0 _ (.val (.slice none 0 0)) rfl (ir _) RowC.nil (ir _) ?_ ?_ ?_ ?_ ?_).mono ?_
 ·exact U37
 ·exact U38
 ·exact U36
 ·exact U40
 ·exact U41
 rintro e s1 ⟨rfl,n,v1,hn,hn2,r1,e5,e6,e0,e1,n1,d1⟩;rw[jp] at hn;have r1:RowC s1.h 0 n 1 v1 ((l.take n).flatMap strA):=r1;have hn2:n≤l.length:=hn2;have e0:s1.eval (.t 0)=some (nmV l):=e0;simp-implicitDefEqProofs only[V,↓reduceIte,rA,WF,e5,e1];refine cO (k:=n) (m:=1) (lo:=0) (v:=v1) (x:=.own s1.h.next 0 1 1 (some 1)) (cs:=(l.take n).flatMap strA) (new:=[vS x]) ?_ ?_ ?_ rfl ?_ (aS om de) ?_ ?_ ?_
 ·simp-implicitDefEqProofs only[V];exact r1.to (by show s1.h.next≤s1.h.next+1;omega) fun x _ x2=>by rw[aB x2]
 ·exact ir _
 ·refine aq (rw':=true) ?_ rfl;exact U36
 ·exact fun c hc=>by rw[ig.1 hc];exact Leaf.val _
 ·exact U84
 ·exact U36
 intro v2 h2 r2 n2 o2;have n2:s1.h.next+1≤h2.next:=n2;have hlt':l.length-n=(l.drop n).length:=At.symm;have w1:IntKind.i64.wrap ((n:Int)+1)=((n+1:Nat):Int):=aE (n:=n+1) om;have leafs:∀q:List ByteArray,∀c∈q.flatMap strA,Leaf c:=fun q=>fI (fun a v hv=>by rw[ig.1 hv];exact Leaf.val _) q
 have fin:∀(j:Nat) (h3:AH) (v3:AV),(l.take n++([x]++l.drop j))=putS x l→RowC h3 0 (n+1+(l.drop j).length) 1 v3 (((l.take n).flatMap strA++[vS x])++(l.drop j).flatMap strA)→Rep h3 0 h3.next 1 v3 (nmV (putS x l)):=fun j h3 v3 e r3=>by
  refine di (lo:=0) ?_
  rw[←e,io,io,List.length_take,Nat.min_eq_left hn2,A8,A8];have:n+([x].length+(l.drop j).length)=n+1+(l.drop j).length:=by rw[List.length_singleton];omega
  rw[this,←List.append_assoc];exact r3
 have ta:l.take n=ahead x l:=by rw[hn];exact mq x l
 have tb:l.drop n=behind x l:=by rw[hn,behind]
 obtain⟨rr,hrr⟩:∃rr,l.drop n=rr:=⟨_,rfl⟩;cases rr with
 |nil=>
  have hl:=aK hrr hn2;have hf0:decide ((n:Int)<(l.length:Nat))=false:=by rw[hl];exact ba
  obtain⟨sv,hs1,hs2⟩:=lE (l:=l) (n:=n) hn2;simp-implicitDefEqProofs only[V,↓reduceIte,rA,reduceCtorEq,e6,e0,tn,hf0,hs1];refine cO (k:=n+1) (m:=(l.drop n).length) (lo:=0) (v:=v2) (x:=sv) (cs:=(l.take n).flatMap strA++[vS x]) (new:=(l.drop n).flatMap strA) ?_ ?_ ?_ (bG aI _) (leafs _) (aS om de) ?_ ?_ ?_
  ·exact U42
  ·exact ir _
  ·exact hs2 _
  ·exact U36
  ·exact U36
  intro v3 h3 r3 n3 o3;simp-implicitDefEqProofs only[V,↓reduceIte,reduceCtorEq,d1];refine⟨_,rfl,1,de,?_⟩;refine fin n h3 v3 ?_ r3;rw[kX,ta,←tb,hrr];rfl
 |cons y r=>
  have hl:=aL hrr;have hf1:decide ((n:Int)<(l.length:Nat))=true:=bY hl;have hat:idxAddrSV 1 (nmV l) n=some (.iptr (vS y::r.flatMap strA)):=Vl.at (v:=⟨l,nilK,none⟩) aI hrr;have hnext:l.drop (n+1)=r:=aH hrr;cases q:strEq y x with
  |false=>
   obtain⟨sv,hs1,hs2⟩:=lE (l:=l) (n:=n) hn2;simp-implicitDefEqProofs only[V,↓reduceIte,rA,reduceCtorEq,e6,e0,e1,tn,hf1,hat,q,hs1];refine cO (k:=n+1) (m:=(l.drop n).length) (lo:=0) (v:=v2) (x:=sv) (cs:=(l.take n).flatMap strA++[vS x]) (new:=(l.drop n).flatMap strA) ?_ ?_ ?_ (bG aI _) (leafs _) (aS om de) ?_ ?_ ?_
   ·exact U42
   ·exact ir _
   ·exact hs2 _
   ·exact U36
   ·exact U36
   intro v3 h3 r3 n3 o3;simp-implicitDefEqProofs only[V,↓reduceIte,reduceCtorEq,d1];refine⟨_,rfl,1,de,?_⟩;refine fin n h3 v3 ?_ r3;rw[kX,ta,←tb,hrr,skipS,q];rfl
  |true=>
   obtain⟨sv,hs1,hs2⟩:=lE (l:=l) (n:=n+1) om;have hl2:(l.drop (n+1)).length=l.length-(n+1):=At;simp-implicitDefEqProofs only[V,↓reduceIte,rA,reduceCtorEq,e6,e0,e1,tn,hf1,hat,q,w1,hs1];refine cO (k:=n+1) (m:=(l.drop (n+1)).length) (lo:=0) (v:=v2) (x:=sv) (cs:=(l.take n).flatMap strA++[vS x]) (new:=(l.drop (n+1)).flatMap strA) ?_ ?_ ?_ (bG aI _) (leafs _) (aS om de) ?_ ?_ ?_
   ·exact U42
   ·exact ir _
   ·exact hs2 _
   ·exact U36
   ·exact U36
   intro v3 h3 r3 n3 o3;simp-implicitDefEqProofs only[V,↓reduceIte,reduceCtorEq,d1];refine⟨_,rfl,1,de,?_⟩;refine fin (n+1) h3 v3 ?_ r3;rw[kX,ta,←tb,hrr,skipS,q,hnext];rfl
theorem nP:∀(r acc:List ByteArray),(putsS acc r).length≤acc.length+r.length
 | [],acc=>i7 _
 |x::r,acc=>by
  have h1:=nP r (putS x acc);have h2:=gG x acc;rw[putsS,im];omega
theorem oJ(a:List ByteArray)(hN:a.length<2^27):∀(r:List ByteArray) (i:Nat) (acc:List ByteArray) (s:St),a.drop i=r→i≤a.length→acc.length+r.length<2^28→s.eval (.t 0)=some (nmV a)→s.eval (.t 5)=some (nmV acc)→s.eval (.t 9)=some (vI (a.length:Nat))→s.eval (.t 10)=some (vI (i:Nat))→s.defers=[]→
  Run E1 pf s fun e s'=>e=.exit 0∧s'.defers=[]∧s'.eval (.t 5)=some (nmV (putsS acc r))∧s'.eval (.t 1)=s.eval (.t 1)
 | [],i,acc,s,hd,hi,hA,h0,h5,h9,h10,hf=>by
  have hl:=aK hd hi;subst hl;apply aC (rfl:pf=.loop mM);simp-implicitDefEqProofs only[mM,V,↓reduceIte,rA,h5,h9,h10,hf,ba,putsS]
 |x::r,i,acc,s,hd,hi,hA,h0,h5,h9,h10,hf=>by
  have hl:=aL hd;have hlt:=bY hl;have hA':acc.length+(r.length+1)<2^28:=hA;have w1:IntKind.i64.wrap ((i:Int)+1)=((i+1:Nat):Int):=aE (n:=i+1) om;have hat:idxAddrSV 1 (nmV a) i=some (.iptr (vS x::r.flatMap strA)):=Vl.at (v:=⟨a,nilK,none⟩) aI hd;have hp:=lU acc x om;have hpl:=gG x acc;apply aC (rfl:pf=.loop mM);simp-implicitDefEqProofs only[mM,V,↓reduceIte,rA,reduceCtorEq,h0,h5,h9,h10,hlt,hat,aG hp,w1];refine(oJ a hN r (i+1) (putS x acc) _ (aH hd) om om ?_ ?_ ?_ ?_ ?_).mono ?_
  ·exact U37
  ·exact U36
  ·exact U43
  ·exact U36
  ·exact U39
  rintro e s2 ⟨rfl,d2,e5,e1⟩;simp-implicitDefEqProofs only[V,↓reduceIte,rA] at e1;exact⟨rfl,d2,e5,e1⟩
theorem oI(a:List ByteArray)(hN:a.length<2^27):∀(r:List ByteArray) (i:Nat) (acc:List ByteArray) (s:St),a.drop i=r→i≤a.length→acc.length+r.length<2^28→s.eval (.t 1)=some (nmV a)→s.eval (.t 5)=some (nmV acc)→s.eval (.t 21)=some (vI (a.length:Nat))→s.eval (.t 22)=some (vI (i:Nat))→s.defers=[]→
  Run E1 pe s fun e s'=>e=.exit 2∧s'.defers=[]∧s'.eval (.t 5)=some (nmV (putsS acc r))
 | [],i,acc,s,hd,hi,hA,h0,h5,h9,h10,hf=>by
  have hl:=aK hd hi;subst hl;apply aC (rfl:pe=.loop mL);simp-implicitDefEqProofs only[mL,V,↓reduceIte,rA,h5,h9,h10,hf,ba,putsS]
 |x::r,i,acc,s,hd,hi,hA,h0,h5,h9,h10,hf=>by
  have hl:=aL hd;have hlt:=bY hl;have hA':acc.length+(r.length+1)<2^28:=hA;have w1:IntKind.i64.wrap ((i:Int)+1)=((i+1:Nat):Int):=aE (n:=i+1) om;have hat:idxAddrSV 1 (nmV a) i=some (.iptr (vS x::r.flatMap strA)):=Vl.at (v:=⟨a,nilK,none⟩) aI hd;have hp:=lU acc x om;have hpl:=gG x acc;apply aC (rfl:pe=.loop mL);simp-implicitDefEqProofs only[mL,V,↓reduceIte,rA,h0,h5,h9,h10,hlt,hat,aG hp,w1];refine oI a hN r (i+1) (putS x acc) _ (aH hd) om om ?_ ?_ ?_ ?_ ?_
  ·exact U37
  ·exact U36
  ·exact U43
  ·exact U36
  ·exact U39
theorem oW(a b:List ByteArray)(ha:a.length<2^27)(hb:b.length<2^27)(h:AH):RunCall E1 (.f 52) [nmV a,nmV b] h (nmV (unionS a b)) h:=by
 refine jX kr Mg (dm Vl.leaf.tree Vl.leaf.tree) (fun s hs hh hd hr=>?_) h;have h0:=hs 0 _ rfl;have h1:=hs 1 _ rfl;have hl:=nP a [];have hl:(putsS [] a).length≤0+a.length:=hl;simp-implicitDefEqProofs only[zy,f52,V,↓reduceIte,reduceCtorEq,h0];refine(oJ a ha a 0 [] _ rfl (ir _) (by show 0+a.length<_;omega) ?_ ?_ ?_ ?_ ?_).mono ?_
 ·simp-implicitDefEqProofs only[V,↓reduceIte,reduceCtorEq,h0];rfl
 ·exact U40
 ·exact U36
 ·exact U40
 ·exact U41
 rintro e s1 ⟨rfl,d1,e5,e1⟩;simp-implicitDefEqProofs only[V,↓reduceIte,rA,h1] at e1;simp-implicitDefEqProofs only[V,↓reduceIte,WF,e1];refine(oI b hb b 0 (putsS [] a) _ rfl (ir _) om ?_ ?_ ?_ ?_ ?_).mono ?_
 ·simp-implicitDefEqProofs only[V,↓reduceIte,rA,e1];rfl
 ·exact U84
 ·exact U36
 ·exact U40
 ·simp-implicitDefEqProofs only[V,d1]
 rintro e s2 ⟨rfl,d2,e5⟩;simp-implicitDefEqProofs only[V,↓reduceIte,reduceCtorEq,WF,e5,d2];exact⟨_,rfl,0,de,Rep.leaf Vl.leaf⟩
variable {E:Env}{s:St}{K:St→Prop}{r:List AOper}{dst:Option Nat}
def Que(h:AH)(lo:Nat)(v:AV)(Q:List ByteArray):Prop:=
 ∃b off cap cs,v=.own b off Q.length 1 cap∧lo≤b∧b<h.next∧h.get b=some (.cells cs true)∧idsL cs=[]∧off+Q.length≤cs.length∧(cs.drop off).take Q.length=Q.flatMap strA∧(cap=some Q.length∨(cap=none∧off+Q.length=cs.length))
theorem Que.to{h h':AH}{lo:Nat}{v:AV}{Q:List ByteArray}(q:Que h lo v Q)(hn:h.next≤h'.next)(g:∀x,lo≤x→x<h.next→h'.get x=h.get x):Que h' lo v Q:=by
 obtain⟨b,off,cap,cs,e,b1,b2,gb,gi,q1,q2,q3⟩:=q;exact⟨b,off,cap,cs,e,b1,om,by rw[g b b1 b2,gb],gi,q1,q2,q3⟩
theorem Que.len{h:AH}{lo:Nat}{v:AV}{Q:List ByteArray}(q:Que h lo v Q):lenV v=some (vI (Q.length:Nat)):=by
 obtain⟨b,off,cap,cs,rfl,_⟩:=q;rfl
theorem Que.hd{h:AH}{lo:Nat}{v:AV}{a:ByteArray}{Q:List ByteArray}(q:Que h lo v (a::Q)):∃b off l,lo≤b∧b<h.next∧idxAddrSV 1 v 0=some (.ptr b off)∧cfB (h.get b) off=some (vS a::l):=by
 obtain⟨b,off,cap,cs,rfl,b1,b2,gb,gi,q1,q2,q3⟩:=q;have h1:iq 0 (a::Q).length=true:=j8.mpr (Nat.zero_lt_succ _);have h2:i6 off cs.length=true:=iu.mpr om;cases hc:cs.drop off with
 |nil=>
  rw[hc] at q2;simp[strA] at q2
 |cons c l=>
  rw[hc,im,jm,Ad,strA,ja,iz,List.cons.injEq] at q2;refine⟨b,off,l,b1,b2,?_,?_⟩
  ·simp only[idxAddrSV,h1,je,ip,cond_true,Nat.zero_mul,Nat.add_zero]
  ·rw[gb];simp only[cfB,h2,cond_true,hc,q2.1]
theorem Que.tl{h:AH}{lo:Nat}{v:AV}{a:ByteArray}{Q:List ByteArray}(q:Que h lo v (a::Q)):∃v',sliceA' 1 v (some 1) none none=some v'∧Que h lo v' Q:=by
 obtain⟨b,off,cap,cs,rfl,b1,b2,gb,gi,q1,q2,q3⟩:=q;have h1:i6 1 (Q.length+1)=true:=iu.mpr om;have h2:i6 (Q.length+1) (Q.length+1)=true:=iu.mpr (i7 _);have e1:sliceB (Q.length+1) (Q.length+1) (some 1) none none=some (1,Q.length+1,Q.length+1):=by
  simp only[sliceB,jr,Ac,h1,h2,Bx,A2,ip,cond_true]
 rw[im] at q1 q2;have tail:∀o,o=off+1→(cs.drop o).take Q.length=Q.flatMap strA:=fun o ho=>by
  subst ho;have:cs.drop (off+1)=(cs.drop off).drop 1:=by rw[Bz]
  rw[this];cases hc:cs.drop off with
  |nil=>
   rw[hc] at q2;simp[strA] at q2
  |cons c l=>
   rw[hc,jm,Ad,strA,ja,iz,List.cons.injEq] at q2;rw[List.drop_one,List.tail_cons,q2.2]
 rcases q3 with rfl|⟨rfl,q3⟩
 ·refine⟨.own b (bif i5 (Q.length+1) 1 then off else off+1) Q.length 1 (some Q.length),?_,?_⟩
  ·simp only[im,sliceA',je,cond_true,e1,Nat.add_sub_cancel,jt]
  ·cases hq:i5 (Q.length+1) 1 with
   |true=>
    have:Q=[]:=List.length_eq_zero_iff.1 (by have:=ij hq;omega)
    subst this;exact⟨b,off,some 0,cs,rfl,b1,b2,gb,gi,by simp;omega,rfl,.inl rfl⟩
   |false=>exact⟨b,off+1,some Q.length,cs,rfl,b1,b2,gb,gi,om,tail _ rfl,.inl rfl⟩
 ·have e2:i5 1 0=false:=rfl;refine⟨.own b (off+1) Q.length 1 none,?_,b,off+1,none,cs,rfl,b1,b2,gb,gi,om,tail _ rfl,.inr ⟨rfl,by rw[im] at q3;omega⟩⟩
  simp only[im,sliceA',je,cond_true,e1,h1,h2,e2,cond_false,Nat.add_sub_cancel,jt]
theorem na(Q:List ByteArray)(y:ByteArray):idsL (Q.flatMap strA++[vS y])=[]:=bV fun c hc=>by
 rcases jc.1 hc with h|h
 ·exact fI (fun a v hv=>by rw[ig.1 hv];exact Leaf.val _) Q c h
 ·rw[ig.1 h];exact Leaf.val _
theorem Que.nice{h:AH}{lo:Nat}{v:AV}{Q:List ByteArray}(q:Que h lo v Q):niceT h (some v)=true:=by
 obtain⟨b,off,cap,cs,rfl,b1,b2,gb,gi,q1,q2,q3⟩:=q;have h1:iq b h.next=true:=j8.mpr b2;simp only[niceT,niceV,ids,j4,j5,h1,gb,gi,Bool.and_true];rfl
theorem Que.one{h:AH}{lo:Nat}{y:ByteArray}{b:Nat}(h1:lo≤b)(h2:b<h.next)(g:h.get b=some (.cells [vS y] true)):Que h lo (.own b 0 1 1 (some 1)) [y]:=
 ⟨b,0,some 1,[vS y],rfl,h1,h2,g,rfl,i7 _,rfl,.inl rfl⟩
theorem Fp{a d lo:Nat}{v x:AV}{Q:List ByteArray}{y:ByteArray}(q:Que s.h lo v Q)(hlo:lo≤s.h.next)(he:elemsOf s.h 1 x=some ([vS y],1))(hQ:Q.length<2^29)(ha:s.eval (.t a)=some v)(hx:s.eval (.t d)=some x)
  (kk:∀v' h',Que h' lo v' (Q++[y])→s.h.next≤h'.next→(∀z,z<lo→h'.get z=s.h.get z)→AM.wpOps E r ((s.toH h').put dst v') K):AM.wpOps E (⟨dst,none,.append 1 16 (.t a) (.t d)⟩::r) s K:=by
 obtain⟨b,off,cap,cs,rfl,b1,b2,gb,gi,q1,q2,q3⟩:=q;have hok:okLen (Q.length+1) 16=true:=aS om de;have h0:i5 1 0=false:=rfl;have h1:i6 (off+Q.length) cs.length=true:=iu.mpr om;have hb:(Q++[y]).length=Q.length+1:=by rw[io];rfl
 have hlen:(Q.flatMap strA).length=Q.length:=by rw[bG aI,jt]
 rcases q3 with rfl|⟨rfl,q3⟩
 ·have h2:i6 (Q.length+1) Q.length=false:=by
   cases hh:i6 (Q.length+1) Q.length with
   |false=>rfl
   |true=>have:=is hh;omega
  have e:appendA s 1 16 (.t a) (.t d)=some (.own s.h.next 0 (Q.length+1) 1 none,s.toH (s.h.alloc (.cells (Q.flatMap strA++[vS y]) true))):=by
   simp only[appendA,ha,hx,he,h0,cond_false,gb,je,h1,hok,ip,cond_true,h2,jt,q2];rfl
  rw[cR,e];refine kk (.own s.h.next 0 (Q.length+1) 1 none) (s.h.alloc (.cells (Q.flatMap strA++[vS y]) true)) ⟨s.h.next,0,none,Q.flatMap strA++[vS y],by rw[hb],hlo,js _,aO,na Q y,?_,?_,.inr ⟨rfl,?_⟩⟩ (jw _) (fun z hz=>aB om)
  ·exact U44
  ·exact U45
  ·exact U44
 ·have h2n:iq (off+Q.length) cs.length=false:=Eh om;have h2:i5 (off+Q.length) cs.length=true:=by rw[q3];exact je _
  have q4:cs.drop off=Q.flatMap strA:=by
   rw[←q2,jl];rw[At];omega
  have e:appendA s 1 16 (.t a) (.t d)=some (.own s.h.next 0 (Q.length+1) 1 none,s.toH ((s.h.put b none).alloc (.cells (Q.flatMap strA++[vS y]) true))):=by
   simp only[appendA,ha,hx,he,h0,cond_false,gb,je,h1,hok,ip,B6,cond_true,cond_false,h2,h2n,q4,jt];rfl
  rw[cR,e];have nx:(s.h.put b none).next=s.h.next:=rfl;refine kk (.own s.h.next 0 (Q.length+1) 1 none) ((s.h.put b none).alloc (.cells (Q.flatMap strA++[vS y]) true)) ⟨s.h.next,0,none,Q.flatMap strA++[vS y],by rw[hb],hlo,?_,?_,na Q y,?_,?_,.inr ⟨rfl,?_⟩⟩ (jw _) (fun z hz=>?_)
  ·exact js _
  ·exact aO (h:=s.h.put b none)
  ·exact U44
  ·exact U45
  ·exact U44
  ·rw[aB (by rw[nx];omega),aP om]
end Go.Proofs.YtkmoeaplhnabcaaGreatDoor
namespace Go.Proofs.YtkmoeaplhnabcaaGreatDoor
open Go Go.AM
set_option maxHeartbeats 4000000
variable [KR]
def zDf:List AV:=[vS ⟨#[]⟩,.val (.slice none 0 0),vI 0,vS ⟨#[]⟩,vI 0,.val (.slice none 0 0),.val (.slice none 0 0),.val (.slice none 0 0),.val (.slice none 0 0),vI 0,vB false,.val (.slice none 0 0),.val (.slice none 0 0),.val (.slice none 0 0),.val (.slice none 0 0),vI 0,vS ⟨#[]⟩,.val (.slice none 0 0),.val (.slice none 0 0),vI 0,vS ⟨#[]⟩,vI 0,.val (.slice none 0 0),.val (.slice none 0 0),.val (.slice none 0 0)]
def zEx:Ex:=.mk 0 ⟨#[]⟩ 0 [] nilK none ⟨[],nilK,none⟩ [] nilK none ⟨[],nilK,none⟩
def dZ:Df:=⟨⟨#[]⟩,⟨[],nilK,none⟩,zEx,[vI 0,vB false,.val (.slice none 0 0),.val (.slice none 0 0),.val (.slice none 0 0),.val (.slice none 0 0),vI 0,vS ⟨#[]⟩,.val (.slice none 0 0),.val (.slice none 0 0),vI 0,vS ⟨#[]⟩,vI 0,.val (.slice none 0 0),.val (.slice none 0 0),.val (.slice none 0 0)],rfl,fun v hv=>by
 simp only[i8,jb,or_false] at hv;rcases hv with rfl|rfl|rfl|rfl|rfl|rfl|rfl|rfl|rfl|rfl|rfl|rfl|rfl|rfl|rfl|rfl<;>exact Leaf.val _⟩
theorem xm:zDf=dZ.cells:=by
 show zDf=_;rw[Df.cells,Ex.cells_eq];rfl
def fndD(x:ByteArray):List Df→Option Df
 | []=>none
 |d::r=>bif strEq d.nm x then some d else fndD x r
theorem ee{x:ByteArray}{d:Df}:∀{l:List Df},fndD x l=some d→d∈l∧d.nm=x
 |a::r,h=>by
  rw[fndD] at h;cases q:strEq a.nm x with
  |true=>
   rw[q] at h;cases h;exact⟨il,dJ q⟩
  |false=>
   rw[q] at h;obtain⟨h1,h2⟩:=ee h;exact⟨j0 _ h1,h2⟩
def ansD(x:ByteArray)(l:List Df):AV:=match fndD x l with
 |some d=>.tup [.agg d.cells,vB true]
 |none=>.tup [.agg zDf,vB false]
theorem da{h:AH}{b:Nat}{p:Df}:stK h b 25 0 p.cells (some (.cells zDf true))=some (h.put b (some (.cells p.cells true))):=d5 rfl p.len
theorem tQ{h:AH}{b:Nat}:stK h b 25 0 zDf (some (.cells zDf true))=some (h.put b (some (.cells zDf true))):=d5 rfl rfl
theorem Fd:takeN (some 25) zDf=some (.agg zDf):=rfl
theorem be:[vS ⟨#[]⟩,.val (.slice none 0 0),vI 0,vS ⟨#[]⟩,vI 0,.val (.slice none 0 0),.val (.slice none 0 0),.val (.slice none 0 0),.val (.slice none 0 0),vI 0,vB false,.val (.slice none 0 0),.val (.slice none 0 0),.val (.slice none 0 0),.val (.slice none 0 0),vI 0,vS ⟨#[]⟩,.val (.slice none 0 0),.val (.slice none 0 0),vI 0,vS ⟨#[]⟩,vI 0,.val (.slice none 0 0),.val (.slice none 0 0),.val (.slice none 0 0)]=zDf:=rfl
theorem yK{h:AH}{lo hi:Nat}{c:List AV}{b:Bool}(hc:∀v∈c,Leaf v):Rep h lo hi 2 (.tup [.agg c,vB b]) (.tup [.agg c,vB b]):=by
 have:=Rep.tup (h:=h) (lo:=lo) (hi:=hi) (n:=1) (ps:=[(.agg c,.agg c),(vB b,vB b)]) (fun p hp=>by
  simp only[i8,jb,or_false] at hp;rcases hp with rfl|rfl
  ·exact Fo hc
  ·exact Rep.leaf (Leaf.val _))
 simpa only[List.map_cons,List.map_nil] using this
theorem sY(m:Md)(x:ByteArray)(hN:m.ds.l.length<2^61):∀(r:List Df) (i:Nat) (s:St),m.ds.l.drop i=r→i≤m.ds.l.length→s.h.get 0=some (.cells m.cells true)→s.h.get 1=some (.cells zDf true)→s.eval (.t 2)=some (.ptr 0 0)→s.eval (.t 4)=some (.ptr 1 0)→s.eval (.t 1)=some (vS x)→s.eval (.t 6)=some (vI (i:Nat))→s.eval (.t 5)=some (vB false)→s.defers=[]→
  Run E1 po s fun e s'=>s'.defers=[]∧s'.eval (.t 4)=some (.ptr 1 0)∧((fndD x r=none∧e=.exit 0∧s'.h.get 1=some (.cells zDf true))∨(∃d,fndD x r=some d∧e=.ret∧s'.h.get 1=some (.cells d.cells true)∧s'.eval (.t 5)=some (vB true)))
 | [],i,s,hd,hi,g0,g1,h2,h4,h1,h6,h5,hf=>by
  have hl:=aK hd hi;subst hl;apply aC (rfl:po=.loop jC);simp-implicitDefEqProofs only[jC,V,↓reduceIte,rA,reduceCtorEq,g0,g1,h2,h4,h6,h5,hf,ba]
  first|exact .inl ⟨rfl,rfl,trivial⟩|exact .inl rfl|exact .inl ⟨rfl,rfl⟩
 |d::r,i,s,hd,hi,g0,g1,h2,h4,h1,h6,h5,hf=>by
  have hl:=aL hd;have hlt:=bY hl;have w1:IntKind.i64.wrap ((i:Int)+1)=((i+1:Nat):Int):=aE (n:=i+1) om;apply aC (rfl:po=.loop jC);cases q:strEq d.nm x with
  |true=>
   simp-implicitDefEqProofs only[jC,V,↓reduceIte,rA,reduceCtorEq,WF,g0,g1,h2,h4,h1,h6,hf,hlt,m.ds.at Df.len hd,q,da,fndD]
   first|exact .inr ⟨d,rfl,rfl,rfl,rfl⟩|exact .inr ⟨d,rfl⟩|exact .inr ⟨d,rfl,rfl⟩
  |false=>
   simp-implicitDefEqProofs only[jC,V,↓reduceIte,rA,g0,h2,h1,h6,hlt,m.ds.at Df.len hd,q,w1,fndD];refine sY m x hN r (i+1) _ (aH hd) om ?_ ?_ ?_ ?_ ?_ ?_ ?_ ?_
   all_goals simp-implicitDefEqProofs only[V,↓reduceIte,rA,g0,g1,h2,h4,h1,h5,hf]
theorem mc(m:Md)(x:ByteArray)(hN:m.ds.l.length<2^61)(h:AH):RunCall E1 (.f 31) [.agg m.cells,vS x] h (ansD x m.ds.l) h:=by
 refine yQ kr Mu (dm (Tree.md m) (Tree.val _)) (fun s hs hh hd hr=>?_) h;have h0:=hs 0 _ rfl;have h1:=hs 1 _ rfl;simp-implicitDefEqProofs only[Da,f31,V,h0,hh,be];refine(sY m x hN m.ds.l 0 _ rfl (ir _) ?_ ?_ ?_ ?_ ?_ ?_ ?_ ?_).mono ?_
 all_goals try simp-implicitDefEqProofs only[V,↓reduceIte,rA,reduceCtorEq,h1,hd]
 all_goals try rfl
 rintro e s1 ⟨d1,e4,⟨hf,rfl,g1⟩|⟨d,hf,rfl,g1,e5⟩⟩
 ·exact U46
 ·exact U47
theorem sV(m:Md)(x:ByteArray)(hN:m.ds.l.length<2^61):∀(r:List Df) (i:Nat) (s:St),m.ds.l.drop i=r→i≤m.ds.l.length→2≤s.h.next→s.h.get 1=some (.cells zDf true)→s.eval (.t 4)=some (.ptr 1 0)→s.eval (.t 1)=some (vS x)→s.eval (.t 9)=some (m.ds.A Df.cells)→s.eval (.t 10)=some (vI (m.ds.l.length:Nat))→s.eval (.t 11)=some (vI (i:Nat))→s.eval (.t 5)=some (vB false)→s.defers=[]→
  Run E1 pj s fun e s'=>s'.defers=[]∧s'.eval (.t 4)=some (.ptr 1 0)∧((fndD x r=none∧e=.exit 0∧s'.h.get 1=some (.cells zDf true))∨(∃d,fndD x r=some d∧e=.ret∧s'.h.get 1=some (.cells d.cells true)∧s'.eval (.t 5)=some (vB true)))
 | [],i,s,hd,hi,hn,g1,h4,h1,h9,h10,h11,h5,hf=>by
  have hl:=aK hd hi;subst hl;apply aC (rfl:pj=.loop iZ);simp-implicitDefEqProofs only[iZ,V,↓reduceIte,rA,reduceCtorEq,g1,h4,h10,h11,h5,hf,ba]
  first|exact .inl ⟨rfl,rfl,trivial⟩|exact .inl rfl|exact .inl ⟨rfl,rfl⟩
 |d::r,i,s,hd,hi,hn,g1,h4,h1,h9,h10,h11,h5,hf=>by
  have hl:=aL hd;have hlt:=bY hl;have w1:IntKind.i64.wrap ((i:Int)+1)=((i+1:Nat):Int):=aE (n:=i+1) om;have hne:(1=s.h.next)=False:=by simp;omega
  apply aC (rfl:pj=.loop iZ);cases q:strEq d.nm x with
  |true=>
   simp-implicitDefEqProofs only[iZ,V,↓reduceIte,rA,reduceCtorEq,WF,g1,h4,h1,h9,h10,h11,hf,hlt,m.ds.at Df.len hd,be,da,hne,q,fndD]
   first|exact .inr ⟨d,rfl,rfl,rfl,rfl⟩|exact .inr ⟨d,rfl⟩|exact .inr ⟨d,rfl,rfl⟩
  |false=>
   simp-implicitDefEqProofs only[iZ,V,↓reduceIte,rA,WF,h1,h9,h10,h11,hlt,m.ds.at Df.len hd,be,da,q,w1,fndD];refine sV m x hN r (i+1) _ (aH hd) om ?_ ?_ ?_ ?_ ?_ ?_ ?_ ?_ ?_
   ·show 2≤s.h.next+1;omega
   all_goals simp-implicitDefEqProofs only[V,↓reduceIte,rA,g1,h4,h1,h9,h10,h5,hf,hne]
theorem cL(m:Md)(x:ByteArray)(hN:m.ds.l.length<2^61)(h:AH):RunCall E1 (.f 36) [.agg m.cells,vS x] h (ansD x m.ds.l) h:=by
 refine yQ kr Mp (dm (Tree.md m) (Tree.val _)) (fun s hs hh hd hr=>?_) h;have h0:=hs 0 _ rfl;have h1:=hs 1 _ rfl;simp-implicitDefEqProofs only[Cv,f36,V,↓reduceIte,rA,reduceCtorEq,h0,hh,be];refine(sV m x hN m.ds.l 0 _ rfl (ir _) ?_ ?_ ?_ ?_ ?_ ?_ ?_ ?_ ?_).mono ?_
 all_goals try simp-implicitDefEqProofs only[V,↓reduceIte,rA,rB,h1,hd]
 all_goals try rfl
 ·show 2≤2;exact i7 2
 rintro e s1 ⟨d1,e4,⟨hf,rfl,g1⟩|⟨d,hf,rfl,g1,e5⟩⟩
 ·exact U46
 ·exact U47
end Go.Proofs.YtkmoeaplhnabcaaGreatDoor
namespace Go.AM
set_option maxHeartbeats 4000000
section
variable {E:Env}{s:St}{K:St→Prop}{rest:List DOp}{done:List DRec}
theorem xu{i:Nat}{v:AV}(he:s.eval (.t i)=some v):∀x∈idsL (pickTm s.tm [i]).vals,x∈ids v:=fun x hx=>by
 obtain⟨w,hw,hxw⟩:=kc hx;obtain⟨j,hj⟩:=dM hw;rw[aw] at hj;split at hj
 ·rename_i hm;rw[ig.1 hm] at hj;have:s.tm.get i=some v:=he;rw[this] at hj;cases hj;exact hxw
 ·cases hj
theorem eE{dst i b:Nat}{v:AV}{fr:List Nat}{o:Nat}{n:Option Nat}(he:s.eval (.t i)=some (.ptr b o))(hb:b<s.h.next)(hn:niceT s.h (some (.ptr b o))=true)(ho:runOp E noCall s (.load n (.t i))=some (v,s))(hf:∀F lo,(∀x∈F,x=b)→freeOk done ⟨F,[],lo,lo⟩ fr=true)
  (k:∀rec,QuietB s.h.next rec→(∀x∈rec.F,x=b)→DrawTo E rest (done++[rec]) (s.put (some dst) v) K):DrawTo E (⟨⟨some dst,none,.load n (.t i)⟩,[i],fr⟩::rest) done s K:=by
 have st:=dD (E:=E) (d:=⟨⟨some dst,none,.load n (.t i)⟩,[i],fr⟩) (near:=nearOf done fr) (by show memN [i] i=true;simp[memN]) rfl rfl (by
  have e:s.tm.get i=some (.ptr b o):=he;simp only[j4,j5,e,hn,ip]) ho
 have hF:∀x∈theFoot (.load n (.t i)) (idsL (pickTm s.tm [i]).vals),x=b:=fun x hx=>by
  have:=xu he x hx
  simpa only[AM.ids,ig] using this
 refine aj (d:=⟨⟨some dst,none,.load n (.t i)⟩,[i],fr⟩) (hf _ _ hF) st (k _ ⟨⟨rfl,rfl⟩,List.all_eq_true.2 fun x hx=>by rw[hF x hx];exact j8.mpr hb⟩ hF)
theorem vD{dst:Option Nat}{f:Nat}{xs:List Opd}{rd fr:List Nat}{l:List AV}{v:AV}(hx:xs.all (opdIn rd)=true)(hn:(rd.all fun t=>plainT (s.eval (.t t)))=true)(he:evalAll s xs=some l)(hr:∀h,RunCall E (.f f) l h v h)(hf:∀i∈fr,i<done.length)
  (k:DrawTo E rest (done++[⟨[],[],s.h.next,s.h.next⟩]) (s.put dst v) K):DrawTo E (⟨⟨dst,none,.call f xs⟩,rd,fr⟩::rest) done s K:=
 aj (d:=⟨⟨dst,none,.call f xs⟩,rd,fr⟩) (dR hf) (fJ (d:=⟨⟨dst,none,.call f xs⟩,rd,fr⟩) rfl hx rfl rfl hn he hr) k
theorem mi{dst:Option Nat}{fr:List Nat}{f i lo n es:Nat}{a v:AV}{h1:AH}{cs:List AV}(r:RowX s.h lo n es a cs)(he:s.eval (.t i)=some a)(hv:idsL (pickTm s.tm [i]).vals=ids a)(ht:NoTag s.h)(hq:eqL cs cs=true)
  (hc:RunCall E (.f f) [a] (restrictH s.h (ids a)) v h1) (hn:s.h.next≤h1.next) (hsame:∀x∈ids a,h1.get x=s.h.get x) (hf:∀F lo hi,(∀x∈F,x∈ids a)→freeOk done ⟨F,[],lo,hi⟩ fr=true) (hfl:∀j∈fr,j<done.length)
  (k:∀F h',(∀x∈F,x∈ids a)→h'.next=h1.next→(∀x,s.h.next≤x→x<h1.next→h'.get x=h1.get x)→(∀x,x<s.h.next→h'.get x=s.h.get x)→(NoTag h1→NoTag h')→DrawTo E rest (done++[⟨F,[],s.h.next,h1.next⟩]) ((s.toH h').put dst v) K):
  DrawTo E (⟨⟨dst,none,.call f [.t i]⟩,[i],fr⟩::rest) done s K:=by
 rcases r.one with e|⟨b,e⟩
 ·rw[e] at hc;exact vE he e hc hn hfl fun h' q1 q2 q3 q4=>k [] h' (fun x hx=>by cases hx) q1 q2 q3 (q4 ht)
 ·have hb:=r.ids b (by rw[e];exact il)
  obtain⟨_,hr,gb⟩:=hb;have hcs:idsL cs=[]:=bV r.leafs;rw[e] at hc hv;have hs1:h1.get b=s.h.get b:=hsame b (by rw[e];exact il)
  have hl:reach s.h 100000 [b] []=[b]:=by
   have hm:memN ([]:List Nat) b=false:=rfl;have e:reach s.h (99998+1+1) [b] []=reach s.h (99998+1) [] [b]:=by
    simp only[reach,hm,cond_false,gb,idsB,hcs,j6]
   exact e
  have hrr:iq b s.h.next=true:=j8.mpr hr;have hfoot:∀tm:Tr AV,foot {tm:=tm,h:=s.h,defers:=[],round:=s.round} [b] (.call f [.t i])=[b]:=fun tm=>by
   show(bif ([b]:List Nat).isEmpty then [] else withTags s.h (reach s.h 100000 [b] []))=[b];rw[hl,ym ht];rfl
  have hbel:below s.h.next [b]=true:=by simp only[below,j4,j5,hrr,ip]
  have hkn:knownH s.h [b]=true:=by simp only[knownH,j4,j5,hrr,gb,idsB,hcs,below,ip]
  have hev:evalAll {tm:=pickTm s.tm [i],h:=restrictH s.h [b],defers:=[],round:=s.round} [.t i]=some [a]:=by
   simp only[evalAll,St.eval,cg il he]
  have hD:([b].filter fun x=> !(memN ([b]++nearOf done fr) x&&eqB (s.h.get x) (h1.get x)))=[]:=by
   have hm:memN ([b]++nearOf done fr) b=true:=yu (by simp)
   have h2:eqB (some (.cells cs true)) (some (.cells cs true))=true:=by
    simp only[eqB,hq,beq_self_eq_true,ip]
   simp only[List.filter_cons,List.filter_nil,hm,hs1,gb,h2,ip,Bool.not_true,Bool.false_eq_true,if_false]
  have hble:i6 s.h.next h1.next=true:=iu.mpr hn;have hst:Ev fun n=>stepDraw E (aZ E (exec E n)) ⟨⟨dst,none,.call f [.t i]⟩,[i],fr⟩ (nearOf done fr) s=some (v,⟨[b],[],s.h.next,h1.next⟩,mergeH s.h [] h1):=by
   refine hc.mono fun n p=>?_
   simp only[stepDraw,wantedA,hv,hfoot,hbel,hkn,ip,cond_true,runOp,hev,p,Option.bind_some,isCall,List.isEmpty_nil,hble];rw[hD];rfl
  have hm:∀x,(mergeH s.h [] h1).get x=if s.h.next≤x∧x<h1.next then h1.get x else s.h.get x:=fun x=>by
   rw[ce hn];split
   ·rfl
   ·rw[if_neg (by simp)]
  refine aj (d:=⟨⟨dst,none,.call f [.t i]⟩,[i],fr⟩) (hf [b] _ _ fun x hx=>by rw[e];exact hx) hst (k [b] (mergeH s.h [] h1) (fun x hx=>by rw[e];exact hx) rfl (fun x x1 x2=>by rw[hm,if_pos ⟨x1,x2⟩]) (fun x x1=>by rw[hm,if_neg om]) fun k b x t n q=>?_)
  rw[hm] at q;split at q
  ·exact k b x t n q
  ·exact ht b x t n q
theorem dQ{F:List Nat}{lo hi:Nat}(hF:∀x∈F,∀r∈done,x∉r.D∧¬(r.lo≤x∧x<r.hi)):∀{l:List Nat},(∀i∈l,i<done.length)→freeOk done ⟨F,[],lo,hi⟩ l=true
 | [],_=>rfl
 |i::l,h=>by
  have hi:=h i il;have hm:=List.getElem_mem hi;have ht:touches done[i] F=false:=by
   rw[touches,List.any_eq_false];intro b hb;obtain⟨h1,h2⟩:=hF b hb _ hm;rw[Bool.or_eq_true,not_or];refine⟨fun q=>h1 (cA q),fun q=>h2 ?_⟩;rw[i9] at q;exact⟨is q.1,is q.2⟩
  simp only[freeOk,List.getElem?_eq_getElem hi,recApart,ht,List.any_nil,A5,ip,A7];have ht0:touches done[i] []=false:=rfl;simp only[ht0,A5,A7];exact dQ hF fun j hj=>h j (j0 _ hj)
end
theorem ah{h:AH}{v:AV}{l:List AV}(k:mapTree h l=none):mapTree h (v::l)=none:=by
 simp only[mapTree,k];cases toTree h deepest v<;>rfl
theorem ae{h:AH}{v:AV}{l:List AV}(k:toTree h deepest v=none):mapTree h (v::l)=none:=by
 simp only[mapTree,k]
theorem bQ{h:AH}{n b o:Nat}:toTree h n (.ptr b o)=none:=by
 cases n with
 |zero=>rfl
 |succ n=>rw[toTree.eq_def]
theorem dI{h:AH}{n g b o:Nat}{l:List AV}:toTree h n (.fn (.func g) [] (.ptr b o::l))=none:=by
 cases n with
 |zero=>rfl
 |succ n=>
  rw[toTree.eq_def];simp only[List.mapM_cons,List.mapM_nil,bQ];rfl
end Go.AM
namespace Go.Proofs.YtkmoeaplhnabcaaGreatDoor
open Go Go.AM
set_option maxHeartbeats 4000000
variable [KR]
theorem Ia{s:St}{es bytes a d n b:Nat}{x:AV}{cs new:List AV}{rw':Bool}(hb:s.h.get b=some (.cells [] rw'))(he:elemsOf s.h es x=some (new,n))(hn:0<n)(hok:okLen n bytes=true)(ha:s.eval (.t a)=some (.own b 0 0 es (some 0)))(hx:s.eval (.t d)=some x):
  appendA s es bytes (.t a) (.t d)=some (.own s.h.next 0 n es none,s.toH (s.h.alloc (.cells new true))):=by
 have h0:i5 n 0=false:=by
  cases hk:i5 n 0 with
  |false=>rfl
  |true=>
   have:=ij hk;omega
 have h1:i5 es es=true:=je es;have h2:i6 0 0=true:=rfl;have h3:i6 (0+n) 0=false:=by
  cases hk:i6 (0+n) 0 with
  |false=>rfl
  |true=>
   have:=is hk;omega
 simp only[appendA,ha,hx,he,h0,cond_false,hb,h1,h2,jp,Nat.zero_mul,jf,hok,ip,cond_true] at h3⊢
 simp only[h3,cond_false,List.drop_nil,List.take_nil,iz];rfl
theorem En{s:St}{es bytes a d b k:Nat}{c:Option Nat}{x:AV}{new:List AV}(he:elemsOf s.h es x=some (new,0))(ha:s.eval (.t a)=some (.own b 0 k es c))(hx:s.eval (.t d)=some x):
  appendA s es bytes (.t a) (.t d)=some (.own b 0 k es c,s):=by
 have h0:i5 0 0=true:=rfl;simp only[appendA,ha,hx,he,h0,cond_true]
theorem Hd{s:St}:fill s [] []=some []:=rfl
theorem bW{α:Type}{f:α→List AV}{es:Nat}(hf:∀a,(f a).length=es){w:Vl α}{h:AH}:elemsOf h es (w.A f)=some (w.l.flatMap f,w.l.length):=by
 obtain⟨l,nl,cap⟩:=w;simp only[Vl.A,kidsA];cases nl with
 |none=>
  simp only[Option.isSome_none,B6,cond_false];exact du (bG hf l)
 |some x=>
  obtain⟨a,c⟩:=x;cases l with
  |nil=>rfl
  |cons k r=>
   simp only[Cf,A7,im];exact du (by rw[bG hf];rfl)
theorem Gp:binA E1.P .eql 35 true (.val (.slice none 0 0)) (.val (.slice none 0 0))=some (vB true):=by kernel_rfl
theorem Gn{b o n e:Nat}{c:Option Nat}:binA E1.P .eql 35 true (.own b o n e c) (.val (.slice none 0 0))=some (vB false):=by kernel_rfl
theorem wM{h:AH}{lo k:Nat}{v:AV}{cs:List AV}(r:RowX h lo k 1 v cs)(hk:k<2^30):∃v' h',RunCall E1 (.f 60) [v] h v' h'∧RowX h' h.next k 1 v' cs∧h.next≤h'.next∧(∀x,x<h.next→h'.get x=h.get x)∧(NoTag h→NoTag h'):=by
 have own:∀b c,v=.own b 0 k 1 c→∃v' h',RunCall E1 (.f 60) [v] h v' h'∧RowX h' h.next k 1 v' cs∧h.next≤h'.next∧(∀x,x<h.next→h'.get x=h.get x)∧(NoTag h→NoTag h'):=fun b c e=>by
  subst e;have hid:=r.ids b (by simp only[AM.ids,ig])
  have hlen:=r.length;refine d6 (fun v' h'=>RowX h' h.next k 1 v' cs∧h.next≤h'.next∧(∀x,x<h.next→h'.get x=h.get x)∧(NoTag h→NoTag h')) kr zq fun s hs hh hd hrd=>?_
  have h0:=hs 0 _ rfl;have he:∀x,elemsOf (h.alloc x) 1 (.own b 0 k 1 c)=some (cs,k):=fun x=>aq (by rw[aB hid.2.1];exact hid.2.2) hlen
  simp-implicitDefEqProofs only[uU,f60,V,↓reduceIte,reduceCtorEq,WF,h0,hh,Gn];rcases Nat.eq_zero_or_pos k with hz|hp
  ·subst hz;have hcs:cs=[]:=Ai om;subst hcs;rw[cR,En (b:=h.next) (k:=0) (c:=some 0) (x:=.own b 0 0 1 c) (new:=[]) (by simp-implicitDefEqProofs only[V];exact he _) U85 U36]
   simp-implicitDefEqProofs only[aJ,V,↓reduceIte,reduceCtorEq,hd];exact⟨_,rfl,RowX.made (fun c hc=>by cases hc) rfl (i7 _) (js _) aO,jw _,fun x hx=>by rw[if_neg om],fun k=>k.alloc⟩
  ·rw[cR,Ia (cs:=[]) (b:=h.next) (n:=k) (x:=.own b 0 k 1 c) (new:=cs) (rw':=true) U36 (by simp-implicitDefEqProofs only[V];exact he _) hp (aS om de) U85 U36]
   simp-implicitDefEqProofs only[aJ,V,↓reduceIte,reduceCtorEq,hd];refine⟨_,rfl,.inl ⟨r.leafs,hlen,.inr ⟨h.next+1,jw _,js _,hp,rfl,aO⟩⟩,by show h.next≤h.next+1+1;omega,fun x hx=>?_,fun k=>k.alloc.alloc⟩
   rw[if_neg om,if_neg om]
 have r0:=r;rcases r with⟨h1,h2,⟨rfl,rfl⟩|⟨b,b1,b2,b3,e,b5⟩⟩|⟨h1,h2,b,b1,b2,e,b5⟩
 ·have hcs:cs=[]:=Ai om;subst hcs;refine d6 (fun v' h'=>RowX h' h.next 0 1 v' []∧h.next≤h'.next∧(∀x,x<h.next→h'.get x=h.get x)∧(NoTag h→NoTag h')) kr zq fun s hs hh hd hrd=>?_
  have h0:=hs 0 _ rfl;simp-implicitDefEqProofs only[uU,f60,V,↓reduceIte,reduceCtorEq,h0,hh,hd,Gp];exact⟨_,rfl,.inl RowC.nil,i7 _,fun _ _=>trivial,fun k=>k⟩
 ·exact own b none e
 ·exact own b (some k) e
theorem jO(e:Ex)(h:AH):RunCall E1 (.f 172) [.agg e.cells] h (vB (decide (e.op=3)||decide (e.op=5))) h:=by
 refine gJ kr Hg (iM (Tree.ex e)) rfl (Tree.val _) (fun s hs hh hd hr=>?_) h;have h0:=hs 0 _ rfl;cases q:decide (e.op=3) with
 |true=>simp-implicitDefEqProofs only[pq,f172,V,↓reduceIte,rA,reduceCtorEq,h0,hh,hd,q]
 |false=>
  cases q2:decide (e.op=5)<;>simp-implicitDefEqProofs only[pq,f172,V,↓reduceIte,rA,reduceCtorEq,h0,hh,hd,q,q2]
def zPm:List AV:=[vS ⟨#[]⟩,vI 0,vS ⟨#[]⟩,.val (.slice none 0 0),.val (.slice none 0 0),vI 0,vS ⟨#[]⟩,vI 0,.val (.slice none 0 0),.val (.slice none 0 0)]
theorem Ep:[vS ⟨#[]⟩,vI 0,vS ⟨#[]⟩,.val (.slice none 0 0),.val (.slice none 0 0),vI 0,vS ⟨#[]⟩,vI 0,.val (.slice none 0 0),.val (.slice none 0 0)]=zPm:=rfl
theorem Jr{h:AH}{b:Nat}{p:Pm}:stK h b 10 0 p.cells (some (.cells zPm true))=some (h.put b (some (.cells p.cells true))):=d5 rfl p.len
theorem mt{α β:Type}{f:α→List β}{l r:List α}{i:Nat}{a:α}(h:l.drop i=a::r):(l.take (i+1)).flatMap f=(l.take i).flatMap f++f a:=by
 have h2:l[i]? =some a:=by
  have:=Az (xs:=l) (i:=i) (j:=0);rw[h] at this
  simpa using this.symm
 rw[List.take_succ,h2,A8];simp
theorem oK{lo:Nat}(w:Vl Pm)(hN:w.l.length<2^29):∀(r:List Pm) (i:Nat) (s:St) (u:AV),w.l.drop i=r→i≤w.l.length→RowC s.h lo i 1 u ((w.l.take i).flatMap fun p=>strA p.nm)→lo≤s.h.next→
  s.eval (.t 6)=some (w.A Pm.cells)→s.eval (.t 7)=some (vI (w.l.length:Nat))→s.eval (.t 8)=some (vI (i:Nat))→s.eval (.t 3)=some u→s.defers=[]→
  Run E1 ke s fun e s'=>e=.exit 0∧s'.defers=[]∧∃u',RowC s'.h lo w.l.length 1 u' (w.l.flatMap fun p=>strA p.nm)∧s'.eval (.t 3)=some u'
 | [],i,s,u,hd,hi,hr,hlo,h6,h7,h8,h3,hf=>by
  have hl:=aK hd hi;subst hl;rw[List.take_length] at hr;apply aC (rfl:ke=.loop gj);simp-implicitDefEqProofs only[gj,V,↓reduceIte,rA,h7,h8,h3,hf,ba];exact⟨u,hr,rfl⟩
 |k::r,i,s,u,hd,hi,hr,hlo,h6,h7,h8,h3,hf=>by
  have hl:=aL hd;have hlt:=bY hl;have w1:IntKind.i64.wrap ((i:Int)+1)=((i+1:Nat):Int):=aE (n:=i+1) om;apply aC (rfl:ke=.loop gj);simp-implicitDefEqProofs only[gj,V,↓reduceIte,rA,WF,h6,h7,h8,h3,hlt,w.at Pm.len hd,Ep,Jr];refine cO (k:=i) (m:=1) (lo:=lo) (v:=u) (x:=.own (s.h.next+1) 0 1 1 (some 1)) (cs:=(w.l.take i).flatMap fun p=>strA p.nm) (new:=strA k.nm) ?_ ?_ ?_ rfl ?_ (aS om de) ?_ ?_ ?_
  ·simp-implicitDefEqProofs only[V];refine hr.to (by show s.h.next≤s.h.next+1+1;omega) fun x _ x2=>?_
   simp-implicitDefEqProofs only[V];rw[if_neg om,if_neg om,if_neg om]
  ·exact U34
  ·refine aq (rw':=true) ?_ rfl;simp-implicitDefEqProofs only[V,↓reduceIte];rfl
  ·exact fun c hc=>by rw[ig.1 hc];exact Leaf.val _
  ·exact U48
  ·exact U36
  intro v1 h1' r1 n1 o1;simp-implicitDefEqProofs only[V] at n1;simp-implicitDefEqProofs only[V,↓reduceIte,rA,h8,w1];refine(oK (lo:=lo) w hN r (i+1) _ v1 (aH hd) om ?_ ?_ ?_ ?_ ?_ ?_ ?_)
  ·simp-implicitDefEqProofs only[V];rw[mt hd];exact r1
  ·exact U34
  all_goals simp-implicitDefEqProofs only[V,↓reduceIte,rA,h6,h7,hf]
def pnm(l:List Pm):List ByteArray:=l.map Pm.nm
theorem yR(l:List Pm):l.flatMap (fun p=>strA p.nm)=(pnm l).flatMap strA:=by rw[pnm,List.flatMap_map]
theorem nE(w:Vl Pm)(hN:w.l.length<2^29)(h:AH):RunCall E1 (.f 258) [w.A Pm.cells] h (nmV (pnm w.l)) h:=by
 refine jX kr Hf (iM Tree.vl) (fun s hs hh hd hr=>?_) h;have h0:=hs 0 _ rfl;simp-implicitDefEqProofs only[wE,f258,V,↓reduceIte,reduceCtorEq,h0];refine(oK (lo:=0) w hN w.l 0 _ (.val (.slice none 0 0)) rfl (ir _) RowC.nil (ir _) ?_ ?_ ?_ ?_ ?_).mono ?_
 all_goals try simp-implicitDefEqProofs only[V,↓reduceIte,rA,hd]
 all_goals try rfl
 rintro e s1 ⟨rfl,d1,u1,r1,e1⟩;simp-implicitDefEqProofs only[V,↓reduceIte,reduceCtorEq,WB,e1,d1];refine⟨_,rfl,1,de,di (lo:=0) ?_⟩;rw[yR] at r1;rw[show(pnm w.l).length=w.l.length from List.length_map _];exact r1
def insS(e:Ex)(i:Nat):List ByteArray:=bif decide (e.op=7)&&decide (0<i) then [e.nm] else bif decide (e.op=6) then pnm e.pm.l else []
theorem ly(e:Ex)(i:Nat)(hN:e.pm.l.length<2^29)(hi:i<2^60):∃v,(∀h,RunCall E1 (.f 173) [.agg e.cells,vI (i:Nat)] h v h)∧(∀h,elemsOf h 1 v=some ((insS e i).flatMap strA,(insS e i).length))∧ids v=[]:=by
 have hgt:decide (((0:Nat):Int)<(i:Int))=decide (0<i):=by simp
 cases q:decide (e.op=7)&&decide (0<i) with
 |true=>
  refine⟨.imm [vS e.nm] 1 (some 1),fun h=>?_,fun h=>?_,rfl⟩
  ·refine jX kr wF (dm (Tree.ex e) (Tree.val _)) (fun s hs hh hd hr=>?_) h;have h0:=hs 0 _ rfl;have h1:=hs 1 _ rfl;rw[i9] at q;have q3:decide ((i:Int)>0)=true:=by have:=of_decide_eq_true q.2;exact decide_eq_true om
   simp-implicitDefEqProofs only[gn,f173,V,↓reduceIte,rA,rB,reduceCtorEq,WF,h0,h1,hh,hd,q.1,q3];refine⟨_,rfl,1,de,?_⟩;exact Rep.own (ps:=[(vS e.nm,vS e.nm)]) (rw:=true) (ir _) (js _) aO rfl fun p hp=>by
    rw[ig.1 hp];exact Rep.leaf (Leaf.val _)
  ·rw[insS,q];exact du rfl
 |false=>
  have ev:∀s:St,s.eval (.t 0)=some (.agg e.cells)→s.eval (.t 1)=some (vI (i:Nat))→True:=fun _ _ _=>trivial;refine⟨nmV (insS e i),fun h=>?_,fun h=>bW aI,Vl.ids⟩;refine jX kr wF (dm (Tree.ex e) (Tree.val _)) (fun s hs hh hd hr=>?_) h;have h0:=hs 0 _ rfl;have h1:=hs 1 _ rfl;have fin:(bif decide (e.op=6) then pnm e.pm.l else [])=insS e i:=by rw[insS,q];rfl
  have hq:(decide (e.op=7)=false)∨(decide (e.op=7)=true∧decide ((i:Int)>0)=false):=by
   cases q1:decide (e.op=7) with
   |false=>exact .inl rfl
   |true=>
    rw[q1,A7] at q;have:=of_decide_eq_false q;exact .inr ⟨rfl,decide_eq_false om⟩
  have hc:=fun h=>nE e.pm hN h;rcases hq with q1|⟨q1,q2⟩
  ·cases q6:decide (e.op=6) with
   |true=>
    rw[q6,cond_true] at fin;simp-implicitDefEqProofs only[gn,f173,V,↓reduceIte,rA,reduceCtorEq,h0,hh,hd,q1,q6,aG hc];exact⟨_,rfl,1,de,by rw[←fin];exact Rep.leaf Vl.leaf⟩
   |false=>
    rw[q6,cond_false] at fin;simp-implicitDefEqProofs only[gn,f173,V,↓reduceIte,rA,reduceCtorEq,h0,hh,hd,q1,q6];exact⟨_,rfl,1,de,by rw[←fin];exact Rep.leaf (Leaf.val _)⟩
  ·have q6:decide (e.op=6)=false:=by have:=of_decide_eq_true q1;exact decide_eq_false om
   rw[q6,cond_false] at fin;simp-implicitDefEqProofs only[gn,f173,V,↓reduceIte,rA,reduceCtorEq,h0,h1,hh,hd,q1,q2,q6];exact⟨_,rfl,1,de,by rw[←fin];exact Rep.leaf (Leaf.val _)⟩
end Go.Proofs.YtkmoeaplhnabcaaGreatDoor
