/- TDel TSort TCalled TFact TReach -/
import Derived.Test.YtkmoeaplhnabcaaGreatDoorU0
import Derived.Test.YtkmoeaplhnabcaaGreatDoorA0
import Derived.Test.YtkmoeaplhnabcaaGreatDoorX1
import Derived.Test.YtkmoeaplhnabcaaGreatDoorN1
import Derived.Test.YtkmoeaplhnabcaaGreatDoorT1
import Derived.Test.YtkmoeaplhnabcaaGreatDoorN2

set_option linter.all false
open Nat renaming reduceEqDiff → rA, reduceAdd → rB, reduceMul → rC
open Int renaming reduceEq → rD, reduceLT → rE, reduceLE → rF
open Option.some renaming injEq → sI
open Prod.mk renaming injEq → pI
open Bool renaming and_self → ip, not_false → A5, true_or → A2
open List renaming Pairwise → Bv, append_nil → j6, cons_append → ja, drop_drop → Bz, eq_nil_of_length_eq_zero → Ai, filter_append → Cj, filter_cons → Ay, filter_nil → Bs, flatMap_append → A8, flatMap_cons → Ad, getElem?_map → Ag, length_append → io, length_cons → im, length_filter_le → Ci, length_map → ji, length_nil → jf, length_take → C9, map_cons → jd, mem_append → jc, mem_cons → i8, mem_cons_of_mem → j0, mem_cons_self → il, mem_filter → jy, mem_map → A1, mem_nil_iff → jb, mem_range → B8, mem_singleton → ig, nil_append → iz, nodup_append → C1, nodup_cons → Ax, nodup_nil → Ao, not_mem_nil → Aw, range → jg, replicate → jz, replicate_succ → Cb, take_succ_cons → jm
open Nat renaming beq → i5, beq_refl → je, ble → i6, ble_eq → iu, eq_of_beq_eq_true → ij, le_refl → i7, le_succ → jw, lt_succ_self → js, mul_one → jt, zero_le → ir
open Option renaming getD_none → Ac, getD_some → jr, isNone_none → Bx
open Go.Proofs.Tryz renaming prog → i3
namespace Go.Proofs.YtkmoeaplhnabcaaGreatDoor
open Go Go.AM
set_option maxHeartbeats 4000000
variable [KR]
theorem gQ{b n i:Nat}{cap:Option Nat}(h:i<n):idxAddrSV 1 (.own b 0 n 1 cap) i=some (.ptr b i):=by
 have h1:Nat.blt i n=true:=Nat.blt_eq.mpr h;simp only[idxAddrSV,h1,jt,Nat.zero_add];rfl
theorem bU(D:List ByteArray):(D.flatMap strA).length=D.length:=by rw[bG aI,jt]
theorem sr{D r:List ByteArray}{a:ByteArray}{i:Nat}{rw':Bool}(h:D.drop i=a::r):cfB (some (.cells (D.flatMap strA) rw')) i=some (strA a++r.flatMap strA):=by
 have h1:i6 i (D.flatMap strA).length=true:=iu.mpr (by rw[bU];have:=aL h;omega)
 have h2:(D.flatMap strA).drop i=(D.drop i).flatMap strA:=by have:=cI aI D i;rwa [jt] at this
 simp only[cfB,h1,cond_true,h2,h,Ad]
theorem zQ{D:List ByteArray}{y:ByteArray}:∀{i:Nat},(D.flatMap strA).set i (vS y)=(D.set i y).flatMap strA:=by
 induction D with
 |nil=>intro i;rfl
 |cons a r ih=>
  intro i;cases i with
  |zero=>rfl
  |succ i=>
   show AV.val (.string a)::(r.flatMap strA).set i _=_;rw[ih];rfl
theorem we{h:AH}{b i:Nat}{D:List ByteArray}{y:ByteArray}(hi:i<D.length)(g:h.get b=some (.cells (D.flatMap strA) true)):stK h b 1 i [vS y] (some (.cells (D.flatMap strA) true))=some (h.put b (some (.cells ((D.set i y).flatMap strA) true))):=by
 have:=Jp (x:=vS y) g (by rw[bU];exact hi)
 rw[vT,g,zQ] at this;exact this
def Pick(g:Nat)(b:List AV)(p:ByteArray→Bool)(h:AH)(W:List Nat):Prop:=
 (∃q o r,b=.ptr q o::r)∧∀h':AH,h.next≤h'.next→(∀x∈W,h'.get x=h.get x)→∀x:ByteArray,RunCall E1 (.f g) (vS x::b) h' (vB (p x)) h'
theorem Pick.to{g:Nat}{b:List AV}{p:ByteArray→Bool}{h h1:AH}{W:List Nat}(k:Pick g b p h W)(hn:h.next≤h1.next)(ho:∀x∈W,h1.get x=h.get x):Pick g b p h1 W:=
 ⟨k.1,fun h' n o x=>k.2 h' om (fun y hy=>by rw[o y hy,ho y hy]) x⟩
def pix(p:ByteArray→Bool):List ByteArray→Option Nat
 | []=>none
 |a::r=>bif p a then some 0 else(pix p r).map (· +1)
def pixI(p:ByteArray→Bool)(l:List ByteArray):Int:=match pix p l with
 |some i=>(i:Nat)
 |none=> -1
theorem sK{g:Nat}{b:List AV}{p:ByteArray→Bool}{h:AH}{W:List Nat}(pk:Pick g b p h W){lo:Nat}{v:AV}{l:List ByteArray}(hr:RowC h lo l.length 1 v (l.flatMap strA))(hN:l.length<2^60):∀(r:List ByteArray) (i:Nat) (s:St),l.drop i=r→i≤l.length→s.h=h→s.eval (.t 0)=some v→s.eval (.t 1)=some (.fn (.func g) [] b)→s.eval (.t 7)=some (vI (l.length:Nat))→s.eval (.t 8)=some (vI (i:Nat))→s.defers=[]→
  Run E1 ff s fun e s'=>s'.defers=[]∧s'.h=h∧((pix p r=none∧e=.exit 0)∨(∃j,pix p r=some j∧e=.ret∧s'.eval (.t 4)=some (vI ((i+j:Nat):Int))))
 | [],i,s,hd,hi,hh,h0,h1,h7,h8,hf=>by
  have hl:=aK hd hi;subst hl;apply aC (rfl:ff=.loop ei);exact U88
 |a::r,i,s,hd,hi,hh,h0,h1,h7,h8,hf=>by
  have hl:=aL hd;have hlt:=bY hl;have w1:IntKind.i64.wrap ((i:Int)+1)=((i+1:Nat):Int):=aE (n:=i+1) om;obtain⟨_,_,⟨z,_⟩|⟨B,b1,b2,b3,rfl,gB⟩⟩:=id hr
  ·omega
  have hc:=pk.2 s.h (by rw[hh];exact i7 _) (fun x _=>by rw[hh]) a
  apply aC (rfl:ff=.loop ei);simp-implicitDefEqProofs only[ei,V,↓reduceIte,rA,reduceCtorEq,h0,h1,h7,h8,hh,hlt,gQ hl,gB,sr hd,bS,iz,ja];rw[hh] at hc;refine aW (by simp-implicitDefEqProofs only[V,hh];exact hc) ?_
  cases q:p a with
  |true=>
   simp-implicitDefEqProofs only[V,↓reduceIte,rA,reduceCtorEq,hf,pix,q];exact .inr ⟨0,rfl,rfl⟩
  |false=>
   simp-implicitDefEqProofs only[V,↓reduceIte,rA,h8,pix,q,w1];refine(sK pk hr hN r (i+1) _ (aH hd) om ?_ ?_ ?_ ?_ ?_ ?_).mono ?_
   all_goals try simp-implicitDefEqProofs only[V,↓reduceIte,rA,reduceCtorEq,h0,h1,h7,hf]
   rintro e s1 ⟨d1,e1,⟨hn,rfl⟩|⟨j,hj,rfl,t4⟩⟩
   ·exact⟨d1,e1,.inl ⟨by rw[hn];rfl,rfl⟩⟩
   ·exact⟨d1,e1,.inr ⟨j+1,by rw[hj];rfl,rfl,by rw[t4];exact congrArg (fun n:Nat=>some (AV.val (.int .i64 (n:Int)))) om⟩⟩
theorem tX{g:Nat}{b:List AV}{p:ByteArray→Bool}{h:AH}{W:List Nat}(pk:Pick g b p h W){lo:Nat}{v:AV}{l:List ByteArray}(hr:RowC h lo l.length 1 v (l.flatMap strA))(hN:l.length<2^60):RunCall E1 (.f 70) [v,.fn (.func g) [] b] h (vI (pixI p l)) h:=by
 obtain⟨q,o,r0,hb⟩:=pk.1;obtain⟨v',h',hrun,rfl,rfl⟩:=dU (g:=70) (l:=[v,.fn (.func g) [] b]) (h:=h) (fun v' h'=>v'=vI (pixI p l)∧h'=h) kr zp (fun h=>ah (ae (by rw[hb];exact dI))) fun s hs hh hd hrd=>by
  have h0:=hs 0 _ rfl;have h1:=hs 1 _ rfl;simp-implicitDefEqProofs only[uS,f70,V,↓reduceIte,reduceCtorEq,h0,hr.len];refine(sK pk hr hN l 0 _ rfl (ir _) ?_ ?_ ?_ ?_ ?_ ?_).mono ?_
  all_goals try simp-implicitDefEqProofs only[V,↓reduceIte,rA,reduceCtorEq,h0,h1,hd,hh]
  all_goals try rfl
  rintro e s1 ⟨d1,e1,⟨hn,rfl⟩|⟨j,hj,rfl,t4⟩⟩
  ·exact U61
  ·exact U62
 exact hrun
theorem qr{p:ByteArray→Bool}:∀{l:List ByteArray},pix p l=none→l.filter (fun x=> !p x)=l
 | [],_=>rfl
 |a::r,h=>by
  rw[pix] at h;cases q:p a with
  |true=>rw[q] at h;cases h
  |false=>
   rw[q] at h;simp only[cond_false,Option.map_eq_none_iff] at h;simp only[Ay,q,A5,if_true,qr h]
theorem qq{p:ByteArray→Bool}:∀{l:List ByteArray} {i:Nat},pix p l=some i→i<l.length∧(l.take (i+1)).filter (fun x=> !p x)=l.take i
 | [],i,h=>by simp[pix] at h
 |a::r,i,h=>by
  rw[pix] at h;cases q:p a with
  |true=>
   rw[q] at h;simp only[cond_true,sI] at h;subst h;simp[q]
  |false=>
   rw[q] at h;simp only[cond_false,Option.map_eq_some_iff] at h;obtain⟨j,hj,rfl⟩:=h;obtain⟨h1,h2⟩:=qq hj;refine⟨by rw[im];omega,?_⟩
   rw[jm,Ay,q,h2];rfl
theorem jP{α:Type}{x:α}:∀{l:List α} {i:Nat},i<l.length→(l.set i x).take (i+1)=l.take i++[x]
 | [],i,h=>by simp at h
 |a::l,0,h=>by simp
 |a::l,i+1,h=>by
  have:=jP (x:=x) (l:=l) (i:=i) (by simpa using h)
  simp only[List.set_cons_succ,jm,ja,this]
theorem f8{l r:List ByteArray}{j:Nat}{a:ByteArray}(h:l.drop j=a::r):l.take (j+1)=l.take j++[a]:=by
 have hj:=aL h;rw[List.take_succ,show l[j]? =some a from by rw[←List.head?_drop,h];rfl]
 rfl
theorem jJ{g:Nat}{b:List AV}{p:ByteArray→Bool}{h:AH}{W:List Nat}(pk:Pick g b p h W){l:List ByteArray}{B:Nat}(hB:B<h.next)(hW:B∉W)(hN:l.length<2^60):∀(r:List ByteArray) (j i:Nat) (D:List ByteArray) (s:St),l.drop j=r→j≤l.length→i<j→D.length=l.length→D.drop j=l.drop j→D.take i=(l.take j).filter (fun x=> !p x)→s.h.next=h.next→(∀x,x≠B→s.h.get x=h.get x)→s.h.get B=some (.cells (D.flatMap strA) true)→
  s.eval (.t 0)=some (.own B 0 l.length 1 none)→s.eval (.t 1)=some (.fn (.func g) [] b)→s.eval (.t 5)=some (vI (i:Nat))→s.eval (.t 6)=some (vI (j:Nat))→s.defers=[]→
  Run E1 kh s fun e s'=>e=.exit 0∧s'.defers=[]∧s'.h.next=h.next∧(∀x,x≠B→s'.h.get x=h.get x)∧s'.eval (.t 0)=some (.own B 0 l.length 1 none)∧∃(i':Nat) (D':List ByteArray),i'<l.length∧s'.eval (.t 5)=some (vI (i':Nat))∧D'.length=l.length∧D'.take i'=l.filter (fun x=> !p x)∧s'.h.get B=some (.cells (D'.flatMap strA) true)
 | [],j,i,D,s,hd,hj,hij,hD1,hD2,hD3,hn,ho,gB,h0,h1,h5,h6,hf=>by
  have hl:=aK hd hj;subst hl;have hln:lenV (.own B 0 l.length 1 none)=some (vI (l.length:Nat)):=rfl;apply aC (rfl:kh=.loop gx);simp-implicitDefEqProofs only[gx,V,↓reduceIte,rA,reduceCtorEq,h0,h5,h6,hf,hln,ba,hn];rw[List.take_length] at hD3;exact⟨ho,i,D,hij,rfl,hD1,hD3,gB⟩
 |a::r,j,i,D,s,hd,hj,hij,hD1,hD2,hD3,hn,ho,gB,h0,h1,h5,h6,hf=>by
  have hl:=aL hd;have hlt:=bY hl;have hDd:D.drop j=a::r:=by rw[hD2,hd]
  have w1:IntKind.i64.wrap ((j:Int)+1)=((j+1:Nat):Int):=aE (n:=j+1) om;have w2:IntKind.i64.wrap ((i:Int)+1)=((i+1:Nat):Int):=aE (n:=i+1) om;have hln:lenV (.own B 0 l.length 1 none)=some (vI (l.length:Nat)):=rfl;have hc:=pk.2 s.h (by rw[hn];exact i7 _) (fun x hx=>ho x fun e=>hW (e▸hx)) a
  apply aC (rfl:kh=.loop gx);simp-implicitDefEqProofs only[gx,V,↓reduceIte,rA,reduceCtorEq,h0,h1,h6,hln,hlt,gQ hl,gB,sr hDd,bS,iz,ja];refine aW (by simp-implicitDefEqProofs only[V];exact hc) ?_
  cases q:p a with
  |true=>
   simp-implicitDefEqProofs only[V,↓reduceIte,rA,h6,w1];refine(jJ pk hB hW hN r (j+1) i D _ (aH hd) om om hD1 ?_ ?_ ?_ ?_ ?_ ?_ ?_ ?_ ?_ ?_)
   ·rw[←Bz,hD2,Bz]
   ·rw[f8 hd,Cj,←hD3];simp only[Ay,q,Bool.not_true,Bool.false_eq_true,if_false,Bs,j6]
   ·exact U89
   ·intro x hx;simp-implicitDefEqProofs only[V,ho x hx]
   ·exact U63
   all_goals simp-implicitDefEqProofs only[V,↓reduceIte,rA,reduceCtorEq,h0,h1,h5,hf]
  |false=>
   simp-implicitDefEqProofs only[V,↓reduceIte,rA,reduceCtorEq,WF,h0,h5,h6,w1,w2,gQ (show i<l.length by omega),gB,we (show i<D.length by omega) gB]
   refine(jJ pk hB hW hN r (j+1) (i+1) (D.set i a) _ (aH hd) om om (by rw[List.length_set];exact hD1) ?_ ?_ ?_ ?_ ?_ ?_ ?_ ?_ ?_ ?_)
   ·rw[List.drop_set_of_lt om,←Bz,hD2,Bz]
   ·rw[f8 hd,Cj,←hD3,jP om];simp only[Ay,q,A5,if_true,Bs]
   ·exact U89
   ·intro x hx;simp-implicitDefEqProofs only[V];rw[if_neg hx,ho x hx]
   ·exact U36
   all_goals simp-implicitDefEqProofs only[V,↓reduceIte,rA,reduceCtorEq,h0,h1,hf]
def RowD(h:AH)(lo:Nat)(v:AV)(l:List ByteArray):Prop:=(v=.val (.slice none 0 0)∧l=[])∨∃B D,lo≤B∧B<h.next∧v=.own B 0 l.length 1 none∧h.get B=some (.cells ((l++D).flatMap strA) true)
theorem RowD.of{h:AH}{lo:Nat}{v:AV}{l:List ByteArray}(r:RowC h lo l.length 1 v (l.flatMap strA)):RowD h lo v l:=by
 obtain⟨_,_,⟨z,rfl⟩|⟨B,b1,b2,b3,rfl,gB⟩⟩:=r
 ·exact .inl ⟨rfl,Ai z⟩
 ·exact .inr ⟨B,[],b1,b2,rfl,by rw[j6];exact gB⟩
def rowD(v:AV)(l:List ByteArray):AV:=match v with
 |.own _ _ _ _ _=>.imm (l.flatMap strA) l.length none
 |_=>.val (.slice none 0 0)
theorem Fl{h:AH}{lo:Nat}{v:AV}{l:List ByteArray}(r:RowD h lo v l):∃nl cap,rowD v l=Vl.A strA ⟨l,nl,cap⟩:=by
 rcases r with⟨rfl,rfl⟩|⟨B,D,_,_,rfl,_⟩
 ·exact⟨nilK,none,rfl⟩
 ·exact⟨none,none,rfl⟩
def nmD(l l':List ByteArray):AV:=Vl.A strA ⟨l',bif l.isEmpty then nilK else none,none⟩
theorem nO{h:AH}{lo:Nat}{v:AV}{l:List ByteArray}(r:RowD h lo v l):toTree (AM.freeze deepest v h) deepest v=some (rowD v l):=by
 rcases r with⟨rfl,rfl⟩|⟨B,D,_,_,rfl,gB⟩
 ·rfl
 ·have hlen:((l++D).flatMap strA).length=(l++D).length:=bU _;have htk:(((l++D).flatMap strA).drop 0).take (l.length*1)=l.flatMap strA:=by
   rw[List.drop_zero,A8,jt,←bU l,List.take_left]
  have e1:AM.freeze deepest (.own B 0 l.length 1 none) h=h.put B (some (.cells ((l++D).flatMap strA) false)):=by
   show(match h.get B with
    |some (.cells cs _)=>((cs.drop 0).take (l.length*1)).foldl (fun h c=>AM.freeze 999999999 c h) (h.put B (some (.cells cs false)))
    |_=>h)=_
   rw[gB];simp only;rw[htk,bv (bR l)]
  rw[e1];show(match (h.put B (some (.cells ((l++D).flatMap strA) false))).get B with
   |some (.cells cs false)=>bif i6 (0+l.length*1) cs.length then(((cs.drop 0).take (l.length*1)).mapM (toTree _ 999999999)).map fun x=>AV.imm x l.length none else none
   |_=>none)=_
  rw[bL];have hb:i6 (0+l.length*1) ((l++D).flatMap strA).length=true:=iu.mpr (by rw[hlen,io];omega)
  simp only[hb,cond_true,htk];rw[dO (bR l)];rfl
theorem ot{E:Env}{s:St}{K:St→Prop}{r:List AOper}{x:Opd}{z:List AV}{b off n es:Nat}{cap:Option Nat}{cs:List AV}(hx:s.eval x=some (.own b off n es cap))(hn:0<n)(g:s.h.get b=some (.cells cs true))(hz:z.length=es)(hl:off+n*es≤cs.length)
  (k:AM.wpOps E r (s.toH (s.h.put b (some (.cells (putAt cs off (jz n z).flatten) true)))) K):AM.wpOps E (⟨none,none,.clearS es z x⟩::r) s K:=by
 rw[bz (o:=some (undefA,s.h.put b (some (.cells (putAt cs off (jz n z).flatten) true))))]
 ·exact k
 ·have h0:i5 n 0=false:=by
   cases hk:i5 n 0 with
   |false=>rfl
   |true=>have:=ij hk;omega
  have h1:i5 z.length es=true:=by rw[hz];exact je _
  have h2:i6 (off+n*es) cs.length=true:=iu.mpr hl;simp only[runOp,hx,h0,cond_false,g,je,h1,h2,ip,cond_true];rfl
 ·exact fun _ _=>rfl
theorem lF{B n i:Nat}(h0:0<i)(hi:i≤n):sliceA' 1 (.own B 0 n 1 none) (some i) none none=some (.own B i (n-i) 1 none):=by
 have h1:i6 i n=true:=iu.mpr hi;have h2:i6 n n=true:=iu.mpr (i7 _);have h3:i5 i 0=false:=by
  cases hk:i5 i 0 with
  |false=>rfl
  |true=>have:=ij hk;omega
 have e1:sliceB n n (some i) none none=some (i,n,n):=by simp only[sliceB,jr,Ac,h1,h2,Bx,A2,ip,cond_true]
 simp only[sliceA',e1,h1,h2,h3,je,cond_true,cond_false,jt,Nat.zero_add]
theorem wh{B n:Nat}:sliceA' 1 (.own B 0 n 1 none) (some 0) none none=some (.own B 0 n 1 none):=by
 have h2:i6 n n=true:=iu.mpr (i7 _);have h1:i6 0 n=true:=iu.mpr (ir _);have e1:sliceB n n (some 0) none none=some (0,n,n):=by simp only[sliceB,jr,Ac,h1,h2,Bx,A2,ip,cond_true]
 simp only[sliceA',e1,h2,je,cond_true]
theorem lD{B n i:Nat}(hi:i≤n):sliceA' 1 (.own B 0 n 1 none) none (some i) none=some (.own B 0 i 1 none):=by
 have h1:i6 i n=true:=iu.mpr hi;have h2:i6 n n=true:=iu.mpr (i7 _);have h3:i6 0 i=true:=iu.mpr (ir _);have e1:sliceB n n none (some i) none=some (0,i,n):=by simp only[sliceB,jr,Ac,h1,h2,h3,Bx,A2,ip,cond_true]
 simp only[sliceA',e1,h2,je,cond_true]
theorem lW{D:List ByteArray}{i:Nat}(hi:i≤D.length):putAt (D.flatMap strA) i (jz (D.length-i) [AV.val (.string ⟨#[]⟩)]).flatten=(D.take i++jz (D.length-i) (⟨#[]⟩:ByteArray)).flatMap strA:=by
 have h1:(D.flatMap strA).take i=(D.take i).flatMap strA:=by
  have:D.flatMap strA=(D.take i).flatMap strA++(D.drop i).flatMap strA:=by rw[←A8,List.take_append_drop]
  rw[this,List.take_append_of_le_length (by rw[bU,C9];omega),List.take_of_length_le (by rw[bU,C9];omega)]
 have h2:∀n,(jz n [AV.val (.string ⟨#[]⟩)]).flatten=(jz n (⟨#[]⟩:ByteArray)).flatMap strA:=fun n=>by
  induction n with
  |zero=>rfl
  |succ n ih=>rw[Cb,List.flatten_cons,ih,Cb,Ad];rfl
 simp only[putAt];rw[h1,h2,A8];have h3:(D.flatMap strA).drop (i+((jz (D.length-i) (⟨#[]⟩:ByteArray)).flatMap strA).length)=[]:=List.drop_eq_nil_of_le (by rw[bU,bU,List.length_replicate];omega)
 rw[h3,j6]
theorem kO{g:Nat}{b:List AV}{p:ByteArray→Bool}{h:AH}{W:List Nat}(pk:Pick g b p h W){lo:Nat}{v:AV}{l:List ByteArray}(hr:RowC h lo l.length 1 v (l.flatMap strA))(hW:∀x∈ids v,x∉W)(hN:l.length<2^60):
  ∃v' h',RunCall E1 (.f 109) [v,.fn (.func g) [] b] h v' h'∧RowD h' lo v' (l.filter fun x=> !p x)∧rowD v' (l.filter fun x=> !p x)=nmD l (l.filter fun x=> !p x)∧h'.next=h.next∧(∀x,x∉ids v→h'.get x=h.get x):=by
 obtain⟨v',h',hrun,hP⟩:=d6 (g:=109) (l:=[v,.fn (.func g) [] b]) (h:=h) (fun v' h'=>RowD h' lo v' (l.filter fun x=> !p x)∧rowD v' (l.filter fun x=> !p x)=nmD l (l.filter fun x=> !p x)∧h'.next=h.next∧(∀x,x∉ids v→h'.get x=h.get x)) kr Hp fun s hs hh hd hrd=>by
  have h0:=hs 0 _ rfl;have h1:=hs 1 _ rfl;have hc:=tX pk hr hN;simp-implicitDefEqProofs only[wL,f109,V,↓reduceIte,rA,reduceCtorEq,h0,h1];refine aW (by simp-implicitDefEqProofs only[V,hh];exact hc) ?_
  rw[pixI];cases hx:pix p l with
  |none=>
   have e1:decide ((-1:Int)= -1)=true:=rfl;simp-implicitDefEqProofs only[V,↓reduceIte,reduceCtorEq,h0,hd];refine⟨_,rfl,?_⟩;rw[qr hx];refine⟨RowD.of hr,?_,fun _ _=>trivial⟩;obtain⟨_,_,⟨z,rfl⟩|⟨B,b1,b2,b3,rfl,gB⟩⟩:=id hr
   ·have:l=[]:=Ai z;subst this;rfl
   ·cases l with
    |nil=>exact absurd b3 (Nat.lt_irrefl _)
    |cons a r=>rfl
  |some i=>
   obtain⟨x1,x2⟩:=qq hx;have e1:decide (((i:Nat):Int)= -1)=false:=decide_eq_false om;have w2:IntKind.i64.wrap ((i:Int)+1)=((i+1:Nat):Int):=aE (n:=i+1) om;obtain⟨_,_,⟨z,_⟩|⟨B,b1,b2,b3,rfl,gB⟩⟩:=id hr
   ·omega
   have hne:l.isEmpty=false:=by
    cases l with
    |nil=>exact absurd b3 (Nat.lt_irrefl _)
    |cons a r=>rfl
   have hnm:∀B n,rowD (.own B 0 n 1 none) (l.filter fun x=> !p x)=nmD l (l.filter fun x=> !p x):=fun B n=>by
    simp only[rowD,nmD,hne,cond_false];rfl
   simp-implicitDefEqProofs only[V,↓reduceIte,rA,reduceCtorEq,w2];refine(jJ pk b2 (hW B (by simp[ids])) hN (l.drop (i+1)) (i+1) i l _ rfl om om rfl rfl x2.symm ?_ ?_ ?_ ?_ ?_ ?_ ?_ ?_).mono ?_
   ·exact U36
   ·intro x _;exact U36
   ·exact U63
   ·exact U37
   ·exact U38
   ·exact U36
   ·exact U36
   ·exact U41
   rintro e s1 ⟨rfl,d1,n1,o1,t0,i',D',hi',t5,hD1,hD2,gB1⟩;have hlf:(l.filter fun x=> !p x).length=i':=by rw[←hD2,C9];omega
   have fin:∀H:AH,H=s1.h.put B (some (.cells ((D'.take i'++jz (D'.length-i') (⟨#[]⟩:ByteArray)).flatMap strA) true))→RowD H lo (.own B 0 i' 1 none) (l.filter fun x=> !p x)∧H.next=h.next∧(∀x,x∉ids (.own B 0 l.length 1 none)→H.get x=h.get x):=fun H e2=>by
    rw[e2];refine⟨.inr ⟨B,jz (D'.length-i') ⟨#[]⟩,b1,by show B<s1.h.next;omega,by rw[hlf],by rw[bL,hD2]⟩,n1,fun x hx=>?_⟩
    have hx:x≠B:=fun e=>hx (by rw[e];simp[ids])
    rw[aP hx,o1 x hx]
   rcases Nat.eq_zero_or_pos i' with z|z
   ·subst z;simp-implicitDefEqProofs only[V,↓reduceIte,rA,WB,t0,t5,wh];refine ot (cap:=none) (b:=B) (off:=0) (n:=l.length) (cs:=D'.flatMap strA) ?_ om ?_ rfl (by rw[bU];omega) ?_
    ·exact U36
    ·exact U90
    simp-implicitDefEqProofs only[V,↓reduceIte,rA,reduceCtorEq,t0,t5,lD (show 0≤l.length by omega),d1]
    refine⟨_,rfl,?_⟩;have:=lW (D:=D') (i:=0) (ir _);rw[Nat.sub_zero] at this;obtain⟨a1,a2,a3⟩:=fin _ (by rw[Nat.sub_zero,←this])
    rw[hD1] at a1 a2 a3;exact⟨a1,hnm _ _,a2,fun x hx=>by have:=a3 x hx;rw[AH.get_put] at this;exact this⟩
   ·simp-implicitDefEqProofs only[V,↓reduceIte,rA,WB,t0,t5,lF z (show i'≤l.length by omega)]
    refine ot (cap:=none) (b:=B) (off:=i') (n:=l.length-i') (cs:=D'.flatMap strA) ?_ om ?_ rfl (by rw[bU];omega) ?_
    ·exact U36
    ·exact U90
    simp-implicitDefEqProofs only[V,↓reduceIte,rA,reduceCtorEq,t0,t5,lD (show i'≤l.length by omega),d1]
    refine⟨_,rfl,?_⟩;have:=lW (D:=D') (i:=i') om;obtain⟨a1,a2,a3⟩:=fin _ (by rw[←this])
    rw[hD1] at a1 a2 a3;exact⟨a1,hnm _ _,a2,fun x hx=>by have:=a3 x hx;rw[AH.get_put] at this;exact this⟩
 exact⟨v',h',hrun,hP⟩
def KOk [KR]:Prop:=∀g l r,known3 g=true→KR.k g l=some r→KFact i3 E0.globs g l r
theorem qE(hk:KOk):EnvOk i3 E1:=⟨rfl,⟨fun t name g h=>fm.meth.m t name g (show findM t name E0.mth=some g from h),fun g x w h=>fm.meth.x1 g x w (show E0.noEscF=some g from h),fun g e n w h=>fm.meth.x2 g e n w (show E0.mkNZF=some (g,e) from h)⟩,fun g n h=>fm.idle g n (show E0.idle.get g=some n from h),fun g l r h=>by
 have h:(bif known3 g then KR.k g l else none)=some r:=h;cases q:known3 g with
 |false=>rw[q] at h;cases h
 |true=>rw[q] at h;exact hk g l r q h,fm.mixed⟩
def Io:ACode:=(.region [⟨some 10,none,.nextMap (.t 9)⟩,⟨some 11,none,.extract 0 (.t 10)⟩])
def ze:ACode:=(.seq (.cond (.t 11) .skip (.exit 0))
 (.block 1 (.seq (.region [⟨some 12,none,.curMap (.t 9)⟩,⟨some 13,none,.extract 0 (.t 12)⟩,⟨some 4,none,.mv (.t 13)⟩])
 (.region [⟨some 14,none,.mv (.t 3)⟩,⟨some 15,none,.mv (.t 4)⟩,⟨some 16,none,.buildSlice 1 1 [vS ⟨#[]⟩] [(0,1,(.t 15))]⟩,⟨some 17,none,.append 1 16 (.t 14) (.t 16)⟩,⟨some 3,none,.mv (.t 17)⟩]))))
theorem oE:pX=.seq Io ze:=rfl
theorem sG{lo B:Nat}{z:ByteArray}{acc:List ByteArray}{v:AV}{s:St}(hA:acc.length<2^28)(h63:s.eval (.t 9)=some (.it B))(h65:s.eval (.t 11)=some (vB true))(hc:CurIs s.h B (.string z) (vB true))(hr:RowC s.h lo acc.length 1 v (acc.flatMap strA))(hlo:lo≤s.h.next)(h12:s.eval (.t 3)=some v)(hf:s.defers=[]):
  Run E1 ze s fun e s'=>e=.normal∧s'.defers=[]∧s'.eval (.t 9)=some (.it B)∧lo≤s'.h.next∧(∀y,y<lo→s'.h.get y=s.h.get y)∧∃v',s'.eval (.t 3)=some v'∧RowC s'.h lo (acc++[z]).length 1 v' ((acc++[z]).flatMap strA):=by
 have hb:(acc++[z]).length=acc.length+1:=by rw[io];rfl
 apply ag;simp-implicitDefEqProofs only[ze,V,h65];refine Nl (k:=.string z) (u:=vB true) (b:=B) ?_ ?_ rfl ?_
 ·exact h63
 ·exact hc
 simp-implicitDefEqProofs only[V,↓reduceIte,rA,WF,h12];refine cO (k:=acc.length) (m:=1) (lo:=lo) (v:=v) (x:=.own s.h.next 0 1 1 (some 1)) (cs:=acc.flatMap strA) (new:=[vS z]) ?_ ?_ ?_ rfl ?_ (aS om de) ?_ ?_ ?_
 ·exact U33
 ·exact U34
 ·refine aq (rw':=true) ?_ rfl;exact U36
 ·exact fun c hc=>by rw[ig.1 hc];exact Leaf.val _
 ·exact U91
 ·exact U36
 intro v1 h1 r1 n1 o1;simp-implicitDefEqProofs only[V] at n1 o1 r1;simp-implicitDefEqProofs only[V,↓reduceIte,rA,h63,hf];refine⟨om,fun y hy=>?_,v1,rfl,?_⟩
 ·rw[o1 y om (fun q=>by have:=(hr.ids y q).1;omega),if_neg om]
 ·exact U64
theorem zh{B:Nat}{s:St}(h63:s.eval (.t 9)=some (.it B))(hc:AtEnd s.h B)(hf:s.defers=[]):
  Run E1 pX s fun e s'=>e=.exit 0∧s'.defers=[]∧s'.h=s.h∧s'.eval (.t 3)=s.eval (.t 3):=by
 apply ag;simp-implicitDefEqProofs only[pX,V];refine tt (b:=B) h63 hc ?_
 simp-implicitDefEqProofs only[V,↓reduceIte,rA,hf]
def Got(F:List ByteArray)(lo B:Nat)(h0:AH)(e:AM.Ex)(s':St):Prop:=
 e=.exit 0∧s'.defers=[]∧lo≤s'.h.next∧(∀y,y<B→s'.h.get y=h0.get y)∧∃(acc:List ByteArray) (v:AV),s'.eval (.t 3)=some v∧RowC s'.h lo acc.length 1 v (acc.flatMap strA)∧acc.Nodup∧∀z,z∈acc↔z∈F
theorem l5{F acc:List ByteArray}{lo B:Nat}{v:AV}{s:St}{h0:AH}(hfr:∀y,y<B→s.h.get y=h0.get y)(h63:s.eval (.t 9)=some (.it B))(hc:AtEnd s.h B)(hf:s.defers=[])(hlo:lo≤s.h.next)(h12:s.eval (.t 3)=some v)(hr:RowC s.h lo acc.length 1 v (acc.flatMap strA))(hn:acc.Nodup)(hm:∀z,z∈acc↔z∈F):
  DW i3 E1 fb s (Got F lo B h0):=by
 refine DW.loop (K1:=fun e s'=>Got F lo B h0 e s') (DW.run rfl ((zh h63 hc hf).mono fun e s' ⟨e1,d1,o1,t1⟩=>⟨e1,d1,by rw[o1];exact hlo,fun y hy=>by rw[o1,hfr y hy],acc,v,by rw[t1,h12],by rw[o1];exact hr,hn,hm⟩)) (fun s1 h=>by cases h.1) fun e s1 _ h=>h
theorem zj{h0:AH}{F:List ByteArray}(hF:F.Nodup)(hF2:1≤F.length)(hFl:F.length<2^28){lo B:Nat}(hB:B<lo){m0:Nat}(h1B:m0<B):∀(k:Nat) (seen:List Nat) (acc:List ByteArray) (s:St) (v:AV),k+seen.length=F.length→seen.Nodup→(∀i∈seen,i<F.length)→acc.length=seen.length→acc.Nodup→(∀z,z∈acc↔∃i∈seen,F[i]? =some z)→
  s.h.get m0=some (mapB F)→s.h.get B=some (.mitr m0 F.length seen)→RowC s.h lo acc.length 1 v (acc.flatMap strA)→lo≤s.h.next→s.eval (.t 9)=some (.it B)→s.eval (.t 3)=some v→s.defers=[]→(∀y,y<B→s.h.get y=h0.get y)→DW i3 E1 fb s (Got F lo B h0):=by
 intro k
 induction k with
 |zero=>
  intro seen acc s v hk hs hsb hal han ham g1 gB hr hlo h63 h12 hf hfr;have hall:∀i,i<F.length→i∈seen:=fun i hi=>by
   rcases Classical.em (i∈seen) with q|q
   ·exact q
   ·have:=bD (a:=i::seen) (b:=jg F.length) (Ax.2 ⟨q,hs⟩) fun j hj=>by
     rcases i8.1 hj with e|e
     ·rw[e];exact B8.2 hi
     ·exact B8.2 (hsb j e)
    rw[im,List.length_range] at this;omega
  refine l5 hfr h63 (.inr (.inr ⟨m0,F.length,seen,_,gB,g1,by rw[ji],hF2,mV hall⟩)) hf hlo h12 hr han fun z=>?_
  rw[ham z];constructor
  ·rintro⟨i,_,hi⟩;exact List.mem_of_getElem? hi
  ·intro hz;obtain⟨i,hi⟩:=List.getElem?_of_mem hz;exact⟨i,hall i (List.getElem?_eq_some_iff.1 hi).1,hi⟩
 |succ k ih=>
  intro seen acc s v hk hs hsb hal han ham g1 gB hr hlo h63 h12 hf hfr;have hex:∃i,i<F.length∧i∉seen:=by
   refine Classical.byContradiction fun h=>?_
   have:=bD (a:=jg F.length) (b:=seen) List.nodup_range fun j hj=>by
    refine Classical.byContradiction fun q=>h ⟨j,B8.1 hj,q⟩
   rw[List.length_range] at this;omega
  refine DW.loop (K1:=fun e s2=>e=.normal∧DW i3 E1 fb s2 (Got F lo B h0)) ?_ (fun s1 h=>h.2) (fun e s1 hn h=>by rw[h.1] at hn;cases hn)
  rw[oE];refine DW.seq (K1:=fun e s1=>e=.normal∧∃i z,i<F.length∧i∉seen∧F[i]? =some z∧s1.h=s.h.put B (some (.mitr m0 F.length (seen++[i])))∧s1.eval (.t 9)=some (.it B)∧s1.eval (.t 11)=some (vB true)∧s1.eval (.t 3)=some v∧s1.defers=[]) ?_ ?_ (fun e s1 hn h=>by rw[h.1] at hn;cases hn)
  ·refine DW.region ?_
   refine xY (b:=B) (m:=m0) (n:=F.length) (seen:=seen) h63 gB g1 (by rw[ji]) hex fun i q u hi hni he=>?_
   rw[Ag] at he;cases hz:F[i]? with
   |none=>rw[hz] at he;cases he
   |some z=>
    rw[hz,Option.map_some,sI,pI] at he;obtain⟨rfl,rfl⟩:=he;refine⟨rfl,ki ?_⟩;simp-implicitDefEqProofs only[V,↓reduceIte,rA];exact⟨i,z,hi,hni,hz,rfl,h63,h12,hf⟩
  ·rintro s1 ⟨_,i,z,hi,hni,hz,eh,t63,t65,t12,d1⟩;have hzn:z∉acc:=fun q=>by
    obtain⟨j,hj,hjz⟩:=(ham z).1 q;have:i=j:=(List.getElem?_inj hi hF).1 (by rw[hz,hjz])
    exact hni (by rw[this];exact hj)
   have nx:(s.h.put B (some (Blk.mitr m0 F.length (seen++[i])))).next=s.h.next:=rfl;refine DW.run rfl ((sG (lo:=lo) (B:=B) (z:=z) (acc:=acc) (v:=v) ?_ t63 t65 ?_ ?_ ?_ t12 d1).mono ?_)
   ·have:=bD (a:=seen) (b:=jg F.length) hs fun j hj=>B8.2 (hsb j hj);rw[List.length_range] at this;omega
   ·rw[eh];refine .inr ⟨m0,F.length,seen,F.map fun b=>(.string b,vB true),i,bL,by rw[aP om];exact g1,by rw[ji],by rw[Ag,hz];rfl⟩
   ·rw[eh];exact hr.to (by rw[nx];exact i7 _) fun x x1 _=>by rw[aP om]
   ·rw[eh,nx];exact hlo
   rintro e s2 ⟨rfl,d2,u63,n2,o2,v2,u12,r2⟩;refine⟨rfl,ih (seen++[i]) (acc++[z]) s2 v2 (by rw[io];show k+(seen.length+1)=_;omega) ?_ ?_ (by rw[io,io,hal];rfl) ?_ ?_ ?_ ?_ r2 n2 u63 u12 d2 ?_⟩
   ·refine C1.2 ⟨hs,Ax.2 ⟨Aw,Ao⟩,fun a ha b hb e=>?_⟩;rw[ig.1 hb] at e;subst e;exact hni ha
   ·intro j hj;rcases jc.1 hj with h|h
    ·exact hsb j h
    ·rw[ig.1 h];exact hi
   ·refine C1.2 ⟨han,Ax.2 ⟨Aw,Ao⟩,fun a ha b hb e=>?_⟩;rw[ig.1 hb] at e;subst e;exact hzn ha
   ·intro y;rw[jc,ig,ham y];constructor
    ·rintro(⟨j,hj,hjy⟩|rfl)
     ·exact⟨j,List.mem_append_left _ hj,hjy⟩
     ·exact⟨i,List.mem_append_right _ (ig.2 rfl),hz⟩
    ·rintro⟨j,hj,hjy⟩;rcases jc.1 hj with h|h
     ·exact .inl ⟨j,h,hjy⟩
     ·rw[ig.1 h,hz] at hjy;exact .inr (Option.some.inj hjy).symm
   ·rw[o2 m0 om,eh,aP om,g1]
   ·rw[o2 B hB,eh,bL]
   ·intro y hy;rw[o2 y om,eh,aP om,hfr y hy]
theorem He{h0:AH}{f:ByteArray}{lo B:Nat}(hB:B<lo){m0:Nat}(h1B:m0<B){s:St}(g1:s.h.get m0=some (mapB [f]))(gB:s.h.get B=some (.mit1 m0 false))(hlo:lo≤s.h.next)(h63:s.eval (.t 9)=some (.it B))(h12:s.eval (.t 3)=some (.val (.slice none 0 0)))(hf:s.defers=[])(hfr:∀y,y<B→s.h.get y=h0.get y):DW i3 E1 fb s (Got [f] lo B h0):=by
 refine DW.loop (K1:=fun e s2=>e=.normal∧DW i3 E1 fb s2 (Got [f] lo B h0)) ?_ (fun s1 h=>h.2) (fun e s1 hn h=>by rw[h.1] at hn;cases hn)
 rw[oE];refine cK rfl (ag _ _ _ ?_);simp-implicitDefEqProofs only[Io,V];refine yr (b:=B) (m:=m0) (k:=.string f) (u:=vB true) h63 gB g1 rfl ?_
 simp-implicitDefEqProofs only[V,↓reduceIte];have nx:(s.h.put B (some (Blk.mit1 m0 true))).next=s.h.next:=rfl;refine DW.run rfl ((sG (lo:=lo) (B:=B) (z:=f) (acc:=[]) (v:=.val (.slice none 0 0)) de ?_ ?_ ?_ RowC.nil ?_ ?_ ?_).mono ?_)
 ·simp-implicitDefEqProofs only[V,↓reduceIte,rA,h63]
 ·exact U36
 ·simp-implicitDefEqProofs only[V];exact .inl ⟨m0,bL,by rw[aP om];exact g1⟩
 ·simp-implicitDefEqProofs only[V];exact hlo
 ·exact U91
 ·exact U39
 rintro e s2 ⟨rfl,d2,u63,n2,o2,v2,u12,r2⟩;simp-implicitDefEqProofs only[V] at o2;refine⟨rfl,l5 (fun y hy=>by rw[o2 y om,if_neg om,hfr y hy]) u63 (.inr (.inl ⟨m0,(.string f,vB true),?_,?_⟩)) d2 n2 u12 r2 (Ax.2 ⟨Aw,Ao⟩) fun z=>Iff.rfl⟩
 ·rw[o2 B hB,if_pos rfl]
 ·rw[o2 m0 om,if_neg om];exact g1
theorem kQ(l:List ByteArray):(l.map fun b=>b.data.toList).map strL8=l.flatMap strA:=by
 induction l with
 |nil=>rfl
 |cons a r ih=>
  rw[jd,jd,Ad,ih];rfl
theorem oi{acc L:List ByteArray}(hn:acc.Nodup)(hL:Srt L)(hm:∀z,z∈acc↔z∈L):(acc.map fun b=>b.data.toList).mergeSort (fun x y=>decide (x≤y))=L.map fun b=>b.data.toList:=by
 have hp:=List.mergeSort_perm (acc.map fun b:ByteArray=>b.data.toList) (fun x y=>decide (x≤y));have hs:=List.pairwise_mergeSort (le:=fun x y:List UInt8=>decide (x≤y)) (fun a b c h1 h2=>decide_eq_true (List.le_trans (of_decide_eq_true h1) (of_decide_eq_true h2))) (fun a b=>by
  rcases List.le_total a b with h|h
  ·simp[h]
  ·simp[h]) (acc.map fun b:ByteArray=>b.data.toList)
 have hmap:(acc.map fun b:ByteArray=>b.data.toList).Nodup:=Bv.map _ (fun a b h e=>h (rR e)) hn;have hnd:((acc.map fun b:ByteArray=>b.data.toList).mergeSort (fun x y=>decide (x≤y))).Nodup:=hp.nodup_iff.2 hmap;have hE:((acc.map fun b:ByteArray=>b.data.toList).mergeSort (fun x y=>decide (x≤y))).map (fun l=>(⟨l.toArray⟩:ByteArray))=L:=by
  refine oh _ _ ?_ hL fun z=>?_
  ·refine Bv.map (R:=fun a b:List UInt8=>a≤b∧a≠b) _ (fun a b h=>?_) ?_
   ·rcases vj (a:=⟨a.toArray⟩) (b:=⟨b.toArray⟩) h.1 with e|e
    ·exact e
    ·exact absurd (congrArg (fun x:ByteArray=>x.data.toList) e) h.2
   ·exact List.pairwise_and_iff.2 ⟨hs.imp fun h=>of_decide_eq_true h,hnd⟩
  ·rw[←hm z,A1];constructor
   ·rintro⟨l,hl,rfl⟩;obtain⟨b,hb,rfl⟩:=A1.1 (hp.mem_iff.1 hl);exact hb
   ·intro hz;exact⟨z.data.toList,hp.mem_iff.2 (A1.2 ⟨z,hz,rfl⟩),rfl⟩
 rw[←hE,List.map_map];exact(List.map_id' _).symm
theorem ol{acc L:List ByteArray}(hn:acc.Nodup)(hL:Srt L)(hm:∀z,z∈acc↔z∈L)(h0:0<acc.length)(h1:acc.length<2^28){h:AH}{b:Nat}(hb:h.get b=some (.cells (acc.flatMap strA) true)):
  CallFact i3 E1 114 [.own b 0 acc.length 1 none] h (.tup []) (h.put b (some (.cells (L.flatMap strA) true))):=by
 have:=wg (P:=i3) (E:=E1) (g:=114) (h:=h) (b:=b) (k:=acc.length) (cap:=none) (ss:=acc.map fun b=>b.data.toList) ⟨_,Tz.lays190.f190,kr,kr⟩ (fun blk off cap ss w hH hb hl=>Any.slices_Sort_string Tz.lays190 blk off cap ss w hH hb hl) (ji _) h0 om (by rw[kQ];exact hb)
 rw[oi hn hL hm,kQ] at this;exact this
theorem yo:KFact i3 E0.globs 114 [.val (.slice none 0 0)] (.tup []):=nT fm (n:=200) kr
theorem qU(h:AH):CallFact i3 E1 114 [.val (.slice none 0 0)] h (.tup []) h:=by
 refine KFact.flat (E:=E1) yo rfl fun S f vals hv=>?_
 simp only[RelL,Rel] at hv⊢
 exact hv
def SDone(h:AH)(L:List ByteArray)(r:AV)(h':AH):Prop:=RowC h' h.next L.length 1 r (L.flatMap strA)∧h.next≤h'.next∧∀x,x<h.next→h'.get x=h.get x
def SEnd(h:AH)(L:List ByteArray)(e:AM.Ex)(s1:St):Prop:=(e=.normal∨e=.ret)∧∃r h',leaveA E1 uP s1=some (r,h')∧SDone h L r h'
def Ip:ACode:=(.seq (.region [⟨some 18,none,.mv (.t 3)⟩,⟨some 19,none,.call 114 [.t 18]⟩])
 (.seq (.region [⟨some 20,none,.mv (.t 3)⟩,⟨some 2,none,.mv (.t 20)⟩])
 .ret))
def Iq:ACode:=(.seq (.region [⟨some 5,none,.mv (.t 0)⟩,⟨some 6,none,.nilck (.t 5)⟩,⟨some 7,none,.fieldAddr 0 (.t 6)⟩,⟨some 8,none,.load none (.t 7)⟩,⟨some 9,none,.rangeMap (.t 8)⟩])
 (.block 0 fb))
theorem Lw:f77=.seq (.region [⟨some 2,none,.mv (.c (.val (.slice none 0 0)))⟩]) (.seq (.region [⟨some 3,none,.mv (.c (.val (.slice none 0 0)))⟩]) (.seq Iq Ip)):=rfl
theorem zf{h:AH}{acc L:List ByteArray}(hn:acc.Nodup)(hL:Srt L)(hm:∀z,z∈acc↔z∈L)(h1:acc.length<2^28){s:St}{v:AV}{lo:Nat}(hlo:h.next≤lo)(h3:s.eval (.t 3)=some v)(hr:RowC s.h lo acc.length 1 v (acc.flatMap strA))(hx:h.next≤s.h.next)(ho:∀y,y<h.next→s.h.get y=h.get y)(hf:s.defers=[]):
  DW i3 E1 Ip s (SEnd h L):=by
 have hlen:L.length=acc.length:=by
  have a1:=bD hn fun z hz=>(hm z).1 hz;have a2:=bD hL.nodup fun z hz=>(hm z).2 hz;omega
 have fin:∀s1:St,s1.eval (.t 3)=some v→s1.defers=[]→RowC s1.h lo L.length 1 v (L.flatMap strA)→h.next≤s1.h.next→(∀y,y<h.next→s1.h.get y=h.get y)→DW i3 E1 (.seq (.region [⟨some 20,none,.mv (.t 3)⟩,⟨some 2,none,.mv (.t 20)⟩]) .ret) s1 (SEnd h L):=fun s1 e3 d1 r1 n1 o1=>by
  refine DW.run rfl (ag _ _ _ ?_);simp-implicitDefEqProofs only[V,↓reduceIte,e3];refine⟨.inr rfl,v,s1.h,?_,r1.low hlo,n1,o1⟩;have e2:((s1.set 20 v).set 2 v).eval (.t 2)=some v:=by simp-implicitDefEqProofs only[V,↓reduceIte]
  simp-implicitDefEqProofs only[leaveA,uP,d1,runDefers,V];show(match consO (((s1.set 20 v).set 2 v).eval (.t 2)) (some []) with
   |some l=>some (oneOrTup l,s1.h)
   |none=>none)=some (v,s1.h)
  rw[e2];rfl
 obtain⟨q1,q2,q3⟩:=id hr;rcases q3 with⟨z,rfl⟩|⟨b,b1,b2,b3,rfl,b5⟩
 ·have e:acc=[]:=Ai z;subst e;have hLe:L=[]:=Ai (by rw[hlen];rfl)
  subst hLe;refine DW.seq (K1:=fun e s1=>e=.normal∧s1.eval (.t 3)=some (.val (.slice none 0 0))∧s1.defers=[]∧s1.h=s.h) (DW.region ?_) (fun s1 k=>fin s1 k.2.1 k.2.2.1 RowC.nil (by rw[k.2.2.2];exact hx) (fun y hy=>by rw[k.2.2.2,ho y hy])) (fun e s1 hne k=>by rw[k.1] at hne;cases hne)
  refine bh [⟨some 18,none,.mv (.t 3)⟩] _ s ?_
  simp-implicitDefEqProofs only[V,h3];refine oP (l:=[.val (.slice none 0 0)]) (v:=.tup []) (h':=s.h) ?_ (qU s.h) ?_
  ·exact U36
  ·exact U65
 ·refine DW.seq (K1:=fun e s1=>e=.normal∧s1.eval (.t 3)=some (.own b 0 acc.length 1 none)∧s1.defers=[]∧s1.h=s.h.put b (some (.cells (L.flatMap strA) true))) (DW.region ?_) (fun s1 k=>fin s1 k.2.1 k.2.2.1 ?_ (by rw[k.2.2.2];exact hx) (fun y hy=>by rw[k.2.2.2,aP om,ho y hy])) (fun e s1 hne k=>by rw[k.1] at hne;cases hne)
  ·refine bh [⟨some 18,none,.mv (.t 3)⟩] _ s ?_
   simp-implicitDefEqProofs only[V,h3];refine oP (l:=[.own b 0 acc.length 1 none]) (v:=.tup []) (h':=s.h.put b (some (.cells (L.flatMap strA) true))) ?_ (ol hn hL hm b3 h1 b5) ?_
   ·exact U36
   ·exact U65
  ·rw[k.2.2.2,hlen];refine⟨fun c hc=>bR L c hc,by rw[bU,hlen,jt],.inr ⟨b,b1,b2,b3,rfl,bL⟩⟩
theorem f9(ok:EnvOk i3 E1){h:AH}{q m:Nat}{F L:List ByteArray}(hS:SetAt h q m F)(hF:F.Nodup)(hFl:F.length<2^28)(hL:Srt L)(hm:∀z,z∈F↔z∈L):CallRel i3 E1 77 [.ptr q 0] h (SDone h L):=by
 refine mZ ok Lv ?_
 show DW i3 E1 f77 _ (SEnd h L);have main:∀s:St,s.eval (.t 0)=some (.ptr q 0)→s.h=h→s.defers=[]→DW i3 E1 f77 s (SEnd h L):=fun s h0 hh hd=>by
  rw[Lw];refine cK rfl (ag _ _ _ ?_);simp-implicitDefEqProofs only[V];refine cK rfl (ag _ _ _ ?_);simp-implicitDefEqProofs only[V];have gq:=hS.gq;have gm:=hS.gm;have lq:=hS.lq;have lm:=hS.lm;refine DW.seq (K1:=fun e s1=>e=.normal∧s1.defers=[]∧h.next+1≤s1.h.next∧(∀y,y<h.next→s1.h.get y=h.get y)∧∃(acc:List ByteArray) (v:AV),s1.eval (.t 3)=some v∧RowC s1.h (h.next+1) acc.length 1 v (acc.flatMap strA)∧acc.Nodup∧∀z,z∈acc↔z∈F) ?_ ?_ (fun e s1 hne k=>by rw[k.1] at hne;cases hne)
  ·unfold Iq;refine cK rfl (ag _ _ _ ?_);simp-implicitDefEqProofs only[V,↓reduceIte,reduceCtorEq,h0,hh,gq];refine qn (b:=m) (es:=F.map fun b=>(.string b,vB true)) ?_ ?_ ?_
   ·exact U36
   ·simp-implicitDefEqProofs only[V,hh];exact gm
   simp-implicitDefEqProofs only[V,hh];refine DW.block (K1:=Got F (h.next+1) h.next h) ?_ ?_
   ·have e1:∀k,(h.alloc k).get m=some (mapB F):=fun k=>by rw[aB lm];exact gm
    have e2:∀k y,y<h.next→(h.alloc k).get y=h.get y:=fun k y hy=>aB hy
    match F,hF,hFl,e1 with
    | [],_,_,e1=>
     refine l5 (B:=h.next) (acc:=[]) (v:=.val (.slice none 0 0)) ?_ ?_ (.inl ⟨m,?_,?_⟩) ?_ ?_ ?_ RowC.nil Ao (fun z=>Iff.rfl)
     all_goals simp-implicitDefEqProofs only[V,↓reduceIte,rA,hd]
     ·exact fun y hy=>by rw[if_neg om]
     ·rfl
     ·have:=e1 (itOf m []);rw[AH.get_alloc] at this;exact this
     ·exact i7 _
    | [f],_,_,e1=>
     refine He (f:=f) (B:=h.next) (m0:=m) (js _) om ?_ ?_ ?_ ?_ ?_ ?_ ?_
     all_goals simp-implicitDefEqProofs only[V,↓reduceIte,rA,hd]
     ·have:=e1 (itOf m [(.string f,vB true)]);rw[AH.get_alloc] at this;exact this
     ·rfl
     ·exact i7 _
     ·exact fun y hy=>by rw[if_neg om]
    |f::f2::r,hF,hFl,e1=>
     refine zj hF (Nat.succ_le_succ (ir _)) hFl (B:=h.next) (m0:=m) (js _) om (f::f2::r).length [] [] _ (.val (.slice none 0 0)) rfl Ao (fun i hi=>by cases hi) rfl Ao (fun z=>⟨fun h=>(by cases h),fun⟨i,hi,_⟩=>(by cases hi)⟩) ?_ ?_ RowC.nil ?_ ?_ ?_ ?_ ?_
     all_goals simp-implicitDefEqProofs only[V,↓reduceIte,rA,hd]
     ·have:=e1 (itOf m ((f::f2::r).map fun b=>(.string b,vB true)));rw[AH.get_alloc] at this;exact this
     ·simp only[itOf,jd,im,ji]
     ·exact i7 _
     ·exact fun y hy=>by rw[if_neg om]
   ·rintro e s1 ⟨rfl,d1,n1,o1,H⟩;exact⟨rfl,d1,n1,o1,H⟩
  ·rintro s1 ⟨_,d1,n1,o1,acc,v,t3,hr,hn,ha⟩;have hal:=bD hn fun z hz=>(ha z).1 hz;exact zf (lo:=h.next+1) hn hL (fun z=>(ha z).trans (hm z)) om (jw _) t3 hr om o1 d1
 exact main _ rfl rfl rfl
theorem Dx{h:AH}(e:Ex)(nt:NoTag h)(hz:e.sz<2^27):∃v h',RunCall E1 (.f 112) [.agg e.cells] h v h'∧RowC h' h.next (nmC (occ e [])).length 1 v ((nmC (occ e [])).flatMap strA)∧h.next≤h'.next∧(∀x,x<h.next→h'.get x=h.get x)∧NoTag h':=by
 obtain⟨v,h',hrun,hP⟩:=d6 (g:=112) (l:=[.agg e.cells]) (h:=h) (fun v h'=>RowC h' h.next (nmC (occ e [])).length 1 v ((nmC (occ e [])).flatMap strA)∧h.next≤h'.next∧(∀x,x<h.next→h'.get x=h.get x)∧NoTag h') kr Hn fun s hs hh hd hrd=>by
  have h0:=hs 0 _ rfl;have e1:(h.next=h.next+1)=False:=by simp
  simp-implicitDefEqProofs only[wK,f112,V,↓reduceIte,rA,h0,hh,e1];have n0:∀x,x<h.next→((h.alloc (.cells e.cells true)).alloc (.cells [.val (.slice none 0 0)] true)).get x=h.get x:=fun x hx=>by
   rw[aB (by show x<h.next+1;omega),aB hx]
  have hI:IC (h.next+1) (h.next+2) [] ((h.alloc (.cells e.cells true)).alloc (.cells [.val (.slice none 0 0)] true)) [h.next+1]:=
   ⟨.val (.slice none 0 0),rfl,js _,js _,i7 _,aO,RowC.nil⟩
  obtain⟨h1,G,hc,a1⟩:=kZ (Uu (h.next+1) (h.next+2)) e [] (.val (.slice none 0 0)) _ 0 [h.next+1] [] (RowC.nil (lo:=0)).x (fun x hx=>by cases hx) hI nt.alloc.alloc (by simp only[jf];omega) (by simp only[jf];omega)
  refine aW (by simp-implicitDefEqProofs only[V];exact hc) ?_
  obtain⟨v,rfl,lC,lo1,lo2,gC,hr⟩:=a1.i;have n1:=a1.n;have n1:h.next+2≤h1.next:=n1;simp-implicitDefEqProofs only[V,↓reduceIte,rA,reduceCtorEq,gC,hd];refine⟨_,rfl,?_,om,fun x hx=>?_,a1.t⟩
  ·rw[iz] at hr;exact hr.low om
  ·rw[a1.o x (by show x<h.next+2;omega) (fun q=>by rw[ig] at q;omega),n0 x hx]
 exact⟨v,h',hrun,hP⟩
theorem Fy{h:AH}{B:Nat}(d:Df)(hN:d.ps.l.length<2^61)(gB:h.get B=some (.cells d.cells true)):Pick 113 [.ptr B 0] (fun x=>memS x d.ps.l) h [B]:=by
 refine⟨⟨_,_,_,rfl⟩,fun h' hn ho x=>?_⟩;have gB':h'.get B=some (.cells d.cells true):=by rw[ho B il,gB]
 obtain⟨v',h2,hrun,rfl,rfl⟩:=dU (g:=113) (l:=[vS x,.ptr B 0]) (h:=h') (fun v' h2=>v'=vB (memS x d.ps.l)∧h2=h') kr Hm (fun h=>ah (ae bQ)) fun s hs hh hd hrd=>by
  have h0:=hs 0 _ rfl;have h1:=hs 1 _ rfl;simp-implicitDefEqProofs only[wJ,f113,V,↓reduceIte,rA,reduceCtorEq,h0,h1,hh,hd,gB',iQ hN,dr];exact⟨_,rfl,rfl⟩
 exact hrun
def calD(d:Df):List ByteArray:=(nmC (occ d.b [])).filter fun x=> !memS x d.ps.l
theorem Ec(d:Df):(calD d).length≤d.b.sz:=by
 have h1:=Ci (fun x=> !memS x d.ps.l) (nmC (occ d.b []));have h2:=pL (occ d.b []);have h3:=bo d.b [];rw[calD];omega
theorem nA(d:Df)(hz:d.b.sz<2^27)(hN:d.ps.l.length<2^61):∃nl cap,∀h,RunCall E1 (.f 75) [.agg d.cells] h (Vl.A strA ⟨calD d,nl,cap⟩) h:=by
 have key:∃v h',RowD h' 0 v (calD d)∧Ev fun n=>enterA E1 (exec E1 n) 75 [.agg d.cells] .empty=some (v,h'):=by
  obtain⟨v,h',hP,hrun⟩:=dT (g:=75) (l:=[.agg d.cells]) (h:=.empty) (fun v h'=>RowD h' 0 v (calD d)) Lx fun s hs hh hd hrd=>by
   refine ag _ _ _ ?_
   have h0:=hs 0 _ rfl;simp-implicitDefEqProofs only[zl,f75,V,↓reduceIte,rA,h0,hh];have nt0:NoTag ((AH.empty).alloc (.cells d.cells true)):=NoTag.empty.alloc;obtain⟨v,h1,hc,hr,n1,o1,t1⟩:=Dx d.b nt0 hz;refine aW hc ?_
   have hlen:=pL (occ d.b []);have hol:=bo d.b [];have g0:h1.get 0=some (.cells d.cells true):=by rw[o1 0 (js _)];exact aO
   obtain⟨v2,h2,hc2,hr2,_,n2,o2⟩:=kO (Fy d hN g0) hr (fun x hx q=>by
    have:=(hr.ids x hx).1;rw[ig.1 q] at this;exact Nat.lt_irrefl _ (Nat.lt_of_lt_of_le Nat.zero_lt_one this)) om
   simp-implicitDefEqProofs only[V,↓reduceIte,rA];refine aW hc2 ?_
   simp-implicitDefEqProofs only[V,↓reduceIte,reduceCtorEq,hd];refine⟨_,rfl,?_⟩;rcases hr2 with⟨rfl,e⟩|⟨B,D,b1,b2,rfl,gB⟩
   ·exact .inl ⟨rfl,e⟩
   ·exact .inr ⟨B,D,ir _,b2,rfl,gB⟩
  exact⟨v,h',hP,hrun⟩
 obtain⟨v,h',hr,hrun⟩:=key;obtain⟨nl,cap,e⟩:=Fl hr;refine⟨nl,cap,fun h=>hrun.mono fun n p=>?_⟩;have hl:∀w∈[AV.agg d.cells],Tree w:=iM (Tree.df d);have hz:[AV.agg d.cells].foldl (fun h v=>AM.freeze deepest v h) h=h:=az hl;have hs:freshF 75=true:=by kernel_rfl
 rw[←e];simp only[aZ,cD,bI hs,hz,bb hl,bX hs,p,nO hr];cases isFlat (rowD v (calD d))<;>rfl
def idxD(x:ByteArray):List Df→Option Nat
 | []=>none
 |d::r=>bif strEq d.nm x then some 0 else(idxD x r).map (· +1)
def idxI(x:ByteArray)(l:List Df):Int:=match idxD x l with
 |some i=>(i:Nat)
 |none=> -1
theorem iN{x:ByteArray}:∀{l:List Df},idxD x l=none↔fndD x l=none
 | []=>by simp[idxD,fndD]
 |a::r=>by
  rw[idxD,fndD];cases strEq a.nm x with
  |true=>simp
  |false=>simp only[cond_false,Option.map_eq_none_iff];exact iN
theorem zA(x:ByteArray)(l:List Df):decide (idxI x l<0)=(fndD x l).isNone:=by
 rw[idxI];cases h:idxD x l with
 |none=>rw[iN.1 h];rfl
 |some i=>
  cases hf:fndD x l with
  |none=>rw[iN.2 hf] at h;cases h
  |some d=>simp only[Option.isNone_some,decide_eq_false_iff_not];omega
theorem xL{h:AH}{B:Nat}{x:ByteArray}(d:Df)(hB:B<h.next)(gB:h.get B=some (.cells [vS x] true)):∃h',RunCall E1 (.f 43) [.agg d.cells,.ptr B 0] h (vB (strEq d.nm x)) h'∧h.next≤h'.next∧(∀y,y<h.next→h'.get y=h.get y):=by
 obtain⟨v',h',hrun,rfl,hP⟩:=dU (g:=43) (l:=[.agg d.cells,.ptr B 0]) (h:=h) (fun v' h2=>v'=vB (strEq d.nm x)∧h.next≤h2.next∧(∀y,y<h.next→h2.get y=h.get y)) kr Mn (fun h=>ah (ae bQ)) fun s hs hh hd hrd=>by
  have h0:=hs 0 _ rfl;have h1:=hs 1 _ rfl;have hne:(B=h.next)=False:=by simp;omega
  simp-implicitDefEqProofs only[Ct,f43,V,↓reduceIte,rA,reduceCtorEq,h0,h1,hh,hd,gB,hne];exact⟨_,rfl,rfl,om,fun y hy=>by rw[if_neg om]⟩
 exact⟨h',hrun,hP⟩
theorem sU(w:Vl Df)(x:ByteArray)(hN:w.l.length<2^60){B:Nat}:∀(r:List Df) (i:Nat) (s:St),w.l.drop i=r→i≤w.l.length→B<s.h.next→s.h.get B=some (.cells [vS x] true)→s.eval (.t 0)=some (w.A Df.cells)→s.eval (.t 1)=some (.fn (.func 43) [] [.ptr B 0])→s.eval (.t 7)=some (vI (w.l.length:Nat))→s.eval (.t 8)=some (vI (i:Nat))→s.defers=[]→
  Run E1 pi s fun e s'=>s'.defers=[]∧((idxD x r=none∧e=.exit 0)∨(∃j,idxD x r=some j∧e=.ret∧s'.eval (.t 4)=some (vI ((i+j:Nat):Int))))
 | [],i,s,hd,hi,lB,gB,h0,h1,h7,h8,hf=>by
  have hl:=aK hd hi;subst hl;apply aC (rfl:pi=.loop mO);simp-implicitDefEqProofs only[mO,V,↓reduceIte,rA,reduceCtorEq,h7,h8,hf,ba,idxD]
 |d::r,i,s,hd,hi,lB,gB,h0,h1,h7,h8,hf=>by
  have hl:=aL hd;have hlt:=bY hl;have w1:IntKind.i64.wrap ((i:Int)+1)=((i+1:Nat):Int):=aE (n:=i+1) om;obtain⟨h',hc,n1,o1⟩:=xL d lB gB;apply aC (rfl:pi=.loop mO);simp-implicitDefEqProofs only[mO,V,↓reduceIte,rA,reduceCtorEq,h0,h1,h7,h8,hlt,w.at Df.len hd,iz,ja];refine aW (by simp-implicitDefEqProofs only[V];exact hc) ?_
  cases q:strEq d.nm x with
  |true=>
   simp-implicitDefEqProofs only[V,↓reduceIte,rA,reduceCtorEq,hf,idxD,q];exact .inr ⟨0,rfl,rfl⟩
  |false=>
   simp-implicitDefEqProofs only[V,↓reduceIte,rA,h8,idxD,q,w1];refine(sU w x hN (B:=B) r (i+1) _ (aH hd) om ?_ ?_ ?_ ?_ ?_ ?_ ?_).mono ?_
   ·exact U34
   ·simp-implicitDefEqProofs only[V,o1 B lB,gB]
   all_goals try simp-implicitDefEqProofs only[V,↓reduceIte,rA,reduceCtorEq,h0,h1,h7,hf]
   rintro e s1 ⟨d1,⟨hn,rfl⟩|⟨j,hj,rfl,t4⟩⟩
   ·exact⟨d1,.inl ⟨by rw[hn];rfl,rfl⟩⟩
   ·exact⟨d1,.inr ⟨j+1,by rw[hj];rfl,rfl,by rw[t4];exact congrArg (fun n:Nat=>some (AV.val (.int .i64 (n:Int)))) om⟩⟩
theorem gR(m:Md)(x:ByteArray)(hN:m.ds.l.length<2^60)(h:AH):RunCall E1 (.f 23) [.agg m.cells,vS x] h (vI (idxI x m.ds.l)) h:=by
 refine gJ kr Mz (dm (Tree.md m) (Tree.val _)) rfl (Tree.val _) (fun s hs hh hd hr=>?_) h;have h0:=hs 0 _ rfl;have h1:=hs 1 _ rfl;simp-implicitDefEqProofs only[Dd,f23,V,↓reduceIte,rA,reduceCtorEq,h0,h1,hh];have hc:∃h',RunCall E1 (.f 42) [m.ds.A Df.cells,.fn (.func 43) [] [.ptr 1 0]] ((AH.empty.alloc (.cells m.cells true)).alloc (.cells [vS x] true)) (vI (idxI x m.ds.l)) h':=by
  obtain⟨v',h',hrun,rfl⟩:=dU (g:=42) (l:=[m.ds.A Df.cells,.fn (.func 43) [] [.ptr 1 0]]) (h:=((AH.empty.alloc (.cells m.cells true)).alloc (.cells [vS x] true))) (fun v' h2=>v'=vI (idxI x m.ds.l)) kr Mo (fun h=>ah (ae dI)) fun s hs hh hd hrd=>by
   have h0:=hs 0 _ rfl;have h1:=hs 1 _ rfl;simp-implicitDefEqProofs only[Cu,f42,V,↓reduceIte,reduceCtorEq,h0];refine(sU m.ds x hN (B:=1) m.ds.l 0 _ rfl (ir _) ?_ ?_ ?_ ?_ ?_ ?_ ?_).mono ?_
   ·simp-implicitDefEqProofs only[V,rB,hh];exact js 1
   ·simp-implicitDefEqProofs only[V,↓reduceIte,hh]
   all_goals try simp-implicitDefEqProofs only[V,↓reduceIte,rA,reduceCtorEq,h0,h1,hd]
   all_goals try rfl
   rintro e s1 ⟨d1,⟨hn,rfl⟩|⟨j,hj,rfl,t4⟩⟩
   ·simp-implicitDefEqProofs only[V,↓reduceIte,reduceCtorEq,WB,d1,oneOrTup,idxI,hn];exact⟨_,rfl,rfl⟩
   ·simp-implicitDefEqProofs only[V,reduceCtorEq,d1,t4,oneOrTup,idxI,hj];exact⟨_,rfl,rfl⟩
  exact⟨h',hrun⟩
 obtain⟨h',hc⟩:=hc;refine aW hc ?_
 simp-implicitDefEqProofs only[V,↓reduceIte,reduceCtorEq,hd]
theorem yL{P:Program}{E:Env}{g:Nat}{l:List AV}{t:AV}{R:AV→AH→Prop}(k:CallRel P E g l .empty R)(ht:∀r hc,R r hc→toTree (AM.freeze deepest r hc) deepest r=some t):KFact P E.globs g l t:=by
 refine⟨k.1,fun S2 w vals q1 q2 q3=>?_⟩;refine CallsIn.mono (k.2 w.heap.size S2 nof w vals (km q1 q2) q3) fun e w' he=>?_
 obtain⟨x,r,hc,rfl,hR,hL⟩:=he;exact⟨x,rfl,nR (ht r hc hR) q1 hL⟩
def freeS(e:Ex):List ByteArray:=unionS (nmE (occ e [])) []
theorem iL{e:Ex}{z:ByteArray}:z∈freeS e↔z∈nmE (occ e []):=by
 rw[freeS,fW];simp
theorem n5(e:Ex):Srt (freeS e):=lA _ _
theorem iP(e:Ex):(freeS e).length≤e.sz:=by
 have h1:=bD (n5 e).nodup fun z hz=>iL.1 hz;have h2:=bo e [];rw[nmE,ji] at h1;omega
theorem l7(ok:EnvOk i3 E1){h:AH}(nt:NoTag h)(e:Ex)(hz:e.sz<2^27):CallRel i3 E1 83 [.agg e.cells] h (SDone h (freeS e)):=by
 refine mZ ok Ls ?_
 have main:∀s:St,s.eval (.t 0)=some (.agg e.cells)→s.h=h→s.defers=[]→DW i3 E1 f83 s fun e1 s1=>(e1=.normal∨e1=.ret)∧∃r h',leaveA E1 uO s1=some (r,h')∧SDone h (freeS e) r h':=fun s h0 hh hd=>by
  unfold f83;refine cK rfl (ag _ _ _ ?_);simp-implicitDefEqProofs only[V,h0,hh];refine cK rfl (ag _ _ _ ?_);simp-implicitDefEqProofs only[V];obtain⟨h1,hc1,n1,hS,o1,t1⟩:=fN (h:=h.alloc (.cells e.cells true));have n1:h1.next=h.next+3:=n1;have hS:SetAt h1 (h.next+2) (h.next+1) []:=hS;have o1:∀x,x<h.next+1→h1.get x=(h.alloc (.cells e.cells true)).get x:=o1;refine aW (by simp-implicitDefEqProofs only[V];exact hc1) ?_
  have e1:(h.next+1+1=h.next)=False:=by simp;omega
  simp-implicitDefEqProofs only[V,↓reduceIte,rA,WF,Em];have ge:h1.get h.next=some (.cells e.cells true):=by rw[o1 _ (js _)];exact aO
  have c1:(h.next=h1.next)=False:=by simp;omega
  refine cK rfl (ag _ _ _ ?_);simp-implicitDefEqProofs only[V,↓reduceIte,rA,ge,c1];have hI:IF h1.next (h.next+2) (h.next+1) [] ((h1.alloc (.cells [.val (.pointer none)] true)).put h1.next (some (.cells [.ptr (h.next+2) 0] true))) [h1.next,h.next+2,h.next+1]:=
   ⟨rfl,js _,om,om,bL,hS.to (jw _) fun x hx=>by rw[aP (by rcases hx with rfl|rfl<;>omega),aB (by rcases hx with rfl|rfl<;>omega)]⟩
  have nt2:NoTag ((h1.alloc (.cells [.val (.pointer none)] true)).put h1.next (some (.cells [.ptr (h.next+2) 0] true))):=fF (t1 nt.alloc).alloc;obtain⟨h2,G,hc2,a2⟩:=kZ (Ut h1.next (h.next+2) (h.next+1)) e [] (.val (.slice none 0 0)) _ 0 _ [] (RowC.nil (lo:=0)).x (fun x hx=>by cases hx) hI nt2 (by simp only[jf];omega) (by simp only[jf];omega)
  refine aW (by simp-implicitDefEqProofs only[V];exact hc2) ?_
  obtain⟨rfl,lC,_,_,gC,hS2⟩:=a2.i;simp-implicitDefEqProofs only[V];have n2:=a2.n;have n2:h1.next+1≤h2.next:=n2;have old:∀x,x<h.next→h2.get x=h.get x:=fun x hx=>by
   rw[a2.o x (by show x<h1.next+1;omega) (fun q=>by simp only[i8,jb,or_false] at q;omega),aP om,aB om,o1 x om,aB hx]
  have hF:(addAll [] (nmE (occ e []))).Nodup:=cj Ao;have hol:=bo e [];have hFl:=mr (nmE (occ e [])) [];rw[iz] at hS2;have hrel:=f9 ok hS2 hF (by rw[nmE,ji] at hFl;simp only[jf] at hFl;rw[nmE];omega) (n5 e) (fun z=>by rw[bM,iL];simp)
  refine DW.seq (K1:=fun e1 s1=>e1=.normal∧∃r,s1.eval (.t 2)=some r∧s1.defers=[]∧SDone h (freeS e) r s1.h) (DW.region ?_) (fun s1 k=>?_) (fun e1 s1 hne k=>by rw[k.1] at hne;cases hne)
  ·refine bh [⟨some 8,none,.load none (.t 3)⟩] _ _ ?_
   simp-implicitDefEqProofs only[V,↓reduceIte,rA,gC];refine gz (l:=[.ptr (h.next+2) 0]) (R:=SDone h2 (freeS e)) ?_ (by simp-implicitDefEqProofs only[V];exact hrel) ?_
   ·exact U36
   ·rintro v h3 ⟨r3,n3,o3⟩;refine ki ?_
    simp-implicitDefEqProofs only[V,↓reduceIte,hd];exact⟨v,rfl,r3.low om,om,fun x hx=>by rw[o3 x om,old x hx]⟩
  ·obtain⟨_,r,t2,d1,hD⟩:=k;refine DW.run rfl (ag _ _ _ ?_);simp-implicitDefEqProofs only[V,reduceCtorEq];refine⟨r,s1.h,?_,hD⟩;simp-implicitDefEqProofs only[leaveA,uO,d1,runDefers,V];show(match consO (s1.eval (.t 2)) (some []) with
    |some l=>some (oneOrTup l,s1.h)
    |none=>none)=some (r,s1.h)
   rw[t2];rfl
 exact main _ rfl rfl rfl
theorem kE(ok:EnvOk i3 E1)(e:Ex)(hz:e.sz<2^27):KFact i3 E0.globs 83 [.agg e.cells] (nmV (freeS e)):=by
 refine yL (E:=E1) (l7 ok NoTag.empty e hz) fun r hc ⟨hr,_,_⟩=>?_
 obtain⟨h1,f1,f2,f3,f4⟩:=ed hr;rw[f1,f4,kV rfl];rfl
theorem Ga{h:AH}{B C:Nat}(m:Md)(d:Df)(hN:d.ps.l.length<2^61)(hM:m.ds.l.length<2^60)(gB:h.get B=some (.cells d.cells true))(gC:h.get C=some (.cells m.cells true)):Pick 110 [.ptr B 0,.ptr C 0] (fun x=>memS x d.ps.l||(fndD x m.ds.l).isNone) h [B,C]:=by
 refine⟨⟨_,_,_,rfl⟩,fun h' hn ho x=>?_⟩;have gB':h'.get B=some (.cells d.cells true):=by rw[ho B (by simp),gB]
 have gC':h'.get C=some (.cells m.cells true):=by rw[ho C (by simp),gC]
 obtain⟨v',h2,hrun,rfl,rfl⟩:=dU (g:=110) (l:=[vS x,.ptr B 0,.ptr C 0]) (h:=h') (fun v' h2=>v'=vB (memS x d.ps.l||(fndD x m.ds.l).isNone)∧h2=h') kr Ho (fun h=>ah (ae bQ)) fun s hs hh hd hrd=>by
  have h0:=hs 0 _ rfl;have h1:=hs 1 _ rfl;have h2:=hs 2 _ rfl;cases q:memS x d.ps.l with
  |true=>
   simp-implicitDefEqProofs only[qC,f110,V,↓reduceIte,rA,reduceCtorEq,h0,h1,hh,hd,gB',iQ hN,dr,q];exact⟨_,rfl,rfl⟩
  |false=>
   simp-implicitDefEqProofs only[qC,f110,V,↓reduceIte,rA,reduceCtorEq,h0,h1,h2,hh,hd,gB',gC',iQ hN,dr,q,aG (gR m x hM),zA];exact⟨_,rfl,rfl⟩
 exact hrun
def mentD(m:Md)(d:Df):List ByteArray:=(freeS d.b).filter fun x=> !(memS x d.ps.l||(fndD x m.ds.l).isNone)
theorem xF(m:Md)(d:Df):(mentD m d).length≤d.b.sz:=by
 have h1:=Ci (fun x=> !(memS x d.ps.l||(fndD x m.ds.l).isNone)) (freeS d.b);have h2:=iP d.b;rw[mentD];omega
theorem bk(ok:EnvOk i3 E1)(m:Md)(d:Df)(hz:d.b.sz<2^27)(hN:d.ps.l.length<2^61)(hM:m.ds.l.length<2^60):KFact i3 E0.globs 69 [.agg m.cells,.agg d.cells] (nmD (freeS d.b) (mentD m d)):=by
 refine so (E:=E1) ok Mb ?_
 have main:∀s:St,s.eval (.t 0)=some (.agg m.cells)→s.eval (.t 1)=some (.agg d.cells)→s.h=.empty→s.defers=[]→DW i3 E1 f69 s fun e1 s1=>(e1=.normal∨e1=.ret)∧∃r hc,leaveA E1 uT s1=some (r,hc)∧toTree (AM.freeze deepest r hc) deepest r=some (nmD (freeS d.b) (mentD m d)):=fun s h0 h1 hh hd=>by
  unfold f69;refine cK rfl (ag _ _ _ ?_);simp-implicitDefEqProofs only[V,↓reduceIte,rA,h0,h1,hh];refine DW.seq (K1:=fun e1 s1=>e1=.normal∧∃r,s1.eval (.t 4)=some r∧s1.defers=[]∧toTree (AM.freeze deepest r s1.h) deepest r=some (nmD (freeS d.b) (mentD m d))) (DW.region ?_) (fun s1 k=>?_) (fun e1 s1 hne k=>by rw[k.1] at hne;cases hne)
  ·refine bh [⟨some 5,none,.fieldAddr 2 (.t 3)⟩,⟨some 6,none,.load (some 7) (.t 5)⟩] _ _ ?_
   simp-implicitDefEqProofs only[V,↓reduceIte,rA];have nt0:NoTag ((AH.empty.alloc (.cells m.cells true)).alloc (.cells d.cells true)):=NoTag.empty.alloc.alloc;refine gz (l:=[.agg d.b.cells]) (R:=SDone _ (freeS d.b)) ?_ (by simp-implicitDefEqProofs only[V];exact l7 ok nt0 d.b hz) ?_
   ·exact U36
   rintro v h3 ⟨r3,n3,o3⟩;refine ki ?_
   have n3:2≤h3.next:=n3;have r3:RowC h3 2 (freeS d.b).length 1 v ((freeS d.b).flatMap strA):=r3;have g1:h3.get 1=some (.cells d.cells true):=by rw[o3 1 (by show 1<2;omega)];exact aO (h:=AH.empty.alloc (.cells m.cells true))
   have g0:h3.get 0=some (.cells m.cells true):=by rw[o3 0 (by show 0<2;omega),aB (by show 0<1;omega)];exact aO (h:=AH.empty)
   have hfl:=iP d.b;obtain⟨v2,h4,hc2,hr2,e2,n4,o4⟩:=kO (Ga m d hN hM g1 g0) r3 (fun x hx q=>by
    have:=(r3.ids x hx).1;simp only[i8,jb,or_false] at q;omega) om
   simp-implicitDefEqProofs only[V,↓reduceIte,rA];refine aW (by simp-implicitDefEqProofs only[V];exact hc2) ?_
   simp-implicitDefEqProofs only[V,↓reduceIte,hd];exact⟨v2,rfl,by rw[nO hr2,e2];rfl⟩
  ·obtain⟨_,r,t2,d1,hD⟩:=k;refine DW.run rfl (ag _ _ _ ?_);simp-implicitDefEqProofs only[V,reduceCtorEq];refine⟨r,s1.h,?_,hD⟩;simp-implicitDefEqProofs only[leaveA,uT,d1,runDefers,V];show(match consO (s1.eval (.t 4)) (some []) with
    |some l=>some (oneOrTup l,s1.h)
    |none=>none)=some (r,s1.h)
   rw[t2];rfl
 exact main _ rfl rfl rfl rfl
inductive Rch (suc:ByteArray→List ByteArray):ByteArray→ByteArray→Prop where
 |one {x y:ByteArray}:y∈suc x→Rch suc x y
 |step {x y z:ByteArray}:Rch suc x y→z∈suc y→Rch suc x z
theorem Rch.trans{suc:ByteArray→List ByteArray}{x y z:ByteArray}(a:Rch suc x y)(b:Rch suc y z):Rch suc x z:=by
 induction b with
 |one h=>exact .step a h
 |step _ h ih=>exact .step ih h
theorem Rch.last{suc:ByteArray→List ByteArray}{x z:ByteArray}(a:Rch suc x z):∃y,z∈suc y:=by
 cases a with
 |one h=>exact⟨_,h⟩
 |step _ h=>exact⟨_,h⟩
theorem Rch.closed{suc:ByteArray→List ByteArray}{x z:ByteArray}{F:List ByteArray}(a:Rch suc x z)(h1:∀y∈suc x,y∈F)(h2:∀y∈F,∀z∈suc y,z∈F):z∈F:=by
 induction a with
 |one h=>exact h1 _ h
 |step _ h ih=>exact h2 _ ih _ h
def kn(m:Md)(x:ByteArray):Bool:=(fndD x m.ds.l).isSome
def sucC(m:Md)(x:ByteArray):List ByteArray:=match fndD x m.ds.l with
 |some d=>(calD d).filter (kn m)
 |none=>[]
def nmM(m:Md):List ByteArray:=m.ds.l.map Df.nm
theorem fX{m:Md}{x:ByteArray}(h:kn m x=true):x∈nmM m:=by
 rw[kn] at h;obtain⟨d,hd⟩:=Option.isSome_iff_exists.1 h;obtain⟨h1,h2⟩:=ee hd;rw[←h2];exact List.mem_map_of_mem h1
theorem Jo{m:Md}{x y:ByteArray}(h:y∈sucC m x):kn m y=true:=by
 rw[sucC] at h;split at h
 ·exact(jy.1 h).2
 ·cases h
theorem yO{m:Md}{x y:ByteArray}(h:Rch (sucC m) x y):kn m y=true:=by
 obtain⟨z,hz⟩:=h.last;exact Jo hz
structure MdT (m:Md):Prop where
 n:m.ds.l.length<2^20
 b:∀d∈m.ds.l,d.b.sz<2^20∧d.ps.l.length<2^20
structure Vst (suc:ByteArray→List ByteArray) (x:ByteArray) (F F':List ByteArray):Prop where
 sub:∀z∈F,z∈F'
 nd:F'.Nodup
 cl:∀z∈F',z∈F∨∀y∈suc z,y∈F'
 here:∀y∈suc x,y∈F'
 fr:∀z∈F',z∈F∨Rch suc x z
structure Lst (suc:ByteArray→List ByteArray) (k:ByteArray→Bool) (r:List ByteArray) (F F':List ByteArray):Prop where
 sub:∀z∈F,z∈F'
 nd:F'.Nodup
 cl:∀z∈F',z∈F∨∀y∈suc z,y∈F'
 here:∀y∈r,k y=true→y∈F'
 fr:∀z∈F',z∈F∨∃y∈r,k y=true∧(z=y∨Rch suc y z)
theorem Lst.nil{suc:ByteArray→List ByteArray}{k:ByteArray→Bool}{F:List ByteArray}(h:F.Nodup):Lst suc k [] F F:=
 ⟨fun _ h=>h,h,fun _ h=>.inl h,fun _ h=>(by cases h),fun _ h=>.inl h⟩
theorem Lst.skip{suc:ByteArray→List ByteArray}{k:ByteArray→Bool}{y:ByteArray}{r F F':List ByteArray}(hy:k y=true→y∈F)(a:Lst suc k r F F'):Lst suc k (y::r) F F':=
 ⟨a.sub,a.nd,a.cl,fun z hz q=>by
  rcases i8.1 hz with rfl|hz
  ·exact a.sub _ (hy q)
  ·exact a.here z hz q,fun z hz=>by
  rcases a.fr z hz with q|⟨w,w1,w2⟩
  ·exact .inl q
  ·exact .inr ⟨w,j0 _ w1,w2⟩⟩
theorem Lst.cons{suc:ByteArray→List ByteArray}{k:ByteArray→Bool}{y:ByteArray}{r F F1 F':List ByteArray}(hy:k y=true)(v:Vst suc y (addS y F) F1)(a:Lst suc k r F1 F'):Lst suc k (y::r) F F':=by
 have hyF:y∈F':=a.sub _ (v.sub _ (dk.2 (.inr rfl)));refine⟨fun z hz=>a.sub _ (v.sub _ (dk.2 (.inl hz))),a.nd,fun z hz=>?_,fun z hz q=>?_,fun z hz=>?_⟩
 ·rcases a.cl z hz with q|q
  ·rcases v.cl z q with q|q
   ·rcases dk.1 q with q|rfl
    ·exact .inl q
    ·exact .inr fun w hw=>a.sub _ (v.here w hw)
   ·exact .inr fun w hw=>a.sub _ (q w hw)
  ·exact .inr q
 ·rcases i8.1 hz with rfl|hz
  ·exact hyF
  ·exact a.here z hz q
 ·rcases a.fr z hz with q|⟨w,w1,w2⟩
  ·rcases v.fr z q with q|q
   ·rcases dk.1 q with q|rfl
    ·exact .inl q
    ·exact .inr ⟨z,il,hy,.inl rfl⟩
   ·exact .inr ⟨y,il,hy,.inr q⟩
  ·exact .inr ⟨w,j0 _ w1,w2⟩
structure RVS (h:AH) (m:Md) (M S Vx q k:Nat) (F:List ByteArray):Prop where
 lM:M<h.next
 lS:S<h.next
 lV:Vx<h.next
 gM:h.get M=some (.cells m.cells true)
 gS:h.get S=some (.cells [.ptr q 0] true)
 gV:h.get Vx=some (.cells [.fn (.func 74) [] [.ptr M 0,.ptr S 0,.ptr Vx 0]] true)
 st:SetAt h q k F
 nM:M≠k
 nS:S≠k
 nV:Vx≠k
theorem RVS.to{h h':AH}{m:Md}{M S Vx q k:Nat}{F F':List ByteArray}(a:RVS h m M S Vx q k F)(hn:h.next≤h'.next)(o:∀x,x<h.next→x≠k→h'.get x=h.get x)(gk:h'.get k=some (mapB F')):RVS h' m M S Vx q k F':=by
 have h1:=a.lM;have h2:=a.lS;have h3:=a.lV;have h4:=a.st.lq;have h5:=a.st.lm;exact⟨om,om,om,by rw[o M h1 a.nM,a.gM],by rw[o S h2 a.nS,a.gS],by rw[o Vx h3 a.nV,a.gV],⟨om,om,a.st.ne,by rw[o q h4 a.st.ne,a.st.gq],gk⟩,a.nM,a.nS,a.nV⟩
def VisP(m:Md)(M S Vx q k n:Nat):Prop:=∀(x:ByteArray) (F:List ByteArray) (h:AH),(nmM m).length≤n+F.length→F.Nodup→(∀z∈F,kn m z=true)→RVS h m M S Vx q k F→
 ∃h' F',RunCall E1 (.f 74) [vS x,.ptr M 0,.ptr S 0,.ptr Vx 0] h (.tup []) h'∧RVS h' m M S Vx q k F'∧h.next≤h'.next∧(∀y,y<h.next→y≠k→h'.get y=h.get y)∧Vst (sucC m) x F F'
theorem Ts{b:Nat}:fieldAddrV 0 (.ptr b 0)=some (.ptr b 0):=rfl
theorem sH{m:Md}(hm:MdT m){M S Vx q k n:Nat}(ih:∀n',n=n'+1→VisP m M S Vx q k n')(L:Vl ByteArray)(hL:L.l.length<2^60):∀(r:List ByteArray) (i:Nat) (s:St) (F:List ByteArray),L.l.drop i=r→i≤L.l.length→(nmM m).length≤n+F.length→F.Nodup→(∀z∈F,kn m z=true)→RVS s.h m M S Vx q k F→
  s.eval (.t 1)=some (.ptr M 0)→s.eval (.t 2)=some (.ptr S 0)→s.eval (.t 3)=some (.ptr Vx 0)→s.eval (.t 20)=some (L.A strA)→s.eval (.t 21)=some (vI (L.l.length:Nat))→s.eval (.t 22)=some (vI (i:Nat))→s.defers=[]→
  Run E1 mD s fun e s'=>e=.exit 0∧s'.defers=[]∧∃F',RVS s'.h m M S Vx q k F'∧s.h.next≤s'.h.next∧(∀y,y<s.h.next→y≠k→s'.h.get y=s.h.get y)∧Lst (sucC m) (kn m) r F F'
 | [],i,s,F,hd,hi,hn,hF,hk,hS,h1,h2,h3,h20,h21,h22,hf=>by
  have hl:=aK hd hi;subst hl;apply aC (rfl:mD=.loop fe);simp-implicitDefEqProofs only[fe,V,↓reduceIte,h21,h22,hf,ba];exact⟨F,hS,i7 _,fun _ _ _=>trivial,Lst.nil hF⟩
 |y::r,i,s,F,hd,hi,hn,hF,hk,hS,h1,h2,h3,h20,h21,h22,hf=>by
  have hl:=aL hd;have hlt:=bY hl;have w1:IntKind.i64.wrap ((i:Int)+1)=((i+1:Nat):Int):=aE (n:=i+1) om;have hmn:=hm.n;have lM:=hS.lM;have lS:=hS.lS;have lV:=hS.lV;have lq:=hS.st.lq;have lk:=hS.st.lm;have gM:=hS.gM;have gS:=hS.gS;have gV:=hS.gV;have gq:=hS.st.gq;have gk:=hS.st.gm;have cS:(S=s.h.next)=False:=by simp;omega
  have cV:(Vx=s.h.next)=False:=by simp;omega
  have cM:(M=s.h.next)=False:=by simp;omega
  have cq:(q=s.h.next)=False:=by simp;omega
  have ck:(k=s.h.next)=False:=by simp;omega
  have go:∀(s1:St) (F1:List ByteArray),(nmM m).length≤n+F1.length→F1.Nodup→(∀z∈F1,kn m z=true)→RVS s1.h m M S Vx q k F1→s.h.next≤s1.h.next→(∀z,z<s.h.next→z≠k→s1.h.get z=s.h.get z)→s1.eval (.t 1)=some (.ptr M 0)→s1.eval (.t 2)=some (.ptr S 0)→s1.eval (.t 3)=some (.ptr Vx 0)→s1.eval (.t 20)=some (L.A strA)→s1.eval (.t 21)=some (vI (L.l.length:Nat))→s1.eval (.t 22)=some (vI ((i+1:Nat):Int))→s1.defers=[]→
    (∀F',Lst (sucC m) (kn m) r F1 F'→Lst (sucC m) (kn m) (y::r) F F')→Run E1 mD s1 fun e s'=>e=.exit 0∧s'.defers=[]∧∃F',RVS s'.h m M S Vx q k F'∧s.h.next≤s'.h.next∧(∀y,y<s.h.next→y≠k→s'.h.get y=s.h.get y)∧Lst (sucC m) (kn m) (y::r) F F':=
   fun s1 F1 z1 z2 z3 z4 z5 z6 e1 e2 e3 e20 e21 e22 d1 hL1=>(sH hm ih L hL r (i+1) s1 F1 (aH hd) om z1 z2 z3 z4 e1 e2 e3 e20 e21 e22 d1).mono fun e s2 ⟨q1,q2,F2,q3,q4,q5,q6⟩=>
    ⟨q1,q2,F2,q3,om,fun w hw hwk=>by rw[q5 w om hwk,z6 w hw hwk],hL1 F2 q6⟩
  apply aC (rfl:mD=.loop fe);cases qd:fndD y m.ds.l with
  |none=>
   have e1:ansD y m.ds.l=.tup [.agg zDf,vB false]:=by rw[ansD,qd]
   simp-implicitDefEqProofs only[fe,V,↓reduceIte,rA,WF,h1,h20,h21,h22,hlt,L.at aI hd,bS,gM,aG (cL m y om),e1,be,tQ,w1];refine go _ F hn hF hk ?_ ?_ ?_ ?_ ?_ ?_ ?_ ?_ ?_ ?_ ?_
   ·refine hS.to (jw _) (fun x hx _=>?_) ?_
    ·exact U66
    ·exact U67
   ·exact jw _
   ·exact U68
   all_goals try simp-implicitDefEqProofs only[V,↓reduceIte,rA,h1,h2,h3,h20,h21,hf]
   exact fun F' a=>a.skip fun q=>by rw[kn,qd] at q;cases q
  |some d=>
   have e1:ansD y m.ds.l=.tup [.agg d.cells,vB true]:=by rw[ansD,qd]
   have hkn:kn m y=true:=by rw[kn,qd];rfl
   cases qm:memS y F with
   |true=>
    simp-implicitDefEqProofs only[fe,V,↓reduceIte,rA,WF,h1,h2,h20,h21,h22,hlt,L.at aI hd,bS,gM,aG (cL m y om),e1,be,da,w1,cS,cq,ck,gS,gq,gk,lJ,eW,gP,qm];refine go _ F hn hF hk ?_ ?_ ?_ ?_ ?_ ?_ ?_ ?_ ?_ ?_ ?_
    ·refine hS.to (jw _) (fun x hx _=>?_) ?_
     ·exact U66
     ·exact U67
    ·exact jw _
    ·exact U68
    all_goals try simp-implicitDefEqProofs only[V,↓reduceIte,rA,h1,h2,h3,h20,h21,hf]
    exact fun F' a=>a.skip fun _=>ay.1 qm
   |false=>
    simp-implicitDefEqProofs only[fe,V,↓reduceIte,rA,WF,h1,h2,h20,h21,h22,hlt,L.at aI hd,bS,gM,aG (cL m y om),e1,be,da,cS,cq,ck,gS,gq,gk,lJ,eW,gP,qm];have hyF:y∉F:=fun q=>by rw[ay.2 q] at qm;cases qm
    have hadd:addS y F=F++[y]:=by rw[addS,qm];rfl
    have hlenA:(addS y F).length=F.length+1:=by rw[hadd,io];rfl
    have hndA:=lh (x:=y) hF;have hkA:∀z∈addS y F,kn m z=true:=fun z hz=>by
     rcases dk.1 hz with q|rfl
     ·exact hk z q
     ·exact hkn
    have hle:=bD hndA fun z hz=>fX (hkA z hz);obtain⟨n',hn'⟩:∃n',n=n'+1:=⟨n-1,om⟩;have hS2:SetAt ((((s.h.alloc (.cells zDf true)).put s.h.next (some (.cells d.cells true)))).alloc (.cells [vS y] true)) q k F:=hS.st.to (by show s.h.next≤s.h.next+2;omega) fun x hx=>by
     have hx':x<s.h.next:=by rcases hx with rfl|rfl<;>omega
     rw[aB (by show x<s.h.next+1;omega),aP om,aB hx']
    obtain⟨h3',hc3,n3,o3⟩:=oU (b:=s.h.next+1) (x:=y) hS2 (aO (h:=(s.h.alloc (.cells zDf true)).put s.h.next (some (.cells d.cells true))));refine aW (by simp-implicitDefEqProofs only[V];exact hc3) ?_
    have n3:h3'.next=s.h.next+2:=n3;have o3':∀x,x<s.h.next→x≠k→h3'.get x=s.h.get x:=fun x hx hxk=>by
     rw[o3,if_neg hxk,aB (by show x<s.h.next+1;omega),aP om,aB hx]
    have hS3:RVS h3' m M S Vx q k (addS y F):=hS.to om o3' (by rw[o3,if_pos rfl])
    obtain⟨h4,F1,hc4,hS4,n4,o4,v4⟩:=ih n' hn' y (addS y F) h3' om hndA hkA hS3;have gV3:h3'.get Vx=some (.cells [.fn (.func 74) [] [.ptr M 0,.ptr S 0,.ptr Vx 0]] true):=hS3.gV;simp-implicitDefEqProofs only[V,↓reduceIte,rA,h3,gV3,iz,ja];refine aW (by simp-implicitDefEqProofs only[V];exact hc4) ?_
    have hk4:∀z∈F1,kn m z=true:=fun z hz=>by
     rcases v4.fr z hz with q|q
     ·exact hkA z q
     ·exact yO q
    have hl4:=bD hndA fun z hz=>v4.sub z hz;simp-implicitDefEqProofs only[V,↓reduceIte,rA,h22,w1];refine go _ F1 om v4.nd hk4 ?_ ?_ ?_ ?_ ?_ ?_ ?_ ?_ ?_ ?_ ?_
    ·simp-implicitDefEqProofs only[V];exact hS4
    ·exact U34
    ·intro z hz hzk;simp-implicitDefEqProofs only[V];rw[o4 z om hzk,o3' z hz hzk]
    all_goals try simp-implicitDefEqProofs only[V,↓reduceIte,rA,h1,h2,h3,h20,h21,hf]
    exact fun F' a=>a.cons hkn v4
theorem nJ{m:Md}{x:ByteArray}{d:Df}(h:fndD x m.ds.l=some d):sucC m x=(calD d).filter (kn m):=by rw[sucC,h]
theorem Lst.vst{m:Md}{x:ByteArray}{d:Df}{F F':List ByteArray}(h:fndD x m.ds.l=some d)(a:Lst (sucC m) (kn m) (calD d) F F'):Vst (sucC m) x F F':=
 ⟨a.sub,a.nd,a.cl,fun y hy=>by
  rw[nJ h] at hy;exact a.here y (jy.1 hy).1 (jy.1 hy).2,fun z hz=>by
  rcases a.fr z hz with q|⟨w,w1,w2,w3⟩
  ·exact .inl q
  ·have hw:w∈sucC m x:=by rw[nJ h];exact jy.2 ⟨w1,w2⟩
   rcases w3 with rfl|w3
   ·exact .inr (.one hw)
   ·exact .inr ((Rch.one hw).trans w3)⟩
theorem Vst.none{m:Md}{x:ByteArray}{F:List ByteArray}(h:fndD x m.ds.l=none)(hF:F.Nodup):Vst (sucC m) x F F:=
 ⟨fun _ h=>h,hF,fun _ h=>.inl h,fun y hy=>(by rw[sucC,h] at hy;cases hy),fun _ h=>.inl h⟩
theorem ko{m:Md}(hm:MdT m){M S Vx q k n:Nat}(ih:∀n',n=n'+1→VisP m M S Vx q k n'):VisP m M S Vx q k n:=by
 intro x F h hn hF hk hS;have hmn:=hm.n;have lM:=hS.lM;have gM:=hS.gM;have lS:=hS.lS;have lV:=hS.lV;have lq:=hS.st.lq;have lk:=hS.st.lm;have gk:=hS.st.gm;have ck:(k=h.next)=False:=by simp;omega
 obtain⟨v',h',hrun,rfl,F',hP⟩:=dU (g:=74) (l:=[vS x,.ptr M 0,.ptr S 0,.ptr Vx 0]) (h:=h) (fun v' h'=>v'=.tup []∧∃F',RVS h' m M S Vx q k F'∧h.next≤h'.next∧(∀y,y<h.next→y≠k→h'.get y=h.get y)∧Vst (sucC m) x F F') kr Ly (fun h=>ah (ae bQ)) fun s hs hh hd hrd=>by
  have h0:=hs 0 _ rfl;have h1:=hs 1 _ rfl;have h2:=hs 2 _ rfl;have h3:=hs 3 _ rfl;cases qd:fndD x m.ds.l with
  |none=>
   have e1:ansD x m.ds.l=.tup [.agg zDf,vB false]:=by rw[ansD,qd]
   simp-implicitDefEqProofs only[uR,f74,V,↓reduceIte,rA,reduceCtorEq,WF,h0,h1,hh,hd,gM,aG (cL m x om),e1,be,tQ];refine⟨[],rfl,rfl,F,?_,jw _,?_,Vst.none qd hF⟩
   ·refine hS.to (jw _) (fun y hy _=>?_) ?_
    ·rw[aP om,aB hy]
    ·rw[aP om,aB lk,gk]
   ·intro y hy _;rw[if_neg om,if_neg om]
  |some d=>
   have e1:ansD x m.ds.l=.tup [.agg d.cells,vB true]:=by rw[ansD,qd]
   obtain⟨hdm,_⟩:=ee qd;obtain⟨b1,b2⟩:=hm.b d hdm;obtain⟨nl,cap,hc75⟩:=nA d om om;have hcl:=Ec d;simp-implicitDefEqProofs only[uR,f74,V,↓reduceIte,rA,reduceCtorEq,WF,h0,h1,hh,gM,aG (cL m x om),e1,be,da,aG hc75];refine(sH hm ih ⟨calD d,nl,cap⟩ (by show(calD d).length<_;omega) (calD d) 0 _ F rfl (ir _) hn hF hk ?_ ?_ ?_ ?_ ?_ ?_ ?_ ?_).mono ?_
   ·refine hS.to (jw _) (fun y hy _=>?_) ?_
    ·exact U66
    ·exact U67
   all_goals try simp-implicitDefEqProofs only[V,↓reduceIte,rA,h1,h2,h3,hd]
   ·rfl
   rintro e s1 ⟨rfl,d1,F',r1,r2,r3,r4⟩
   try simp-implicitDefEqProofs only[V,↓reduceIte,rA,rB,rC,reduceCtorEq,rD,rE,rF,WB] at r2 r3
   have r2:h.next+1≤s1.h.next:=r2;simp-implicitDefEqProofs only[V,reduceCtorEq,WB,d1];refine⟨[],rfl,rfl,F',r1,om,fun y hy hyk=>?_,r4.vst qd⟩;rw[r3 y om hyk,if_neg om,if_neg om]
 exact⟨h',F',hrun,hP⟩
theorem nG{m:Md}(hm:MdT m){M S Vx q k:Nat}:∀n,VisP m M S Vx q k n
 |0=>ko hm fun n' h=>(by cases h)
 |n+1=>ko hm fun n' h=>by
  have:n'=n:=by omega
  subst this;exact nG hm n'
structure ReachC (m:Md) (x:ByteArray) (L:List ByteArray):Prop where
 srt:Srt L
 mem:∀z,z∈L↔Rch (sucC m) x z
theorem Tn{f:Fn}{a b:List AV}:(AV.fn f a b).cells=some [.fn f a b]:=rfl
theorem gF(ok:EnvOk i3 E1){m:Md}(hm:MdT m)(x:ByteArray):∃L,ReachC m x L∧KFact i3 E0.globs 49 [.agg m.cells,vS x] (nmV L):=by
 obtain⟨h1,hc1,n1,hS1,o1,t1⟩:=fN (h:=AH.empty.alloc (.cells m.cells true));have n1:h1.next=3:=n1;have hS1:SetAt h1 2 1 []:=hS1;have g0:h1.get 0=some (.cells m.cells true):=by rw[o1 0 (by show 0<1;omega)];exact aO (h:=AH.empty)
 have hfin:∃hB:AH,hB=((((h1.alloc (.cells [.val (.pointer none)] true)).put 3 (some (.cells [.ptr 2 0] true))).alloc (.cells [.val .nilFunc] true)).put 4 (some (.cells [.fn (.func 74) [] [.ptr 0 0,.ptr 3 0,.ptr 4 0]] true))):=⟨_,rfl⟩;obtain⟨hB,eB⟩:=hfin;have nB:hB.next=5:=by rw[eB];show h1.next+1+1=5;omega
 have oB:∀y,y<3→hB.get y=h1.get y:=fun y hy=>by
  rw[eB,aP om,aB (by show y<h1.next+1;omega),aP om,aB om]
 have hS2:RVS hB m 0 3 4 2 1 []:=by
  refine⟨om,om,om,by rw[oB 0 om,g0],?_,by rw[eB];exact bL,hS1.to om fun y hy=>oB y (by rcases hy with rfl|rfl<;>omega),om,om,om⟩
  rw[eB,aP om,aB (by show 3<h1.next+1;omega)]
  exact bL
 obtain⟨h2,F,hc2,hS3,n3,o3,v3⟩:=nG hm (nmM m).length x [] hB (by simp) Ao (fun z hz=>by cases hz) hS2
 have hmem:∀z,z∈F↔Rch (sucC m) x z:=fun z=>by
  constructor
  ·intro hz;rcases v3.fr z hz with q|q
   ·cases q
   ·exact q
  ·intro hz;refine hz.closed v3.here fun y hy w hw=>?_
   rcases v3.cl y hy with q|q
   ·cases q
   ·exact q w hw
 have hL:ReachC m x (unionS F []):=⟨lA _ _,fun z=>by rw[fW,←hmem];simp⟩
 have hFl:F.length≤m.ds.l.length:=by
  have:=bD v3.nd fun z hz=>fX (yO ((hmem z).1 hz))
  rwa [nmM,ji] at this
 have hmn:=hm.n;have hrel:=f9 ok hS3.st v3.nd om hL.srt (fun z=>by rw[fW];simp)
 refine⟨unionS F [],hL,so (E:=E1) ok Mi ?_⟩;have main:∀s:St,s.eval (.t 0)=some (.agg m.cells)→s.eval (.t 1)=some (vS x)→s.h=.empty→s.defers=[]→DW i3 E1 f49 s fun e1 s1=>(e1=.normal∨e1=.ret)∧∃r hc,leaveA E1 uY s1=some (r,hc)∧toTree (AM.freeze deepest r hc) deepest r=some (nmV (unionS F [])):=fun s h0 h1' hh hd=>by
  unfold f49;refine cK rfl (ag _ _ _ ?_);simp-implicitDefEqProofs only[V,h0,hh];refine cK rfl (ag _ _ _ ?_);simp-implicitDefEqProofs only[V];refine aW (by simp-implicitDefEqProofs only[V];exact hc1) ?_
  simp-implicitDefEqProofs only[V,↓reduceIte,rA,rB,WF,Em,n1];refine cK rfl (ag _ _ _ ?_);simp-implicitDefEqProofs only[V,rB,n1];refine cK rfl (ag _ _ _ ?_);simp-implicitDefEqProofs only[V,↓reduceIte,rA,rB,WF,n1,Tn];refine cK rfl (ag _ _ _ ?_);simp-implicitDefEqProofs only[V,↓reduceIte,rA,h1',iz,ja];refine aW (by simp-implicitDefEqProofs only[V];rw[←eB];exact hc2) ?_
  simp-implicitDefEqProofs only[V];refine DW.seq (K1:=fun e1 s1=>e1=.normal∧∃r,s1.eval (.t 4)=some r∧s1.defers=[]∧SDone h2 (unionS F []) r s1.h) (DW.region ?_) (fun s1 k=>?_) (fun e1 s1 hne k=>by rw[k.1] at hne;cases hne)
  ·refine bh [⟨some 12,none,.load none (.t 5)⟩] _ _ ?_
   have gS:=hS3.gS;simp-implicitDefEqProofs only[V,↓reduceIte,rA,gS];refine gz (l:=[.ptr 2 0]) (R:=SDone h2 (unionS F [])) ?_ (by simp-implicitDefEqProofs only[V];exact hrel) ?_
   ·exact U36
   ·intro v h3 hD;refine ki ?_
    simp-implicitDefEqProofs only[V,↓reduceIte,hd];exact⟨v,rfl,hD⟩
  ·obtain⟨_,r,t2,d1,hD⟩:=k;refine DW.run rfl (ag _ _ _ ?_);simp-implicitDefEqProofs only[V,reduceCtorEq];refine⟨r,s1.h,?_,?_⟩
   ·simp-implicitDefEqProofs only[leaveA,uY,d1,runDefers,V];show(match consO (s1.eval (.t 4)) (some []) with
     |some l=>some (oneOrTup l,s1.h)
     |none=>none)=some (r,s1.h)
    rw[t2];rfl
   ·obtain⟨h1,f1,f2,f3,f4⟩:=ed hD.1;rw[f1,f4,kV rfl];rfl
 exact main _ rfl rfl rfl rfl
end Go.Proofs.YtkmoeaplhnabcaaGreatDoor
