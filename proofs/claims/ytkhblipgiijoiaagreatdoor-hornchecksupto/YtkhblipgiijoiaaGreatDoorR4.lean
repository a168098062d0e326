/- ZBool ZSort ZSenv ZBulk ZTypes ZPreds ZFew ZSmall ZFits ZClause ZCheckh -/
import Derived.Test.YtkhblipgiijoiaaGreatDoorU0
import Derived.Test.YtkhblipgiijoiaaGreatDoorD1
import Derived.Test.YtkhblipgiijoiaaGreatDoorH1
import Derived.Test.YtkhblipgiijoiaaGreatDoorR1

set_option linter.all false
open Nat renaming reduceEqDiff → rA, reduceAdd → rB, reduceMul → rC
open Int renaming reduceEq → rD, reduceLT → rE, reduceLE → rF
open Option.some renaming injEq → sI
open Bool renaming and_eq_true → ii, false_and → jw, false_or → Bm, not_false → jv, true_and → jj
open List renaming all_cons → iv, all_nil → is, append_assoc → jk, append_nil → iz, cons_append → j6, drop_succ_cons → jq, drop_zero → j9, eq_nil_of_length_eq_zero → Bt, flatMap_cons → A8, flatMap_nil → Bw, length_append → io, length_cons → il, length_nil → jf, mem_append → jb, mem_cons → ie, mem_cons_self → ik, mem_nil_iff → j7, mem_of_mem_drop → jh, mem_singleton → ig, nil_append → im, take_succ_cons → jr, take_zero → jg
open Nat renaming le_refl → ib, lt_succ_self → jx, zero_add → je, zero_le → ic
open Option renaming isSome_none → Bl
namespace Go.Proofs.YtkhblipgiijoiaaGreatDoor
open Go Go.AM
set_option maxHeartbeats 4000000
variable [KR]
mutual
theorem Pf:∀p:Pr,chk Na p=0→p.two=true
 |.mk o s n ks nl cap,h=>by
  simp only[chk] at h;split at h
  ·rename_i q;simp only[Pr.two,ii];refine⟨?_,Gg ks h⟩;cases ho:(decide (o=10)||decide (o=11)) with
   |false=>rfl
   |true=>
    have:o=10∨o=11:=by simpa using ho
    have:=aKV (p:=.mk o s n ks nl cap) q this;have:ks.length=2:=this;simp[this]
  ·rename_i q;exact absurd h q
theorem Gg:∀l:List Pr,chkL Na l=0→Pr.twoL l=true
 | [],_=>rfl
 |k::r,h=>by
  simp only[chkL] at h;split at h
  ·rename_i q;simp only[Pr.twoL,ii];exact⟨Pf k q,Gg r h⟩
  ·rename_i q;exact absurd h q
end
theorem Yi{p:Pr}(h:ckS Na p=0):p.two=true∧p.nodes≤400∧p.depth≤40∧chk Na p=0:=by
 unfold ckS at h;split at h
 ·cases h
 ·split at h
  ·cases h
  ·exact⟨Pf p h,om,om,h⟩
noncomputable def ofS (Vx:Evr) (p:Pr):ByteArray×Int:=bif decide (ckS Na p=0) then p.sor Vx else(⟨#[]⟩,ckS Na p)
theorem ls(Vx:Evr)(hV:EvB Vx)(p:Pr)(hb:p.nodes<2^61)(h:AH):RunCall E1 (.f 49) [.agg Vx.cells,p.av] h (ansA (ofS Vx p)) h:=by
 refine aC kr kr (bT (Tree.ev Vx) (Tree.pr p)) rfl (br _) (cg (rs:=[vS ((ofS Vx p).1),vI ((ofS Vx p).2)]) aJE fun s hs hh hd=>?_) h;have h0:=hs 0 _ rfl;have h1:=hs 1 _ rfl;unfold ofS;cases hc:decide (ckS Na p=0) with
 |false=>
  simp-implicitDefEqProofs only[Kh,f49,V,↓reduceIte,rA,reduceCtorEq,h0,h1,hh,hd,aA (lO p hb),hc]
 |true=>
  obtain⟨q1,q2,q3,q4⟩:=Yi (of_decide_eq_true hc);simp-implicitDefEqProofs only[Kh,f49,V,↓reduceIte,rA,rB,WF,h0,h1,hh,aA (lO p hb),hc,Gr,im,j6];obtain⟨h',c1,n1,o1⟩:=vm Vx hV p q1 om ((((AH.empty.alloc (.cells Vx.cells true)).alloc (.cells p.cells true)).alloc (.cells [.val .nilFunc] true)).put 2 (some (.cells [.fn (.func 77) [] [.ptr 2 0,.ptr 0 0]] true))) 0 2 (by show 0<3;decide) (by show 2<3;decide) (by simp[AH.get_put,AH.get_alloc,mn]) (by simp[AH.get_put])
  refine aW (v:=ansA (p.sor Vx)) (h':=h') ?_ ?_
  ·exact U65
  simp-implicitDefEqProofs only[V,↓reduceIte,rA,reduceCtorEq,ansA,hd]
noncomputable def boolS (Vx:Evr) (p:Pr):Int:=bif p.same zPr then 0 else bif decide ((ofS Vx p).2=0)&& !strEq (ofS Vx p).1 sBool then 11 else(ofS Vx p).2
theorem np(Vx:Evr)(hV:EvB Vx)(p:Pr)(hb:p.nodes<2^61)(h:AH):RunCall E1 (.f 23) [.agg Vx.cells,p.av] h (vI (boolS Vx p)) h:=by
 refine ai kr aJU (bT (Tree.ev Vx) (Tree.pr p)) rfl (Tree.val _) (fun s hs hh hd hr=>?_) h;have h0:=hs 0 _ rfl;have h1:=hs 1 _ rfl;have s1e:(⟨#[66,111,111,108]⟩:ByteArray)=sBool:=rfl;unfold boolS;cases hz:p.same zPr with
 |true=>
  simp-implicitDefEqProofs only[tS,f23,V,↓reduceIte,rA,reduceCtorEq,WF,h0,h1,hh,hd,kK hb,hz]
 |false=>
  cases hc:decide ((ofS Vx p).2=0) with
  |false=>simp-implicitDefEqProofs only[tS,f23,V,↓reduceIte,rA,reduceCtorEq,WF,h0,h1,hh,hd,kK hb,hz,aA (ls Vx hV p hb),ansA,hc]
  |true=>cases hq:strEq (ofS Vx p).1 sBool with
   |true=>simp-implicitDefEqProofs only[tS,f23,V,↓reduceIte,rA,reduceCtorEq,WF,h0,h1,hh,hd,kK hb,hz,aA (ls Vx hV p hb),ansA,hc,s1e,hq]
   |false=>simp-implicitDefEqProofs only[tS,f23,V,↓reduceIte,rA,reduceCtorEq,WF,h0,h1,hh,hd,kK hb,hz,aA (ls Vx hV p hb),ansA,hc,s1e,hq]
theorem aKJ:coreA ⟨#[]⟩=3:=by kernel_rfl
theorem w7{b:ByteArray}(h:coreA b=0):1≤b.size:=by
 rcases Nat.eq_zero_or_pos b.size with e|e
 ·obtain⟨⟨l⟩⟩:=b;have:l=[]:=Bt e;subst this;rw[show coreA ⟨#[]⟩=3 from aKJ] at h;cases h
 ·exact e
def srtE(b:ByteArray):Int:=bif strEq b ⟨#[73,110,116]⟩||strEq b ⟨#[66,111,111,108]⟩||strEq b ⟨#[67,101,108,108]⟩ then 0 else bif decide (coreA b=0)&&headB capB (bs b) then 0 else 11
theorem bl(b:ByteArray)(h:AH):RunCall E1 (.f 84) [vS b] h (vI (srtE b)) h:=by
 have hA:=aj b;refine ai kr aIC (aN (Tree.val _)) rfl (Tree.val _) (fun s hs hh hd hr=>?_) h;have h0:=hs 0 _ rfl;unfold srtE;cases q1:strEq b ⟨#[73,110,116]⟩ with
 |true=>simp-implicitDefEqProofs only[mQ,f84,V,↓reduceIte,reduceCtorEq,h0,hd,q1]
 |false=>cases q2:strEq b ⟨#[66,111,111,108]⟩ with
  |true=>simp-implicitDefEqProofs only[mQ,f84,V,↓reduceIte,rA,reduceCtorEq,h0,hd,q1,q2]
  |false=>cases q3:strEq b ⟨#[67,101,108,108]⟩ with
   |true=>simp-implicitDefEqProofs only[mQ,f84,V,↓reduceIte,rA,reduceCtorEq,h0,hd,q1,q2,q3]
   |false=>cases hc:decide (coreA b=0) with
    |false=>simp-implicitDefEqProofs only[mQ,f84,V,↓reduceIte,rA,reduceCtorEq,h0,hd,q1,q2,q3,aA hA,hc]
    |true=>
     have hz:=w7 (of_decide_eq_true hc);obtain⟨c,r,hi,hl⟩:=d4 hz;have hx:=cE hi;obtain⟨l1,e1⟩:∃B,decide (((c.toNat:Nat):Int)<65)=B:=⟨_,rfl⟩;obtain⟨l2,e2⟩:∃B,decide ((90:Int)<((c.toNat:Nat):Int))=B:=⟨_,rfl⟩;have ec:headB capB (bs b)=(!l1&& !l2):=by
      rw[hl,←e1,←e2,←decide_not,←decide_not];show(decide (65≤((c.toNat:Nat):Int))&&decide (((c.toNat:Nat):Int)≤90))=_;rw[show decide (65≤((c.toNat:Nat):Int))=decide ¬((c.toNat:Nat):Int)<65 by rw[decide_eq_decide];omega,show decide (((c.toNat:Nat):Int)≤90)=decide ¬(90:Int)<((c.toNat:Nat):Int) by rw[decide_eq_decide];omega]
     rw[ec];cases l1<;>cases l2<;>simp-implicitDefEqProofs only[mQ,f84,V,↓reduceIte,rA,reduceCtorEq,h0,hd,q1,q2,q3,aA hA,hc,hx,e1,e2]
def sV:ByteArray:=⟨#[118]⟩
def vE:List ByteArray→List Vr→Int
 |_,[]=>0
 |seen,v::r=>bif !strEq v.nm sV&& !decide (coreA v.nm=0) then 3 else bif memS v.nm seen then 4 else bif decide (srtE v.so=0) then vE (addS v.nm seen) r else srtE v.so
def varsE(l:List Vr):Int:=bif decide ((24:Int)<(l.length:Nat)) then 7 else vE [] l
theorem jC{h:AH}{b:Nat}{a0 a1:AV}{p:Vr}:stK h b 2 0 p.cells (some (.cells [a0,a1] true))=some (h.put b (some (.cells p.cells true))):=dA rfl rfl
theorem tE(w:Vl Vr)(hN:w.l.length<2^61):∀(r:List Vr) (i:Nat) (s:St) (seen:List ByteArray),w.l.drop i=r→i≤w.l.length→0<s.h.next→s.h.get 0=some (mapB seen)→
  s.eval (.t 3)=some (.mp 0)→s.eval (.t 11)=some (w.A Vr.cells)→s.eval (.t 12)=some (vI (w.l.length:Nat))→s.eval (.t 13)=some (vI (i:Nat))→s.defers=[]→
  Run E1 yl s fun e s'=>s'.defers=[]∧((vE seen r=0∧e=.exit 0)∨(vE seen r≠0∧e=.ret∧s'.eval (.t 2)=some (vI (vE seen r))))
 | [],i,s,seen,hd,hi,hn,g0,h3,h11,h12,h13,hf=>by
  have hl:=aG hd hi;subst hl;apply aB (rfl:yl=.loop dx);simp-implicitDefEqProofs only[dx,V,↓reduceIte,rA,reduceCtorEq,h12,h13,hf,bA,vE]
 |k::r,i,s,seen,hd,hi,hn,g0,h3,h11,h12,h13,hf=>by
  have hl:=aH hd;have hlt:=bD hl;have w1:IntKind.i64.wrap ((i:Int)+1)=((i+1:Nat):Int):=aD (n:=i+1) om;have n0:(0=s.h.next)=False:=eq_false om;have s1e:(⟨#[118]⟩:ByteArray)=sV:=rfl;apply aB (rfl:yl=.loop dx);cases hv:strEq k.nm sV with
  |true=>
   cases hm:memS k.nm seen with
   |true=>
    simp-implicitDefEqProofs only[dx,V,↓reduceIte,rA,reduceCtorEq,rD,WF,h3,h11,h12,h13,hf,hlt,w.at Vr.len hd,jC,s1e,hv,cW,bX,bk,g0,n0,hm,vE];exact .inr de
   |false=>cases ht:decide (srtE k.so=0) with
    |false=>
     simp-implicitDefEqProofs only[dx,V,↓reduceIte,rA,reduceCtorEq,WF,h3,h11,h12,h13,hf,hlt,w.at Vr.len hd,jC,s1e,hv,cW,bX,bk,kL,dW,ew,g0,n0,hm,aA (bl k.so),ht,vE,(eq_false om:(s.h.next=0)=False)];exact .inr (of_decide_eq_false ht)
    |true=>
     simp-implicitDefEqProofs only[dx,V,↓reduceIte,rA,WF,h3,h11,h12,h13,hlt,w.at Vr.len hd,jC,s1e,hv,cW,bX,bk,kL,dW,ew,g0,n0,hm,aA (bl k.so),ht,vE,w1,(eq_false om:(s.h.next=0)=False)];refine tE w hN r (i+1) _ (addS k.nm seen) (aF hd) om ?_ ?_ ?_ ?_ ?_ ?_ ?_
     ·exact U52
     ·exact U36
     all_goals simp-implicitDefEqProofs only[V,↓reduceIte,rA,h3,h11,h12,hf]
  |false=>cases hc:decide (coreA k.nm=0) with
   |false=>
    simp-implicitDefEqProofs only[dx,V,↓reduceIte,rA,reduceCtorEq,rD,WF,h11,h12,h13,hf,hlt,w.at Vr.len hd,jC,s1e,hv,aA (aj k.nm),hc,vE];exact .inr de
   |true=>
    cases hm:memS k.nm seen with
    |true=>
     simp-implicitDefEqProofs only[dx,V,↓reduceIte,rA,reduceCtorEq,rD,WF,h3,h11,h12,h13,hf,hlt,w.at Vr.len hd,jC,s1e,hv,aA (aj k.nm),hc,cW,bX,bk,g0,n0,hm,vE];exact .inr de
    |false=>cases ht:decide (srtE k.so=0) with
     |false=>
      simp-implicitDefEqProofs only[dx,V,↓reduceIte,rA,reduceCtorEq,WF,h3,h11,h12,h13,hf,hlt,w.at Vr.len hd,jC,s1e,hv,aA (aj k.nm),hc,cW,bX,bk,kL,dW,ew,g0,n0,hm,aA (bl k.so),ht,vE,(eq_false om:(s.h.next=0)=False)];exact .inr (of_decide_eq_false ht)
     |true=>
      simp-implicitDefEqProofs only[dx,V,↓reduceIte,rA,WF,h3,h11,h12,h13,hlt,w.at Vr.len hd,jC,s1e,hv,aA (aj k.nm),hc,cW,bX,bk,kL,dW,ew,g0,n0,hm,aA (bl k.so),ht,vE,w1,(eq_false om:(s.h.next=0)=False)];refine tE w hN r (i+1) _ (addS k.nm seen) (aF hd) om ?_ ?_ ?_ ?_ ?_ ?_ ?_
      ·exact U52
      ·exact U36
      all_goals simp-implicitDefEqProofs only[V,↓reduceIte,rA,h3,h11,h12,hf]
theorem nD(w:Vl Vr)(hN:w.l.length<2^61)(h:AH):RunCall E1 (.f 57) [w.A Vr.cells] h (vI (varsE w.l)) h:=by
 refine ai kr aIV (aN Vl.leaf.tree) rfl (Tree.val _) (fun s hs hh hd hr=>?_) h;have h0:=hs 0 _ rfl;unfold varsE;cases hc:decide ((24:Int)<(w.l.length:Nat)) with
 |true=>simp-implicitDefEqProofs only[Ka,f57,V,↓reduceIte,reduceCtorEq,h0,hd,hc]
 |false=>
  simp-implicitDefEqProofs only[Ka,f57,V,↓reduceIte,reduceCtorEq,h0,hh,hc,o6,rp];refine(tE w hN w.l 0 _ [] rfl (ic _) ?_ ?_ ?_ ?_ ?_ ?_ ?_).mono ?_
  ·exact U60
  ·exact U36
  ·exact U36
  ·exact U36
  ·exact U36
  ·exact U58
  ·exact U40
  rintro e s1 ⟨d1,⟨q,rfl⟩|⟨q,rfl,e2⟩⟩
  ·exact U82
  ·exact U102
def argE:List ByteArray→Int
 | []=>0
 |k::r=>bif decide (srtE k=0) then argE r else srtE k
theorem Et(y:Sm)(hN:y.as.l.length<2^61):∀(r:List ByteArray) (i:Nat) (s:St),y.as.l.drop i=r→i≤y.as.l.length→
  s.eval (.t 1)=some (.ptr 0 0)→s.eval (.t 21)=some (y.as.A strA)→s.eval (.t 22)=some (vI (y.as.l.length:Nat))→s.eval (.t 23)=some (vI (i:Nat))→s.defers=[]→
  Run E1 yV s fun e s'=>s'.defers=[]∧((argE r=0∧e=.exit 0∧s'.h=s.h∧s'.eval (.t 1)=some (.ptr 0 0))∨(argE r≠0∧e=.ret∧s'.eval (.t 2)=some (vI (argE r))))
 | [],i,s,hd,hi,h1,h21,h22,h23,hf=>by
  have hl:=aG hd hi;subst hl;apply aB (rfl:yV=.loop mP);simp-implicitDefEqProofs only[mP,V,↓reduceIte,rA,reduceCtorEq,h1,h22,h23,hf,bA,argE]
 |k::r,i,s,hd,hi,h1,h21,h22,h23,hf=>by
  have hl:=aH hd;have hlt:=bD hl;have w1:IntKind.i64.wrap ((i:Int)+1)=((i+1:Nat):Int):=aD (n:=i+1) om;apply aB (rfl:yV=.loop mP);rw[argE];cases ht:decide (srtE k=0) with
  |false=>
   simp-implicitDefEqProofs only[mP,V,↓reduceIte,rA,reduceCtorEq,h1,h21,h22,h23,hf,hlt,y.as.at aK hd,strA,j6,im,aA (bl k),ht];exact .inr (of_decide_eq_false ht)
  |true=>
   simp-implicitDefEqProofs only[mP,V,↓reduceIte,rA,h21,h22,h23,hlt,y.as.at aK hd,strA,j6,im,aA (bl k),ht,w1];refine(Et y hN r (i+1) _ (aF hd) om ?_ ?_ ?_ ?_ ?_).mono ?_
   all_goals simp-implicitDefEqProofs only[V,↓reduceIte,rA,h1,h21,h22,hf]
   intro e s1 h;exact h
def symE(y:Sm):Int:=bif !decide (coreA y.nm=0) then 3 else bif decide (((y.as.l.length:Nat):Int)<1)||decide ((6:Int)<((y.as.l.length:Nat):Int)) then 13 else bif decide (argE y.as.l=0) then srtE y.res else argE y.as.l
theorem Gx(y:Sm)(hN:y.as.l.length<2^61)(h:AH):RunCall E1 (.f 85) [.agg y.cells] h (vI (symE y)) h:=by
 refine ai kr aIB (aN (Tree.sm y)) rfl (Tree.val _) (fun s hs hh hd hr=>?_) h;have h0:=hs 0 _ rfl;unfold symE;cases hc:decide (coreA y.nm=0) with
 |false=>simp-implicitDefEqProofs only[su,f85,V,↓reduceIte,rA,reduceCtorEq,h0,hh,hd,aA (aj y.nm),hc]
 |true=>
  cases l1:decide (((y.as.l.length:Nat):Int)<1) with
  |true=>simp-implicitDefEqProofs only[su,f85,V,↓reduceIte,rA,reduceCtorEq,h0,hh,hd,aA (aj y.nm),hc,l1]
  |false=>cases l2:decide ((6:Int)<((y.as.l.length:Nat):Int)) with
   |true=>simp-implicitDefEqProofs only[su,f85,V,↓reduceIte,rA,reduceCtorEq,h0,hh,hd,aA (aj y.nm),hc,l1,l2]
   |false=>
    simp-implicitDefEqProofs only[su,f85,V,↓reduceIte,rA,h0,hh,aA (aj y.nm),hc,l1,l2];refine(Et y hN y.as.l 0 _ rfl (ic _) ?_ ?_ ?_ ?_ ?_).mono ?_
    ·exact U36
    ·exact U36
    ·exact U36
    ·exact U58
    ·exact U40
    rintro e s1 ⟨d1,⟨z,rfl,e1,e2⟩|⟨z,rfl,e2⟩⟩
    ·simp-implicitDefEqProofs only[V] at e1;simp-implicitDefEqProofs only[V,↓reduceIte,reduceCtorEq,WB,d1,e1,e2,aA (bl y.res),z]
    ·simp-implicitDefEqProofs only[V,reduceCtorEq,d1,e2,decide_eq_false z]
def yE:List ByteArray→List Sm→Int
 |_,[]=>0
 |seen,y::r=>bif decide (symE y=0) then(bif memS y.nm seen then 4 else yE (addS y.nm seen) r) else symE y
def symsE(l:List Sm):Int:=bif decide ((64:Int)<(l.length:Nat)) then 7 else yE [] l
theorem Fm(w:Vl Sm)(hN:w.l.length<2^61)(hP:∀x∈w.l,x.as.l.length<2^61):∀(r:List Sm) (i:Nat) (s:St) (seen:List ByteArray),w.l.drop i=r→i≤w.l.length→0<s.h.next→s.h.get 0=some (mapB seen)→
  s.eval (.t 3)=some (.mp 0)→s.eval (.t 11)=some (w.A Sm.cells)→s.eval (.t 12)=some (vI (w.l.length:Nat))→s.eval (.t 13)=some (vI (i:Nat))→s.defers=[]→
  Run E1 yk s fun e s'=>s'.defers=[]∧((yE seen r=0∧e=.exit 0)∨(yE seen r≠0∧e=.ret∧s'.eval (.t 2)=some (vI (yE seen r))))
 | [],i,s,seen,hd,hi,hn,g0,h3,h11,h12,h13,hf=>by
  have hl:=aG hd hi;subst hl;apply aB (rfl:yk=.loop jO);simp-implicitDefEqProofs only[jO,V,↓reduceIte,rA,reduceCtorEq,h12,h13,hf,bA,yE]
 |k::r,i,s,seen,hd,hi,hn,g0,h3,h11,h12,h13,hf=>by
  have hl:=aH hd;have hlt:=bD hl;have w1:IntKind.i64.wrap ((i:Int)+1)=((i+1:Nat):Int):=aD (n:=i+1) om;have n0:(0=s.h.next)=False:=eq_false om;have hx:=Gx k (hP k (jh (i:=i) (by rw[hd];exact ik)))
  apply aB (rfl:yk=.loop jO);rw[yE];cases hc:decide (symE k=0) with
  |false=>
   simp-implicitDefEqProofs only[jO,V,↓reduceIte,rA,reduceCtorEq,WF,h11,h12,h13,hf,hlt,w.at Sm.len hd,cD,aA hx,hc];exact .inr (of_decide_eq_false hc)
  |true=>cases hm:memS k.nm seen with
   |true=>
    simp-implicitDefEqProofs only[jO,V,↓reduceIte,rA,reduceCtorEq,rD,WF,h3,h11,h12,h13,hf,hlt,w.at Sm.len hd,cD,aA hx,hc,cW,bX,bk,g0,n0,hm];exact .inr de
   |false=>
    simp-implicitDefEqProofs only[jO,V,↓reduceIte,rA,WF,h3,h11,h12,h13,hlt,w.at Sm.len hd,cD,aA hx,hc,cW,bX,bk,kL,dW,ew,g0,n0,hm,w1];refine Fm w hN hP r (i+1) _ (addS k.nm seen) (aF hd) om ?_ ?_ ?_ ?_ ?_ ?_ ?_
    ·exact U52
    ·exact U36
    all_goals simp-implicitDefEqProofs only[V,↓reduceIte,rA,h3,h11,h12,hf]
theorem zy(w:Vl Sm)(hN:w.l.length<2^61)(hP:∀x∈w.l,x.as.l.length<2^61)(h:AH):RunCall E1 (.f 58) [w.A Sm.cells] h (vI (symsE w.l)) h:=by
 refine ai kr aIU (aN Vl.leaf.tree) rfl (Tree.val _) (fun s hs hh hd hr=>?_) h;have h0:=hs 0 _ rfl;unfold symsE;cases hc:decide ((64:Int)<(w.l.length:Nat)) with
 |true=>simp-implicitDefEqProofs only[Jz,f58,V,↓reduceIte,reduceCtorEq,h0,hd,hc]
 |false=>
  simp-implicitDefEqProofs only[Jz,f58,V,↓reduceIte,reduceCtorEq,h0,hh,hc,o6,rp];refine(Fm w hN hP w.l 0 _ [] rfl (ic _) ?_ ?_ ?_ ?_ ?_ ?_ ?_).mono ?_
  ·exact U60
  ·exact U36
  ·exact U36
  ·exact U36
  ·exact U36
  ·exact U58
  ·exact U40
  rintro e s1 ⟨d1,⟨q,rfl⟩|⟨q,rfl,e2⟩⟩
  ·exact U82
  ·exact U102
def hE:List ByteArray→List Ho→Int
 |_,[]=>0
 |seen,h::r=>bif !decide (coreA h.nm=0) then 3 else bif memS h.nm seen then 4 else bif decide (((h.ps.l.length:Nat):Int)=0) then 13 else bif decide (varsE h.ps.l=0) then hE (addS h.nm seen) r else varsE h.ps.l
def holesE(l:List Ho):Int:=bif decide ((40:Int)<(l.length:Nat)) then 7 else hE [] l
theorem Fl(w:Vl Ho)(hN:w.l.length<2^61)(hP:∀x∈w.l,x.ps.l.length<2^61):∀(r:List Ho) (i:Nat) (s:St) (seen:List ByteArray),w.l.drop i=r→i≤w.l.length→0<s.h.next→s.h.get 0=some (mapB seen)→
  s.eval (.t 3)=some (.mp 0)→s.eval (.t 11)=some (w.A Ho.cells)→s.eval (.t 12)=some (vI (w.l.length:Nat))→s.eval (.t 13)=some (vI (i:Nat))→s.defers=[]→
  Run E1 yj s fun e s'=>s'.defers=[]∧((hE seen r=0∧e=.exit 0)∨(hE seen r≠0∧e=.ret∧s'.eval (.t 2)=some (vI (hE seen r))))
 | [],i,s,seen,hd,hi,hn,g0,h3,h11,h12,h13,hf=>by
  have hl:=aG hd hi;subst hl;apply aB (rfl:yj=.loop fI);simp-implicitDefEqProofs only[fI,V,↓reduceIte,rA,reduceCtorEq,h12,h13,hf,bA,hE]
 |k::r,i,s,seen,hd,hi,hn,g0,h3,h11,h12,h13,hf=>by
  have hl:=aH hd;have hlt:=bD hl;have w1:IntKind.i64.wrap ((i:Int)+1)=((i+1:Nat):Int):=aD (n:=i+1) om;have n0:(0=s.h.next)=False:=eq_false om;have n1:(s.h.next=0)=False:=eq_false om;have hv:=nD k.ps (hP k (jh (i:=i) (by rw[hd];exact ik)))
  apply aB (rfl:yj=.loop fI);cases hc:decide (coreA k.nm=0) with
  |false=>
   simp-implicitDefEqProofs only[fI,V,↓reduceIte,rA,reduceCtorEq,rD,WF,h11,h12,h13,hf,hlt,w.at Ho.len hd,bh,aA (aj k.nm),hc,hE];exact .inr de
  |true=>cases hm:memS k.nm seen with
   |true=>
    simp-implicitDefEqProofs only[fI,V,↓reduceIte,rA,reduceCtorEq,rD,WF,h3,h11,h12,h13,hf,hlt,w.at Ho.len hd,bh,aA (aj k.nm),hc,cW,bX,bk,g0,n0,hm,hE];exact .inr de
   |false=>cases hz:decide (((k.ps.l.length:Nat):Int)=0) with
    |true=>
     simp-implicitDefEqProofs only[fI,V,↓reduceIte,rA,reduceCtorEq,rD,WF,h3,h11,h12,h13,hf,hlt,w.at Ho.len hd,bh,aA (aj k.nm),hc,cW,bX,bk,kL,dW,ew,g0,n0,n1,hm,hz,hE];exact .inr de
    |false=>cases ht:decide (varsE k.ps.l=0) with
     |false=>
      simp-implicitDefEqProofs only[fI,V,↓reduceIte,rA,reduceCtorEq,WF,h3,h11,h12,h13,hf,hlt,w.at Ho.len hd,bh,aA (aj k.nm),hc,cW,bX,bk,kL,dW,ew,g0,n0,n1,hm,hz,aA hv,ht,hE];exact .inr (of_decide_eq_false ht)
     |true=>
      simp-implicitDefEqProofs only[fI,V,↓reduceIte,rA,WF,h3,h11,h12,h13,hlt,w.at Ho.len hd,bh,aA (aj k.nm),hc,cW,bX,bk,kL,dW,ew,g0,n0,n1,hm,hz,aA hv,ht,hE,w1];refine Fl w hN hP r (i+1) _ (addS k.nm seen) (aF hd) om ?_ ?_ ?_ ?_ ?_ ?_ ?_
      ·exact U52
      ·exact U36
      all_goals simp-implicitDefEqProofs only[V,↓reduceIte,rA,h3,h11,h12,hf]
theorem yJ(w:Vl Ho)(hN:w.l.length<2^61)(hP:∀x∈w.l,x.ps.l.length<2^61)(h:AH):RunCall E1 (.f 59) [w.A Ho.cells] h (vI (holesE w.l)) h:=by
 refine ai kr aIT (aN Vl.leaf.tree) rfl (Tree.val _) (fun s hs hh hd hr=>?_) h;have h0:=hs 0 _ rfl;unfold holesE;cases hc:decide ((40:Int)<(w.l.length:Nat)) with
 |true=>simp-implicitDefEqProofs only[Jy,f59,V,↓reduceIte,reduceCtorEq,h0,hd,hc]
 |false=>
  simp-implicitDefEqProofs only[Jy,f59,V,↓reduceIte,reduceCtorEq,h0,hh,hc,o6,rp];refine(Fl w hN hP w.l 0 _ [] rfl (ic _) ?_ ?_ ?_ ?_ ?_ ?_ ?_).mono ?_
  ·exact U60
  ·exact U36
  ·exact U36
  ·exact U36
  ·exact U36
  ·exact U58
  ·exact U40
  rintro e s1 ⟨d1,⟨q,rfl⟩|⟨q,rfl,e2⟩⟩
  ·exact U82
  ·exact U102
def envE(Vx:Evr):Int:=bif decide (varsE Vx.vs.l=0) then(bif decide (symsE Vx.sy.l=0) then holesE Vx.hs.l else symsE Vx.sy.l) else varsE Vx.vs.l
theorem tn(Vx:Evr)(hV:Vx.vs.l.length<2^61)(hY:Vx.sy.l.length<2^61)(hYP:∀x∈Vx.sy.l,x.as.l.length<2^61)(hN:Vx.hs.l.length<2^61)(hP:∀x∈Vx.hs.l,x.ps.l.length<2^61)(h:AH):
  RunCall E1 (.f 33) [.agg Vx.cells] h (vI (envE Vx)) h:=by
 have c1:=nD Vx.vs hV;have c2:=zy Vx.sy hY hYP;have c3:=yJ Vx.hs hN hP;refine ai kr aJP (aN (Tree.ev Vx)) rfl (Tree.val _) (fun s hs hh hd hr=>?_) h;have h0:=hs 0 _ rfl;unfold envE;cases q1:decide (varsE Vx.vs.l=0) with
 |false=>simp-implicitDefEqProofs only[zA,f33,V,↓reduceIte,rA,reduceCtorEq,h0,hh,hd,aA c1,q1]
 |true=>cases q2:decide (symsE Vx.sy.l=0) with
  |false=>simp-implicitDefEqProofs only[zA,f33,V,↓reduceIte,rA,reduceCtorEq,h0,hh,hd,aA c1,aA c2,q1,q2]
  |true=>simp-implicitDefEqProofs only[zA,f33,V,↓reduceIte,rA,reduceCtorEq,h0,hh,hd,aA c1,aA c2,aA c3,q1,q2]
mutual
def Pr.wt:Pr→Nat
 |.mk _ s _ ks _ _=>1+s.size+Pr.wtL ks
def Pr.wtL:List Pr→Nat
 | []=>0
 |k::r=>k.wt+Pr.wtL r
end
theorem aEM(p:Pr):p.wt=1+p.nm.size+Pr.wtL p.ks:=by cases p;rfl
mutual
theorem kX:∀p:Pr,p.nodes≤p.wt
 |.mk o s n ks a b=>by
  have:=cQ ks;simp only[Pr.nodes,Pr.wt];omega
theorem cQ:∀l:List Pr,Pr.nodesL l≤Pr.wtL l
 | []=>ib _
 |k::r=>by
  have h1:=kX k;have h2:=cQ r;simp only[Pr.nodesL,Pr.wtL];omega
end
theorem dU:∀l:List Pr,l.length≤Pr.wtL l
 | []=>ib _
 |k::r=>by
  have h1:=dU r;have h2:=aEM k;simp only[il,Pr.wtL];omega
theorem Ln{P:Program}{t:TypeId}{g:Bool}{n:Nat}(hn:n≤2^30):binA P .quo t g (vI (n:Int)) (vI 50)=some (vI ((n/50:Nat):Int)):=by
 have h1:(n:Int).tdiv 50=((n/50:Nat):Int):=rfl;have h2:IntKind.i64.wrap ((n/50:Nat):Int)=((n/50:Nat):Int):=aD (n:=n/50) om;have h3:binInt .quo .i64 (n:Int) 50=some (.int .i64 ((n/50:Nat):Int)):=by
  show(bif (50:Int)==0 then none else some (Value.int .i64 (IntKind.i64.wrap ((n:Int).tdiv 50))))=_;rw[h1,h2];rfl
 simp only[binA,h3];rfl
theorem Pr.s1{p:Pr}{l:List AV}:fieldAddrV 1 (.iptr (p.cells++l))=some (.iptr (vS p.nm:: vI p.n::p.kids::l)):=by rw[p.cells_eq];rfl
theorem Pr.s3{p:Pr}{l:List AV}:fieldAddrV 3 (.iptr (p.cells++l))=some (.iptr (p.kids::l)):=by rw[p.cells_eq];rfl
def PredsOk(w:Vl Pr):Prop:=Pr.wtL w.l≤2^24→∀m:Int,-2^40≤m→m≤2^40→∃r:Nat,r≤Pr.wtL w.l∧((r:Int)≤m→Pr.nodesL w.l≤r)∧∀h,RunCall E1 (.f 123) [w.A Pr.cells,vI m] h (vI (r:Nat)) h
theorem wn(w:Vl Pr)(hw:Pr.wtL w.l≤2^24)(m:Int)(m1: -2^40≤m)(m2:m≤2^40):∀(r:List Pr) (i acc:Nat) (s:St),w.l.drop i=r→i≤w.l.length→acc+Pr.wtL r≤2^24→(∀k∈r,PredsOk k.vl)→
  s.eval (.t 0)=some (w.A Pr.cells)→s.eval (.t 1)=some (vI m)→s.eval (.t 5)=some (vI (acc:Nat))→s.eval (.t 6)=some (vI (i:Nat))→s.defers=[]→
  Run E1 pn s fun e s'=>e=.exit 0∧s'.defers=[]∧∃b:Nat,s'.eval (.t 5)=some (vI (b:Nat))∧acc≤b∧b≤acc+Pr.wtL r∧((b:Int)≤m→acc+Pr.nodesL r≤b)
 | [],i,acc,s,hd,hi,ha,hk,h0,h1,h5,h6,hf=>by
  have hl:=aG hd hi;subst hl;apply aB (rfl:pn=.loop gv);simp-implicitDefEqProofs only[gv,V,↓reduceIte,rA,reduceCtorEq,h0,h5,h6,hf,bA];exact⟨acc,rfl,ib _,by simp only[Pr.wtL];omega,fun _=>by simp only[Pr.nodesL];omega⟩
 |k::r,i,acc,s,hd,hi,ha,hk,h0,h1,h5,h6,hf=>by
  have hl:=aH hd;have hlt:=bD hl;have hlw:=dU w.l;have w1:IntKind.i64.wrap ((i:Int)+1)=((i+1:Nat):Int):=aD (n:=i+1) om;have hwk:=aEM k;have ha':acc+(k.wt+Pr.wtL r)≤2^24:=ha;apply aB (rfl:pn=.loop gv);cases hc:decide ((acc:Int)≤m) with
  |false=>
   simp-implicitDefEqProofs only[gv,V,↓reduceIte,rA,reduceCtorEq,h0,h1,h5,h6,hf,hlt,hc];exact⟨acc,rfl,ib _,om,fun h=>absurd h (of_decide_eq_false hc)⟩
  |true=>
   have hc':=of_decide_eq_true hc;have w2:IntKind.i64.wrap ((acc:Int)+1)=((acc+1:Nat):Int):=aD (n:=acc+1) om;have w3:IntKind.i64.wrap (((acc+1:Nat):Int)+((k.nm.size/50:Nat):Int))=((acc+1+k.nm.size/50:Nat):Int):=aD (n:=acc+1+k.nm.size/50) om;have w4:IntKind.i64.wrap (m-((acc+1+k.nm.size/50:Nat):Int))=m-((acc+1+k.nm.size/50:Nat):Int):=IntWalk.i64_in _ om;obtain⟨q,q1,q2,q3⟩:=hk k ik (by rw[k.vl_l];omega) (m-((acc+1+k.nm.size/50:Nat):Int)) om om
   rw[k.vl_l] at q1 q2;rw[k.vl_A] at q3;have w5:IntKind.i64.wrap (((acc+1+k.nm.size/50:Nat):Int)+(q:Int))=((acc+1+k.nm.size/50+q:Nat):Int):=aD (n:=acc+1+k.nm.size/50+q) om;simp-implicitDefEqProofs only[gv,V,↓reduceIte,rA,reduceCtorEq,h0,h1,h5,h6,hlt,hc,w.at Pr.len hd,Pr.s1,Pr.s3,Ln (n:=k.nm.size) om,ae,w1,w2,w3,w4,w5,aA q3];refine(wn w hw m m1 m2 r (i+1) (acc+1+k.nm.size/50+q) _ (aF hd) om om (fun k' hk'=>hk k' (List.mem_cons_of_mem _ hk')) ?_ ?_ ?_ ?_ ?_).mono ?_
   ·exact U41
   ·exact U68
   ·exact U36
   ·exact U36
   ·exact U69
   rintro e s1 ⟨rfl,d1,b,b1,b2,b3,b4⟩;have hnk:=k.nodes_eq;refine⟨rfl,d1,b,b1,om,by simp only[Pr.wtL];omega,fun hb=>?_⟩
   have:=b4 hb;have:=q2 om;simp only[Pr.nodesL];omega
theorem ql(w:Vl Pr)(hk:∀k∈w.l,PredsOk k.vl):PredsOk w:=fun hw m m1 m2=>by
 obtain⟨r,⟨x,hx,x1,x2⟩,ha⟩:=Yt (g:=123) (l:=[w.A Pr.cells,vI m]) (P:=fun r=>∃x:Nat,r=vI (x:Nat)∧x≤Pr.wtL w.l∧((x:Int)≤m→Pr.nodesL w.l≤x)) aDH fun s hs hh hd=>by
  have h0:=hs 0 _ rfl;have h1:=hs 1 _ rfl;simp-implicitDefEqProofs only[Om,f123,V];refine(wn w hw m m1 m2 w.l 0 0 _ rfl (ic _) om hk ?_ ?_ ?_ ?_ ?_).mono ?_
  ·exact U41
  ·exact U68
  ·exact U58
  ·exact U58
  ·exact U40
  rintro e s1 ⟨rfl,d1,b,b1,b2,b3,b4⟩;simp-implicitDefEqProofs only[V,↓reduceIte,reduceCtorEq,WB,d1,b1];exact⟨_,⟨b,rfl,om,fun h=>by have:=b4 h;omega⟩,rfl⟩
 subst hx;exact⟨x,x1,x2,aC kr kr (bT Vl.leaf.tree (Tree.val _)) rfl (Tree.val _) ha⟩
mutual
theorem aAA:∀p:Pr,PredsOk p.vl
 |.mk o s n ks nl cap=>ql ⟨ks,nl,cap⟩ (xd ks)
theorem xd:∀l:List Pr,∀k∈l,PredsOk k.vl
 | [],k,hk=>by cases hk
 |p::r,k,hk=>by
  rcases ie.1 hk with e|hk
  ·rw[e];exact aAA p
  ·exact xd r k hk
end
theorem uQ(w:Vl Pr):PredsOk w:=ql w (xd w.l)
theorem Gd{α:Type}{f:α→List AV}{es:Nat}(hf:∀a,(f a).length=es)(h:AH)(w:Vl α):elemsOf h es (w.A f)=some (w.l.flatMap f,w.l.length):=by
 obtain⟨l,nl,cap⟩:=w;simp only[Vl.A,kidsA];cases nl with
 |none=>exact eo (au hf l)
 |some x=>
  cases l with
  |nil=>
   obtain⟨a,c⟩:=x;rfl
  |cons a l=>exact eo (au hf (a::l))
theorem xV{h:AH}{lo k:Nat}{v:AV}{L:List Pr}(r:RowX h lo k 4 v (Pr.cellsL L))(hk:L.length=k):∃w:Vl Pr,w.l=L∧rowX v k (Pr.cellsL L)=w.A Pr.cells:=by
 subst hk;rcases r with⟨_,_,⟨h0,rfl⟩|⟨b,_,_,_,rfl,_⟩⟩|⟨_,_,b,_,_,rfl,_⟩
 ·have:L=[]:=Bt h0;subst this;exact⟨⟨[],nilK,none⟩,rfl,rfl⟩
 ·exact⟨⟨L,none,none⟩,rfl,by simp only[rowX,Vl.A,kidsA,Bl,jw,cond_false,Pr.cellsL_eq]⟩
 ·exact⟨⟨L,none,some L.length⟩,rfl,by simp only[rowX,Vl.A,kidsA,Bl,jw,cond_false,Pr.cellsL_eq]⟩
theorem aLC{P:Program}{t:TypeId}{g:Bool}:binA P .quo t g (vI ((0:Nat):Int)) (vI 50)=some (vI 0):=Ln (n:=0) om
def nilA:AV:=.val (.slice none 0 0)
def tyC(w:Vl Pr):List AV:=[vI 0,vS ⟨#[]⟩,nilA,nilA,vI 0,vS ⟨#[]⟩,vI 0,nilA,w.A Pr.cells]
def tyA(w:Vl Pr):AV:=.imm (tyC w) 1 (some 1)
theorem Jo{s:St}{w:Vl Pr}{m:Int}(hw:Pr.wtL w.l≤2^22)(m1:0≤m)(m2:m≤2^40)(ht:NoTag s.h)(h0:s.eval (.t 0)=some (tyA w))(h1:s.eval (.t 1)=some (vI m))(h5:s.eval (.t 5)=some (vI 0))(h6:s.eval (.t 6)=some (vI 0)):
  Run E1 Wg s fun e s'=>e=.normal∧s'.defers=s.defers∧(∃r:Nat,s'.eval (.t 5)=some (vI (r:Nat))∧r≤2+Pr.wtL w.l∧((r:Int)≤m→Pr.nodesL w.l≤r))∧∀j,j<5∨j=6→s'.eval (.t j)=s.eval (.t j):=by
 have k0:idxAddrSV 9 (tyA w) 0=some (.iptr (tyC w)):=rfl;have q1:fieldAddrV 1 (.iptr (tyC w))=some (.iptr (vS ⟨#[]⟩::(tyC w).drop 2)):=rfl;have q3:fieldAddrV 3 (.iptr (tyC w))=some (.iptr (nilA::(tyC w).drop 4)):=rfl;have q4:fieldAddrV 4 (.iptr (tyC w))=some (.iptr (zPr.cells++[w.A Pr.cells])):=rfl;have q8:fieldAddrV 8 (.iptr (tyC w))=some (.iptr [w.A Pr.cells]):=rfl;have ln:lenV nilA=some (vI 0):=rfl;have z:(((⟨#[]⟩:ByteArray).size:Nat):Int)=((0:Nat):Int):=rfl;have ti:ids (tyA w)=[]:=rfl;have ni:ids nilA=[]:=rfl;have vi:∀v,ids (AV.val v)=[]:=fun _=>rfl;have w1:IntKind.i64.wrap (0+1)=1:=rfl;have w2:IntKind.i64.wrap (1+0)=1:=rfl;refine am ?_
 show DrawTo E1 (dw.take 22++dw.drop 22) [] s _;refine xC (dw.take 22) [] s rfl (fun x hx=>by cases hx) ?_
 simp-implicitDefEqProofs only[dw,jr,jg,jq,j9,wpDr,aw,iv,is,V,↓reduceIte,rA,reduceCtorEq,h0,h5,h6,aO ti,aO ni,aV,bF,k0,q1,q3,q4,ln,ae,z,aLC,w1,w2];intro _ d1 hl1 hq1;have hl1:d1.length=22:=hl1;refine gI (cs:=zPr.cells) (fun j hj v hv=>?_) rfl ?_ (fun i hi=>?_) rfl rfl ?_
 ·simp only[ie,j7,or_false] at hj;subst hj;simp-implicitDefEqProofs only[V,↓reduceIte,sI] at hv;subst hv;rw[zPr.idsA];rfl
 ·refine mK (v:=zPr.av) ?_ rfl zPr.len rfl;exact U36
 ·simp only[ie,j7,or_false] at hi;omega
 generalize hB:s.h.next=B at hq1;simp-implicitDefEqProofs only[V,hB];have hmild:∀x∈d1++[(⟨[],[],B,B+1⟩:DRec)],MildR [] x:=fun x hx r hr=>by cases hr
 have hl2:(d1++[(⟨[],[],B,B+1⟩:DRec)]).length=23:=by rw[io,hl1];rfl
 show DrawTo E1 ((dw.drop 23).take 5++dw.drop 28) (d1++[(⟨[],[],B,B+1⟩:DRec)]) _ _;refine vq (R:=[]) (K1:=fun s'=>s'.eval (.t 45)=some (w.A Pr.cells)∧s'.eval (.t 40)=some (.own B 0 1 4 (some 1))∧s'.eval (.t 1)=some (vI m)∧s'.eval (.t 34)=some (vI 1)∧s'.defers=s.defers∧∀j,j<5∨j=6→s'.eval (.t j)=s.eval (.t j)) ((dw.drop 23).take 5) _ _ _ (by rw[hl2];rfl) hmild (fun r hr=>by cases hr) rfl ?_ ?_
 ·simp-implicitDefEqProofs only[dw,jr,jg,jq,j9,wpDm,aw,iv,is,footed,V,↓reduceIte,rA,reduceCtorEq,h0,h1,h6,aO ti,aV,bF,k0,q8,show∀l,onlyT [] (some (AV.iptr l))=true from fun _=>rfl];intro j hj
  repeat rw[if_neg om]
 rintro s1 ⟨e45,e40,e1,e34,d1',o1⟩ hh more hm _;simp-implicitDefEqProofs only[V] at hh;rw[jk];have hm:more.length=5:=hm;have hn1:s1.h.next=B+1:=by rw[hh,←hB];rfl
 have hg1:s1.h.get B=some (.cells zPr.cells true):=by rw[hh,←hB];exact ax
 have ht1:NoTag s1.h:=by rw[hh];exact ht.alloc
 have r1:RowX s1.h B 1 4 (.own B 0 1 4 (some 1)) zPr.cells:=RowX.made zPr.leaves zPr.len (ib _) om hg1;have hwl:=dU w.l;show DrawTo E1 (dw.drop 28) _ _ _;simp only[dw,jq,j9];refine xG (k:=1) (m:=w.l.length) (lo:=B) (v:=.own B 0 1 4 (some 1)) (x:=w.A Pr.cells) (cs:=zPr.cells) (new:=w.l.flatMap Pr.cells) r1 om (fun h _=>Gd Pr.len h w) (au Pr.len _) (cS Pr.leaves _) (aX om de) (fun y hy=>by rw[Vl.ids] at hy;cases hy) e40 e45 de de (fun j hj=>?_) rfl rfl (fun F D lo hi hF hD=>?_) ?_
 ·exact U87
 ·refine mJ (n:=B) hq1 (fun y hy=>?_) (fun y hy=>?_) (fun i hi=>?_)
  ·rcases hF y hy with q|q
   ·simp only[AM.ids,ig] at q;omega
   ·rw[Vl.ids] at q;cases q
  ·have q:=hD y hy;simp only[AM.ids,ig] at q;omega
  ·rw[hl1];simp only[ie,j7,or_false] at hi;omega
 intro rec v2 h2 r2 n2 o2 t2 _;have ec:zPr.cells++w.l.flatMap Pr.cells=Pr.cellsL (zPr::w.l):=by rw[Pr.cellsL,Pr.cellsL_eq]
 have i2:∀y∈ids v2,B≤y:=fun y hy=>(r2.ids y hy).1;have hk2:(zPr::w.l).length=1+w.l.length:=by rw[il];omega
 rw[ec] at r2;obtain⟨w2,hw2,hA2⟩:=xV r2 hk2;have hz2:Pr.wtL (zPr::w.l)=1+Pr.wtL w.l:=rfl;have hn2:Pr.nodesL (zPr::w.l)=1+Pr.nodesL w.l:=rfl;obtain⟨q,c1,c2,c3⟩:=uQ w2 (by rw[hw2];omega) m om m2
 rw[hw2] at c1 c2;have w5:IntKind.i64.wrap (1+(q:Int))=((1+q:Nat):Int):=by
  rw[show 1+(q:Int)=((1+q:Nat):Int) by omega]
  exact aD (n:=1+q) om
 refine bc (v:=vI m) rfl rfl ?_ ?_ (fun i hi=>?_) ?_
 ·simp-implicitDefEqProofs only[V,↓reduceIte,rA,iv,is,e1,aV]
 ·simp-implicitDefEqProofs only[runOp,V,↓reduceIte,rA,e1]
 ·simp only[io,il,jf,hl1,hm];simp only[ie,j7,or_false] at hi;omega
 refine tx (lo:=B) (k:=1+w.l.length) (es:=4) (w:=v2) (cs:=Pr.cellsL (zPr::w.l)) (l:=[v2,vI m]) (t:=vI (q:Nat)) ?_ (fun j hj=>?_) ⟨46,ik,?_⟩ rfl ?_ ?_ rfl rfl (fun h g1 g2=>?_) (fun F D lo hi hF hD=>?_) ?_
 ·exact U103
 ·simp only[ie,j7,or_false] at hj;rcases hj with rfl|rfl
  ·refine⟨v2,?_,.inr rfl⟩;exact U36
  ·refine⟨vI m,?_,.inl rfl⟩;exact U36
 ·exact U36
 ·exact U36
 ·simp-implicitDefEqProofs only[V];exact t2 ht1
 ·simp-implicitDefEqProofs only[V] at g1 g2;have r3:RowX h B (1+w.l.length) 4 v2 (Pr.cellsL (zPr::w.l)):=r2.toB om g2;obtain⟨h3,f1,f2,f3,f4⟩:=eJ r3;rw[hA2] at f4;exact ba (xs:=[]) (ys:=[vI m]) kr (fun v hv=>by cases hv) (aN (Tree.val _)) Vl.leaf.tree f1 f4 rfl c3
 ·rw[jk,jk];refine mJ (n:=B) hq1 (fun y hy=>i2 y (hF y hy)) (fun y hy=>i2 y (hD y hy)) (fun i hi=>?_);rw[hl1];simp only[ie,j7,or_false] at hi;omega
 intro rec3 h3 n3 o3;refine bc (v:=vI ((1+q:Nat):Int)) rfl rfl ?_ ?_ (fun i hi=>by cases hi) ?_
 ·simp-implicitDefEqProofs only[V,↓reduceIte,rA,iv,is,e34,aV]
 ·simp-implicitDefEqProofs only[runOp,V,↓reduceIte,rA,e34,w5]
 refine bc (v:=vI ((1+q:Nat):Int)) rfl rfl ?_ ?_ (fun i hi=>by cases hi) ?_
 ·exact U104
 ·exact U88
 refine b9 ?_
 refine⟨?_,⟨1+q,?_,om,fun hr=>?_⟩,fun j hj=>?_⟩
 ·simp-implicitDefEqProofs only[V,d1']
 ·exact U36
 ·have:=c2 om;omega
 ·rw[←o1 j hj];simp only[St.put,St.eval_set,St.eval_toH]
  repeat rw[if_neg om]
theorem Pz(m:Int)(h:AH):RunCall E1 (.f 80) [nilA,vI m] h (vI 0) h:=by
 refine aC kr kr (bT (Tree.val _) (Tree.val _)) rfl (Tree.val _) (ah Wf fun s hs hh hd=>?_) h;have h0:=hs 0 _ rfl;have h1:=hs 1 _ rfl;have ln:lenV nilA=some (vI 0):=rfl;have h0:s.eval (.t 0)=some nilA:=h0;simp-implicitDefEqProofs only[Jn,f80,V];apply aB (rfl:yX=.loop jJ);simp-implicitDefEqProofs only[jJ,V,↓reduceIte,rA,reduceCtorEq,rE,WB,h0,hd,ln]
theorem xJ(w:Vl Pr)(hw:Pr.wtL w.l≤2^22)(m:Int)(m1:0≤m)(m2:m≤2^40):∃r:Nat,r≤2+Pr.wtL w.l∧((r:Int)≤m→Pr.nodesL w.l≤r)∧∀h,RunCall E1 (.f 80) [tyA w,vI m] h (vI (r:Nat)) h:=by
 obtain⟨r,⟨x,hx,x1,x2⟩,ha⟩:=Yt (g:=80) (l:=[tyA w,vI m]) (P:=fun r=>∃x:Nat,r=vI (x:Nat)∧x≤2+Pr.wtL w.l∧((x:Int)≤m→Pr.nodesL w.l≤x)) Wf fun s hs hh hd=>by
  have h0:=hs 0 _ rfl;have h1:=hs 1 _ rfl;have ln:lenV (tyA w)=some (vI 1):=rfl;have k0:idxAddrSV 9 (tyA w) 0=some (.iptr (tyC w)):=rfl;have q2:fieldAddrV 2 (.iptr (tyC w))=some (.iptr (nilA::(tyC w).drop 3)):=rfl;have c0:decide (0≤m)=true:=decide_eq_true m1;have w1:IntKind.i64.wrap (0+1)=1:=rfl;have nc:nilA.cells=some [nilA]:=rfl;simp-implicitDefEqProofs only[Jn,f80,V];apply aB (rfl:yX=.loop jJ);simp-implicitDefEqProofs only[jJ,V,↓reduceIte,rA,reduceCtorEq,rE,h0,h1,ln,c0];refine(Jo (w:=w) (m:=m) hw m1 m2 ?_ ?_ ?_ ?_ ?_).mono ?_
  ·simp-implicitDefEqProofs only[V,hh];exact NoTag.empty
  ·exact U41
  ·exact U68
  ·exact U36
  ·exact U36
  rintro e s1 ⟨rfl,d1,⟨r,e5,r1,r2⟩,o1⟩;have e0:s1.eval (.t 0)=some (tyA w):=by rw[o1 0 om];simp-implicitDefEqProofs only[V,↓reduceIte,reduceCtorEq,h0]
  have e1:s1.eval (.t 1)=some (vI m):=by rw[o1 1 om];simp-implicitDefEqProofs only[V,↓reduceIte,rA,h1]
  have e6:s1.eval (.t 6)=some (vI 0):=by rw[o1 6 om];simp-implicitDefEqProofs only[V,↓reduceIte,rA]
  have d1:s1.defers=[]:=by rw[d1];simp-implicitDefEqProofs only[V,hd]
  have w2:IntKind.i64.wrap ((r:Int)+0)=(r:Int):=by
   rw[Int.add_zero];exact aD (n:=r) om
  simp-implicitDefEqProofs only[V,↓reduceIte,rA,reduceCtorEq,e0,e1,e5,e6,k0,q2,aA (Pz _),w1,w2];apply aB (rfl:yX=.loop jJ);simp-implicitDefEqProofs only[jJ,V,↓reduceIte,rA,reduceCtorEq,rE,WB,e0,ln,d1];exact⟨_,⟨r,rfl,r1,r2⟩,rfl⟩
 subst hx;exact⟨x,x1,x2,aC kr kr (bT (Leaf.imm _ _ _).tree (Tree.val _)) rfl (Tree.val _) ha⟩
def exC(w:Vl Pr):List AV:=[vI 0,vS ⟨#[]⟩,vI 0,nilA,nilA,nilA,tyA w]
theorem aDV(w:Vl Pr):idsL (exC w)=[]:=rfl
theorem Fx(w:Vl Pr):Tree (.agg (exC w)):=Tree.agg fun v hv=>by
 simp only[exC,ie,j7,or_false] at hv;rcases hv with rfl|rfl|rfl|rfl|rfl|rfl|rfl
 ·exact Leaf.val _
 ·exact Leaf.val _
 ·exact Leaf.val _
 ·exact Leaf.val _
 ·exact Leaf.val _
 ·exact Leaf.val _
 ·exact Leaf.imm _ _ _
theorem Gp(w:Vl Pr)(hw:Pr.wtL w.l≤2^22)(m:Int)(m1:0≤m)(m2:m≤2^40):∃r:Nat,r≤3+Pr.wtL w.l∧((r:Int)≤m→Pr.nodesL w.l≤r)∧∀h,RunCall E1 (.f 54) [.agg (exC w),vI m] h (vI (r:Nat)) h:=by
 obtain⟨q,q1,q2,q3⟩:=xJ w hw m m1 m2;refine⟨1+q,om,fun hr=>by have:=q2 om;omega,fun h=>aC kr kr (bT (Fx w) (Tree.val _)) rfl (Tree.val _) (ah aIW fun s hs hh hd=>?_) h⟩
 have h0:=hs 0 _ rfl;have h1:=hs 1 _ rfl;have g1:∀rw,cfB (some (.cells (exC w) rw)) 1=some (vS ⟨#[]⟩::(exC w).drop 2):=fun _=>rfl;have g3:∀rw,cfB (some (.cells (exC w) rw)) 3=some (nilA::(exC w).drop 4):=fun _=>rfl;have g4:∀rw,cfB (some (.cells (exC w) rw)) 4=some (nilA::(exC w).drop 5):=fun _=>rfl;have g5:∀rw,cfB (some (.cells (exC w) rw)) 5=some (nilA::(exC w).drop 6):=fun _=>rfl;have g6:∀rw,cfB (some (.cells (exC w) rw)) 6=some [tyA w]:=fun _=>rfl;have ln:lenV nilA=some (vI 0):=rfl;have z:(((⟨#[]⟩:ByteArray).size:Nat):Int)=((0:Nat):Int):=rfl;have ti:ids (tyA w)=[]:=rfl;have w2:IntKind.i64.wrap (1+0)=1:=rfl;have w5:IntKind.i64.wrap (1+(q:Int))=((1+q:Nat):Int):=by
  rw[show 1+(q:Int)=((1+q:Nat):Int) by omega]
  exact aD (n:=1+q) om
 have vi:∀v,ids (AV.val v)=[]:=fun _=>rfl;simp-implicitDefEqProofs only[Wt,f54,V,h0,hh];have hg:((s.toH (AH.empty.alloc (.cells (exC w) true))).set 2 (.ptr 0 0)).h.get 0=some (.cells (exC w) true):=by
  exact U36
 refine Run.mono (am (Q:=fun e s'=>e=.normal∧s'.eval (.t 5)=some (vI ((1+q:Nat):Int))∧s'.eval (.t 1)=some (vI m)∧s'.eval (.t 2)=some (.ptr 0 0)∧s'.h.get 0=some (.cells (exC w) true)∧s'.defers=[]) ?_) ?_
 ·have n0:∀o,niceT (AH.empty.alloc (.cells (exC w) true)) (some (.ptr 0 o))=true:=fun o=>bj (cs:=exC w) (by show 0<1;decide) (by simp[AH.get_alloc,mn]) (by rw[aDV];rfl)
  have o0:∀o,onlyT [0] (some (.ptr 0 o))=true:=fun o=>bu (by simp[memN])
  refine bG (R:=[0]) rfl (fun x hx=>by cases hx) (fun r hr'=>?_) ?_
  ·rw[ig.1 hr'];simp-implicitDefEqProofs only[V];decide
  simp-implicitDefEqProofs only[Wp,wpDm,aw,iv,is,footed,V,↓reduceIte,rA,h1,hd,n0,o0,g1,g6,aO ti,ab ti,aV,eX,az (vi _),ae,z,aLC,w2];refine⟨_,q3,?_⟩;simp-implicitDefEqProofs only[V,↓reduceIte,rA,h1,hd,aV,w5]
 rintro e s1 ⟨rfl,e5,e1,e2,g0,d1⟩;simp-implicitDefEqProofs only[V];apply aB (rfl:Ws=.loop Kd);simp-implicitDefEqProofs only[Kd,V,↓reduceIte,rA,rE,WB,e2,g0,g4,ln];apply aB (rfl:Wr=.loop Kc);simp-implicitDefEqProofs only[Kc,V,↓reduceIte,rA,rE,WB,e2,g0,g3,ln];apply aB (rfl:Wq=.loop Kb);simp-implicitDefEqProofs only[Kb,V,↓reduceIte,rA,reduceCtorEq,rE,WB,e5,e2,g0,g5,ln,d1]
theorem aGV{a b c d e f g x y z:AV}:putC [a,b,c,d,e,f,g,x,y] 8 1 [z]=some [a,b,c,d,e,f,g,x,z]:=rfl
theorem aGU{a b c d e f g x y:AV}{w:Vl Pr}:putC [a,b,c,d,e,f,g,x,y] 0 9 (tyC w)=some (tyC w):=rfl
theorem aGW{a b c d e f x z:AV}:putC [a,b,c,d,e,f,x] 6 1 [z]=some [a,b,c,d,e,f,z]:=rfl
theorem aGQ{h:AH}{b:Nat}{w:Vl Pr}(g:h.get b=some (.cells (tyC w) true))(hb:b<h.next):Rep h 0 h.next 2 (.agg [vI 0,vS ⟨#[]⟩,vI 0,nilA,nilA,nilA,.own b 0 1 9 (some 1)]) (.agg (exC w)):=by
 have r1:Rep h 0 h.next 1 (.own b 0 1 9 (some 1)) (tyA w):=by
  have:=Rep.own (h:=h) (lo:=0) (hi:=h.next) (n:=0) (b:=b) (k:=1) (es:=9) (cap:=some 1) (rw:=true) (ps:=(tyC w).map fun c=>(c,c)) (ic _) hb (by rw[p7];exact g) (by rw[List.length_map];rfl) (fun p hp=>by
   obtain⟨c,hc,rfl⟩:=List.mem_map.1 hp;refine Rep.leaf ?_
   simp only[tyC,ie,j7,or_false] at hc;rcases hc with rfl|rfl|rfl|rfl|rfl|rfl|rfl|rfl|rfl
   ·exact Leaf.val _
   ·exact Leaf.val _
   ·exact Leaf.val _
   ·exact Leaf.val _
   ·exact Leaf.val _
   ·exact Leaf.val _
   ·exact Leaf.val _
   ·exact Leaf.val _
   ·exact Vl.leaf)
  rw[pz] at this;exact this
 have:=Rep.agg (h:=h) (lo:=0) (hi:=h.next) (n:=1) (ps:=[(vI 0,vI 0),(vS ⟨#[]⟩,vS ⟨#[]⟩),(vI 0,vI 0),(nilA,nilA),(nilA,nilA),(nilA,nilA),(.own b 0 1 9 (some 1),tyA w)]) (fun p hp=>by
  simp only[ie,j7,or_false] at hp;rcases hp with rfl|rfl|rfl|rfl|rfl|rfl|rfl
  ·exact Rep.leaf (Leaf.val _)
  ·exact Rep.leaf (Leaf.val _)
  ·exact Rep.leaf (Leaf.val _)
  ·exact Rep.leaf (Leaf.val _)
  ·exact Rep.leaf (Leaf.val _)
  ·exact Rep.leaf (Leaf.val _)
  ·exact r1)
 exact this
theorem Dr(w:Vl Pr)(hw:Pr.wtL w.l≤2^22)(m:Int)(m1:0≤m)(m2:m≤2^40):∃b:Bool,(b=true→((Pr.nodesL w.l:Nat):Int)≤m)∧∀h,RunCall E1 (.f 27) [w.A Pr.cells,vI m] h (vB b) h:=by
 obtain⟨q,q1,q2,q3⟩:=Gp w hw m m1 m2;refine⟨decide ((q:Int)≤m),fun hb=>?_,fun h=>ai kr aJQ (bT Vl.leaf.tree (Tree.val _)) rfl (Tree.val _) (fun s hs hh hd hr=>?_) h⟩
 ·have:=of_decide_eq_true hb;have:=q2 this;omega
 have h0:=hs 0 _ rfl;have h1:=hs 1 _ rfl;simp-implicitDefEqProofs only[Xe,f27,V,↓reduceIte,reduceCtorEq,WF,h0,hh,aGV];have ec:[AV.val (.int .i64 0),vS ⟨#[]⟩,.val (.slice none 0 0),.val (.slice none 0 0),vI 0,vS ⟨#[]⟩,vI 0,.val (.slice none 0 0),w.A Pr.cells]=tyC w:=rfl;simp-implicitDefEqProofs only[ec,aGU,V,↓reduceIte,rA,WF,h1,aGW];have rt:=aGQ (h:=AH.empty.alloc (.cells (tyC w) true)) (b:=0) (w:=w) (by simp[AH.get_alloc,mn]) (by show 0<1;decide)
 have ft:=qV 2 deepest de _ _ _ _ rt (Fz.refl _);refine aW (v:=vI (q:Nat)) (h':=AH.empty.alloc (.cells (tyC w) true)) ?_ ?_
 ·simp-implicitDefEqProofs only[V];exact ba (xs:=[]) (ys:=[vI m]) (a':=.agg (exC w)) kr (fun v hv=>by cases hv) (aN (Tree.val _)) (Fx w) rfl ft rfl q3
 simp-implicitDefEqProofs only[V,↓reduceIte,rA,reduceCtorEq,h1,hd]
theorem Rs{s:St}{c:Cl}{C:Nat}(hw:Pr.wtL c.hy.l+c.hd.wt≤2^22)(hC:C<s.h.next)(g:s.h.get C=some (.cells c.cells true))(ht:NoTag s.h)(h5:s.eval (.t 5)=some (.ptr C 0)):
  Run E1 aFC s fun e s'=>e=.normal∧(∃b,s'.eval (.t 85)=some (vB b)∧(b=false→c.vs.l.length≤26∧c.hy.l.length≤6∧Pr.nodesL c.hy.l+c.hd.nodes≤120))∧s.h.next≤s'.h.next∧(∀x,x<s.h.next→s'.h.get x=s.h.get x)∧NoTag s'.h∧s'.defers=s.defers∧∀j,j<64→s'.eval (.t j)=s.eval (.t j):=by
 have n1:∀o,niceT s.h (some (.ptr C o))=true:=fun o=>bj hC g (by rw[c.ids0];rfl)
 have o1:∀o,onlyT [C] (some (.ptr C o))=true:=fun o=>bu (by simp[memN])
 have vi:∀v,ids (AV.val v)=[]:=fun _=>rfl;have ui:ids undefA=[]:=rfl;refine am ?_
 show DrawTo E1 (bn.take 11++bn.drop 11) [] s _;refine dF (R:=[C]) (K1:=fun s'=>∃b,s'.eval (.t 74)=some (vB b)∧(b=false→c.vs.l.length≤26∧c.hy.l.length≤6)∧s'.defers=s.defers∧∀j,j<64→s'.eval (.t j)=s.eval (.t j)) (bn.take 11) [] s s.h 11 rfl (fun x hx=>by cases hx) (fun r hr'=>by rw[ig.1 hr'];exact hC) rfl rfl ?_ ?_
 ·cases q1:decide ((26:Int)<(c.vs.l.length:Nat)) with
  |true=>
   simp-implicitDefEqProofs only[bn,jr,jg,wpDm,aw,cq,sc,iv,is,footed,V,↓reduceIte,rA,h5,g,n1,o1,aO Vl.ids,az Vl.ids,aV,az (vi _),aO ui,az ui,q1];refine⟨_,rfl,(fun h=>by cases h),fun j hj=>?_⟩
   repeat rw[if_neg om]
  |false=>
   have q1':=of_decide_eq_false q1;cases q2:decide ((6:Int)<(c.hy.l.length:Nat)) with
   |true=>
    simp-implicitDefEqProofs only[bn,jr,jg,wpDm,aw,cq,fT,sc,iv,is,footed,V,↓reduceIte,rA,h5,g,n1,o1,aO Vl.ids,az Vl.ids,aV,az (vi _),aO ui,az ui,q1,q2];refine⟨_,rfl,(fun h=>by cases h),fun j hj=>?_⟩
    repeat rw[if_neg om]
   |false=>
    have q2':=of_decide_eq_false q2;simp-implicitDefEqProofs only[bn,jr,jg,wpDm,aw,cq,fT,sc,iv,is,footed,V,↓reduceIte,rA,h5,g,n1,o1,aO Vl.ids,az Vl.ids,aV,az (vi _),aO ui,az ui,q1,q2];refine⟨_,rfl,fun _=>⟨om,om⟩,fun j hj=>?_⟩
    repeat rw[if_neg om]
 rintro s1 ⟨b,e74,hb,d1,t1⟩ hh done hl hq;have e5:s1.eval (.t 5)=some (.ptr C 0):=by rw[t1 5 om,h5]
 cases b with
 |true=>
  have wf:∀(s':St),s'.eval (.t 74)=some (vB true)→wantedA s' (some (74,false))=some false:=fun s' e=>by
   have e:s'.tm.get 74=some (vB true):=e;simp only[wantedA,e];rfl
  show DrawTo E1 (bn.drop 11) _ _ _;simp only[bn,jq,j9];have fr:∀{n:Nat} {l:List Nat} {done:List DRec},done.length=n→l.all (fun i=>Nat.blt i n)=true→∀i∈l,i<done.length:=fun hl h i hi=>by
   rw[hl];exact Nat.blt_eq.mp (List.all_eq_true.1 h i hi)
  have ln:∀{n:Nat} {done:List DRec} {x:DRec},done.length=n→(done++[x]).length=n+1:=fun hl=>by rw[io,hl];rfl
  refine bg rfl (wf _ e74) (fr hl rfl) ?_
  refine bg rfl (wf _ U162) (fr (ln hl) rfl) ?_
  refine bg rfl (wf _ U162) (fr (ln (ln hl)) rfl) ?_
  refine bg rfl (wf _ U162) (fr (ln (ln (ln hl))) rfl) ?_
  refine bg rfl (wf _ U162) (fr (ln (ln (ln (ln hl)))) rfl) ?_
  refine bg rfl (wf _ U162) (fr (ln (ln (ln (ln (ln hl))))) rfl) ?_
  refine bg rfl (wf _ U162) (fr (ln (ln (ln (ln (ln (ln hl)))))) rfl) ?_
  refine bg rfl (wf _ U162) (fr (ln (ln (ln (ln (ln (ln (ln hl))))))) rfl) ?_
  refine bg rfl (wf _ U162) (fr (ln (ln (ln (ln (ln (ln (ln (ln hl)))))))) rfl) ?_
  refine bg rfl (wf _ U162) (fr (ln (ln (ln (ln (ln (ln (ln (ln (ln hl))))))))) rfl) ?_
  refine bc (v:=vB true) rfl rfl ?_ ?_ (fun i hi=>by cases hi) ?_
  ·simp-implicitDefEqProofs only[V,↓reduceIte,rA,iv,is,e74,aV,aO ui]
  ·simp-implicitDefEqProofs only[runOp,V,↓reduceIte,rA,e74]
  refine b9 ?_
  refine⟨trivial,⟨true,?_,fun h=>by cases h⟩,?_,?_,?_,?_,fun j hj=>?_⟩
  ·exact U36
  ·exact U73
  ·intro x hx;exact U74
  ·simp-implicitDefEqProofs only[V,hh];exact ht
  ·exact U81
  ·exact U105
 |false=>
  obtain⟨hb1,hb2⟩:=hb rfl;have e74':=e74;have wt:∀(s':St),s'.eval (.t 74)=some (vB false)→wantedA s' (some (74,false))=some true:=fun s' e=>by
   have e:s'.tm.get 74=some (vB false):=e;simp only[wantedA,e];rfl
  have hn1:s1.h.next=s.h.next:=by rw[hh]
  have g1:s1.h.get C=some (.cells c.cells true):=by rw[hh,g]
  have hwl:=dU c.hy.l;show DrawTo E1 (bn.drop 11) _ _ _;simp only[bn,jq,j9];refine gI (cs:=[]) (fun j hj v hv=>?_) rfl rfl (fun i hi=>by cases hi) rfl (wt _ e74) ?_
  ·rw[ig.1 hj,e74] at hv;cases hv;rfl
  generalize hB:s1.h.next=B;have hCB:C<B:=by omega
  generalize hS2:(s1.toH (s1.h.alloc (.cells [] true))).put (some 75) (.own B 0 0 4 (some 0))=s2;have e2_75:s2.eval (.t 75)=some (.own B 0 0 4 (some 0)):=by rw[←hS2];simp-implicitDefEqProofs only[V,↓reduceIte]
  have e2:∀j,j<75→s2.eval (.t j)=s1.eval (.t j):=fun j hj=>by
   rw[←hS2];simp only[St.put,St.eval_set,St.eval_toH];rw[if_neg om]
  have h2n:s2.h.next=B+1:=by rw[←hS2,←hB];rfl
  have g2C:s2.h.get C=some (.cells c.cells true):=by
   rw[←hS2];simp-implicitDefEqProofs only[V];rw[if_neg om,g1]
  have g2B:s2.h.get B=some (.cells [] true):=by
   rw[←hS2];simp-implicitDefEqProofs only[V];rw[if_pos hB.symm]
  have o2:∀x,x<s.h.next→s2.h.get x=s.h.get x:=fun x hx=>by
   rw[←hS2];simp-implicitDefEqProofs only[V];rw[if_neg om,hh]
  have t2:NoTag s2.h:=by rw[←hS2];exact NoTag.alloc (by rw[hh];exact ht)
  have d2:s2.defers=s.defers:=by rw[←hS2];simp-implicitDefEqProofs only[V,d1]
  have hq2:∀x∈done++[(⟨[],[],B,B+1⟩:DRec)],MildR [C] x:=fun x hx=>by
   rcases jb.1 hx with hx|hx
   ·exact hq x hx
   ·rw[ig.1 hx];exact Me fun r hr=>by rw[ig.1 hr];exact hCB
  have hl2:(done++[(⟨[],[],B,B+1⟩:DRec)]).length=12:=by rw[io,hl];rfl
  generalize done++[(⟨[],[],B,B+1⟩:DRec)]=dn2 at hq2 hl2;clear hS2;have n2:∀o,niceT s2.h (some (.ptr C o))=true:=fun o=>bj om g2C (by rw[c.ids0];rfl)
  show DrawTo E1 ((bn.drop 12).take 2++bn.drop 14) _ _ _;refine dF (R:=[C]) (K1:=fun s'=>s'.eval (.t 77)=some (c.hy.A Pr.cells)∧s'.defers=s2.defers∧∀j,j<76→s'.eval (.t j)=s2.eval (.t j)) ((bn.drop 12).take 2) dn2 s2 s2.h 14 (by rw[hl2];rfl) hq2 (fun r hr'=>by rw[ig.1 hr'];omega) rfl (by rw[hl2];rfl) ?_ ?_
  ·have e74s:s2.eval (.t 74)=some (vB false):=by rw[e2 74 om,e74]
   have e5s:s2.eval (.t 5)=some (.ptr C 0):=by rw[e2 5 om,e5]
   simp-implicitDefEqProofs only[bn,jr,jg,jq,j9,wpDm,cq,fT,iv,is,footed,V,↓reduceIte,rA,e5s,e74s,g2C,n2,o1,aV,az (vi _)];intro j hj
   repeat rw[if_neg om]
  rintro s3 ⟨e77,d3,t3⟩ hh3 dn3 hl3 hq3;have e75:s3.eval (.t 75)=some (.own B 0 0 4 (some 0)):=by rw[t3 75 om,e2_75]
  have e3:∀j,j<75→s3.eval (.t j)=s1.eval (.t j):=fun j hj=>by rw[t3 j om,e2 j hj]
  have e74c:s3.eval (.t 74)=some (vB false):=by rw[e3 74 om,e74]
  have r3:RowX s3.h B 0 4 (.own B 0 0 4 (some 0)) []:=RowX.made (fun c hc=>by cases hc) rfl (ib _) (by rw[hh3];omega) (by rw[hh3];exact g2B)
  show DrawTo E1 (bn.drop 14) _ _ _;simp only[bn,jq,j9];refine m7 (k:=0) (m:=c.hy.l.length) (lo:=B) (v:=.own B 0 0 4 (some 0)) (x:=c.hy.A Pr.cells) (cs:=[]) (new:=c.hy.l.flatMap Pr.cells) r3 (by rw[hh3];omega) (fun h _=>Gd Pr.len h c.hy) (au Pr.len _) (cS Pr.leaves _) (aX om de) (fun y hy=>by rw[Vl.ids] at hy;cases hy) e75 e77 de de (fun j hj=>?_) rfl (wt _ e74c) ?_
  ·simp only[ie,j7,or_false] at hj;rcases hj with rfl|rfl|rfl
   ·exact .inl rfl
   ·exact .inr (.inl rfl)
   ·exact .inr (.inr ⟨_,e74c⟩)
  intro rec4 v4 h4 r4 n4 o4 t4 q4;rw[hh3] at n4 o4 t4 q4;rw[im,je,←Pr.cellsL_eq] at r4;have i4:∀y∈ids v4,B≤y∧y<h4.next:=fun y hy=>⟨(r4.ids y hy).1,(r4.ids y hy).2.1⟩;have g4C:h4.get C=some (.cells c.cells true):=by
   rw[o4 C om (fun hv=>by simp only[AM.ids,ig] at hv;omega),g2C]
  have o4':∀x,x<s.h.next→h4.get x=s.h.get x:=fun x hx=>by
   rw[o4 x om (fun hv=>by simp only[AM.ids,ig] at hv;omega),o2 x hx]
  have hq4:∀x∈dn3++[rec4],MildR [C] x:=fun x hx=>by
   rcases jb.1 hx with hx|hx
   ·exact hq3 x hx
   ·rw[ig.1 hx];exact q4 [C] fun r hr=>by
     rw[ig.1 hr];exact⟨om,fun hv=>by simp only[AM.ids,ig] at hv;omega⟩
  have hl4:(dn3++[rec4]).length=15:=by rw[io,hl3];rfl
  generalize dn3++[rec4]=dn4 at hq4 hl4;generalize hS5:(s3.toH h4).put (some 78) v4=s5;have e5_78:s5.eval (.t 78)=some v4:=by rw[←hS5];simp-implicitDefEqProofs only[V,↓reduceIte]
  have e5':∀j,j<75→s5.eval (.t j)=s1.eval (.t j):=fun j hj=>by
   rw[←e3 j hj,←hS5];simp only[St.put,St.eval_set,St.eval_toH];rw[if_neg om]
  have h5h:s5.h=h4:=by rw[←hS5];rfl
  have d5:s5.defers=s.defers:=by rw[←hS5];simp-implicitDefEqProofs only[V,d3,d2]
  clear hS5;have n5:∀o,niceT s5.h (some (.ptr C o))=true:=fun o=>bj (cs:=c.cells) (by rw[h5h];omega) (by rw[h5h];exact g4C) (by rw[c.ids0];rfl)
  have g5C:s5.h.get C=some (.cells c.cells true):=by rw[h5h];exact g4C
  show DrawTo E1 ((bn.drop 15).take 2++bn.drop 17) _ _ _;refine dF (R:=[C]) (K1:=fun s'=>s'.eval (.t 80)=some c.hd.av∧s'.defers=s5.defers∧∀j,j<79→s'.eval (.t j)=s5.eval (.t j)) ((bn.drop 15).take 2) dn4 s5 s5.h 17 (by rw[hl4];rfl) hq4 (fun r hr'=>by rw[ig.1 hr',h5h];omega) rfl (by rw[hl4];rfl) ?_ ?_
  ·have e74s:s5.eval (.t 74)=some (vB false):=by rw[e5' 74 om,e74]
   have e5s:s5.eval (.t 5)=some (.ptr C 0):=by rw[e5' 5 om,e5]
   simp-implicitDefEqProofs only[bn,jr,jg,jq,j9,wpDm,cq,fT,iv,is,footed,V,↓reduceIte,rA,e5s,e74s,g5C,n5,o1,aV,az (vi _)];intro j hj
   repeat rw[if_neg om]
  rintro s6 ⟨e80,d6,t6⟩ hh6 dn6 hl6 hq6;have e6:∀j,j<75→s6.eval (.t j)=s1.eval (.t j):=fun j hj=>by rw[t6 j om,e5' j hj]
  have e74d:s6.eval (.t 74)=some (vB false):=by rw[e6 74 om,e74]
  have e6_78:s6.eval (.t 78)=some v4:=by rw[t6 78 om,e5_78]
  have h6h:s6.h=h4:=by rw[hh6,h5h]
  show DrawTo E1 (bn.drop 17) _ _ _;simp only[bn,jq,j9];refine gI (cs:=c.hd.cells) (fun j hj v hv=>?_) rfl ?_ (fun i hi=>?_) rfl (wt _ e74d) ?_
  ·simp only[ie,j7,or_false] at hj;rcases hj with rfl|rfl
   ·rw[e80] at hv;cases hv;rw[c.hd.idsA];rfl
   ·rw[e74d] at hv;cases hv;rfl
  ·exact mK (v:=c.hd.av) e80 rfl c.hd.len rfl
  ·rw[hl6];simp only[ie,j7,or_false] at hi;omega
  generalize hB2:s6.h.next=B2;have hB2':h4.next=B2:=by rw[←hB2,h6h]
  generalize hS7:(s6.toH (s6.h.alloc (.cells c.hd.cells true))).put (some 81) (.own B2 0 1 4 (some 1))=s7;have e7_81:s7.eval (.t 81)=some (.own B2 0 1 4 (some 1)):=by rw[←hS7];simp-implicitDefEqProofs only[V,↓reduceIte]
  have e7_78:s7.eval (.t 78)=some v4:=by rw[←hS7];simp-implicitDefEqProofs only[V,↓reduceIte,rA,e6_78]
  have e7:∀j,j<75→s7.eval (.t j)=s1.eval (.t j):=fun j hj=>by
   rw[←e6 j hj,←hS7];simp only[St.put,St.eval_set,St.eval_toH];rw[if_neg om]
  have e74e:s7.eval (.t 74)=some (vB false):=by rw[e7 74 om,e74]
  have h7n:s7.h.next=B2+1:=by rw[←hS7,←hB2];rfl
  have g7B:s7.h.get B2=some (.cells c.hd.cells true):=by
   rw[←hS7];simp-implicitDefEqProofs only[V];rw[if_pos hB2.symm]
  have o7:∀x,x<B2→s7.h.get x=h4.get x:=fun x hx=>by
   rw[←hS7];simp-implicitDefEqProofs only[V];rw[if_neg om,h6h]
  have t7:NoTag s7.h:=by rw[←hS7];exact NoTag.alloc (by rw[h6h];exact t4 t2)
  have d7:s7.defers=s.defers:=by rw[←hS7];simp-implicitDefEqProofs only[V,d6,d5]
  clear hS7;have r7:RowX s7.h B c.hy.l.length 4 v4 (Pr.cellsL c.hy.l):=r4.toB om fun x hx=>o7 x (by have:=(i4 x hx).2;omega)
  refine m7 (k:=c.hy.l.length) (m:=1) (lo:=B) (v:=v4) (x:=.own B2 0 1 4 (some 1)) (cs:=Pr.cellsL c.hy.l) (new:=c.hd.cells) r7 om (fun h gy=>aq (by rw[gy B2 (by simp only[AM.ids,ig]),g7B]) (by rw[c.hd.len])) (by rw[c.hd.len]) c.hd.leaves (aX om de) (fun y hy=>?_) e7_78 e7_81 de de (fun j hj=>?_) rfl (wt _ e74e) ?_
  ·simp only[AM.ids,ig] at hy;subst hy;exact⟨om,_,g7B,by simp only[idsB,bz c.hd.leaves];rfl⟩
  ·simp only[ie,j7,or_false] at hj;rcases hj with rfl|rfl|rfl
   ·exact .inl rfl
   ·exact .inr (.inl rfl)
   ·exact .inr (.inr ⟨_,e74e⟩)
  intro rec8 v8 h8 r8 n8 o8 t8 _;have ec:Pr.cellsL c.hy.l++c.hd.cells=Pr.cellsL (c.hy.l++[c.hd]):=by rw[dz];simp only[Pr.cellsL,iz]
  rw[ec] at r8;have hk8:(c.hy.l++[c.hd]).length=c.hy.l.length+1:=by rw[io];rfl
  obtain⟨w8,hw8,hA8⟩:=xV r8 hk8;have wtA:∀a b:List Pr,Pr.wtL (a++b)=Pr.wtL a+Pr.wtL b:=fun a b=>by
   induction a with
   |nil=>simp only[im,Pr.wtL,je]
   |cons k a ih=>simp only[j6,Pr.wtL,ih];omega
  have ndA:∀a b:List Pr,Pr.nodesL (a++b)=Pr.nodesL a+Pr.nodesL b:=fun a b=>by
   induction a with
   |nil=>simp only[im,Pr.nodesL,je]
   |cons k a ih=>simp only[j6,Pr.nodesL,ih];omega
  obtain⟨q,q1,q2⟩:=Dr w8 (by rw[hw8,wtA];simp only[Pr.wtL];omega) 120 om om
  rw[hw8,ndA] at q1;have nt8:NoTag h8:=t8 t7;refine tw (lo:=B) (k:=c.hy.l.length+1) (es:=4) (w:=v8) (cs:=Pr.cellsL (c.hy.l++[c.hd])) (l:=[v8,vI 120]) (t:=vB q) ?_ (fun j hj=>?_) ⟨82,ik,?_⟩ rfl ?_ ?_ rfl (wt _ ?_) (fun h g1 g2=>?_) ?_
  ·simp-implicitDefEqProofs only[V];exact r8
  ·simp only[ie,j7,or_false] at hj;rcases hj with rfl|rfl
   ·refine⟨v8,?_,.inr rfl⟩;exact U36
   ·refine⟨vB false,?_,.inl rfl⟩;exact U161
  ·exact U36
  ·exact U36
  ·simp-implicitDefEqProofs only[V];exact nt8
  ·exact U161
  ·simp-implicitDefEqProofs only[V] at g1 g2;have r9:RowX h B (c.hy.l.length+1) 4 v8 (Pr.cellsL (c.hy.l++[c.hd])):=r8.toB om g2;obtain⟨h3,f1,f2,f3,f4⟩:=eJ r9;rw[hA8] at f4;exact ba (xs:=[]) (ys:=[vI 120]) kr (fun v hv=>by cases hv) (aN (Tree.val _)) Vl.leaf.tree f1 f4 rfl q2
  intro rec9 h9 n9 o9;simp-implicitDefEqProofs only[V] at n9 o9;refine Hu (v:=vB (!q)) rfl rfl rfl (wt _ ?_) ?_ ?_ (fun i hi=>by cases hi) ?_
  ·exact U161
  ·exact U106
  ·cases q<;>simp-implicitDefEqProofs only[runOp,V,↓reduceIte,Op.unary]<;>rfl
  refine bc (v:=vB (!q)) rfl rfl ?_ ?_ (fun i hi=>by cases hi) ?_
  ·exact U106
  ·simp-implicitDefEqProofs only[runOp,V,↓reduceIte,rA,e74e]
  refine b9 ?_
  refine⟨trivial,⟨!q,?_,fun h=>⟨hb1,hb2,?_⟩⟩,?_,?_,?_,?_,fun j hj=>?_⟩
  ·exact U36
  ·have:q=true:=by simpa using h
   have:=q1 this;simp only[Pr.nodesL] at this;omega
  ·exact U52
  ·intro x hx;simp-implicitDefEqProofs only[V];rw[o9 x,o8 x om (fun hv=>by have:=(i4 x hv).1;omega),o7 x om,o4' x hx]
  ·simp-implicitDefEqProofs only[V];intro b x t n e;rw[o9] at e;exact nt8 b x t n e
  ·simp-implicitDefEqProofs only[V,d7]
  ·rw[←t1 j hj,←e7 j om];simp only[St.put,St.eval_set,St.eval_toH]
   repeat rw[if_neg om]
theorem Fj(H:Hn)(hN:H.hs.l.length<2^61):∀(r:List Ho) (i:Nat) (s:St),H.hs.l.drop i=r→i≤H.hs.l.length→s.h.get 0=some (.cells H.cells true)→
  s.eval (.t 1)=some (.ptr 0 0)→s.eval (.t 3)=some (vI (i:Nat))→s.defers=[]→
  Run E1 Mv s fun e s'=>s'.defers=[]∧((e=.exit 0∧s'.h=s.h∧s'.eval (.t 1)=some (.ptr 0 0)∧∀x∈r,x.ps.l.length≤26)∨(e=.ret∧s'.eval (.t 2)=some (vB false)))
 | [],i,s,hd,hi,g0,h1,h3,hf=>by
  have hl:=aG hd hi;subst hl;apply aB (rfl:Mv=.loop tD);simp-implicitDefEqProofs only[tD,V,↓reduceIte,rA,reduceCtorEq,g0,h1,h3,hf,bA];exact .inl fun x hx=>by cases hx
 |k::r,i,s,hd,hi,g0,h1,h3,hf=>by
  have hl:=aH hd;have hlt:=bD hl;have w1:IntKind.i64.wrap ((i:Int)+1)=((i+1:Nat):Int):=aD (n:=i+1) om;apply aB (rfl:Mv=.loop tD);cases hz:decide ((26:Int)<((k.ps.l.length:Nat):Int)) with
  |true=>
   simp-implicitDefEqProofs only[tD,V,↓reduceIte,rA,reduceCtorEq,g0,h1,h3,hf,hlt,H.hs.at Ho.len hd,hz]
  |false=>
   have hz':=of_decide_eq_false hz;cases hy:decide ((100:Int)<((k.nm.size:Nat):Int)) with
   |true=>simp-implicitDefEqProofs only[tD,V,↓reduceIte,rA,reduceCtorEq,g0,h1,h3,hf,hlt,H.hs.at Ho.len hd,hz,ae,hy]
   |false=>
    simp-implicitDefEqProofs only[tD,V,↓reduceIte,rA,g0,h1,h3,hlt,H.hs.at Ho.len hd,hz,ae,hy,w1];refine(Fj H hN r (i+1) _ (aF hd) om ?_ ?_ ?_ ?_).mono ?_
    ·exact U80
    ·exact U68
    ·exact U36
    ·exact U69
    rintro e s1 ⟨d1,⟨rfl,e1,e2,q⟩|⟨rfl,q⟩⟩
    ·simp-implicitDefEqProofs only[V] at e1;refine⟨d1,.inl ⟨rfl,e1,e2,fun x hx=>?_⟩⟩;rcases ie.1 hx with rfl|hx
     ·omega
     ·exact q x hx
    ·exact⟨d1,.inr ⟨rfl,q⟩⟩
theorem dp{h:AH}{b:Nat}{a0 a1 a2 a3 a4 a5 a6:AV}{p:Cl}:stK h b 7 0 p.cells (some (.cells [a0,a1,a2,a3,a4,a5,a6] true))=some (h.put b (some (.cells p.cells true))):=dA rfl p.len
theorem Fi(H:Hn)(hN:H.cs.l.length<2^61)(hw:∀c∈H.cs.l,Pr.wtL c.hy.l+c.hd.wt≤2^22):∀(r:List Cl) (i:Nat) (s:St),H.cs.l.drop i=r→i≤H.cs.l.length→0<s.h.next→NoTag s.h→s.h.get 0=some (.cells H.cells true)→
  s.eval (.t 1)=some (.ptr 0 0)→s.eval (.t 4)=some (vI (i:Nat))→s.defers=[]→
  Run E1 Mu s fun e s'=>s'.defers=[]∧((e=.exit 2∧∀c∈r,c.vs.l.length≤26∧c.hy.l.length≤6∧Pr.nodesL c.hy.l+c.hd.nodes≤120)∨(e=.ret∧s'.eval (.t 2)=some (vB false)))
 | [],i,s,hd,hi,hn,ht,g0,h1,h4,hf=>by
  have hl:=aG hd hi;subst hl;apply aB (rfl:Mu=.loop Fk);simp-implicitDefEqProofs only[Fk,V,↓reduceIte,rA,reduceCtorEq,g0,h1,h4,hf,bA];exact .inl fun x hx=>by cases hx
 |k::r,i,s,hd,hi,hn,ht,g0,h1,h4,hf=>by
  have hl:=aH hd;have hlt:=bD hl;have w1:IntKind.i64.wrap ((i:Int)+1)=((i+1:Nat):Int):=aD (n:=i+1) om;have hm:k∈H.cs.l:=jh (i:=i) (by rw[hd];exact ik)
  have n0:(0=s.h.next)=False:=eq_false om;apply aB (rfl:Mu=.loop Fk);simp-implicitDefEqProofs only[Fk,V,↓reduceIte,rA,WF,g0,h1,h4,hlt,H.cs.at Cl.len hd,dp];refine(Rs (c:=k) (C:=s.h.next) (hw k hm) ?_ ?_ ?_ ?_).mono ?_
  ·exact U52
  ·exact U36
  ·exact U107
  ·exact U36
  rintro e s1 ⟨rfl,⟨b,e85,hb⟩,m1,o1,t1,d1,q1⟩;simp-implicitDefEqProofs only[V] at m1 o1 d1 q1;have e1:s1.eval (.t 1)=some (.ptr 0 0):=by rw[q1 1 om];simp-implicitDefEqProofs only[↓reduceIte,rA,h1]
  have e4:s1.eval (.t 4)=some (vI (i:Nat)):=by rw[q1 4 om];simp-implicitDefEqProofs only[↓reduceIte,rA,h4]
  have g1:s1.h.get 0=some (.cells H.cells true):=by rw[o1 0 om,if_neg om,if_neg om,g0]
  cases b with
  |true=>simp-implicitDefEqProofs only[V,↓reduceIte,reduceCtorEq,e85,d1,hf]
  |false=>
   simp-implicitDefEqProofs only[V,↓reduceIte,e85,e4,w1];refine(Fi H hN hw r (i+1) _ (aF hd) om ?_ ?_ ?_ ?_ ?_ ?_).mono ?_
   ·exact U52
   ·exact U108
   ·exact U109
   ·exact U110
   ·exact U36
   ·exact U56
   rintro e s2 ⟨d2,⟨rfl,q⟩|⟨rfl,q⟩⟩
   ·refine⟨d2,.inl ⟨rfl,fun x hx=>?_⟩⟩;rcases ie.1 hx with rfl|hx
    ·exact hb rfl
    ·exact q x hx
   ·exact⟨d2,.inr ⟨rfl,q⟩⟩
structure SmallH (H:Hn):Prop where
 hs:H.hs.l.length≤8
 cs:H.cs.l.length≤15
 sy:H.sy.l.length≤12
 flat:flatC H.cs.l=true
 ps:∀x∈H.hs.l,x.ps.l.length≤26
 cl:∀c∈H.cs.l,c.vs.l.length≤26∧c.hy.l.length≤6∧Pr.nodesL c.hy.l+c.hd.nodes≤120
theorem Ce(H:Hn)(hh:H.hs.l.length<2^61)(hN:H.cs.l.length<2^61)(hw:∀c∈H.cs.l,Pr.wtL c.hy.l+c.hd.wt≤2^22):∃b:Bool,(b=true→SmallH H)∧∀h,RunCall E1 (.f 5) [.agg H.cells] h (vB b) h:=by
 have fl:=Ee H hN fun c hc=>by
  have h1:=hw c hc;have h2:=dU c.hy.l;have h3:=kX c.hd;refine⟨om,fun p hp=>?_,om⟩;have h4:=cP hp;have h5:=cQ c.hy.l;omega
 obtain⟨r,⟨b,hb,hx⟩,ha⟩:=Yt (g:=5) (l:=[.agg H.cells]) (P:=fun r=>∃b,(b=true→SmallH H)∧r=vB b) aNH fun s hs hh' hd=>by
  have h0:=hs 0 _ rfl;have no:∀x:AV,(∃b,(b=true→SmallH H)∧AV.val (.bool false)=vB b):=fun _=>⟨false,(fun h=>by cases h),rfl⟩
  cases c1:decide ((8:Int)<(H.hs.l.length:Nat)) with
  |true=>
   simp-implicitDefEqProofs only[wG,f5,V,↓reduceIte,rA,reduceCtorEq,h0,hh',hd,c1];exact⟨_,no undefA,rfl⟩
  |false=>cases c2:decide ((12:Int)<(H.sy.l.length:Nat)) with
   |true=>
    simp-implicitDefEqProofs only[wG,f5,V,↓reduceIte,rA,reduceCtorEq,h0,hh',hd,c1,c2];exact⟨_,no undefA,rfl⟩
   |false=>cases c3:decide ((15:Int)<(H.cs.l.length:Nat)) with
    |true=>
     simp-implicitDefEqProofs only[wG,f5,V,↓reduceIte,rA,reduceCtorEq,h0,hh',hd,c1,c2,c3];exact⟨_,no undefA,rfl⟩
    |false=>cases c4:flatC H.cs.l with
     |false=>
      simp-implicitDefEqProofs only[wG,f5,V,↓reduceIte,rA,reduceCtorEq,h0,hh',hd,c1,c2,c3,aA fl,c4];exact⟨_,no undefA,rfl⟩
     |true=>
      have c1':=of_decide_eq_false c1;have c2':=of_decide_eq_false c2;have c3':=of_decide_eq_false c3;simp-implicitDefEqProofs only[wG,f5,V,↓reduceIte,rA,h0,hh',c1,c2,c3,aA fl,c4];refine(Fj H hh H.hs.l 0 _ rfl (ic _) ?_ ?_ ?_ ?_).mono ?_
      ·exact U36
      ·exact U36
      ·exact U58
      ·exact U40
      rintro e s1 ⟨d1,⟨rfl,e1,e2,q⟩|⟨rfl,q⟩⟩
      ·simp-implicitDefEqProofs only[V] at e1;simp-implicitDefEqProofs only[V,WB];refine(Fi H hN hw H.cs.l 0 _ rfl (ic _) ?_ ?_ ?_ ?_ ?_ ?_).mono ?_
       ·simp-implicitDefEqProofs only[V,e1];exact Nat.zero_lt_one
       ·simp-implicitDefEqProofs only[V,e1];exact NoTag.empty.alloc
       ·exact U110
       ·exact U77
       ·exact U58
       ·exact U81
       rintro e s2 ⟨d2,⟨rfl,q2⟩|⟨rfl,q2⟩⟩
       ·simp-implicitDefEqProofs only[V,↓reduceIte,reduceCtorEq,WB,d2];exact⟨_,⟨true,fun _=>⟨om,om,om,c4,q,q2⟩,rfl⟩,rfl⟩
       ·simp-implicitDefEqProofs only[V,reduceCtorEq,d2,q2];exact⟨_,no undefA,rfl⟩
      ·simp-implicitDefEqProofs only[V,reduceCtorEq,d1,q];exact⟨_,no undefA,rfl⟩
 subst hx;exact⟨b,hb,aC kr kr (aN (Tree.hn H)) rfl (Tree.val _) ha⟩
def okC(c:Pr):Bool:=(decide (c.op=5)&&decide ((((c.ks.flatMap holesS).length:Nat):Int)=0))|| !decide ((0:Int)<(((holesS c).length:Nat):Int))
def fitL:List Pr→Bool
 | []=>true
 |c::r=>okC c&&fitL r
theorem Rh{s:St}{b:Nat}{c:Pr}(hb:c.nodes<2^28)(g:s.h.get b=some (.cells c.cells true))(hbn:b<s.h.next):
  ∃h2,RunCall E1 (.f 86) [.own b 0 1 4 (some 1)] s.h ((⟨holesS c,nilK,none⟩:Vl Pr).A Pr.cells) h2∧h2.next=s.h.next∧∀x,x≠b→h2.get x=s.h.get x:=by
 have r1:RowX s.h 0 1 4 (.own b 0 1 4 (some 1)) c.cells:=RowX.made c.leaves c.len (ic _) hbn g;obtain⟨h3,f1,f2,f3,f4⟩:=eJ r1;have e:rowX (.own b 0 1 4 (some 1)) 1 c.cells=(⟨[c],none,some 1⟩:Vl Pr).A Pr.cells:=by
  simp only[rowX,Vl.A,kidsA,Bl,jw,cond_false,A8,Bw,iz,il,jf]
 rw[e] at f4;have H:=iQ ⟨[c],none,some 1⟩ (by show 1<2^28;decide) (fun p hp=>by rw[ig.1 hp];exact hb) (by show c.nodes+0<_;omega)
 have e2:([c].flatMap holesS)=holesS c:=by simp only[A8,Bw,iz]
 rw[show(⟨[c],none,some 1⟩:Vl Pr).l=[c] from rfl,e2] at H;obtain⟨h2,k1,k2⟩:=Yo (E:=E1) (g:=86) (xs:=[]) (ys:=[]) (a:=.own b 0 1 4 (some 1)) kr (fun v hv=>by cases hv) (fun v hv=>by cases hv) Vl.leaf.tree f1 f4 H
 refine⟨h2,k1,?_,fun x hx=>?_⟩
 ·rcases k2 with rfl|rfl
  ·rfl
  ·exact f2
 ·rcases k2 with rfl|rfl
  ·rfl
  ·exact f3 x (fun hv=>hx (by simpa only[AM.ids,ig] using hv))
theorem Fh(w:Vl Pr)(hN:w.l.length<2^28)(hn:∀c∈w.l,c.nodes<2^28):∀(r:List Pr) (i:Nat) (s:St),w.l.drop i=r→i≤w.l.length→
  s.eval (.t 16)=some (w.A Pr.cells)→s.eval (.t 17)=some (vI (w.l.length:Nat))→s.eval (.t 18)=some (vI (i:Nat))→s.defers=[]→
  Run E1 tC s fun e s'=>s'.defers=[]∧((fitL r=true∧e=.exit 0)∨(fitL r=false∧e=.ret∧s'.eval (.t 6)=some (vI 6)))
 | [],i,s,hd,hi,h16,h17,h18,hf=>by
  have hl:=aG hd hi;subst hl;apply aB (rfl:tC=.loop jN);simp-implicitDefEqProofs only[jN,V,↓reduceIte,rA,reduceCtorEq,h17,h18,hf,bA,fitL]
 |k::r,i,s,hd,hi,h16,h17,h18,hf=>by
  have hl:=aH hd;have hlt:=bD hl;have w1:IntKind.i64.wrap ((i:Int)+1)=((i+1:Nat):Int):=aD (n:=i+1) om;have hm:k∈w.l:=jh (i:=i) (by rw[hd];exact ik)
  have hkn:=hn k hm;have hke:=k.nodes_eq;have hkl:=an k.ks;have H1:=iQ k.vl (by rw[k.vl_l];omega) (fun p hp=>by rw[k.vl_l] at hp;have:=cP hp;omega) (by rw[k.vl_l];omega)
  rw[k.vl_A,k.vl_l] at H1;obtain⟨h2,H2,m2,o2⟩:=Rh (s:=s.toH (((s.h.alloc (.cells zc true)).put s.h.next (some (.cells k.cells true))).alloc (.cells k.cells true))) (b:=s.h.next+1) (c:=k) hkn (ax (h:=(s.h.alloc (.cells zc true)).put s.h.next (some (.cells k.cells true)))) (jx _);have vl:∀l:List Pr,lenV ((⟨l,nilK,none⟩:Vl Pr).A Pr.cells)=some (vI (l.length:Nat)):=fun l=>Vl.len;have zce:[AV.val (.int .i64 0),vS ⟨#[]⟩,vI 0,.val (.slice none 0 0)]=zc:=rfl;have cont:∀s1:St,s1.eval (.t 16)=some (w.A Pr.cells)→s1.eval (.t 17)=some (vI (w.l.length:Nat))→s1.eval (.t 18)=some (vI ((i+1:Nat):Int))→s1.defers=[]→fitL (k::r)=fitL r→
    Run E1 tC s1 fun e s'=>s'.defers=[]∧((fitL (k::r)=true∧e=.exit 0)∨(fitL (k::r)=false∧e=.ret∧s'.eval (.t 6)=some (vI 6))):=fun s1 q1 q2 q3 q4 q5=>by
   rw[q5];exact Fh w hN hn r (i+1) s1 (aF hd) om q1 q2 q3 q4
  apply aB (rfl:tC=.loop jN);have second:okC k= !decide ((0:Int)<(((holesS k).length:Nat):Int))→True:=fun _=>trivial;cases c1:decide (k.op=5) with
  |true=>cases c2:decide ((((k.ks.flatMap holesS).length:Nat):Int)=0) with
   |true=>
    have e:fitL (k::r)=fitL r:=by simp only[fitL,okC,c1,c2,Bool.and_self,Bool.true_or,jj]
    simp-implicitDefEqProofs only[jN,V,↓reduceIte,rA,WF,h16,h17,h18,hlt,w.at Pr.len hd,c1,aA H1,vl,c2,w1];refine cont _ ?_ ?_ ?_ ?_ e
    all_goals simp-implicitDefEqProofs only[V,↓reduceIte,rA,h16,h17,hf]
   |false=>
    simp-implicitDefEqProofs only[jN,V,↓reduceIte,rA,WF,h16,h17,h18,hlt,w.at Pr.len hd,c1,aA H1,vl,c2,fa];refine aW (v:=(⟨holesS k,nilK,none⟩:Vl Pr).A Pr.cells) (h':=h2) ?_ ?_
    ·exact U111
    cases c3:decide ((0:Int)<(((holesS k).length:Nat):Int)) with
    |true=>simp-implicitDefEqProofs only[V,↓reduceIte,reduceCtorEq,vl,c3,hf,fitL,okC,c1,c2]
    |false=>
     have e:fitL (k::r)=fitL r:=by simp only[fitL,okC,c1,c2,c3,Bool.and_false,Bm,jv,jj]
     simp-implicitDefEqProofs only[V,↓reduceIte,rA,vl,c3,h18,w1];refine cont _ ?_ ?_ ?_ ?_ e
     all_goals simp-implicitDefEqProofs only[V,↓reduceIte,rA,h16,h17,hf]
  |false=>
   simp-implicitDefEqProofs only[jN,V,↓reduceIte,rA,WF,h16,h17,h18,hlt,w.at Pr.len hd,c1,fa];refine aW (v:=(⟨holesS k,nilK,none⟩:Vl Pr).A Pr.cells) (h':=h2) ?_ ?_
   ·exact U111
   cases c3:decide ((0:Int)<(((holesS k).length:Nat):Int)) with
   |true=>simp-implicitDefEqProofs only[V,↓reduceIte,reduceCtorEq,vl,c3,hf,fitL,okC,c1]
   |false=>
    have e:fitL (k::r)=fitL r:=by simp only[fitL,okC,c1,c3,jw,Bm,jv,jj]
    simp-implicitDefEqProofs only[V,↓reduceIte,rA,vl,c3,h18,w1];refine cont _ ?_ ?_ ?_ ?_ e
    all_goals simp-implicitDefEqProofs only[V,↓reduceIte,rA,h16,h17,hf]
noncomputable def fitsE (Vx:Evr) (p:Pr) (l:List Pr):Int:=bif decide (boolS Vx p=0) then(bif fitL l then 0 else 6) else boolS Vx p
theorem Eg(Vx:Evr)(hV:EvB Vx)(p:Pr)(hb:p.nodes<2^61)(w:Vl Pr)(hN:w.l.length<2^28)(hn:∀c∈w.l,c.nodes<2^28)(h:AH):RunCall E1 (.f 60) [.agg Vx.cells,p.av,w.A Pr.cells] h (vI (fitsE Vx p w.l)) h:=by
 refine ai kr aIS (Dt (Tree.ev Vx) (Tree.pr p) Vl.leaf.tree) rfl (Tree.val _) (fun s hs hh hd hr=>?_) h;have h0:=hs 0 _ rfl;have h1:=hs 1 _ rfl;have h2:=hs 2 _ rfl;unfold fitsE;cases c1:decide (boolS Vx p=0) with
 |false=>simp-implicitDefEqProofs only[Jx,f60,V,↓reduceIte,rA,reduceCtorEq,h0,h1,hh,hd,aA (np Vx hV p hb),c1]
 |true=>
  simp-implicitDefEqProofs only[Jx,f60,V,↓reduceIte,rA,reduceCtorEq,h0,h1,h2,hh,aA (np Vx hV p hb),c1];refine(Fh w hN hn w.l 0 _ rfl (ic _) ?_ ?_ ?_ ?_).mono ?_
  ·exact U36
  ·exact U112
  ·exact U58
  ·exact U40
  rintro e s1 ⟨d1,⟨q,rfl⟩|⟨q,rfl,q2⟩⟩
  ·exact U82
  ·exact U83
mutual
theorem vT:∀(p:Pr),∀c∈p.spl,c.nodes≤p.nodes
 |.mk o s n ks a b,c,hc=>by
  simp only[Pr.spl] at hc;cases h:decide (o=15)&&decide (ks.length=2) with
  |true=>
   rw[h] at hc;have:=qJ ks c hc;simp only[Pr.nodes];omega
  |false=>
   rw[h] at hc;simp only[cond_false] at hc;cases hv:(Pr.mk o s n ks a b).void with
   |true=>rw[hv] at hc;cases hc
   |false=>
    rw[hv] at hc;rw[ig.1 hc,Dj];exact ib _
theorem qJ:∀(l:List Pr),∀c∈Pr.splL l,c.nodes≤Pr.nodesL l
 | [],c,hc=>by cases hc
 |k::r,c,hc=>by
  simp only[Pr.splL,jb] at hc;simp only[Pr.nodesL];rcases hc with hc|hc
  ·have:=vT k c hc;omega
  ·have:=qJ r c hc;omega
end
theorem Ef{Vx:Evr}(hV:EvB Vx){p:Pr}{L:List Pr}{v:AV}{lo:Nat}{h:AH}(hb:p.nodes<2^61)(hN:L.length<2^28)(hn:∀c∈L,c.nodes<2^28)(r:RowX h lo L.length 4 v (Pr.cellsL L)):
  RunCall E1 (.f 60) [.agg Vx.cells,p.av,v] h (vI (fitsE Vx p L)) h:=by
 obtain⟨w,hw,hA⟩:=xV r rfl;obtain⟨h3,f1,f2,f3,f4⟩:=eJ r;rw[hA] at f4;have H:=Eg Vx hV p hb w (by rw[hw];exact hN) (by rw[hw];exact hn)
 rw[hw] at H;exact ba (xs:=[.agg Vx.cells,p.av]) (ys:=[]) kr (bT (Tree.ev Vx) (Tree.pr p)) (fun v hv=>by cases hv) Vl.leaf.tree f1 f4 rfl H
theorem Km{s:St}{Vx:Evr}(hV:EvB Vx){p:Pr}{A B:Nat}(hb:p.nodes<2^28)(hA:A<s.h.next)(hB:B<s.h.next)(gA:s.h.get A=some (.cells Vx.cells true))(gB:s.h.get B=some (.cells p.cells true))(ht:NoTag s.h)(h6:s.eval (.t 6)=some (.ptr A 0))(h8:s.eval (.t 8)=some (.ptr B 0)):
  Run E1 Xd s fun e s'=>e=.normal∧s'.eval (.t 9)=some (vI (fitsE Vx p p.spl))∧s.h.next≤s'.h.next∧(∀x,x<s.h.next→s'.h.get x=s.h.get x)∧NoTag s'.h∧s'.defers=s.defers∧∀j,j<27→j≠9→s'.eval (.t j)=s.eval (.t j):=by
 have nA:∀o,niceT s.h (some (.ptr A o))=true:=fun o=>bj hA gA (by rw[Vx.ids0];rfl)
 have nB:∀o,niceT s.h (some (.ptr B o))=true:=fun o=>bj hB gB (by rw[p.ids0];rfl)
 have oA:∀o,onlyT [A,B] (some (.ptr A o))=true:=fun o=>bu (by simp[memN])
 have oB:∀o,onlyT [A,B] (some (.ptr B o))=true:=fun o=>bu (by simp[memN])
 refine am ?_
 show DrawTo E1 (jQ.take 3++jQ.drop 3) [] s _;refine dF (R:=[A,B]) (K1:=fun s'=>s'.eval (.t 27)=some (.agg Vx.cells)∧s'.eval (.t 28)=some p.av∧s'.eval (.t 29)=some p.av∧s'.defers=s.defers∧∀j,j<27→s'.eval (.t j)=s.eval (.t j)) (jQ.take 3) [] s s.h 3 rfl (fun x hx=>by cases hx) (fun r hr'=>by
  simp only[ie,j7,or_false] at hr';omega) rfl rfl ?_ ?_
 ·simp-implicitDefEqProofs only[jQ,jr,jg,wpDm,aw,iv,is,footed,V,↓reduceIte,rA,h6,h8,gA,gB,nA,nB,oA,oB];intro j hj
  repeat rw[if_neg om]
 rintro s1 ⟨e27,e28,e29,d1,t1⟩ hh done hl hq;obtain⟨v,h1,c1,r1,m1,o1,n1⟩:=fA p om (restrictH s1.h []);have m1:s1.h.next≤h1.next:=m1;show DrawTo E1 (jQ.drop 3) _ _ _;simp only[jQ,jq,j9];refine jZ (a:=p.av) (v:=v) (h1:=h1) e29 p.idsA c1 m1 (fun j hj=>?_) ?_
 ·simp only[ie,j7,or_false] at hj;omega
 intro h' k1 k2 k3 k4;have r2:RowX h' s1.h.next p.spl.length 4 v (Pr.cellsL p.spl):=r1.to om fun x x1 x2=>k2 x x1 x2;have nt:NoTag h':=k4 (by rw[hh];exact ht) (n1 jH)
 have hsl:=kG p;have hsn:=vT p;refine tw (lo:=s1.h.next) (k:=p.spl.length) (es:=4) (w:=v) (cs:=Pr.cellsL p.spl) (l:=[.agg Vx.cells,p.av,v]) (t:=vI (fitsE Vx p p.spl)) ?_ (fun j hj=>?_) ⟨30,de,?_⟩ rfl ?_ ?_ rfl rfl (fun h g1 g2=>?_) ?_
 ·exact U103
 ·simp only[ie,j7,or_false] at hj;rcases hj with rfl|rfl|rfl
  ·refine⟨.agg Vx.cells,?_,.inl Vx.ids0⟩;simp-implicitDefEqProofs only[V,↓reduceIte,rA,e27]
  ·refine⟨p.av,?_,.inl p.idsA⟩;simp-implicitDefEqProofs only[V,↓reduceIte,rA,e28]
  ·refine⟨v,?_,.inr rfl⟩;exact U36
 ·exact U36
 ·simp-implicitDefEqProofs only[V,↓reduceIte,rA,e27,e28]
 ·simp-implicitDefEqProofs only[V];exact nt
 ·simp-implicitDefEqProofs only[V] at g1 g2;exact Ef hV om om (fun c hc=>by have:=hsn c hc;omega) (r2.toB om g2)
 intro rec h2 n2 o2;simp-implicitDefEqProofs only[V] at n2 o2;refine bc (v:=vI (fitsE Vx p p.spl)) rfl rfl ?_ ?_ (fun i hi=>by cases hi) ?_
 ·exact U104
 ·exact U88
 refine b9 ?_
 refine⟨trivial,?_,?_,?_,?_,?_,fun j hj hj9=>?_⟩
 ·exact U36
 ·simp-implicitDefEqProofs only[V];rw[hh] at m1;omega
 ·intro x hx;simp-implicitDefEqProofs only[V];rw[o2 x,k3 x (by rw[hh];exact hx),hh]
 ·simp-implicitDefEqProofs only[V];intro b x t n e;rw[o2] at e;exact nt b x t n e
 ·exact U81
 ·exact U105
noncomputable def hyE (Vx:Evr):List Pr→Int
 | []=>0
 |p::r=>bif decide (fitsE Vx p p.spl=0) then hyE Vx r else fitsE Vx p p.spl
theorem Fr(Vx:Evr)(hV:EvB Vx)(w:Vl Pr)(hN:w.l.length<2^61)(hn:∀p∈w.l,p.nodes<2^28):∀(r:List Pr) (i:Nat) (s:St),w.l.drop i=r→i≤w.l.length→2<s.h.next→NoTag s.h→s.h.get 2=some (.cells Vx.cells true)→
  s.eval (.t 6)=some (.ptr 2 0)→s.eval (.t 21)=some (w.A Pr.cells)→s.eval (.t 22)=some (vI (w.l.length:Nat))→s.eval (.t 23)=some (vI (i:Nat))→s.defers=[]→
  Run E1 y9 s fun e s'=>s'.defers=[]∧s.h.next≤s'.h.next∧(∀x,x<s.h.next→s'.h.get x=s.h.get x)∧((hyE Vx r=0∧e=.exit 0∧s'.eval (.t 6)=some (.ptr 2 0)∧s'.eval (.t 3)=s.eval (.t 3))∨(hyE Vx r≠0∧e=.ret∧s'.eval (.t 4)=some (vI (hyE Vx r))))
 | [],i,s,hd,hi,hn',ht,g2,h6,h21,h22,h23,hf=>by
  have hl:=aG hd hi;subst hl;apply aB (rfl:y9=.loop tO);simp-implicitDefEqProofs only[tO,V,↓reduceIte,rA,reduceCtorEq,h6,h22,h23,hf,bA,hyE];exact⟨ib _,fun x _=>by first|rfl|trivial⟩
 |k::r,i,s,hd,hi,hn',ht,g2,h6,h21,h22,h23,hf=>by
  have hl:=aH hd;have hlt:=bD hl;have w1:IntKind.i64.wrap ((i:Int)+1)=((i+1:Nat):Int):=aD (n:=i+1) om;have hm:k∈w.l:=jh (i:=i) (by rw[hd];exact ik)
  apply aB (rfl:y9=.loop tO);simp-implicitDefEqProofs only[tO,V,↓reduceIte,rA,WF,h21,h22,h23,hlt,w.at Pr.len hd];refine(Km (Vx:=Vx) hV (p:=k) (A:=2) (B:=s.h.next) (hn k hm) ?_ ?_ ?_ ?_ ?_ ?_ ?_).mono ?_
  ·exact U52
  ·exact U52
  ·simp-implicitDefEqProofs only[V];rw[if_neg om,if_neg om,g2]
  ·exact U36
  ·exact U107
  ·exact U79
  ·exact U36
  rintro e s1 ⟨rfl,e9,m1,o1,t1,d1,q1⟩;simp-implicitDefEqProofs only[V] at m1 o1 d1 q1;have o1':∀x,x<s.h.next→s1.h.get x=s.h.get x:=fun x hx=>by rw[o1 x om,if_neg om,if_neg om]
  have e6:s1.eval (.t 6)=some (.ptr 2 0):=by rw[q1 6 om om];simp-implicitDefEqProofs only[↓reduceIte,rA,h6]
  have e3:s1.eval (.t 3)=s.eval (.t 3):=by rw[q1 3 om om];simp-implicitDefEqProofs only[↓reduceIte,rA]
  have e21:s1.eval (.t 21)=some (w.A Pr.cells):=by rw[q1 21 om om];simp-implicitDefEqProofs only[↓reduceIte,rA,h21]
  have e22:s1.eval (.t 22)=some (vI (w.l.length:Nat)):=by rw[q1 22 om om];simp-implicitDefEqProofs only[↓reduceIte,rA,h22]
  have e23:s1.eval (.t 23)=some (vI (i:Nat)):=by rw[q1 23 om om];simp-implicitDefEqProofs only[↓reduceIte,rA,h23]
  cases hc:decide (fitsE Vx k k.spl=0) with
  |false=>
   have e:hyE Vx (k::r)=fitsE Vx k k.spl:=by simp only[hyE,hc,cond_false]
   rw[e];simp-implicitDefEqProofs only[V,↓reduceIte,rA,reduceCtorEq,e9,hc,d1,hf];exact⟨om,o1',.inr (of_decide_eq_false hc)⟩
  |true=>
   have e:hyE Vx (k::r)=hyE Vx r:=by simp only[hyE,hc,cond_true]
   rw[e];simp-implicitDefEqProofs only[V,↓reduceIte,rA,e9,hc,e23,w1];refine(Fr Vx hV w hN hn r (i+1) _ (aF hd) om ?_ ?_ ?_ ?_ ?_ ?_ ?_ ?_).mono ?_
   ·exact U52
   ·exact U108
   ·simp-implicitDefEqProofs only[V];rw[o1' 2 hn',g2]
   ·exact U55
   ·simp-implicitDefEqProofs only[V,↓reduceIte,rA,e21]
   ·simp-implicitDefEqProofs only[V,↓reduceIte,rA,e22]
   ·exact U36
   ·exact U56
   rintro e s2 ⟨d2,m2,o2,H⟩;simp-implicitDefEqProofs only[V,↓reduceIte,rA] at m2 o2 H;refine⟨d2,om,fun x hx=>by rw[o2 x om,o1' x hx],?_⟩
   rcases H with⟨z,rfl,z1,z2⟩|H
   ·exact .inl ⟨z,rfl,z1,by rw[z2,e3]⟩
   ·exact .inr H
structure HnB (H:Hn):Prop where
 sy:H.sy.l.length<2^28
 sa:∀x∈H.sy.l,x.as.l.length<2^28
 hs:H.hs.l.length<2^28
 hp:∀x∈H.hs.l,x.ps.l.length<2^28
 cs:H.cs.l.length<2^28
 cv:∀c∈H.cs.l,c.vs.l.length<2^28
 cw:∀c∈H.cs.l,Pr.wtL c.hy.l+c.hd.wt≤2^22
def envC(c:Cl):Int:=envE ⟨c.vs,⟨[],nilK,none⟩,⟨[],nilK,none⟩⟩
theorem Sj(H:Hn)(hH:HnB H)(c:Cl)(hc:c∈H.cs.l):∃Vx:Evr,Vx.vs.l=c.vs.l∧Vx.sy.l=H.sy.l∧Vx.hs.l=H.hs.l∧∀h,RunCall E1 (.f 34) [.agg H.cells,.agg c.cells] h (vI (bif decide (envC c=0) then(bif decide (hyE Vx c.hy.l=0) then fitsE Vx c.hd [c.hd] else hyE Vx c.hy.l) else envC c)) h:=by
 have hcv:=hH.cv c hc;have hcw:=hH.cw c hc;have hhs:=hH.hs;have hsy:=hH.sy;have hl1:=dU c.hy.l;have hl2:=cQ c.hy.l;have hl3:=kX c.hd;have hy:=tn ⟨c.vs,⟨[],nilK,none⟩,⟨[],nilK,none⟩⟩ (by show c.vs.l.length<_;omega) (by show 0<_;decide) (fun x hx=>by cases hx) (by show 0<_;decide) (fun x hx=>by cases hx)
 have hy:∀h,RunCall E1 (.f 33) [.agg [c.vs.A Vr.cells,.val (.slice none 0 0),.val (.slice none 0 0)]] h (vI (envC c)) h:=hy;obtain⟨Vx,v1,v2,v3,hV24⟩:=Kt H c om om om;have hV:EvB Vx:=⟨by rw[v1];omega,by rw[v2];omega,fun x hx=>by rw[v2] at hx;have:=hH.sa x hx;omega,by rw[v3];omega,fun x hx=>by rw[v3] at hx;have:=hH.hp x hx;omega⟩
 have hn:∀p∈c.hy.l,p.nodes<2^28:=fun p hp=>by have:=cP hp;omega
 refine⟨Vx,v1,v2,v3,fun h=>ai kr aJO (bT (Tree.hn H) (Tree.cl c)) rfl (Tree.val _) (fun s hs hh hd hr=>?_) h⟩;have h0:=hs 0 _ rfl;have h1:=hs 1 _ rfl;cases q1:decide (envC c=0) with
 |false=>simp-implicitDefEqProofs only[Kl,f34,V,↓reduceIte,rA,reduceCtorEq,WF,h0,h1,hh,hd,aA hy,q1]
 |true=>
  simp-implicitDefEqProofs only[Kl,f34,V,↓reduceIte,rA,rB,reduceCtorEq,WF,h0,h1,hh,aA hy,q1,aA hV24];have ev:∀(h:AH) (b:Nat) (a0 a1 a2:AV),stK h b 3 0 Vx.cells (some (.cells [a0,a1,a2] true))=some (h.put b (some (.cells Vx.cells true))):=fun h b a0 a1 a2=>dA rfl rfl;simp-implicitDefEqProofs only[V,↓reduceIte,rA,rB,ev];refine(Fr Vx hV c.hy om hn c.hy.l 0 _ rfl (ic _) ?_ ?_ ?_ ?_ ?_ ?_ ?_ ?_).mono ?_
  ·exact U57
  ·simp-implicitDefEqProofs only[V];exact NoTag.empty.alloc.alloc.alloc.put
  ·exact U36
  ·exact U36
  ·exact U36
  ·exact U112
  ·exact U58
  ·exact U40
  rintro e s1 ⟨d1,m1,o1,⟨q2,rfl,e6,e3⟩|⟨q2,rfl,e4⟩⟩
  ·simp-implicitDefEqProofs only[V,↓reduceIte,rA,rB] at m1 o1 e3;have m1:3≤s1.h.next:=m1;have g2:s1.h.get 2=some (.cells Vx.cells true):=by
    rw[o1 2 (by show 2<3;decide)]
    exact U36
   have g1:s1.h.get 1=some (.cells c.cells true):=by
    rw[o1 1 (by show 1<3;decide)]
    exact U36
   rw[decide_eq_true q2];simp-implicitDefEqProofs only[V,↓reduceIte,rA,WF,e6,e3,g1,g2,fa];refine aW (v:=vI (fitsE Vx c.hd [c.hd])) (h':=s1.h.alloc (.cells c.hd.cells true)) ?_ ?_
   ·simp-implicitDefEqProofs only[V];have hce:Pr.cellsL [c.hd]=c.hd.cells:=by simp only[Pr.cellsL,iz]
    refine Ef hV om (by show 1<_;decide) (fun k hk=>by rw[ig.1 hk];omega) (lo:=0) ?_
    rw[hce];exact RowX.made c.hd.leaves c.hd.len (ic _) (jx _) ax
   simp-implicitDefEqProofs only[V,↓reduceIte,reduceCtorEq,d1]
  ·exact U113
def ClauseOk(H:Hn)(c:Cl):Prop:=∃Vx:Evr,Vx.vs.l=c.vs.l∧Vx.sy.l=H.sy.l∧Vx.hs.l=H.hs.l∧hyE Vx c.hy.l=0∧fitsE Vx c.hd [c.hd]=0
structure CheckOk (H:Hn):Prop where
 holes:holesE H.hs.l=0
 clauses:∀c∈H.cs.l,ClauseOk H c
end Go.Proofs.YtkhblipgiijoiaaGreatDoor
