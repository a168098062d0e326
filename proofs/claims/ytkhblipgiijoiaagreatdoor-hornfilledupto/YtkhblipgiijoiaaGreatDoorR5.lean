/- A part of the proof about filled horn systems: ZBulk ZTypes ZPreds ZFew. -/
import Derived.Test.YtkhblipgiijoiaaGreatDoorU0
import Derived.Test.YtkhblipgiijoiaaGreatDoorH3
import Derived.Test.YtkhblipgiijoiaaGreatDoorR4

set_option linter.all false
open Nat renaming reduceEqDiff → rA, reduceAdd → rB, reduceMul → rC
open Int renaming reduceEq → rD, reduceLT → rE, reduceLE → rF
open Option.some renaming injEq → sI
namespace Go.Proofs.YtkhblipgiijoiaaGreatDoor
open Go Go.AM
set_option maxHeartbeats 4000000
mutual
def Pr.wt:Pr→Nat
 |.mk _ s _ ks _ _=>1+s.size+Pr.wtL ks
def Pr.wtL:List Pr→Nat
 | []=>0
 |k::r=>k.wt+Pr.wtL r
end
theorem wt_eq(p:Pr):p.wt=1+p.nm.size+Pr.wtL p.ks:=by cases p;rfl
mutual
theorem iu:∀p:Pr,p.nodes≤p.wt
 |.mk o s n ks a b=>by
  have:=gG ks
  simp only[Pr.nodes,Pr.wt]
  omega
theorem gG:∀l:List Pr,Pr.nodesL l≤Pr.wtL l
 | []=>Nat.le_refl _
 |k::r=>by
  have h1:=iu k
  have h2:=gG r
  simp only[Pr.nodesL,Pr.wtL]
  omega
end
theorem fq:∀l:List Pr,l.length≤Pr.wtL l
 | []=>Nat.le_refl _
 |k::r=>by
  have h1:=fq r
  have h2:=wt_eq k
  simp only[List.length_cons,Pr.wtL]
  omega
theorem v_quo50{P:Program}{t:TypeId}{g:Bool}{n:Nat}(hn:n≤2^30):binA P .quo t g (.val (.int .i64 (n:Int))) (.val (.int .i64 50))=some (.val (.int .i64 ((n/50:Nat):Int))):=by
 have h1:(n:Int).tdiv 50=((n/50:Nat):Int):=rfl
 have h2:IntKind.i64.wrap ((n/50:Nat):Int)=((n/50:Nat):Int):=aE (n:=n/50) om
 have h3:binInt .quo .i64 (n:Int) 50=some (.int .i64 ((n/50:Nat):Int)):=by
  show(bif (50:Int)==0 then none else some (Value.int .i64 (IntKind.i64.wrap ((n:Int).tdiv 50))))=_
  rw[h1,h2]
  rfl
 simp only[binA,h3]
 rfl
theorem Pr.s1{p:Pr}{l:List AV}:fieldAddrV 1 (.iptr (p.cells++l))=some (.iptr (.val (.string p.nm):: .val (.int .i64 p.n)::p.kids::l)):=by rw[p.cells_eq];rfl
theorem Pr.s3{p:Pr}{l:List AV}:fieldAddrV 3 (.iptr (p.cells++l))=some (.iptr (p.kids::l)):=by rw[p.cells_eq];rfl
def PredsOk(w:Vl Pr):Prop:=Pr.wtL w.l≤2^24→∀m:Int,-2^40≤m→m≤2^40→∃r:Nat,r≤Pr.wtL w.l∧((r:Int)≤m→Pr.nodesL w.l≤r)∧∀h,RunCall E1 (.f 123) [w.A Pr.cells,.val (.int .i64 m)] h (.val (.int .i64 (r:Nat))) h
theorem tI(w:Vl Pr)(hw:Pr.wtL w.l≤2^24)(m:Int)(m1: -2^40≤m)(m2:m≤2^40):∀(r:List Pr) (i acc:Nat) (s:St),w.l.drop i=r→i≤w.l.length→acc+Pr.wtL r≤2^24→(∀k∈r,PredsOk k.vl)→
  s.eval (.t 0)=some (w.A Pr.cells)→s.eval (.t 1)=some (.val (.int .i64 m))→s.eval (.t 5)=some (.val (.int .i64 (acc:Nat)))→s.eval (.t 6)=some (.val (.int .i64 (i:Nat)))→s.defers=[]→
  Run E1 nG s fun e s'=>e=.exit 0∧s'.defers=[]∧∃b:Nat,s'.eval (.t 5)=some (.val (.int .i64 (b:Nat)))∧acc≤b∧b≤acc+Pr.wtL r∧((b:Int)≤m→acc+Pr.nodesL r≤b)
 | [],i,acc,s,hd,hi,ha,hk,h0,h1,h5,h6,hf=>by
  have hl:=aN hd hi
  subst hl
  apply aC (rfl:nG=.loop gU)
  simp-implicitDefEqProofs only[gU,V,↓reduceIte,rA,rB,rC,reduceCtorEq,rD,rE,rF,WB,h0,h1,h5,h6,hf,Vl.len,lt_f]
  exact⟨acc,rfl,Nat.le_refl _,by simp only[Pr.wtL];omega,fun _=>by simp only[Pr.nodesL];omega⟩
 |k::r,i,acc,s,hd,hi,ha,hk,h0,h1,h5,h6,hf=>by
  have hl:=aV hd
  have hlt:=lt_t hl
  have hlw:=fq w.l
  have w1:IntKind.i64.wrap ((i:Int)+1)=((i+1:Nat):Int):=aE (n:=i+1) om
  have hwk:=wt_eq k
  have ha':acc+(k.wt+Pr.wtL r)≤2^24:=ha
  apply aC (rfl:nG=.loop gU)
  cases hc:decide ((acc:Int)≤m) with
  |false=>
   simp-implicitDefEqProofs only[gU,V,↓reduceIte,rA,rB,rC,reduceCtorEq,rD,rE,rF,WB,h0,h1,h5,h6,hf,Vl.len,hlt,hc]
   exact⟨acc,rfl,Nat.le_refl _,om,fun h=>absurd h (of_decide_eq_false hc)⟩
  |true=>
   have hc':=of_decide_eq_true hc
   have w2:IntKind.i64.wrap ((acc:Int)+1)=((acc+1:Nat):Int):=aE (n:=acc+1) om
   have w3:IntKind.i64.wrap (((acc+1:Nat):Int)+((k.nm.size/50:Nat):Int))=((acc+1+k.nm.size/50:Nat):Int):=aE (n:=acc+1+k.nm.size/50) om
   have w4:IntKind.i64.wrap (m-((acc+1+k.nm.size/50:Nat):Int))=m-((acc+1+k.nm.size/50:Nat):Int):=IntWalk.i64_in _ om
   obtain⟨q,q1,q2,q3⟩:=hk k List.mem_cons_self (by rw[k.vl_l];omega) (m-((acc+1+k.nm.size/50:Nat):Int)) om om
   rw[k.vl_l] at q1 q2
   rw[k.vl_A] at q3
   have w5:IntKind.i64.wrap (((acc+1+k.nm.size/50:Nat):Int)+(q:Int))=((acc+1+k.nm.size/50+q:Nat):Int):=aE (n:=acc+1+k.nm.size/50+q) om
   simp-implicitDefEqProofs only[gU,V,↓reduceIte,rA,rB,rC,reduceCtorEq,rD,rE,rF,WB,h0,h1,h5,h6,Vl.len,hlt,hc,w.at Pr.len hd,Pr.s1,Pr.s3,v_quo50 (n:=k.nm.size) om,aR,w1,w2,w3,w4,w5,aA q3]
   refine(tI w hw m m1 m2 r (i+1) (acc+1+k.nm.size/50+q) _ (aF hd) om om (fun k' hk'=>hk k' (List.mem_cons_of_mem _ hk')) ?_ ?_ ?_ ?_ ?_).mono ?_
   ·exact U32
   ·exact U39
   ·exact U28
   ·exact U28
   ·exact U72
   rintro e s1 ⟨rfl,d1,b,b1,b2,b3,b4⟩
   have hnk:=k.nodes_eq
   refine⟨rfl,d1,b,b1,om,by simp only[Pr.wtL];omega,fun hb=>?_⟩
   have:=b4 hb
   have:=q2 om
   simp only[Pr.nodesL]
   omega
theorem nv(w:Vl Pr)(hk:∀k∈w.l,PredsOk k.vl):PredsOk w:=fun hw m m1 m2=>by
 obtain⟨r,⟨x,hx,x1,x2⟩,ha⟩:=ansE (g:=123) (l:=[w.A Pr.cells,.val (.int .i64 m)]) (P:=fun r=>∃x:Nat,r=.val (.int .i64 (x:Nat))∧x≤Pr.wtL w.l∧((x:Int)≤m→Pr.nodesL w.l≤x)) f123_ok fun s hs hh hd=>by
  have h0:=hs 0 _ rfl
  have h1:=hs 1 _ rfl
  simp-implicitDefEqProofs only[f123_fn,f123,V,↓reduceIte,rA,rB,rC,reduceCtorEq,rD,rE,rF,WB,h0,h1,hh]
  refine(tI w hw m m1 m2 w.l 0 0 _ rfl (Nat.zero_le _) om hk ?_ ?_ ?_ ?_ ?_).mono ?_
  ·exact U32
  ·exact U39
  ·exact U66
  ·exact U66
  ·exact U33
  rintro e s1 ⟨rfl,d1,b,b1,b2,b3,b4⟩
  simp-implicitDefEqProofs only[V,↓reduceIte,rA,rB,rC,reduceCtorEq,rD,rE,rF,WB,d1,b1]
  exact⟨_,⟨b,rfl,om,fun h=>by have:=b4 h;omega⟩,rfl⟩
 subst hx
 exact⟨x,x1,x2,aB kr kr (mem2 Vl.leaf.tree (Tree.val _)) rfl (Tree.val _) ha⟩
mutual
theorem preds_k:∀p:Pr,PredsOk p.vl
 |.mk o s n ks nl cap=>nv ⟨ks,nl,cap⟩ (tq ks)
theorem tq:∀l:List Pr,∀k∈l,PredsOk k.vl
 | [],k,hk=>by cases hk
 |p::r,k,hk=>by
  rcases List.mem_cons.1 hk with e|hk
  ·rw[e]
   exact preds_k p
  ·exact tq r k hk
end
theorem qf(w:Vl Pr):PredsOk w:=nv w (tq w.l)
theorem qM{α:Type}{f:α→List AV}{es:Nat}(hf:∀a,(f a).length=es)(h:AH)(w:Vl α):elemsOf h es (w.A f)=some (w.l.flatMap f,w.l.length):=by
 obtain⟨l,nl,cap⟩:=w
 simp only[Vl.A,kidsA]
 cases nl with
 |none=>exact gi (bM hf l)
 |some x=>
  cases l with
  |nil=>
   obtain⟨a,c⟩:=x
   rfl
  |cons a l=>exact gi (bM hf (a::l))
theorem tf{h:AH}{lo k:Nat}{v:AV}{L:List Pr}(r:RowX h lo k 4 v (Pr.cellsL L))(hk:L.length=k):∃w:Vl Pr,w.l=L∧rowX v k (Pr.cellsL L)=w.A Pr.cells:=by
 subst hk
 rcases r with⟨_,_,⟨h0,rfl⟩|⟨b,_,_,_,rfl,_⟩⟩|⟨_,_,b,_,_,rfl,_⟩
 ·have:L=[]:=List.eq_nil_of_length_eq_zero h0
  subst this
  exact⟨⟨[],nilK,none⟩,rfl,rfl⟩
 ·exact⟨⟨L,none,none⟩,rfl,by simp only[rowX,Vl.A,kidsA,Option.isSome_none,Bool.false_and,cond_false,Pr.cellsL_eq]⟩
 ·exact⟨⟨L,none,some L.length⟩,rfl,by simp only[rowX,Vl.A,kidsA,Option.isSome_none,Bool.false_and,cond_false,Pr.cellsL_eq]⟩
theorem v_q0{P:Program}{t:TypeId}{g:Bool}:binA P .quo t g (.val (.int .i64 ((0:Nat):Int))) (.val (.int .i64 50))=some (.val (.int .i64 0)):=v_quo50 (n:=0) om
def nilA:AV:=.val (.slice none 0 0)
def tyC(w:Vl Pr):List AV:=[.val (.int .i64 0),.val (.string ⟨#[]⟩),nilA,nilA,.val (.int .i64 0),.val (.string ⟨#[]⟩),.val (.int .i64 0),nilA,w.A Pr.cells]
def tyA(w:Vl Pr):AV:=.imm (tyC w) 1 (some 1)
theorem zm{s:St}{w:Vl Pr}{m:Int}(hw:Pr.wtL w.l≤2^22)(m1:0≤m)(m2:m≤2^40)(ht:NoTag s.h)(h0:s.eval (.t 0)=some (tyA w))(h1:s.eval (.t 1)=some (.val (.int .i64 m)))(h5:s.eval (.t 5)=some (.val (.int .i64 0)))(h6:s.eval (.t 6)=some (.val (.int .i64 0))):
  Run E1 f80_d0 s fun e s'=>e=.normal∧s'.defers=s.defers∧(∃r:Nat,s'.eval (.t 5)=some (.val (.int .i64 (r:Nat)))∧r≤2+Pr.wtL w.l∧((r:Int)≤m→Pr.nodesL w.l≤r))∧∀j,j<5∨j=6→s'.eval (.t j)=s.eval (.t j):=by
 have k0:idxAddrSV 9 (tyA w) 0=some (.iptr (tyC w)):=rfl
 have q1:fieldAddrV 1 (.iptr (tyC w))=some (.iptr (.val (.string ⟨#[]⟩)::(tyC w).drop 2)):=rfl
 have q3:fieldAddrV 3 (.iptr (tyC w))=some (.iptr (nilA::(tyC w).drop 4)):=rfl
 have q4:fieldAddrV 4 (.iptr (tyC w))=some (.iptr (zPr.cells++[w.A Pr.cells])):=rfl
 have q8:fieldAddrV 8 (.iptr (tyC w))=some (.iptr [w.A Pr.cells]):=rfl
 have ln:lenV nilA=some (.val (.int .i64 0)):=rfl
 have z:(((⟨#[]⟩:ByteArray).size:Nat):Int)=((0:Nat):Int):=rfl
 have ti:ids (tyA w)=[]:=rfl
 have ni:ids nilA=[]:=rfl
 have vi:∀v,ids (AV.val v)=[]:=fun _=>rfl
 have w1:IntKind.i64.wrap (0+1)=1:=rfl
 have w2:IntKind.i64.wrap (1+0)=1:=rfl
 refine az ?_
 show DrawTo E1 (di.take 22++di.drop 22) [] s _
 refine tS (di.take 22) [] s rfl (fun x hx=>by cases hx) ?_
 simp-implicitDefEqProofs only[di,List.take_succ_cons,List.take_zero,List.drop_succ_cons,List.drop_zero,wpDr,aW,List.all_cons,List.all_nil,V,↓reduceIte,rA,rB,rC,reduceCtorEq,rD,rE,rF,WF,h0,h1,h5,h6,aM ti,aK ti,aM ni,ab,cU,k0,q1,q3,q4,ln,aR,z,v_q0,w1,w2,ae]
 intro _ d1 hl1 hq1
 have hl1:d1.length=22:=hl1
 refine cx (cs:=zPr.cells) (fun j hj v hv=>?_) rfl ?_ (fun i hi=>?_) rfl rfl ?_
 ·simp only[List.mem_cons,List.mem_nil_iff,or_false] at hj
  subst hj
  simp-implicitDefEqProofs only[V,↓reduceIte,rA,rB,rC,reduceCtorEq,rD,rE,rF,sI] at hv
  subst hv
  rw[zPr.idsA]
  rfl
 ·refine gM (v:=zPr.av) ?_ rfl zPr.len rfl
  exact U28
 ·simp only[List.mem_cons,List.mem_nil_iff,or_false] at hi
  omega
 generalize hB:s.h.next=B at hq1
 simp-implicitDefEqProofs only[V,↓reduceIte,rA,rB,rC,reduceCtorEq,rD,rE,rF,hB]
 have hmild:∀x∈d1++[(⟨[],[],B,B+1⟩:DRec)],MildR [] x:=fun x hx r hr=>by cases hr
 have hl2:(d1++[(⟨[],[],B,B+1⟩:DRec)]).length=23:=by rw[List.length_append,hl1];rfl
 show DrawTo E1 ((di.drop 23).take 5++di.drop 28) (d1++[(⟨[],[],B,B+1⟩:DRec)]) _ _
 refine sP (R:=[]) (K1:=fun s'=>s'.eval (.t 45)=some (w.A Pr.cells)∧s'.eval (.t 40)=some (.own B 0 1 4 (some 1))∧s'.eval (.t 1)=some (.val (.int .i64 m))∧s'.eval (.t 34)=some (.val (.int .i64 1))∧s'.defers=s.defers∧∀j,j<5∨j=6→s'.eval (.t j)=s.eval (.t j)) ((di.drop 23).take 5) _ _ _ (by rw[hl2];rfl) hmild (fun r hr=>by cases hr) rfl ?_ ?_
 ·simp-implicitDefEqProofs only[di,List.take_succ_cons,List.take_zero,List.drop_succ_cons,List.drop_zero,wpDm,aW,List.all_cons,List.all_nil,footed,V,↓reduceIte,rA,rB,rC,reduceCtorEq,rD,rE,rF,WF,h0,h1,h5,h6,aM ti,aK ti,aM ni,ab,cU,k0,q8,aM Vl.ids,show∀l,onlyT [] (some (AV.iptr l))=true from fun _=>rfl]
  intro j hj
  repeat rw[if_neg om]
 rintro s1 ⟨e45,e40,e1,e34,d1',o1⟩ hh more hm _
 simp-implicitDefEqProofs only[V,↓reduceIte,rA,rB,rC,reduceCtorEq,rD,rE,rF] at hh
 rw[List.append_assoc]
 have hm:more.length=5:=hm
 have hn1:s1.h.next=B+1:=by rw[hh,←hB];rfl
 have hg1:s1.h.get B=some (.cells zPr.cells true):=by rw[hh,←hB];exact ai
 have ht1:NoTag s1.h:=by rw[hh];exact ht.alloc
 have r1:RowX s1.h B 1 4 (.own B 0 1 4 (some 1)) zPr.cells:=RowX.made zPr.leaves zPr.len (Nat.le_refl _) om hg1
 have hwl:=fq w.l
 show DrawTo E1 (di.drop 28) _ _ _
 simp only[di,List.drop_succ_cons,List.drop_zero]
 refine tW (k:=1) (m:=w.l.length) (lo:=B) (v:=.own B 0 1 4 (some 1)) (x:=w.A Pr.cells) (cs:=zPr.cells) (new:=w.l.flatMap Pr.cells) r1 om (fun h _=>qM Pr.len h w) (bM Pr.len _) (bv Pr.leaves _) (bD om de) (fun y hy=>by rw[Vl.ids] at hy;cases hy) e40 e45 de de (fun j hj=>?_) rfl rfl (fun F D lo hi hF hD=>?_) ?_
 ·exact U96
 ·refine kU (n:=B) hq1 (fun y hy=>?_) (fun y hy=>?_) (fun i hi=>?_)
  ·rcases hF y hy with q|q
   ·simp only[AM.ids,List.mem_singleton] at q
    omega
   ·rw[Vl.ids] at q
    cases q
  ·have q:=hD y hy
   simp only[AM.ids,List.mem_singleton] at q
   omega
  ·rw[hl1]
   simp only[List.mem_cons,List.mem_nil_iff,or_false] at hi
   omega
 intro rec v2 h2 r2 n2 o2 t2 _
 have ec:zPr.cells++w.l.flatMap Pr.cells=Pr.cellsL (zPr::w.l):=by rw[Pr.cellsL,Pr.cellsL_eq]
 have i2:∀y∈ids v2,B≤y:=fun y hy=>(r2.ids y hy).1
 have hk2:(zPr::w.l).length=1+w.l.length:=by rw[List.length_cons];omega
 rw[ec] at r2
 obtain⟨w2,hw2,hA2⟩:=tf r2 hk2
 have hz2:Pr.wtL (zPr::w.l)=1+Pr.wtL w.l:=rfl
 have hn2:Pr.nodesL (zPr::w.l)=1+Pr.nodesL w.l:=rfl
 obtain⟨q,c1,c2,c3⟩:=qf w2 (by rw[hw2];omega) m om m2
 rw[hw2] at c1 c2
 have w5:IntKind.i64.wrap (1+(q:Int))=((1+q:Nat):Int):=by
  rw[show 1+(q:Int)=((1+q:Nat):Int) by omega]
  exact aE (n:=1+q) om
 refine bY (v:=.val (.int .i64 m)) rfl rfl ?_ ?_ (fun i hi=>?_) ?_
 ·simp-implicitDefEqProofs only[V,↓reduceIte,rA,rB,rC,reduceCtorEq,rD,rE,rF,List.all_cons,List.all_nil,e1,ab]
 ·simp-implicitDefEqProofs only[runOp,V,↓reduceIte,rA,rB,rC,reduceCtorEq,rD,rE,rF,e1]
 ·simp only[List.length_append,List.length_cons,List.length_nil,hl1,hm]
  simp only[List.mem_cons,List.mem_nil_iff,or_false] at hi
  omega
 refine qU (lo:=B) (k:=1+w.l.length) (es:=4) (w:=v2) (cs:=Pr.cellsL (zPr::w.l)) (l:=[v2,.val (.int .i64 m)]) (t:=.val (.int .i64 (q:Nat))) ?_ (fun j hj=>?_) ⟨46,List.mem_cons_self,?_⟩ rfl ?_ ?_ rfl rfl (fun h g1 g2=>?_) (fun F D lo hi hF hD=>?_) ?_
 ·exact U102
 ·simp only[List.mem_cons,List.mem_nil_iff,or_false] at hj
  rcases hj with rfl|rfl
  ·refine⟨v2,?_,.inr rfl⟩
   exact U28
  ·refine⟨.val (.int .i64 m),?_,.inl rfl⟩
   exact U28
 ·exact U28
 ·exact U28
 ·simp-implicitDefEqProofs only[V,↓reduceIte,rA,rB,rC,reduceCtorEq,rD,rE,rF]
  exact t2 ht1
 ·simp-implicitDefEqProofs only[V,↓reduceIte,rA,rB,rC,reduceCtorEq,rD,rE,rF] at g1 g2
  have r3:RowX h B (1+w.l.length) 4 v2 (Pr.cellsL (zPr::w.l)):=r2.toB om g2
  obtain⟨h3,f1,f2,f3,f4⟩:=cu r3
  rw[hA2] at f4
  exact cZ (xs:=[]) (ys:=[.val (.int .i64 m)]) kr (fun v hv=>by cases hv) (mem1 (Tree.val _)) Vl.leaf.tree f1 f4 rfl c3
 ·rw[List.append_assoc,List.append_assoc]
  refine kU (n:=B) hq1 (fun y hy=>i2 y (hF y hy)) (fun y hy=>i2 y (hD y hy)) (fun i hi=>?_)
  rw[hl1]
  simp only[List.mem_cons,List.mem_nil_iff,or_false] at hi
  omega
 intro rec3 h3 n3 o3
 refine bY (v:=.val (.int .i64 ((1+q:Nat):Int))) rfl rfl ?_ ?_ (fun i hi=>by cases hi) ?_
 ·simp-implicitDefEqProofs only[V,↓reduceIte,rA,rB,rC,reduceCtorEq,rD,rE,rF,List.all_cons,List.all_nil,e34,ab]
 ·simp-implicitDefEqProofs only[runOp,V,↓reduceIte,rA,rB,rC,reduceCtorEq,rD,rE,rF,e34,w5]
 refine bY (v:=.val (.int .i64 ((1+q:Nat):Int))) rfl rfl ?_ ?_ (fun i hi=>by cases hi) ?_
 ·exact U103
 ·exact U97
 refine bV ?_
 refine⟨?_,⟨1+q,?_,om,fun hr=>?_⟩,fun j hj=>?_⟩
 ·simp-implicitDefEqProofs only[V,↓reduceIte,rA,rB,rC,reduceCtorEq,rD,rE,rF,d1']
 ·exact U28
 ·have:=c2 om
  omega
 ·rw[←o1 j hj]
  simp only[St.put,St.eval_set,St.eval_toH]
  repeat rw[if_neg om]
theorem types_nil(m:Int)(h:AH):RunCall E1 (.f 80) [nilA,.val (.int .i64 m)] h (.val (.int .i64 0)) h:=by
 refine aB kr kr (mem2 (Tree.val _) (Tree.val _)) rfl (Tree.val _) (ad f80_ok fun s hs hh hd=>?_) h
 have h0:=hs 0 _ rfl
 have h1:=hs 1 _ rfl
 have ln:lenV nilA=some (.val (.int .i64 0)):=rfl
 have h0:s.eval (.t 0)=some nilA:=h0
 simp-implicitDefEqProofs only[zl,f80,V,↓reduceIte,rA,rB,rC,reduceCtorEq,rD,rE,rF,h0,h1,hh]
 apply aC (rfl:uk=.loop iQ)
 simp-implicitDefEqProofs only[iQ,V,↓reduceIte,rA,rB,rC,reduceCtorEq,rD,rE,rF,WB,h0,h1,hd,ln]
theorem tZ(w:Vl Pr)(hw:Pr.wtL w.l≤2^22)(m:Int)(m1:0≤m)(m2:m≤2^40):∃r:Nat,r≤2+Pr.wtL w.l∧((r:Int)≤m→Pr.nodesL w.l≤r)∧∀h,RunCall E1 (.f 80) [tyA w,.val (.int .i64 m)] h (.val (.int .i64 (r:Nat))) h:=by
 obtain⟨r,⟨x,hx,x1,x2⟩,ha⟩:=ansE (g:=80) (l:=[tyA w,.val (.int .i64 m)]) (P:=fun r=>∃x:Nat,r=.val (.int .i64 (x:Nat))∧x≤2+Pr.wtL w.l∧((x:Int)≤m→Pr.nodesL w.l≤x)) f80_ok fun s hs hh hd=>by
  have h0:=hs 0 _ rfl
  have h1:=hs 1 _ rfl
  have ln:lenV (tyA w)=some (.val (.int .i64 1)):=rfl
  have k0:idxAddrSV 9 (tyA w) 0=some (.iptr (tyC w)):=rfl
  have q2:fieldAddrV 2 (.iptr (tyC w))=some (.iptr (nilA::(tyC w).drop 3)):=rfl
  have c0:decide (0≤m)=true:=decide_eq_true m1
  have w1:IntKind.i64.wrap (0+1)=1:=rfl
  have nc:nilA.cells=some [nilA]:=rfl
  simp-implicitDefEqProofs only[zl,f80,V,↓reduceIte,rA,rB,rC,reduceCtorEq,rD,rE,rF,h0,h1,hh]
  apply aC (rfl:uk=.loop iQ)
  simp-implicitDefEqProofs only[iQ,V,↓reduceIte,rA,rB,rC,reduceCtorEq,rD,rE,rF,WB,h0,h1,ln,c0]
  refine(zm (w:=w) (m:=m) hw m1 m2 ?_ ?_ ?_ ?_ ?_).mono ?_
  ·simp-implicitDefEqProofs only[V,↓reduceIte,rA,rB,rC,reduceCtorEq,rD,rE,rF,hh]
   exact NoTag.empty
  ·exact U32
  ·exact U39
  ·exact U28
  ·exact U28
  rintro e s1 ⟨rfl,d1,⟨r,e5,r1,r2⟩,o1⟩
  have e0:s1.eval (.t 0)=some (tyA w):=by rw[o1 0 om];simp-implicitDefEqProofs only[V,↓reduceIte,rA,rB,rC,reduceCtorEq,rD,rE,rF,h0]
  have e1:s1.eval (.t 1)=some (.val (.int .i64 m)):=by rw[o1 1 om];simp-implicitDefEqProofs only[V,↓reduceIte,rA,rB,rC,reduceCtorEq,rD,rE,rF,h1]
  have e6:s1.eval (.t 6)=some (.val (.int .i64 0)):=by rw[o1 6 om];simp-implicitDefEqProofs only[V,↓reduceIte,rA,rB,rC,reduceCtorEq,rD,rE,rF]
  have d1:s1.defers=[]:=by rw[d1];simp-implicitDefEqProofs only[V,↓reduceIte,rA,rB,rC,reduceCtorEq,rD,rE,rF,hd]
  have w2:IntKind.i64.wrap ((r:Int)+0)=(r:Int):=by
   rw[Int.add_zero]
   exact aE (n:=r) om
  simp-implicitDefEqProofs only[V,↓reduceIte,rA,rB,rC,reduceCtorEq,rD,rE,rF,WB,e0,e1,e5,e6,k0,q2,nc,aA (types_nil _),w1,w2]
  apply aC (rfl:uk=.loop iQ)
  simp-implicitDefEqProofs only[iQ,V,↓reduceIte,rA,rB,rC,reduceCtorEq,rD,rE,rF,WB,e0,e1,e5,ln,d1]
  exact⟨_,⟨r,rfl,r1,r2⟩,rfl⟩
 subst hx
 exact⟨x,x1,x2,aB kr kr (mem2 (Leaf.imm _ _ _).tree (Tree.val _)) rfl (Tree.val _) ha⟩
def exC(w:Vl Pr):List AV:=[.val (.int .i64 0),.val (.string ⟨#[]⟩),.val (.int .i64 0),nilA,nilA,nilA,tyA w]
theorem exC_ids(w:Vl Pr):idsL (exC w)=[]:=rfl
theorem yE(w:Vl Pr):Tree (.agg (exC w)):=Tree.agg fun v hv=>by
 simp only[exC,List.mem_cons,List.mem_nil_iff,or_false] at hv
 rcases hv with rfl|rfl|rfl|rfl|rfl|rfl|rfl
 ·exact Leaf.val _
 ·exact Leaf.val _
 ·exact Leaf.val _
 ·exact Leaf.val _
 ·exact Leaf.val _
 ·exact Leaf.val _
 ·exact Leaf.imm _ _ _
theorem yU(w:Vl Pr)(hw:Pr.wtL w.l≤2^22)(m:Int)(m1:0≤m)(m2:m≤2^40):∃r:Nat,r≤3+Pr.wtL w.l∧((r:Int)≤m→Pr.nodesL w.l≤r)∧∀h,RunCall E1 (.f 54) [.agg (exC w),.val (.int .i64 m)] h (.val (.int .i64 (r:Nat))) h:=by
 obtain⟨q,q1,q2,q3⟩:=tZ w hw m m1 m2
 refine⟨1+q,om,fun hr=>by have:=q2 om;omega,fun h=>aB kr kr (mem2 (yE w) (Tree.val _)) rfl (Tree.val _) (ad f54_ok fun s hs hh hd=>?_) h⟩
 have h0:=hs 0 _ rfl
 have h1:=hs 1 _ rfl
 have g1:∀rw,cfB (some (.cells (exC w) rw)) 1=some (.val (.string ⟨#[]⟩)::(exC w).drop 2):=fun _=>rfl
 have g3:∀rw,cfB (some (.cells (exC w) rw)) 3=some (nilA::(exC w).drop 4):=fun _=>rfl
 have g4:∀rw,cfB (some (.cells (exC w) rw)) 4=some (nilA::(exC w).drop 5):=fun _=>rfl
 have g5:∀rw,cfB (some (.cells (exC w) rw)) 5=some (nilA::(exC w).drop 6):=fun _=>rfl
 have g6:∀rw,cfB (some (.cells (exC w) rw)) 6=some [tyA w]:=fun _=>rfl
 have ln:lenV nilA=some (.val (.int .i64 0)):=rfl
 have z:(((⟨#[]⟩:ByteArray).size:Nat):Int)=((0:Nat):Int):=rfl
 have ti:ids (tyA w)=[]:=rfl
 have w2:IntKind.i64.wrap (1+0)=1:=rfl
 have w5:IntKind.i64.wrap (1+(q:Int))=((1+q:Nat):Int):=by
  rw[show 1+(q:Int)=((1+q:Nat):Int) by omega]
  exact aE (n:=1+q) om
 have vi:∀v,ids (AV.val v)=[]:=fun _=>rfl
 simp-implicitDefEqProofs only[f54_fn,f54,V,↓reduceIte,rA,rB,rC,reduceCtorEq,rD,rE,rF,WB,h0,hh]
 have hg:((s.toH (AH.empty.alloc (.cells (exC w) true))).set 2 (.ptr 0 0)).h.get 0=some (.cells (exC w) true):=by
  exact U28
 refine Run.mono (az (Q:=fun e s'=>e=.normal∧s'.eval (.t 5)=some (.val (.int .i64 ((1+q:Nat):Int)))∧s'.eval (.t 1)=some (.val (.int .i64 m))∧s'.eval (.t 2)=some (.ptr 0 0)∧s'.h.get 0=some (.cells (exC w) true)∧s'.defers=[]) ?_) ?_
 ·have n0:∀o,niceT (AH.empty.alloc (.cells (exC w) true)) (some (.ptr 0 o))=true:=fun o=>bQ (cs:=exC w) (by show 0<1;decide) (by simp[AH.get_alloc,km]) (by rw[exC_ids];rfl)
  have o0:∀o,onlyT [0] (some (.ptr 0 o))=true:=fun o=>ba (by simp[memN])
  refine gI (R:=[0]) rfl (fun x hx=>by cases hx) (fun r hr'=>?_) ?_
  ·rw[List.mem_singleton.1 hr']
   simp-implicitDefEqProofs only[V,↓reduceIte,rA,rB,rC,reduceCtorEq,rD,rE,rF]
   decide
  simp-implicitDefEqProofs only[f54_o0,wpDm,aW,List.all_cons,List.all_nil,footed,V,↓reduceIte,rA,rB,rC,reduceCtorEq,rD,rE,rF,WF,h0,h1,hh,hd,n0,o0,g1,g6,aM ti,aK ti,ak ti,ab,eP,ak (vi _),aR,z,v_q0,w2]
  refine⟨_,q3,?_⟩
  simp-implicitDefEqProofs only[wpDm,aW,List.all_cons,List.all_nil,footed,V,↓reduceIte,rA,rB,rC,reduceCtorEq,rD,rE,rF,WF,h0,h1,hh,hd,n0,o0,ab,eP,ak (vi _),w5]
 rintro e s1 ⟨rfl,e5,e1,e2,g0,d1⟩
 simp-implicitDefEqProofs only[V,↓reduceIte,rA,rB,rC,reduceCtorEq,rD,rE,rF,WB,e5,e1,e2,g0]
 apply aC (rfl:f54_l2=.loop zy)
 simp-implicitDefEqProofs only[zy,V,↓reduceIte,rA,rB,rC,reduceCtorEq,rD,rE,rF,WB,e5,e1,e2,g0,g4,ln]
 apply aC (rfl:f54_l3=.loop zx)
 simp-implicitDefEqProofs only[zx,V,↓reduceIte,rA,rB,rC,reduceCtorEq,rD,rE,rF,WB,e5,e1,e2,g0,g3,ln]
 apply aC (rfl:f54_l5=.loop zw)
 simp-implicitDefEqProofs only[zw,V,↓reduceIte,rA,rB,rC,reduceCtorEq,rD,rE,rF,WB,e5,e1,e2,g0,g5,ln,d1]
theorem put_98{a b c d e f g x y z:AV}:putC [a,b,c,d,e,f,g,x,y] 8 1 [z]=some [a,b,c,d,e,f,g,x,z]:=rfl
theorem put_99{a b c d e f g x y:AV}{w:Vl Pr}:putC [a,b,c,d,e,f,g,x,y] 0 9 (tyC w)=some (tyC w):=rfl
theorem put_76{a b c d e f x z:AV}:putC [a,b,c,d,e,f,x] 6 1 [z]=some [a,b,c,d,e,f,z]:=rfl
theorem rep_ty{h:AH}{b:Nat}{w:Vl Pr}(g:h.get b=some (.cells (tyC w) true))(hb:b<h.next):Rep h 0 h.next 2 (.agg [.val (.int .i64 0),.val (.string ⟨#[]⟩),.val (.int .i64 0),nilA,nilA,nilA,.own b 0 1 9 (some 1)]) (.agg (exC w)):=by
 have r1:Rep h 0 h.next 1 (.own b 0 1 9 (some 1)) (tyA w):=by
  have:=Rep.own (h:=h) (lo:=0) (hi:=h.next) (n:=0) (b:=b) (k:=1) (es:=9) (cap:=some 1) (rw:=true) (ps:=(tyC w).map fun c=>(c,c)) (Nat.zero_le _) hb (by rw[jb];exact g) (by rw[List.length_map];rfl) (fun p hp=>by
   obtain⟨c,hc,rfl⟩:=List.mem_map.1 hp
   refine Rep.leaf ?_
   simp only[tyC,List.mem_cons,List.mem_nil_iff,or_false] at hc
   rcases hc with rfl|rfl|rfl|rfl|rfl|rfl|rfl|rfl|rfl
   ·exact Leaf.val _
   ·exact Leaf.val _
   ·exact Leaf.val _
   ·exact Leaf.val _
   ·exact Leaf.val _
   ·exact Leaf.val _
   ·exact Leaf.val _
   ·exact Leaf.val _
   ·exact Vl.leaf)
  rw[ja] at this
  exact this
 have:=Rep.agg (h:=h) (lo:=0) (hi:=h.next) (n:=1) (ps:=[(.val (.int .i64 0),.val (.int .i64 0)),(.val (.string ⟨#[]⟩),.val (.string ⟨#[]⟩)),(.val (.int .i64 0),.val (.int .i64 0)),(nilA,nilA),(nilA,nilA),(nilA,nilA),(.own b 0 1 9 (some 1),tyA w)]) (fun p hp=>by
  simp only[List.mem_cons,List.mem_nil_iff,or_false] at hp
  rcases hp with rfl|rfl|rfl|rfl|rfl|rfl|rfl
  ·exact Rep.leaf (Leaf.val _)
  ·exact Rep.leaf (Leaf.val _)
  ·exact Rep.leaf (Leaf.val _)
  ·exact Rep.leaf (Leaf.val _)
  ·exact Rep.leaf (Leaf.val _)
  ·exact Rep.leaf (Leaf.val _)
  ·exact r1)
 exact this
theorem lJ(w:Vl Pr)(hw:Pr.wtL w.l≤2^22)(m:Int)(m1:0≤m)(m2:m≤2^40):∃b:Bool,(b=true→((Pr.nodesL w.l:Nat):Int)≤m)∧∀h,RunCall E1 (.f 27) [w.A Pr.cells,.val (.int .i64 m)] h (.val (.bool b)) h:=by
 obtain⟨q,q1,q2,q3⟩:=yU w hw m m1 m2
 refine⟨decide ((q:Int)≤m),fun hb=>?_,fun h=>cK kr f27_ok (mem2 Vl.leaf.tree (Tree.val _)) rfl (Tree.val _) (fun s hs hh hd hr=>?_) h⟩
 ·have:=of_decide_eq_true hb
  have:=q2 this
  omega
 have h0:=hs 0 _ rfl
 have h1:=hs 1 _ rfl
 simp-implicitDefEqProofs only[f27_fn,f27,V,↓reduceIte,rA,rB,rC,reduceCtorEq,rD,rE,rF,WB,WF,h0,h1,hh,put_98]
 have ec:[AV.val (.int .i64 0),.val (.string ⟨#[]⟩),.val (.slice none 0 0),.val (.slice none 0 0),.val (.int .i64 0),.val (.string ⟨#[]⟩),.val (.int .i64 0),.val (.slice none 0 0),w.A Pr.cells]=tyC w:=rfl
 simp-implicitDefEqProofs only[ec,put_99,V,↓reduceIte,rA,rB,rC,reduceCtorEq,rD,rE,rF,WB,WF,h1,put_76]
 have rt:=rep_ty (h:=AH.empty.alloc (.cells (tyC w) true)) (b:=0) (w:=w) (by simp[AH.get_alloc,km]) (by show 0<1;decide)
 have ft:=ng 2 deepest de _ _ _ _ rt (Fz.refl _)
 refine ah (v:=.val (.int .i64 (q:Nat))) (h':=AH.empty.alloc (.cells (tyC w) true)) ?_ ?_
 ·simp-implicitDefEqProofs only[V,↓reduceIte,rA,rB,rC,reduceCtorEq,rD,rE,rF]
  exact cZ (xs:=[]) (ys:=[.val (.int .i64 m)]) (a':=.agg (exC w)) kr (fun v hv=>by cases hv) (mem1 (Tree.val _)) (yE w) rfl ft rfl q3
 simp-implicitDefEqProofs only[V,↓reduceIte,rA,rB,rC,reduceCtorEq,rD,rE,rF,WB,h1,hd]
theorem most_own{s:St}{b:Nat}{p:Pr}{m:Int}{r:Bool}(g:s.h.get b=some (.cells p.cells true))(hb:b<s.h.next)(H:∀h,RunCall E1 (.f 27) [(⟨[p],none,some 1⟩:Vl Pr).A Pr.cells,.val (.int .i64 m)] h (.val (.bool r)) h):
  RunCall E1 (.f 27) [.own b 0 1 4 (some 1),.val (.int .i64 m)] s.h (.val (.bool r)) s.h:=by
 have r1:RowX s.h 0 1 4 (.own b 0 1 4 (some 1)) p.cells:=RowX.made p.leaves p.len (Nat.zero_le _) hb g
 obtain⟨h3,f1,f2,f3,f4⟩:=cu r1
 have e:rowX (.own b 0 1 4 (some 1)) 1 p.cells=(⟨[p],none,some 1⟩:Vl Pr).A Pr.cells:=by
  simp only[rowX,Vl.A,kidsA,Option.isSome_none,Bool.false_and,cond_false,List.flatMap_cons,List.flatMap_nil,List.append_nil,List.length_cons,List.length_nil]
 rw[e] at f4
 exact cZ (xs:=[]) (ys:=[.val (.int .i64 m)]) kr (fun v hv=>by cases hv) (mem1 (Tree.val _)) Vl.leaf.tree f1 f4 rfl H
theorem yB(S:Vl So)(hN:S.l.length<2^61)(hw:∀x∈S.l,x.p.wt≤2^22):∀(r:List So) (i:Nat) (s:St),S.l.drop i=r→i≤S.l.length→
  s.eval (.t 0)=some (S.A So.cells)→s.eval (.t 3)=some (.val (.int .i64 (i:Nat)))→s.defers=[]→
  Run E1 vX s fun e s'=>s'.defers=[]∧((e=.exit 0∧∀x∈r,x.p.nodes≤20)∨(e=.ret∧s'.eval (.t 2)=some (.val (.bool false))))
 | [],i,s,hd,hi,h0,h3,hf=>by
  have hl:=aN hd hi
  subst hl
  apply aC (rfl:vX=.loop kg)
  simp-implicitDefEqProofs only[kg,V,↓reduceIte,rA,rB,rC,reduceCtorEq,rD,rE,rF,WB,h0,h3,hf,Vl.len,lt_f]
  exact .inl fun x hx=>by cases hx
 |k::r,i,s,hd,hi,h0,h3,hf=>by
  have hl:=aV hd
  have hlt:=lt_t hl
  have w1:IntKind.i64.wrap ((i:Int)+1)=((i+1:Nat):Int):=aE (n:=i+1) om
  have hm:k∈S.l:=List.mem_of_mem_drop (i:=i) (by rw[hd];exact List.mem_cons_self)
  apply aC (rfl:vX=.loop kg)
  cases hz:decide ((100:Int)<((k.nm.size:Nat):Int)) with
  |true=>
   simp-implicitDefEqProofs only[kg,V,↓reduceIte,rA,rB,rC,reduceCtorEq,rD,rE,rF,WB,WF,h0,h3,hf,Vl.len,hlt,S.at So.len hd,aR,hz]
  |false=>
   obtain⟨b,b1,b2⟩:=lJ ⟨[k.p],none,some 1⟩ (by show k.p.wt+0≤_;have:=hw k hm;omega) 20 om om
   simp-implicitDefEqProofs only[kg,V,↓reduceIte,rA,rB,rC,reduceCtorEq,rD,rE,rF,WB,WF,h0,h3,Vl.len,hlt,S.at So.len hd,aR,hz,ae,iM]
   refine ah (v:=.val (.bool b)) (h':=s.h.alloc (.cells k.p.cells true)) ?_ ?_
   ·have:=most_own (s:=s.toH (s.h.alloc (.cells k.p.cells true))) (b:=s.h.next) (p:=k.p) (m:=20) (r:=b) ai (Nat.lt_succ_self _) b2
    simp-implicitDefEqProofs only[V,↓reduceIte,rA,rB,rC,reduceCtorEq,rD,rE,rF]
    exact this
   cases b with
   |false=>
    simp-implicitDefEqProofs only[V,↓reduceIte,rA,rB,rC,reduceCtorEq,rD,rE,rF,WB,hf]
   |true=>
    simp-implicitDefEqProofs only[V,↓reduceIte,rA,rB,rC,reduceCtorEq,rD,rE,rF,WB,h3,w1]
    refine(yB S hN hw r (i+1) _ (aF hd) om ?_ ?_ ?_).mono ?_
    ·exact U32
    ·exact U28
    ·exact U72
    rintro e s1 ⟨d1,⟨rfl,q⟩|⟨rfl,q⟩⟩
    ·refine⟨d1,.inl ⟨rfl,fun x hx=>?_⟩⟩
     rcases List.mem_cons.1 hx with rfl|hx
     ·have:=b1 rfl
      have e:Pr.nodesL [x.p]=x.p.nodes+0:=rfl
      rw[e] at this
      omega
     ·exact q x hx
    ·exact⟨d1,.inr ⟨rfl,q⟩⟩
theorem zg(S:Vl So)(hN:S.l.length<2^61)(hw:∀x∈S.l,x.p.wt≤2^22):∃b:Bool,(b=true→S.l.length≤10∧∀x∈S.l,x.p.nodes≤20)∧∀h,RunCall E1 (.f 17) [S.A So.cells] h (.val (.bool b)) h:=by
 obtain⟨r,⟨b,hb,hx⟩,ha⟩:=ansE (g:=17) (l:=[S.A So.cells]) (P:=fun r=>∃b,(b=true→S.l.length≤10∧∀x∈S.l,x.p.nodes≤20)∧r=.val (.bool b)) f17_ok fun s hs hh hd=>by
  have h0:=hs 0 _ rfl
  cases hc:decide ((10:Int)<(S.l.length:Nat)) with
  |true=>
   simp-implicitDefEqProofs only[f17_fn,f17,V,↓reduceIte,rA,rB,rC,reduceCtorEq,rD,rE,rF,WB,h0,hh,hd,Vl.len,hc]
   exact⟨_,⟨false,(fun h=>by cases h),rfl⟩,rfl⟩
  |false=>
   have hc':=of_decide_eq_false hc
   simp-implicitDefEqProofs only[f17_fn,f17,V,↓reduceIte,rA,rB,rC,reduceCtorEq,rD,rE,rF,WB,h0,hh,Vl.len,hc]
   refine(yB S hN hw S.l 0 _ rfl (Nat.zero_le _) ?_ ?_ ?_).mono ?_
   ·exact U32
   ·exact U66
   ·exact U33
   rintro e s1 ⟨d1,⟨rfl,q⟩|⟨rfl,q⟩⟩
   ·simp-implicitDefEqProofs only[V,↓reduceIte,rA,rB,rC,reduceCtorEq,rD,rE,rF,WB,d1]
    exact⟨_,⟨true,fun _=>⟨om,q⟩,rfl⟩,rfl⟩
   ·simp-implicitDefEqProofs only[V,↓reduceIte,rA,rB,rC,reduceCtorEq,rD,rE,rF,WB,d1,q]
    exact⟨_,⟨false,(fun h=>by cases h),rfl⟩,rfl⟩
 subst hx
 exact⟨b,hb,aB kr kr (mem1 Vl.leaf.tree) rfl (Tree.val _) ha⟩
end Go.Proofs.YtkhblipgiijoiaaGreatDoor
