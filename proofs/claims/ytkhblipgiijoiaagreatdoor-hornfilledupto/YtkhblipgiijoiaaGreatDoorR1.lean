/- A part of the proof about filled horn systems: XRowX ZSplit ZRule. -/
import Derived.Test.YtkhblipgiijoiaaGreatDoorU0
import Derived.Test.YtkhblipgiijoiaaGreatDoorD3
import Derived.Test.YtkhblipgiijoiaaGreatDoorH3

set_option linter.all false
open Nat renaming reduceEqDiff → rA, reduceAdd → rB, reduceMul → rC
open Int renaming reduceEq → rD, reduceLT → rE, reduceLE → rF
namespace Go.AM
variable {E:Env}{s:St}{K:St→Prop}{rest:List DOp}{done:List DRec}
def RowX(h:AH)(lo k es:Nat)(v:AV)(cs:List AV):Prop:=
 RowC h lo k es v cs∨((∀c∈cs,Leaf c)∧cs.length=k*es∧∃b,lo≤b∧b<h.next∧v=.own b 0 k es (some k)∧h.get b=some (.cells cs true))
theorem RowC.x{h:AH}{lo k es:Nat}{v:AV}{cs:List AV}(r:RowC h lo k es v cs):RowX h lo k es v cs:=.inl r
theorem RowX.made{h:AH}{lo k es b:Nat}{cs:List AV}(h1:∀c∈cs,Leaf c)(h2:cs.length=k*es)(b1:lo≤b)(b2:b<h.next)(g:h.get b=some (.cells cs true)):RowX h lo k es (.own b 0 k es (some k)) cs:=.inr ⟨h1,h2,b,b1,b2,rfl,g⟩
theorem RowX.leafs{h:AH}{lo k es:Nat}{v:AV}{cs:List AV}(r:RowX h lo k es v cs):∀c∈cs,Leaf c:=by
 rcases r with r|r
 ·exact r.1
 ·exact r.1
theorem RowX.length{h:AH}{lo k es:Nat}{v:AV}{cs:List AV}(r:RowX h lo k es v cs):cs.length=k*es:=by
 rcases r with r|r
 ·exact r.2.1
 ·exact r.2.1
theorem RowX.toB{h h':AH}{lo k es:Nat}{v:AV}{cs:List AV}(r:RowX h lo k es v cs)(hn:h.next≤h'.next)(g:∀x∈ids v,h'.get x=h.get x):RowX h' lo k es v cs:=by
 rcases r with r|⟨h1,h2,b,b1,b2,rfl,b5⟩
 ·exact .inl (r.toB hn g)
 ·exact .inr ⟨h1,h2,b,b1,om,rfl,by rw[g b (by simp only[AM.ids,List.mem_singleton]),b5]⟩
theorem RowX.ids{h:AH}{lo k es:Nat}{v:AV}{cs:List AV}(r:RowX h lo k es v cs):∀x∈ids v,lo≤x∧x<h.next∧h.get x=some (.cells cs true):=by
 rcases r with r|⟨h1,h2,b,b1,b2,rfl,b5⟩
 ·exact r.ids
 ·intro x hx
  simp only[AM.ids,List.mem_singleton] at hx
  subst hx
  exact⟨b1,b2,b5⟩
theorem RowX.to{h h':AH}{lo k es:Nat}{v:AV}{cs:List AV}(r:RowX h lo k es v cs)(hn:h.next≤h'.next)(g:∀x,lo≤x→x<h.next→h'.get x=h.get x):RowX h' lo k es v cs:=
 r.toB hn fun x hx=>g x (r.ids x hx).1 (r.ids x hx).2.1
theorem RowX.low{h:AH}{lo lo' k es:Nat}{v:AV}{cs:List AV}(r:RowX h lo k es v cs)(hl:lo'≤lo):RowX h lo' k es v cs:=by
 rcases r with r|⟨h1,h2,b,b1,b2,rfl,b5⟩
 ·exact .inl (r.low hl)
 ·exact .inr ⟨h1,h2,b,om,b2,rfl,b5⟩
theorem RowX.cells{h:AH}{lo k es:Nat}{v:AV}{cs:List AV}(r:RowX h lo k es v cs):v.cells=some [v]:=by
 rcases r with r|⟨_,_,b,_,_,rfl,_⟩
 ·exact r.cells
 ·rfl
theorem RowX.below{h:AH}{lo k es:Nat}{v:AV}{cs:List AV}(r:RowX h lo k es v cs):AM.below h.next (AM.ids v)=true:=List.all_eq_true.2 fun x hx=>Nat.blt_eq.mpr (r.ids x hx).2.1
theorem RowX.nice{h:AH}{lo k es:Nat}{v:AV}{cs:List AV}(r:RowX h lo k es v cs):niceT h (some v)=true:=by
 simp only[niceT,niceV]
 refine List.all_eq_true.2 fun x hx=>?_
 obtain⟨_,h1,h2⟩:=r.ids x hx
 have:Nat.blt x h.next=true:=Nat.blt_eq.mpr h1
 simp only[this,h2,bo r.leafs]
 rfl
theorem RowX.len{h:AH}{lo k es:Nat}{v:AV}{cs:List AV}(r:RowX h lo k es v cs):lenV v=some (.val (.int .i64 (k:Nat))):=by
 rcases r with r|⟨_,_,b,_,_,rfl,_⟩
 ·exact r.len
 ·rfl
theorem RowX.one{h:AH}{lo k es:Nat}{v:AV}{cs:List AV}(r:RowX h lo k es v cs):AM.ids v=[]∨∃b,AM.ids v=[b]:=by
 rcases r with⟨_,_,⟨_,rfl⟩|⟨b,_,_,_,rfl,_⟩⟩|⟨_,_,b,_,_,rfl,_⟩
 ·exact .inl rfl
 ·exact .inr ⟨b,rfl⟩
 ·exact .inr ⟨b,rfl⟩
theorem elems_Xto{h:AH}{lo k es:Nat}{v:AV}{cs:List AV}(r:RowX h lo k es v cs)(h':AH)(g:∀y∈AM.ids v,h'.get y=h.get y):elemsOf h' es v=some (cs,k):=by
 rcases r with⟨_,h2,⟨rfl,rfl⟩|⟨b,_,_,_,rfl,b5⟩⟩|⟨_,h2,b,_,_,rfl,b5⟩
 ·have:cs=[]:=List.eq_nil_of_length_eq_zero (by rw[h2];omega)
  subst this
  rfl
 ·exact cE (by rw[g b (by simp only[AM.ids,List.mem_singleton]),b5]) h2
 ·exact cE (by rw[g b (by simp only[AM.ids,List.mem_singleton]),b5]) h2
def rowX(v:AV)(k:Nat)(cs:List AV):AV:=match v with
 |.own _ _ _ _ cap=>.imm cs k cap
 |_=>.val (.slice none 0 0)
theorem cu{h:AH}{lo k es:Nat}{v:AV}{cs:List AV}(r:RowX h lo k es v cs):∃h1,freeze deepest v h=h1∧h1.next=h.next∧(∀x,x∉AM.ids v→h1.get x=h.get x)∧toTree h1 deepest v=some (rowX v k cs):=by
 rcases r with r|⟨h1,h2,b,b1,b2,rfl,b5⟩
 ·obtain⟨h1,e1,e2,e3,e4⟩:=dx r
  refine⟨h1,e1,e2,e3,?_⟩
  rw[e4]
  obtain⟨_,_,⟨rfl,rfl⟩|⟨b,_,_,h3,rfl,_⟩⟩:=r
  ·rfl
  ·have:Nat.beq k 0=false:=by
    cases hk:Nat.beq k 0 with
    |false=>rfl
    |true=>
     have:=Nat.eq_of_beq_eq_true hk
     omega
   simp only[rowT,rowX,this]
   rfl
 ·refine⟨_,rfl,?_,?_,wn b5 h2 h1⟩
  ·exact(dV deepest _ h).1
  ·intro x hx
   have hx:x≠b:=fun e=>hx (by rw[e];simp only[AM.ids,List.mem_singleton])
   show(match h.get b with
    |some (.cells cs _)=>((cs.drop 0).take (k*es)).foldl (fun h c=>freeze 999999999 c h) (h.put b (some (.cells cs false)))
    |_=>h).get x=_
   rw[b5]
   simp only[List.drop_zero]
   rw[List.take_of_length_le om,co h1,ac hx]
theorem appX_any{es bytes a d k m lo:Nat}{v x:AV}{cs new:List AV}(r:RowX s.h lo k es v cs)(hlo:lo≤s.h.next)(he:elemsOf s.h es x=some (new,m))(hl:new.length=m*es)(hn:∀c∈new,Leaf c)(hok:okLen (k+m) bytes=true)(ha:s.eval (.t a)=some v)(hx:s.eval (.t d)=some x):
  ∃v' h',appendA s es bytes (.t a) (.t d)=some (v',s.toH h')∧RowX h' lo (k+m) es v' (cs++new)∧s.h.next≤h'.next∧(∀y,y<s.h.next→y∉AM.ids v→h'.get y=s.h.get y)∧(NoTag s.h→NoTag h'):=by
 rcases Nat.eq_zero_or_pos m with rfl|hm
 ·have:new=[]:=List.eq_nil_of_length_eq_zero (by rw[hl];omega)
  subst this
  rw[List.append_nil]
  refine⟨v,s.h,?_,r,Nat.le_refl _,fun _ _ _=>rfl,fun h=>h⟩
  rcases r with r|⟨h1,h2,b,b1,b2,rfl,b5⟩
  ·exact yX r he ha hx
  ·have hb:Nat.beq 0 0=true:=rfl
   simp only[appendA,ha,hx,he,hb,cond_true]
   rfl
 ·rcases r with r|⟨h1,h2,b,b1,b2,rfl,b5⟩
  ·obtain⟨p1,p2,p3,p4⟩:=tp r hlo hn hl hm
   refine⟨_,_,kx r he hm hok ha hx,.inl p2,om,p3,fun nt=>?_⟩
   obtain⟨_,_,⟨rfl,rfl⟩|⟨b,_,_,_,rfl,b5⟩⟩:=r
   ·exact nt.alloc
   ·simp only[pushC,b5]
    exact nt.drop.alloc
  ·have hb:Nat.beq m 0=false:=by
    cases hk:Nat.beq m 0 with
    |false=>rfl
    |true=>
     have:=Nat.eq_of_beq_eq_true hk
     omega
   have bes:Nat.beq es es=true:=Nat.beq_refl es
   have c2:Nat.ble (0+k*es) cs.length=true:=Nat.ble_eq.mpr om
   have c3:Nat.ble (k+m) k=false:=by
    cases hq:Nat.ble (k+m) k with
    |false=>rfl
    |true=>
     have:=Nat.le_of_ble_eq_true hq
     omega
   have c4:(cs.drop 0).take (k*es)=cs:=by rw[List.drop_zero,List.take_of_length_le om]
   refine⟨.own s.h.next 0 (k+m) es none,s.h.alloc (.cells (cs++new) true),?_,.inl ⟨fun c hc=>?_,?_,.inr ⟨s.h.next,hlo,Nat.lt_succ_self _,om,rfl,ai⟩⟩,Nat.le_succ _,fun y hy _=>aP hy,fun nt=>nt.alloc⟩
   ·simp only[appendA,ha,hx,he,hb,cond_false,b5,bes,c2,hok,Bool.and_self,cond_true,c3,c4]
    rfl
   ·rcases List.mem_append.1 hc with hc|hc
    ·exact h1 c hc
    ·exact hn c hc
   ·rw[List.length_append,h2,hl,Nat.add_mul]
theorem tW{es bytes dst a d k m lo:Nat}{v x:AV}{cs new:List AV}{gd:Option (Nat×Bool)}{rd fr:List Nat}(r:RowX s.h lo k es v cs)(hlo:lo≤s.h.next)(he:∀h:AH,(∀y∈ids x,h.get y=s.h.get y)→elemsOf h es x=some (new,m))(hl:new.length=m*es)(hlf:∀c∈new,Leaf c)(hok:okLen (k+m) bytes=true)
  (hx:∀y∈ids x,y<s.h.next∧∃kk,s.h.get y=some kk∧below s.h.next (idsB kk)=true) (h2:s.eval (.t a)=some v) (h3:s.eval (.t d)=some x)
  (ma:a∈rd) (md:d∈rd) (mo:∀j∈rd,j=a∨j=d∨∃w,s.eval (.t j)=some (.val w)) (hg:guardIn rd gd=true) (hw:wantedA s gd=some true) (hfr:∀F D lo hi,(∀y∈F,y∈ids v∨y∈ids x)→(∀y∈D,y∈ids v)→freeOk done ⟨F,D,lo,hi⟩ fr=true)
  (kk:∀rec v' h',RowX h' lo (k+m) es v' (cs++new)→s.h.next≤h'.next→(∀y,y<s.h.next→y∉ids v→h'.get y=s.h.get y)→(NoTag s.h→NoTag h')→(∀R:List Nat,(∀r∈R,r<s.h.next∧r∉ids v)→MildR R rec)→DrawTo E rest (done++[rec]) ((s.toH h').put (some dst) v') K):
  DrawTo E (⟨⟨some dst,gd,.append es bytes (.t a) (.t d)⟩,rd,fr⟩::rest) done s K:=by
 generalize hvs:idsL (pickTm s.tm rd).vals=vs
 have pa:(pickTm s.tm rd).get a=some v:=dw ma h2
 have pd:(pickTm s.tm rd).get d=some x:=dw md h3
 have inv:∀y∈ids v,y∈vs:=fun y hy=>by rw[←hvs];exact ez (dP pa) y hy
 have inx:∀y∈ids x,y∈vs:=fun y hy=>by rw[←hvs];exact ez (dP pd) y hy
 have out:∀y∈vs,y∈ids v∨y∈ids x:=fun y hy=>by
  rw[←hvs] at hy
  obtain⟨j,hj,w,hw,hyw⟩:=dr hy
  rcases mo j hj with rfl|rfl|⟨w',hw'⟩
  ·rw[h2] at hw
   cases hw
   exact .inl hyw
  ·rw[h3] at hw
   cases hw
   exact .inr hyw
  ·rw[hw'] at hw
   cases hw
   cases hyw
 have hbel:below s.h.next vs=true:=List.all_eq_true.2 fun y hy=>Nat.blt_eq.mpr (by
  rcases out y hy with q|q
  ·exact(r.ids y q).2.1
  ·exact(hx y q).1)
 have hkn:knownH s.h vs=true:=List.all_eq_true.2 fun y hy=>by
  rcases out y hy with q|q
  ·obtain⟨_,q1,q2⟩:=r.ids y q
   have q3:Nat.blt y s.h.next=true:=Nat.blt_eq.mpr q1
   simp only[q3,q2,idsB,bo r.leafs]
   rfl
  ·exact U48
 have r':RowX (restrictH s.h vs) lo k es v cs:=r.toB (Nat.le_refl _) fun y hy=>bB (inv y hy)
 obtain⟨v',h1,e1,e2,e3,e4,e5⟩:=appX_any (s:={tm:=pickTm s.tm rd,h:=restrictH s.h vs,defers:=[],round:=s.round}) (bytes:=bytes) r' hlo (he _ fun y hy=>bB (inx y hy)) hl hlf hok pa pd
 have e3:s.h.next≤h1.next:=e3
 have hro:∀m',runOp E (aj E (exec E m')) {tm:=pickTm s.tm rd,h:=restrictH s.h vs,defers:=[],round:=s.round} (.append es bytes (.t a) (.t d))=some (v',{tm:=pickTm s.tm rd,h:=h1,defers:=[],round:=s.round}):=fun m'=>e1
 have htu:turned {tm:=pickTm s.tm rd,h:=restrictH s.h vs,defers:=[],round:=s.round} (.append es bytes (.t a) (.t d))=ids v:=by
  simp only[turned,idsO,St.eval,pa]
 have hDb:below s.h.next (ids v)=true:=r.below
 have hble:Nat.ble s.h.next h1.next=true:=Nat.ble_eq.mpr e3
 have hw':wantedA {tm:=pickTm s.tm rd,h:=s.h,defers:=[],round:=s.round} gd=some true:=by
  rw[←hw]
  exact cB (s:=s) (F:=[]) hg▸(by cases gd<;>rfl)
 have hst:Ev fun n=>stepDraw E (aj E (exec E n)) ⟨⟨some dst,gd,.append es bytes (.t a) (.t d)⟩,rd,fr⟩ (nearOf done fr) s=some (v',⟨vs,ids v,s.h.next,h1.next⟩,mergeH s.h (ids v) h1):=by
  refine Ev.of fun n=>?_
  simp only[stepDraw,hw',hvs,foot,hbel,hkn,Bool.and_self,cond_true,hro,isCall,cond_false,htu,List.isEmpty_nil,hble,hDb]
 have hnx:(mergeH s.h (ids v) h1).next=h1.next:=rfl
 refine bA (d:=⟨⟨some dst,gd,.append es bytes (.t a) (.t d)⟩,rd,fr⟩) (hfr _ _ _ _ out (fun y hy=>hy)) hst (kk _ v' _ ?_ (by rw[hnx];exact e3) (fun y hy hv=>?_) (fun nt=>?_) (fun R hR r hr=>⟨(hR r hr).2,fun hab=>by
  have h1:=(hR r hr).1
  obtain⟨h2,h3⟩:=hab
  simp only at h2 h3
  omega⟩))
 ·refine e2.toB (by rw[hnx];exact Nat.le_refl _) fun y hy=>?_
  obtain⟨y1,y2,y3⟩:=e2.ids y hy
  rw[eo e3]
  by_cases q:s.h.next≤y
  ·rw[if_pos ⟨q,y2⟩]
  ·exact U49
 ·rw[eo e3,if_neg om,if_neg hv]
 ·have nr:NoTag (restrictH s.h vs):=fun b x t n e=>by
   by_cases q:b∈vs
   ·exact nt b x t n (by rw[←bB q];exact e)
   ·rw[dO q] at e
    cases e
  intro b x t n e
  rw[eo e3] at e
  split at e
  ·exact e5 nr b x t n e
  ·split at e
   ·exact e5 nr b x t n e
   ·exact nt b x t n e
theorem eW{es bytes dst a d k m lo:Nat}{v x:AV}{cs new:List AV}{gd:Option (Nat×Bool)}{rd:List Nat}(r:RowX s.h lo k es v cs)(hlo:lo≤s.h.next)(he:∀h:AH,(∀y∈ids x,h.get y=s.h.get y)→elemsOf h es x=some (new,m))(hl:new.length=m*es)(hlf:∀c∈new,Leaf c)(hok:okLen (k+m) bytes=true)
  (hx:∀y∈ids x,y<s.h.next∧∃kk,s.h.get y=some kk∧below s.h.next (idsB kk)=true) (h2:s.eval (.t a)=some v) (h3:s.eval (.t d)=some x)
  (ma:a∈rd) (md:d∈rd) (mo:∀j∈rd,j=a∨j=d∨∃w,s.eval (.t j)=some (.val w)) (hg:guardIn rd gd=true) (hw:wantedA s gd=some true)
  (kk:∀rec v' h',RowX h' lo (k+m) es v' (cs++new)→s.h.next≤h'.next→(∀y,y<s.h.next→y∉ids v→h'.get y=s.h.get y)→(NoTag s.h→NoTag h')→(∀R:List Nat,(∀r∈R,r<s.h.next∧r∉ids v)→MildR R rec)→DrawTo E rest (done++[rec]) ((s.toH h').put (some dst) v') K):
  DrawTo E (⟨⟨some dst,gd,.append es bytes (.t a) (.t d)⟩,rd,[]⟩::rest) done s K:=
 tW r hlo he hl hlf hok hx h2 h3 ma md mo hg hw (fun _ _ _ _ _ _=>rfl) kk
theorem cx{dst es n:Nat}{z cs:List AV}{parts:List (Nat×Nat×Opd)}{fr rd:List Nat}{gd:Option (Nat×Bool)}(hv:∀j∈rd,∀w,s.eval (.t j)=some w→below s.h.next (ids w)=true)(hp:parts.all (fun p=>opdIn rd p.2.2)=true)(hfill:fill s z parts=some cs)(hf:∀i∈fr,i<done.length)
  (hg:guardIn rd gd=true) (hw:wantedA s gd=some true)
  (k:DrawTo E rest (done++[⟨[],[],s.h.next,s.h.next+1⟩]) ((s.toH (s.h.alloc (.cells cs true))).put (some dst) (.own s.h.next 0 n es (some n))) K):DrawTo E (⟨⟨some dst,gd,.buildSlice es n z parts⟩,rd,fr⟩::rest) done s K:=by
 refine bA (d:=⟨⟨some dst,gd,.buildSlice es n z parts⟩,rd,fr⟩) (dg hf) (Ev.of fun m=>?_) k
 have hm:mergeH s.h [] ((restrictH s.h []).alloc (.cells cs true))=s.h.alloc (.cells cs true):=by
  have e:((restrictH s.h []).alloc (.cells cs true)).get s.h.next=some (.cells cs true):=by
   rw[AH.get_alloc]
   exact if_pos rfl
  show(⟨s.h.next+1,copyNew ((restrictH s.h []).alloc (.cells cs true)) s.h.next (s.h.next+1-s.h.next) s.h.tr⟩:AH)=_
  rw[Nat.add_sub_cancel_left]
  simp only[copyNew,Nat.add_zero,e]
  rfl
 have hbel:below s.h.next (idsL (pickTm s.tm rd).vals)=true:=List.all_eq_true.2 fun x hx=>by
  obtain⟨j,hj,w,hw,hxw⟩:=dr hx
  exact List.all_eq_true.1 (hv j hj w hw) x hxw
 have hfl:fill {tm:=pickTm s.tm rd,h:=restrictH s.h [],defers:=[],round:=s.round} z parts=some cs:=by
  rw[←hfill]
  exact fw (s:=s) (l:=rd) (F:=[]) hp
 have hw':wantedA {tm:=pickTm s.tm rd,h:=s.h,defers:=[],round:=s.round} gd=some true:=by
  rw[←hw]
  exact cB (s:=s) (F:=[]) hg▸(by cases gd<;>rfl)
 have hb':Nat.ble s.h.next ((restrictH s.h []).alloc (.cells cs true)).next=true:=Nat.ble_eq.mpr (Nat.le_succ _)
 have hb0:below s.h.next []=true:=rfl
 simp only[stepDraw,hw',hbel,foot,knownH,List.all_nil,Bool.and_self,cond_true,runOp,hfl,Option.bind_some,isCall,cond_false,turned,hm,List.isEmpty_nil,Bool.true_and,hb',hb0]
 rfl
theorem qU{dst:Option Nat}{f lo k es:Nat}{xs:List Opd}{rd fr:List Nat}{l:List AV}{w t:AV}{cs:List AV}{gd:Option (Nat×Bool)}(r:RowX s.h lo k es w cs)(hn:∀j∈rd,∃v,s.eval (.t j)=some v∧(ids v=[]∨v=w))(hwm:∃j∈rd,s.eval (.t j)=some w)
  (hxs:xs.all (opdIn rd)=true) (he:evalAll s xs=some l) (ht:NoTag s.h) (hg:guardIn rd gd=true) (hw:wantedA s gd=some true)
  (hc:∀h,h.next=s.h.next→(∀y∈ids w,h.get y=s.h.get y)→RunCall E (.f f) l h t h)
  (hfr:∀F D lo hi,(∀y∈F,y∈ids w)→(∀y∈D,y∈ids w)→freeOk done ⟨F,D,lo,hi⟩ fr=true)
  (kk:∀rec h',h'.next=s.h.next→(∀y,h'.get y=s.h.get y)→DrawTo E rest (done++[rec]) ((s.toH h').put dst t) K):
  DrawTo E (⟨⟨dst,gd,.call f xs⟩,rd,fr⟩::rest) done s K:=by
 generalize hvs:idsL (pickTm s.tm rd).vals=vs
 have inw:∀y∈ids w,y∈vs:=fun y hy=>by
  obtain⟨j,hj,e⟩:=hwm
  rw[←hvs]
  exact ez (dP (dw hj e)) y hy
 have out:∀y∈vs,y∈ids w:=fun y hy=>by
  rw[←hvs] at hy
  obtain⟨j,hj,v,hv,hyv⟩:=dr hy
  obtain⟨v',e1,e2⟩:=hn j hj
  rw[hv] at e1
  cases e1
  rcases e2 with e2|rfl
  ·rw[e2] at hyv
   cases hyv
  ·exact hyv
 have reach_ok:∀(n:Nat) (L seen:List Nat),(∀y∈L,y∈ids w)→(∀y∈seen,y∈ids w)→(∀y∈reach s.h n L seen,y∈ids w)∧∀y∈seen,y∈reach s.h n L seen:=by
  intro n
  induction n with
  |zero=>intro L seen h1 h2;exact⟨h2,fun y hy=>hy⟩
  |succ n ih=>
   intro L seen h1 h2
   cases L with
   |nil=>exact⟨h2,fun y hy=>hy⟩
   |cons b L=>
    simp only[reach]
    cases hm:memN seen b with
    |true=>exact ih L seen (fun y hy=>h1 y (List.mem_cons_of_mem _ hy)) h2
    |false=>
     have hb:=h1 b List.mem_cons_self
     obtain⟨_,_,g⟩:=r.ids b hb
     simp only[cond_false,g,idsB,bo r.leafs,List.nil_append]
     have:=ih L (b::seen) (fun y hy=>h1 y (List.mem_cons_of_mem _ hy)) (fun y hy=>by
      rcases List.mem_cons.1 hy with rfl|hy
      ·exact hb
      ·exact h2 y hy)
     exact⟨this.1,fun y hy=>this.2 y (List.mem_cons_of_mem _ hy)⟩
 have first:∀y∈vs,y∈reach s.h 100000 vs []:=fun y hy=>by
  have hone:∀z∈vs,z=y:=fun z hz=>by
   have h1:=out y hy
   have h2:=out z hz
   rcases r.one with e|⟨b,e⟩
   ·rw[e] at h1;cases h1
   ·rw[e,List.mem_singleton] at h1 h2
    rw[h1,h2]
  cases hv:vs with
  |nil=>rw[hv] at hy;cases hy
  |cons z L=>
   have hz:z=y:=hone z (by rw[hv];exact List.mem_cons_self)
   subst hz
   have e:reach s.h (99999+1) (z::L) []=reach s.h 99999 L [z]:=by
    have hm:memN ([]:List Nat) z=false:=rfl
    obtain⟨_,_,g⟩:=r.ids z (out z hy)
    simp only[reach,hm,cond_false,g,idsB,bo r.leafs,List.nil_append]
   rw[show(100000:Nat)=99999+1 from rfl,e]
   refine(reach_ok 99999 L [z] (fun q hq=>out q (by rw[hv];exact List.mem_cons_of_mem _ hq)) (fun q hq=>?_)).2 z (List.mem_singleton_self z)
   rw[List.mem_singleton.1 hq]
   exact out z hy
 generalize hR:(bif vs.isEmpty then([]:List Nat) else reach s.h 100000 vs [])=F
 have hF1:∀y∈F,y∈ids w:=fun y hy=>by
  cases hq:vs.isEmpty with
  |true=>rw[hq] at hR;rw[←hR] at hy;cases hy
  |false=>
   rw[hq] at hR
   rw[←hR] at hy
   exact(reach_ok 100000 vs [] out (fun q hq=>by cases hq)).1 y hy
 have hF2:∀y∈ids w,y∈F:=fun y hy=>by
  have h1:=inw y hy
  have hq:vs.isEmpty=false:=by cases hv:vs with
   |nil=>rw[hv] at h1;cases h1
   |cons _ _=>rfl
  rw[hq] at hR
  rw[←hR]
  exact first y h1
 have hfoot:foot {tm:=pickTm s.tm rd,h:=s.h,defers:=[],round:=s.round} vs (.call f xs)=F:=by
  rw[←hR]
  show(bif vs.isEmpty then [] else withTags s.h (reach s.h 100000 vs []))=_
  rw[noTags ht]
 have hbel:below s.h.next vs=true:=List.all_eq_true.2 fun y hy=>Nat.blt_eq.mpr (r.ids y (out y hy)).2.1
 have hkn:knownH s.h F=true:=List.all_eq_true.2 fun y hy=>by
  obtain⟨_,q1,q2⟩:=r.ids y (hF1 y hy)
  have q3:Nat.blt y s.h.next=true:=Nat.blt_eq.mpr q1
  simp only[q3,q2,idsB,bo r.leafs]
  rfl
 have hev:evalAll {tm:=pickTm s.tm rd,h:=restrictH s.h F,defers:=[],round:=s.round} xs=some l:=by
  rw[←he]
  exact im (s:=s) (F:=F) hxs
 have hw':wantedA {tm:=pickTm s.tm rd,h:=s.h,defers:=[],round:=s.round} gd=some true:=by
  rw[←hw]
  exact cB (s:=s) (F:=[]) hg▸(by cases gd<;>rfl)
 generalize hD:(F.filter fun b=> !(memN (vs++nearOf done fr) b&&eqB (s.h.get b) ((restrictH s.h F).get b)))=D
 have hDF:∀y∈D,y∈F:=fun y hy=>by rw[←hD] at hy;exact(List.mem_filter.1 hy).1
 have hDb:below s.h.next D=true:=List.all_eq_true.2 fun y hy=>Nat.blt_eq.mpr (r.ids y (hF1 y (hDF y hy))).2.1
 have hbl:Nat.ble s.h.next s.h.next=true:=Nat.ble_eq.mpr (Nat.le_refl _)
 have hst:Ev fun n=>stepDraw E (aj E (exec E n)) ⟨⟨dst,gd,.call f xs⟩,rd,fr⟩ (nearOf done fr) s=some (t,⟨F,D,s.h.next,s.h.next⟩,mergeH s.h D (restrictH s.h F)):=by
  refine(hc (restrictH s.h F) rfl (fun y hy=>bB (hF2 y hy))).mono fun n p=>?_
  have hnx:(restrictH s.h F).next=s.h.next:=rfl
  simp only[stepDraw,hw',hvs,hfoot,hbel,hkn,Bool.and_self,cond_true,runOp,hev,p,Option.bind_some,isCall,List.isEmpty_nil,hnx,hbl,hD,hDb]
 refine bA (d:=⟨⟨dst,gd,.call f xs⟩,rd,fr⟩) (hfr _ _ _ _ hF1 (fun y hy=>hF1 y (hDF y hy))) hst (kk _ _ rfl fun y=>?_)
 rw[eo (h:=s.h) (F:=restrictH s.h F) (D:=D) (Nat.le_refl s.h.next) y,if_neg (by show¬(s.h.next≤y∧y<s.h.next);omega)]
 split
 ·rename_i m
  exact bB (hDF y m)
 ·rfl
theorem qT{dst:Option Nat}{f lo k es:Nat}{xs:List Opd}{rd:List Nat}{l:List AV}{w t:AV}{cs:List AV}{gd:Option (Nat×Bool)}(r:RowX s.h lo k es w cs)(hn:∀j∈rd,∃v,s.eval (.t j)=some v∧(ids v=[]∨v=w))(hwm:∃j∈rd,s.eval (.t j)=some w)
  (hxs:xs.all (opdIn rd)=true) (he:evalAll s xs=some l) (ht:NoTag s.h) (hg:guardIn rd gd=true) (hw:wantedA s gd=some true)
  (hc:∀h,h.next=s.h.next→(∀y∈ids w,h.get y=s.h.get y)→RunCall E (.f f) l h t h)
  (kk:∀rec h',h'.next=s.h.next→(∀y,h'.get y=s.h.get y)→DrawTo E rest (done++[rec]) ((s.toH h').put dst t) K):
  DrawTo E (⟨⟨dst,gd,.call f xs⟩,rd,[]⟩::rest) done s K:=
 qU r hn hwm hxs he ht hg hw hc (fun _ _ _ _ _ _=>rfl) kk
theorem iZ{dst:Option Nat}{fr:List Nat}{f i:Nat}{a v:AV}{h1:AH}(he:s.eval (.t i)=some a)(hv:ids a=[])
  (hc:RunCall E (.f f) [a] (restrictH s.h []) v h1) (hn:s.h.next≤h1.next) (hf:∀j∈fr,j<done.length)
  (k:∀h',h'.next=h1.next→(∀x,s.h.next≤x→x<h1.next→h'.get x=h1.get x)→(∀x,x<s.h.next→h'.get x=s.h.get x)→(NoTag s.h→NoTag h1→NoTag h')→DrawTo E rest (done++[⟨[],[],s.h.next,h1.next⟩]) ((s.toH h').put dst v) K):
  DrawTo E (⟨⟨dst,none,.call f [.t i]⟩,[i],fr⟩::rest) done s K:=by
 have hvs:idsL (pickTm s.tm [i]).vals=[]:=by
  cases hq:idsL (pickTm s.tm [i]).vals with
  |nil=>rfl
  |cons x l=>
   obtain⟨j,hj,w,hw,hxw⟩:=dr (s:=s) (l:=[i]) (x:=x) (by rw[hq];exact List.mem_cons_self)
   rw[List.mem_singleton.1 hj,he] at hw
   cases hw
   rw[hv] at hxw
   cases hxw
 have hev:evalAll {tm:=pickTm s.tm [i],h:=restrictH s.h [],defers:=[],round:=s.round} [.t i]=some [a]:=by
  simp only[evalAll,St.eval,dw List.mem_cons_self he]
 have hble:Nat.ble s.h.next h1.next=true:=Nat.ble_eq.mpr hn
 have hst:Ev fun n=>stepDraw E (aj E (exec E n)) ⟨⟨dst,none,.call f [.t i]⟩,[i],fr⟩ (nearOf done fr) s=some (v,⟨[],[],s.h.next,h1.next⟩,mergeH s.h [] h1):=by
  refine hc.mono fun n p=>?_
  have b0:below s.h.next []=true:=rfl
  have k0:knownH s.h []=true:=rfl
  have f0:∀tm:Tr AV,foot {tm:=tm,h:=s.h,defers:=[],round:=s.round} [] (.call f [.t i])=[]:=fun _=>rfl
  simp only[stepDraw,wantedA,hvs,f0,b0,k0,Bool.and_self,cond_true,runOp,hev,p,Option.bind_some,isCall,List.isEmpty_nil,hble,List.filter_nil]
 refine bA (d:=⟨⟨dst,none,.call f [.t i]⟩,[i],fr⟩) (cW (R:=[]) (fun x _ r hr=>by cases hr) (fun b hb=>hb) hf) hst (k _ rfl ?_ ?_ ?_)
 ·intro x x1 x2
  rw[eo hn,if_pos ⟨x1,x2⟩]
 ·intro x x1
  rw[eo hn,if_neg om,if_neg (by simp)]
 ·intro n1 n2 b x t n e
  rw[eo hn] at e
  split at e
  ·exact n2 b x t n e
  ·rw[if_neg (by simp)] at e
   exact n1 b x t n e
theorem iP{h:AH}:NoTag (restrictH h []):=fun b x t n e=>by
 rw[dO (by simp)] at e
 cases e
theorem sP{R:List Nat}{post:List DOp}{K1:St→Prop}:∀(pre:List DOp) (done:List DRec) (s:St) (h0:AH),calmAt done.length pre=true→(∀x∈done,MildR R x)→(∀r∈R,r<s.h.next)→s.h=h0→
  wpDm E R pre s K1→(∀s',K1 s'→s'.h=h0→∀more:List DRec,more.length=pre.length→(∀x∈more,MildR R x)→DrawTo E post (done++more) s' K)→DrawTo E (pre++post) done s K
 | [],done,s,h0,_,hq,_,e,h,hk=>by
  have:=hk s h e [] rfl (fun x hx=>by cases hx)
  rwa [List.append_nil] at this
 |⟨⟨dst,g,op⟩,rd,fr⟩::r,done,s,h0,hc,hq,hR,e,h,hk=>by
  simp only[calmAt,Bool.and_eq_true] at hc
  obtain⟨⟨hfr,hcd⟩,hcr⟩:=hc
  simp only[calmD,Bool.and_eq_true] at hcd
  obtain⟨hg,hop⟩:=hcd
  have hf:∀i∈fr,i<done.length:=fun i hi=>Nat.blt_eq.mp (List.all_eq_true.1 hfr i hi)
  have hh:∀(dst:Option Nat) (v:AV),(s.put dst v).h=s.h:=fun dst v=>by cases dst<;>rfl
  have nx:∀(rec:DRec) (v:AV),MildR R rec→wpDm E R r (s.put dst v) K1→DrawTo E (r++post) (done++[rec]) (s.put dst v) K:=fun rec v hqr hw=>
   sP r (done++[rec]) (s.put dst v) h0 (by rw[List.length_append];exact hcr) (fun x hx=>by
    rcases List.mem_append.1 hx with hx|hx
    ·exact hq x hx
    ·rw[List.mem_singleton.1 hx];exact hqr) (fun r hr=>by rw[hh];exact hR r hr) (by rw[hh];exact e) hw fun s' k1 k2 more k3 k4=>by
    have:=hk s' k1 k2 (rec::more) (by rw[List.length_cons,List.length_cons,k3]) (fun x hx=>by
     rcases List.mem_cons.1 hx with rfl|hx
     ·exact hqr
     ·exact k4 x hx)
    rwa [List.append_assoc,List.singleton_append]
  have md:∀F,MildR R ⟨F,[],s.h.next,s.h.next⟩:=fun F r _=>⟨(fun h=>by cases h),(fun hab=>by
   obtain⟨h1,h2⟩:=hab
   simp only at h1 h2
   omega)⟩
  simp only[wpDm] at h
  obtain⟨hnice,honly,h⟩:=h
  simp only[guardTo] at h
  cases hw:wantedA s g with
  |none=>rw[hw] at h;exact h.elim
  |some b=>
   rw[hw] at h
   simp only[aO] at h
   cases b with
   |false=>exact bA (d:=⟨⟨dst,g,op⟩,rd,fr⟩) (cW hq (fun b hb=>by cases hb) hf) (fv hg hw) (nx _ _ (md _) (h.2 rfl))
   |true=>
    have h1:=h.1 rfl
    clear h
    split at h1
    ·exact U46
    ·exact U47
theorem bf{dst:Option Nat}{g:Option (Nat×Bool)}{op:AOp}{rd fr:List Nat}(hg:guardIn rd g=true)(hw:wantedA s g=some false)(hf:∀i∈fr,i<done.length)
  (k:DrawTo E rest (done++[⟨[],[],s.h.next,s.h.next⟩]) (s.put dst undefA) K):DrawTo E (⟨⟨dst,g,op⟩,rd,fr⟩::rest) done s K:=
 bA (d:=⟨⟨dst,g,op⟩,rd,fr⟩) (dg hf) (fv hg hw) k
theorem yx{dst:Option Nat}{g:Option (Nat×Bool)}{op:AOp}{rd fr:List Nat}{v:AV}(hc:calmOp rd op=true)(hnf:footed op=false)(hg:guardIn rd g=true)(hw:wantedA s g=some true)(hn:(rd.all fun t=>niceT s.h (s.eval (.t t)))=true)(ho:runOp E noCall s op=some (v,s))(hf:∀i∈fr,i<done.length)
  (k:DrawTo E rest (done++[⟨[],[],s.h.next,s.h.next⟩]) (s.put dst v) K):DrawTo E (⟨⟨dst,g,op⟩,rd,fr⟩::rest) done s K:=by
 have st:=gq (E:=E) (d:=⟨⟨dst,g,op⟩,rd,fr⟩) (near:=nearOf done fr) hc hg hw hn ho
 have e:theFoot op (idsL (pickTm s.tm rd).vals)=[]:=by unfold theFoot;rw[hnf];rfl
 rw[e] at st
 exact bA (d:=⟨⟨dst,g,op⟩,rd,fr⟩) (dg hf) st k
theorem uB{R:List Nat}{lo hi:Nat}(h:∀r∈R,r<lo):MildR R ⟨[],[],lo,hi⟩:=fun r hr=>⟨(fun h=>by cases h),(fun hab=>by
 obtain⟨h1,h2⟩:=hab
 have:=h r hr
 simp only at h1 h2
 omega)⟩
theorem kU{done more:List DRec}{n:Nat}{F D:List Nat}{lo hi:Nat}(hq:∀x∈done,QuietB n x)(hF:∀y∈F,n≤y)(hD:∀y∈D,n≤y):∀{l:List Nat},(∀i∈l,i<done.length)→freeOk (done++more) ⟨F,D,lo,hi⟩ l=true
 | [],_=>rfl
 |i::r,h=>by
  have hi:=h i List.mem_cons_self
  have hg:(done++more)[i]? =some done[i]:=by rw[List.getElem?_append_left hi,List.getElem?_eq_getElem hi]
  have ha:QuietB n done[i]:=hq _ (List.getElem_mem hi)
  have h3:(D.any fun x=>memN (done[i]).F x)=false:=by
   rw[List.any_eq_false]
   intro y hy
   rw[memN_no ha.2 (hD y hy)]
   decide
  simp only[freeOk,hg,recApart,lF ha.1,h3,Bool.not_false,Bool.and_self,Bool.true_and]
  exact kU hq hF hD fun j hj=>h j (List.mem_cons_of_mem _ hj)
end Go.AM
namespace Go.Proofs.YtkhblipgiijoiaaGreatDoor
open Go Go.AM
set_option maxHeartbeats 4000000
mutual
def Pr.spl:Pr→List Pr
 |.mk o s n ks a b=>bif decide (o=15)&&decide (ks.length=2) then Pr.splL ks else bif (Pr.mk o s n ks a b).void then [] else [(Pr.mk o s n ks a b).cp]
def Pr.splL:List Pr→List Pr
 | []=>[]
 |k::r=>k.spl++Pr.splL r
end
mutual
theorem mV:∀p:Pr,p.spl.length≤p.nodes
 |.mk o s n ks a b=>by
  have:=wR ks
  simp only[Pr.spl,Pr.nodes]
  cases decide (o=15)&&decide (ks.length=2)
  ·cases (Pr.mk o s n ks a b).void
   ·simp only[cond_false,List.length_cons,List.length_nil];omega
   ·simp only[cond_false,cond_true,List.length_nil];omega
  ·simp only[cond_true];omega
theorem wR:∀l:List Pr,(Pr.splL l).length≤Pr.nodesL l
 | []=>by simp only[Pr.splL,List.length_nil];omega
 |k::r=>by
  have h1:=mV k
  have h2:=wR r
  simp only[Pr.splL,Pr.nodesL,List.length_append]
  omega
end
def SplOk(p:Pr)(L:List Pr):Prop:=∀(h:AH),∃v h',RunCall E1 (.f 61) [p.av] h v h'∧RowX h' h.next L.length 4 v (Pr.cellsL L)∧h.next≤h'.next∧(∀x,x<h.next→h'.get x=h.get x)∧(NoTag h→NoTag h')
theorem zp{s:St}{p a b:Pr}{La Lb:List Pr}{B:Nat}(hks:p.ks=[a,b])(hN:La.length+Lb.length<2^30)(ha:SplOk a La)(hb:SplOk b Lb)(hB:B<s.h.next)(g:s.h.get B=some (.cells p.cells true))(h1:s.eval (.t 1)=some (.ptr B 0)):
  Run E1 f61_d0 s fun e s'=>e=.normal∧∃v,s'.eval (.t 2)=some v∧RowX s'.h s.h.next (La++Lb).length 4 v (Pr.cellsL (La++Lb))∧s.h.next≤s'.h.next∧(∀x,x<s.h.next→s'.h.get x=s.h.get x)∧(NoTag s.h→NoTag s'.h)∧s'.defers=s.defers:=by
 have n1:∀o,niceT s.h (some (.ptr B o))=true:=fun o=>bQ hB g (by rw[p.ids0];rfl)
 have o1:∀o,onlyT [B] (some (.ptr B o))=true:=fun o=>ba (by simp[memN])
 have k0:=fJ p 0 a [b] hks
 have k1:=fJ p 1 b [] (by rw[hks];rfl)
 have ki:ids p.kids=[]:=by cases p;exact gK
 refine az ?_
 show DrawTo E1 (fa.take 4++fa.drop 4) [] s _
 refine cO (R:=[B]) _ [] s rfl (fun x hx=>by cases hx) (fun r hr'=>by rw[List.mem_singleton.1 hr'];exact hB) ?_
 simp-implicitDefEqProofs only[fa,List.take_succ_cons,List.take_zero,List.drop_succ_cons,List.drop_zero,wpDm,aW,List.all_cons,List.all_nil,footed,V,↓reduceIte,rA,rB,rC,reduceCtorEq,rD,rE,rF,WF,h1,g,n1,o1,aM ki,aK ki,ak ki,k0,cU,ef,show∀l,onlyT [B] (some (AV.iptr l))=true from fun _=>rfl,aM a.idsA,aK a.idsA]
 intro _ done hdl hdm
 have hdl:done.length=4:=hdl
 obtain⟨v0,h0',c0,r0,m0,q0,t0⟩:=ha (restrictH s.h [])
 refine iZ (a:=a.av) (v:=v0) (h1:=h0') ?_ a.idsA ?_ m0 (fun j hj=>by cases hj) ?_
 ·exact U28
 ·simp-implicitDefEqProofs only[V,↓reduceIte,rA,rB,rC,reduceCtorEq,rD,rE,rF]
  exact c0
 intro h0 e1 e2 e3 e4
 have m0:s.h.next≤h0'.next:=m0
 have e1:h0.next=h0'.next:=e1
 have q0:∀x,s.h.next≤x→x<h0'.next→h0.get x=h0'.get x:=e2
 have e3:∀x,x<s.h.next→h0.get x=s.h.get x:=e3
 have r0:RowX h0 s.h.next La.length 4 v0 (Pr.cellsL La):=r0.to (by rw[e1];exact Nat.le_refl _) fun x x1 x2=>q0 x x1 x2
 have g0:h0.get B=some (.cells p.cells true):=by rw[e3 B hB,g]
 have nB:∀o,niceT h0 (some (.ptr B o))=true:=fun o=>bQ om g0 (by rw[p.ids0];rfl)
 have hq5:∀x∈done++[(⟨[],[],s.h.next,h0'.next⟩:DRec)],MildR [B] x:=fun x hx=>by
  rcases List.mem_append.1 hx with hx|hx
  ·exact hdm x hx
  ·rw[List.mem_singleton.1 hx]
   exact uB fun r hr=>by rw[List.mem_singleton.1 hr];exact hB
 have hl5:(done++[(⟨[],[],s.h.next,h0'.next⟩:DRec)]).length=5:=by rw[List.length_append,hdl];rfl
 simp-implicitDefEqProofs only[V,↓reduceIte,rA,rB,rC,reduceCtorEq,rD,rE,rF]
 generalize done++[(⟨[],[],s.h.next,h0'.next⟩:DRec)]=dn at hq5 hl5
 show DrawTo E1 ((fa.drop 5).take 4++fa.drop 9) dn _ _
 refine cO (R:=[B]) ((fa.drop 5).take 4) dn _ (by rw[hl5];rfl) hq5 (fun r hr'=>?_) ?_
 ·rw[List.mem_singleton.1 hr']
  simp-implicitDefEqProofs only[V,↓reduceIte,rA,rB,rC,reduceCtorEq,rD,rE,rF]
  omega
 simp-implicitDefEqProofs only[fa,List.take_succ_cons,List.take_zero,List.drop_succ_cons,List.drop_zero,wpDm,aW,List.all_cons,List.all_nil,footed,V,↓reduceIte,rA,rB,rC,reduceCtorEq,rD,rE,rF,WF,h1,g0,nB,o1,aM ki,aK ki,ak ki,k1,cU,ef,show∀l,onlyT [B] (some (AV.iptr l))=true from fun _=>rfl,aM b.idsA,aK b.idsA]
 intro _ done2 hdl2 hdm2
 obtain⟨v1,h1',c1,r1,m1,q1,t1⟩:=hb (restrictH h0 [])
 refine iZ (a:=b.av) (v:=v1) (h1:=h1') ?_ b.idsA ?_ ?_ (fun j hj=>by cases hj) ?_
 ·exact U28
 ·exact U76
 ·exact U95
 intro h2 e5 e6 e7 e8
 simp-implicitDefEqProofs only[V,↓reduceIte,rA,rB,rC,reduceCtorEq,rD,rE,rF] at e5 e6 e7 e8
 have m1:h0.next≤h1'.next:=m1
 have r1:RowX h2 h0.next Lb.length 4 v1 (Pr.cellsL Lb):=r1.to (by rw[e5];exact Nat.le_refl _) fun x x1 x2=>e6 x x1 x2
 have r0:RowX h2 s.h.next La.length 4 v0 (Pr.cellsL La):=r0.toB om fun x hx=>e7 x (r0.ids x hx).2.1
 refine eW (k:=La.length) (m:=Lb.length) (lo:=s.h.next) (v:=v0) (x:=v1) (cs:=Pr.cellsL La) (new:=Pr.cellsL Lb) ?_ ?_ ?_ (cX _) r1.leafs (bD om de) ?_ ?_ ?_ de de (fun j hj=>?_) rfl rfl ?_
 ·simp-implicitDefEqProofs only[V,↓reduceIte,rA,rB,rC,reduceCtorEq,rD,rE,rF]
  exact r0
 ·exact U53
 ·intro h gy
  refine elems_Xto r1 h fun y hy=>?_
  have:=gy y hy
  simp-implicitDefEqProofs only[V,↓reduceIte,rA,rB,rC,reduceCtorEq,rD,rE,rF] at this
  exact this
 ·intro y hy
  obtain⟨y1,y2,y3⟩:=r1.ids y hy
  simp-implicitDefEqProofs only[V,↓reduceIte,rA,rB,rC,reduceCtorEq,rD,rE,rF]
  refine⟨y2,_,y3,?_⟩
  simp only[idsB,bo r1.leafs]
  rfl
 ·exact U28
 ·exact U28
 ·exact U96
 intro rec v2 h3 r2 m2 o2 t2 _
 simp-implicitDefEqProofs only[V,↓reduceIte,rA,rB,rC,reduceCtorEq,rD,rE,rF] at m2 o2 t2
 refine bY (v:=v2) rfl rfl ?_ ?_ (fun j hj=>by cases hj) ?_
 ·simp-implicitDefEqProofs only[V,↓reduceIte,rA,rB,rC,reduceCtorEq,rD,rE,rF,List.all_cons,List.all_nil,r2.nice]
 ·exact U97
 refine bV ?_
 refine⟨v2,?_,?_,?_,?_,?_,?_⟩
 ·exact U28
 ·simp-implicitDefEqProofs only[V,↓reduceIte,rA,rB,rC,reduceCtorEq,rD,rE,rF]
  rw[List.length_append,dl]
  exact r2
 ·exact U53
 ·intro x hx
  simp-implicitDefEqProofs only[V,↓reduceIte,rA,rB,rC,reduceCtorEq,rD,rE,rF]
  rw[o2 x om (fun hv=>by have:=(r0.ids x hv).1;omega),e7 x om,e3 x hx]
 ·intro nt
  simp-implicitDefEqProofs only[V,↓reduceIte,rA,rB,rC,reduceCtorEq,rD,rE,rF]
  exact t2 (e8 (e4 nt (t0 iP)) (t1 iP))
 ·exact U28
theorem spl_eq(p:Pr):p.spl=bif decide (p.op=15)&&decide (p.ks.length=2) then Pr.splL p.ks else bif p.void then [] else [p.cp]:=by
 cases p
 rw[Pr.spl]
 rfl
theorem nY{p:Pr}{h:AH}(hb:p.nodes<2^29)(hq:(decide (p.op=15)&&decide ((p.ks.length:Int)=2))=false):p.spl=bif p.void then [] else [p.cp]:=by
 have:decide (p.ks.length=2)=decide ((p.ks.length:Int)=2):=by
  by_cases q:p.ks.length=2
  ·rw[decide_eq_true q,decide_eq_true om]
  ·rw[decide_eq_false q,decide_eq_false om]
 rw[spl_eq,this,hq]
 rfl
theorem yo(p:Pr)(hb:p.nodes<2^29)(hk:∀k∈p.ks,SplOk k k.spl):SplOk p p.spl:=fun h=>by
 refine il (fun v h'=>RowX h' h.next p.spl.length 4 v (Pr.cellsL p.spl)∧h.next≤h'.next∧(∀x,x<h.next→h'.get x=h.get x)∧(NoTag h→NoTag h')) kr f61_ok fun s hs hh hd hrd=>?_
 have h0:=hs 0 _ rfl
 have hvoid:=fun r s dst K=>void_to (p:=p) (show p.nodes<2^61 by omega) (r:=r) (s:=s) (dst:=dst) (K:=K)
 have ki:ids p.kids=[]:=by cases p;exact gK
 cases c1:decide (p.op=15) with
 |false=>
  rw[nY (h:=h) hb (by rw[c1];rfl)]
  cases hv:p.void with
  |true=>
   simp-implicitDefEqProofs only[kc,f61,V,↓reduceIte,rA,rB,rC,reduceCtorEq,rD,rE,rF,WB,WF,h0,hh,hd,c1,hvoid,hv]
   exact⟨_,rfl,.inl RowC.nil,Nat.le_succ _,fun x hx=>by rw[if_neg om],fun nt=>nt.alloc⟩
  |false=>
   simp-implicitDefEqProofs only[kc,f61,V,↓reduceIte,rA,rB,rC,reduceCtorEq,rD,rE,rF,WB,WF,h0,hh,hd,c1,hvoid,hv,go hb,iM]
   refine⟨_,rfl,?_,om,fun x hx=>by rw[if_neg om,if_neg om],fun nt=>nt.alloc.alloc⟩
   refine RowX.made (k:=1) (es:=4) (b:=h.next+1) (fun c hc=>?_) ?_ om (Nat.lt_succ_self _) (by rw[show Pr.cellsL [p.cp]=p.cp.cells by simp only[Pr.cellsL,List.append_nil]];exact ai (h:=h.alloc (.cells p.cells true)))
   ·simp only[Pr.cellsL,List.append_nil] at hc
    exact p.cp.leaves c hc
   ·simp only[Pr.cellsL,List.append_nil,p.cp.len]
 |true=>
  cases c2:decide ((p.ks.length:Int)=2) with
  |false=>
   rw[nY (h:=h) hb (by rw[c1,c2];rfl)]
   cases hv:p.void with
   |true=>
    simp-implicitDefEqProofs only[kc,f61,V,↓reduceIte,rA,rB,rC,reduceCtorEq,rD,rE,rF,WB,WF,h0,hh,hd,c1,c2,hvoid,hv]
    exact⟨_,rfl,.inl RowC.nil,Nat.le_succ _,fun x hx=>by rw[if_neg om],fun nt=>nt.alloc⟩
   |false=>
    simp-implicitDefEqProofs only[kc,f61,V,↓reduceIte,rA,rB,rC,reduceCtorEq,rD,rE,rF,WB,WF,h0,hh,hd,c1,c2,hvoid,hv,go hb,iM]
    refine⟨_,rfl,?_,om,fun x hx=>by rw[if_neg om,if_neg om],fun nt=>nt.alloc.alloc⟩
    refine RowX.made (k:=1) (es:=4) (b:=h.next+1) (fun c hc=>?_) ?_ om (Nat.lt_succ_self _) (by rw[show Pr.cellsL [p.cp]=p.cp.cells by simp only[Pr.cellsL,List.append_nil]];exact ai (h:=h.alloc (.cells p.cells true)))
    ·simp only[Pr.cellsL,List.append_nil] at hc
     exact p.cp.leaves c hc
    ·simp only[Pr.cellsL,List.append_nil,p.cp.len]
  |true=>
   have hl:p.ks.length=2:=by have:=of_decide_eq_true c2;omega
   obtain⟨a,b,hab⟩:∃a b,p.ks=[a,b]:=by
    match hk:p.ks,hl with
    | [a,b],_=>exact⟨a,b,rfl⟩
   have e:p.spl=a.spl++b.spl:=by
    rw[spl_eq,c1,hl,hab]
    simp only[decide_true,Bool.and_self,cond_true,Pr.splL,List.append_nil]
   have hn:1+(a.nodes+(b.nodes+0))<2^29:=by
    have:=p.nodes_eq
    rw[hab] at this
    simp only[Pr.nodesL] at this
    omega
   have la:=mV a
   have lb:=mV b
   rw[e]
   simp-implicitDefEqProofs only[kc,f61,V,↓reduceIte,rA,rB,rC,reduceCtorEq,rD,rE,rF,WB,WF,h0,hh,hd,c1,c2]
   refine(zp (p:=p) (a:=a) (b:=b) (La:=a.spl) (Lb:=b.spl) (B:=h.next) hab om (hk a (by rw[hab];exact List.mem_cons_self)) (hk b (by rw[hab];exact List.mem_cons_of_mem _ List.mem_cons_self)) ?_ ?_ ?_).mono ?_
   ·exact U88
   ·exact U89
   ·exact U28
   rintro e' s1 ⟨rfl,v,e2,r1,m1,o1,t1,d1⟩
   simp-implicitDefEqProofs only[V,↓reduceIte,rA,rB,rC,reduceCtorEq,rD,rE,rF,hh] at r1 m1 o1 t1 d1
   simp-implicitDefEqProofs only[V,↓reduceIte,rA,rB,rC,reduceCtorEq,rD,rE,rF,WB,e2,d1,hd]
   exact⟨_,rfl,r1.low om,om,fun x hx=>by rw[o1 x om,if_neg om],fun nt=>t1 nt.alloc⟩
mutual
theorem ik:∀(p:Pr),p.nodes<2^29→SplOk p p.spl
 |.mk o s n ks nl cap,hb=>by
  have hb':1+Pr.nodesL ks<2^29:=hb
  exact yo (.mk o s n ks nl cap) hb (gw ks om)
theorem gw:∀(l:List Pr),Pr.nodesL l<2^29→∀k∈l,SplOk k k.spl
 | [],_,k,hk=>by cases hk
 |p::r,hb,k,hk=>by
  have hb':p.nodes+Pr.nodesL r<2^29:=hb
  rcases List.mem_cons.1 hk with e|hk
  ·have:=ik p om
   rw[e]
   exact this
  ·exact gw r om k hk
end
theorem uC{h:AH}{b o:Nat}{ys:List AV}:∀{xs:List AV},mapTree h (xs++ .ptr b o::ys)=none
 | []=>by
  have:toTree h deepest (.ptr b o)=none:=by
   rw[show deepest=999999999+1 from rfl,toTree.eq_def]
  simp only[List.nil_append,mapTree,this]
 |x::xs=>by
  simp only[List.cons_append,mapTree,uC]
  cases toTree h deepest x<;>rfl
theorem heap0{g:Nat}{l:List AV}{h:AH}{a:AFun}(P:AV→AH→Prop)(hs:E1.shared.get g=none)(hm:∀h,mapTree h l=none)(hf:funOf Tryz.prog g=some a)
  (H:∀s:St,(∀i v,(enterTm l 0 .nil).get i=some v→s.eval (.t i)=some v)→s.h=h→s.defers=[]→s.round=none→wp E1 a.body s fun e s=>(e=.normal∨e=.ret)∧s.defers=[]∧∃r,resultsA E1.globs s a.res=some r∧P (oneOrTup r) s.h):
  ∃v h',RunCall E1 (.f g) l h v h'∧P v h':=by
 obtain⟨v,h',hp,hr⟩:=kl P hf fun s h1 h2 h3 h4=>bZ _ _ _ (H s h1 h2 h3 h4)
 refine⟨v,h',hr.mono fun n p=>?_,hp⟩
 simp only[aj,cQ,hs,hm,p]
def allS(x:ByteArray):List ByteArray→Bool
 | []=>true
 |k::r=>strEq k x&&allS x r
theorem su(x:ByteArray)(w:Vl ByteArray){b:Nat}{rw:Bool}(hN:w.l.length<2^61):∀(r:List ByteArray) (i:Nat) (s:St),w.l.drop i=r→i≤w.l.length→s.h.get b=some (.cells [.val (.string x)] rw)→
  s.eval (.t 1)=some (.ptr b 0)→s.eval (.t 6)=some (w.A strA)→s.eval (.t 7)=some (.val (.int .i64 (w.l.length:Nat)))→s.eval (.t 8)=some (.val (.int .i64 (i:Nat)))→s.defers=[]→
  Run E1 mf s fun e s'=>s'.defers=[]∧s'.h=s.h∧((allS x r=true∧e=.exit 0)∨(allS x r=false∧e=.ret∧s'.eval (.t 3)=some (.val (.bool false))))
 | [],i,s,hd,hi,g0,h1,h6,h7,h8,hf=>by
  have hl:=aN hd hi
  subst hl
  apply aC (rfl:mf=.loop gP)
  simp-implicitDefEqProofs only[gP,V,↓reduceIte,rA,rB,rC,reduceCtorEq,rD,rE,rF,WB,h1,h6,h7,h8,hf,lt_f,allS]
 |k::r,i,s,hd,hi,g0,h1,h6,h7,h8,hf=>by
  have hl:=aV hd
  have hlt:=lt_t hl
  have w1:IntKind.i64.wrap ((i:Int)+1)=((i+1:Nat):Int):=aE (n:=i+1) om
  apply aC (rfl:mf=.loop gP)
  cases hq:strEq k x with
  |false=>
   simp-implicitDefEqProofs only[gP,V,↓reduceIte,rA,rB,rC,reduceCtorEq,rD,rE,rF,WB,WF,h1,h6,h7,h8,hf,hlt,w.at ax hd,strA,List.cons_append,List.nil_append,g0,hq,allS]
  |true=>
   simp-implicitDefEqProofs only[gP,V,↓reduceIte,rA,rB,rC,reduceCtorEq,rD,rE,rF,WB,WF,h1,h6,h7,h8,hf,hlt,w.at ax hd,strA,List.cons_append,List.nil_append,g0,hq,allS,w1]
   refine(su x w (b:=b) (rw:=rw) hN r (i+1) _ (aF hd) om ?_ ?_ ?_ ?_ ?_ ?_).mono ?_
   all_goals simp-implicitDefEqProofs only[V,↓reduceIte,rA,rB,rC,reduceCtorEq,rD,rE,rF,h1,h6,h7,g0,hf]
   intro e s1 h
   exact h
theorem ld(x:ByteArray)(w:Vl ByteArray){b:Nat}{rw:Bool}{h:AH}(hN:w.l.length<2^61)(g:h.get b=some (.cells [.val (.string x)] rw)):RunCall E1 (.f 179) [w.A strA,.ptr b 0] h (.val (.bool (allS x w.l))) h:=by
 obtain⟨v,h',hr,rfl,rfl⟩:=heap0 (g:=179) (l:=[w.A strA,.ptr b 0]) (h:=h) (fun v h'=>v=.val (.bool (allS x w.l))∧h'=h) kr (fun h=>uC (xs:=[w.A strA])) f179_ok fun s hs hh hd hrd=>by
  have h0:=hs 0 _ rfl
  have h1:=hs 1 _ rfl
  simp-implicitDefEqProofs only[f179_fn,f179,V,↓reduceIte,rA,rB,rC,reduceCtorEq,rD,rE,rF,WB,h0,h1,hh]
  refine(su x w (b:=b) (rw:=rw) hN w.l 0 _ rfl (Nat.zero_le _) ?_ ?_ ?_ ?_ ?_ ?_).mono ?_
  ·simp-implicitDefEqProofs only[V,↓reduceIte,rA,rB,rC,reduceCtorEq,rD,rE,rF,hh]
   exact g
  ·exact U39
  ·exact U28
  ·exact U28
  ·exact U66
  ·exact U33
  rintro e s1 ⟨d1,e1,⟨q,rfl⟩|⟨q,rfl,e3⟩⟩
  ·simp-implicitDefEqProofs only[V,↓reduceIte,rA,rB,rC,reduceCtorEq,rD,rE,rF,hh] at e1
   simp-implicitDefEqProofs only[V,↓reduceIte,rA,rB,rC,reduceCtorEq,rD,rE,rF,WB,d1,q,e1]
   exact⟨_,rfl,rfl⟩
  ·simp-implicitDefEqProofs only[V,↓reduceIte,rA,rB,rC,reduceCtorEq,rD,rE,rF,hh] at e1
   simp-implicitDefEqProofs only[V,↓reduceIte,rA,rB,rC,reduceCtorEq,rD,rE,rF,WB,d1,q,e1,e3]
   exact⟨_,rfl,rfl⟩
 exact hr
theorem qJ(w:Vl ByteArray){a b:ByteArray}{r:List ByteArray}(hw:w.l=a::b::r)(h:AH):RunCall E1 (.f 155) [w.A strA] h (.val (.bool (strEq a b))) h:=by
 refine cK kr f155_ok (mem1 Vl.leaf.tree) rfl (Tree.val _) (fun s hs hh hd hr=>?_) h
 have h0:=hs 0 _ rfl
 have k0:=w.at ax (i:=0) hw
 have k1:=w.at ax (i:=1) (k:=b) (r:=r) (by rw[hw];rfl)
 have vi:∀b,ids (AV.val b)=[]:=fun _=>rfl
 simp-implicitDefEqProofs only[f155_fn,f155,V,↓reduceIte,rA,rB,rC,reduceCtorEq,rD,rE,rF,WB,h0,hh]
 refine Run.mono (az (Q:=fun e s'=>e=.normal∧s'.eval (.t 2)=some (.val (.bool (strEq a b)))∧s'.defers=s.defers) ?_) ?_
 ·refine gI (R:=[]) rfl (fun x hx=>by cases hx) (fun r hr'=>by cases hr') ?_
  simp-implicitDefEqProofs only[f155_o0,wpDm,aW,List.all_cons,List.all_nil,footed,V,↓reduceIte,rA,rB,rC,reduceCtorEq,rD,rE,rF,WF,h0,aM Vl.ids,aK Vl.ids,ak Vl.ids,k0,k1,cU,ef,show∀l,onlyT [] (some (AV.iptr l))=true from fun _=>rfl,strA,List.cons_append,List.nil_append,aM (vi _),ak (vi _)]
 rintro e s1 ⟨rfl,e2,e3⟩
 simp-implicitDefEqProofs only[V,↓reduceIte,rA,rB,rC,reduceCtorEq,rD,rE,rF,WB,e2,e3,hd]
theorem fm(x:ByteArray)(h:AH):RunCall E1 (.f 154) [.val (.string x)] h (.fn (.func 179) [] [.ptr h.next 0]) (h.alloc (.cells [.val (.string x)] true)):=by
 obtain⟨v,h',hr,rfl,rfl⟩:=il (g:=154) (l:=[.val (.string x)]) (h:=h) (fun v h'=>v=.fn (.func 179) [] [.ptr h.next 0]∧h'=h.alloc (.cells [.val (.string x)] true)) kr f154_ok fun s hs hh hd hrd=>by
  have h0:=hs 0 _ rfl
  simp-implicitDefEqProofs only[f154_fn,f154,V,↓reduceIte,rA,rB,rC,reduceCtorEq,rD,rE,rF,WB,h0,hh,hd]
  exact⟨_,rfl,rfl⟩
 exact hr
def sInt:ByteArray:=⟨#[73,110,116]⟩
def sBool:ByteArray:=⟨#[66,111,111,108]⟩
def sCell:ByteArray:=⟨#[67,101,108,108]⟩
def argS(op:Int):Option ByteArray:=
 if op=6∨op=7∨op=8∨op=9∨op=12∨op=13 then some sInt else if op=10∨op=11 then none else some sBool
def resS(op:Int):ByteArray:=if op=6∨op=7∨op=8∨op=9 then sInt else sBool
def RuleOk(op:Int)(h:AH):Prop:=match argS op with
 |some a=>∃h' b,RunCall E1 (.f 118) [.val (.int .i64 op)] h (.agg [.fn (.func 179) [] [.ptr b 0],.val (.string (resS op))]) h'∧b<h'.next∧h'.get b=some (.cells [.val (.string a)] true)∧h.next≤h'.next∧∀x,x<h.next→h'.get x=h.get x
 |none=>∃h',RunCall E1 (.f 118) [.val (.int .i64 op)] h (.agg [.fn (.func 155) [] [],.val (.string (resS op))]) h'∧h.next≤h'.next∧∀x,x<h.next→h'.get x=h.get x
theorem eb{h:AH}{b:Nat}{a0 a1 x y:AV}:stK h b 2 0 [x,y] (some (.cells [a0,a1] true))=some (h.put b (some (.cells [x,y] true))):=bu rfl rfl
theorem yW{f:Fn}{a b:List AV}:(AV.fn f a b).cells=some [.fn f a b]:=rfl
theorem nT{a b:AV}:takeN (some 2) [a,b]=some (.agg [a,b]):=rfl
theorem dv{op:Int}{h h':AH}{v:AV}(H:∀s:St,s.eval (.t 0)=some (.val (.int .i64 op))→s.h=h→s.defers=[]→wp E1 fD.body s fun e s=>(e=.normal∨e=.ret)∧s.defers=[]∧∃r,resultsA E1.globs s fD.res=some r∧oneOrTup r=v∧s.h=h'):RunCall E1 (.f 118) [.val (.int .i64 op)] h v h':=by
 obtain⟨v,h',hr,rfl,rfl⟩:=il (g:=118) (l:=[.val (.int .i64 op)]) (h:=h) (fun v' h''=>v'=v∧h''=h') kr f118_ok fun s hs hh hd hrd=>H s (hs 0 _ rfl) hh hd
 exact hr
theorem rule_6(h:AH):RuleOk 6 h:=U15
theorem rule_7(h:AH):RuleOk 7 h:=U15
theorem rule_8(h:AH):RuleOk 8 h:=U15
theorem rule_9(h:AH):RuleOk 9 h:=U15
theorem rule_12(h:AH):RuleOk 12 h:=U14
theorem rule_13(h:AH):RuleOk 13 h:=U14
theorem rule_10(h:AH):RuleOk 10 h:=U13
theorem rule_11(h:AH):RuleOk 11 h:=U13
theorem rule_else{op:Int}(h6:op≠6)(h7:op≠7)(h8:op≠8)(h9:op≠9)(h10:op≠10)(h11:op≠11)(h12:op≠12)(h13:op≠13)(h:AH):RuleOk op h:=by
 have e1:argS op=some sBool:=by
  simp only[argS,h6,h7,h8,h9,h10,h11,h12,h13,or_self,if_false]
 have e2:resS op=sBool:=by
  simp only[resS,h6,h7,h8,h9,or_self,if_false]
 unfold RuleOk
 rw[e1,e2]
 refine⟨((h.alloc (.cells [.val .nilFunc,.val (.string ⟨#[]⟩)] true)).alloc (.cells [.val (.string sBool)] true)).put h.next (some (.cells [.fn (.func 179) [] [.ptr (h.next+1) 0],.val (.string sBool)] true)),h.next+1,dv fun s h0 hh hd=>?_,Nat.lt_succ_self _,?_,by show h.next≤h.next+1+1;omega,fun x hx=>?_⟩
 ·simp-implicitDefEqProofs only[fD,f118,V,↓reduceIte,rA,rB,rC,reduceCtorEq,rD,rE,rF,WB,WF,h0,hh,hd,decide_eq_false h6,decide_eq_false h7,decide_eq_false h8,decide_eq_false h9,decide_eq_false h10,decide_eq_false h11,decide_eq_false h12,decide_eq_false h13]
  refine ah (fm sBool _) ?_
  simp-implicitDefEqProofs only[V,↓reduceIte,rA,rB,rC,reduceCtorEq,rD,rE,rF,WB,WF,hh,hd,eb,yW,nT,(eq_false om:(h.next=h.next+1)=False)]
  exact⟨_,rfl,rfl,rfl⟩
 ·rw[ac om]
  exact ai (h:=h.alloc (.cells [.val .nilFunc,.val (.string ⟨#[]⟩)] true))
 ·rw[ac om,aP (by show x<h.next+1;omega),aP hx]
theorem te(op:Int)(h:AH):RuleOk op h:=by
 by_cases h6:op=6
 ·subst h6;exact rule_6 h
 by_cases h7:op=7
 ·subst h7;exact rule_7 h
 by_cases h8:op=8
 ·subst h8;exact rule_8 h
 by_cases h9:op=9
 ·subst h9;exact rule_9 h
 by_cases h10:op=10
 ·subst h10;exact rule_10 h
 by_cases h11:op=11
 ·subst h11;exact rule_11 h
 by_cases h12:op=12
 ·subst h12;exact rule_12 h
 by_cases h13:op=13
 ·subst h13;exact rule_13 h
 exact rule_else h6 h7 h8 h9 h10 h11 h12 h13 h
end Go.Proofs.YtkhblipgiijoiaaGreatDoor
