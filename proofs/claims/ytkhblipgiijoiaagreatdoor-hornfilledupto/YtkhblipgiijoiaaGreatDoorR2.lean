/- A part of the proof about filled horn systems: ZLook ZAppl. -/
import Derived.Test.YtkhblipgiijoiaaGreatDoorU0
import Derived.Test.YtkhblipgiijoiaaGreatDoorR1

set_option linter.all false
open Nat renaming reduceEqDiff → rA, reduceAdd → rB, reduceMul → rC
open Int renaming reduceEq → rD, reduceLT → rE, reduceLE → rF
open Option.some renaming injEq → sI
namespace Go.Proofs.YtkhblipgiijoiaaGreatDoor
open Go Go.AM
set_option maxHeartbeats 4000000
theorem pureT{g:Nat}{l:List AV}{a:AFun}{t:AV}(hs:freshF g=true)(hf:funOf Tryz.prog g=some a)(hl:∀v∈l,Tree v)
  (H:∀s:St,(∀i v,(enterTm l 0 .nil).get i=some v→s.eval (.t i)=some v)→s.h=.empty→s.defers=[]→s.round=none→wp E1 a.body s fun e s=>(e=.normal∨e=.ret)∧s.defers=[]∧∃rs,resultsA E1.globs s a.res=some rs∧∃n,n<1000∧Rep s.h 0 s.h.next n (oneOrTup rs) t) (h:AH):
  RunCall E1 (.f g) l h t h:=by
 obtain⟨v,h',⟨n,hn,hr⟩,hrun⟩:=kl (g:=g) (l:=l) (h:=.empty) (a:=a) (fun v h'=>∃n,n<1000∧Rep h' 0 h'.next n v t) hf fun s h1 h2 h3 h4=>(bZ _ _ _ (H s h1 h2 h3 h4))
 exact yR (fA hs) (fW hs _) hl hrun hr (Nat.lt_trans hn de) h
def hoLk(b:ByteArray):List Ho→Option Ho
 | []=>none
 |h::r=>bif strEq h.nm b then some h else hoLk b r
def smLk(b:ByteArray):List Sm→Option Sm
 | []=>none
 |s::r=>bif strEq s.nm b then some s else smLk b r
theorem bg{h:AH}{b:Nat}{a0 a1:AV}{p:Ho}:stK h b 2 0 p.cells (some (.cells [a0,a1] true))=some (h.put b (some (.cells p.cells true))):=bu rfl rfl
theorem eF{h:AH}{b:Nat}{a0 a1 a2:AV}{p:Sm}:stK h b 3 0 p.cells (some (.cells [a0,a1,a2] true))=some (h.put b (some (.cells p.cells true))):=bu rfl rfl
theorem stK_3{h:AH}{b:Nat}{a0 a1 a2 x y z:AV}:stK h b 3 0 [x,y,z] (some (.cells [a0,a1,a2] true))=some (h.put b (some (.cells [x,y,z] true))):=bu rfl rfl
theorem stK_ho{h:AH}{b:Nat}{p:Ho}{w:Vl Vr}:stK h b 1 1 [w.A Vr.cells] (some (.cells p.cells true))=some (h.put b (some (.cells (Ho.mk p.nm w).cells true))):=rfl
theorem stK_sa{h:AH}{b:Nat}{p:Sm}{w:Vl ByteArray}:stK h b 1 1 [w.A strA] (some (.cells p.cells true))=some (h.put b (some (.cells (Sm.mk p.nm w p.res).cells true))):=rfl
theorem sx(b:ByteArray)(w:Vl Ho)(hN:w.l.length<2^61)(cl:Ho→Vl Vr)(hc:∀x∈w.l,∀h,RunCall E1 (.f 45) [x.ps.A Vr.cells] h ((cl x).A Vr.cells) h):∀(r:List Ho) (i:Nat) (s:St),w.l.drop i=r→i≤w.l.length→1<s.h.next→
  s.h.get 1=some (.cells [.val (.string ⟨#[]⟩),.val (.slice none 0 0)] true)→s.eval (.t 1)=some (.val (.string b))→s.eval (.t 4)=some (.ptr 1 0)→s.eval (.t 9)=some (w.A Ho.cells)→s.eval (.t 10)=some (.val (.int .i64 (w.l.length:Nat)))→s.eval (.t 11)=some (.val (.int .i64 (i:Nat)))→s.defers=[]→
  Run E1 mj s fun e s'=>s'.defers=[]∧s'.eval (.t 4)=some (.ptr 1 0)∧((hoLk b r=none∧e=.exit 0∧s'.h.get 1=some (.cells [.val (.string ⟨#[]⟩),.val (.slice none 0 0)] true))∨(∃x,hoLk b r=some x∧e=.ret∧s'.eval (.t 5)=some (.val (.bool true))∧s'.h.get 1=some (.cells (Ho.mk x.nm (cl x)).cells true)))
 | [],i,s,hd,hi,hn,g1,h1,h4,h9,h10,h11,hf=>by
  have hl:=aN hd hi
  subst hl
  apply aC (rfl:mj=.loop gQ)
  simp-implicitDefEqProofs only[gQ,V,↓reduceIte,rA,rB,rC,reduceCtorEq,rD,rE,rF,WB,h1,h4,h9,h10,h11,hf,lt_f,hoLk,g1]
 |k::r,i,s,hd,hi,hn,g1,h1,h4,h9,h10,h11,hf=>by
  have hl:=aV hd
  have hlt:=lt_t hl
  have w1:IntKind.i64.wrap ((i:Int)+1)=((i+1:Nat):Int):=aE (n:=i+1) om
  have n1:(1=s.h.next)=False:=eq_false om
  apply aC (rfl:mj=.loop gQ)
  cases hq:strEq k.nm b with
  |true=>
   have c1:=hc k (List.mem_of_mem_drop (i:=i) (by rw[hd];exact List.mem_cons_self))
   simp-implicitDefEqProofs only[gQ,V,↓reduceIte,rA,rB,rC,reduceCtorEq,rD,rE,rF,WB,WF,h1,h4,h9,h10,h11,hf,hlt,w.at Ho.len hd,bR,bg,hq,aA c1,stK_ho,g1,n1,hoLk]
   exact .inr ⟨_,rfl,rfl⟩
  |false=>
   simp-implicitDefEqProofs only[gQ,V,↓reduceIte,rA,rB,rC,reduceCtorEq,rD,rE,rF,WB,WF,h1,h4,h9,h10,h11,hlt,w.at Ho.len hd,bR,bg,hq,w1,hoLk]
   refine sx b w hN cl hc r (i+1) _ (aF hd) om ?_ ?_ ?_ ?_ ?_ ?_ ?_ ?_
   ·exact U53
   ·exact U74
   all_goals simp-implicitDefEqProofs only[V,↓reduceIte,rA,rB,rC,reduceCtorEq,rD,rE,rF,h1,h4,h9,h10,hf]
theorem tP{α β:Type}{l:List α}{p:α→β→Prop}(z:β)(h:∀x∈l,∃y,p x y):∃f:α→β,∀x∈l,p x (f x):=by
 have:∀x,∃y,x∈l→p x y:=fun x=>by
  by_cases m:x∈l
  ·obtain⟨y,hy⟩:=h x m
   exact⟨y,fun _=>hy⟩
  ·exact⟨z,fun k=>absurd k m⟩
 obtain⟨f,hf⟩:=Classical.skolem.1 this
 exact⟨f,fun x m=>hf x m⟩
theorem pO{b:ByteArray}:∀{l:List Ho} {x:Ho},hoLk b l=some x→x∈l
 |h::r,x,e=>by
  simp only[hoLk] at e
  cases q:strEq h.nm b with
  |true=>
   rw[q] at e
   simp only[cond_true,sI] at e
   rw[e]
   exact List.mem_cons_self
  |false=>
   rw[q] at e
   exact List.mem_cons_of_mem _ (pO e)
theorem wX{b:ByteArray}:∀{l:List Sm} {x:Sm},smLk b l=some x→x∈l
 |h::r,x,e=>by
  simp only[smLk] at e
  cases q:strEq h.nm b with
  |true=>
   rw[q] at e
   simp only[cond_true,sI] at e
   rw[e]
   exact List.mem_cons_self
  |false=>
   rw[q] at e
   exact List.mem_cons_of_mem _ (wX e)
theorem fx{h:AH}{hi n:Nat}{a b t:AV}{v:Value}(r:Rep h 0 hi n a t):Rep h 0 hi (n+1) (.tup [a,.val v]) (.tup [t,.val v]):=by
 have:=Rep.tup (h:=h) (lo:=0) (hi:=hi) (n:=n) (ps:=[(a,t),(.val v,.val v)]) (fun p hp=>by
  simp only[List.mem_cons,List.mem_nil_iff,or_false] at hp
  rcases hp with rfl|rfl
  ·exact r
  ·exact Rep.leaf (Leaf.val _))
 exact this
theorem f153_run(Vx:Evr)(b:ByteArray)(hN:Vx.hs.l.length<2^61)(cl:Ho→Vl Vr)(hc:∀x∈Vx.hs.l,∀h,RunCall E1 (.f 45) [x.ps.A Vr.cells] h ((cl x).A Vr.cells) h)(h:AH):
  RunCall E1 (.f 153) [.agg Vx.cells,.val (.string b)] h (match hoLk b Vx.hs.l with
   |some x=>.tup [.agg (Ho.mk x.nm (cl x)).cells,.val (.bool true)]
   |none=>.tup [.agg (Ho.mk ⟨#[]⟩ ⟨[],nilK,none⟩).cells,.val (.bool false)]) h:=by
 refine pureT kr f153_ok (mem2 (Tree.ev Vx) (Tree.val _)) (fun s hs hh hd hr=>?_) h
 have h0:=hs 0 _ rfl
 have h1:=hs 1 _ rfl
 simp-implicitDefEqProofs only[f153_fn,f153,V,↓reduceIte,rA,rB,rC,reduceCtorEq,rD,rE,rF,WB,h0,h1,hh]
 refine(sx b Vx.hs hN cl hc Vx.hs.l 0 _ rfl (Nat.zero_le _) ?_ ?_ ?_ ?_ ?_ ?_ ?_ ?_).mono ?_
 ·exact U79
 ·exact U28
 ·exact U39
 ·exact U28
 ·exact U28
 ·exact U28
 ·exact U66
 ·exact U33
 rintro e s1 ⟨d1,e4,⟨q,rfl,g1⟩|⟨x,q,rfl,e5,g1⟩⟩
 ·simp-implicitDefEqProofs only[V,↓reduceIte,rA,rB,rC,reduceCtorEq,rD,rE,rF,WB,WF,d1,e4,g1,q,eb,nT]
  exact⟨_,rfl,2,de,fx (b:=.val .nilFunc) (cJ (fun v hv=>by
   simp only[List.mem_cons,List.mem_nil_iff,or_false] at hv
   rcases hv with rfl|rfl<;>exact Leaf.val _))⟩
 ·simp-implicitDefEqProofs only[V,↓reduceIte,rA,rB,rC,reduceCtorEq,rD,rE,rF,WB,WF,d1,e4,e5,g1,q]
  exact⟨_,rfl,2,de,fx (b:=.val .nilFunc) (cJ (fun v hv=>by
   simp only[Ho.cells,List.mem_cons,List.mem_nil_iff,or_false] at hv
   rcases hv with rfl|rfl
   ·exact Leaf.val _
   ·exact Vl.leaf))⟩
theorem uW(Vx:Evr)(b:ByteArray)(hN:Vx.hs.l.length<2^61)(hP:∀x∈Vx.hs.l,x.ps.l.length<2^31):
  match hoLk b Vx.hs.l with
  |some x=>∃y:Ho,y.ps.l=x.ps.l∧∀h,RunCall E1 (.f 153) [.agg Vx.cells,.val (.string b)] h (.tup [.agg y.cells,.val (.bool true)]) h
  |none=>∃y:Ho,∀h,RunCall E1 (.f 153) [.agg Vx.cells,.val (.string b)] h (.tup [.agg y.cells,.val (.bool false)]) h:=by
 obtain⟨cl,hc⟩:=tP (l:=Vx.hs.l) (p:=fun(x:Ho) (w:Vl Vr)=>w.l=x.ps.l∧∀h,RunCall E1 (.f 45) [x.ps.A Vr.cells] h (w.A Vr.cells) h) ⟨[],nilK,none⟩ fun x hx=>fF x.ps (bv Vr.leaves _) (hP x hx)
 have key:=f153_run Vx b hN cl fun x hx=>(hc x hx).2
 cases hx:hoLk b Vx.hs.l with
 |none=>
  rw[hx] at key
  exact⟨_,key⟩
 |some x=>
  rw[hx] at key
  exact⟨_,(hc x (pO hx)).1,key⟩
def sTag:ByteArray:=⟨#[116,97,103]⟩
def sVal:ByteArray:=⟨#[118,97,108]⟩
def symS(sy:List Sm)(b:ByteArray):Option (List ByteArray×ByteArray):=
 bif strEq b sTag then some ([],sInt) else bif strEq b sVal then some ([sCell],sInt) else(smLk b sy).map fun s=>(s.as.l,s.res)
theorem sz(b:ByteArray)(w:Vl Sm)(hN:w.l.length<2^61)(cl:Sm→Vl ByteArray)(hc:∀x∈w.l,∀h,RunCall E1 (.f 178) [x.as.A strA] h ((cl x).A strA) h):∀(r:List Sm) (i:Nat) (s:St),w.l.drop i=r→i≤w.l.length→1<s.h.next→
  s.h.get 1=some (.cells [.val (.string ⟨#[]⟩),.val (.slice none 0 0),.val (.string ⟨#[]⟩)] true)→s.eval (.t 1)=some (.val (.string b))→s.eval (.t 4)=some (.ptr 1 0)→s.eval (.t 17)=some (w.A Sm.cells)→s.eval (.t 18)=some (.val (.int .i64 (w.l.length:Nat)))→s.eval (.t 19)=some (.val (.int .i64 (i:Nat)))→s.defers=[]→
  Run E1 mm s fun e s'=>s'.defers=[]∧s'.eval (.t 4)=some (.ptr 1 0)∧((smLk b r=none∧e=.exit 1∧s'.h.get 1=some (.cells [.val (.string ⟨#[]⟩),.val (.slice none 0 0),.val (.string ⟨#[]⟩)] true))∨(∃x,smLk b r=some x∧e=.ret∧s'.eval (.t 5)=some (.val (.bool true))∧s'.h.get 1=some (.cells (Sm.mk x.nm (cl x) x.res).cells true)))
 | [],i,s,hd,hi,hn,g1,h1,h4,h9,h10,h11,hf=>by
  have hl:=aN hd hi
  subst hl
  apply aC (rfl:mm=.loop gR)
  simp-implicitDefEqProofs only[gR,V,↓reduceIte,rA,rB,rC,reduceCtorEq,rD,rE,rF,WB,h1,h4,h9,h10,h11,hf,lt_f,smLk,g1]
 |k::r,i,s,hd,hi,hn,g1,h1,h4,h9,h10,h11,hf=>by
  have hl:=aV hd
  have hlt:=lt_t hl
  have w1:IntKind.i64.wrap ((i:Int)+1)=((i+1:Nat):Int):=aE (n:=i+1) om
  have n1:(1=s.h.next)=False:=eq_false om
  apply aC (rfl:mm=.loop gR)
  cases hq:strEq k.nm b with
  |true=>
   have c1:=hc k (List.mem_of_mem_drop (i:=i) (by rw[hd];exact List.mem_cons_self))
   simp-implicitDefEqProofs only[gR,V,↓reduceIte,rA,rB,rC,reduceCtorEq,rD,rE,rF,WB,WF,h1,h4,h9,h10,h11,hf,hlt,w.at Sm.len hd,eN,eF,hq,aA c1,stK_sa,g1,n1,smLk]
   exact .inr ⟨_,rfl,rfl⟩
  |false=>
   simp-implicitDefEqProofs only[gR,V,↓reduceIte,rA,rB,rC,reduceCtorEq,rD,rE,rF,WB,WF,h1,h4,h9,h10,h11,hlt,w.at Sm.len hd,eN,eF,hq,w1,smLk]
   refine sz b w hN cl hc r (i+1) _ (aF hd) om ?_ ?_ ?_ ?_ ?_ ?_ ?_ ?_
   ·exact U53
   ·exact U74
   all_goals simp-implicitDefEqProofs only[V,↓reduceIte,rA,rB,rC,reduceCtorEq,rD,rE,rF,h1,h4,h9,h10,hf]
theorem rep_sym{h:AH}{hi a o:Nat}{x z:ByteArray}(g:h.get a=some (.cells [.val (.string sCell)] true))(ha:a<hi):Rep h 0 hi 2 (.agg [.val (.string x),.own a 0 1 1 (some 1),.val (.string z)]) (.agg (Sm.mk x ⟨[sCell],none,some 1⟩ z).cells):=by
 have r1:Rep h 0 hi 1 (.own a 0 1 1 (some 1)) (.imm [.val (.string sCell)] 1 (some 1)):=Rep.own (ps:=[(.val (.string sCell),.val (.string sCell))]) (Nat.zero_le _) ha g rfl (fun p hp=>by
  rw[List.mem_singleton.1 hp]
  exact Rep.leaf (Leaf.val _))
 have:=Rep.agg (h:=h) (lo:=0) (hi:=hi) (n:=1) (ps:=[(.val (.string x),.val (.string x)),(.own a 0 1 1 (some 1),.imm [.val (.string sCell)] 1 (some 1)),(.val (.string z),.val (.string z))]) (fun p hp=>by
  simp only[List.mem_cons,List.mem_nil_iff,or_false] at hp
  rcases hp with rfl|rfl|rfl
  ·exact Rep.leaf (Leaf.val _)
  ·exact r1
  ·exact Rep.leaf (Leaf.val _))
 exact this
theorem f151_run(Vx:Evr)(b:ByteArray)(hN:Vx.sy.l.length<2^61)(cl:Sm→Vl ByteArray)(hc:∀x∈Vx.sy.l,∀h,RunCall E1 (.f 178) [x.as.A strA] h ((cl x).A strA) h)(h:AH):
  RunCall E1 (.f 151) [.agg Vx.cells,.val (.string b)] h (bif strEq b sTag then .tup [.agg (Sm.mk sTag ⟨[],nilK,none⟩ sInt).cells,.val (.bool true)] else bif strEq b sVal then .tup [.agg (Sm.mk sVal ⟨[sCell],none,some 1⟩ sInt).cells,.val (.bool true)] else match smLk b Vx.sy.l with
   |some x=>.tup [.agg (Sm.mk x.nm (cl x) x.res).cells,.val (.bool true)]
   |none=>.tup [.agg (Sm.mk ⟨#[]⟩ ⟨[],nilK,none⟩ ⟨#[]⟩).cells,.val (.bool false)]) h:=by
 refine pureT kr f151_ok (mem2 (Tree.ev Vx) (Tree.val _)) (fun s hs hh hd hr=>?_) h
 have h0:=hs 0 _ rfl
 have h1:=hs 1 _ rfl
 have s1e:(⟨#[116,97,103]⟩:ByteArray)=sTag:=rfl
 have s2e:(⟨#[118,97,108]⟩:ByteArray)=sVal:=rfl
 cases q1:strEq b sTag with
 |true=>
  simp-implicitDefEqProofs only[mn,f151,V,↓reduceIte,rA,rB,rC,reduceCtorEq,rD,rE,rF,WB,WF,h0,h1,hh,hd,s1e,s2e,q1,stK_3,yf]
  exact⟨_,rfl,2,de,fx (b:=.val .nilFunc) (cJ (fun v hv=>by
   simp only[List.mem_cons,List.mem_nil_iff,or_false] at hv
   rcases hv with rfl|rfl|rfl<;>exact Leaf.val _))⟩
 |false=>cases q2:strEq b sVal with
  |true=>
   simp-implicitDefEqProofs only[mn,f151,V,↓reduceIte,rA,rB,rC,reduceCtorEq,rD,rE,rF,WB,WF,h0,h1,hh,hd,s1e,s2e,q1,q2,stK_3,yf]
   refine⟨_,rfl,3,de,fx (b:=.val .nilFunc) (rep_sym (o:=0) ?_ ?_)⟩
   ·exact U66
   ·decide
  |false=>
   simp-implicitDefEqProofs only[mn,f151,V,↓reduceIte,rA,rB,rC,reduceCtorEq,rD,rE,rF,WB,WF,h0,h1,hh,s1e,s2e,q1,q2]
   refine(sz b Vx.sy hN cl hc Vx.sy.l 0 _ rfl (Nat.zero_le _) ?_ ?_ ?_ ?_ ?_ ?_ ?_ ?_).mono ?_
   ·exact U79
   ·exact U28
   ·exact U39
   ·exact U28
   ·exact U28
   ·exact U28
   ·exact U66
   ·exact U33
   rintro e s1 ⟨d1,e4,⟨q,rfl,g1⟩|⟨x,q,rfl,e5,g1⟩⟩
   ·simp-implicitDefEqProofs only[V,↓reduceIte,rA,rB,rC,reduceCtorEq,rD,rE,rF,WB,WF,d1,e4,g1,q,stK_3,yf]
    exact⟨_,rfl,2,de,fx (b:=.val .nilFunc) (cJ (fun v hv=>by
     simp only[List.mem_cons,List.mem_nil_iff,or_false] at hv
     rcases hv with rfl|rfl|rfl<;>exact Leaf.val _))⟩
   ·simp-implicitDefEqProofs only[V,↓reduceIte,rA,rB,rC,reduceCtorEq,rD,rE,rF,WB,WF,d1,e4,e5,g1,q]
    exact⟨_,rfl,2,de,fx (b:=.val .nilFunc) (cJ (fun v hv=>by
     simp only[Sm.cells,List.mem_cons,List.mem_nil_iff,or_false] at hv
     rcases hv with rfl|rfl|rfl
     ·exact Leaf.val _
     ·exact Vl.leaf
     ·exact Leaf.val _))⟩
theorem uZ(Vx:Evr)(b:ByteArray)(hN:Vx.sy.l.length<2^61)(hP:∀x∈Vx.sy.l,x.as.l.length<2^31):
  match symS Vx.sy.l b with
  |some x=>∃y:Sm,y.as.l=x.1∧y.res=x.2∧∀h,RunCall E1 (.f 151) [.agg Vx.cells,.val (.string b)] h (.tup [.agg y.cells,.val (.bool true)]) h
  |none=>∃y:Sm,∀h,RunCall E1 (.f 151) [.agg Vx.cells,.val (.string b)] h (.tup [.agg y.cells,.val (.bool false)]) h:=by
 obtain⟨cl,hc⟩:=tP (l:=Vx.sy.l) (p:=fun(x:Sm) (w:Vl ByteArray)=>w.l=x.as.l∧∀h,RunCall E1 (.f 178) [x.as.A strA] h (w.A strA) h) ⟨[],nilK,none⟩ fun x hx=>rf x.as (wO _) (hP x hx)
 have key:=f151_run Vx b hN cl fun x hx=>(hc x hx).2
 unfold symS
 cases q1:strEq b sTag with
 |true=>
  rw[q1] at key
  exact⟨_,rfl,rfl,key⟩
 |false=>cases q2:strEq b sVal with
  |true=>
   rw[q1,q2] at key
   exact⟨_,rfl,rfl,key⟩
  |false=>
   rw[q1,q2] at key
   cases hx:smLk b Vx.sy.l with
   |none=>
    rw[hx] at key
    exact⟨_,key⟩
   |some x=>
    rw[hx] at key
    exact⟨Sm.mk x.nm (cl x) x.res,(hc x (wX hx)).1,rfl,key⟩
def eqS:List ByteArray→List ByteArray→Bool
 | [],_=>true
 |k::ks,a::l=>strEq k a&&eqS ks l
 |_::_,[]=>false
def hdS:List ByteArray→ByteArray
 |k::_=>k
 | []=>⟨#[]⟩
def appS(sy:List Sm)(b:ByteArray)(ks:List ByteArray):ByteArray×Int:=
 match symS sy b with
 |none=>(⟨#[]⟩,5)
 |some x=>bif strEq b sTag then(bif !decide ((ks.length:Int)=1) then(⟨#[]⟩,13) else bif plainS (hdS ks) then(⟨#[]⟩,11) else(x.2,0))
  else bif !decide ((ks.length:Int)=(x.1.length:Nat)) then(⟨#[]⟩,13) else bif eqS ks x.1 then(x.2,0) else(⟨#[]⟩,11)
def filS(hs:List Ho)(b:ByteArray)(ks:List ByteArray):ByteArray×Int:=
 match hoLk b hs with
 |none=>(⟨#[]⟩,5)
 |some x=>bif !decide ((ks.length:Int)=(x.ps.l.length:Nat)) then(⟨#[]⟩,13) else bif eqS ks (x.ps.l.map Vr.so) then(sBool,0) else(⟨#[]⟩,11)
def ansA(r:ByteArray×Int):AV:=.tup [.val (.string r.1),.val (.int .i64 r.2)]
theorem gt(r:ByteArray×Int):Tree (ansA r):=Tree.two _ _
theorem tK(y:Sm)(w:Vl ByteArray)(hN:w.l.length<2^61)(hlen:w.l.length=y.as.l.length):∀(r q:List ByteArray) (i:Nat) (s:St),w.l.drop i=r→y.as.l.drop i=q→i≤w.l.length→s.h.get 1=some (.cells y.cells true)→
  s.eval (.t 8)=some (.ptr 1 0)→s.eval (.t 37)=some (w.A strA)→s.eval (.t 38)=some (.val (.int .i64 (w.l.length:Nat)))→s.eval (.t 39)=some (.val (.int .i64 (i:Nat)))→s.defers=[]→
  Run E1 nJ s fun e s'=>s'.defers=[]∧s'.h=s.h∧((eqS r q=true∧e=.exit 0∧s'.eval (.t 8)=some (.ptr 1 0))∨(eqS r q=false∧e=.ret∧s'.eval (.t 6)=some (.val (.string ⟨#[]⟩))∧s'.eval (.t 7)=some (.val (.int .i64 11))))
 | [],q,i,s,hd,hq,hi,g1,h8,h37,h38,h39,hf=>by
  have hl:=aN hd hi
  subst hl
  apply aC (rfl:nJ=.loop gX)
  simp-implicitDefEqProofs only[gX,V,↓reduceIte,rA,rB,rC,reduceCtorEq,rD,rE,rF,WB,h8,h37,h38,h39,hf,lt_f,eqS]
 |k::r,q,i,s,hd,hq,hi,g1,h8,h37,h38,h39,hf=>by
  have hl:=aV hd
  have hlt:=lt_t hl
  have w1:IntKind.i64.wrap ((i:Int)+1)=((i+1:Nat):Int):=aE (n:=i+1) om
  obtain⟨a,q',rfl⟩:∃a q',q=a::q':=by
   cases q with
   |nil=>
    have:=List.drop_eq_nil_iff.1 hq
    omega
   |cons a q'=>exact⟨a,q',rfl⟩
  apply aC (rfl:nJ=.loop gX)
  cases hc:strEq k a with
  |false=>
   simp-implicitDefEqProofs only[gX,V,↓reduceIte,rA,rB,rC,reduceCtorEq,rD,rE,rF,WB,WF,h8,h37,h38,h39,hf,hlt,w.at ax hd,y.as.at ax hq,strA,List.cons_append,List.nil_append,g1,hc,eqS]
  |true=>
   simp-implicitDefEqProofs only[gX,V,↓reduceIte,rA,rB,rC,reduceCtorEq,rD,rE,rF,WB,WF,h8,h37,h38,h39,hf,hlt,w.at ax hd,y.as.at ax hq,strA,List.cons_append,List.nil_append,g1,hc,eqS,w1]
   refine(tK y w hN hlen r q' (i+1) _ (aF hd) (aF hq) om ?_ ?_ ?_ ?_ ?_ ?_).mono ?_
   all_goals simp-implicitDefEqProofs only[V,↓reduceIte,rA,rB,rC,reduceCtorEq,rD,rE,rF,h8,h37,h38,g1,hf]
   intro e s1 h
   exact h
theorem yY(Vx:Evr)(b:ByteArray)(w:Vl ByteArray)(hN:Vx.sy.l.length<2^61)(hP:∀x∈Vx.sy.l,x.as.l.length<2^31)(hw:w.l.length<2^61)(h:AH):
  RunCall E1 (.f 116) [.agg Vx.cells,.val (.string b),w.A strA] h (ansA (appS Vx.sy.l b w.l)) h:=by
 have fc:=uZ Vx b hN hP
 refine aB kr kr (mem3 (Tree.ev Vx) (Tree.val _) Vl.leaf.tree) rfl (gt _) (iH (rs:=[.val (.string (appS Vx.sy.l b w.l).1),.val (.int .i64 (appS Vx.sy.l b w.l).2)]) f116_ok fun s hs hh hd=>?_) h
 have h0:=hs 0 _ rfl
 have h1:=hs 1 _ rfl
 have h2:=hs 2 _ rfl
 unfold appS
 cases hx:symS Vx.sy.l b with
 |none=>
  rw[hx] at fc
  obtain⟨y,fc⟩:=fc
  simp-implicitDefEqProofs only[gW,f116,V,↓reduceIte,rA,rB,rC,reduceCtorEq,rD,rE,rF,WB,WF,h0,h1,h2,hh,hd,aA fc,eF]
 |some x=>
  rw[hx] at fc
  obtain⟨y,ya,yr,fc⟩:=fc
  have s1e:(⟨#[116,97,103]⟩:ByteArray)=sTag:=rfl
  simp only
  cases ht:strEq b sTag with
  |true=>
   cases hk:decide ((w.l.length:Int)=1) with
   |false=>
    exact U123
   |true=>
    obtain⟨k,hwk⟩:∃k,w.l=[k]:=by
     have:=of_decide_eq_true hk
     match hq:w.l,(show w.l.length=1 by omega) with
     | [k],_=>exact⟨k,rfl⟩
    have ka:=w.at ax (i:=0) (k:=k) (r:=[]) (by rw[hwk];rfl)
    have e1:hdS w.l=k:=by rw[hwk];rfl
    have e2:strA k++List.flatMap strA []=[.val (.string k)]:=rfl
    rw[e1]
    rw[e2] at ka
    cases hp:plainS k with
    |true=>simp-implicitDefEqProofs only[gW,f116,V,↓reduceIte,rA,rB,rC,reduceCtorEq,rD,rE,rF,WB,WF,h0,h1,h2,hh,hd,aA fc,eF,s1e,ht,hk,Vl.len,ka,aA (gz k),hp]
    |false=>simp-implicitDefEqProofs only[gW,f116,V,↓reduceIte,rA,rB,rC,reduceCtorEq,rD,rE,rF,WB,WF,h0,h1,h2,hh,hd,aA fc,eF,s1e,ht,hk,Vl.len,ka,aA (gz k),hp,yr]
  |false=>
   rw[←ya]
   cases hk:decide ((w.l.length:Int)=(y.as.l.length:Nat)) with
   |false=>
    exact U123
   |true=>
    have hlen:w.l.length=y.as.l.length:=by have:=of_decide_eq_true hk;omega
    simp-implicitDefEqProofs only[gW,f116,V,↓reduceIte,rA,rB,rC,reduceCtorEq,rD,rE,rF,WB,WF,h0,h1,h2,hh,aA fc,eF,s1e,ht,hk,Vl.len]
    refine(tK y w hw hlen w.l y.as.l 0 _ rfl rfl (Nat.zero_le _) ?_ ?_ ?_ ?_ ?_ ?_).mono ?_
    ·exact U28
    ·exact U28
    ·exact U28
    ·exact U28
    ·exact U66
    ·exact U33
    rintro e s1 ⟨d1,e1,⟨q,rfl,e8⟩|⟨q,rfl,e6,e7⟩⟩
    ·simp-implicitDefEqProofs only[V,↓reduceIte,rA,rB,rC,reduceCtorEq,rD,rE,rF] at e1
     simp-implicitDefEqProofs only[V,↓reduceIte,rA,rB,rC,reduceCtorEq,rD,rE,rF,WB,WF,d1,e1,e8,q,yr]
    ·exact U98
theorem tJ(y:Ho)(w:Vl ByteArray)(hN:w.l.length<2^61)(hlen:w.l.length=y.ps.l.length):∀(r:List ByteArray) (q:List Vr) (i:Nat) (s:St),w.l.drop i=r→y.ps.l.drop i=q→i≤w.l.length→s.h.get 1=some (.cells y.cells true)→
  s.eval (.t 8)=some (.ptr 1 0)→s.eval (.t 26)=some (w.A strA)→s.eval (.t 27)=some (.val (.int .i64 (w.l.length:Nat)))→s.eval (.t 28)=some (.val (.int .i64 (i:Nat)))→s.defers=[]→
  Run E1 nH s fun e s'=>s'.defers=[]∧((eqS r (q.map Vr.so)=true∧e=.exit 0)∨(eqS r (q.map Vr.so)=false∧e=.ret∧s'.eval (.t 6)=some (.val (.string ⟨#[]⟩))∧s'.eval (.t 7)=some (.val (.int .i64 11))))
 | [],q,i,s,hd,hq,hi,g1,h8,h37,h38,h39,hf=>by
  have hl:=aN hd hi
  subst hl
  apply aC (rfl:nH=.loop gV)
  simp-implicitDefEqProofs only[gV,V,↓reduceIte,rA,rB,rC,reduceCtorEq,rD,rE,rF,WB,h8,h37,h38,h39,hf,lt_f,eqS]
 |k::r,q,i,s,hd,hq,hi,g1,h8,h37,h38,h39,hf=>by
  have hl:=aV hd
  have hlt:=lt_t hl
  have w1:IntKind.i64.wrap ((i:Int)+1)=((i+1:Nat):Int):=aE (n:=i+1) om
  obtain⟨a,q',rfl⟩:∃a q',q=a::q':=by
   cases q with
   |nil=>
    have:=List.drop_eq_nil_iff.1 hq
    omega
   |cons a q'=>exact⟨a,q',rfl⟩
  apply aC (rfl:nH=.loop gV)
  cases hc:strEq k a.so with
  |false=>
   simp-implicitDefEqProofs only[gV,V,↓reduceIte,rA,rB,rC,reduceCtorEq,rD,rE,rF,WB,WF,h8,h37,h38,h39,hf,hlt,w.at ax hd,y.ps.at Vr.len hq,strA,List.cons_append,List.nil_append,g1,hc,eqS,List.map_cons]
  |true=>
   simp-implicitDefEqProofs only[gV,V,↓reduceIte,rA,rB,rC,reduceCtorEq,rD,rE,rF,WB,WF,h8,h37,h38,h39,hf,hlt,w.at ax hd,y.ps.at Vr.len hq,strA,List.cons_append,List.nil_append,g1,hc,eqS,w1,List.map_cons]
   refine(tJ y w hN hlen r q' (i+1) _ (aF hd) (aF hq) om ?_ ?_ ?_ ?_ ?_ ?_)
   all_goals simp-implicitDefEqProofs only[V,↓reduceIte,rA,rB,rC,reduceCtorEq,rD,rE,rF,h8,h37,h38,g1,hf]
theorem xZ(Vx:Evr)(b:ByteArray)(w:Vl ByteArray)(hN:Vx.hs.l.length<2^61)(hP:∀x∈Vx.hs.l,x.ps.l.length<2^31)(hw:w.l.length<2^61)(h:AH):
  RunCall E1 (.f 117) [.agg Vx.cells,.val (.string b),w.A strA] h (ansA (filS Vx.hs.l b w.l)) h:=by
 have fc:=uW Vx b hN hP
 refine aB kr kr (mem3 (Tree.ev Vx) (Tree.val _) Vl.leaf.tree) rfl (gt _) (iH (rs:=[.val (.string (filS Vx.hs.l b w.l).1),.val (.int .i64 (filS Vx.hs.l b w.l).2)]) f117_ok fun s hs hh hd=>?_) h
 have h0:=hs 0 _ rfl
 have h1:=hs 1 _ rfl
 have h2:=hs 2 _ rfl
 unfold filS
 cases hx:hoLk b Vx.hs.l with
 |none=>
  rw[hx] at fc
  obtain⟨y,fc⟩:=fc
  simp-implicitDefEqProofs only[nI,f117,V,↓reduceIte,rA,rB,rC,reduceCtorEq,rD,rE,rF,WB,WF,h0,h1,h2,hh,hd,aA fc,bg]
 |some x=>
  rw[hx] at fc
  obtain⟨y,ya,fc⟩:=fc
  have s1e:(⟨#[66,111,111,108]⟩:ByteArray)=sBool:=rfl
  simp only
  rw[←ya]
  cases hk:decide ((w.l.length:Int)=(y.ps.l.length:Nat)) with
  |false=>
   simp-implicitDefEqProofs only[nI,f117,V,↓reduceIte,rA,rB,rC,reduceCtorEq,rD,rE,rF,WB,WF,h0,h1,h2,hh,hd,aA fc,bg,s1e,hk,Vl.len]
  |true=>
   have hlen:w.l.length=y.ps.l.length:=by have:=of_decide_eq_true hk;omega
   simp-implicitDefEqProofs only[nI,f117,V,↓reduceIte,rA,rB,rC,reduceCtorEq,rD,rE,rF,WB,WF,h0,h1,h2,hh,aA fc,bg,s1e,hk,Vl.len]
   refine(tJ y w hw hlen w.l y.ps.l 0 _ rfl rfl (Nat.zero_le _) ?_ ?_ ?_ ?_ ?_ ?_).mono ?_
   ·exact U28
   ·exact U28
   ·exact U28
   ·exact U28
   ·exact U66
   ·exact U33
   rintro e s1 ⟨d1,⟨q,rfl⟩|⟨q,rfl,e6,e7⟩⟩
   ·simp-implicitDefEqProofs only[V,↓reduceIte,rA,rB,rC,reduceCtorEq,rD,rE,rF,WB,WF,d1,q]
   ·exact U98
def eq2S:List ByteArray→Bool
 |a::b::_=>strEq a b
 |_=>false
def ruleS(op:Int)(ks:List ByteArray):ByteArray×Int:=match argS op with
 |some a=>bif allS a ks then(resS op,0) else(⟨#[]⟩,11)
 |none=>bif eq2S ks then(resS op,0) else(⟨#[]⟩,11)
def sortN(Vx:Evr)(op:Int)(nm:ByteArray)(ks:List ByteArray):ByteArray×Int:=
 bif decide (op=1) then(sInt,0) else bif decide (op=2) then(sBool,0)
 else bif decide (op=3) then(match varS Vx.vs.l nm with|some s=>(s,0)|none=>(⟨#[]⟩,5))
 else bif decide (op=4) then appS Vx.sy.l nm ks else bif decide (op=5) then filS Vx.hs.l nm ks else ruleS op ks
theorem cf_21{a b:AV}{rw:Bool}:cfB (some (.cells [a,b] rw)) 1=some [b]:=rfl
theorem wz(Vx:Evr)(p:Pr)(w:Vl ByteArray)(hV:Vx.vs.l.length<2^61)(hY:Vx.sy.l.length<2^61)(hYP:∀x∈Vx.sy.l,x.as.l.length<2^31)(hN:Vx.hs.l.length<2^61)(hP:∀x∈Vx.hs.l,x.ps.l.length<2^31)(hw:w.l.length<2^61)
  (h2:p.op=10∨p.op=11→2≤w.l.length) (h:AH):RunCall E1 (.f 78) [.agg Vx.cells,p.av,w.A strA] h (ansA (sortN Vx p.op p.nm w.l)) h:=by
 refine aB kr kr (mem3 (Tree.ev Vx) (Tree.pr p) Vl.leaf.tree) rfl (gt _) (iH (rs:=[.val (.string (sortN Vx p.op p.nm w.l).1),.val (.int .i64 (sortN Vx p.op p.nm w.l).2)]) f78_ok fun s hs hh hd=>?_) h
 have k0:=hs 0 _ rfl
 have k1:=hs 1 _ rfl
 have k2:=hs 2 _ rfl
 have s1e:(⟨#[66,111,111,108]⟩:ByteArray)=sBool:=rfl
 have s2e:(⟨#[73,110,116]⟩:ByteArray)=sInt:=rfl
 unfold sortN
 cases c1:decide (p.op=1) with
 |true=>simp-implicitDefEqProofs only[fZ,f78,V,↓reduceIte,rA,rB,rC,reduceCtorEq,rD,rE,rF,WB,WF,k0,k1,k2,hh,hd,c1,s1e,s2e]
 |false=>cases c2:decide (p.op=2) with
  |true=>simp-implicitDefEqProofs only[fZ,f78,V,↓reduceIte,rA,rB,rC,reduceCtorEq,rD,rE,rF,WB,WF,k0,k1,k2,hh,hd,c1,c2,s1e,s2e]
  |false=>cases c3:decide (p.op=3) with
   |true=>
    cases hv:varS Vx.vs.l p.nm with
    |none=>simp-implicitDefEqProofs only[fZ,f78,V,↓reduceIte,rA,rB,rC,reduceCtorEq,rD,rE,rF,WB,WF,k0,k1,k2,hh,hd,c1,c2,c3,s1e,s2e,aA (lA Vx p.nm hV),hv,optR]
    |some x=>simp-implicitDefEqProofs only[fZ,f78,V,↓reduceIte,rA,rB,rC,reduceCtorEq,rD,rE,rF,WB,WF,k0,k1,k2,hh,hd,c1,c2,c3,s1e,s2e,aA (lA Vx p.nm hV),hv,optR]
   |false=>cases c4:decide (p.op=4) with
    |true=>simp-implicitDefEqProofs only[fZ,f78,V,↓reduceIte,rA,rB,rC,reduceCtorEq,rD,rE,rF,WB,WF,k0,k1,k2,hh,hd,c1,c2,c3,c4,s1e,s2e,aA (yY Vx p.nm w hY hYP hw),ansA]
    |false=>cases c5:decide (p.op=5) with
     |true=>simp-implicitDefEqProofs only[fZ,f78,V,↓reduceIte,rA,rB,rC,reduceCtorEq,rD,rE,rF,WB,WF,k0,k1,k2,hh,hd,c1,c2,c3,c4,c5,s1e,s2e,aA (xZ Vx p.nm w hN hP hw),ansA]
     |false=>
      simp-implicitDefEqProofs only[fZ,f78,V,↓reduceIte,rA,rB,rC,reduceCtorEq,rD,rE,rF,WB,WF,k0,k1,k2,hh,c1,c2,c3,c4,c5,s1e,s2e]
      have rc:=te p.op ((AH.empty.alloc (.cells Vx.cells true)).alloc (.cells p.cells true))
      unfold RuleOk at rc
      unfold ruleS
      cases ha:argS p.op with
      |some a=>
       rw[ha] at rc
       obtain⟨h1,b,r1,r2,r3,r4,r5⟩:=rc
       have hb1:(b=h1.next)=False:=eq_false om
       refine ah (v:=.agg [.fn (.func 179) [] [.ptr b 0],.val (.string (resS p.op))]) (h':=h1) ?_ ?_
       ·exact U99
       cases hq:allS a w.l with
       |true=>
        simp-implicitDefEqProofs only[V,↓reduceIte,rA,rB,rC,reduceCtorEq,rD,rE,rF,WB,WF,k2,eb,List.append_nil,List.nil_append]
        refine ah (ld a w (b:=b) (rw:=true) hw ?_) ?_
        ·exact U100
        exact U124
       |false=>
        simp-implicitDefEqProofs only[V,↓reduceIte,rA,rB,rC,reduceCtorEq,rD,rE,rF,WB,WF,k2,eb,List.append_nil,List.nil_append]
        refine ah (ld a w (b:=b) (rw:=true) hw ?_) ?_
        ·exact U100
        exact U124
      |none=>
       rw[ha] at rc
       obtain⟨h1,r1,r4,r5⟩:=rc
       have ho:p.op=10∨p.op=11:=by
        unfold argS at ha
        split at ha
        ·cases ha
        ·split at ha
         ·assumption
         ·cases ha
       obtain⟨x,y,l,hxy⟩:∃x y l,w.l=x::y::l:=by
        match hq:w.l,h2 ho with
        |x::y::l,_=>exact⟨x,y,l,rfl⟩
       have e2:eq2S w.l=strEq x y:=by rw[hxy];rfl
       rw[e2]
       refine ah (v:=.agg [.fn (.func 155) [] [],.val (.string (resS p.op))]) (h':=h1) ?_ ?_
       ·exact U99
       cases hq:strEq x y with
       |true=>simp-implicitDefEqProofs only[V,↓reduceIte,rA,rB,rC,reduceCtorEq,rD,rE,rF,WB,WF,k2,eb,List.append_nil,List.nil_append,aA (qJ w hxy),hq,hd,cf_21]
       |false=>simp-implicitDefEqProofs only[V,↓reduceIte,rA,rB,rC,reduceCtorEq,rD,rE,rF,WB,WF,k2,eb,List.append_nil,List.nil_append,aA (qJ w hxy),hq,hd,cf_21]
end Go.Proofs.YtkhblipgiijoiaaGreatDoor
