/- A part of the proof about filled horn systems: ZNodes ZDepth ZNum. -/
import Derived.Test.YtkhblipgiijoiaaGreatDoorU0
import Derived.Test.YtkhblipgiijoiaaGreatDoorW2
import Derived.IntWalk

set_option linter.all false
open Nat renaming reduceEqDiff → rA, reduceAdd → rB, reduceMul → rC
open Int renaming reduceEq → rD, reduceLT → rE, reduceLE → rF
namespace Go.Proofs.YtkhblipgiijoiaaGreatDoor
open Go Go.AM
mutual
def Pr.nodes:Pr→Nat
 |.mk _ _ _ ks _ _=>1+Pr.nodesL ks
def Pr.nodesL:List Pr→Nat
 | []=>0
 |k::r=>k.nodes+Pr.nodesL r
end
theorem am:∀l:List Pr,l.length≤Pr.nodesL l
 | []=>Nat.le_refl _
 |.mk _ _ _ ks _ _::r=>by
  have:=am r
  simp only[Pr.nodesL,Pr.nodes,List.length_cons]
  omega
theorem Pr.nodes_eq(p:Pr):p.nodes=1+Pr.nodesL p.ks:=by cases p;rfl
theorem aE{n:Nat}(h:n<2^62):IntKind.i64.wrap (n:Int)=(n:Int):=by
 exact IntWalk.i64_in _ om
theorem ans1{g:Nat}{l:List AV}{r:AV}{a:AFun}(hf:funOf Tryz.prog g=some a)
  (h:wp E1 a.body {tm:=enterTm l 0 .nil,h:=.empty,defers:=[],round:=none} fun e s=>(e=.normal∨e=.ret)∧s.defers=[]∧resultsA E1.globs s a.res=some [r]):Ans E1 g l r:=
 ans_of (by rw[E1_P];exact hf) h
theorem ad{g:Nat}{l:List AV}{r:AV}{a:AFun}(hf:funOf Tryz.prog g=some a)
  (h:∀s:St,(∀i v,(enterTm l 0 .nil).get i=some v→s.eval (.t i)=some v)→s.h=.empty→s.defers=[]→wp E1 a.body s fun e s=>(e=.normal∨e=.ret)∧s.defers=[]∧resultsA E1.globs s a.res=some [r]):Ans E1 g l r:=
 ans1 hf (h _ (fun _ _ h=>h) rfl rfl)
theorem ans2{g:Nat}{l rs:List AV}{a:AFun}(hf:funOf Tryz.prog g=some a)
  (h:wp E1 a.body {tm:=enterTm l 0 .nil,h:=.empty,defers:=[],round:=none} fun e s=>(e=.normal∨e=.ret)∧s.defers=[]∧resultsA E1.globs s a.res=some rs):Ans E1 g l (oneOrTup rs):=
 ans_of2 (by rw[E1_P];exact hf) h
theorem iH{g:Nat}{l rs:List AV}{a:AFun}(hf:funOf Tryz.prog g=some a)
  (h:∀s:St,(∀i v,(enterTm l 0 .nil).get i=some v→s.eval (.t i)=some v)→s.h=.empty→s.defers=[]→wp E1 a.body s fun e s=>(e=.normal∨e=.ret)∧s.defers=[]∧resultsA E1.globs s a.res=some rs):Ans E1 g l (oneOrTup rs):=
 ans2 hf (h _ (fun _ _ h=>h) rfl rfl)
theorem yA{E:Env}(p:Pr):∀(r:List Pr) (i acc:Nat) (s:St),p.ks.drop i=r→i≤p.ks.length→i+r.length+2<2^62→acc+Pr.nodesL r<2^62→
  (∀k∈r,∀h,RunCall E (.f 21) [k.av] h (.val (.int .i64 k.nodes)) h)→
  s.eval (.t 7)=some p.kids→s.eval (.t 8)=some (.val (.int .i64 (p.ks.length:Nat)))→s.eval (.t 9)=some (.val (.int .i64 i))→s.eval (.t 3)=some (.val (.int .i64 acc))→s.defers=[]→
  Run E vQ s fun e s'=>e=.exit 0∧s'.eval (.t 3)=some (.val (.int .i64 (acc+Pr.nodesL r:Nat)))∧s'.defers=[]
 | [],i,acc,s,hd,hi,hb,hc,ih,h7,h8,h9,h3,hf=>by
  have hl:i=p.ks.length:=by
   have:=List.drop_eq_nil_iff.1 hd
   omega
  subst hl
  have hlt:decide (((p.ks.length:Nat):Int)<(p.ks.length:Nat))=false:=by simp
  apply aC (rfl:vQ=.loop qE)
  simp-implicitDefEqProofs only[qE,V,↓reduceIte,rA,rB,rC,reduceCtorEq,rD,rE,rF,h7,h8,h9,h3,hf,hlt,Pr.nodesL]
 |k::r,i,acc,s,hd,hi,hb,hc,ih,h7,h8,h9,h3,hf=>by
  have hl:i<p.ks.length:=by
   rcases Nat.lt_or_ge i p.ks.length with x|x
   ·exact x
   ·exact U27
  have hlt:decide ((i:Int)<(p.ks.length:Nat))=true:=by simp;omega
  have hd':p.ks.drop (i+1)=r:=by rw[←List.drop_drop,hd];rfl
  have hn:k.nodes+Pr.nodesL r=Pr.nodesL (k::r):=rfl
  have hs:∀h:AH,storeH (h.alloc (.cells [.val (.int .i64 0),.val (.string ⟨#[]⟩),.val (.int .i64 0),.val (.slice none 0 0)] true)) 4 (.ptr h.next 0) k.cells=_:=fun h=>br rfl k.len
  have w1:IntKind.i64.wrap ((i:Int)+1)=((i+1:Nat):Int):=aE (n:=i+1) (by simp only[List.length_cons] at hb;omega)
  have w2:IntKind.i64.wrap ((acc:Int)+(k.nodes:Nat))=((acc+k.nodes:Nat):Int):=by
   rw[←Int.natCast_add]
   exact aE om
  apply aC (rfl:vQ=.loop qE)
  simp-implicitDefEqProofs only[qE,V,↓reduceIte,rA,rB,rC,reduceCtorEq,rD,rE,rF,h7,h8,h9,h3,hlt,ew hd,hs,aA (ih k List.mem_cons_self),w1,w2]
  have hq:acc+Pr.nodesL (k::r)=(acc+k.nodes)+Pr.nodesL r:=by omega
  rw[hq]
  refine yA p r (i+1) (acc+k.nodes) _ hd' om (by simp only[List.length_cons] at hb;omega) om (fun k' hk=>ih k' (List.mem_cons_of_mem _ hk)) ?_ ?_ ?_ ?_ ?_
  all_goals simp-implicitDefEqProofs only[V,↓reduceIte,rA,rB,rC,reduceCtorEq,rD,rE,rF,h7,h8,hf]
mutual
theorem iv:∀(p:Pr),p.nodes<2^61→∀h,RunCall E1 (.f 21) [p.av] h (.val (.int .i64 p.nodes)) h
 |.mk o nm n ks nl cap,hb,h=>by
  have hb':1+Pr.nodesL ks<2^61:=hb
  have hk:ks.length≤Pr.nodesL ks:=am ks
  refine aB kr kr (mem1 (Tree.pr _)) rfl (Tree.val _) (ans1 f21_ok ?_) h
  have h0:(enterTm [(Pr.mk o nm n ks nl cap).av] 0 .nil).get 0=some (Pr.mk o nm n ks nl cap).av:=rfl
  simp-implicitDefEqProofs only[f21_fn,f21,V,↓reduceIte,rA,rB,rC,reduceCtorEq,rD,rE,rF,gh h0]
  refine(yA (.mk o nm n ks nl cap) ks 0 1 _ rfl (Nat.zero_le _) om om (fun k hk=>hZ ks om k hk) ?_ ?_ ?_ ?_ ?_).mono ?_
  ·exact U28
  ·exact U29
  ·exact U29
  ·exact U29
  ·exact U28
  ·exact U30
theorem hZ:∀(l:List Pr),Pr.nodesL l<2^61→∀k∈l,∀h,RunCall E1 (.f 21) [k.av] h (.val (.int .i64 k.nodes)) h
 | [],_,k,hk,_=>by cases hk
 |a::r,hb,k,hk,h=>by
  have hb':a.nodes+Pr.nodesL r<2^61:=hb
  rcases List.mem_cons.1 hk with e|hk
  ·rw[e];exact iv a om h
  ·exact hZ r om k hk h
end
theorem tN{E:Env}(p:Pr):∀(r:List Pr) (i acc:Nat) (s:St),p.ks.drop i=r→i≤p.ks.length→i+r.length+2<2^62→acc+Pr.nodesL r<2^62→
  (∀k∈r,∀h,RunCall E (.f 111) [k.av] h (.val (.int .i64 k.nodes)) h)→
  s.eval (.t 7)=some p.kids→s.eval (.t 8)=some (.val (.int .i64 (p.ks.length:Nat)))→s.eval (.t 9)=some (.val (.int .i64 i))→s.eval (.t 3)=some (.val (.int .i64 acc))→s.defers=[]→
  Run E nM s fun e s'=>e=.exit 0∧s'.eval (.t 3)=some (.val (.int .i64 (acc+Pr.nodesL r:Nat)))∧s'.defers=[]
 | [],i,acc,s,hd,hi,hb,hc,ih,h7,h8,h9,h3,hf=>by
  have hl:i=p.ks.length:=by
   have:=List.drop_eq_nil_iff.1 hd
   omega
  subst hl
  have hlt:decide (((p.ks.length:Nat):Int)<(p.ks.length:Nat))=false:=by simp
  apply aC (rfl:nM=.loop jW)
  simp-implicitDefEqProofs only[jW,V,↓reduceIte,rA,rB,rC,reduceCtorEq,rD,rE,rF,h7,h8,h9,h3,hf,hlt,Pr.nodesL]
 |k::r,i,acc,s,hd,hi,hb,hc,ih,h7,h8,h9,h3,hf=>by
  have hl:i<p.ks.length:=by
   rcases Nat.lt_or_ge i p.ks.length with x|x
   ·exact x
   ·exact U27
  have hlt:decide ((i:Int)<(p.ks.length:Nat))=true:=by simp;omega
  have hd':p.ks.drop (i+1)=r:=by rw[←List.drop_drop,hd];rfl
  have hn:k.nodes+Pr.nodesL r=Pr.nodesL (k::r):=rfl
  have hs:∀h:AH,storeH (h.alloc (.cells [.val (.int .i64 0),.val (.string ⟨#[]⟩),.val (.int .i64 0),.val (.slice none 0 0)] true)) 4 (.ptr h.next 0) k.cells=_:=fun h=>br rfl k.len
  have w1:IntKind.i64.wrap ((i:Int)+1)=((i+1:Nat):Int):=aE (n:=i+1) (by simp only[List.length_cons] at hb;omega)
  have w2:IntKind.i64.wrap ((acc:Int)+(k.nodes:Nat))=((acc+k.nodes:Nat):Int):=by
   rw[←Int.natCast_add]
   exact aE om
  apply aC (rfl:nM=.loop jW)
  simp-implicitDefEqProofs only[jW,V,↓reduceIte,rA,rB,rC,reduceCtorEq,rD,rE,rF,h7,h8,h9,h3,hlt,ew hd,hs,aA (ih k List.mem_cons_self),w1,w2]
  have hq:acc+Pr.nodesL (k::r)=(acc+k.nodes)+Pr.nodesL r:=by omega
  rw[hq]
  refine tN p r (i+1) (acc+k.nodes) _ hd' om (by simp only[List.length_cons] at hb;omega) om (fun k' hk=>ih k' (List.mem_cons_of_mem _ hk)) ?_ ?_ ?_ ?_ ?_
  all_goals simp-implicitDefEqProofs only[V,↓reduceIte,rA,rB,rC,reduceCtorEq,rD,rE,rF,h7,h8,hf]
mutual
theorem ce:∀(p:Pr),p.nodes<2^61→∀h,RunCall E1 (.f 111) [p.av] h (.val (.int .i64 p.nodes)) h
 |.mk o nm n ks nl cap,hb,h=>by
  have hb':1+Pr.nodesL ks<2^61:=hb
  have hk:ks.length≤Pr.nodesL ks:=am ks
  refine aB kr kr (mem1 (Tree.pr _)) rfl (Tree.val _) (ans1 f111_ok ?_) h
  have h0:(enterTm [(Pr.mk o nm n ks nl cap).av] 0 .nil).get 0=some (Pr.mk o nm n ks nl cap).av:=rfl
  simp-implicitDefEqProofs only[f111_fn,f111,V,↓reduceIte,rA,rB,rC,reduceCtorEq,rD,rE,rF,gh h0]
  refine(tN (.mk o nm n ks nl cap) ks 0 1 _ rfl (Nat.zero_le _) om om (fun k hk=>fQ ks om k hk) ?_ ?_ ?_ ?_ ?_).mono ?_
  ·exact U28
  ·exact U29
  ·exact U29
  ·exact U29
  ·exact U28
  ·exact U30
theorem fQ:∀(l:List Pr),Pr.nodesL l<2^61→∀k∈l,∀h,RunCall E1 (.f 111) [k.av] h (.val (.int .i64 k.nodes)) h
 | [],_,k,hk,_=>by cases hk
 |a::r,hb,k,hk,h=>by
  have hb':a.nodes+Pr.nodesL r<2^61:=hb
  rcases List.mem_cons.1 hk with e|hk
  ·rw[e];exact ce a om h
  ·exact fQ r om k hk h
end
mutual
def Pr.depth:Pr→Nat
 |.mk _ _ _ ks _ _=>Pr.depthL ks+1
def Pr.depthL:List Pr→Nat
 | []=>0
 |k::r=>max k.depth (Pr.depthL r)
end
mutual
theorem lU:∀p:Pr,p.depth≤p.nodes
 |.mk _ _ _ ks _ _=>by
  have:=dR ks
  simp only[Pr.depth,Pr.nodes]
  omega
theorem dR:∀l:List Pr,Pr.depthL l≤Pr.nodesL l
 | []=>Nat.le_refl _
 |k::r=>by
  have:=lU k
  have:=dR r
  simp only[Pr.depthL,Pr.nodesL]
  omega
end
theorem tM{E:Env}(p:Pr):∀(r:List Pr) (i acc:Nat) (s:St),p.ks.drop i=r→i≤p.ks.length→i+r.length+2<2^62→
  (∀k∈r,∀h,RunCall E (.f 112) [k.av] h (.val (.int .i64 k.depth)) h)→
  s.eval (.t 7)=some p.kids→s.eval (.t 8)=some (.val (.int .i64 (p.ks.length:Nat)))→s.eval (.t 9)=some (.val (.int .i64 i))→s.eval (.t 3)=some (.val (.int .i64 acc))→s.defers=[]→
  Run E nL s fun e s'=>e=.exit 0∧s'.eval (.t 3)=some (.val (.int .i64 (max acc (Pr.depthL r):Nat)))∧s'.defers=[]
 | [],i,acc,s,hd,hi,hb,ih,h7,h8,h9,h3,hf=>by
  have hl:i=p.ks.length:=by
   have:=List.drop_eq_nil_iff.1 hd
   omega
  subst hl
  have hlt:decide (((p.ks.length:Nat):Int)<(p.ks.length:Nat))=false:=by simp
  apply aC (rfl:nL=.loop jV)
  simp-implicitDefEqProofs only[jV,V,↓reduceIte,rA,rB,rC,reduceCtorEq,rD,rE,rF,h7,h8,h9,h3,hf,hlt,Pr.depthL,Nat.max_zero]
 |k::r,i,acc,s,hd,hi,hb,ih,h7,h8,h9,h3,hf=>by
  have hl:i<p.ks.length:=by
   rcases Nat.lt_or_ge i p.ks.length with x|x
   ·exact x
   ·exact U27
  have hlt:decide ((i:Int)<(p.ks.length:Nat))=true:=by simp;omega
  have hd':p.ks.drop (i+1)=r:=by rw[←List.drop_drop,hd];rfl
  have hs:∀h:AH,storeH (h.alloc (.cells [.val (.int .i64 0),.val (.string ⟨#[]⟩),.val (.int .i64 0),.val (.slice none 0 0)] true)) 4 (.ptr h.next 0) k.cells=_:=fun h=>br rfl k.len
  have w1:IntKind.i64.wrap ((i:Int)+1)=((i+1:Nat):Int):=aE (n:=i+1) (by simp only[List.length_cons] at hb;omega)
  apply aC (rfl:nL=.loop jV)
  simp-implicitDefEqProofs only[jV,V,↓reduceIte,rA,rB,rC,reduceCtorEq,rD,rE,rF,h7,h8,h9,h3,hlt,ew hd,hs,aA (ih k List.mem_cons_self),w1]
  have hq:max acc (Pr.depthL (k::r))=max (max acc k.depth) (Pr.depthL r):=by
   have:Pr.depthL (k::r)=max k.depth (Pr.depthL r):=rfl
   omega
  rw[hq]
  refine tM p r (i+1) (max acc k.depth) _ hd' om (by simp only[List.length_cons] at hb;omega) (fun k' hk=>ih k' (List.mem_cons_of_mem _ hk)) ?_ ?_ ?_ ?_ ?_
  all_goals simp-implicitDefEqProofs only[V,↓reduceIte,rA,rB,rC,reduceCtorEq,rD,rE,rF,h7,h8,hf]
mutual
theorem eL:∀(p:Pr),p.nodes<2^61→∀h,RunCall E1 (.f 112) [p.av] h (.val (.int .i64 p.depth)) h
 |.mk o nm n ks nl cap,hb,h=>by
  have hb':1+Pr.nodesL ks<2^61:=hb
  have hk:ks.length≤Pr.nodesL ks:=am ks
  have hd:Pr.depthL ks≤Pr.nodesL ks:=dR ks
  have w1:IntKind.i64.wrap (((max 0 (Pr.depthL ks):Nat):Int)+1)=(((Pr.mk o nm n ks nl cap).depth:Nat):Int):=by
   rw[Nat.zero_max]
   exact aE (n:=Pr.depthL ks+1) om
  refine aB kr kr (mem1 (Tree.pr _)) rfl (Tree.val _) (ans1 f112_ok ?_) h
  have h0:(enterTm [(Pr.mk o nm n ks nl cap).av] 0 .nil).get 0=some (Pr.mk o nm n ks nl cap).av:=rfl
  simp-implicitDefEqProofs only[f112_fn,f112,V,↓reduceIte,rA,rB,rC,reduceCtorEq,rD,rE,rF,gh h0]
  refine(tM (.mk o nm n ks nl cap) ks 0 0 _ rfl (Nat.zero_le _) om (fun k hk=>fe ks om k hk) ?_ ?_ ?_ ?_ ?_).mono ?_
  ·exact U28
  ·exact U29
  ·exact U29
  ·exact U29
  ·exact U28
  ·exact U31
theorem fe:∀(l:List Pr),Pr.nodesL l<2^61→∀k∈l,∀h,RunCall E1 (.f 112) [k.av] h (.val (.int .i64 k.depth)) h
 | [],_,k,hk,_=>by cases hk
 |a::r,hb,k,hk,h=>by
  have hb':a.nodes+Pr.nodesL r<2^61:=hb
  rcases List.mem_cons.1 hk with e|hk
  ·rw[e];exact eL a om h
  ·exact fe r om k hk h
end
theorem xz{E:Env}(p:Pr):∀(r:List Pr) (i acc:Nat) (s:St),p.ks.drop i=r→i≤p.ks.length→i+r.length+2<2^62→
  (∀k∈r,∀h,RunCall E (.f 22) [k.av] h (.val (.int .i64 k.depth)) h)→
  s.eval (.t 7)=some p.kids→s.eval (.t 8)=some (.val (.int .i64 (p.ks.length:Nat)))→s.eval (.t 9)=some (.val (.int .i64 i))→s.eval (.t 3)=some (.val (.int .i64 acc))→s.defers=[]→
  Run E vP s fun e s'=>e=.exit 0∧s'.eval (.t 3)=some (.val (.int .i64 (max acc (Pr.depthL r):Nat)))∧s'.defers=[]
 | [],i,acc,s,hd,hi,hb,ih,h7,h8,h9,h3,hf=>by
  have hl:i=p.ks.length:=by
   have:=List.drop_eq_nil_iff.1 hd
   omega
  subst hl
  have hlt:decide (((p.ks.length:Nat):Int)<(p.ks.length:Nat))=false:=by simp
  apply aC (rfl:vP=.loop qD)
  simp-implicitDefEqProofs only[qD,V,↓reduceIte,rA,rB,rC,reduceCtorEq,rD,rE,rF,h7,h8,h9,h3,hf,hlt,Pr.depthL,Nat.max_zero]
 |k::r,i,acc,s,hd,hi,hb,ih,h7,h8,h9,h3,hf=>by
  have hl:i<p.ks.length:=by
   rcases Nat.lt_or_ge i p.ks.length with x|x
   ·exact x
   ·exact U27
  have hlt:decide ((i:Int)<(p.ks.length:Nat))=true:=by simp;omega
  have hd':p.ks.drop (i+1)=r:=by rw[←List.drop_drop,hd];rfl
  have hs:∀h:AH,storeH (h.alloc (.cells [.val (.int .i64 0),.val (.string ⟨#[]⟩),.val (.int .i64 0),.val (.slice none 0 0)] true)) 4 (.ptr h.next 0) k.cells=_:=fun h=>br rfl k.len
  have w1:IntKind.i64.wrap ((i:Int)+1)=((i+1:Nat):Int):=aE (n:=i+1) (by simp only[List.length_cons] at hb;omega)
  apply aC (rfl:vP=.loop qD)
  simp-implicitDefEqProofs only[qD,V,↓reduceIte,rA,rB,rC,reduceCtorEq,rD,rE,rF,h7,h8,h9,h3,hlt,ew hd,hs,aA (ih k List.mem_cons_self),w1]
  have hq:max acc (Pr.depthL (k::r))=max (max acc k.depth) (Pr.depthL r):=by
   have:Pr.depthL (k::r)=max k.depth (Pr.depthL r):=rfl
   omega
  rw[hq]
  refine xz p r (i+1) (max acc k.depth) _ hd' om (by simp only[List.length_cons] at hb;omega) (fun k' hk=>ih k' (List.mem_cons_of_mem _ hk)) ?_ ?_ ?_ ?_ ?_
  all_goals simp-implicitDefEqProofs only[V,↓reduceIte,rA,rB,rC,reduceCtorEq,rD,rE,rF,h7,h8,hf]
mutual
theorem jc:∀(p:Pr),p.nodes<2^61→∀h,RunCall E1 (.f 22) [p.av] h (.val (.int .i64 p.depth)) h
 |.mk o nm n ks nl cap,hb,h=>by
  have hb':1+Pr.nodesL ks<2^61:=hb
  have hk:ks.length≤Pr.nodesL ks:=am ks
  have hd:Pr.depthL ks≤Pr.nodesL ks:=dR ks
  have w1:IntKind.i64.wrap (((max 0 (Pr.depthL ks):Nat):Int)+1)=(((Pr.mk o nm n ks nl cap).depth:Nat):Int):=by
   rw[Nat.zero_max]
   exact aE (n:=Pr.depthL ks+1) om
  refine aB kr kr (mem1 (Tree.pr _)) rfl (Tree.val _) (ans1 f22_ok ?_) h
  have h0:(enterTm [(Pr.mk o nm n ks nl cap).av] 0 .nil).get 0=some (Pr.mk o nm n ks nl cap).av:=rfl
  simp-implicitDefEqProofs only[f22_fn,f22,V,↓reduceIte,rA,rB,rC,reduceCtorEq,rD,rE,rF,gh h0]
  refine(xz (.mk o nm n ks nl cap) ks 0 0 _ rfl (Nat.zero_le _) om (fun k hk=>iE ks om k hk) ?_ ?_ ?_ ?_ ?_).mono ?_
  ·exact U28
  ·exact U29
  ·exact U29
  ·exact U29
  ·exact U28
  ·exact U31
theorem iE:∀(l:List Pr),Pr.nodesL l<2^61→∀k∈l,∀h,RunCall E1 (.f 22) [k.av] h (.val (.int .i64 k.depth)) h
 | [],_,k,hk,_=>by cases hk
 |a::r,hb,k,hk,h=>by
  have hb':a.nodes+Pr.nodesL r<2^61:=hb
  rcases List.mem_cons.1 hk with e|hk
  ·rw[e];exact jc a om h
  ·exact iE r om k hk h
end
def inB(n:Int):Bool:=decide (-1000000000000≤n)&&decide (n≤1000000000000)
def tr(b:Bool):Int:=bif b then 1 else 0
theorem zU(n:Int)(h:AH):RunCall E1 (.f 150) [.val (.int .i64 n)] h (.val (.bool (inB n))) h:=by
 refine aB kr kr (mem1 (Tree.val _)) rfl (Tree.val _) (ans1 f150_ok ?_) h
 have h0:(enterTm [.val (.int .i64 n)] 0 .nil).get 0=some (.val (.int .i64 n)):=rfl
 unfold inB
 by_cases a: -1000000000000≤n<;>by_cases b:n≤1000000000000<;>simp-implicitDefEqProofs only[f150_fn,f150,V,↓reduceIte,rA,rB,rC,reduceCtorEq,rD,rE,rF,gh h0,a,b]
theorem aI{n:Int}{r:List AOper}{s:St}{dst:Option Nat}{K:St→Prop}:aJ E1 150 r s dst K (some [.val (.int .i64 n)])=AM.wpOps E1 r (s.put dst (.val (.bool (inB n)))) K:=aA (zU n)
theorem zV(n:Int)(h:AH):RunCall E1 (.f 121) [.val (.int .i64 n)] h (.val (.bool (inB n))) h:=by
 refine aB kr kr (mem1 (Tree.val _)) rfl (Tree.val _) (ans1 f121_ok ?_) h
 have h0:(enterTm [.val (.int .i64 n)] 0 .nil).get 0=some (.val (.int .i64 n)):=rfl
 unfold inB
 by_cases a: -1000000000000≤n<;>by_cases b:n≤1000000000000<;>simp-implicitDefEqProofs only[f121_fn,f121,V,↓reduceIte,rA,rB,rC,reduceCtorEq,rD,rE,rF,gh h0,a,b]
theorem ap{n:Int}{r:List AOper}{s:St}{dst:Option Nat}{K:St→Prop}:aJ E1 121 r s dst K (some [.val (.int .i64 n)])=AM.wpOps E1 r (s.put dst (.val (.bool (inB n)))) K:=aA (zV n)
end Go.Proofs.YtkhblipgiijoiaaGreatDoor
