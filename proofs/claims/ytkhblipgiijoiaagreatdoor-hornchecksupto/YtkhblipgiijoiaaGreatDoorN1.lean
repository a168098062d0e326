/- ZNodes ZDepth ZNum ZKids ZNode ZForm -/
import Derived.Test.YtkhblipgiijoiaaGreatDoorU0
import Derived.Test.YtkhblipgiijoiaaGreatDoorW2
import Derived.IntWalk

set_option linter.all false
open Nat renaming reduceEqDiff → rA, reduceAdd → rB, reduceMul → rC
open Int renaming reduceEq → rD, reduceLT → rE, reduceLE → rF
open List renaming drop_drop → Am, drop_eq_nil_iff → jz, drop_zero → j9, length_cons → il, mem_cons → ie, mem_cons_of_mem → j4, mem_cons_self → ik
open Nat renaming lt_or_ge → jt, zero_le → ic
open Go.Proofs.Tryz renaming prog → i7
namespace Go.Proofs.YtkhblipgiijoiaaGreatDoor
open Go Go.AM
variable [KR]
mutual
def Pr.nodes:Pr→Nat
 |.mk _ _ _ ks _ _=>1+Pr.nodesL ks
def Pr.nodesL:List Pr→Nat
 | []=>0
 |k::r=>k.nodes+Pr.nodesL r
end
theorem an:∀l:List Pr,l.length≤Pr.nodesL l
 | []=>Nat.le_refl _
 |.mk _ _ _ ks _ _::r=>by
  have:=an r;simp only[Pr.nodesL,Pr.nodes,il];omega
theorem Pr.nodes_eq(p:Pr):p.nodes=1+Pr.nodesL p.ks:=by cases p;rfl
theorem aD{n:Nat}(h:n<2^62):IntKind.i64.wrap (n:Int)=(n:Int):=by
 exact IntWalk.i64_in _ om
theorem Lk{g:Nat}{l:List AV}{r:AV}{a:AFun}(hf:funOf i7 g=some a)
  (h:wp E1 a.body {tm:=enterTm l 0 .nil,h:=.empty,defers:=[],round:=none} fun e s=>(e=.normal∨e=.ret)∧s.defers=[]∧resultsA E1.globs s a.res=some [r]):Ans E1 g l r:=
 aKT (by rw[Sw];exact hf) h
theorem ah{g:Nat}{l:List AV}{r:AV}{a:AFun}(hf:funOf i7 g=some a)
  (h:∀s:St,(∀i v,(enterTm l 0 .nil).get i=some v→s.eval (.t i)=some v)→s.h=.empty→s.defers=[]→wp E1 a.body s fun e s=>(e=.normal∨e=.ret)∧s.defers=[]∧resultsA E1.globs s a.res=some [r]):Ans E1 g l r:=
 Lk hf (h _ (fun _ _ h=>h) rfl rfl)
theorem aOF{g:Nat}{l rs:List AV}{a:AFun}(hf:funOf i7 g=some a)
  (h:wp E1 a.body {tm:=enterTm l 0 .nil,h:=.empty,defers:=[],round:=none} fun e s=>(e=.normal∨e=.ret)∧s.defers=[]∧resultsA E1.globs s a.res=some rs):Ans E1 g l (oneOrTup rs):=
 aEK (by rw[Sw];exact hf) h
theorem cg{g:Nat}{l rs:List AV}{a:AFun}(hf:funOf i7 g=some a)
  (h:∀s:St,(∀i v,(enterTm l 0 .nil).get i=some v→s.eval (.t i)=some v)→s.h=.empty→s.defers=[]→wp E1 a.body s fun e s=>(e=.normal∨e=.ret)∧s.defers=[]∧resultsA E1.globs s a.res=some rs):Ans E1 g l (oneOrTup rs):=
 aOF hf (h _ (fun _ _ h=>h) rfl rfl)
theorem Ft{E:Env}(p:Pr):∀(r:List Pr) (i acc:Nat) (s:St),p.ks.drop i=r→i≤p.ks.length→i+r.length+2<2^62→acc+Pr.nodesL r<2^62→
  (∀k∈r,∀h,RunCall E (.f 21) [k.av] h (vI k.nodes) h)→
  s.eval (.t 7)=some p.kids→s.eval (.t 8)=some (vI (p.ks.length:Nat))→s.eval (.t 9)=some (vI i)→s.eval (.t 3)=some (vI acc)→s.defers=[]→
  Run E zH s fun e s'=>e=.exit 0∧s'.eval (.t 3)=some (vI (acc+Pr.nodesL r:Nat))∧s'.defers=[]
 | [],i,acc,s,hd,hi,hb,hc,ih,h7,h8,h9,h3,hf=>by
  have hl:i=p.ks.length:=by
   have:=jz.1 hd;omega
  subst hl;have hlt:decide (((p.ks.length:Nat):Int)<(p.ks.length:Nat))=false:=by simp
  apply aB (rfl:zH=.loop tU);simp-implicitDefEqProofs only[tU,V,↓reduceIte,rA,h8,h9,h3,hf,hlt,Pr.nodesL]
 |k::r,i,acc,s,hd,hi,hb,hc,ih,h7,h8,h9,h3,hf=>by
  have hl:i<p.ks.length:=by
   rcases jt i p.ks.length with x|x
   ·exact x
   ·exact U35
  have hlt:decide ((i:Int)<(p.ks.length:Nat))=true:=by simp;omega
  have hd':p.ks.drop (i+1)=r:=by rw[←Am,hd];rfl
  have hn:k.nodes+Pr.nodesL r=Pr.nodesL (k::r):=rfl;have hs:∀h:AH,storeH (h.alloc (.cells [vI 0,vS ⟨#[]⟩,vI 0,.val (.slice none 0 0)] true)) 4 (.ptr h.next 0) k.cells=_:=fun h=>cL rfl k.len;have w1:IntKind.i64.wrap ((i:Int)+1)=((i+1:Nat):Int):=aD (n:=i+1) (by simp only[il] at hb;omega)
  have w2:IntKind.i64.wrap ((acc:Int)+(k.nodes:Nat))=((acc+k.nodes:Nat):Int):=by
   rw[←Int.natCast_add];exact aD om
  apply aB (rfl:zH=.loop tU);simp-implicitDefEqProofs only[tU,V,↓reduceIte,rA,h7,h8,h9,h3,hlt,dt hd,hs,aA (ih k ik),w1,w2];have hq:acc+Pr.nodesL (k::r)=(acc+k.nodes)+Pr.nodesL r:=by omega
  rw[hq];refine Ft p r (i+1) (acc+k.nodes) _ hd' om (by simp only[il] at hb;omega) om (fun k' hk=>ih k' (j4 _ hk)) ?_ ?_ ?_ ?_ ?_
  all_goals simp-implicitDefEqProofs only[V,↓reduceIte,rA,h7,h8,hf]
mutual
theorem da:∀(p:Pr),p.nodes<2^61→∀h,RunCall E1 (.f 21) [p.av] h (vI p.nodes) h
 |.mk o nm n ks nl cap,hb,h=>by
  have hb':1+Pr.nodesL ks<2^61:=hb;have hk:ks.length≤Pr.nodesL ks:=an ks;refine aC kr kr (aN (Tree.pr _)) rfl (Tree.val _) (Lk aJW ?_) h;have h0:(enterTm [(Pr.mk o nm n ks nl cap).av] 0 .nil).get 0=some (Pr.mk o nm n ks nl cap).av:=rfl;simp-implicitDefEqProofs only[Xj,f21,V,↓reduceIte,rA,hZ h0];refine(Ft (.mk o nm n ks nl cap) ks 0 1 _ rfl (ic _) om om (fun k hk=>iJ ks om k hk) ?_ ?_ ?_ ?_ ?_).mono ?_
  ·exact U36
  ·exact U37
  ·exact U37
  ·exact U37
  ·exact U36
  ·exact U38
theorem iJ:∀(l:List Pr),Pr.nodesL l<2^61→∀k∈l,∀h,RunCall E1 (.f 21) [k.av] h (vI k.nodes) h
 | [],_,k,hk,_=>by cases hk
 |a::r,hb,k,hk,h=>by
  have hb':a.nodes+Pr.nodesL r<2^61:=hb;rcases ie.1 hk with e|hk
  ·rw[e];exact da a om h
  ·exact iJ r om k hk h
end
theorem ww{E:Env}(p:Pr):∀(r:List Pr) (i acc:Nat) (s:St),p.ks.drop i=r→i≤p.ks.length→i+r.length+2<2^62→acc+Pr.nodesL r<2^62→
  (∀k∈r,∀h,RunCall E (.f 111) [k.av] h (vI k.nodes) h)→
  s.eval (.t 7)=some p.kids→s.eval (.t 8)=some (vI (p.ks.length:Nat))→s.eval (.t 9)=some (vI i)→s.eval (.t 3)=some (vI acc)→s.defers=[]→
  Run E pw s fun e s'=>e=.exit 0∧s'.eval (.t 3)=some (vI (acc+Pr.nodesL r:Nat))∧s'.defers=[]
 | [],i,acc,s,hd,hi,hb,hc,ih,h7,h8,h9,h3,hf=>by
  have hl:i=p.ks.length:=by
   have:=jz.1 hd;omega
  subst hl;have hlt:decide (((p.ks.length:Nat):Int)<(p.ks.length:Nat))=false:=by simp
  apply aB (rfl:pw=.loop lJ);simp-implicitDefEqProofs only[lJ,V,↓reduceIte,rA,h8,h9,h3,hf,hlt,Pr.nodesL]
 |k::r,i,acc,s,hd,hi,hb,hc,ih,h7,h8,h9,h3,hf=>by
  have hl:i<p.ks.length:=by
   rcases jt i p.ks.length with x|x
   ·exact x
   ·exact U35
  have hlt:decide ((i:Int)<(p.ks.length:Nat))=true:=by simp;omega
  have hd':p.ks.drop (i+1)=r:=by rw[←Am,hd];rfl
  have hn:k.nodes+Pr.nodesL r=Pr.nodesL (k::r):=rfl;have hs:∀h:AH,storeH (h.alloc (.cells [vI 0,vS ⟨#[]⟩,vI 0,.val (.slice none 0 0)] true)) 4 (.ptr h.next 0) k.cells=_:=fun h=>cL rfl k.len;have w1:IntKind.i64.wrap ((i:Int)+1)=((i+1:Nat):Int):=aD (n:=i+1) (by simp only[il] at hb;omega)
  have w2:IntKind.i64.wrap ((acc:Int)+(k.nodes:Nat))=((acc+k.nodes:Nat):Int):=by
   rw[←Int.natCast_add];exact aD om
  apply aB (rfl:pw=.loop lJ);simp-implicitDefEqProofs only[lJ,V,↓reduceIte,rA,h7,h8,h9,h3,hlt,dt hd,hs,aA (ih k ik),w1,w2];have hq:acc+Pr.nodesL (k::r)=(acc+k.nodes)+Pr.nodesL r:=by omega
  rw[hq];refine ww p r (i+1) (acc+k.nodes) _ hd' om (by simp only[il] at hb;omega) om (fun k' hk=>ih k' (j4 _ hk)) ?_ ?_ ?_ ?_ ?_
  all_goals simp-implicitDefEqProofs only[V,↓reduceIte,rA,h7,h8,hf]
mutual
theorem dD:∀(p:Pr),p.nodes<2^61→∀h,RunCall E1 (.f 111) [p.av] h (vI p.nodes) h
 |.mk o nm n ks nl cap,hb,h=>by
  have hb':1+Pr.nodesL ks<2^61:=hb;have hk:ks.length≤Pr.nodesL ks:=an ks;refine aC kr kr (aN (Tree.pr _)) rfl (Tree.val _) (Lk aDR ?_) h;have h0:(enterTm [(Pr.mk o nm n ks nl cap).av] 0 .nil).get 0=some (Pr.mk o nm n ks nl cap).av:=rfl;simp-implicitDefEqProofs only[Ow,f111,V,↓reduceIte,rA,hZ h0];refine(ww (.mk o nm n ks nl cap) ks 0 1 _ rfl (ic _) om om (fun k hk=>ff ks om k hk) ?_ ?_ ?_ ?_ ?_).mono ?_
  ·exact U36
  ·exact U37
  ·exact U37
  ·exact U37
  ·exact U36
  ·exact U38
theorem ff:∀(l:List Pr),Pr.nodesL l<2^61→∀k∈l,∀h,RunCall E1 (.f 111) [k.av] h (vI k.nodes) h
 | [],_,k,hk,_=>by cases hk
 |a::r,hb,k,hk,h=>by
  have hb':a.nodes+Pr.nodesL r<2^61:=hb;rcases ie.1 hk with e|hk
  ·rw[e];exact dD a om h
  ·exact ff r om k hk h
end
mutual
def Pr.depth:Pr→Nat
 |.mk _ _ _ ks _ _=>Pr.depthL ks+1
def Pr.depthL:List Pr→Nat
 | []=>0
 |k::r=>max k.depth (Pr.depthL r)
end
mutual
theorem nf:∀p:Pr,p.depth≤p.nodes
 |.mk _ _ _ ks _ _=>by
  have:=di ks;simp only[Pr.depth,Pr.nodes];omega
theorem di:∀l:List Pr,Pr.depthL l≤Pr.nodesL l
 | []=>Nat.le_refl _
 |k::r=>by
  have:=nf k;have:=di r;simp only[Pr.depthL,Pr.nodesL];omega
end
theorem wv{E:Env}(p:Pr):∀(r:List Pr) (i acc:Nat) (s:St),p.ks.drop i=r→i≤p.ks.length→i+r.length+2<2^62→
  (∀k∈r,∀h,RunCall E (.f 112) [k.av] h (vI k.depth) h)→
  s.eval (.t 7)=some p.kids→s.eval (.t 8)=some (vI (p.ks.length:Nat))→s.eval (.t 9)=some (vI i)→s.eval (.t 3)=some (vI acc)→s.defers=[]→
  Run E pv s fun e s'=>e=.exit 0∧s'.eval (.t 3)=some (vI (max acc (Pr.depthL r):Nat))∧s'.defers=[]
 | [],i,acc,s,hd,hi,hb,ih,h7,h8,h9,h3,hf=>by
  have hl:i=p.ks.length:=by
   have:=jz.1 hd;omega
  subst hl;have hlt:decide (((p.ks.length:Nat):Int)<(p.ks.length:Nat))=false:=by simp
  apply aB (rfl:pv=.loop lI);simp-implicitDefEqProofs only[lI,V,↓reduceIte,rA,h8,h9,h3,hf,hlt,Pr.depthL,Nat.max_zero]
 |k::r,i,acc,s,hd,hi,hb,ih,h7,h8,h9,h3,hf=>by
  have hl:i<p.ks.length:=by
   rcases jt i p.ks.length with x|x
   ·exact x
   ·exact U35
  have hlt:decide ((i:Int)<(p.ks.length:Nat))=true:=by simp;omega
  have hd':p.ks.drop (i+1)=r:=by rw[←Am,hd];rfl
  have hs:∀h:AH,storeH (h.alloc (.cells [vI 0,vS ⟨#[]⟩,vI 0,.val (.slice none 0 0)] true)) 4 (.ptr h.next 0) k.cells=_:=fun h=>cL rfl k.len;have w1:IntKind.i64.wrap ((i:Int)+1)=((i+1:Nat):Int):=aD (n:=i+1) (by simp only[il] at hb;omega)
  apply aB (rfl:pv=.loop lI);simp-implicitDefEqProofs only[lI,V,↓reduceIte,rA,h7,h8,h9,h3,hlt,dt hd,hs,aA (ih k ik),w1];have hq:max acc (Pr.depthL (k::r))=max (max acc k.depth) (Pr.depthL r):=by
   have:Pr.depthL (k::r)=max k.depth (Pr.depthL r):=rfl;omega
  rw[hq];refine wv p r (i+1) (max acc k.depth) _ hd' om (by simp only[il] at hb;omega) (fun k' hk=>ih k' (j4 _ hk)) ?_ ?_ ?_ ?_ ?_
  all_goals simp-implicitDefEqProofs only[V,↓reduceIte,rA,h7,h8,hf]
mutual
theorem eV:∀(p:Pr),p.nodes<2^61→∀h,RunCall E1 (.f 112) [p.av] h (vI p.depth) h
 |.mk o nm n ks nl cap,hb,h=>by
  have hb':1+Pr.nodesL ks<2^61:=hb;have hk:ks.length≤Pr.nodesL ks:=an ks;have hd:Pr.depthL ks≤Pr.nodesL ks:=di ks;have w1:IntKind.i64.wrap (((max 0 (Pr.depthL ks):Nat):Int)+1)=(((Pr.mk o nm n ks nl cap).depth:Nat):Int):=by
   rw[Nat.zero_max];exact aD (n:=Pr.depthL ks+1) om
  refine aC kr kr (aN (Tree.pr _)) rfl (Tree.val _) (Lk aDQ ?_) h;have h0:(enterTm [(Pr.mk o nm n ks nl cap).av] 0 .nil).get 0=some (Pr.mk o nm n ks nl cap).av:=rfl;simp-implicitDefEqProofs only[Ov,f112,V,↓reduceIte,rA,hZ h0];refine(wv (.mk o nm n ks nl cap) ks 0 0 _ rfl (ic _) om (fun k hk=>fx ks om k hk) ?_ ?_ ?_ ?_ ?_).mono ?_
  ·exact U36
  ·exact U37
  ·exact U37
  ·exact U37
  ·exact U36
  ·exact U39
theorem fx:∀(l:List Pr),Pr.nodesL l<2^61→∀k∈l,∀h,RunCall E1 (.f 112) [k.av] h (vI k.depth) h
 | [],_,k,hk,_=>by cases hk
 |a::r,hb,k,hk,h=>by
  have hb':a.nodes+Pr.nodesL r<2^61:=hb;rcases ie.1 hk with e|hk
  ·rw[e];exact eV a om h
  ·exact fx r om k hk h
end
theorem Fs{E:Env}(p:Pr):∀(r:List Pr) (i acc:Nat) (s:St),p.ks.drop i=r→i≤p.ks.length→i+r.length+2<2^62→
  (∀k∈r,∀h,RunCall E (.f 22) [k.av] h (vI k.depth) h)→
  s.eval (.t 7)=some p.kids→s.eval (.t 8)=some (vI (p.ks.length:Nat))→s.eval (.t 9)=some (vI i)→s.eval (.t 3)=some (vI acc)→s.defers=[]→
  Run E zG s fun e s'=>e=.exit 0∧s'.eval (.t 3)=some (vI (max acc (Pr.depthL r):Nat))∧s'.defers=[]
 | [],i,acc,s,hd,hi,hb,ih,h7,h8,h9,h3,hf=>by
  have hl:i=p.ks.length:=by
   have:=jz.1 hd;omega
  subst hl;have hlt:decide (((p.ks.length:Nat):Int)<(p.ks.length:Nat))=false:=by simp
  apply aB (rfl:zG=.loop tT);simp-implicitDefEqProofs only[tT,V,↓reduceIte,rA,h8,h9,h3,hf,hlt,Pr.depthL,Nat.max_zero]
 |k::r,i,acc,s,hd,hi,hb,ih,h7,h8,h9,h3,hf=>by
  have hl:i<p.ks.length:=by
   rcases jt i p.ks.length with x|x
   ·exact x
   ·exact U35
  have hlt:decide ((i:Int)<(p.ks.length:Nat))=true:=by simp;omega
  have hd':p.ks.drop (i+1)=r:=by rw[←Am,hd];rfl
  have hs:∀h:AH,storeH (h.alloc (.cells [vI 0,vS ⟨#[]⟩,vI 0,.val (.slice none 0 0)] true)) 4 (.ptr h.next 0) k.cells=_:=fun h=>cL rfl k.len;have w1:IntKind.i64.wrap ((i:Int)+1)=((i+1:Nat):Int):=aD (n:=i+1) (by simp only[il] at hb;omega)
  apply aB (rfl:zG=.loop tT);simp-implicitDefEqProofs only[tT,V,↓reduceIte,rA,h7,h8,h9,h3,hlt,dt hd,hs,aA (ih k ik),w1];have hq:max acc (Pr.depthL (k::r))=max (max acc k.depth) (Pr.depthL r):=by
   have:Pr.depthL (k::r)=max k.depth (Pr.depthL r):=rfl;omega
  rw[hq];refine Fs p r (i+1) (max acc k.depth) _ hd' om (by simp only[il] at hb;omega) (fun k' hk=>ih k' (j4 _ hk)) ?_ ?_ ?_ ?_ ?_
  all_goals simp-implicitDefEqProofs only[V,↓reduceIte,rA,h7,h8,hf]
mutual
theorem fN:∀(p:Pr),p.nodes<2^61→∀h,RunCall E1 (.f 22) [p.av] h (vI p.depth) h
 |.mk o nm n ks nl cap,hb,h=>by
  have hb':1+Pr.nodesL ks<2^61:=hb;have hk:ks.length≤Pr.nodesL ks:=an ks;have hd:Pr.depthL ks≤Pr.nodesL ks:=di ks;have w1:IntKind.i64.wrap (((max 0 (Pr.depthL ks):Nat):Int)+1)=(((Pr.mk o nm n ks nl cap).depth:Nat):Int):=by
   rw[Nat.zero_max];exact aD (n:=Pr.depthL ks+1) om
  refine aC kr kr (aN (Tree.pr _)) rfl (Tree.val _) (Lk aJV ?_) h;have h0:(enterTm [(Pr.mk o nm n ks nl cap).av] 0 .nil).get 0=some (Pr.mk o nm n ks nl cap).av:=rfl;simp-implicitDefEqProofs only[Xi,f22,V,↓reduceIte,rA,hZ h0];refine(Fs (.mk o nm n ks nl cap) ks 0 0 _ rfl (ic _) om (fun k hk=>iR ks om k hk) ?_ ?_ ?_ ?_ ?_).mono ?_
  ·exact U36
  ·exact U37
  ·exact U37
  ·exact U37
  ·exact U36
  ·exact U39
theorem iR:∀(l:List Pr),Pr.nodesL l<2^61→∀k∈l,∀h,RunCall E1 (.f 22) [k.av] h (vI k.depth) h
 | [],_,k,hk,_=>by cases hk
 |a::r,hb,k,hk,h=>by
  have hb':a.nodes+Pr.nodesL r<2^61:=hb;rcases ie.1 hk with e|hk
  ·rw[e];exact fN a om h
  ·exact iR r om k hk h
end
def inB(n:Int):Bool:=decide (-1000000000000≤n)&&decide (n≤1000000000000)
def tr(b:Bool):Int:=bif b then 1 else 0
theorem Iw(n:Int)(h:AH):RunCall E1 (.f 150) [vI n] h (vB (inB n)) h:=by
 refine aC kr kr (aN (Tree.val _)) rfl (Tree.val _) (Lk aCP ?_) h;have h0:(enterTm [vI n] 0 .nil).get 0=some (vI n):=rfl;unfold inB
 by_cases a: -1000000000000≤n<;>by_cases b:n≤1000000000000<;>simp-implicitDefEqProofs only[Nz,f150,V,↓reduceIte,rA,reduceCtorEq,hZ h0,a,b]
theorem Vg{n:Int}{r:List AOper}{s:St}{dst:Option Nat}{K:St→Prop}:aM E1 150 r s dst K (some [vI n])=AM.wpOps E1 r (s.put dst (vB (inB n))) K:=aA (Iw n)
theorem Ix(n:Int)(h:AH):RunCall E1 (.f 121) [vI n] h (vB (inB n)) h:=by
 refine aC kr kr (aN (Tree.val _)) rfl (Tree.val _) (Lk aDI ?_) h;have h0:(enterTm [vI n] 0 .nil).get 0=some (vI n):=rfl;unfold inB
 by_cases a: -1000000000000≤n<;>by_cases b:n≤1000000000000<;>simp-implicitDefEqProofs only[Oo,f121,V,↓reduceIte,rA,reduceCtorEq,hZ h0,a,b]
theorem Vh{n:Int}{r:List AOper}{s:St}{dst:Option Nat}{K:St→Prop}:aM E1 121 r s dst K (some [vI n])=AM.wpOps E1 r (s.put dst (vB (inB n))) K:=aA (Ix n)
set_option maxHeartbeats 4000000
theorem sK(h:AH):RunCall E1 (.f 148) [vI 1] h (.tup [vI 0,vI 0]) h:=U10
theorem xx{r:List AOper}{s:St}{dst:Option Nat}{K:St→Prop}:aM E1 148 r s dst K (some [vI 1])=AM.wpOps E1 r (s.put dst (.tup [vI 0,vI 0])) K:=aA sK
theorem sT(n:Int)(h:AH):RunCall E1 (.f 120) [vI 1,vI n] h (vB (decide (n=0))) h:=U6
theorem yD{n:Int}{r:List AOper}{s:St}{dst:Option Nat}{K:St→Prop}:aM E1 120 r s dst K (some [vI 1,vI n])=AM.wpOps E1 r (s.put dst (vB (decide (n=0)))) K:=aA (sT n)
theorem oQ(h:AH):RunCall E1 (.f 149) [vI 1] h (vB false) h:=U5
theorem uf{r:List AOper}{s:St}{dst:Option Nat}{K:St→Prop}:aM E1 149 r s dst K (some [vI 1])=AM.wpOps E1 r (s.put dst (vB false)) K:=aA oQ
theorem oZ(h:AH):RunCall E1 (.f 119) [vI 1] h (vB false) h:=U4
theorem ul{r:List AOper}{s:St}{dst:Option Nat}{K:St→Prop}:aM E1 119 r s dst K (some [vI 1])=AM.wpOps E1 r (s.put dst (vB false)) K:=aA oZ
theorem sJ(h:AH):RunCall E1 (.f 148) [vI 2] h (.tup [vI 0,vI 0]) h:=U10
theorem xw{r:List AOper}{s:St}{dst:Option Nat}{K:St→Prop}:aM E1 148 r s dst K (some [vI 2])=AM.wpOps E1 r (s.put dst (.tup [vI 0,vI 0])) K:=aA sJ
theorem sS(n:Int)(h:AH):RunCall E1 (.f 120) [vI 2,vI n] h (vB (decide (n=0))) h:=U6
theorem yC{n:Int}{r:List AOper}{s:St}{dst:Option Nat}{K:St→Prop}:aM E1 120 r s dst K (some [vI 2,vI n])=AM.wpOps E1 r (s.put dst (vB (decide (n=0)))) K:=aA (sS n)
theorem oP(h:AH):RunCall E1 (.f 149) [vI 2] h (vB false) h:=U5
theorem ue{r:List AOper}{s:St}{dst:Option Nat}{K:St→Prop}:aM E1 149 r s dst K (some [vI 2])=AM.wpOps E1 r (s.put dst (vB false)) K:=aA oP
theorem oY(h:AH):RunCall E1 (.f 119) [vI 2] h (vB false) h:=U4
theorem uk{r:List AOper}{s:St}{dst:Option Nat}{K:St→Prop}:aM E1 119 r s dst K (some [vI 2])=AM.wpOps E1 r (s.put dst (vB false)) K:=aA oY
theorem sH(h:AH):RunCall E1 (.f 148) [vI 3] h (.tup [vI 0,vI 0]) h:=U10
theorem cd{r:List AOper}{s:St}{dst:Option Nat}{K:St→Prop}:aM E1 148 r s dst K (some [vI 3])=AM.wpOps E1 r (s.put dst (.tup [vI 0,vI 0])) K:=aA sH
theorem sR(n:Int)(h:AH):RunCall E1 (.f 120) [vI 3,vI n] h (vB (decide (n=0))) h:=U6
theorem yB{n:Int}{r:List AOper}{s:St}{dst:Option Nat}{K:St→Prop}:aM E1 120 r s dst K (some [vI 3,vI n])=AM.wpOps E1 r (s.put dst (vB (decide (n=0)))) K:=aA (sR n)
theorem oO(h:AH):RunCall E1 (.f 149) [vI 3] h (vB true) h:=U5
theorem bw{r:List AOper}{s:St}{dst:Option Nat}{K:St→Prop}:aM E1 149 r s dst K (some [vI 3])=AM.wpOps E1 r (s.put dst (vB true)) K:=aA oO
theorem oX(h:AH):RunCall E1 (.f 119) [vI 3] h (vB true) h:=U4
theorem iM{r:List AOper}{s:St}{dst:Option Nat}{K:St→Prop}:aM E1 119 r s dst K (some [vI 3])=AM.wpOps E1 r (s.put dst (vB true)) K:=aA oX
theorem sG(h:AH):RunCall E1 (.f 148) [vI 4] h (.tup [vI 1,vI 24]) h:=U9
theorem cZ{r:List AOper}{s:St}{dst:Option Nat}{K:St→Prop}:aM E1 148 r s dst K (some [vI 4])=AM.wpOps E1 r (s.put dst (.tup [vI 1,vI 24])) K:=aA sG
theorem sQ(n:Int)(h:AH):RunCall E1 (.f 120) [vI 4,vI n] h (vB (decide (1≤n)&&decide (n≤24))) h:=U6
theorem yA{n:Int}{r:List AOper}{s:St}{dst:Option Nat}{K:St→Prop}:aM E1 120 r s dst K (some [vI 4,vI n])=AM.wpOps E1 r (s.put dst (vB (decide (1≤n)&&decide (n≤24)))) K:=aA (sQ n)
theorem oN(h:AH):RunCall E1 (.f 149) [vI 4] h (vB true) h:=U5
theorem bv{r:List AOper}{s:St}{dst:Option Nat}{K:St→Prop}:aM E1 149 r s dst K (some [vI 4])=AM.wpOps E1 r (s.put dst (vB true)) K:=aA oN
theorem oW(h:AH):RunCall E1 (.f 119) [vI 4] h (vB true) h:=U4
theorem iL{r:List AOper}{s:St}{dst:Option Nat}{K:St→Prop}:aM E1 119 r s dst K (some [vI 4])=AM.wpOps E1 r (s.put dst (vB true)) K:=aA oW
theorem sF(h:AH):RunCall E1 (.f 148) [vI 5] h (.tup [vI 1,vI 24]) h:=U9
theorem dd{r:List AOper}{s:St}{dst:Option Nat}{K:St→Prop}:aM E1 148 r s dst K (some [vI 5])=AM.wpOps E1 r (s.put dst (.tup [vI 1,vI 24])) K:=aA sF
theorem sP(n:Int)(h:AH):RunCall E1 (.f 120) [vI 5,vI n] h (vB (decide (1≤n)&&decide (n≤24))) h:=U6
theorem x9{n:Int}{r:List AOper}{s:St}{dst:Option Nat}{K:St→Prop}:aM E1 120 r s dst K (some [vI 5,vI n])=AM.wpOps E1 r (s.put dst (vB (decide (1≤n)&&decide (n≤24)))) K:=aA (sP n)
theorem oM(h:AH):RunCall E1 (.f 149) [vI 5] h (vB true) h:=U5
theorem dE{r:List AOper}{s:St}{dst:Option Nat}{K:St→Prop}:aM E1 149 r s dst K (some [vI 5])=AM.wpOps E1 r (s.put dst (vB true)) K:=aA oM
theorem oV(h:AH):RunCall E1 (.f 119) [vI 5] h (vB true) h:=U4
theorem iK{r:List AOper}{s:St}{dst:Option Nat}{K:St→Prop}:aM E1 119 r s dst K (some [vI 5])=AM.wpOps E1 r (s.put dst (vB true)) K:=aA oV
theorem sE(h:AH):RunCall E1 (.f 148) [vI 6] h (.tup [vI 2,vI 2]) h:=U7
theorem xu{r:List AOper}{s:St}{dst:Option Nat}{K:St→Prop}:aM E1 148 r s dst K (some [vI 6])=AM.wpOps E1 r (s.put dst (.tup [vI 2,vI 2])) K:=aA sE
theorem sO(n:Int)(h:AH):RunCall E1 (.f 120) [vI 6,vI n] h (vB (decide (n=2))) h:=U6
theorem x8{n:Int}{r:List AOper}{s:St}{dst:Option Nat}{K:St→Prop}:aM E1 120 r s dst K (some [vI 6,vI n])=AM.wpOps E1 r (s.put dst (vB (decide (n=2)))) K:=aA (sO n)
theorem oL(h:AH):RunCall E1 (.f 149) [vI 6] h (vB false) h:=U5
theorem ud{r:List AOper}{s:St}{dst:Option Nat}{K:St→Prop}:aM E1 149 r s dst K (some [vI 6])=AM.wpOps E1 r (s.put dst (vB false)) K:=aA oL
theorem oU(h:AH):RunCall E1 (.f 119) [vI 6] h (vB false) h:=U4
theorem uj{r:List AOper}{s:St}{dst:Option Nat}{K:St→Prop}:aM E1 119 r s dst K (some [vI 6])=AM.wpOps E1 r (s.put dst (vB false)) K:=aA oU
theorem sD(h:AH):RunCall E1 (.f 148) [vI 7] h (.tup [vI 2,vI 2]) h:=U7
theorem xr{r:List AOper}{s:St}{dst:Option Nat}{K:St→Prop}:aM E1 148 r s dst K (some [vI 7])=AM.wpOps E1 r (s.put dst (.tup [vI 2,vI 2])) K:=aA sD
theorem sN(n:Int)(h:AH):RunCall E1 (.f 120) [vI 7,vI n] h (vB (decide (n=2))) h:=U6
theorem xz{n:Int}{r:List AOper}{s:St}{dst:Option Nat}{K:St→Prop}:aM E1 120 r s dst K (some [vI 7,vI n])=AM.wpOps E1 r (s.put dst (vB (decide (n=2)))) K:=aA (sN n)
theorem oK(h:AH):RunCall E1 (.f 149) [vI 7] h (vB false) h:=U5
theorem uc{r:List AOper}{s:St}{dst:Option Nat}{K:St→Prop}:aM E1 149 r s dst K (some [vI 7])=AM.wpOps E1 r (s.put dst (vB false)) K:=aA oK
theorem oT(h:AH):RunCall E1 (.f 119) [vI 7] h (vB false) h:=U4
theorem uh{r:List AOper}{s:St}{dst:Option Nat}{K:St→Prop}:aM E1 119 r s dst K (some [vI 7])=AM.wpOps E1 r (s.put dst (vB false)) K:=aA oT
theorem sC(h:AH):RunCall E1 (.f 148) [vI 8] h (.tup [vI 2,vI 2]) h:=U7
theorem fF{r:List AOper}{s:St}{dst:Option Nat}{K:St→Prop}:aM E1 148 r s dst K (some [vI 8])=AM.wpOps E1 r (s.put dst (.tup [vI 2,vI 2])) K:=aA sC
theorem sM(n:Int)(h:AH):RunCall E1 (.f 120) [vI 8,vI n] h (vB (decide (n=2))) h:=U6
theorem fG{n:Int}{r:List AOper}{s:St}{dst:Option Nat}{K:St→Prop}:aM E1 120 r s dst K (some [vI 8,vI n])=AM.wpOps E1 r (s.put dst (vB (decide (n=2)))) K:=aA (sM n)
theorem oJ(h:AH):RunCall E1 (.f 149) [vI 8] h (vB false) h:=U5
theorem eS{r:List AOper}{s:St}{dst:Option Nat}{K:St→Prop}:aM E1 149 r s dst K (some [vI 8])=AM.wpOps E1 r (s.put dst (vB false)) K:=aA oJ
theorem oS(h:AH):RunCall E1 (.f 119) [vI 8] h (vB false) h:=U4
theorem eU{r:List AOper}{s:St}{dst:Option Nat}{K:St→Prop}:aM E1 119 r s dst K (some [vI 8])=AM.wpOps E1 r (s.put dst (vB false)) K:=aA oS
theorem sB(h:AH):RunCall E1 (.f 148) [vI 9] h (.tup [vI 1,vI 1]) h:=U8
theorem xq{r:List AOper}{s:St}{dst:Option Nat}{K:St→Prop}:aM E1 148 r s dst K (some [vI 9])=AM.wpOps E1 r (s.put dst (.tup [vI 1,vI 1])) K:=aA sB
theorem sL(n:Int)(h:AH):RunCall E1 (.f 120) [vI 9,vI n] h (vB (decide (n=1))) h:=U6
theorem xy{n:Int}{r:List AOper}{s:St}{dst:Option Nat}{K:St→Prop}:aM E1 120 r s dst K (some [vI 9,vI n])=AM.wpOps E1 r (s.put dst (vB (decide (n=1)))) K:=aA (sL n)
theorem oI(h:AH):RunCall E1 (.f 149) [vI 9] h (vB false) h:=U5
theorem ub{r:List AOper}{s:St}{dst:Option Nat}{K:St→Prop}:aM E1 149 r s dst K (some [vI 9])=AM.wpOps E1 r (s.put dst (vB false)) K:=aA oI
theorem oR(h:AH):RunCall E1 (.f 119) [vI 9] h (vB false) h:=U4
theorem ug{r:List AOper}{s:St}{dst:Option Nat}{K:St→Prop}:aM E1 119 r s dst K (some [vI 9])=AM.wpOps E1 r (s.put dst (vB false)) K:=aA oR
theorem ol(h:AH):RunCall E1 (.f 148) [vI 10] h (.tup [vI 2,vI 2]) h:=U7
theorem ux{r:List AOper}{s:St}{dst:Option Nat}{K:St→Prop}:aM E1 148 r s dst K (some [vI 10])=AM.wpOps E1 r (s.put dst (.tup [vI 2,vI 2])) K:=aA ol
theorem o5(n:Int)(h:AH):RunCall E1 (.f 120) [vI 10,vI n] h (vB (decide (n=2))) h:=U6
theorem vG{n:Int}{r:List AOper}{s:St}{dst:Option Nat}{K:St→Prop}:aM E1 120 r s dst K (some [vI 10,vI n])=AM.wpOps E1 r (s.put dst (vB (decide (n=2)))) K:=aA (o5 n)
theorem l6(h:AH):RunCall E1 (.f 149) [vI 10] h (vB false) h:=U5
theorem rV{r:List AOper}{s:St}{dst:Option Nat}{K:St→Prop}:aM E1 149 r s dst K (some [vI 10])=AM.wpOps E1 r (s.put dst (vB false)) K:=aA l6
theorem mF(h:AH):RunCall E1 (.f 119) [vI 10] h (vB false) h:=U4
theorem rg{r:List AOper}{s:St}{dst:Option Nat}{K:St→Prop}:aM E1 119 r s dst K (some [vI 10])=AM.wpOps E1 r (s.put dst (vB false)) K:=aA mF
theorem oi(h:AH):RunCall E1 (.f 148) [vI 11] h (.tup [vI 2,vI 2]) h:=U7
theorem uw{r:List AOper}{s:St}{dst:Option Nat}{K:St→Prop}:aM E1 148 r s dst K (some [vI 11])=AM.wpOps E1 r (s.put dst (.tup [vI 2,vI 2])) K:=aA oi
theorem oz(n:Int)(h:AH):RunCall E1 (.f 120) [vI 11,vI n] h (vB (decide (n=2))) h:=U6
theorem vF{n:Int}{r:List AOper}{s:St}{dst:Option Nat}{K:St→Prop}:aM E1 120 r s dst K (some [vI 11,vI n])=AM.wpOps E1 r (s.put dst (vB (decide (n=2)))) K:=aA (oz n)
theorem l5(h:AH):RunCall E1 (.f 149) [vI 11] h (vB false) h:=U5
theorem rU{r:List AOper}{s:St}{dst:Option Nat}{K:St→Prop}:aM E1 149 r s dst K (some [vI 11])=AM.wpOps E1 r (s.put dst (vB false)) K:=aA l5
theorem mE(h:AH):RunCall E1 (.f 119) [vI 11] h (vB false) h:=U4
theorem rf{r:List AOper}{s:St}{dst:Option Nat}{K:St→Prop}:aM E1 119 r s dst K (some [vI 11])=AM.wpOps E1 r (s.put dst (vB false)) K:=aA mE
theorem oh(h:AH):RunCall E1 (.f 148) [vI 12] h (.tup [vI 2,vI 2]) h:=U7
theorem uv{r:List AOper}{s:St}{dst:Option Nat}{K:St→Prop}:aM E1 148 r s dst K (some [vI 12])=AM.wpOps E1 r (s.put dst (.tup [vI 2,vI 2])) K:=aA oh
theorem oy(n:Int)(h:AH):RunCall E1 (.f 120) [vI 12,vI n] h (vB (decide (n=2))) h:=U6
theorem vD{n:Int}{r:List AOper}{s:St}{dst:Option Nat}{K:St→Prop}:aM E1 120 r s dst K (some [vI 12,vI n])=AM.wpOps E1 r (s.put dst (vB (decide (n=2)))) K:=aA (oy n)
theorem l4(h:AH):RunCall E1 (.f 149) [vI 12] h (vB false) h:=U5
theorem rT{r:List AOper}{s:St}{dst:Option Nat}{K:St→Prop}:aM E1 149 r s dst K (some [vI 12])=AM.wpOps E1 r (s.put dst (vB false)) K:=aA l4
theorem mD(h:AH):RunCall E1 (.f 119) [vI 12] h (vB false) h:=U4
theorem re{r:List AOper}{s:St}{dst:Option Nat}{K:St→Prop}:aM E1 119 r s dst K (some [vI 12])=AM.wpOps E1 r (s.put dst (vB false)) K:=aA mD
theorem og(h:AH):RunCall E1 (.f 148) [vI 13] h (.tup [vI 2,vI 2]) h:=U7
theorem uu{r:List AOper}{s:St}{dst:Option Nat}{K:St→Prop}:aM E1 148 r s dst K (some [vI 13])=AM.wpOps E1 r (s.put dst (.tup [vI 2,vI 2])) K:=aA og
theorem ox(n:Int)(h:AH):RunCall E1 (.f 120) [vI 13,vI n] h (vB (decide (n=2))) h:=U6
theorem vC{n:Int}{r:List AOper}{s:St}{dst:Option Nat}{K:St→Prop}:aM E1 120 r s dst K (some [vI 13,vI n])=AM.wpOps E1 r (s.put dst (vB (decide (n=2)))) K:=aA (ox n)
theorem l3(h:AH):RunCall E1 (.f 149) [vI 13] h (vB false) h:=U5
theorem rS{r:List AOper}{s:St}{dst:Option Nat}{K:St→Prop}:aM E1 149 r s dst K (some [vI 13])=AM.wpOps E1 r (s.put dst (vB false)) K:=aA l3
theorem mC(h:AH):RunCall E1 (.f 119) [vI 13] h (vB false) h:=U4
theorem rb{r:List AOper}{s:St}{dst:Option Nat}{K:St→Prop}:aM E1 119 r s dst K (some [vI 13])=AM.wpOps E1 r (s.put dst (vB false)) K:=aA mC
theorem oe(h:AH):RunCall E1 (.f 148) [vI 14] h (.tup [vI 1,vI 1]) h:=U8
theorem ut{r:List AOper}{s:St}{dst:Option Nat}{K:St→Prop}:aM E1 148 r s dst K (some [vI 14])=AM.wpOps E1 r (s.put dst (.tup [vI 1,vI 1])) K:=aA oe
theorem ow(n:Int)(h:AH):RunCall E1 (.f 120) [vI 14,vI n] h (vB (decide (n=1))) h:=U6
theorem vA{n:Int}{r:List AOper}{s:St}{dst:Option Nat}{K:St→Prop}:aM E1 120 r s dst K (some [vI 14,vI n])=AM.wpOps E1 r (s.put dst (vB (decide (n=1)))) K:=aA (ow n)
theorem lz(h:AH):RunCall E1 (.f 149) [vI 14] h (vB false) h:=U5
theorem rR{r:List AOper}{s:St}{dst:Option Nat}{K:St→Prop}:aM E1 149 r s dst K (some [vI 14])=AM.wpOps E1 r (s.put dst (vB false)) K:=aA lz
theorem mB(h:AH):RunCall E1 (.f 119) [vI 14] h (vB false) h:=U4
theorem ra{r:List AOper}{s:St}{dst:Option Nat}{K:St→Prop}:aM E1 119 r s dst K (some [vI 14])=AM.wpOps E1 r (s.put dst (vB false)) K:=aA mB
theorem od(h:AH):RunCall E1 (.f 148) [vI 15] h (.tup [vI 2,vI 2]) h:=U7
theorem ur{r:List AOper}{s:St}{dst:Option Nat}{K:St→Prop}:aM E1 148 r s dst K (some [vI 15])=AM.wpOps E1 r (s.put dst (.tup [vI 2,vI 2])) K:=aA od
theorem ou(n:Int)(h:AH):RunCall E1 (.f 120) [vI 15,vI n] h (vB (decide (n=2))) h:=U6
theorem u9{n:Int}{r:List AOper}{s:St}{dst:Option Nat}{K:St→Prop}:aM E1 120 r s dst K (some [vI 15,vI n])=AM.wpOps E1 r (s.put dst (vB (decide (n=2)))) K:=aA (ou n)
theorem ly(h:AH):RunCall E1 (.f 149) [vI 15] h (vB false) h:=U5
theorem rQ{r:List AOper}{s:St}{dst:Option Nat}{K:St→Prop}:aM E1 149 r s dst K (some [vI 15])=AM.wpOps E1 r (s.put dst (vB false)) K:=aA ly
theorem mA(h:AH):RunCall E1 (.f 119) [vI 15] h (vB false) h:=U4
theorem rZ{r:List AOper}{s:St}{dst:Option Nat}{K:St→Prop}:aM E1 119 r s dst K (some [vI 15])=AM.wpOps E1 r (s.put dst (vB false)) K:=aA mA
theorem oc(h:AH):RunCall E1 (.f 148) [vI 16] h (.tup [vI 2,vI 2]) h:=U7
theorem uq{r:List AOper}{s:St}{dst:Option Nat}{K:St→Prop}:aM E1 148 r s dst K (some [vI 16])=AM.wpOps E1 r (s.put dst (.tup [vI 2,vI 2])) K:=aA oc
theorem ot(n:Int)(h:AH):RunCall E1 (.f 120) [vI 16,vI n] h (vB (decide (n=2))) h:=U6
theorem u7{n:Int}{r:List AOper}{s:St}{dst:Option Nat}{K:St→Prop}:aM E1 120 r s dst K (some [vI 16,vI n])=AM.wpOps E1 r (s.put dst (vB (decide (n=2)))) K:=aA (ot n)
theorem lx(h:AH):RunCall E1 (.f 149) [vI 16] h (vB false) h:=U5
theorem rP{r:List AOper}{s:St}{dst:Option Nat}{K:St→Prop}:aM E1 149 r s dst K (some [vI 16])=AM.wpOps E1 r (s.put dst (vB false)) K:=aA lx
theorem l9(h:AH):RunCall E1 (.f 119) [vI 16] h (vB false) h:=U4
theorem rY{r:List AOper}{s:St}{dst:Option Nat}{K:St→Prop}:aM E1 119 r s dst K (some [vI 16])=AM.wpOps E1 r (s.put dst (vB false)) K:=aA l9
theorem ob(h:AH):RunCall E1 (.f 148) [vI 17] h (.tup [vI 2,vI 2]) h:=U7
theorem uo{r:List AOper}{s:St}{dst:Option Nat}{K:St→Prop}:aM E1 148 r s dst K (some [vI 17])=AM.wpOps E1 r (s.put dst (.tup [vI 2,vI 2])) K:=aA ob
theorem oq(n:Int)(h:AH):RunCall E1 (.f 120) [vI 17,vI n] h (vB (decide (n=2))) h:=U6
theorem uz{n:Int}{r:List AOper}{s:St}{dst:Option Nat}{K:St→Prop}:aM E1 120 r s dst K (some [vI 17,vI n])=AM.wpOps E1 r (s.put dst (vB (decide (n=2)))) K:=aA (oq n)
theorem lw(h:AH):RunCall E1 (.f 149) [vI 17] h (vB false) h:=U5
theorem rO{r:List AOper}{s:St}{dst:Option Nat}{K:St→Prop}:aM E1 149 r s dst K (some [vI 17])=AM.wpOps E1 r (s.put dst (vB false)) K:=aA lw
theorem l8(h:AH):RunCall E1 (.f 119) [vI 17] h (vB false) h:=U4
theorem rX{r:List AOper}{s:St}{dst:Option Nat}{K:St→Prop}:aM E1 119 r s dst K (some [vI 17])=AM.wpOps E1 r (s.put dst (vB false)) K:=aA l8
theorem oa(h:AH):RunCall E1 (.f 148) [vI 18] h (.tup [vI 2,vI 2]) h:=U7
theorem um{r:List AOper}{s:St}{dst:Option Nat}{K:St→Prop}:aM E1 148 r s dst K (some [vI 18])=AM.wpOps E1 r (s.put dst (.tup [vI 2,vI 2])) K:=aA oa
theorem oo(n:Int)(h:AH):RunCall E1 (.f 120) [vI 18,vI n] h (vB (decide (n=2))) h:=U6
theorem uy{n:Int}{r:List AOper}{s:St}{dst:Option Nat}{K:St→Prop}:aM E1 120 r s dst K (some [vI 18,vI n])=AM.wpOps E1 r (s.put dst (vB (decide (n=2)))) K:=aA (oo n)
theorem lv(h:AH):RunCall E1 (.f 149) [vI 18] h (vB false) h:=U5
theorem rN{r:List AOper}{s:St}{dst:Option Nat}{K:St→Prop}:aM E1 149 r s dst K (some [vI 18])=AM.wpOps E1 r (s.put dst (vB false)) K:=aA lv
theorem l7(h:AH):RunCall E1 (.f 119) [vI 18] h (vB false) h:=U4
theorem rW{r:List AOper}{s:St}{dst:Option Nat}{K:St→Prop}:aM E1 119 r s dst K (some [vI 18])=AM.wpOps E1 r (s.put dst (vB false)) K:=aA l7
set_option maxHeartbeats 40000000
def nodeS(num e z l r m:Bool):Int:=bif !e||(!num&& !z)|| !l then 1 else bif !r then 2 else bif !m then 6 else 0
theorem tri(c n:Int):(decide (n<c)=true∧decide (c<n)=false∧decide (n=c)=false)∨(decide (n<c)=false∧decide (c<n)=false∧decide (n=c)=true)∨(decide (n<c)=false∧decide (c<n)=true∧decide (n=c)=false):=by
 rcases Int.lt_trichotomy n c with h|h|h
 ·exact .inl ⟨decide_eq_true h,decide_eq_false om,decide_eq_false om⟩
 ·exact .inr (.inl ⟨decide_eq_false om,decide_eq_false om,decide_eq_true h⟩)
 ·exact .inr (.inr ⟨decide_eq_false om,decide_eq_true h,decide_eq_false om⟩)
theorem bits(n:Int):(decide (n=0)=true∧decide (n=1)=false∧decide (n<0)=false∧decide (1<n)=false)∨(decide (n=0)=false∧decide (n=1)=true∧decide (n<0)=false∧decide (1<n)=false)∨
  (decide (n=0)=false∧decide (n=1)=false∧decide (n<0)=true∧decide (1<n)=false)∨(decide (n=0)=false∧decide (n=1)=false∧decide (n<0)=false∧decide (1<n)=true):=by
 by_cases a:n=0
 ·exact .inl ⟨decide_eq_true a,decide_eq_false om,decide_eq_false om,decide_eq_false om⟩
 ·by_cases b:n=1
  ·exact .inr (.inl ⟨decide_eq_false om,decide_eq_true b,decide_eq_false om,decide_eq_false om⟩)
  ·by_cases c:n<0
   ·exact .inr (.inr (.inl ⟨decide_eq_false om,decide_eq_false om,decide_eq_true c,decide_eq_false om⟩))
   ·exact .inr (.inr (.inr ⟨decide_eq_false om,decide_eq_false om,decide_eq_false om,decide_eq_true om⟩))
theorem Lo(k:Pr)(l:List AV):takeN none ((k.cells++l).drop 0)=some (vI k.op):=by rw[k.cells_eq];rfl
def Pr.kid0(p:Pr):Int:=match p.ks with
 |k::_=>k.op
 | []=>0
theorem my(p:Pr)(hk:p.op=1)(h:AH):RunCall E1 (.f 122) [p.av] h (vB true) h:=U3
theorem mw(p:Pr)(hk:p.op=2)(h:AH):RunCall E1 (.f 122) [p.av] h (vB true) h:=U3
theorem mu(p:Pr)(hk:p.op=6)(h:AH):RunCall E1 (.f 122) [p.av] h (vB true) h:=U3
theorem mt(p:Pr)(hk:p.op=7)(h:AH):RunCall E1 (.f 122) [p.av] h (vB true) h:=U3
theorem ms(p:Pr)(hk:p.op=8)(h:AH):RunCall E1 (.f 122) [p.av] h (vB true) h:=U3
theorem mr(p:Pr)(hk:p.op=9)(h:AH):RunCall E1 (.f 122) [p.av] h (vB true) h:=U3
theorem lY(p:Pr)(hk:p.op=10)(h:AH):RunCall E1 (.f 122) [p.av] h (vB true) h:=U3
theorem lX(p:Pr)(hk:p.op=11)(h:AH):RunCall E1 (.f 122) [p.av] h (vB true) h:=U3
theorem lW(p:Pr)(hk:p.op=12)(h:AH):RunCall E1 (.f 122) [p.av] h (vB true) h:=U3
theorem lV(p:Pr)(hk:p.op=13)(h:AH):RunCall E1 (.f 122) [p.av] h (vB true) h:=U3
theorem lU(p:Pr)(hk:p.op=14)(h:AH):RunCall E1 (.f 122) [p.av] h (vB true) h:=U3
theorem lT(p:Pr)(hk:p.op=15)(h:AH):RunCall E1 (.f 122) [p.av] h (vB true) h:=U3
theorem lS(p:Pr)(hk:p.op=16)(h:AH):RunCall E1 (.f 122) [p.av] h (vB true) h:=U3
theorem lR(p:Pr)(hk:p.op=17)(h:AH):RunCall E1 (.f 122) [p.av] h (vB true) h:=U3
theorem lQ(p:Pr)(hk:p.op=18)(h:AH):RunCall E1 (.f 122) [p.av] h (vB true) h:=U3
theorem rL(p:Pr)(hk:p.op=1)(h:AH):RunCall E1 (.f 114) [p.av] h (vI (nodeS true (strEq p.nm ⟨#[]⟩) (decide (p.n=0)) (decide (((p.ks.length:Nat):Int)=0)) (inB p.n) (true))) h:=by
 refine aC kr kr (aN (Tree.pr p)) rfl (Tree.val _) (ah bN fun s hs hh hd=>?_) h;have h0:=hs 0 _ rfl;rcases tri 0 ((p.ks.length:Nat):Int) with⟨L1,L2,L3⟩|⟨L1,L2,L3⟩|⟨L1,L2,L3⟩
 all_goals cases e:strEq p.nm ⟨#[]⟩<;>cases z:decide (p.n=0)<;>cases i:inB p.n<;>simp-implicitDefEqProofs only[ag,f114,V,↓reduceIte,rA,reduceCtorEq,rD,rE,h0,hh,hd,hk,xx,uf,Vg,nodeS,e,i,L1,L2,L3]
theorem rK(p:Pr)(hk:p.op=2)(h:AH):RunCall E1 (.f 114) [p.av] h (vI (nodeS true (strEq p.nm ⟨#[]⟩) (decide (p.n=0)) (decide (((p.ks.length:Nat):Int)=0)) ((decide (p.n=0)||decide (p.n=1))) (true))) h:=by
 refine aC kr kr (aN (Tree.pr p)) rfl (Tree.val _) (ah bN fun s hs hh hd=>?_) h;have h0:=hs 0 _ rfl;rcases bits p.n with⟨z,o,b1,b2⟩|⟨z,o,b1,b2⟩|⟨z,o,b1,b2⟩|⟨z,o,b1,b2⟩
 all_goals rcases tri 0 ((p.ks.length:Nat):Int) with⟨L1,L2,L3⟩|⟨L1,L2,L3⟩|⟨L1,L2,L3⟩
 all_goals cases e:strEq p.nm ⟨#[]⟩<;>simp-implicitDefEqProofs only[ag,f114,V,↓reduceIte,rA,reduceCtorEq,rD,rE,h0,hh,hd,hk,xw,ue,nodeS,e,z,o,L1,L2,L3]
theorem rJ(p:Pr)(hk:p.op=6)(h:AH):RunCall E1 (.f 114) [p.av] h (vI (nodeS false (strEq p.nm ⟨#[]⟩) (decide (p.n=0)) (decide (((p.ks.length:Nat):Int)=2)) (true) (true))) h:=by
 refine aC kr kr (aN (Tree.pr p)) rfl (Tree.val _) (ah bN fun s hs hh hd=>?_) h;have h0:=hs 0 _ rfl;rcases tri 2 ((p.ks.length:Nat):Int) with⟨L1,L2,L3⟩|⟨L1,L2,L3⟩|⟨L1,L2,L3⟩
 all_goals cases e:strEq p.nm ⟨#[]⟩<;>cases z:decide (p.n=0)<;>simp-implicitDefEqProofs only[ag,f114,V,↓reduceIte,rA,reduceCtorEq,rD,rE,h0,hh,hd,hk,xu,ud,nodeS,e,z,L1,L2,L3]
theorem rI(p:Pr)(hk:p.op=7)(h:AH):RunCall E1 (.f 114) [p.av] h (vI (nodeS false (strEq p.nm ⟨#[]⟩) (decide (p.n=0)) (decide (((p.ks.length:Nat):Int)=2)) (true) (true))) h:=by
 refine aC kr kr (aN (Tree.pr p)) rfl (Tree.val _) (ah bN fun s hs hh hd=>?_) h;have h0:=hs 0 _ rfl;rcases tri 2 ((p.ks.length:Nat):Int) with⟨L1,L2,L3⟩|⟨L1,L2,L3⟩|⟨L1,L2,L3⟩
 all_goals cases e:strEq p.nm ⟨#[]⟩<;>cases z:decide (p.n=0)<;>simp-implicitDefEqProofs only[ag,f114,V,↓reduceIte,rA,reduceCtorEq,rD,rE,h0,hh,hd,hk,xr,uc,nodeS,e,z,L1,L2,L3]
theorem rH(p:Pr)(hk:p.op=8)(h:AH):RunCall E1 (.f 114) [p.av] h (vI (nodeS false (strEq p.nm ⟨#[]⟩) (decide (p.n=0)) (decide (((p.ks.length:Nat):Int)=2)) (true) (decide (p.kid0=1)))) h:=by
 refine aC kr kr (aN (Tree.pr p)) rfl (Tree.val _) (ah bN fun s hs hh hd=>?_) h;have h0:=hs 0 _ rfl;have ek:∀k0 r,p.ks=k0::r→p.kid0=k0.op∧idxAddrSV 4 p.kids 0=some (.iptr (k0.cells++Pr.cellsL r)):=fun k0 r e=>⟨by simp only[Pr.kid0,e],dt (i:=0) (by rw[j9,e])⟩
 rcases tri 2 ((p.ks.length:Nat):Int) with⟨L1,L2,L3⟩|⟨L1,L2,L3⟩|⟨L1,L2,L3⟩
 ·cases e:strEq p.nm ⟨#[]⟩<;>cases z:decide (p.n=0)<;>simp-implicitDefEqProofs only[ag,f114,V,↓reduceIte,rA,reduceCtorEq,rD,rE,h0,hh,hd,hk,fF,eS,nodeS,e,z,L1,L3]
 ·obtain⟨k0,r,e0⟩:∃k0 r,p.ks=k0::r:=by
   cases hks:p.ks with
   |nil=>rw[hks] at L3;cases L3
   |cons a b=>exact⟨a,b,rfl⟩
  obtain⟨e1,e2⟩:=ek k0 r e0;cases e:strEq p.nm ⟨#[]⟩<;>cases z:decide (p.n=0)<;>cases q:decide (k0.op=1)<;>simp-implicitDefEqProofs only[ag,f114,V,↓reduceIte,rA,reduceCtorEq,rD,rE,h0,hh,hd,hk,fF,eS,nodeS,e,z,L1,L2,L3,q,e1,e2,Mm k0 0 (Pr.cellsL r) rfl,Lo]
 ·cases e:strEq p.nm ⟨#[]⟩<;>cases z:decide (p.n=0)<;>simp-implicitDefEqProofs only[ag,f114,V,↓reduceIte,rA,reduceCtorEq,rD,rE,h0,hh,hd,hk,fF,eS,nodeS,e,z,L1,L2,L3]
theorem rG(p:Pr)(hk:p.op=9)(h:AH):RunCall E1 (.f 114) [p.av] h (vI (nodeS false (strEq p.nm ⟨#[]⟩) (decide (p.n=0)) (decide (((p.ks.length:Nat):Int)=1)) (true) (true))) h:=by
 refine aC kr kr (aN (Tree.pr p)) rfl (Tree.val _) (ah bN fun s hs hh hd=>?_) h;have h0:=hs 0 _ rfl;rcases tri 1 ((p.ks.length:Nat):Int) with⟨L1,L2,L3⟩|⟨L1,L2,L3⟩|⟨L1,L2,L3⟩
 all_goals cases e:strEq p.nm ⟨#[]⟩<;>cases z:decide (p.n=0)<;>simp-implicitDefEqProofs only[ag,f114,V,↓reduceIte,rA,reduceCtorEq,rD,rE,h0,hh,hd,hk,xq,ub,nodeS,e,z,L1,L2,L3]
theorem oH(p:Pr)(hk:p.op=10)(h:AH):RunCall E1 (.f 114) [p.av] h (vI (nodeS false (strEq p.nm ⟨#[]⟩) (decide (p.n=0)) (decide (((p.ks.length:Nat):Int)=2)) (true) (true))) h:=by
 refine aC kr kr (aN (Tree.pr p)) rfl (Tree.val _) (ah bN fun s hs hh hd=>?_) h;have h0:=hs 0 _ rfl;rcases tri 2 ((p.ks.length:Nat):Int) with⟨L1,L2,L3⟩|⟨L1,L2,L3⟩|⟨L1,L2,L3⟩
 all_goals cases e:strEq p.nm ⟨#[]⟩<;>cases z:decide (p.n=0)<;>simp-implicitDefEqProofs only[ag,f114,V,↓reduceIte,rA,reduceCtorEq,rD,rE,h0,hh,hd,hk,ux,rV,nodeS,e,z,L1,L2,L3]
theorem oG(p:Pr)(hk:p.op=11)(h:AH):RunCall E1 (.f 114) [p.av] h (vI (nodeS false (strEq p.nm ⟨#[]⟩) (decide (p.n=0)) (decide (((p.ks.length:Nat):Int)=2)) (true) (true))) h:=by
 refine aC kr kr (aN (Tree.pr p)) rfl (Tree.val _) (ah bN fun s hs hh hd=>?_) h;have h0:=hs 0 _ rfl;rcases tri 2 ((p.ks.length:Nat):Int) with⟨L1,L2,L3⟩|⟨L1,L2,L3⟩|⟨L1,L2,L3⟩
 all_goals cases e:strEq p.nm ⟨#[]⟩<;>cases z:decide (p.n=0)<;>simp-implicitDefEqProofs only[ag,f114,V,↓reduceIte,rA,reduceCtorEq,rD,rE,h0,hh,hd,hk,uw,rU,nodeS,e,z,L1,L2,L3]
theorem oF(p:Pr)(hk:p.op=12)(h:AH):RunCall E1 (.f 114) [p.av] h (vI (nodeS false (strEq p.nm ⟨#[]⟩) (decide (p.n=0)) (decide (((p.ks.length:Nat):Int)=2)) (true) (true))) h:=by
 refine aC kr kr (aN (Tree.pr p)) rfl (Tree.val _) (ah bN fun s hs hh hd=>?_) h;have h0:=hs 0 _ rfl;rcases tri 2 ((p.ks.length:Nat):Int) with⟨L1,L2,L3⟩|⟨L1,L2,L3⟩|⟨L1,L2,L3⟩
 all_goals cases e:strEq p.nm ⟨#[]⟩<;>cases z:decide (p.n=0)<;>simp-implicitDefEqProofs only[ag,f114,V,↓reduceIte,rA,reduceCtorEq,rD,rE,h0,hh,hd,hk,uv,rT,nodeS,e,z,L1,L2,L3]
theorem oE(p:Pr)(hk:p.op=13)(h:AH):RunCall E1 (.f 114) [p.av] h (vI (nodeS false (strEq p.nm ⟨#[]⟩) (decide (p.n=0)) (decide (((p.ks.length:Nat):Int)=2)) (true) (true))) h:=by
 refine aC kr kr (aN (Tree.pr p)) rfl (Tree.val _) (ah bN fun s hs hh hd=>?_) h;have h0:=hs 0 _ rfl;rcases tri 2 ((p.ks.length:Nat):Int) with⟨L1,L2,L3⟩|⟨L1,L2,L3⟩|⟨L1,L2,L3⟩
 all_goals cases e:strEq p.nm ⟨#[]⟩<;>cases z:decide (p.n=0)<;>simp-implicitDefEqProofs only[ag,f114,V,↓reduceIte,rA,reduceCtorEq,rD,rE,h0,hh,hd,hk,uu,rS,nodeS,e,z,L1,L2,L3]
theorem oD(p:Pr)(hk:p.op=14)(h:AH):RunCall E1 (.f 114) [p.av] h (vI (nodeS false (strEq p.nm ⟨#[]⟩) (decide (p.n=0)) (decide (((p.ks.length:Nat):Int)=1)) (true) (true))) h:=by
 refine aC kr kr (aN (Tree.pr p)) rfl (Tree.val _) (ah bN fun s hs hh hd=>?_) h;have h0:=hs 0 _ rfl;rcases tri 1 ((p.ks.length:Nat):Int) with⟨L1,L2,L3⟩|⟨L1,L2,L3⟩|⟨L1,L2,L3⟩
 all_goals cases e:strEq p.nm ⟨#[]⟩<;>cases z:decide (p.n=0)<;>simp-implicitDefEqProofs only[ag,f114,V,↓reduceIte,rA,reduceCtorEq,rD,rE,h0,hh,hd,hk,ut,rR,nodeS,e,z,L1,L2,L3]
theorem oC(p:Pr)(hk:p.op=15)(h:AH):RunCall E1 (.f 114) [p.av] h (vI (nodeS false (strEq p.nm ⟨#[]⟩) (decide (p.n=0)) (decide (((p.ks.length:Nat):Int)=2)) (true) (true))) h:=by
 refine aC kr kr (aN (Tree.pr p)) rfl (Tree.val _) (ah bN fun s hs hh hd=>?_) h;have h0:=hs 0 _ rfl;rcases tri 2 ((p.ks.length:Nat):Int) with⟨L1,L2,L3⟩|⟨L1,L2,L3⟩|⟨L1,L2,L3⟩
 all_goals cases e:strEq p.nm ⟨#[]⟩<;>cases z:decide (p.n=0)<;>simp-implicitDefEqProofs only[ag,f114,V,↓reduceIte,rA,reduceCtorEq,rD,rE,h0,hh,hd,hk,ur,rQ,nodeS,e,z,L1,L2,L3]
theorem nz(p:Pr)(hk:p.op=16)(h:AH):RunCall E1 (.f 114) [p.av] h (vI (nodeS false (strEq p.nm ⟨#[]⟩) (decide (p.n=0)) (decide (((p.ks.length:Nat):Int)=2)) (true) (true))) h:=by
 refine aC kr kr (aN (Tree.pr p)) rfl (Tree.val _) (ah bN fun s hs hh hd=>?_) h;have h0:=hs 0 _ rfl;rcases tri 2 ((p.ks.length:Nat):Int) with⟨L1,L2,L3⟩|⟨L1,L2,L3⟩|⟨L1,L2,L3⟩
 all_goals cases e:strEq p.nm ⟨#[]⟩<;>cases z:decide (p.n=0)<;>simp-implicitDefEqProofs only[ag,f114,V,↓reduceIte,rA,reduceCtorEq,rD,rE,h0,hh,hd,hk,uq,rP,nodeS,e,z,L1,L2,L3]
theorem ny(p:Pr)(hk:p.op=17)(h:AH):RunCall E1 (.f 114) [p.av] h (vI (nodeS false (strEq p.nm ⟨#[]⟩) (decide (p.n=0)) (decide (((p.ks.length:Nat):Int)=2)) (true) (true))) h:=by
 refine aC kr kr (aN (Tree.pr p)) rfl (Tree.val _) (ah bN fun s hs hh hd=>?_) h;have h0:=hs 0 _ rfl;rcases tri 2 ((p.ks.length:Nat):Int) with⟨L1,L2,L3⟩|⟨L1,L2,L3⟩|⟨L1,L2,L3⟩
 all_goals cases e:strEq p.nm ⟨#[]⟩<;>cases z:decide (p.n=0)<;>simp-implicitDefEqProofs only[ag,f114,V,↓reduceIte,rA,reduceCtorEq,rD,rE,h0,hh,hd,hk,uo,rO,nodeS,e,z,L1,L2,L3]
theorem nw(p:Pr)(hk:p.op=18)(h:AH):RunCall E1 (.f 114) [p.av] h (vI (nodeS false (strEq p.nm ⟨#[]⟩) (decide (p.n=0)) (decide (((p.ks.length:Nat):Int)=2)) (true) (true))) h:=by
 refine aC kr kr (aN (Tree.pr p)) rfl (Tree.val _) (ah bN fun s hs hh hd=>?_) h;have h0:=hs 0 _ rfl;rcases tri 2 ((p.ks.length:Nat):Int) with⟨L1,L2,L3⟩|⟨L1,L2,L3⟩|⟨L1,L2,L3⟩
 all_goals cases e:strEq p.nm ⟨#[]⟩<;>cases z:decide (p.n=0)<;>simp-implicitDefEqProofs only[ag,f114,V,↓reduceIte,rA,reduceCtorEq,rD,rE,h0,hh,hd,hk,um,rN,nodeS,e,z,L1,L2,L3]
theorem ua(p:Pr)(hk:p.op=1)(h:AH):RunCall E1 (.f 79) [p.av] h (vI (nodeS true (strEq p.nm ⟨#[]⟩) (decide (p.n=0)) (decide (((p.ks.length:Nat):Int)=0)) (inB p.n) (true))) h:=by
 refine aC kr kr (aN (Tree.pr p)) rfl (Tree.val _) (ah bd fun s hs hh hd=>?_) h;have h0:=hs 0 _ rfl;rcases tri 0 ((p.ks.length:Nat):Int) with⟨L1,L2,L3⟩|⟨L1,L2,L3⟩|⟨L1,L2,L3⟩
 all_goals cases e:strEq p.nm ⟨#[]⟩<;>cases z:decide (p.n=0)<;>cases i:inB p.n<;>simp-implicitDefEqProofs only[bK,f79,V,↓reduceIte,rA,reduceCtorEq,rD,rE,h0,hh,hd,hk,yD,ul,Vh,aA (my p hk),nodeS,e,z,i,L3]
theorem uZ(p:Pr)(hk:p.op=2)(h:AH):RunCall E1 (.f 79) [p.av] h (vI (nodeS true (strEq p.nm ⟨#[]⟩) (decide (p.n=0)) (decide (((p.ks.length:Nat):Int)=0)) ((decide (p.n=0)||decide (p.n=1))) (true))) h:=by
 refine aC kr kr (aN (Tree.pr p)) rfl (Tree.val _) (ah bd fun s hs hh hd=>?_) h;have h0:=hs 0 _ rfl;rcases bits p.n with⟨z,o,b1,b2⟩|⟨z,o,b1,b2⟩|⟨z,o,b1,b2⟩|⟨z,o,b1,b2⟩
 all_goals rcases tri 0 ((p.ks.length:Nat):Int) with⟨L1,L2,L3⟩|⟨L1,L2,L3⟩|⟨L1,L2,L3⟩
 all_goals cases e:strEq p.nm ⟨#[]⟩<;>simp-implicitDefEqProofs only[bK,f79,V,↓reduceIte,rA,reduceCtorEq,rD,rE,h0,hh,hd,hk,yC,uk,aA (mw p hk),nodeS,e,z,o,b1,b2,L3]
theorem uY(p:Pr)(hk:p.op=6)(h:AH):RunCall E1 (.f 79) [p.av] h (vI (nodeS false (strEq p.nm ⟨#[]⟩) (decide (p.n=0)) (decide (((p.ks.length:Nat):Int)=2)) (true) (true))) h:=by
 refine aC kr kr (aN (Tree.pr p)) rfl (Tree.val _) (ah bd fun s hs hh hd=>?_) h;have h0:=hs 0 _ rfl;rcases tri 2 ((p.ks.length:Nat):Int) with⟨L1,L2,L3⟩|⟨L1,L2,L3⟩|⟨L1,L2,L3⟩
 all_goals cases e:strEq p.nm ⟨#[]⟩<;>cases z:decide (p.n=0)<;>simp-implicitDefEqProofs only[bK,f79,V,↓reduceIte,rA,reduceCtorEq,rD,rE,h0,hh,hd,hk,x8,uj,aA (mu p hk),nodeS,e,z,L3]
theorem uX(p:Pr)(hk:p.op=7)(h:AH):RunCall E1 (.f 79) [p.av] h (vI (nodeS false (strEq p.nm ⟨#[]⟩) (decide (p.n=0)) (decide (((p.ks.length:Nat):Int)=2)) (true) (true))) h:=by
 refine aC kr kr (aN (Tree.pr p)) rfl (Tree.val _) (ah bd fun s hs hh hd=>?_) h;have h0:=hs 0 _ rfl;rcases tri 2 ((p.ks.length:Nat):Int) with⟨L1,L2,L3⟩|⟨L1,L2,L3⟩|⟨L1,L2,L3⟩
 all_goals cases e:strEq p.nm ⟨#[]⟩<;>cases z:decide (p.n=0)<;>simp-implicitDefEqProofs only[bK,f79,V,↓reduceIte,rA,reduceCtorEq,rD,rE,h0,hh,hd,hk,xz,uh,aA (mt p hk),nodeS,e,z,L3]
theorem uW(p:Pr)(hk:p.op=8)(h:AH):RunCall E1 (.f 79) [p.av] h (vI (nodeS false (strEq p.nm ⟨#[]⟩) (decide (p.n=0)) (decide (((p.ks.length:Nat):Int)=2)) (true) (decide (p.kid0=1)))) h:=by
 refine aC kr kr (aN (Tree.pr p)) rfl (Tree.val _) (ah bd fun s hs hh hd=>?_) h;have h0:=hs 0 _ rfl;have ek:∀k0 r,p.ks=k0::r→p.kid0=k0.op∧idxAddrSV 4 p.kids 0=some (.iptr (k0.cells++Pr.cellsL r)):=fun k0 r e=>⟨by simp only[Pr.kid0,e],dt (i:=0) (by rw[j9,e])⟩
 rcases tri 2 ((p.ks.length:Nat):Int) with⟨L1,L2,L3⟩|⟨L1,L2,L3⟩|⟨L1,L2,L3⟩
 ·cases e:strEq p.nm ⟨#[]⟩<;>cases z:decide (p.n=0)<;>simp-implicitDefEqProofs only[bK,f79,V,↓reduceIte,rA,reduceCtorEq,rD,rE,h0,hh,hd,hk,fG,eU,nodeS,e,z,L3]
 ·obtain⟨k0,r,e0⟩:∃k0 r,p.ks=k0::r:=by
   cases hks:p.ks with
   |nil=>rw[hks] at L3;cases L3
   |cons a b=>exact⟨a,b,rfl⟩
  obtain⟨e1,e2⟩:=ek k0 r e0;cases e:strEq p.nm ⟨#[]⟩<;>cases z:decide (p.n=0)<;>cases q:decide (k0.op=1)<;>simp-implicitDefEqProofs only[bK,f79,V,↓reduceIte,rA,reduceCtorEq,rD,rE,h0,hh,hd,hk,fG,eU,aA (ms p hk),nodeS,e,z,L3,q,e1,e2,Mm k0 0 (Pr.cellsL r) rfl,Lo]
 ·cases e:strEq p.nm ⟨#[]⟩<;>cases z:decide (p.n=0)<;>simp-implicitDefEqProofs only[bK,f79,V,↓reduceIte,rA,reduceCtorEq,rD,rE,h0,hh,hd,hk,fG,eU,nodeS,e,z,L3]
theorem uV(p:Pr)(hk:p.op=9)(h:AH):RunCall E1 (.f 79) [p.av] h (vI (nodeS false (strEq p.nm ⟨#[]⟩) (decide (p.n=0)) (decide (((p.ks.length:Nat):Int)=1)) (true) (true))) h:=by
 refine aC kr kr (aN (Tree.pr p)) rfl (Tree.val _) (ah bd fun s hs hh hd=>?_) h;have h0:=hs 0 _ rfl;rcases tri 1 ((p.ks.length:Nat):Int) with⟨L1,L2,L3⟩|⟨L1,L2,L3⟩|⟨L1,L2,L3⟩
 all_goals cases e:strEq p.nm ⟨#[]⟩<;>cases z:decide (p.n=0)<;>simp-implicitDefEqProofs only[bK,f79,V,↓reduceIte,rA,reduceCtorEq,rD,rE,h0,hh,hd,hk,xy,ug,aA (mr p hk),nodeS,e,z,L3]
theorem qz(p:Pr)(hk:p.op=10)(h:AH):RunCall E1 (.f 79) [p.av] h (vI (nodeS false (strEq p.nm ⟨#[]⟩) (decide (p.n=0)) (decide (((p.ks.length:Nat):Int)=2)) (true) (true))) h:=by
 refine aC kr kr (aN (Tree.pr p)) rfl (Tree.val _) (ah bd fun s hs hh hd=>?_) h;have h0:=hs 0 _ rfl;rcases tri 2 ((p.ks.length:Nat):Int) with⟨L1,L2,L3⟩|⟨L1,L2,L3⟩|⟨L1,L2,L3⟩
 all_goals cases e:strEq p.nm ⟨#[]⟩<;>cases z:decide (p.n=0)<;>simp-implicitDefEqProofs only[bK,f79,V,↓reduceIte,rA,reduceCtorEq,rD,rE,h0,hh,hd,hk,vG,rg,aA (lY p hk),nodeS,e,z,L3]
theorem qy(p:Pr)(hk:p.op=11)(h:AH):RunCall E1 (.f 79) [p.av] h (vI (nodeS false (strEq p.nm ⟨#[]⟩) (decide (p.n=0)) (decide (((p.ks.length:Nat):Int)=2)) (true) (true))) h:=by
 refine aC kr kr (aN (Tree.pr p)) rfl (Tree.val _) (ah bd fun s hs hh hd=>?_) h;have h0:=hs 0 _ rfl;rcases tri 2 ((p.ks.length:Nat):Int) with⟨L1,L2,L3⟩|⟨L1,L2,L3⟩|⟨L1,L2,L3⟩
 all_goals cases e:strEq p.nm ⟨#[]⟩<;>cases z:decide (p.n=0)<;>simp-implicitDefEqProofs only[bK,f79,V,↓reduceIte,rA,reduceCtorEq,rD,rE,h0,hh,hd,hk,vF,rf,aA (lX p hk),nodeS,e,z,L3]
theorem qx(p:Pr)(hk:p.op=12)(h:AH):RunCall E1 (.f 79) [p.av] h (vI (nodeS false (strEq p.nm ⟨#[]⟩) (decide (p.n=0)) (decide (((p.ks.length:Nat):Int)=2)) (true) (true))) h:=by
 refine aC kr kr (aN (Tree.pr p)) rfl (Tree.val _) (ah bd fun s hs hh hd=>?_) h;have h0:=hs 0 _ rfl;rcases tri 2 ((p.ks.length:Nat):Int) with⟨L1,L2,L3⟩|⟨L1,L2,L3⟩|⟨L1,L2,L3⟩
 all_goals cases e:strEq p.nm ⟨#[]⟩<;>cases z:decide (p.n=0)<;>simp-implicitDefEqProofs only[bK,f79,V,↓reduceIte,rA,reduceCtorEq,rD,rE,h0,hh,hd,hk,vD,re,aA (lW p hk),nodeS,e,z,L3]
theorem qw(p:Pr)(hk:p.op=13)(h:AH):RunCall E1 (.f 79) [p.av] h (vI (nodeS false (strEq p.nm ⟨#[]⟩) (decide (p.n=0)) (decide (((p.ks.length:Nat):Int)=2)) (true) (true))) h:=by
 refine aC kr kr (aN (Tree.pr p)) rfl (Tree.val _) (ah bd fun s hs hh hd=>?_) h;have h0:=hs 0 _ rfl;rcases tri 2 ((p.ks.length:Nat):Int) with⟨L1,L2,L3⟩|⟨L1,L2,L3⟩|⟨L1,L2,L3⟩
 all_goals cases e:strEq p.nm ⟨#[]⟩<;>cases z:decide (p.n=0)<;>simp-implicitDefEqProofs only[bK,f79,V,↓reduceIte,rA,reduceCtorEq,rD,rE,h0,hh,hd,hk,vC,rb,aA (lV p hk),nodeS,e,z,L3]
theorem qv(p:Pr)(hk:p.op=14)(h:AH):RunCall E1 (.f 79) [p.av] h (vI (nodeS false (strEq p.nm ⟨#[]⟩) (decide (p.n=0)) (decide (((p.ks.length:Nat):Int)=1)) (true) (true))) h:=by
 refine aC kr kr (aN (Tree.pr p)) rfl (Tree.val _) (ah bd fun s hs hh hd=>?_) h;have h0:=hs 0 _ rfl;rcases tri 1 ((p.ks.length:Nat):Int) with⟨L1,L2,L3⟩|⟨L1,L2,L3⟩|⟨L1,L2,L3⟩
 all_goals cases e:strEq p.nm ⟨#[]⟩<;>cases z:decide (p.n=0)<;>simp-implicitDefEqProofs only[bK,f79,V,↓reduceIte,rA,reduceCtorEq,rD,rE,h0,hh,hd,hk,vA,ra,aA (lU p hk),nodeS,e,z,L3]
theorem qu(p:Pr)(hk:p.op=15)(h:AH):RunCall E1 (.f 79) [p.av] h (vI (nodeS false (strEq p.nm ⟨#[]⟩) (decide (p.n=0)) (decide (((p.ks.length:Nat):Int)=2)) (true) (true))) h:=by
 refine aC kr kr (aN (Tree.pr p)) rfl (Tree.val _) (ah bd fun s hs hh hd=>?_) h;have h0:=hs 0 _ rfl;rcases tri 2 ((p.ks.length:Nat):Int) with⟨L1,L2,L3⟩|⟨L1,L2,L3⟩|⟨L1,L2,L3⟩
 all_goals cases e:strEq p.nm ⟨#[]⟩<;>cases z:decide (p.n=0)<;>simp-implicitDefEqProofs only[bK,f79,V,↓reduceIte,rA,reduceCtorEq,rD,rE,h0,hh,hd,hk,u9,rZ,aA (lT p hk),nodeS,e,z,L3]
theorem qt(p:Pr)(hk:p.op=16)(h:AH):RunCall E1 (.f 79) [p.av] h (vI (nodeS false (strEq p.nm ⟨#[]⟩) (decide (p.n=0)) (decide (((p.ks.length:Nat):Int)=2)) (true) (true))) h:=by
 refine aC kr kr (aN (Tree.pr p)) rfl (Tree.val _) (ah bd fun s hs hh hd=>?_) h;have h0:=hs 0 _ rfl;rcases tri 2 ((p.ks.length:Nat):Int) with⟨L1,L2,L3⟩|⟨L1,L2,L3⟩|⟨L1,L2,L3⟩
 all_goals cases e:strEq p.nm ⟨#[]⟩<;>cases z:decide (p.n=0)<;>simp-implicitDefEqProofs only[bK,f79,V,↓reduceIte,rA,reduceCtorEq,rD,rE,h0,hh,hd,hk,u7,rY,aA (lS p hk),nodeS,e,z,L3]
theorem qs(p:Pr)(hk:p.op=17)(h:AH):RunCall E1 (.f 79) [p.av] h (vI (nodeS false (strEq p.nm ⟨#[]⟩) (decide (p.n=0)) (decide (((p.ks.length:Nat):Int)=2)) (true) (true))) h:=by
 refine aC kr kr (aN (Tree.pr p)) rfl (Tree.val _) (ah bd fun s hs hh hd=>?_) h;have h0:=hs 0 _ rfl;rcases tri 2 ((p.ks.length:Nat):Int) with⟨L1,L2,L3⟩|⟨L1,L2,L3⟩|⟨L1,L2,L3⟩
 all_goals cases e:strEq p.nm ⟨#[]⟩<;>cases z:decide (p.n=0)<;>simp-implicitDefEqProofs only[bK,f79,V,↓reduceIte,rA,reduceCtorEq,rD,rE,h0,hh,hd,hk,uz,rX,aA (lR p hk),nodeS,e,z,L3]
theorem qr(p:Pr)(hk:p.op=18)(h:AH):RunCall E1 (.f 79) [p.av] h (vI (nodeS false (strEq p.nm ⟨#[]⟩) (decide (p.n=0)) (decide (((p.ks.length:Nat):Int)=2)) (true) (true))) h:=by
 refine aC kr kr (aN (Tree.pr p)) rfl (Tree.val _) (ah bd fun s hs hh hd=>?_) h;have h0:=hs 0 _ rfl;rcases tri 2 ((p.ks.length:Nat):Int) with⟨L1,L2,L3⟩|⟨L1,L2,L3⟩|⟨L1,L2,L3⟩
 all_goals cases e:strEq p.nm ⟨#[]⟩<;>cases z:decide (p.n=0)<;>simp-implicitDefEqProofs only[bK,f79,V,↓reduceIte,rA,reduceCtorEq,rD,rE,h0,hh,hd,hk,uy,rW,aA (lQ p hk),nodeS,e,z,L3]
mutual
def chk(N:Pr→Int):Pr→Int
 |.mk o nm n ks nl cap=>if N (.mk o nm n ks nl cap)=0 then chkL N ks else N (.mk o nm n ks nl cap)
def chkL(N:Pr→Int):List Pr→Int
 | []=>0
 |k::r=>if chk N k=0 then chkL N r else chk N k
end
theorem Fp{E:Env}(N:Pr→Int)(p:Pr):∀(r:List Pr) (i:Nat) (s:St),p.ks.drop i=r→i≤p.ks.length→i+r.length+2<2^62→
  (∀k∈r,∀h,RunCall E (.f 52) [k.av] h (vI (chk N k)) h)→
  s.eval (.t 13)=some p.kids→s.eval (.t 14)=some (vI (p.ks.length:Nat))→s.eval (.t 15)=some (vI i)→s.defers=[]→
  Run E yn s fun e s'=>s'.defers=[]∧(chkL N r=0∧e=.exit 0∨chkL N r≠0∧e=.ret∧s'.eval (.t 2)=some (vI (chkL N r)))
 | [],i,s,hd,hi,hb,ih,h7,h8,h9,hf=>by
  have hl:i=p.ks.length:=by
   have:=jz.1 hd;omega
  subst hl;have hlt:decide (((p.ks.length:Nat):Int)<(p.ks.length:Nat))=false:=by simp
  apply aB (rfl:yn=.loop mX);simp-implicitDefEqProofs only[mX,V,↓reduceIte,rA,reduceCtorEq,h8,h9,hf,hlt,chkL]
 |k::r,i,s,hd,hi,hb,ih,h7,h8,h9,hf=>by
  have hl:i<p.ks.length:=by
   rcases jt i p.ks.length with x|x
   ·exact x
   ·exact U35
  have hlt:decide ((i:Int)<(p.ks.length:Nat))=true:=by simp;omega
  have hd':p.ks.drop (i+1)=r:=by rw[←Am,hd];rfl
  have hs:∀h:AH,storeH (h.alloc (.cells [vI 0,vS ⟨#[]⟩,vI 0,.val (.slice none 0 0)] true)) 4 (.ptr h.next 0) k.cells=_:=fun h=>cL rfl k.len;have w1:IntKind.i64.wrap ((i:Int)+1)=((i+1:Nat):Int):=aD (n:=i+1) (by simp only[il] at hb;omega)
  apply aB (rfl:yn=.loop mX)
  by_cases c:chk N k=0
  ·have hq:chkL N (k::r)=chkL N r:=by simp only[chkL,c,if_true]
   have c':decide (chk N k=0)=true:=decide_eq_true c;simp-implicitDefEqProofs only[mX,V,↓reduceIte,rA,h7,h8,h9,hlt,dt hd,hs,aA (ih k ik),w1,c',hq];refine Fp N p r (i+1) _ hd' om (by simp only[il] at hb;omega) (fun k' hk=>ih k' (j4 _ hk)) ?_ ?_ ?_ ?_
   all_goals simp-implicitDefEqProofs only[V,↓reduceIte,rA,h7,h8,hf]
  ·have hq:chkL N (k::r)=chk N k:=by simp only[chkL,c,if_false]
   have c':decide (chk N k=0)=false:=decide_eq_false c;simp-implicitDefEqProofs only[mX,V,↓reduceIte,rA,reduceCtorEq,h7,h8,h9,hlt,hf,dt hd,hs,aA (ih k ik),c',hq];exact .inr c
mutual
theorem nW(N:Pr→Int)(hN:∀q h,RunCall E1 (.f 79) [q.av] h (vI (N q)) h):∀(p:Pr),p.nodes<2^61→∀h,RunCall E1 (.f 52) [p.av] h (vI (chk N p)) h
 |.mk o nm n ks nl cap,hb,h=>by
  have hb':1+Pr.nodesL ks<2^61:=hb;have hk:ks.length≤Pr.nodesL ks:=an ks;refine aC kr kr (aN (Tree.pr _)) rfl (Tree.val _) (ah aJD fun s hs hh hd=>?_) h;have h0:=hs 0 _ rfl;have hc:chk N (.mk o nm n ks nl cap)=if N (.mk o nm n ks nl cap)=0 then chkL N ks else N (.mk o nm n ks nl cap):=by simp only[chk]
  generalize hp:Pr.mk o nm n ks nl cap=p at*;have hks:p.ks=ks:=by rw[←hp];rfl
  by_cases c:N p=0
  ·have c':decide (N p=0)=true:=decide_eq_true c;rw[if_pos c] at hc;simp-implicitDefEqProofs only[Ke,f52,V,↓reduceIte,rA,h0,hh,aA (hN p),c',hc];refine(Fp N p ks 0 _ (by rw[j9,hks]) (ic _) om (fun k hk=>kn N hN ks om k hk) ?_ ?_ ?_ ?_).mono ?_
   ·exact U36
   ·exact U37
   ·exact U37
   ·exact U40
   ·rintro e s' ⟨hf,⟨z,rfl⟩|⟨z,rfl,h2⟩⟩
    ·have:Nat.beq 0 0=true:=rfl;simp-implicitDefEqProofs only[V,↓reduceIte,reduceCtorEq,this,hf,z]
    ·simp-implicitDefEqProofs only[V,reduceCtorEq,hf,h2]
  ·have c':decide (N p=0)=false:=decide_eq_false c;rw[if_neg c] at hc;simp-implicitDefEqProofs only[Ke,f52,V,↓reduceIte,rA,reduceCtorEq,h0,hh,hd,aA (hN p),c',hc]
theorem kn(N:Pr→Int)(hN:∀q h,RunCall E1 (.f 79) [q.av] h (vI (N q)) h):∀(l:List Pr),Pr.nodesL l<2^61→∀k∈l,∀h,RunCall E1 (.f 52) [k.av] h (vI (chk N k)) h
 | [],_,k,hk,_=>by cases hk
 |a::r,hb,k,hk,h=>by
  have hb':a.nodes+Pr.nodesL r<2^61:=hb;rcases ie.1 hk with e|hk
  ·rw[e];exact nW N hN a om h
  ·exact kn N hN r om k hk h
end
end Go.Proofs.YtkhblipgiijoiaaGreatDoor
