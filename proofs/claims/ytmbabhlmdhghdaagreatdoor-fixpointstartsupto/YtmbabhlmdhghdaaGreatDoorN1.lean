/- VNodes VDepth VNum VKids VNode VForm -/
import Derived.Test.YtmbabhlmdhghdaaGreatDoorW2
set_option linter.all false
open Nat renaming reduceEqDiff->rA, reduceAdd->rB, reduceMul->rC
open Int renaming reduceEq->rD, reduceLT->rE, reduceLE->rF
open Option renaming some->Z, none->Y
open Bool renaming true->J, false->U
open List renaming mem_cons_of_mem->iy, mem_cons_self->ip
open Nat renaming zero_le->il
open Go.Proofs.Tryz renaming prog->ib
namespace Go.Proofs.YtmbabhlmdhghdaaGreatDoor
open Go Go.AM
mutual
def Pr.nodes:Pr->Nat
 |.mk _ _ _ ks _ _=>1+Pr.aI ks
def Pr.aI:List Pr->Nat
 | []=>0
 |k::r=>k.nodes+Pr.aI r
end
theorem rl:∀l:List Pr,l.length<=Pr.aI l
 | []=>Nat.le_refl _
 |.mk _ _ _ ks _ _::r=>by
  have:=rl r
  grind [Pr.aI,Pr.nodes]
theorem Pr.pg(p:Pr):p.nodes=1+Pr.aI p.ks:=by cases p;rfl
theorem sP{n:Nat}(h:n<2^62):IntKind.i64.wrap (n:Int)=(n:Int):=by
 grind [IntWalk.i64_in]
theorem bHB{g:Nat}{l:List AV}{r:AV}{a:ax}(hf:aR ib g=Z a)
  (h:wp E1 a.body {tm:=bg l 0 .nil,h:=.empty,defers:=[],round:=Y} λe s=>(e=.normal\/e=.ret)/\s.defers=[]/\ay E1.aY s a.res=Z [r]):Ans E1 g l r:=
 bON (by grind [bAM]) h
theorem sQ{g:Nat}{l:List AV}{r:AV}{a:ax}(hf:aR ib g=Z a)
  (h:∀s:St,(∀i v,(bg l 0 .nil).get i=Z v->s.eval (.t i)=Z v)->s.h=.empty->s.defers=[]->wp E1 a.body s λe s=>(e=.normal\/e=.ret)/\s.defers=[]/\ay E1.aY s a.res=Z [r]):Ans E1 g l r:=
 bHB hf (h _ (λ_ _ h=>h) rfl rfl)
theorem bTD{g:Nat}{l rs:List AV}{a:ax}(hf:aR ib g=Z a)
  (h:wp E1 a.body {tm:=bg l 0 .nil,h:=.empty,defers:=[],round:=Y} λe s=>(e=.normal\/e=.ret)/\s.defers=[]/\ay E1.aY s a.res=Z rs):Ans E1 g l (bQ rs):=
 bHA (by grind [bAM]) h
theorem Qx{g:Nat}{l rs:List AV}{a:ax}(hf:aR ib g=Z a)
  (h:∀s:St,(∀i v,(bg l 0 .nil).get i=Z v->s.eval (.t i)=Z v)->s.h=.empty->s.defers=[]->wp E1 a.body s λe s=>(e=.normal\/e=.ret)/\s.defers=[]/\ay E1.aY s a.res=Z rs):Ans E1 g l (bQ rs):=
 bTD hf (h _ (λ_ _ h=>h) rfl rfl)
theorem aBD{E:Env}(p:Pr):∀(r:List Pr) (i acc:Nat) (s:St),p.ks.drop i=r->i<=p.ks.length->i+r.length+2<2^62->acc+Pr.aI r<2^62->
  (∀k∈r,∀h,aE E (.f 13) [k.av] h (vI k.nodes) h)->
  s.eval (.t 7)=Z p.kids->s.eval (.t 8)=Z (vI (p.ks.length:Nat))->s.eval (.t 9)=Z (vI i)->s.eval (.t 3)=Z (vI acc)->s.defers=[]->
  Run E Vn s λe s'=>e=.exit 0/\s'.eval (.t 3)=Z (vI (acc+Pr.aI r:Nat))/\s'.defers=[]
 | [],i,acc,s,hd,hi,hb,hc,ih,h7,h8,h9,h3,hf=>by
  have hl:i=p.ks.length:=by
   grind
  subst hl;have hlt:=U193;apply az (rfl:Vn=.loop po);simp[po,V,Pr.aI, *]
 |k::r,i,acc,s,hd,hi,hb,hc,ih,h7,h8,h9,h3,hf=>by
  have hl:i<p.ks.length:=by
   grind
  have hlt:=U194;have hd':=U195;have hn:k.nodes+Pr.aI r=Pr.aI (k::r):=rfl;have hs:∀h:AH,eu (h.alloc (.cells [vI 0,vS ⟨#[]⟩,vI 0,.val (.slice Y 0 0)] J)) 4 (.ptr h.next 0) k.cells=_:=λh=>vW rfl k.len;have w1:=U196;have w2:IntKind.i64.wrap ((acc:Int)+(k.nodes:Nat))=((acc+k.nodes:Nat):Int):=by
   rw[<-Int.natCast_add];exact sP om
  apply az (rfl:Vn=.loop po);simp only[po,V,sY hd,ac (ih k ip),seval, *];have hq:acc+Pr.aI (k::r)=(acc+k.nodes)+Pr.aI r:=om;rw[hq];refine aBD p r (i+1) (acc+k.nodes) _ hd' om Gr om (λk' hk=>ih k' (iy _ hk)) ?_ ?_ ?_ ?_ ?_
  all_goals simp[V, *]
mutual
theorem sg:∀(p:Pr),p.nodes<2^61->∀h,aE E1 (.f 13) [p.av] h (vI p.nodes) h
 |.mk o nm n ks nl cap,hb,h=>by
  have hb':=U197;have hk:=U198;refine eK rf rf (qr (Tree.pr _)) rfl (Tree.val _) (bHB bNR ?_) h;have h0:=U199;simp[aYU,f13,V,sC h0];refine(aBD (.mk o nm n ks nl cap) ks 0 1 _ rfl (il _) om om (λk hk=>xl ks om k hk) ?_ ?_ ?_ ?_ ?_).mono ?_
  ·rfl
  ·rfl
  ·rfl
  ·rfl
  ·rfl
  ·rintro e s' ⟨rfl,h3,hf⟩;have:=U159;simp only[V, *]<;>rfl
theorem xl:∀(l:List Pr),Pr.aI l<2^61->∀k∈l,∀h,aE E1 (.f 13) [k.av] h (vI k.nodes) h
 | [],_,k,hk,_=>by cases hk
 |a::r,hb,k,hk,h=>by
  have hb':=U200;rcases U201 with e|hk
  ·rw[e];exact sg a om h
  ·exact xl r om k hk h
end
mutual
def Pr.depth:Pr->Nat
 |.mk _ _ _ ks _ _=>Pr.dU ks+1
def Pr.dU:List Pr->Nat
 | []=>0
 |k::r=>max k.depth (Pr.dU r)
end
mutual
theorem aBN:∀p:Pr,p.depth<=p.nodes
 |.mk _ _ _ ks _ _=>by
  have:=wM ks
  grind [Pr.depth,Pr.nodes]
theorem wM:∀l:List Pr,Pr.dU l<=Pr.aI l
 | []=>Nat.le_refl _
 |k::r=>by
  have:=aBN k;have:=wM r
  grind [Pr.dU,Pr.aI]
end
theorem aBC{E:Env}(p:Pr):∀(r:List Pr) (i acc:Nat) (s:St),p.ks.drop i=r->i<=p.ks.length->i+r.length+2<2^62->
  (∀k∈r,∀h,aE E (.f 14) [k.av] h (vI k.depth) h)->
  s.eval (.t 7)=Z p.kids->s.eval (.t 8)=Z (vI (p.ks.length:Nat))->s.eval (.t 9)=Z (vI i)->s.eval (.t 3)=Z (vI acc)->s.defers=[]->
  Run E Vm s λe s'=>e=.exit 0/\s'.eval (.t 3)=Z (vI (max acc (Pr.dU r):Nat))/\s'.defers=[]
 | [],i,acc,s,hd,hi,hb,ih,h7,h8,h9,h3,hf=>by
  have hl:i=p.ks.length:=by
   grind
  subst hl;have hlt:=U193;apply az (rfl:Vm=.loop rM);simp[rM,V,Pr.dU, *]
 |k::r,i,acc,s,hd,hi,hb,ih,h7,h8,h9,h3,hf=>by
  have hl:i<p.ks.length:=by
   grind
  have hlt:=U194;have hd':=U195;have hs:∀h:AH,eu (h.alloc (.cells [vI 0,vS ⟨#[]⟩,vI 0,.val (.slice Y 0 0)] J)) 4 (.ptr h.next 0) k.cells=_:=λh=>vW rfl k.len;have w1:=U196;apply az (rfl:Vm=.loop rM);simp only[rM,V,sY hd,ac (ih k ip),seval, *];have hq:max acc (Pr.dU (k::r))=max (max acc k.depth) (Pr.dU r):=by
   have:=U202;omega
  rw[hq];refine aBC p r (i+1) (max acc k.depth) _ hd' om Gr (λk' hk=>ih k' (iy _ hk)) ?_ ?_ ?_ ?_ ?_
  all_goals simp[V, *]
mutual
theorem uG:∀(p:Pr),p.nodes<2^61->∀h,aE E1 (.f 14) [p.av] h (vI p.depth) h
 |.mk o nm n ks nl cap,hb,h=>by
  have hb':=U197;have hk:=U198;have hd:Pr.dU ks<=Pr.aI ks:=wM ks;have w1:IntKind.i64.wrap (((max 0 (Pr.dU ks):Nat):Int)+1)=(((Pr.mk o nm n ks nl cap).depth:Nat):Int):=by
   rw[Nat.zero_max];exact sP (n:=Pr.dU ks+1) om
  refine eK rf rf (qr (Tree.pr _)) rfl (Tree.val _) (bHB bNQ ?_) h;have h0:=U199;simp[aYT,f14,V,sC h0];refine(aBC (.mk o nm n ks nl cap) ks 0 0 _ rfl (il _) om (λk hk=>xw ks om k hk) ?_ ?_ ?_ ?_ ?_).mono ?_
  ·rfl
  ·rfl
  ·rfl
  ·rfl
  ·rfl
  ·rintro e s' ⟨rfl,h3,hf⟩;have:=U159;simp only[V, *]<;>rfl
theorem xw:∀(l:List Pr),Pr.aI l<2^61->∀k∈l,∀h,aE E1 (.f 14) [k.av] h (vI k.depth) h
 | [],_,k,hk,_=>by cases hk
 |a::r,hb,k,hk,h=>by
  have hb':=U200;rcases U201 with e|hk
  ·rw[e];exact uG a om h
  ·exact xw r om k hk h
end
def inB(n:Int):Bool:=decide (-1000000000000<=n)&&decide (n<=1000000000000)
theorem uj{n:Int}:inB n=J↔ -1000000000000<=n/\n<=1000000000000:=by
 simp[inB]
def prA(x:Int×Bool):AV:=.tup [vI x.1,Vb x.2]
def okP(n:Int)(b:Bool):Int×Bool:=bif b&&inB n then(n,J) else(0,U)
def arith(a b c:Int):Int×Bool:=bif inB a&&inB b then okP c J else(0,U)
def tr(b:Bool):Int:=bif b then 1 else 0
theorem aEM(n:Int)(h:AH):aE E1 (.f 163) [vI n] h (Vb (inB n)) h:=by
 refine eK rf rf (qr (Tree.val _)) rfl (Tree.val _) (bHB bFA ?_) h;have h0:(bg [vI n] 0 .nil).get 0=Z (vI n):=rfl;unfold inB
 by_cases a: -1000000000000<=n<;>by_cases b:n<=1000000000000<;>simp only[aJS,f163,V,↓reduceIte,rA,reduceCtorEq,sC h0,a,b]
theorem sZ{n:Int}{r:List aW}{s:St}{dst:Option Nat}{K:St->Prop}:bo E1 163 r s dst K (Z [vI n])=AM.wpOps E1 r (s.put dst (Vb (inB n))) K:=ac (aEM n)
theorem Gw{n:Int}(h1: -4000000000000<=n)(h2:n<=4000000000000):IntKind.i64.wrap n=n:=IntWalk.i64_in _ om
set_option maxHeartbeats 4000000
theorem Jo(n:Int)(h:AH):aE E1 (.f 257) [vI 1,vI n] h (Vb (decide (n=0))) h:=by
 refine eK rf rf (sE (Tree.val _) (Tree.val _)) rfl (Tree.val _) (sQ Ut λs hs hh hd=>?_) h;have h0:=hs 0 _ rfl;have h1:=hs 1 _ rfl;cases a:decide (1<=n)<;>simp only[pR,f257,V,↓reduceIte,rA,reduceCtorEq,h0,h1,hd]
theorem Tc{n:Int}{r:List aW}{s:St}{dst:Option Nat}{K:St->Prop}:bo E1 257 r s dst K (Z [vI 1,vI n])=AM.wpOps E1 r (s.put dst (Vb (decide (n=0)))) K:=ac (Jo n)
theorem Fs(h:AH):aE E1 (.f 256) [vI 1] h (Vb U) h:=U5
theorem Mk{r:List aW}{s:St}{dst:Option Nat}{K:St->Prop}:bo E1 256 r s dst K (Z [vI 1])=AM.wpOps E1 r (s.put dst (Vb U)) K:=ac Fs
theorem Jn(n:Int)(h:AH):aE E1 (.f 257) [vI 2,vI n] h (Vb (decide (n=0))) h:=U6
theorem Tb{n:Int}{r:List aW}{s:St}{dst:Option Nat}{K:St->Prop}:bo E1 257 r s dst K (Z [vI 2,vI n])=AM.wpOps E1 r (s.put dst (Vb (decide (n=0)))) K:=ac (Jn n)
theorem Fr(h:AH):aE E1 (.f 256) [vI 2] h (Vb U) h:=U5
theorem Mj{r:List aW}{s:St}{dst:Option Nat}{K:St->Prop}:bo E1 256 r s dst K (Z [vI 2])=AM.wpOps E1 r (s.put dst (Vb U)) K:=ac Fr
theorem Jm(n:Int)(h:AH):aE E1 (.f 257) [vI 3,vI n] h (Vb (decide (n=0))) h:=U6
theorem Ta{n:Int}{r:List aW}{s:St}{dst:Option Nat}{K:St->Prop}:bo E1 257 r s dst K (Z [vI 3,vI n])=AM.wpOps E1 r (s.put dst (Vb (decide (n=0)))) K:=ac (Jm n)
theorem Fq(h:AH):aE E1 (.f 256) [vI 3] h (Vb J) h:=by
 refine eK rf rf (qr (Tree.val _)) rfl (Tree.val _) (sQ aJF λs hs hh hd=>?_) h;have h0:=hs 0 _ rfl;simp only[Uu,f256,V,↓reduceIte,rA,reduceCtorEq,h0,hd]
theorem xo{r:List aW}{s:St}{dst:Option Nat}{K:St->Prop}:bo E1 256 r s dst K (Z [vI 3])=AM.wpOps E1 r (s.put dst (Vb J)) K:=ac Fq
theorem Jl(n:Int)(h:AH):aE E1 (.f 257) [vI 4,vI n] h (Vb (decide (1<=n)&&decide (n<=24))) h:=U7
theorem Sz{n:Int}{r:List aW}{s:St}{dst:Option Nat}{K:St->Prop}:bo E1 257 r s dst K (Z [vI 4,vI n])=AM.wpOps E1 r (s.put dst (Vb (decide (1<=n)&&decide (n<=24)))) K:=ac (Jl n)
theorem Fp(h:AH):aE E1 (.f 256) [vI 4] h (Vb J) h:=U5
theorem xn{r:List aW}{s:St}{dst:Option Nat}{K:St->Prop}:bo E1 256 r s dst K (Z [vI 4])=AM.wpOps E1 r (s.put dst (Vb J)) K:=ac Fp
theorem Jk(n:Int)(h:AH):aE E1 (.f 257) [vI 5,vI n] h (Vb (decide (1<=n)&&decide (n<=24))) h:=U7
theorem Sy{n:Int}{r:List aW}{s:St}{dst:Option Nat}{K:St->Prop}:bo E1 257 r s dst K (Z [vI 5,vI n])=AM.wpOps E1 r (s.put dst (Vb (decide (1<=n)&&decide (n<=24)))) K:=ac (Jk n)
theorem Fo(h:AH):aE E1 (.f 256) [vI 5] h (Vb J) h:=U5
theorem xm{r:List aW}{s:St}{dst:Option Nat}{K:St->Prop}:bo E1 256 r s dst K (Z [vI 5])=AM.wpOps E1 r (s.put dst (Vb J)) K:=ac Fo
theorem Jj(n:Int)(h:AH):aE E1 (.f 257) [vI 6,vI n] h (Vb (decide (n=2))) h:=U6
theorem Sx{n:Int}{r:List aW}{s:St}{dst:Option Nat}{K:St->Prop}:bo E1 257 r s dst K (Z [vI 6,vI n])=AM.wpOps E1 r (s.put dst (Vb (decide (n=2)))) K:=ac (Jj n)
theorem Fm(h:AH):aE E1 (.f 256) [vI 6] h (Vb U) h:=U5
theorem Mi{r:List aW}{s:St}{dst:Option Nat}{K:St->Prop}:bo E1 256 r s dst K (Z [vI 6])=AM.wpOps E1 r (s.put dst (Vb U)) K:=ac Fm
theorem Ji(n:Int)(h:AH):aE E1 (.f 257) [vI 7,vI n] h (Vb (decide (n=2))) h:=U6
theorem Sw{n:Int}{r:List aW}{s:St}{dst:Option Nat}{K:St->Prop}:bo E1 257 r s dst K (Z [vI 7,vI n])=AM.wpOps E1 r (s.put dst (Vb (decide (n=2)))) K:=ac (Ji n)
theorem Fl(h:AH):aE E1 (.f 256) [vI 7] h (Vb U) h:=U5
theorem Mh{r:List aW}{s:St}{dst:Option Nat}{K:St->Prop}:bo E1 256 r s dst K (Z [vI 7])=AM.wpOps E1 r (s.put dst (Vb U)) K:=ac Fl
theorem Jh(n:Int)(h:AH):aE E1 (.f 257) [vI 8,vI n] h (Vb (decide (n=2))) h:=U6
theorem wH{n:Int}{r:List aW}{s:St}{dst:Option Nat}{K:St->Prop}:bo E1 257 r s dst K (Z [vI 8,vI n])=AM.wpOps E1 r (s.put dst (Vb (decide (n=2)))) K:=ac (Jh n)
theorem Fk(h:AH):aE E1 (.f 256) [vI 8] h (Vb U) h:=U5
theorem vP{r:List aW}{s:St}{dst:Option Nat}{K:St->Prop}:bo E1 256 r s dst K (Z [vI 8])=AM.wpOps E1 r (s.put dst (Vb U)) K:=ac Fk
theorem Jg(n:Int)(h:AH):aE E1 (.f 257) [vI 9,vI n] h (Vb (decide (n=1))) h:=U6
theorem Sv{n:Int}{r:List aW}{s:St}{dst:Option Nat}{K:St->Prop}:bo E1 257 r s dst K (Z [vI 9,vI n])=AM.wpOps E1 r (s.put dst (Vb (decide (n=1)))) K:=ac (Jg n)
theorem Fj(h:AH):aE E1 (.f 256) [vI 9] h (Vb U) h:=U5
theorem Mg{r:List aW}{s:St}{dst:Option Nat}{K:St->Prop}:bo E1 256 r s dst K (Z [vI 9])=AM.wpOps E1 r (s.put dst (Vb U)) K:=ac Fj
theorem Gd(n:Int)(h:AH):aE E1 (.f 257) [vI 10,vI n] h (Vb (decide (n=2))) h:=U6
theorem Mv{n:Int}{r:List aW}{s:St}{dst:Option Nat}{K:St->Prop}:bo E1 257 r s dst K (Z [vI 10,vI n])=AM.wpOps E1 r (s.put dst (Vb (decide (n=2)))) K:=ac (Gd n)
theorem Cf(h:AH):aE E1 (.f 256) [vI 10] h (Vb U) h:=U5
theorem Iy{r:List aW}{s:St}{dst:Option Nat}{K:St->Prop}:bo E1 256 r s dst K (Z [vI 10])=AM.wpOps E1 r (s.put dst (Vb U)) K:=ac Cf
theorem Gc(n:Int)(h:AH):aE E1 (.f 257) [vI 11,vI n] h (Vb (decide (n=2))) h:=U6
theorem Mu{n:Int}{r:List aW}{s:St}{dst:Option Nat}{K:St->Prop}:bo E1 257 r s dst K (Z [vI 11,vI n])=AM.wpOps E1 r (s.put dst (Vb (decide (n=2)))) K:=ac (Gc n)
theorem Ce(h:AH):aE E1 (.f 256) [vI 11] h (Vb U) h:=U5
theorem Ix{r:List aW}{s:St}{dst:Option Nat}{K:St->Prop}:bo E1 256 r s dst K (Z [vI 11])=AM.wpOps E1 r (s.put dst (Vb U)) K:=ac Ce
theorem Gb(n:Int)(h:AH):aE E1 (.f 257) [vI 12,vI n] h (Vb (decide (n=2))) h:=U6
theorem Mt{n:Int}{r:List aW}{s:St}{dst:Option Nat}{K:St->Prop}:bo E1 257 r s dst K (Z [vI 12,vI n])=AM.wpOps E1 r (s.put dst (Vb (decide (n=2)))) K:=ac (Gb n)
theorem Cd(h:AH):aE E1 (.f 256) [vI 12] h (Vb U) h:=U5
theorem Iw{r:List aW}{s:St}{dst:Option Nat}{K:St->Prop}:bo E1 256 r s dst K (Z [vI 12])=AM.wpOps E1 r (s.put dst (Vb U)) K:=ac Cd
theorem Ga(n:Int)(h:AH):aE E1 (.f 257) [vI 13,vI n] h (Vb (decide (n=2))) h:=U6
theorem Ms{n:Int}{r:List aW}{s:St}{dst:Option Nat}{K:St->Prop}:bo E1 257 r s dst K (Z [vI 13,vI n])=AM.wpOps E1 r (s.put dst (Vb (decide (n=2)))) K:=ac (Ga n)
theorem Cc(h:AH):aE E1 (.f 256) [vI 13] h (Vb U) h:=U5
theorem Iv{r:List aW}{s:St}{dst:Option Nat}{K:St->Prop}:bo E1 256 r s dst K (Z [vI 13])=AM.wpOps E1 r (s.put dst (Vb U)) K:=ac Cc
theorem Fy(n:Int)(h:AH):aE E1 (.f 257) [vI 14,vI n] h (Vb (decide (n=1))) h:=U6
theorem Mr{n:Int}{r:List aW}{s:St}{dst:Option Nat}{K:St->Prop}:bo E1 257 r s dst K (Z [vI 14,vI n])=AM.wpOps E1 r (s.put dst (Vb (decide (n=1)))) K:=ac (Fy n)
theorem Cb(h:AH):aE E1 (.f 256) [vI 14] h (Vb U) h:=U5
theorem Iu{r:List aW}{s:St}{dst:Option Nat}{K:St->Prop}:bo E1 256 r s dst K (Z [vI 14])=AM.wpOps E1 r (s.put dst (Vb U)) K:=ac Cb
theorem Fx(n:Int)(h:AH):aE E1 (.f 257) [vI 15,vI n] h (Vb (decide (n=2))) h:=U6
theorem Mp{n:Int}{r:List aW}{s:St}{dst:Option Nat}{K:St->Prop}:bo E1 257 r s dst K (Z [vI 15,vI n])=AM.wpOps E1 r (s.put dst (Vb (decide (n=2)))) K:=ac (Fx n)
theorem Ca(h:AH):aE E1 (.f 256) [vI 15] h (Vb U) h:=U5
theorem It{r:List aW}{s:St}{dst:Option Nat}{K:St->Prop}:bo E1 256 r s dst K (Z [vI 15])=AM.wpOps E1 r (s.put dst (Vb U)) K:=ac Ca
theorem Fv(n:Int)(h:AH):aE E1 (.f 257) [vI 16,vI n] h (Vb (decide (n=2))) h:=U6
theorem Mo{n:Int}{r:List aW}{s:St}{dst:Option Nat}{K:St->Prop}:bo E1 257 r s dst K (Z [vI 16,vI n])=AM.wpOps E1 r (s.put dst (Vb (decide (n=2)))) K:=ac (Fv n)
theorem Bz(h:AH):aE E1 (.f 256) [vI 16] h (Vb U) h:=U5
theorem Is{r:List aW}{s:St}{dst:Option Nat}{K:St->Prop}:bo E1 256 r s dst K (Z [vI 16])=AM.wpOps E1 r (s.put dst (Vb U)) K:=ac Bz
theorem Fu(n:Int)(h:AH):aE E1 (.f 257) [vI 17,vI n] h (Vb (decide (n=2))) h:=U6
theorem Mn{n:Int}{r:List aW}{s:St}{dst:Option Nat}{K:St->Prop}:bo E1 257 r s dst K (Z [vI 17,vI n])=AM.wpOps E1 r (s.put dst (Vb (decide (n=2)))) K:=ac (Fu n)
theorem Bx(h:AH):aE E1 (.f 256) [vI 17] h (Vb U) h:=U5
theorem Ir{r:List aW}{s:St}{dst:Option Nat}{K:St->Prop}:bo E1 256 r s dst K (Z [vI 17])=AM.wpOps E1 r (s.put dst (Vb U)) K:=ac Bx
theorem Ft(n:Int)(h:AH):aE E1 (.f 257) [vI 18,vI n] h (Vb (decide (n=2))) h:=U6
theorem Mm{n:Int}{r:List aW}{s:St}{dst:Option Nat}{K:St->Prop}:bo E1 257 r s dst K (Z [vI 18,vI n])=AM.wpOps E1 r (s.put dst (Vb (decide (n=2)))) K:=ac (Ft n)
theorem Bw(h:AH):aE E1 (.f 256) [vI 18] h (Vb U) h:=U5
theorem Iq{r:List aW}{s:St}{dst:Option Nat}{K:St->Prop}:bo E1 256 r s dst K (Z [vI 18])=AM.wpOps E1 r (s.put dst (Vb U)) K:=ac Bw
set_option maxHeartbeats 40000000
def cu(num e z l r m:Bool):Int:=bif !e||(!num&& !z)|| !l then 1 else bif !r then 2 else bif !m then 6 else 0
theorem tri(c n:Int):(decide (n<c)=J/\decide (c<n)=U/\decide (n=c)=U)\/(decide (n<c)=U/\decide (c<n)=U/\decide (n=c)=J)\/(decide (n<c)=U/\decide (c<n)=J/\decide (n=c)=U):=by
 grind
theorem bits(n:Int):(decide (n=0)=J/\decide (n=1)=U/\decide (n<0)=U/\decide (1<n)=U)\/(decide (n=0)=U/\decide (n=1)=J/\decide (n<0)=U/\decide (1<n)=U)\/
  (decide (n=0)=U/\decide (n=1)=U/\decide (n<0)=J/\decide (1<n)=U)\/(decide (n=0)=U/\decide (n=1)=U/\decide (n<0)=U/\decide (1<n)=J):=by
 grind
theorem bBO(k:Pr)(l:List AV):takeN Y ((k.cells++l).drop 0)=Z (vI k.op):=by rw[k.bS];rfl
def Pr.kid0(p:Pr):Int:=match p.ks with
 |k::_=>k.op
 | []=>0
theorem De(p:Pr)(hk:p.op=1)(h:AH):aE E1 (.f 258) [p.av] h (Vb J) h:=U4
theorem Dd(p:Pr)(hk:p.op=2)(h:AH):aE E1 (.f 258) [p.av] h (Vb J) h:=U4
theorem Dc(p:Pr)(hk:p.op=6)(h:AH):aE E1 (.f 258) [p.av] h (Vb J) h:=U4
theorem Db(p:Pr)(hk:p.op=7)(h:AH):aE E1 (.f 258) [p.av] h (Vb J) h:=U4
theorem Da(p:Pr)(hk:p.op=8)(h:AH):aE E1 (.f 258) [p.av] h (Vb J) h:=U4
theorem Cz(p:Pr)(hk:p.op=9)(h:AH):aE E1 (.f 258) [p.av] h (Vb J) h:=U4
theorem zp(p:Pr)(hk:p.op=10)(h:AH):aE E1 (.f 258) [p.av] h (Vb J) h:=U4
theorem zm(p:Pr)(hk:p.op=11)(h:AH):aE E1 (.f 258) [p.av] h (Vb J) h:=U4
theorem zl(p:Pr)(hk:p.op=12)(h:AH):aE E1 (.f 258) [p.av] h (Vb J) h:=U4
theorem zh(p:Pr)(hk:p.op=13)(h:AH):aE E1 (.f 258) [p.av] h (Vb J) h:=U4
theorem zf(p:Pr)(hk:p.op=14)(h:AH):aE E1 (.f 258) [p.av] h (Vb J) h:=U4
theorem ze(p:Pr)(hk:p.op=15)(h:AH):aE E1 (.f 258) [p.av] h (Vb J) h:=U4
theorem zc(p:Pr)(hk:p.op=16)(h:AH):aE E1 (.f 258) [p.av] h (Vb J) h:=U4
theorem zb(p:Pr)(hk:p.op=17)(h:AH):aE E1 (.f 258) [p.av] h (Vb J) h:=U4
theorem za(p:Pr)(hk:p.op=18)(h:AH):aE E1 (.f 258) [p.av] h (Vb J) h:=U4
theorem wu(p:Pr)(hk:p.op=1)(h:AH):aE E1 (.f 204) [p.av] h (vI (cu J (aP p.nm ⟨#[]⟩) (decide (p.n=0)) (decide (((p.ks.length:Nat):Int)=0)) (inB p.n) (J))) h:=by
 refine eK rf rf (qr (Tree.pr p)) rfl (Tree.val _) (sQ sS λs hs hh hd=>?_) h;have h0:=hs 0 _ rfl;rcases tri 0 ((p.ks.length:Nat):Int) with⟨L1,L2,L3⟩|⟨L1,L2,L3⟩|⟨L1,L2,L3⟩
 all_goals cases e:aP p.nm ⟨#[]⟩<;>cases z:decide (p.n=0)<;>cases i:inB p.n<;>simp only[bx,f204,V,↓reduceIte,rA,reduceCtorEq,rD,rE,h0,hh,hd,hk,Tc,Mk,sZ,ac (De p hk),cu,e,z,i,L3]
theorem Im(p:Pr)(hk:p.op=2)(h:AH):aE E1 (.f 204) [p.av] h (vI (cu J (aP p.nm ⟨#[]⟩) (decide (p.n=0)) (decide (((p.ks.length:Nat):Int)=0)) ((decide (p.n=0)||decide (p.n=1))) (J))) h:=by
 refine eK rf rf (qr (Tree.pr p)) rfl (Tree.val _) (sQ sS λs hs hh hd=>?_) h;have h0:=hs 0 _ rfl;rcases bits p.n with⟨z,o,b1,b2⟩|⟨z,o,b1,b2⟩|⟨z,o,b1,b2⟩|⟨z,o,b1,b2⟩
 all_goals rcases tri 0 ((p.ks.length:Nat):Int) with⟨L1,L2,L3⟩|⟨L1,L2,L3⟩|⟨L1,L2,L3⟩
 all_goals cases e:aP p.nm ⟨#[]⟩<;>simp only[bx,f204,V,↓reduceIte,rA,reduceCtorEq,rD,rE,h0,hh,hd,hk,Tb,Mj,ac (Dd p hk),cu,e,z,o,b1,b2,L3]
theorem Il(p:Pr)(hk:p.op=6)(h:AH):aE E1 (.f 204) [p.av] h (vI (cu U (aP p.nm ⟨#[]⟩) (decide (p.n=0)) (decide (((p.ks.length:Nat):Int)=2)) (J) (J))) h:=by
 refine eK rf rf (qr (Tree.pr p)) rfl (Tree.val _) (sQ sS λs hs hh hd=>?_) h;have h0:=hs 0 _ rfl;rcases U203 with⟨L1,L2,L3⟩|⟨L1,L2,L3⟩|⟨L1,L2,L3⟩
 all_goals cases e:aP p.nm ⟨#[]⟩<;>cases z:decide (p.n=0)<;>simp only[bx,f204,V,↓reduceIte,rA,reduceCtorEq,rD,rE,h0,hh,hd,hk,Sx,Mi,ac (Dc p hk),cu,e,z,L3]
theorem Ik(p:Pr)(hk:p.op=7)(h:AH):aE E1 (.f 204) [p.av] h (vI (cu U (aP p.nm ⟨#[]⟩) (decide (p.n=0)) (decide (((p.ks.length:Nat):Int)=2)) (J) (J))) h:=by
 refine eK rf rf (qr (Tree.pr p)) rfl (Tree.val _) (sQ sS λs hs hh hd=>?_) h;have h0:=hs 0 _ rfl;rcases U203 with⟨L1,L2,L3⟩|⟨L1,L2,L3⟩|⟨L1,L2,L3⟩
 all_goals cases e:aP p.nm ⟨#[]⟩<;>cases z:decide (p.n=0)<;>simp only[bx,f204,V,↓reduceIte,rA,reduceCtorEq,rD,rE,h0,hh,hd,hk,Sw,Mh,ac (Db p hk),cu,e,z,L3]
theorem Ij(p:Pr)(hk:p.op=8)(h:AH):aE E1 (.f 204) [p.av] h (vI (cu U (aP p.nm ⟨#[]⟩) (decide (p.n=0)) (decide (((p.ks.length:Nat):Int)=2)) (J) (decide (p.kid0=1)))) h:=by
 refine eK rf rf (qr (Tree.pr p)) rfl (Tree.val _) (sQ sS λs hs hh hd=>?_) h;have h0:=hs 0 _ rfl;have ek:∀k0 r,p.ks=k0::r->p.kid0=k0.op/\aX 4 p.kids 0=Z (.bD (k0.cells++Pr.aG r)):=by grind [Pr.kid0,sY]
 rcases U203 with⟨L1,L2,L3⟩|⟨L1,L2,L3⟩|⟨L1,L2,L3⟩
 ·cases e:aP p.nm ⟨#[]⟩<;>cases z:decide (p.n=0)<;>simp[bx,f204,V,wH,vP,cu, *]
 ·obtain⟨k0,r,e0⟩:∃k0 r,p.ks=k0::r:=by
   cases hks:p.ks<;>grind
  obtain⟨e1,e2⟩:=ek k0 r e0;cases e:aP p.nm ⟨#[]⟩<;>cases z:decide (p.n=0)<;>cases q:decide (k0.op=1)<;>simp only[bx,f204,V,↓reduceIte,rA,reduceCtorEq,rD,rE,h0,hh,hd,hk,wH,vP,ac (Da p hk),cu,e,z,L3,q,e1,e2,bEE k0 0 (Pr.aG r) rfl,bBO]
 ·cases e:aP p.nm ⟨#[]⟩<;>cases z:decide (p.n=0)<;>simp only[bx,f204,V,↓reduceIte,rA,reduceCtorEq,rD,rE,h0,hh,hd,hk,wH,vP,cu,e,z,L3]
theorem Ii(p:Pr)(hk:p.op=9)(h:AH):aE E1 (.f 204) [p.av] h (vI (cu U (aP p.nm ⟨#[]⟩) (decide (p.n=0)) (decide (((p.ks.length:Nat):Int)=1)) (J) (J))) h:=by
 refine eK rf rf (qr (Tree.pr p)) rfl (Tree.val _) (sQ sS λs hs hh hd=>?_) h;have h0:=hs 0 _ rfl;rcases tri 1 ((p.ks.length:Nat):Int) with⟨L1,L2,L3⟩|⟨L1,L2,L3⟩|⟨L1,L2,L3⟩
 all_goals cases e:aP p.nm ⟨#[]⟩<;>cases z:decide (p.n=0)<;>simp only[bx,f204,V,↓reduceIte,rA,reduceCtorEq,rD,rE,h0,hh,hd,hk,Sv,Mg,ac (Cz p hk),cu,e,z,L3]
theorem Fi(p:Pr)(hk:p.op=10)(h:AH):aE E1 (.f 204) [p.av] h (vI (cu U (aP p.nm ⟨#[]⟩) (decide (p.n=0)) (decide (((p.ks.length:Nat):Int)=2)) (J) (J))) h:=by
 refine eK rf rf (qr (Tree.pr p)) rfl (Tree.val _) (sQ sS λs hs hh hd=>?_) h;have h0:=hs 0 _ rfl;rcases U203 with⟨L1,L2,L3⟩|⟨L1,L2,L3⟩|⟨L1,L2,L3⟩
 all_goals cases e:aP p.nm ⟨#[]⟩<;>cases z:decide (p.n=0)<;>simp only[bx,f204,V,↓reduceIte,rA,reduceCtorEq,rD,rE,h0,hh,hd,hk,Mv,Iy,ac (zp p hk),cu,e,z,L3]
theorem Fh(p:Pr)(hk:p.op=11)(h:AH):aE E1 (.f 204) [p.av] h (vI (cu U (aP p.nm ⟨#[]⟩) (decide (p.n=0)) (decide (((p.ks.length:Nat):Int)=2)) (J) (J))) h:=by
 refine eK rf rf (qr (Tree.pr p)) rfl (Tree.val _) (sQ sS λs hs hh hd=>?_) h;have h0:=hs 0 _ rfl;rcases U203 with⟨L1,L2,L3⟩|⟨L1,L2,L3⟩|⟨L1,L2,L3⟩
 all_goals cases e:aP p.nm ⟨#[]⟩<;>cases z:decide (p.n=0)<;>simp only[bx,f204,V,↓reduceIte,rA,reduceCtorEq,rD,rE,h0,hh,hd,hk,Mu,Ix,ac (zm p hk),cu,e,z,L3]
theorem Fg(p:Pr)(hk:p.op=12)(h:AH):aE E1 (.f 204) [p.av] h (vI (cu U (aP p.nm ⟨#[]⟩) (decide (p.n=0)) (decide (((p.ks.length:Nat):Int)=2)) (J) (J))) h:=by
 refine eK rf rf (qr (Tree.pr p)) rfl (Tree.val _) (sQ sS λs hs hh hd=>?_) h;have h0:=hs 0 _ rfl;rcases U203 with⟨L1,L2,L3⟩|⟨L1,L2,L3⟩|⟨L1,L2,L3⟩
 all_goals cases e:aP p.nm ⟨#[]⟩<;>cases z:decide (p.n=0)<;>simp only[bx,f204,V,↓reduceIte,rA,reduceCtorEq,rD,rE,h0,hh,hd,hk,Mt,Iw,ac (zl p hk),cu,e,z,L3]
theorem Ff(p:Pr)(hk:p.op=13)(h:AH):aE E1 (.f 204) [p.av] h (vI (cu U (aP p.nm ⟨#[]⟩) (decide (p.n=0)) (decide (((p.ks.length:Nat):Int)=2)) (J) (J))) h:=by
 refine eK rf rf (qr (Tree.pr p)) rfl (Tree.val _) (sQ sS λs hs hh hd=>?_) h;have h0:=hs 0 _ rfl;rcases U203 with⟨L1,L2,L3⟩|⟨L1,L2,L3⟩|⟨L1,L2,L3⟩
 all_goals cases e:aP p.nm ⟨#[]⟩<;>cases z:decide (p.n=0)<;>simp only[bx,f204,V,↓reduceIte,rA,reduceCtorEq,rD,rE,h0,hh,hd,hk,Ms,Iv,ac (zh p hk),cu,e,z,L3]
theorem Fe(p:Pr)(hk:p.op=14)(h:AH):aE E1 (.f 204) [p.av] h (vI (cu U (aP p.nm ⟨#[]⟩) (decide (p.n=0)) (decide (((p.ks.length:Nat):Int)=1)) (J) (J))) h:=by
 refine eK rf rf (qr (Tree.pr p)) rfl (Tree.val _) (sQ sS λs hs hh hd=>?_) h;have h0:=hs 0 _ rfl;rcases tri 1 ((p.ks.length:Nat):Int) with⟨L1,L2,L3⟩|⟨L1,L2,L3⟩|⟨L1,L2,L3⟩
 all_goals cases e:aP p.nm ⟨#[]⟩<;>cases z:decide (p.n=0)<;>simp only[bx,f204,V,↓reduceIte,rA,reduceCtorEq,rD,rE,h0,hh,hd,hk,Mr,Iu,ac (zf p hk),cu,e,z,L3]
theorem Fd(p:Pr)(hk:p.op=15)(h:AH):aE E1 (.f 204) [p.av] h (vI (cu U (aP p.nm ⟨#[]⟩) (decide (p.n=0)) (decide (((p.ks.length:Nat):Int)=2)) (J) (J))) h:=by
 refine eK rf rf (qr (Tree.pr p)) rfl (Tree.val _) (sQ sS λs hs hh hd=>?_) h;have h0:=hs 0 _ rfl;rcases U203 with⟨L1,L2,L3⟩|⟨L1,L2,L3⟩|⟨L1,L2,L3⟩
 all_goals cases e:aP p.nm ⟨#[]⟩<;>cases z:decide (p.n=0)<;>simp only[bx,f204,V,↓reduceIte,rA,reduceCtorEq,rD,rE,h0,hh,hd,hk,Mp,It,ac (ze p hk),cu,e,z,L3]
theorem Fc(p:Pr)(hk:p.op=16)(h:AH):aE E1 (.f 204) [p.av] h (vI (cu U (aP p.nm ⟨#[]⟩) (decide (p.n=0)) (decide (((p.ks.length:Nat):Int)=2)) (J) (J))) h:=by
 refine eK rf rf (qr (Tree.pr p)) rfl (Tree.val _) (sQ sS λs hs hh hd=>?_) h;have h0:=hs 0 _ rfl;rcases U203 with⟨L1,L2,L3⟩|⟨L1,L2,L3⟩|⟨L1,L2,L3⟩
 all_goals cases e:aP p.nm ⟨#[]⟩<;>cases z:decide (p.n=0)<;>simp only[bx,f204,V,↓reduceIte,rA,reduceCtorEq,rD,rE,h0,hh,hd,hk,Mo,Is,ac (zc p hk),cu,e,z,L3]
theorem Fb(p:Pr)(hk:p.op=17)(h:AH):aE E1 (.f 204) [p.av] h (vI (cu U (aP p.nm ⟨#[]⟩) (decide (p.n=0)) (decide (((p.ks.length:Nat):Int)=2)) (J) (J))) h:=by
 refine eK rf rf (qr (Tree.pr p)) rfl (Tree.val _) (sQ sS λs hs hh hd=>?_) h;have h0:=hs 0 _ rfl;rcases U203 with⟨L1,L2,L3⟩|⟨L1,L2,L3⟩|⟨L1,L2,L3⟩
 all_goals cases e:aP p.nm ⟨#[]⟩<;>cases z:decide (p.n=0)<;>simp only[bx,f204,V,↓reduceIte,rA,reduceCtorEq,rD,rE,h0,hh,hd,hk,Mn,Ir,ac (zb p hk),cu,e,z,L3]
theorem Fa(p:Pr)(hk:p.op=18)(h:AH):aE E1 (.f 204) [p.av] h (vI (cu U (aP p.nm ⟨#[]⟩) (decide (p.n=0)) (decide (((p.ks.length:Nat):Int)=2)) (J) (J))) h:=by
 refine eK rf rf (qr (Tree.pr p)) rfl (Tree.val _) (sQ sS λs hs hh hd=>?_) h;have h0:=hs 0 _ rfl;rcases U203 with⟨L1,L2,L3⟩|⟨L1,L2,L3⟩|⟨L1,L2,L3⟩
 all_goals cases e:aP p.nm ⟨#[]⟩<;>cases z:decide (p.n=0)<;>simp only[bx,f204,V,↓reduceIte,rA,reduceCtorEq,rD,rE,h0,hh,hd,hk,Mm,Iq,ac (za p hk),cu,e,z,L3]
mutual
def chk(N:Pr->Int):Pr->Int
 |.mk o nm n ks nl cap=>if N (.mk o nm n ks nl cap)=0 then jX N ks else N (.mk o nm n ks nl cap)
def jX(N:Pr->Int):List Pr->Int
 | []=>0
 |k::r=>if chk N k=0 then jX N r else chk N k
end
theorem Py{E:Env}(N:Pr->Int)(p:Pr):∀(r:List Pr) (i:Nat) (s:St),p.ks.drop i=r->i<=p.ks.length->i+r.length+2<2^62->
  (∀k∈r,∀h,aE E (.f 158) [k.av] h (vI (chk N k)) h)->
  s.eval (.t 13)=Z p.kids->s.eval (.t 14)=Z (vI (p.ks.length:Nat))->s.eval (.t 15)=Z (vI i)->s.defers=[]->
  Run E pN s λe s'=>s'.defers=[]/\(jX N r=0/\e=.exit 0\/jX N r≠0/\e=.ret/\s'.eval (.t 2)=Z (vI (jX N r)))
 | [],i,s,hd,hi,hb,ih,h7,h8,h9,hf=>by
  have hl:i=p.ks.length:=by
   grind
  subst hl;have hlt:=U193;apply az (rfl:pN=.loop lF);simp[lF,V,jX, *]
 |k::r,i,s,hd,hi,hb,ih,h7,h8,h9,hf=>by
  have hl:i<p.ks.length:=by
   grind
  have hlt:=U194;have hd':=U195;have hs:∀h:AH,eu (h.alloc (.cells [vI 0,vS ⟨#[]⟩,vI 0,.val (.slice Y 0 0)] J)) 4 (.ptr h.next 0) k.cells=_:=λh=>vW rfl k.len;have w1:=U196;apply az (rfl:pN=.loop lF)
  by_cases c:chk N k=0
  ·have hq:jX N (k::r)=jX N r:=by simp_all [jX]
   have c':decide (chk N k=0)=J:=Gr;simp only[lF,V,h7,h8,h9,hlt,sY hd,hs,ac (ih k ip),w1,c',hq,seval];refine Py N p r (i+1) _ hd' om Gr (λk' hk=>ih k' (iy _ hk)) ?_ ?_ ?_ ?_
   all_goals simp[V, *]
  ·have hq:jX N (k::r)=chk N k:=by simp_all [jX]
   have c':decide (chk N k=0)=U:=Gr;simp only[lF,V,h7,h8,h9,hlt,hf,sY hd,hs,ac (ih k ip),c',hq,seval]
   grind
mutual
theorem zO(N:Pr->Int)(hN:∀q h,aE E1 (.f 204) [q.av] h (vI (N q)) h):∀(p:Pr),p.nodes<2^61->∀h,aE E1 (.f 158) [p.av] h (vI (chk N p)) h
 |.mk o nm n ks nl cap,hb,h=>by
  have hb':=U197;have hk:=U198;refine eK rf rf (qr (Tree.pr _)) rfl (Tree.val _) (sQ bFF λs hs hh hd=>?_) h;have h0:=hs 0 _ rfl;have hc:chk N (.mk o nm n ks nl cap)=if N (.mk o nm n ks nl cap)=0 then jX N ks else N (.mk o nm n ks nl cap):=by rfl
  generalize hp:Pr.mk o nm n ks nl cap=p at*;have hks:p.ks=ks:=by rw[<-hp];rfl
  by_cases c:N p=0
  ·have c':decide (N p=0)=J:=by grind
   rw[if_pos c] at hc;simp[Vk,f158,V,h0,hh,ac (hN p),c',hc];refine(Py N p ks 0 _ Gr (il _) om (λk hk=>xr N hN ks om k hk) ?_ ?_ ?_ ?_).mono ?_
   ·simp[V]
   ·simp[V]<;>rfl
   ·simp only[V]<;>rfl
   ·simp[V,hd]
   ·rintro e s' ⟨hf,⟨z,rfl⟩|⟨z,rfl,h2⟩⟩
    ·have:=U159;simp[V, *]
    ·simp[V, *]
  ·have c':decide (N p=0)=U:=by grind
   rw[if_neg c] at hc;simp only[Vk,f158,V,↓reduceIte,rA,reduceCtorEq,h0,hh,hd,ac (hN p),c',hc]
theorem xr(N:Pr->Int)(hN:∀q h,aE E1 (.f 204) [q.av] h (vI (N q)) h):∀(l:List Pr),Pr.aI l<2^61->∀k∈l,∀h,aE E1 (.f 158) [k.av] h (vI (chk N k)) h
 | [],_,k,hk,_=>by cases hk
 |a::r,hb,k,hk,h=>by
  have hb':=U200;rcases U201 with e|hk
  ·rw[e];exact zO N hN a om h
  ·exact xr N hN r om k hk h
end
end Go.Proofs.YtmbabhlmdhghdaaGreatDoor
