/- A part of the proof about filled horn systems: XCallv ZSame XArgs ZFill ZFillb. -/
import Derived.Test.YtkhblipgiijoiaaGreatDoorU0
import Derived.Test.YtkhblipgiijoiaaGreatDoorD1
import Derived.Test.YtkhblipgiijoiaaGreatDoorD2

set_option linter.all false
open Nat renaming reduceEqDiff → rA, reduceAdd → rB, reduceMul → rC
open Int renaming reduceEq → rD, reduceLT → rE, reduceLE → rF
open Option.some renaming injEq → sI
open Prod.mk renaming injEq → pI
namespace Go.AM
variable {E:Env}{s:St}{K:St→Prop}{rest:List DOp}{done:List DRec}
theorem Leaf.fn0(f:Fn):Leaf (.fn f [] []):=⟨fun _ _=>rfl,fun _ _=>rfl⟩
theorem yO{dst x f:Nat}{xs:List Opd}{rd fr:List Nat}{a b l:List AV}{v:AV}(hx:s.eval (.t x)=some (.fn (.func f) a b))(hxr:memN rd x=true)(hxs:xs.all (opdIn rd)=true)
  (hn:(rd.all fun t=>plainT (s.eval (.t t)))=true) (he:evalAll s xs=some l) (hr:∀h,RunCall E (.f f) (a++l++b) h v h) (hf:∀j∈fr,j<done.length)
  (k:DrawTo E rest (done++[⟨[],[],s.h.next,s.h.next⟩]) (s.put (some dst) v) K):DrawTo E (⟨⟨some dst,none,.callv (.t x) xs⟩,rd,fr⟩::rest) done s K:=by
 have hv:=sK (tm:=s.tm) (l:=rd) hn
 have st:Ev fun n=>stepDraw E (aj E (exec E n)) ⟨⟨some dst,none,.callv (.t x) xs⟩,rd,fr⟩ (nearOf done fr) s=some (v,⟨[],[],s.h.next,s.h.next⟩,s.h):=by
  refine(hr (restrictH s.h [])).mono fun n p=>?_
  have he':evalAll {tm:=pickTm s.tm rd,h:=restrictH s.h [],defers:=[],round:=s.round} xs=some l:=by
   rw[←he]
   exact im (s:=s) (F:=[]) hxs
  have hx':St.eval {tm:=pickTm s.tm rd,h:=restrictH s.h [],defers:=[],round:=s.round} (.t x)=some (.fn (.func f) a b):=by
   show(pickTm s.tm rd).get x=_
   rw[bJ,if_pos (cn hxr)]
   exact hx
  have hb:Nat.ble s.h.next s.h.next=true:=Nat.ble_eq.mpr (Nat.le_refl _)
  have hm:=ej (h:=s.h) (l:=[])
  have hfo:foot {tm:=pickTm s.tm rd,h:=s.h,defers:=[],round:=s.round} [] (.callv (.t x) xs)=[]:=rfl
  have p':aj E (exec E n) (.f f) (a++l++b) (restrictH s.h [])=some (v,restrictH s.h []):=p
  simp only[stepDraw,wantedA,hv,hfo,below,knownH,List.all_nil,Bool.and_self,cond_true,runOp,he',hx',p',Option.bind_some,isCall,List.filter_nil,List.isEmpty_nil,hm]
  simp only[restrictH,hb,Bool.and_self,cond_true]
 exact bA (d:=⟨⟨some dst,none,.callv (.t x) xs⟩,rd,fr⟩) (cW (R:=[]) (fun x _ r hr=>by cases hr) (fun b hb=>hb) hf) st k
end Go.AM
namespace Go.Proofs.YtkhblipgiijoiaaGreatDoor
open Go Go.AM
set_option maxHeartbeats 4000000
mutual
def Pr.same:Pr→Pr→Bool
 |.mk o s n ks _ _,q=>decide (o=q.op)&&(strEq s q.nm&&(decide (n=q.n)&&(decide (ks.length=q.ks.length)&&Pr.sameL ks q.ks)))
def Pr.sameL:List Pr→List Pr→Bool
 |k::r,k'::r'=>k.same k'&&Pr.sameL r r'
 |_,_=>true
end
theorem zo{s:St}{p q:Pr}{i:Nat}{k k':Pr}{r r':List Pr}{x:Bool}(h1:p.ks.drop i=k::r)(h2:q.ks.drop i=k'::r')(hc:∀h,RunCall E1 (.f 48) [k.av,k'.av] h (.val (.bool x)) h)
  (e0:s.eval (.t 0)=some p.kids) (e1:s.eval (.t 1)=some q.kids) (e2:s.eval (.t 2)=some (.fn (.func 48) [] [])) (e7:s.eval (.t 7)=some (.val (.int .i64 (i:Nat)))):
  Run E1 f75_d0 s fun e s'=>e=.normal∧s'.eval (.t 28)=some (.val (.bool (!x)))∧s'.h=s.h∧s'.defers=s.defers∧∀j,j<18→s'.eval (.t j)=s.eval (.t j):=by
 have i1:ids p.kids=[]:=(Leaf.kids p).ids
 have i2:ids q.kids=[]:=(Leaf.kids q).ids
 have i3:ids (AV.iptr (k.cells++Pr.cellsL r))=[]:=by simp only[ids]
 have i4:ids (AV.iptr (k'.cells++Pr.cellsL r'))=[]:=by simp only[ids]
 have i5:ids (AV.fn (.func 48) [] [])=[]:=rfl
 have i6:ids (AV.val (.int .i64 (i:Int)))=[]:=rfl
 refine az ?_
 show DrawTo E1 (uq.take 9++uq.drop 9) [] s _
 refine cO (R:=[]) _ [] s rfl (fun x hx=>by cases hx) (fun r hr'=>by cases hr') ?_
 simp-implicitDefEqProofs only[uq,List.take_succ_cons,List.take_zero,List.drop_succ_cons,List.drop_zero,wpDm,aW,List.all_cons,List.all_nil,footed,V,↓reduceIte,rA,rB,rC,reduceCtorEq,rD,rE,rF,e0,e1,e2,e7,fJ p i k r h1,fJ q i k' r' h2,aM i1,aM i2,aM i3,aM i4,aM i5,aM i6,ak i3,ak i4]
 intro _ done hdl hdm
 refine yO (a:=[]) (b:=[]) (l:=[k.av,k'.av]) (v:=.val (.bool x)) ?_ rfl rfl ?_ ?_ hc (fun j hj=>by cases hj) ?_
 ·exact U28
 ·simp-implicitDefEqProofs only[List.all_cons,List.all_nil,V,↓reduceIte,rA,rB,rC,reduceCtorEq,rD,rE,rF,aK i5,aK k.idsA,aK k'.idsA]
 ·exact U28
 refine bY (v:=.val (.bool (!x))) rfl rfl ?_ ?_ (fun j hj=>by cases hj) (bV ?_)
 ·simp-implicitDefEqProofs only[List.all_cons,List.all_nil,V,↓reduceIte,rA,rB,rC,reduceCtorEq,rD,rE,rF]
  rfl
 ·simp-implicitDefEqProofs only[runOp,V,↓reduceIte,rA,rB,rC,reduceCtorEq,rD,rE,rF]
  rfl
 refine⟨?_,rfl,rfl,fun j hj=>?_⟩
 ·exact U28
 ·simp only[St.put,St.eval_set]
  repeat rw[if_neg om]
theorem xf(p q:Pr)(hN:p.ks.length<2^61)(hl:p.ks.length=q.ks.length):∀(r r':List Pr) (i:Nat) (s:St),p.ks.drop i=r→q.ks.drop i=r'→i≤p.ks.length→(∀k∈r,∀k' h,RunCall E1 (.f 48) [k.av,k'.av] h (.val (.bool (k.same k'))) h)→
  s.eval (.t 0)=some p.kids→s.eval (.t 1)=some q.kids→s.eval (.t 2)=some (.fn (.func 48) [] [])→s.eval (.t 14)=some (.val (.int .i64 (p.ks.length:Nat)))→s.eval (.t 15)=some (.val (.int .i64 (i:Nat)))→s.defers=[]→
  Run E1 ur s fun e s'=>s'.defers=[]∧((Pr.sameL r r'=true∧e=.exit 0)∨(Pr.sameL r r'=false∧e=.ret∧s'.eval (.t 6)=some (.val (.bool false))))
 | [],r',i,s,hr,hr',hi,hc,h0,h1,h2,h14,h15,hd=>by
  have hl:=aN hr hi
  subst hl
  apply aC (rfl:ur=.loop pc)
  simp-implicitDefEqProofs only[pc,V,↓reduceIte,rA,rB,rC,reduceCtorEq,rD,rE,rF,WB,h0,h1,h2,h14,h15,hd,lt_f,Pr.sameL]
 |k::r,[],i,s,hr,hr',hi,hc,h0,h1,h2,h14,h15,hd=>by
  have h3:=aV hr
  have:=aN hr' om
  omega
 |k::r,k'::r',i,s,hr,hr',hi,hc,h0,h1,h2,h14,h15,hd=>by
  have h3:=aV hr
  have hlt:=lt_t h3
  have w1:IntKind.i64.wrap ((i:Int)+1)=((i+1:Nat):Int):=aE (n:=i+1) om
  apply aC (rfl:ur=.loop pc)
  simp-implicitDefEqProofs only[pc,V,↓reduceIte,rA,rB,rC,reduceCtorEq,rD,rE,rF,WB,h0,h1,h2,h14,h15,hlt]
  refine(zo hr hr' (hc k List.mem_cons_self k') ?_ ?_ ?_ ?_).mono ?_
  all_goals try simp-implicitDefEqProofs only[V,↓reduceIte,rA,rB,rC,reduceCtorEq,rD,rE,rF,h0,h1,h2]
  rintro e s1 ⟨rfl,x1,x2,x3,x4⟩
  try simp-implicitDefEqProofs only[V,↓reduceIte,rA,rB,rC,reduceCtorEq,rD,rE,rF] at x2 x3
  have e15:s1.eval (.t 15)=some (.val (.int .i64 (i:Nat))):=by rw[x4 15 de];simp-implicitDefEqProofs only[V,↓reduceIte,rA,rB,rC,reduceCtorEq,rD,rE,rF,h15]
  have e14:s1.eval (.t 14)=some (.val (.int .i64 (p.ks.length:Nat))):=by rw[x4 14 de];simp-implicitDefEqProofs only[V,↓reduceIte,rA,rB,rC,reduceCtorEq,rD,rE,rF,h14]
  have e0:s1.eval (.t 0)=some p.kids:=by rw[x4 0 de];simp-implicitDefEqProofs only[V,↓reduceIte,rA,rB,rC,reduceCtorEq,rD,rE,rF,h0]
  have e1:s1.eval (.t 1)=some q.kids:=by rw[x4 1 de];simp-implicitDefEqProofs only[V,↓reduceIte,rA,rB,rC,reduceCtorEq,rD,rE,rF,h1]
  have e2:s1.eval (.t 2)=some (.fn (.func 48) [] []):=by rw[x4 2 de];simp-implicitDefEqProofs only[V,↓reduceIte,rA,rB,rC,reduceCtorEq,rD,rE,rF,h2]
  cases hs:k.same k' with
  |false=>
   rw[hs] at x1
   simp-implicitDefEqProofs only[V,↓reduceIte,rA,rB,rC,reduceCtorEq,rD,rE,rF,WB,x1,x3,hd,Pr.sameL,hs]
  |true=>
   rw[hs] at x1
   simp-implicitDefEqProofs only[V,↓reduceIte,rA,rB,rC,reduceCtorEq,rD,rE,rF,WB,x1,e15,w1]
   refine(xf p q hN hl r r' (i+1) _ (aF hr) (aF hr') om (fun k0 h0=>hc k0 (List.mem_cons_of_mem _ h0)) ?_ ?_ ?_ ?_ ?_ ?_).mono ?_
   all_goals try simp-implicitDefEqProofs only[V,↓reduceIte,rA,rB,rC,reduceCtorEq,rD,rE,rF,e0,e1,e2,e14,x3,hd]
   simp only[Pr.sameL,hs,Bool.true_and]
   exact fun e s' h=>h
theorem vd(p q:Pr)(hN:p.ks.length<2^61)(hc:∀k∈p.ks,∀k' h,RunCall E1 (.f 48) [k.av,k'.av] h (.val (.bool (k.same k'))) h)(h:AH):
  RunCall E1 (.f 75) [p.kids,q.kids,.fn (.func 48) [] []] h (.val (.bool (decide (p.ks.length=q.ks.length)&&Pr.sameL p.ks q.ks))) h:=by
 refine cK kr f75_ok (mem3 (Leaf.kids p).tree (Leaf.kids q).tree (Leaf.fn0 _).tree) rfl (Tree.val _) (fun s hs hh hd hr=>?_) h
 have h0:=hs 0 _ rfl
 have h1:=hs 1 _ rfl
 have h2:=hs 2 _ rfl
 by_cases hl:p.ks.length=q.ks.length
 ·have hne:decide (((p.ks.length:Nat):Int)=(q.ks.length:Nat))=true:=decide_eq_true om
  have hle:decide (p.ks.length=q.ks.length)=true:=decide_eq_true hl
  simp-implicitDefEqProofs only[zn,f75,V,↓reduceIte,rA,rB,rC,reduceCtorEq,rD,rE,rF,WB,h0,h1,h2,hh,hd,hne]
  refine(xf p q hN hl p.ks q.ks 0 _ rfl rfl (Nat.zero_le _) hc ?_ ?_ ?_ ?_ ?_ ?_).mono ?_
  all_goals try simp-implicitDefEqProofs only[V,↓reduceIte,rA,rB,rC,reduceCtorEq,rD,rE,rF,h0,h1,h2,hd]
  ·rfl
  rintro e s1 ⟨d1,⟨q1,rfl⟩|⟨q1,rfl,q2⟩⟩
  ·simp-implicitDefEqProofs only[V,↓reduceIte,rA,rB,rC,reduceCtorEq,rD,rE,rF,WB,d1,q1,hle]
  ·exact U70
 ·have hne:decide (((p.ks.length:Nat):Int)=(q.ks.length:Nat))=false:=decide_eq_false om
  have hle:decide (p.ks.length=q.ks.length)=false:=decide_eq_false hl
  simp-implicitDefEqProofs only[zn,f75,V,↓reduceIte,rA,rB,rC,reduceCtorEq,rD,rE,rF,WB,h0,h1,h2,hh,hd,hne,hle]
theorem same_body(p q:Pr)(hN:p.ks.length<2^61)(hc:∀k∈p.ks,∀k' h,RunCall E1 (.f 48) [k.av,k'.av] h (.val (.bool (k.same k'))) h)(h:AH):
  RunCall E1 (.f 48) [p.av,q.av] h (.val (.bool (decide (p.op=q.op)&&(strEq p.nm q.nm&&(decide (p.n=q.n)&&(decide (p.ks.length=q.ks.length)&&Pr.sameL p.ks q.ks)))))) h:=by
 refine cK kr f48_ok (mem2 (Tree.pr p) (Tree.pr q)) rfl (Tree.val _) (fun s hs hh hd hr=>?_) h
 have h0:=hs 0 _ rfl
 have h1:=hs 1 _ rfl
 cases a:decide (p.op=q.op) with
 |false=>simp-implicitDefEqProofs only[pp,f48,V,↓reduceIte,rA,rB,rC,reduceCtorEq,rD,rE,rF,WB,h0,h1,hh,hd,a]
 |true=>cases b:strEq p.nm q.nm with
  |false=>simp-implicitDefEqProofs only[pp,f48,V,↓reduceIte,rA,rB,rC,reduceCtorEq,rD,rE,rF,WB,h0,h1,hh,hd,a,b]
  |true=>cases c:decide (p.n=q.n) with
   |false=>simp-implicitDefEqProofs only[pp,f48,V,↓reduceIte,rA,rB,rC,reduceCtorEq,rD,rE,rF,WB,h0,h1,hh,hd,a,b,c]
   |true=>simp-implicitDefEqProofs only[pp,f48,V,↓reduceIte,rA,rB,rC,reduceCtorEq,rD,rE,rF,WB,h0,h1,hh,hd,a,b,c,aA (vd p q hN hc)]
mutual
theorem cC:∀(p:Pr),p.nodes<2^61→∀q h,RunCall E1 (.f 48) [p.av,q.av] h (.val (.bool (p.same q))) h
 |.mk o s n ks nl cap,hb,q,h=>by
  have hb':1+Pr.nodesL ks<2^61:=hb
  have hk:ks.length≤Pr.nodesL ks:=am ks
  rw[Pr.same]
  exact same_body (.mk o s n ks nl cap) q (by show ks.length<_;omega) (io ks om) h
theorem io:∀(l:List Pr),Pr.nodesL l<2^61→∀k∈l,∀q h,RunCall E1 (.f 48) [k.av,q.av] h (.val (.bool (k.same q))) h
 | [],_,k,hk,_,_=>by cases hk
 |p::r,hb,k,hk,q,h=>by
  have hb':p.nodes+Pr.nodesL r<2^61:=hb
  rcases List.mem_cons.1 hk with e|hk
  ·have:=cC p om q h
   rw[e]
   exact this
  ·exact io r om k hk q h
end
end Go.Proofs.YtkhblipgiijoiaaGreatDoor
namespace Go.AM
variable {E:Env}
theorem uD{h:AH}{a a':AV}(hm:toTree h deepest a=some a'){ys:List AV}(hy:∀v∈ys,Tree v):∀{xs:List AV},(∀v∈xs,Tree v)→mapTree h (xs++a::ys)=some (xs++a'::ys)
 | [],_=>by simp only[List.nil_append,mapTree,hm,cR hy]
 |x::xs,hx=>by
  have h1:toTree h deepest x=some x:=(hx x List.mem_cons_self).1 h 999999998
  simp only[List.cons_append,mapTree,h1,uD hm hy fun v hv=>hx v (List.mem_cons_of_mem _ hv)]
theorem qS{g:Nat}{xs ys:List AV}{a a' t:AV}{h h1:AH}(hs:E.shared.get g=none)(hx:∀v∈xs,Tree v)(hy:∀v∈ys,Tree v)(ha:Tree a')(hz:freeze deepest a h=h1)(hm:toTree h1 deepest a=some a')
  (hc:∀h,RunCall E (.f g) (xs++a'::ys) h t h):∃h2,RunCall E (.f g) (xs++a::ys) h t h2∧(h2=h∨h2=h1):=by
 have hf:(xs++a::ys).foldl (fun h v=>freeze deepest v h) h=h1:=by
  rw[List.foldl_append,bX hx,List.foldl_cons,hz,bX hy]
 have hm1:=uD hm hy hx
 have hl':∀v∈xs++a'::ys,Tree v:=fun v hv=>by
  rcases List.mem_append.1 hv with hv|hv
  ·exact hx v hv
  ·rcases List.mem_cons.1 hv with rfl|hv
   ·exact ha
   ·exact hy v hv
 refine⟨bif isFlat t then h else h1,(hc h1).mono fun n p=>?_,?_⟩
 ·have p:cQ E (enterA E (exec E n)) g (xs++a'::ys) h1=some (t,h1):=p
  show cQ E (enterA E (exec E n)) g (xs++a::ys) h=_
  simp only[cQ,hs,bX hl',cR hl'] at p
  simp only[cQ,hs,hf,hm1]
  revert p
  cases E.known g (xs++a'::ys) with
  |some r=>
   intro p
   simp only[sI,pI] at p⊢
   obtain⟨rfl,_⟩:=p
   exact⟨rfl,rfl⟩
  |none=>
   simp only
   cases enterA E (exec E n) g (xs++a'::ys) .empty with
   |none=>intro p;cases p
   |some q=>
    obtain⟨r,hc'⟩:=q
    simp only
    cases toTree (freeze deepest r hc') deepest r with
    |none=>intro p;cases p
    |some t'=>
     intro p
     simp only[sI,pI] at p⊢
     obtain⟨rfl,_⟩:=p
     exact⟨rfl,rfl⟩
 ·cases isFlat t
  ·exact .inr rfl
  ·exact .inl rfl
theorem sY{n:Nat}:∀{cs:List AV} {h:AH},(∀c∈cs,Leaf c)→cs.foldl (fun h c=>freeze (n+1) c h) h=h
 | [],_,_=>rfl
 |c::r,h,k=>by rw[List.foldl_cons,(k c List.mem_cons_self).2 h n];exact sY fun x hx=>k x (List.mem_cons_of_mem _ hx)
theorem xF{n:Nat}{h:AH}:∀{cs:List AV},(∀c∈cs,Leaf c)→cs.mapM (toTree h (n+1))=some cs
 | [],_=>rfl
 |c::r,k=>by
  rw[List.mapM_cons,(k c List.mem_cons_self).1 h n,xF fun x hx=>k x (List.mem_cons_of_mem _ hx)]
  rfl
def rowT(k:Nat)(cs:List AV):AV:=bif Nat.beq k 0 then .val (.slice none 0 0) else .imm cs k none
theorem pP{h:AH}{lo k es:Nat}{v:AV}{cs:List AV}(r:RowC h lo k es v cs)(n:Nat):∃h1,freeze (n+2) v h=h1∧h1.next=h.next∧(∀x,x∉ids v→h1.get x=h.get x)∧toTree h1 (n+2) v=some (rowT k cs):=by
 obtain⟨h1,h2,⟨rfl,rfl⟩|⟨b,b1,b2,b3,rfl,b5⟩⟩:=r
 ·exact⟨h,rfl,rfl,fun _ _=>rfl,rfl⟩
 ·have hk:Nat.beq k 0=false:=by
   cases hk:Nat.beq k 0 with
   |false=>rfl
   |true=>
    have:=Nat.eq_of_beq_eq_true hk
    omega
  have ht:(cs.drop 0).take (k*es)=cs:=by rw[List.drop_zero,←h2,List.take_length]
  refine⟨h.put b (some (.cells cs false)),?_,rfl,fun x hx=>?_,?_⟩
  ·rw[freeze]
   simp only[b5,ht]
   exact sY h1
  ·rw[AH.get_put,if_neg (fun e=>hx (by simp only[ids,List.mem_singleton];exact e))]
  ·have g:(h.put b (some (.cells cs false))).get b=some (.cells cs false):=by rw[AH.get_put,if_pos rfl]
   have hle:Nat.ble (0+k*es) cs.length=true:=Nat.ble_eq.mpr om
   rw[toTree.eq_def]
   simp only[g,hle,cond_true,ht,xF h1,Option.map_some,rowT,hk,cond_false]
theorem xM{h:AH}{lo k es:Nat}{a b c v:AV}{cs:List AV}(la:Leaf a)(lb:Leaf b)(lc:Leaf c)(r:RowC h lo k es v cs)(n:Nat):∃h1,freeze (n+3) (.agg [a,b,c,v]) h=h1∧h1.next=h.next∧(∀x,x∉ids v→h1.get x=h.get x)∧toTree h1 (n+3) (.agg [a,b,c,v])=some (.agg [a,b,c,rowT k cs]):=by
 obtain⟨h1,e1,e2,e3,e4⟩:=pP r n
 refine⟨h1,?_,e2,e3,?_⟩
 ·rw[freeze]
  simp only[List.foldl_cons,List.foldl_nil]
  rw[la.2 h (n+1),lb.2 h (n+1),lc.2 h (n+1)]
  exact e1
 ·rw[toTree.eq_def]
  simp only[List.mapM_cons,List.mapM_nil]
  rw[la.1 h1 (n+1),lb.1 h1 (n+1),lc.1 h1 (n+1),e4]
  rfl
theorem xN{h:AH}{lo k es:Nat}{a b c v:AV}{cs:List AV}(la:Leaf a)(lb:Leaf b)(lc:Leaf c)(r:RowC h lo k es v cs):∃h1,freeze deepest (.agg [a,b,c,v]) h=h1∧h1.next=h.next∧(∀x,x∉ids v→h1.get x=h.get x)∧toTree h1 deepest (.agg [a,b,c,v])=some (.agg [a,b,c,rowT k cs]):=xM la lb lc r 999999997
theorem dx{h:AH}{lo k es:Nat}{v:AV}{cs:List AV}(r:RowC h lo k es v cs):∃h1,freeze deepest v h=h1∧h1.next=h.next∧(∀x,x∉ids v→h1.get x=h.get x)∧toTree h1 deepest v=some (rowT k cs):=pP r 999999998
theorem jx{k:Nat}{cs:List AV}:Leaf (rowT k cs):=by
 unfold rowT
 cases Nat.beq k 0
 ·exact Leaf.imm _ _ _
 ·exact Leaf.val _
theorem ah{s:St}{K:St→Prop}{r:List AOper}{dst:Option Nat}{f:Nat}{l:List AV}{v:AV}{h':AH}(h:RunCall E (.f f) l s.h v h')(k:wpOps E r ((s.toH h').put dst v) K):aJ E f r s dst K (some l):=by
 rw[jq h]
 exact k
theorem app_wp{s:St}{K:St→Prop}{r:List AOper}{dst:Option Nat}{es bytes a d k m lo:Nat}{v x:AV}{cs new:List AV}(hr:RowC s.h lo k es v cs)(hlo:lo≤s.h.next)(he:elemsOf s.h es x=some (new,m))(hl:new.length=m*es)(hn:∀c∈new,Leaf c)(hok:okLen (k+m) bytes=true)(ha:s.eval (.t a)=some v)(hx:s.eval (.t d)=some x)
  (kk:∀v' h',RowC h' lo (k+m) es v' (cs++new)→s.h.next≤h'.next→(∀y,y<s.h.next→y∉ids v→h'.get y=s.h.get y)→wpOps E r ((s.toH h').put dst v') K):wpOps E (⟨dst,none,.append es bytes (.t a) (.t d)⟩::r) s K:=by
 obtain⟨v',h',e,r',n',o'⟩:=app_any (bytes:=bytes) hr hlo he hl hn hok ha hx
 rw[bn,e]
 exact kk v' h' r' n' o'
end Go.AM
namespace Go.Proofs.YtkhblipgiijoiaaGreatDoor
open Go Go.AM
set_option maxHeartbeats 4000000
def tPr:Pr:=.mk 2 ⟨#[]⟩ 1 [] nilK none
def zPr:Pr:=.mk 0 ⟨#[]⟩ 0 [] nilK none
theorem const_t(h:AH):RunCall E1 (.f 108) [.val (.bool true)] h tPr.av h:=by
 refine bw kr f108_ok (mem1 (Tree.val _)) (fun s hs hh hd hr=>?_) h
 have h0:=hs 0 _ rfl
 simp-implicitDefEqProofs only[f108_fn,f108,V,↓reduceIte,rA,rB,rC,reduceCtorEq,rD,rE,rF,WF,h0,hh,hd]
 exact⟨_,rfl,1,de,cJ tPr.leaves⟩
theorem qP{r:List AOper}{s:St}{dst:Option Nat}{K:St→Prop}:aJ E1 108 r s dst K (some [.val (.bool true)])=AM.wpOps E1 r (s.put dst tPr.av) K:=aA const_t
theorem eO{p:Pr}(hb:p.nodes<2^61){r:List AOper}{s:St}{dst:Option Nat}{K:St→Prop}:aJ E1 48 r s dst K (some [p.av,.agg [.val (.int .i64 0),.val (.string ⟨#[]⟩),.val (.int .i64 0),.val (.slice none 0 0)]])=AM.wpOps E1 r (s.put dst (.val (.bool (p.same zPr)))) K:=aA (cC p hb zPr)
theorem stK_v{h:AH}{b:Nat}{a0 a1:AV}{p:Vr}:stK h b 2 0 p.cells (some (.cells [a0,a1] true))=some (h.put b (some (.cells p.cells true))):=bu rfl rfl
theorem stK_h{h:AH}{b:Nat}{a0 a1:AV}{p:Ho}:stK h b 2 0 p.cells (some (.cells [a0,a1] true))=some (h.put b (some (.cells p.cells true))):=bu rfl rfl
theorem nX{h:AH}{b:Nat}{a0 a1 a2 a3 a4:AV}{p:So}:stK h b 5 0 p.cells (some (.cells [a0,a1,a2,a3,a4] true))=some (h.put b (some (.cells p.cells true))):=bu rfl p.len
def nms(l:List Vr):List ByteArray:=l.map Vr.nm
theorem wO(l:List ByteArray):∀c∈l.flatMap strA,Leaf c:=fun c hc=>by
 obtain⟨b,_,h⟩:=List.mem_flatMap.1 hc
 rw[List.mem_singleton.1 h]
 exact Leaf.val _
theorem nms_snoc{l r:List Vr}{k:Vr}{i:Nat}(h:l.drop i=k::r):(nms (l.take (i+1))).flatMap strA=(nms (l.take i)).flatMap strA++[.val (.string k.nm)]:=by
 have:l.take (i+1)=l.take i++[k]:=by
  have h2:l[i]? =some k:=by
   have:=List.getElem?_drop (xs:=l) (i:=i) (j:=0)
   rw[h] at this
   simpa using this.symm
  rw[List.take_succ,h2]
  rfl
 rw[this,nms,List.map_append,List.flatMap_append]
 rfl
theorem pg{lo:Nat}(w:Vl Vr)(hN:w.l.length<2^29):∀(r:List Vr) (i:Nat) (s:St) (v:AV),w.l.drop i=r→i≤w.l.length→RowC s.h lo i 1 v ((nms (w.l.take i)).flatMap strA)→lo≤s.h.next→s.eval (.t 11)=some v→
  s.eval (.t 42)=some (w.A Vr.cells)→s.eval (.t 43)=some (.val (.int .i64 (w.l.length:Nat)))→s.eval (.t 44)=some (.val (.int .i64 (i:Nat)))→s.defers=[]→
  Run E1 uv s fun e s'=>e=.exit 4∧(∃v',RowC s'.h lo w.l.length 1 v' ((nms w.l).flatMap strA)∧s'.eval (.t 11)=some v')∧s.h.next≤s'.h.next∧(∀x,x<lo→s'.h.get x=s.h.get x)∧s'.defers=[]∧∀j,j<44→j≠11→j≠13→s'.eval (.t j)=s.eval (.t j)
 | [],i,s,v,hd,hi,hr,hlo,h11,h42,h43,h44,hf=>by
  have hl:=aN hd hi
  subst hl
  rw[List.take_length] at hr
  apply aC (rfl:uv=.loop ph)
  simp-implicitDefEqProofs only[ph,V,↓reduceIte,rA,rB,rC,reduceCtorEq,rD,rE,rF,WB,h11,h42,h43,h44,hf,lt_f]
  refine⟨⟨v,hr,rfl⟩,Nat.le_refl _,fun x _=>by first|rfl|trivial,fun j hj _ _=>?_⟩
  rw[if_neg om]
 |k::r,i,s,v,hd,hi,hr,hlo,h11,h42,h43,h44,hf=>by
  have hl:=aV hd
  have hlt:=lt_t hl
  have w1:IntKind.i64.wrap ((i:Int)+1)=((i+1:Nat):Int):=aE (n:=i+1) om
  apply aC (rfl:uv=.loop ph)
  simp-implicitDefEqProofs only[ph,V,↓reduceIte,rA,rB,rC,reduceCtorEq,rD,rE,rF,WB,WF,h11,h42,h43,h44,hlt,w.at Vr.len hd,cF,stK_v]
  refine app_wp (k:=i) (m:=1) (lo:=lo) (v:=v) (x:=.own (s.h.next+1) 0 1 1 (some 1)) (cs:=(nms (w.l.take i)).flatMap strA) (new:=[.val (.string k.nm)]) ?_ ?_ ?_ rfl ?_ (bD om de) ?_ ?_ ?_
  ·simp-implicitDefEqProofs only[V,↓reduceIte,rA,rB,rC,reduceCtorEq,rD,rE,rF]
   exact hr.to (by show s.h.next≤s.h.next+1+1;omega) fun x _ x2=>by rw[aP (by show x<s.h.next+1;omega),ac om,aP x2]
  ·exact U53
  ·refine cE (rw':=true) ?_ rfl
   exact U28
  ·exact fun c hc=>by rw[List.mem_singleton.1 hc];exact Leaf.val _
  ·exact U71
  ·exact U28
  intro v1 h1 r1 n1 o1
  simp-implicitDefEqProofs only[V,↓reduceIte,rA,rB,rC,reduceCtorEq,rD,rE,rF] at n1 o1
  simp-implicitDefEqProofs only[V,↓reduceIte,rA,rB,rC,reduceCtorEq,rD,rE,rF,WB,h44,w1]
  refine(pg (lo:=lo) w hN r (i+1) _ v1 (aF hd) om ?_ ?_ ?_ ?_ ?_ ?_ ?_).mono ?_
  ·simp-implicitDefEqProofs only[V,↓reduceIte,rA,rB,rC,reduceCtorEq,rD,rE,rF]
   rw[nms_snoc hd]
   exact r1
  ·exact U53
  ·exact U28
  ·simp-implicitDefEqProofs only[V,↓reduceIte,rA,rB,rC,reduceCtorEq,rD,rE,rF,h42]
  ·simp-implicitDefEqProofs only[V,↓reduceIte,rA,rB,rC,reduceCtorEq,rD,rE,rF,h43]
  ·exact U28
  ·exact U72
  rintro e s2 ⟨rfl,⟨v2,r2,g2⟩,n2,o2,d2,t2⟩
  simp-implicitDefEqProofs only[V,↓reduceIte,rA,rB,rC,reduceCtorEq,rD,rE,rF] at n2 o2 t2
  refine⟨rfl,⟨v2,r2,g2⟩,om,fun x x1=>?_,d2,fun j hj hj2 hj3=>?_⟩
  ·rw[o2 x x1,o1 x om (fun h=>by have:=(hr.ids x h).1;omega)]
   repeat rw[if_neg om]
  ·rw[t2 j hj hj2 hj3]
   repeat rw[if_neg om]
theorem cd{α:Type}{f:α→List AV}{l:List α}{n:Nat}(hn:l.length=n):rowT n (l.flatMap f)=(⟨l,nilK,none⟩:Vl α).A f:=by
 subst hn
 simp only[rowT,Vl.A,kidsA,nilK,Option.isSome_some,Bool.true_and,noKids]
def Pr.vl:Pr→Vl Pr|.mk _ _ _ ks nl cap=>⟨ks,nl,cap⟩
theorem Pr.vl_l(p:Pr):p.vl.l=p.ks:=by cases p;rfl
theorem Pr.vl_A(p:Pr):p.vl.A Pr.cells=p.kids:=by
 cases p
 simp only[Pr.vl,Vl.A,Pr.kids,Pr.cellsL_eq]
def fillH(p sp:Pr):List Ho→Option Pr
 | []=>none
 |h::r=>bif strEq h.nm p.nm then some (sp.sub (nms h.ps.l) p.ks) else fillH p sp r
theorem pf{B:Nat}(p:Pr)(so:So)(H:Vl Ho)(hN:H.l.length<2^29)(hH:∀h∈H.l,h.ps.l.length<2^29)(hp:∀q∈p.ks,q.nodes<2^29)(hs:so.p.nodes<2^29)(hB:1<B):∀(r:List Ho) (i:Nat) (s:St),H.l.drop i=r→i≤H.l.length→B<s.h.next→
  s.h.get 0=some (.cells p.cells true)→s.h.get 1=some (.cells [.val (.int .i64 0),.val (.string ⟨#[]⟩),.val (.int .i64 0),.val (.slice none 0 0)] true)→s.h.get B=some (.cells so.cells true)→
  s.eval (.t 3)=some (.ptr 0 0)→s.eval (.t 6)=some (.ptr 1 0)→s.eval (.t 8)=some (.ptr B 0)→s.eval (.t 30)=some (H.A Ho.cells)→s.eval (.t 31)=some (.val (.int .i64 (H.l.length:Nat)))→s.eval (.t 32)=some (.val (.int .i64 (i:Nat)))→s.defers=[]→
  Run E1 uu s fun e s'=>s'.defers=[]∧((fillH p so.p r=none∧e=.exit 2∧s.h.next≤s'.h.next∧(∀x,x≤B→s'.h.get x=s.h.get x)∧∀j,j<32→j≠10→s'.eval (.t j)=s.eval (.t j))∨(∃q,fillH p so.p r=some q∧e=.ret∧s'.eval (.t 6)=some (.ptr 1 0)∧s'.h.get 1=some (.cells q.cells true)))
 | [],i,s,hd,hi,hBn,g0,g1,gB,h3,h6,h8,h30,h31,h32,hf=>by
  have hl:=aN hd hi
  subst hl
  apply aC (rfl:uu=.loop kZ)
  simp-implicitDefEqProofs only[kZ,V,↓reduceIte,rA,rB,rC,reduceCtorEq,rD,rE,rF,WB,h3,h6,h8,h30,h31,h32,hf,lt_f,fillH]
  refine .inl ⟨Nat.le_refl _,fun x _=>by first|rfl|trivial,fun j hj _=>?_⟩
  rw[if_neg om]
 |h::r,i,s,hd,hi,hBn,g0,g1,gB,h3,h6,h8,h30,h31,h32,hf=>by
  have hl:=aV hd
  have hlt:=lt_t hl
  have hm:h∈H.l:=List.mem_of_mem_drop (i:=i) (by rw[hd];exact List.mem_cons_self)
  have w1:IntKind.i64.wrap ((i:Int)+1)=((i+1:Nat):Int):=aE (n:=i+1) om
  have n0:(0=s.h.next)=False:=eq_false om
  have n1:(1=s.h.next)=False:=eq_false om
  have nB:(B=s.h.next)=False:=eq_false om
  apply aC (rfl:uu=.loop kZ)
  cases hq:strEq h.nm p.nm with
  |false=>
   simp-implicitDefEqProofs only[kZ,V,↓reduceIte,rA,rB,rC,reduceCtorEq,rD,rE,rF,WB,WF,h3,h6,h8,h30,h31,h32,hlt,H.at Ho.len hd,bR,stK_h,g0,n0,hq,w1,fillH]
   refine(pf (B:=B) p so H hN hH hp hs hB r (i+1) _ (aF hd) om ?_ ?_ ?_ ?_ ?_ ?_ ?_ ?_ ?_ ?_ ?_).mono ?_
   ·exact U53
   ·exact U73
   ·exact U74
   ·simp-implicitDefEqProofs only[V,↓reduceIte,rA,rB,rC,reduceCtorEq,rD,rE,rF,nB,gB]
   ·exact U50
   ·exact U75
   ·exact U120
   ·simp-implicitDefEqProofs only[V,↓reduceIte,rA,rB,rC,reduceCtorEq,rD,rE,rF,h30]
   ·simp-implicitDefEqProofs only[V,↓reduceIte,rA,rB,rC,reduceCtorEq,rD,rE,rF,h31]
   ·exact U28
   ·exact U72
   rintro e s2 ⟨d2,⟨q2,rfl,n2,o2,t2⟩|⟨q,q2,rfl,t2,g2⟩⟩
   ·simp-implicitDefEqProofs only[V,↓reduceIte,rA,rB,rC,reduceCtorEq,rD,rE,rF] at n2 o2 t2
    refine⟨d2,.inl ⟨q2,rfl,om,fun x x1=>?_,fun j hj hj2=>?_⟩⟩
    ·rw[o2 x x1]
     repeat rw[if_neg om]
    ·rw[t2 j hj hj2]
     repeat rw[if_neg om]
   ·exact⟨d2,.inr ⟨q,q2,rfl,t2,g2⟩⟩
  |true=>
   simp-implicitDefEqProofs only[kZ,V,↓reduceIte,rA,rB,rC,reduceCtorEq,rD,rE,rF,WB,WF,h3,h6,h8,h30,h31,h32,hlt,H.at Ho.len hd,bR,stK_h,g0,n0,hq,fillH]
   refine(pg (lo:=s.h.next+1) h.ps (hH h hm) h.ps.l 0 _ (.val (.slice none 0 0)) rfl (Nat.zero_le _) RowC.nil ?_ ?_ ?_ ?_ ?_ ?_).mono ?_
   ·simp-implicitDefEqProofs only[V,↓reduceIte,rA,rB,rC,reduceCtorEq,rD,rE,rF]
    exact Nat.le_refl _
   ·exact U28
   ·exact U28
   ·exact U28
   ·exact U66
   ·exact U72
   rintro e s1 ⟨rfl,⟨v1,r1,e11⟩,m1,o1,d1,t1⟩
   have m1':s.h.next+1≤s1.h.next:=by
    simp-implicitDefEqProofs only[V,↓reduceIte,rA,rB,rC,reduceCtorEq,rD,rE,rF] at m1
    exact m1
   have k0:s1.h.get 0=some (.cells p.cells true):=by rw[o1 0 om];simp-implicitDefEqProofs only[V,↓reduceIte,rA,rB,rC,reduceCtorEq,rD,rE,rF,n0,g0]
   have k1:s1.h.get 1=some (.cells [.val (.int .i64 0),.val (.string ⟨#[]⟩),.val (.int .i64 0),.val (.slice none 0 0)] true):=by rw[o1 1 om];simp-implicitDefEqProofs only[V,↓reduceIte,rA,rB,rC,reduceCtorEq,rD,rE,rF,n1,g1]
   have kB:s1.h.get B=some (.cells so.cells true):=by rw[o1 B om];simp-implicitDefEqProofs only[V,↓reduceIte,rA,rB,rC,reduceCtorEq,rD,rE,rF,nB,gB]
   have e3:s1.eval (.t 3)=some (.ptr 0 0):=by rw[t1 3 de de de];simp-implicitDefEqProofs only[V,↓reduceIte,rA,rB,rC,reduceCtorEq,rD,rE,rF,h3]
   have e6:s1.eval (.t 6)=some (.ptr 1 0):=by rw[t1 6 de de de];simp-implicitDefEqProofs only[V,↓reduceIte,rA,rB,rC,reduceCtorEq,rD,rE,rF,h6]
   have e8:s1.eval (.t 8)=some (.ptr B 0):=by rw[t1 8 de de de];simp-implicitDefEqProofs only[V,↓reduceIte,rA,rB,rC,reduceCtorEq,rD,rE,rF,h8]
   simp-implicitDefEqProofs only[V,↓reduceIte,rA,rB,rC,reduceCtorEq,rD,rE,rF,WB,e11,e3,e6,e8,k0,kB]
   obtain⟨h2,f1,f2,f3,f4⟩:=dx r1
   have hln:(nms h.ps.l).length=h.ps.l.length:=List.length_map _
   obtain⟨h3',c1,c2⟩:=qS (E:=E1) (g:=109) (xs:=[so.p.av]) (ys:=[p.kids]) (a:=v1) (t:=(so.p.sub (nms h.ps.l) p.ks).av) kr (mem1 (Tree.pr so.p)) (mem1 (Leaf.kids p).tree) jx.tree f1 f4 (fun h0=>by
    rw[cd hln,←p.vl_A]
    have:=gv ⟨nms h.ps.l,nilK,none⟩ p.vl (by show(nms h.ps.l).length<_;rw[hln];have:=hH h hm;omega) (by rw[p.vl_l];exact hp) so.p hs h0
    rw[p.vl_l] at this
    exact this)
   have q1:h3'.get 1=some (.cells [.val (.int .i64 0),.val (.string ⟨#[]⟩),.val (.int .i64 0),.val (.slice none 0 0)] true):=by
    rcases c2 with rfl|rfl
    ·exact k1
    ·rw[f3 1 (fun hv=>by have:=(r1.ids 1 hv).1;omega),k1]
   refine ah (v:=(so.p.sub (nms h.ps.l) p.ks).av) (h':=h3') ?_ ?_
   ·exact U76
   simp-implicitDefEqProofs only[V,↓reduceIte,rA,rB,rC,reduceCtorEq,rD,rE,rF,WB,WF,e6,q1,d1]
   exact .inr ⟨_,rfl,rfl⟩
def fillO(hs:List Ho)(p:Pr):List So→Option Pr
 | []=>none
 |s::r=>bif strEq s.nm p.nm then(bif s.p.same zPr then some tPr else some ((fillH p s.p hs).getD tPr)) else fillO hs p r
def zc:List AV:=[.val (.int .i64 0),.val (.string ⟨#[]⟩),.val (.int .i64 0),.val (.slice none 0 0)]
theorem pe(p:Pr)(H:Vl Ho)(S:Vl So)(hN:H.l.length<2^29)(hH:∀h∈H.l,h.ps.l.length<2^29)(hp:∀q∈p.ks,q.nodes<2^29)(hS:S.l.length<2^29)(hs:∀s∈S.l,s.p.nodes<2^29):∀(r:List So) (i:Nat) (s:St),S.l.drop i=r→i≤S.l.length→1<s.h.next→
  s.h.get 0=some (.cells p.cells true)→s.h.get 1=some (.cells [.val (.int .i64 0),.val (.string ⟨#[]⟩),.val (.int .i64 0),.val (.slice none 0 0)] true)→
  s.eval (.t 1)=some (H.A Ho.cells)→s.eval (.t 3)=some (.ptr 0 0)→s.eval (.t 6)=some (.ptr 1 0)→s.eval (.t 14)=some (S.A So.cells)→s.eval (.t 15)=some (.val (.int .i64 (S.l.length:Nat)))→s.eval (.t 16)=some (.val (.int .i64 (i:Nat)))→s.defers=[]→
  Run E1 ut s fun e s'=>s'.defers=[]∧s'.eval (.t 6)=some (.ptr 1 0)∧((fillO H.l p r=none∧e=.exit 0∧s'.h.get 1=some (.cells [.val (.int .i64 0),.val (.string ⟨#[]⟩),.val (.int .i64 0),.val (.slice none 0 0)] true))∨(∃q,fillO H.l p r=some q∧e=.ret∧s'.h.get 1=some (.cells q.cells true)))
 | [],i,s,hd,hi,hBn,g0,g1,h1,h3,h6,h14,h15,h16,hf=>by
  have hl:=aN hd hi
  subst hl
  apply aC (rfl:ut=.loop iR)
  simp-implicitDefEqProofs only[iR,V,↓reduceIte,rA,rB,rC,reduceCtorEq,rD,rE,rF,WB,h1,h3,h6,h14,h15,h16,hf,lt_f,fillO,g1]
 |so::r,i,s,hd,hi,hBn,g0,g1,h1,h3,h6,h14,h15,h16,hf=>by
  have hl:=aV hd
  have hlt:=lt_t hl
  have hm:so∈S.l:=List.mem_of_mem_drop (i:=i) (by rw[hd];exact List.mem_cons_self)
  have w1:IntKind.i64.wrap ((i:Int)+1)=((i+1:Nat):Int):=aE (n:=i+1) om
  have n0:(0=s.h.next)=False:=eq_false om
  have n1:(1=s.h.next)=False:=eq_false om
  have hsn:so.p.nodes<2^61:=by have:=hs so hm;omega
  apply aC (rfl:ut=.loop iR)
  cases hq:strEq so.nm p.nm with
  |false=>
   simp-implicitDefEqProofs only[iR,V,↓reduceIte,rA,rB,rC,reduceCtorEq,rD,rE,rF,WB,WF,h1,h3,h6,h14,h15,h16,hlt,S.at So.len hd,cj,nX,g0,n0,hq,w1,fillO]
   refine pe p H S hN hH hp hS hs r (i+1) _ (aF hd) om ?_ ?_ ?_ ?_ ?_ ?_ ?_ ?_ ?_ ?_
   ·exact U53
   ·exact U73
   ·exact U74
   ·exact U39
   ·exact U50
   ·exact U75
   ·exact U77
   ·exact U78
   ·exact U28
   ·exact U72
  |true=>cases hz:so.p.same zPr with
   |true=>
    simp-implicitDefEqProofs only[iR,V,↓reduceIte,rA,rB,rC,reduceCtorEq,rD,rE,rF,WB,WF,h1,h3,h6,h14,h15,h16,hlt,S.at So.len hd,cj,nX,g0,n0,g1,n1,hq,fillO,hz,eO hsn,qP,hf]
    exact .inr ⟨_,rfl,rfl⟩
   |false=>
    simp-implicitDefEqProofs only[iR,V,↓reduceIte,rA,rB,rC,reduceCtorEq,rD,rE,rF,WB,WF,h1,h3,h6,h14,h15,h16,hlt,S.at So.len hd,cj,nX,g0,n0,g1,n1,hq,fillO,hz,eO hsn]
    refine(pf (B:=s.h.next) p so H hN hH hp (hs so hm) hBn H.l 0 _ rfl (Nat.zero_le _) ?_ ?_ ?_ ?_ ?_ ?_ ?_ ?_ ?_ ?_ ?_).mono ?_
    ·exact U53
    ·exact U73
    ·exact U74
    ·exact U28
    ·exact U50
    ·exact U75
    ·exact U28
    ·exact U39
    ·exact U28
    ·exact U66
    ·exact U72
    rintro e s2 ⟨d2,⟨q2,rfl,n2,o2,t2⟩|⟨q,q2,rfl,t2,g2⟩⟩
    ·have e6:s2.eval (.t 6)=some (.ptr 1 0):=by rw[t2 6 de de];simp-implicitDefEqProofs only[V,↓reduceIte,rA,rB,rC,reduceCtorEq,rD,rE,rF,h6]
     have k1:s2.h.get 1=some (.cells [.val (.int .i64 0),.val (.string ⟨#[]⟩),.val (.int .i64 0),.val (.slice none 0 0)] true):=by rw[o2 1 om];simp-implicitDefEqProofs only[V,↓reduceIte,rA,rB,rC,reduceCtorEq,rD,rE,rF,n1,g1]
     simp-implicitDefEqProofs only[V,↓reduceIte,rA,rB,rC,reduceCtorEq,rD,rE,rF,WB,WF,e6,k1,qP,d2,q2,Option.getD_none]
     exact .inr ⟨_,rfl,rfl⟩
    ·simp-implicitDefEqProofs only[V,↓reduceIte,rA,rB,rC,reduceCtorEq,rD,rE,rF,WB,WF,t2,g2,d2,q2,Option.getD_some]
     exact .inr ⟨_,rfl,rfl⟩
def fillS(hs:List Ho)(l:List So)(p:Pr):Pr:=(fillO hs p l).getD tPr
theorem re(p:Pr)(H:Vl Ho)(S:Vl So)(hN:H.l.length<2^29)(hH:∀h∈H.l,h.ps.l.length<2^29)(hp:∀q∈p.ks,q.nodes<2^29)(hS:S.l.length<2^29)(hs:∀s∈S.l,s.p.nodes<2^29)(h:AH):
  RunCall E1 (.f 73) [p.av,H.A Ho.cells,S.A So.cells] h (fillS H.l S.l p).av h:=by
 refine bw kr f73_ok (mem3 (Tree.pr p) Tree.vl Tree.vl) (fun s hs' hh hd hr=>?_) h
 have h0:=hs' 0 _ rfl
 have h1:=hs' 1 _ rfl
 have h2:=hs' 2 _ rfl
 simp-implicitDefEqProofs only[f73_fn,f73,V,↓reduceIte,rA,rB,rC,reduceCtorEq,rD,rE,rF,WB,h0,h1,h2,hh]
 refine(pe p H S hN hH hp hS hs S.l 0 _ rfl (Nat.zero_le _) ?_ ?_ ?_ ?_ ?_ ?_ ?_ ?_ ?_ ?_).mono ?_
 ·exact U79
 ·exact U28
 ·exact U28
 ·exact U39
 ·exact U28
 ·exact U28
 ·exact U80
 ·exact U28
 ·exact U66
 ·exact U33
 rintro e s2 ⟨d2,e6,⟨q2,rfl,k1⟩|⟨q,q2,rfl,g2⟩⟩
 ·simp-implicitDefEqProofs only[V,↓reduceIte,rA,rB,rC,reduceCtorEq,rD,rE,rF,WB,WF,e6,k1,qP,d2,fillS,q2,Option.getD_none]
  exact⟨_,rfl,1,de,cJ tPr.leaves⟩
 ·simp-implicitDefEqProofs only[V,↓reduceIte,rA,rB,rC,reduceCtorEq,rD,rE,rF,WB,WF,e6,g2,d2,fillS,q2,Option.getD_some]
  exact⟨_,rfl,1,de,cJ q.leaves⟩
mutual
def Pr.fl(hs:List Ho)(l:List So):Pr→Pr
 |.mk o s n ks _ _=>bif decide (o=5) then fillS hs l (.mk o s n (Pr.flL hs l ks) nilK none) else .mk o s n (Pr.flL hs l ks) nilK none
def Pr.flL(hs:List Ho)(l:List So):List Pr→List Pr
 | []=>[]
 |k::r=>k.fl hs l::Pr.flL hs l r
end
theorem uY(hs:List Ho)(l:List So):∀ks:List Pr,Pr.flL hs l ks=ks.map (Pr.fl hs l)
 | []=>rfl
 |k::r=>by rw[Pr.flL,uY hs l r];rfl
mutual
def Pr.plain:Pr→Bool
 |.mk o _ _ ks _ _=> !decide (o=5)&&Pr.plainL ks
def Pr.plainL:List Pr→Bool
 | []=>true
 |k::r=>k.plain&&Pr.plainL r
end
mutual
def Pr.whole:Pr→Bool
 |.mk o _ _ ks _ _=>bif decide (o=5) then Pr.plainL ks else Pr.wholeL ks
def Pr.wholeL:List Pr→Bool
 | []=>true
 |k::r=>k.whole&&Pr.wholeL r
end
mutual
theorem lG:∀p:Pr,p.plain=true→p.whole=true
 |.mk o s n ks _ _,h=>by
  simp only[Pr.plain,Bool.and_eq_true,Bool.not_eq_true'] at h
  simp only[Pr.whole,h.1,cond_false]
  exact ee ks h.2
theorem ee:∀l:List Pr,Pr.plainL l=true→Pr.wholeL l=true
 | [],_=>rfl
 |k::r,h=>by
  simp only[Pr.plainL,Bool.and_eq_true] at h
  simp only[Pr.wholeL,Bool.and_eq_true]
  exact⟨lG k h.1,ee r h.2⟩
end
mutual
theorem fl_plain(hs:List Ho)(l:List So):∀p:Pr,p.plain=true→p.fl hs l=p.cp
 |.mk o s n ks _ _,h=>by
  simp only[Pr.plain,Bool.and_eq_true,Bool.not_eq_true'] at h
  simp only[Pr.fl,h.1,cond_false,Pr.cp,eT hs l ks h.2]
theorem eT(hs:List Ho)(l:List So):∀ks:List Pr,Pr.plainL ks=true→Pr.flL hs l ks=Pr.cpL ks
 | [],_=>rfl
 |k::r,h=>by
  simp only[Pr.plainL,Bool.and_eq_true] at h
  simp only[Pr.flL,Pr.cpL,fl_plain hs l k h.1,eT hs l r h.2]
end
mutual
theorem oE:∀p:Pr,p.cp.nodes=p.nodes
 |.mk o s n ks _ _=>by simp only[Pr.cp,Pr.nodes,gH ks]
theorem gH:∀l:List Pr,Pr.nodesL (Pr.cpL l)=Pr.nodesL l
 | []=>rfl
 |k::r=>by simp only[Pr.cpL,Pr.nodesL,oE k,gH r]
end
theorem cT:∀{l:List Pr} {k:Pr},k∈l→k.nodes≤Pr.nodesL l
 |p::r,k,h=>by
  rw[Pr.nodesL]
  rcases List.mem_cons.1 h with rfl|h
  ·omega
  ·have:=cT h
   omega
theorem rowT_pr{o n:Int}{s:ByteArray}{l:List Pr}{k:Nat}(hk:l.length=k):AV.agg [.val (.int .i64 o),.val (.string s),.val (.int .i64 n),rowT k (Pr.cellsL l)]=(Pr.mk o s n l nilK none).av:=by
 show _=AV.agg (Pr.mk o s n l nilK none).cells
 rw[Pr.cells_eq]
 subst hk
 simp only[rowT,Pr.kids,kidsA,nilK,Option.isSome_some,Bool.true_and,noKids,Pr.op,Pr.nm,Pr.n]
theorem fill_body(p:Pr)(H:Vl Ho)(S:Vl So)(F:Pr→Pr)(hN:p.ks.length<2^29)(hHN:H.l.length<2^29)(hH:∀h∈H.l,h.ps.l.length<2^29)(hS:S.l.length<2^29)(hs:∀s∈S.l,s.p.nodes<2^29)
  (hp:p.op=5→∀q∈p.ks.map F,q.nodes<2^29) (hc:∀k∈p.ks,∀h,RunCall E1 (.f 46) [k.av,H.A Ho.cells,S.A So.cells] h (F k).av h) (h:AH):
  RunCall E1 (.f 46) [p.av,H.A Ho.cells,S.A So.cells] h (bif decide (p.op=5) then fillS H.l S.l (Pr.mk p.op p.nm p.n (p.ks.map F) nilK none) else Pr.mk p.op p.nm p.n (p.ks.map F) nilK none).av h:=by
 refine bw kr f46_ok (mem3 (Tree.pr p) Tree.vl Tree.vl) (fun s hs' hh hd hr=>?_) h
 have h0:=hs' 0 _ rfl
 have h1:=hs' 1 _ rfl
 have h2:=hs' 2 _ rfl
 simp-implicitDefEqProofs only[f46_fn,f46,V,↓reduceIte,rA,rB,rC,reduceCtorEq,rD,rE,rF,WF,h0,h1,h2,hh,hd]
 refine(pu (C:=2) (lo:=3) (l:=p.ks) (L:=p.kids) (X:=[.val (.int .i64 p.op),.val (.string p.nm),.val (.int .i64 p.n)]) (F:=F) (a1:=H.A Ho.cells) (a2:=S.A So.cells) (fJ p) de rfl rfl hN Vl.ids Vl.ids p.ks 0 _ (.val (.slice none 0 0)) rfl (Nat.zero_le _) hc RowC.nil ?_ ?_ ?_ ?_ ?_ ?_ (.inr ?_) (.inr ?_) ?_).mono ?_
 ·exact U65
 ·exact U66
 ·exact U28
 ·exact U28
 ·exact U28
 ·exact U66
 ·exact U39
 ·exact U80
 ·exact U33
 rintro e s1 ⟨rfl,⟨v1,r1,g2⟩,n1,o1,d1,t1⟩
 simp only[List.cons_append,List.nil_append] at g2
 have g1:s1.h.get 1=some (.cells [.val (.int .i64 0),.val (.string ⟨#[]⟩),.val (.int .i64 0),.val (.slice none 0 0)] true):=by
  rw[o1 1 de de]
  exact U28
 have g0:s1.h.get 0=some (.cells p.cells true):=by
  rw[o1 0 de de]
  exact U28
 have e7:s1.eval (.t 7)=some (.ptr 2 0):=by rw[t1 7 de de];simp-implicitDefEqProofs only[V,↓reduceIte,rA,rB,rC,reduceCtorEq,rD,rE,rF]
 have e6:s1.eval (.t 6)=some (.ptr 1 0):=by rw[t1 6 de de];simp-implicitDefEqProofs only[V,↓reduceIte,rA,rB,rC,reduceCtorEq,rD,rE,rF]
 have e3:s1.eval (.t 3)=some (.ptr 0 0):=by rw[t1 3 de de];simp-implicitDefEqProofs only[V,↓reduceIte,rA,rB,rC,reduceCtorEq,rD,rE,rF]
 have e1:s1.eval (.t 1)=some (H.A Ho.cells):=by rw[t1 1 de de];simp-implicitDefEqProofs only[V,↓reduceIte,rA,rB,rC,reduceCtorEq,rD,rE,rF,h1]
 have e2:s1.eval (.t 2)=some (S.A So.cells):=by rw[t1 2 de de];simp-implicitDefEqProofs only[V,↓reduceIte,rA,rB,rC,reduceCtorEq,rD,rE,rF,h2]
 have hn:3≤s1.h.next:=n1
 cases ho:decide (p.op=5) with
 |false=>
  simp-implicitDefEqProofs only[V,↓reduceIte,rA,rB,rC,reduceCtorEq,rD,rE,rF,WF,e7,e6,e3,g2,g1,g0,d1,ho]
  refine⟨_,rfl,2,de,?_⟩
  exact yw (lo:=3) (r1.to (Nat.le_refl _) fun x x1 x2=>ac om) (List.length_map _)
 |true=>
  simp-implicitDefEqProofs only[V,↓reduceIte,rA,rB,rC,reduceCtorEq,rD,rE,rF,WF,e7,e6,e3,e1,e2,g2,g1,g0,d1,ho]
  obtain⟨h2',f1,f2,f3,f4⟩:=xN (Leaf.val (.int .i64 p.op)) (Leaf.val (.string p.nm)) (Leaf.val (.int .i64 p.n)) r1
  rw[rowT_pr (List.length_map _)] at f4
  obtain⟨h3',c1,c2⟩:=qS (E:=E1) (g:=73) (xs:=[]) (ys:=[H.A Ho.cells,S.A So.cells]) (t:=(fillS H.l S.l (Pr.mk p.op p.nm p.n (p.ks.map F) nilK none)).av) kr (fun v hv=>by cases hv) (mem2 Tree.vl Tree.vl) (Tree.pr _) f1 f4 (fun h0=>re (Pr.mk p.op p.nm p.n (p.ks.map F) nilK none) H S hHN hH (hp (of_decide_eq_true ho)) hS hs h0)
  have q1:h3'.get 1=some (.cells [.val (.int .i64 0),.val (.string ⟨#[]⟩),.val (.int .i64 0),.val (.slice none 0 0)] true):=by
   rcases c2 with rfl|rfl
   ·exact g1
   ·rw[f3 1 (fun hv=>by have:=(r1.ids 1 hv).1;omega),g1]
  refine ah (v:=(fillS H.l S.l (Pr.mk p.op p.nm p.n (p.ks.map F) nilK none)).av) (h':=h3') ?_ ?_
  ·exact U76
  simp-implicitDefEqProofs only[V,↓reduceIte,rA,rB,rC,reduceCtorEq,rD,rE,rF,WF,e6,q1,d1]
  exact⟨_,rfl,1,de,cJ (Pr.leaves _)⟩
mutual
theorem fX(H:Vl Ho)(S:Vl So)(hHN:H.l.length<2^29)(hH:∀h∈H.l,h.ps.l.length<2^29)(hS:S.l.length<2^29)(hs:∀s∈S.l,s.p.nodes<2^29):∀(p:Pr),p.whole=true→p.nodes<2^29→∀h,RunCall E1 (.f 46) [p.av,H.A Ho.cells,S.A So.cells] h (p.fl H.l S.l).av h
 |.mk o s n ks nl cap,hw,hb,h=>by
  have hb':1+Pr.nodesL ks<2^29:=hb
  have hk:ks.length≤Pr.nodesL ks:=am ks
  have hwl:Pr.wholeL ks=true:=by
   simp only[Pr.whole] at hw
   cases ho:decide (o=5) with
   |true=>rw[ho] at hw;exact ee ks hw
   |false=>rw[ho] at hw;exact hw
  have:=fill_body (.mk o s n ks nl cap) H S (Pr.fl H.l S.l) (by show ks.length<_;omega) hHN hH hS hs (fun ho q hq=>by
   have ho:o=5:=ho
   have hpl:Pr.plainL ks=true:=by
    simp only[Pr.whole,decide_eq_true ho,cond_true] at hw
    exact hw
   have hq:q∈ks.map (Pr.fl H.l S.l):=hq
   rw[←uY,eT _ _ ks hpl] at hq
   have h1:=cT hq
   rw[gH] at h1
   omega) (jG H S hHN hH hS hs ks hwl om) h
  rw[show(Pr.mk o s n ks nl cap).fl H.l S.l=(bif decide (o=5) then fillS H.l S.l (.mk o s n (Pr.flL H.l S.l ks) nilK none) else .mk o s n (Pr.flL H.l S.l ks) nilK none) by rw[Pr.fl],uY]
  exact this
theorem jG(H:Vl Ho)(S:Vl So)(hHN:H.l.length<2^29)(hH:∀h∈H.l,h.ps.l.length<2^29)(hS:S.l.length<2^29)(hs:∀s∈S.l,s.p.nodes<2^29):∀(l:List Pr),Pr.wholeL l=true→Pr.nodesL l<2^29→∀k∈l,∀h,RunCall E1 (.f 46) [k.av,H.A Ho.cells,S.A So.cells] h (k.fl H.l S.l).av h
 | [],_,_,k,hk,_=>by cases hk
 |p::r,hw,hb,k,hk,h=>by
  have hb':p.nodes+Pr.nodesL r<2^29:=hb
  simp only[Pr.wholeL,Bool.and_eq_true] at hw
  rcases List.mem_cons.1 hk with e|hk
  ·have:=fX H S hHN hH hS hs p hw.1 om h
   rw[e]
   exact this
  ·exact jG H S hHN hH hS hs r hw.2 om k hk h
end
end Go.Proofs.YtkhblipgiijoiaaGreatDoor
