/- A part of the proof about filled horn systems: XRep XReach XDrawC XDrawR XDrawA XDrawM XPush. -/
import Derived.Test.YtkhblipgiijoiaaGreatDoorU0
import Derived.Test.YtkhblipgiijoiaaGreatDoorW1
import Derived.Test.YtkhblipgiijoiaaGreatDoorW2

set_option linter.all false
open Option.some renaming injEq → sI
namespace Go.AM
variable {E:Env}{s:St}{K:St→Prop}{r:List AOper}{dst:Option Nat}
def Rep(h:AH)(lo hi:Nat):Nat→AV→AV→Prop
 |0,v,t=>Leaf v∧t=v
 |n+1,v,t=>(Leaf v∧t=v)∨
   (∃b k es cap rw,∃ps:List (AV×AV),v=.own b 0 k es cap∧lo≤b∧b<hi∧h.get b=some (.cells (ps.map (·.1)) rw)∧ps.length=k*es∧t=.imm (ps.map (·.2)) k cap∧∀p∈ps,Rep h lo hi n p.1 p.2)∨
   (∃ps:List (AV×AV),v=.agg (ps.map (·.1))∧t=.agg (ps.map (·.2))∧∀p∈ps,Rep h lo hi n p.1 p.2)∨
   (∃ps:List (AV×AV),v=.tup (ps.map (·.1))∧t=.tup (ps.map (·.2))∧∀p∈ps,Rep h lo hi n p.1 p.2)
theorem Rep.leaf{h:AH}{lo hi n:Nat}{v:AV}(k:Leaf v):Rep h lo hi n v v:=by
 cases n with
 |zero=>exact⟨k,rfl⟩
 |succ n=>exact .inl ⟨k,rfl⟩
theorem Rep.own{h:AH}{lo hi n b k es:Nat}{cap:Option Nat}{rw:Bool}{ps:List (AV×AV)}(h1:lo≤b)(h2:b<hi)(hg:h.get b=some (.cells (ps.map (·.1)) rw))(hl:ps.length=k*es)(hp:∀p∈ps,Rep h lo hi n p.1 p.2):
  Rep h lo hi (n+1) (.own b 0 k es cap) (.imm (ps.map (·.2)) k cap):=
 .inr (.inl ⟨b,k,es,cap,rw,ps,rfl,h1,h2,hg,hl,rfl,hp⟩)
theorem Rep.agg{h:AH}{lo hi n:Nat}{ps:List (AV×AV)}(hp:∀p∈ps,Rep h lo hi n p.1 p.2):Rep h lo hi (n+1) (.agg (ps.map (·.1))) (.agg (ps.map (·.2))):=
 .inr (.inr (.inl ⟨ps,rfl,rfl,hp⟩))
theorem Rep.tup{h:AH}{lo hi n:Nat}{ps:List (AV×AV)}(hp:∀p∈ps,Rep h lo hi n p.1 p.2):Rep h lo hi (n+1) (.tup (ps.map (·.1))) (.tup (ps.map (·.2))):=
 .inr (.inr (.inr ⟨ps,rfl,rfl,hp⟩))
theorem Rep.to{h h':AH}{lo hi lo' hi':Nat}(hl:lo'≤lo)(hh:hi≤hi')(hg:∀b,lo≤b→b<hi→∀cs rw,h.get b=some (.cells cs rw)→∃rw',h'.get b=some (.cells cs rw')):
  ∀{n m:Nat} {v t:AV},n≤m→Rep h lo hi n v t→Rep h' lo' hi' m v t
 |0,m,v,t,_,k=>by
  obtain⟨k,rfl⟩:=k
  exact Rep.leaf k
 |n+1,0,v,t,hm,k=>by omega
 |n+1,m+1,v,t,hm,k=>by
  rcases k with⟨k,rfl⟩|⟨b,k,es,cap,rw,ps,rfl,h1,h2,g,hk,rfl,hp⟩|⟨ps,rfl,rfl,hp⟩|⟨ps,rfl,rfl,hp⟩
  ·exact Rep.leaf k
  ·obtain⟨rw',g'⟩:=hg b h1 h2 _ _ g
   exact Rep.own om om g' hk fun p hm'=>Rep.to hl hh hg om (hp p hm')
  ·exact Rep.agg fun p hm'=>Rep.to hl hh hg om (hp p hm')
  ·exact Rep.tup fun p hm'=>Rep.to hl hh hg om (hp p hm')
theorem Fz.cells{h h':AH}(z:Fz h h'){b:Nat}{cs:List AV}{rw:Bool}(g:h.get b=some (.cells cs rw)):∃rw',h'.get b=some (.cells cs rw'):=by
 rcases z.2 b with e|⟨cs',rw',e1,e2⟩
 ·exact⟨rw,by rw[e,g]⟩
 ·rw[g] at e1
  cases e1
  exact⟨false,e2⟩
theorem Fz.still{h h':AH}(z:Fz h h'){b:Nat}{cs:List AV}(g:h.get b=some (.cells cs false)):h'.get b=some (.cells cs false):=by
 rcases z.2 b with e|⟨cs',rw',e1,e2⟩
 ·rw[e,g]
 ·rw[g] at e1
  cases e1
  exact e2
theorem Rep.fz{h h':AH}{lo hi n:Nat}{v t:AV}(z:Fz h h')(k:Rep h lo hi n v t):Rep h' lo hi n v t:=
 Rep.to (Nat.le_refl _) (Nat.le_refl _) (fun b _ _ cs rw g=>z.cells g) (Nat.le_refl _) k
theorem nh{lo hi n m:Nat}{h2:AH}(ih:∀(v t:AV) (g:AH),Rep g lo hi n v t→Fz (freeze m v g) h2→toTree h2 m v=some t):∀(ps:List (AV×AV)) (g:AH),(∀p∈ps,Rep g lo hi n p.1 p.2)→Fz ((ps.map (·.1)).foldl (fun h c=>freeze m c h) g) h2→(ps.map (·.1)).mapM (toTree h2 m)=some (ps.map (·.2))
 | [],g,_,_=>rfl
 |p::ps,g,hp,z=>by
  simp only[List.map_cons,List.foldl_cons] at z
  have z1:Fz (freeze m p.1 g) h2:=(Fz.foldl (fun h c=>dV m c h) (ps.map (·.1)) (freeze m p.1 g)).trans z
  have a:=ih p.1 p.2 g (hp p List.mem_cons_self) z1
  have b:=nh ih ps (freeze m p.1 g) (fun q hq=>(hp q (List.mem_cons_of_mem _ hq)).fz (dV m p.1 g)) z
  simp only[List.map_cons,List.mapM_cons,a,b]
  rfl
theorem ng{lo hi:Nat}:∀(n m:Nat),n<m→∀(v t:AV) (g h2:AH),Rep g lo hi n v t→Fz (freeze m v g) h2→toTree h2 m v=some t
 |0,m,hm,v,t,g,h2,k,z=>by
  obtain⟨k,rfl⟩:=k
  obtain⟨j,rfl⟩:∃j,m=j+1:=⟨m-1,om⟩
  exact k.1 h2 j
 |n+1,m,hm,v,t,g,h2,k,z=>by
  obtain⟨j,rfl⟩:∃j,m=j+1:=⟨m-1,om⟩
  have ih:=fun v t g=>ng (lo:=lo) (hi:=hi) n j om v t g h2
  rcases k with⟨k,rfl⟩|⟨b,k,es,cap,rw,ps,rfl,h1,h2',g1,hk,rfl,hp⟩|⟨ps,rfl,rfl,hp⟩|⟨ps,rfl,rfl,hp⟩
  ·exact k.1 h2 j
  ·have hlen:(ps.map (·.1)).length=k*es:=by rw[List.length_map,hk]
   have e1:freeze (j+1) (.own b 0 k es cap) g=(ps.map (·.1)).foldl (fun h c=>freeze j c h) (g.put b (some (.cells (ps.map (·.1)) false))):=by
    show(match g.get b with
     |some (.cells cs _)=>((cs.drop 0).take (k*es)).foldl (fun h c=>freeze j c h) (g.put b (some (.cells cs false)))
     |_=>g)=_
    rw[g1]
    simp only[List.drop_zero]
    rw[List.take_of_length_le om]
   rw[e1] at z
   have z0:Fz g (g.put b (some (.cells (ps.map (·.1)) false))):=⟨rfl,fun x=>by
    rw[AH.get_put]
    split
    ·rename_i e
     subst e
     exact .inr ⟨_,rw,g1,rfl⟩
    ·exact .inl rfl⟩
   have hb:(g.put b (some (.cells (ps.map (·.1)) false))).get b=some (.cells (ps.map (·.1)) false):=by rw[AH.get_put,if_pos rfl]
   have hb2:h2.get b=some (.cells (ps.map (·.1)) false):=((Fz.foldl (fun h c=>dV j c h) (ps.map (·.1)) _).trans z).still hb
   have hm2:=nh (m:=j) (h2:=h2) (n:=n) ih ps _ (fun p hp'=>(hp p hp').fz z0) z
   rw[toTree.eq_def]
   have hle:Nat.ble (0+k*es) (ps.map (·.1)).length=true:=Nat.ble_eq.mpr om
   simp only[hb2,hle,cond_true,List.drop_zero]
   rw[List.take_of_length_le om,hm2]
   rfl
  ·exact U45
  ·exact U45
theorem yR{g:Nat}{l:List AV}{v t:AV}{hc:AH}{lo hi n:Nat}(hs:E.shared.get g=none)(hk:E.known g l=none)(hl:∀v∈l,Tree v)
  (a:Ev fun n=>enterA E (exec E n) g l .empty=some (v,hc)) (hr:Rep hc lo hi n v t) (hn:n<deepest) (h:AH):RunCall E (.f g) l h t h:=by
 refine a.mono fun n' p=>?_
 have hz:l.foldl (fun h v=>freeze deepest v h) h=h:=bX hl
 have ht:=ng n deepest hn v t hc _ hr (Fz.refl _)
 simp only[aj,cQ,hs,hz,cR hl,hk,p,ht]
 cases isFlat t<;>rfl
end Go.AM
namespace Go.AM
variable {E:Env}{s:St}{K:St→Prop}
theorem Leaf.ids{v:AV}(k:Leaf v):ids v=[]:=by
 have k:=k.1 .empty 0
 cases v with
 |val x=>rfl
 |imm _ _ _=>rfl
 |iptr _=>rfl
 |agg cs=>
  cases cs with
  |nil=>rfl
  |cons c r=>
   rw[toTree.eq_def] at k
   simp only[List.mapM_cons] at k
   rw[toTree.eq_def] at k
   simp at k
 |tup cs=>
  cases cs with
  |nil=>rfl
  |cons c r=>
   rw[toTree.eq_def] at k
   simp only[List.mapM_cons] at k
   rw[toTree.eq_def] at k
   simp at k
 |own b off n es cap=>
  rw[toTree.eq_def] at k
  simp[AH.get,AH.empty,Tr.get] at k
 |ptr b off=>rw[toTree.eq_def] at k;simp at k
 |mp b=>rw[toTree.eq_def] at k;simp at k
 |it b=>rw[toTree.eq_def] at k;simp at k
 |yld b=>rw[toTree.eq_def] at k;simp at k
 |ifc t v=>
  rw[toTree.eq_def] at k
  simp only at k
  rw[toTree.eq_def] at k
  simp at k
 |fn f a b=>
  rw[toTree.eq_def] at k
  cases a with
  |cons c r=>
   simp only[List.mapM_cons] at k
   rw[toTree.eq_def] at k
   simp at k
  |nil=>
   cases b with
   |nil=>rfl
   |cons c r=>
    simp only[List.mapM_cons,List.mapM_nil] at k
    rw[toTree.eq_def] at k
    simp at k
inductive Sees (h:AH) (lo hi:Nat):Nat→Nat→Prop
 |mk {b c:Nat} {cs:List AV} {rw:Bool} (l:List (Nat×Nat)) (h1:lo≤b) (h2:b<hi) (g:h.get b=some (.cells cs rw)) (hd:idsL cs=l.map (·.1)) (hk:∀p∈l,Sees h lo hi p.1 p.2) (hc:(l.map (·.2)).sum+1≤c):Sees h lo hi b c
theorem qO{h':AH}:∀(l:List Nat) (t:Tr Blk) (b:Nat),(copyOld h' l t).get b=if b∈l then h'.get b else t.get b
 | [],t,b=>by simp[copyOld]
 |a::r,t,b=>by
  simp only[copyOld,Tr.get_put]
  by_cases e:b=a
  ·subst e
   rw[if_pos rfl,if_pos List.mem_cons_self]
  ·rw[if_neg e,qO r t b]
   by_cases m:b∈r
   ·rw[if_pos m,if_pos (List.mem_cons_of_mem _ m)]
   ·rw[if_neg m,if_neg (by simp[e,m])]
theorem noTags{h:AH}(k:NoTag h)(l:List Nat):withTags h l=l:=by
 unfold withTags
 refine List.append_right_eq_self.2 (List.filterMap_eq_nil_iff.2 fun b _=>?_)
 split
 ·rename_i b' t n e
  exact absurd e (k _ _ _ _)
 ·rfl
end Go.AM
namespace Go.AM
variable {E:Env}{s:St}{K:St→Prop}
theorem bA{d:DOp}{r:List DOp}{done:List DRec}{v:AV}{rec:DRec}{h:AH}(hf:freeOk done rec d.free=true)
  (hs:Ev fun n=>stepDraw E (aj E (exec E n)) d (nearOf done d.free) s=some (v,rec,h)) (k:DrawTo E r (done++[rec]) ((s.toH h).put d.o.dst v) K):DrawTo E (d::r) done s K:=by
 obtain⟨s',x,y⟩:=k
 refine⟨s',(hs.and x).mono fun n ⟨a,b⟩=>?_,y⟩
 simp only[runDraw,a,hf,cond_true]
 cases hd:d.o.dst with
 |none=>rw[hd] at b;exact b
 |some t=>rw[hd] at b;exact b
end Go.AM
namespace Go.AM
variable {E:Env}{s:St}{K:St→Prop}
theorem aW{A B:Prop}:guardTo s none A B=A:=by
 simp only[guardTo,wantedA,aO,forall_const,Bool.true_eq_false,false_implies,and_true]
def gIf(o:Option Bool)(A B:Prop):Prop:=match o with
 |some true=>A
 |some false=>B
 |none=>False
theorem cr{A B:Prop}:gIf (some true) A B=A:=rfl
theorem ct{A B:Prop}:gIf (some false) A B=B:=rfl
theorem bc{t:Nat}{b:Bool}{A B:Prop}:guardTo s (some (t,b)) A B=gIf (wantedV (s.eval (.t t)) b) A B:=by
 have e:wantedA s (some (t,b))=wantedV (s.eval (.t t)) b:=by
  show(match s.tm.get t with|some (.val (.bool c))=>some (c==b)|some (.tup [])=>some false|_=>none)=_
  show _=wantedV (s.tm.get t) b
  unfold wantedV
  rfl
 rw[guardTo,e]
 cases wantedV (s.eval (.t t)) b with
 |none=>rfl
 |some g=>
  cases g with
  |true=>simp only[aO,gIf,forall_const,Bool.true_eq_false,false_implies,and_true]
  |false=>simp only[aO,gIf,forall_const,Bool.false_eq_true,false_implies,true_and]
theorem ab{h:AH}{v:Value}:niceT h (some (.val v))=true:=rfl
theorem cU{h:AH}{l:List AV}:niceT h (some (.iptr l))=true:=rfl
theorem eP{v:Value}:plainT (some (.val v))=true:=rfl
theorem ef{l:List AV}:plainT (some (.iptr l))=true:=rfl
end Go.AM
namespace Go.AM
variable {E:Env}{s:St}{K:St→Prop}
def QuietB(n:Nat)(r:DRec):Prop:=Quiet r∧below n r.F=true
theorem za{l:List Nat}{op:AOp}{tm:Tr AV}{h:AH}(hn:(l.all fun t=>niceT h (tm.get t))=true):below h.next (theFoot op (idsL (pickTm tm l).vals))=true:=by
 unfold theFoot
 cases footed op with
 |true=>exact(xD hn).1
 |false=>rfl
theorem tS{post:List DOp}:∀(pre:List DOp) (done:List DRec) (s:St),calmAt done.length pre=true→(∀x∈done,QuietB s.h.next x)→
  wpDr E pre s (fun s'=>s'.h=s.h→∀done':List DRec,done'.length=done.length+pre.length→(∀x∈done',QuietB s.h.next x)→DrawTo E post done' s' K)→DrawTo E (pre++post) done s K
 | [],done,s,_,hq,h=>h rfl done (by simp) hq
 |⟨⟨dst,g,op⟩,rd,fr⟩::r,done,s,hc,hq,h=>by
  simp only[calmAt,Bool.and_eq_true] at hc
  obtain⟨⟨hfr,hcd⟩,hcr⟩:=hc
  have hf:∀i∈fr,i<done.length:=fun i hi=>Nat.blt_eq.mp (List.all_eq_true.1 hfr i hi)
  have hq1:∀x∈done,Quiet x:=fun x hx=>(hq x hx).1
  have hh:∀(dst:Option Nat) (v:AV),(s.put dst v).h=s.h:=fun dst v=>by cases dst<;>rfl
  have eK:∀(rec:DRec) (v:AV),(fun s':St=>s'.h=s.h→∀done':List DRec,done'.length=done.length+(⟨⟨dst,g,op⟩,rd,fr⟩::r).length→(∀x∈done',QuietB s.h.next x)→DrawTo E post done' s' K)=(fun s':St=>s'.h=(s.put dst v).h→∀done':List DRec,done'.length=(done++[rec]).length+r.length→(∀x∈done',QuietB (s.put dst v).h.next x)→DrawTo E post done' s' K):=fun rec v=>by
   have:(done++[rec]).length+r.length=done.length+(⟨⟨dst,g,op⟩,rd,fr⟩::r).length:=by
    rw[List.length_append,List.length_cons,List.length_cons,List.length_nil]
    omega
   rw[this,hh]
  have nx:∀(rec:DRec) (v:AV),QuietB s.h.next rec→wpDr E r (s.put dst v) (fun s':St=>s'.h=s.h→∀done':List DRec,done'.length=done.length+(⟨⟨dst,g,op⟩,rd,fr⟩::r).length→(∀x∈done',QuietB s.h.next x)→DrawTo E post done' s' K)→DrawTo E (r++post) (done++[rec]) (s.put dst v) K:=fun rec v hqr hw=>by
   rw[eK rec v] at hw
   exact tS r (done++[rec]) (s.put dst v) (by rw[List.length_append];exact hcr) (fun x hx=>by
    rw[hh]
    rcases List.mem_append.1 hx with hx|hx
    ·exact hq x hx
    ·rw[List.mem_singleton.1 hx];exact hqr) hw
  simp only[wpDr] at h
  obtain⟨hnice,h⟩:=h
  simp only[calmD,Bool.and_eq_true] at hcd
  obtain⟨hg,hop⟩:=hcd
  simp only[guardTo] at h
  cases hw:wantedA s g with
  |none=>rw[hw] at h;exact h.elim
  |some b=>
   rw[hw] at h
   simp only[aO] at h
   cases b with
   |false=>exact gm (d:=⟨⟨dst,g,op⟩,rd,fr⟩) hq1 hf (fv hg hw) (nx _ _ ⟨⟨rfl,rfl⟩,rfl⟩ (h.2 rfl))
   |true=>
    have h1:=h.1 rfl
    clear h
    split at h1
    ·rename_i f xs
     obtain⟨hp,h1⟩:=h1
     cases he:evalAll s xs with
     |none=>rw[he] at h1;exact h1.elim
     |some l=>
      rw[he] at h1
      obtain⟨v,hr,hk⟩:=h1
      exact gm (d:=⟨⟨dst,g,.call f xs⟩,rd,fr⟩) hq1 hf (tT rfl hop hg hw hp he hr) (nx _ _ ⟨⟨rfl,rfl⟩,rfl⟩ hk)
    ·rename_i hne
     have hop':calmOp rd op=true:=by
      split at hop
      ·exact absurd rfl (hne _ _)
      ·exact hop
     have hwo:wpOp E op s=fun K=>withV (runOp E noCall s op) fun(v,s')=>K v s':=by
      funext K
      cases op<;>first|rfl|(simp only[calmOp,Bool.false_eq_true] at hop')
     simp only[wpOps,wantedA,aO,forall_const,hwo] at h1
     have h1:=h1.1
     cases hr:runOp E noCall s op with
     |none=>rw[hr] at h1;exact h1.elim
     |some vs=>
      obtain⟨v,s1⟩:=vs
      rw[hr] at h1
      have hs:=(qR hop' hr).1
      subst hs
      exact gm (d:=⟨⟨dst,g,op⟩,rd,fr⟩) hq1 hf (gq (d:=⟨⟨dst,g,op⟩,rd,fr⟩) hop' hg hw hnice hr) (nx _ _ ⟨⟨rfl,rfl⟩,za hnice⟩ h1)
theorem dg{done:List DRec}{lo hi:Nat}:∀{l:List Nat},(∀i∈l,i<done.length)→freeOk done ⟨[],[],lo,hi⟩ l=true
 | [],_=>rfl
 |i::r,h=>by
  have hi:=h i List.mem_cons_self
  simp only[freeOk,List.getElem?_eq_getElem hi,recApart,touches,List.any_nil,Bool.not_false,Bool.and_self,Bool.true_and]
  exact dg fun j hj=>h j (List.mem_cons_of_mem _ hj)
theorem memN_no{l:List Nat}{n b:Nat}(h:below n l=true)(hb:n≤b):memN l b=false:=by
 rw[memN,List.any_eq_false]
 intro x hx e
 have h1:=Nat.blt_eq.mp (List.all_eq_true.1 h x hx)
 have h2:=Nat.eq_of_beq_eq_true e
 omega
theorem qY{dst:Nat}{z:List AV}{fr:List Nat}{r:List DOp}{done:List DRec}(hf:∀i∈fr,i<done.length)
  (k:DrawTo E r (done++[⟨[],[],s.h.next,s.h.next+1⟩]) ((s.toH (s.h.alloc (.cells z true))).put (some dst) (.ptr s.h.next 0)) K):DrawTo E (⟨⟨some dst,none,.alloc z⟩,[],fr⟩::r) done s K:=by
 refine bA (d:=⟨⟨some dst,none,.alloc z⟩,[],fr⟩) (dg hf) (Ev.of fun n=>?_) k
 have hm:mergeH s.h [] ((restrictH s.h []).alloc (.cells z true))=s.h.alloc (.cells z true):=by
  have e:((restrictH s.h []).alloc (.cells z true)).get s.h.next=some (.cells z true):=by
   rw[AH.get_alloc]
   exact if_pos rfl
  show(⟨s.h.next+1,copyNew ((restrictH s.h []).alloc (.cells z true)) s.h.next (s.h.next+1-s.h.next) s.h.tr⟩:AH)=_
  rw[Nat.add_sub_cancel_left]
  simp only[copyNew,Nat.add_zero,e]
  rfl
 have hb:Nat.ble s.h.next (s.h.next+1)=true:=Nat.ble_eq.mpr (Nat.le_succ _)
 have e1:pickTm s.tm []=.nil:=rfl
 have e2:idsL (Tr.vals (.nil:Tr AV))=[]:=rfl
 simp only[stepDraw,wantedA,e1,e2,foot,below,knownH,List.all_nil,Bool.and_self,cond_true,runOp,isCall,cond_false,turned,hm,List.isEmpty_nil,Bool.true_and]
 have hb':Nat.ble s.h.next ((restrictH s.h []).alloc (.cells z true)).next=true:=hb
 simp only[hb',cond_true]
 rfl
end Go.AM
namespace Go.AM
variable {E:Env}{s:St}{K:St→Prop}{rest:List DOp}{done:List DRec}
theorem eo{h F:AH}{D:List Nat}(hn:h.next≤F.next)(b:Nat):(mergeH h D F).get b=if h.next≤b∧b<F.next then F.get b else if b∈D then F.get b else h.get b:=by
 show(copyNew F h.next (F.next-h.next) (copyOld F D h.tr)).get b=_
 rw[dz,show h.next+(F.next-h.next)=F.next by omega,qO]
 rfl
theorem dw{l:List Nat}{i:Nat}{v:AV}(hi:i∈l)(he:s.eval (.t i)=some v):(pickTm s.tm l).get i=some v:=by rw[bJ,if_pos hi];exact he
theorem dr{l:List Nat}{x:Nat}(hx:x∈idsL (pickTm s.tm l).vals):∃j∈l,∃v,s.eval (.t j)=some v∧x∈ids v:=by
 obtain⟨w,hw,hxw⟩:=idsL_in hx
 obtain⟨j,hj⟩:=eR hw
 rw[bJ] at hj
 split at hj
 ·rename_i hm
  exact⟨j,hm,w,hj,hxw⟩
 ·cases hj
def MildR(R:List Nat)(x:DRec):Prop:=∀r∈R,r∉x.D∧¬(x.lo≤r∧r<x.hi)
theorem ye{R F:List Nat}{x:DRec}(hm:MildR R x)(hF:∀b∈F,b∈R):touches x F=false:=by
 rw[touches,List.any_eq_false]
 intro b hb
 obtain⟨h1,h2⟩:=hm b (hF b hb)
 have m1:memN x.D b=false:=by
  cases hq:memN x.D b with
  |false=>rfl
  |true=>exact absurd (cn hq) h1
 have m2:(Nat.ble x.lo b&&Nat.blt b x.hi)=false:=by
  cases hq:(Nat.ble x.lo b&&Nat.blt b x.hi) with
  |false=>rfl
  |true=>
   simp only[Bool.and_eq_true] at hq
   exact absurd ⟨Nat.le_of_ble_eq_true hq.1,Nat.blt_eq.mp hq.2⟩ h2
 rw[m1,m2]
 decide
theorem cW{R F:List Nat}{lo hi:Nat}(hq:∀x∈done,MildR R x)(hF:∀b∈F,b∈R):∀{l:List Nat},(∀i∈l,i<done.length)→freeOk done ⟨F,[],lo,hi⟩ l=true
 | [],_=>rfl
 |i::r,h=>by
  have hi:=h i List.mem_cons_self
  have t1:=ye (hq _ (List.getElem_mem hi)) hF
  have t2:touches done[i] []=false:=rfl
  simp only[freeOk,List.getElem?_eq_getElem hi,recApart,t1,t2,List.any_nil,Bool.not_false,Bool.and_self,Bool.true_and]
  exact cW hq hF fun j hj=>h j (List.mem_cons_of_mem _ hj)
def onlyT(R:List Nat):Option AV→Bool
 |some v=>(ids v).all (memN R)
 |none=>true
def wpDm(E:Env)(R:List Nat):List DOp→St→(St→Prop)→Prop
 | [],s,K=>K s
 |⟨⟨dst,g,op⟩,rd,_⟩::r,s,K=>(rd.all fun t=>niceT s.h (s.eval (.t t)))=true∧(!footed op||rd.all fun t=>onlyT R (s.eval (.t t)))=true∧guardTo s g
   (match op with
   |.call f l=>(rd.all fun t=>plainT (s.eval (.t t)))=true∧withV (evalAll s l) fun l=>∃v,(∀h,RunCall E (.f f) l h v h)∧wpDm E R r (s.put dst v) K
   |op=>wpOps E [⟨dst,none,op⟩] s fun s'=>wpDm E R r s' K)
   (wpDm E R r (s.put dst undefA) K)
theorem bj{R:List Nat}{post:List DOp}{K1:St→Prop}:∀(pre:List DOp) (done:List DRec) (s:St) (h0:AH) (n0:Nat),calmAt done.length pre=true→(∀x∈done,MildR R x)→(∀r∈R,r<s.h.next)→s.h=h0→done.length+pre.length=n0→
  wpDm E R pre s K1→(∀s',K1 s'→s'.h=h0→∀done':List DRec,done'.length=n0→(∀x∈done',MildR R x)→DrawTo E post done' s' K)→DrawTo E (pre++post) done s K
 | [],done,s,h0,n0,_,hq,_,e,en,h,hk=>hk s h e done (by rw[←en];rfl) hq
 |⟨⟨dst,g,op⟩,rd,fr⟩::r,done,s,h0,n0,hc,hq,hR,e,en,h,hk=>by
  simp only[calmAt,Bool.and_eq_true] at hc
  obtain⟨⟨hfr,hcd⟩,hcr⟩:=hc
  simp only[calmD,Bool.and_eq_true] at hcd
  obtain⟨hg,hop⟩:=hcd
  have hf:∀i∈fr,i<done.length:=fun i hi=>Nat.blt_eq.mp (List.all_eq_true.1 hfr i hi)
  have hh:∀(dst:Option Nat) (v:AV),(s.put dst v).h=s.h:=fun dst v=>by cases dst<;>rfl
  have nx:∀(rec:DRec) (v:AV),MildR R rec→wpDm E R r (s.put dst v) K1→DrawTo E (r++post) (done++[rec]) (s.put dst v) K:=fun rec v hqr hw=>
   bj r (done++[rec]) (s.put dst v) h0 n0 (by rw[List.length_append];exact hcr) (fun x hx=>by
    rcases List.mem_append.1 hx with hx|hx
    ·exact hq x hx
    ·rw[List.mem_singleton.1 hx];exact hqr) (fun r hr=>by rw[hh];exact hR r hr) (by rw[hh];exact e) (by
    rw[←en,List.length_append,List.length_cons,List.length_cons,List.length_nil]
    omega) hw hk
  have md:∀F,MildR R ⟨F,[],s.h.next,s.h.next⟩:=fun F r _=>⟨(fun h=>by cases h),(fun hab=>by
   obtain⟨h1,h2⟩:=hab
   simp only at h1 h2
   omega)⟩
  simp only[wpDm] at h
  obtain⟨hnice,honly,h⟩:=h
  simp only[guardTo] at h
  cases hw:wantedA s g with
  |none=>rw[hw] at h;exact h.elim
  |some b=>
   rw[hw] at h
   simp only[aO] at h
   cases b with
   |false=>exact bA (d:=⟨⟨dst,g,op⟩,rd,fr⟩) (cW hq (fun b hb=>by cases hb) hf) (fv hg hw) (nx _ _ (md _) (h.2 rfl))
   |true=>
    have h1:=h.1 rfl
    clear h
    split at h1
    ·exact U46
    ·exact U47
theorem cO{R:List Nat}{post:List DOp}(pre:List DOp)(done:List DRec)(s:St)(hc:calmAt done.length pre=true)(hq:∀x∈done,MildR R x)(hR:∀r∈R,r<s.h.next)
  (h:wpDm E R pre s (fun s'=>s'.h=s.h→∀done':List DRec,done'.length=done.length+pre.length→(∀x∈done',MildR R x)→DrawTo E post done' s' K)):DrawTo E (pre++post) done s K:=
 bj pre done s s.h _ hc hq hR rfl rfl h fun s' k e=>k e
theorem gI{R:List Nat}{ops:List DOp}{s:St}(hc:calmAt done.length ops=true)(hq:∀x∈done,MildR R x)(hR:∀r∈R,r<s.h.next)(h:wpDm E R ops s K):DrawTo E ops done s K:=by
 have:=bj (E:=E) (R:=R) (post:=[]) (K:=K) ops done s s.h _ hc hq hR rfl rfl h (fun s' k _ done' _ _=>bV k)
 rwa [List.append_nil] at this
def tagH(h:AH)(e:TypeId)(cs:List AV):AH:=(h.alloc (.cells cs true)).alloc (.tag h.next e none)
theorem tagH_next{h:AH}{e:TypeId}{cs:List AV}:(tagH h e cs).next=h.next+2:=rfl
theorem tagH_new{h:AH}{e:TypeId}{cs:List AV}:(tagH h e cs).get h.next=some (.cells cs true):=by
 simp only[tagH,AH.get_alloc,fo]
 rw[if_neg om]
 simp
theorem tagH_tag{h:AH}{e:TypeId}{cs:List AV}:(tagH h e cs).get (h.next+1)=some (.tag h.next e none):=by
 simp only[tagH,AH.get_alloc,fo,if_true]
structure RowT (h:AH) (b:Nat) (bs:List UInt8):Prop where
 cb:h.get b=some (.cells (bytesA bs) true)
 tg:h.get (b+1)=some (.tag b 5 none)
 lt:b+1<h.next
theorem RowT.new{h:AH}{bs:List UInt8}:RowT (tagH h 5 (bytesA bs)) h.next bs:=⟨tagH_new,tagH_tag,by rw[tagH_next];omega⟩
theorem RowT.to{h h':AH}{b:Nat}{bs:List UInt8}(k:RowT h b bs)(hn:h.next≤h'.next)(g1:h'.get b=h.get b)(g2:h'.get (b+1)=h.get (b+1)):RowT h' b bs:=⟨by rw[g1,k.cb],by rw[g2,k.tg],by have:=k.lt;omega⟩
theorem RowT.tag{h:AH}{b:Nat}{bs:List UInt8}(k:RowT h b bs):tagOf h b=some (5,none):=by
 simp only[tagOf,k.tg,Nat.beq_refl,cond_true]
end Go.AM
namespace Go.AM
variable {E:Env}{s:St}{K:St→Prop}{rest:List DOp}{done:List DRec}
theorem ac{h:AH}{x:Option Blk}{y c:Nat}(hy:y≠c):(h.put c x).get y=h.get y:=by rw[AH.get_put,if_neg hy]
theorem aP{h:AH}{x:Blk}{y:Nat}(hy:y<h.next):(h.alloc x).get y=h.get y:=by rw[AH.get_alloc,if_neg om]
theorem ai{h:AH}{x:Blk}:(h.alloc x).get h.next=some x:=by rw[AH.get_alloc,if_pos rfl]
theorem np{h:AH}{b:Nat}{k:Blk}:(h.put b (some k)).get b=some k:=by rw[AH.get_put,if_pos rfl]
def RowC(h:AH)(lo k es:Nat)(v:AV)(cs:List AV):Prop:=
 (∀c∈cs,Leaf c)∧cs.length=k*es∧((k=0∧v=.val (.slice none 0 0))∨∃b,lo≤b∧b<h.next∧0<k∧v=.own b 0 k es none∧h.get b=some (.cells cs true))
theorem RowC.nil{h:AH}{lo es:Nat}:RowC h lo 0 es (.val (.slice none 0 0)) []:=⟨fun c hc=>(by cases hc),by simp,.inl ⟨rfl,rfl⟩⟩
theorem RowC.to{h h':AH}{lo k es:Nat}{v:AV}{cs:List AV}(r:RowC h lo k es v cs)(hn:h.next≤h'.next)(g:∀x,lo≤x→x<h.next→h'.get x=h.get x):RowC h' lo k es v cs:=by
 obtain⟨h1,h2,r⟩:=r
 refine⟨h1,h2,?_⟩
 rcases r with r|⟨b,b1,b2,b3,b4,b5⟩
 ·exact .inl r
 ·exact .inr ⟨b,b1,om,b3,b4,by rw[g b b1 b2,b5]⟩
theorem RowC.toB{h h':AH}{lo k es:Nat}{v:AV}{cs:List AV}(r:RowC h lo k es v cs)(hn:h.next≤h'.next)(g:∀x∈ids v,h'.get x=h.get x):RowC h' lo k es v cs:=by
 obtain⟨h1,h2,r⟩:=r
 refine⟨h1,h2,?_⟩
 rcases r with r|⟨b,b1,b2,b3,rfl,b5⟩
 ·exact .inl r
 ·exact .inr ⟨b,b1,om,b3,rfl,by rw[g b (by simp only[ids,List.mem_singleton]),b5]⟩
theorem RowC.low{h:AH}{lo lo' k es:Nat}{v:AV}{cs:List AV}(r:RowC h lo k es v cs)(hl:lo'≤lo):RowC h lo' k es v cs:=by
 obtain⟨h1,h2,r⟩:=r
 refine⟨h1,h2,?_⟩
 rcases r with r|⟨b,b1,b2,b3,b4,b5⟩
 ·exact .inl r
 ·exact .inr ⟨b,om,b2,b3,b4,b5⟩
theorem RowC.cells{h:AH}{lo k es:Nat}{v:AV}{cs:List AV}(r:RowC h lo k es v cs):v.cells=some [v]:=by
 obtain⟨_,_,⟨_,rfl⟩|⟨b,_,_,_,rfl,_⟩⟩:=r<;>rfl
theorem bo{cs:List AV}(h:∀c∈cs,Leaf c):idsL cs=[]:=by
 induction cs with
 |nil=>rfl
 |cons a l ih=>
  simp only[idsL,(h a List.mem_cons_self).ids,ih fun c hc=>h c (List.mem_cons_of_mem _ hc),List.append_nil]
theorem RowC.ids{h:AH}{lo k es:Nat}{v:AV}{cs:List AV}(r:RowC h lo k es v cs):∀x∈ids v,lo≤x∧x<h.next∧h.get x=some (.cells cs true):=by
 intro x hx
 obtain⟨_,_,⟨_,rfl⟩|⟨b,b1,b2,_,rfl,b5⟩⟩:=r
 ·cases hx
 ·simp only[AM.ids,List.mem_singleton] at hx
  subst hx
  exact⟨b1,b2,b5⟩
theorem RowC.below{h:AH}{lo k es:Nat}{v:AV}{cs:List AV}(r:RowC h lo k es v cs):AM.below h.next (AM.ids v)=true:=List.all_eq_true.2 fun x hx=>Nat.blt_eq.mpr (r.ids x hx).2.1
theorem RowC.nice{h:AH}{lo k es:Nat}{v:AV}{cs:List AV}(r:RowC h lo k es v cs):niceT h (some v)=true:=by
 simp only[niceT,niceV]
 refine List.all_eq_true.2 fun x hx=>?_
 obtain⟨_,h1,h2⟩:=r.ids x hx
 have:Nat.blt x h.next=true:=Nat.blt_eq.mpr h1
 simp only[this,h2,bo r.1]
 rfl
theorem RowC.len{h:AH}{lo k es:Nat}{v:AV}{cs:List AV}(r:RowC h lo k es v cs):lenV v=some (.val (.int .i64 (k:Nat))):=by
 obtain⟨_,_,⟨rfl,rfl⟩|⟨b,_,_,_,rfl,_⟩⟩:=r<;>rfl
theorem jb:∀cs:List AV,(cs.map fun c=>(c,c)).map (·.1)=cs
 | []=>rfl
 |c::r=>by rw[List.map_cons,List.map_cons,jb r]
theorem ja:∀cs:List AV,(cs.map fun c=>(c,c)).map (·.2)=cs
 | []=>rfl
 |c::r=>by rw[List.map_cons,List.map_cons,ja r]
theorem dO{h:AH}{y:Nat}:∀{l:List Nat},y∉l→(restrictH h l).get y=none
 | [],_=>rfl
 |b::l,q=>by
  simp only[List.mem_cons,not_or] at q
  simp only[restrictH,restrictT,AH.get,Tr.get_put]
  rw[if_neg q.1]
  exact dO q.2
theorem RowC.rep{h:AH}{lo k es:Nat}{v:AV}{cs:List AV}(r:RowC h lo k es v cs):Rep h lo h.next 1 v (bif Nat.beq k 0 then .val (.slice none 0 0) else .imm cs k none):=by
 obtain⟨h1,h2,⟨rfl,rfl⟩|⟨b,b1,b2,b3,rfl,b5⟩⟩:=r
 ·exact Rep.leaf (Leaf.val _)
 ·have e:Nat.beq k 0=false:=by
   cases hk:Nat.beq k 0 with
   |false=>rfl
   |true=>
    have:=Nat.eq_of_beq_eq_true hk
    omega
  rw[e]
  have:=Rep.own (h:=h) (lo:=lo) (hi:=h.next) (n:=0) (b:=b) (k:=k) (es:=es) (cap:=none) (rw:=true) (ps:=cs.map fun c=>(c,c)) b1 b2 (by rw[jb];exact b5) (by rw[List.length_map,h2]) (fun p hp=>by
   obtain⟨c,hc,rfl⟩:=List.mem_map.1 hp
   exact Rep.leaf (h1 c hc))
  rw[ja] at this
  exact this
def pushC(h:AH)(v:AV)(new:List AV):AH:=match v with
 |.own b _ _ _ none=>match h.get b with
  |some (.cells cs _)=>(h.put b none).alloc (.cells (cs++new) true)
  |_=>h
 |_=>h.alloc (.cells new true)
theorem kx{es bytes a d k m lo:Nat}{v x:AV}{cs new:List AV}(r:RowC s.h lo k es v cs)(he:elemsOf s.h es x=some (new,m))(hm:0<m)(hok:okLen (k+m) bytes=true)(ha:s.eval (.t a)=some v)(hx:s.eval (.t d)=some x):
  appendA s es bytes (.t a) (.t d)=some (.own s.h.next 0 (k+m) es none,s.toH (pushC s.h v new)):=by
 have hb:Nat.beq m 0=false:=by
  cases hk:Nat.beq m 0 with
  |false=>rfl
  |true=>
   have:=Nat.eq_of_beq_eq_true hk
   omega
 have bes:Nat.beq es es=true:=Nat.beq_refl es
 obtain⟨h1,h2,⟨rfl,rfl⟩|⟨b,b1,b2,b3,rfl,b5⟩⟩:=r
 ·simp only[Nat.zero_add] at hok
  simp only[appendA,ha,hx,he,hb,cond_false,hok,cond_true,pushC,Nat.zero_add]
  rfl
 ·have c2:Nat.ble (0+k*es) cs.length=true:=Nat.ble_eq.mpr om
  have c3:Nat.beq (0+k*es) cs.length=true:=Nat.beq_eq.mpr om
  simp only[appendA,ha,hx,he,hb,cond_false,b5,bes,c2,hok,Bool.and_self,cond_true,c3,pushC,List.drop_zero]
  rfl
theorem yX{es bytes a d k lo:Nat}{v x:AV}{cs new:List AV}(r:RowC s.h lo k es v cs)(he:elemsOf s.h es x=some (new,0))(ha:s.eval (.t a)=some v)(hx:s.eval (.t d)=some x):
  appendA s es bytes (.t a) (.t d)=some (v,s):=by
 have hb:Nat.beq 0 0=true:=rfl
 obtain⟨h1,h2,⟨rfl,rfl⟩|⟨b,b1,b2,b3,rfl,b5⟩⟩:=r
 ·simp only[appendA,ha,hx,he,hb,cond_true]
 ·simp only[appendA,ha,hx,he,hb,cond_true]
theorem tp{h:AH}{lo k m es:Nat}{v:AV}{cs new:List AV}(r:RowC h lo k es v cs)(hlo:lo≤h.next)(hn:∀c∈new,Leaf c)(hl:new.length=m*es)(hm:0<m):
  (pushC h v new).next=h.next+1∧RowC (pushC h v new) lo (k+m) es (.own h.next 0 (k+m) es none) (cs++new)∧(∀x,x<h.next→x∉AM.ids v→(pushC h v new).get x=h.get x)∧(pushC h v new).get h.next=some (.cells (cs++new) true):=by
 obtain⟨h1,h2,r⟩:=r
 have hl':(cs++new).length=(k+m)*es:=by rw[List.length_append,h2,hl,Nat.add_mul]
 have hlf:∀c∈cs++new,Leaf c:=fun c hc=>by
  rcases List.mem_append.1 hc with hc|hc
  ·exact h1 c hc
  ·exact hn c hc
 rcases r with⟨rfl,rfl⟩|⟨b,b1,b2,b3,rfl,b5⟩
 ·have e:cs=[]:=List.length_eq_zero_iff.1 om
  subst e
  refine⟨rfl,⟨hlf,hl',.inr ⟨h.next,hlo,Nat.lt_succ_self _,om,rfl,?_⟩⟩,fun x hx _=>?_,?_⟩
  ·simp only[pushC,List.nil_append]
   exact ai
  ·simp only[pushC]
   exact aP hx
  ·simp only[pushC,List.nil_append]
   exact ai
 ·have hp:pushC h (.own b 0 k es none) new=(h.put b none).alloc (.cells (cs++new) true):=by simp only[pushC,b5]
  have hpn:(h.put b none).next=h.next:=rfl
  rw[hp]
  have hg:((h.put b none).alloc (.cells (cs++new) true)).get h.next=some (.cells (cs++new) true):=by
   have:=ai (h:=h.put b none) (x:=.cells (cs++new) true)
   rwa [hpn] at this
  refine⟨rfl,⟨hlf,hl',.inr ⟨h.next,hlo,Nat.lt_succ_self _,om,rfl,hg⟩⟩,fun x hx hv=>?_,hg⟩
  rw[aP (by rw[hpn];exact hx),ac]
  intro e
  exact hv (by simp only[AM.ids,List.mem_singleton];exact e)
theorem app_any{es bytes a d k m lo:Nat}{v x:AV}{cs new:List AV}(r:RowC s.h lo k es v cs)(hlo:lo≤s.h.next)(he:elemsOf s.h es x=some (new,m))(hl:new.length=m*es)(hn:∀c∈new,Leaf c)(hok:okLen (k+m) bytes=true)(ha:s.eval (.t a)=some v)(hx:s.eval (.t d)=some x):
  ∃v' h',appendA s es bytes (.t a) (.t d)=some (v',s.toH h')∧RowC h' lo (k+m) es v' (cs++new)∧s.h.next≤h'.next∧(∀y,y<s.h.next→y∉AM.ids v→h'.get y=s.h.get y):=by
 rcases Nat.eq_zero_or_pos m with e|hm
 ·subst e
  have:new=[]:=List.length_eq_zero_iff.1 om
  subst this
  exact⟨v,s.h,yX r he ha hx,by rw[List.append_nil];exact r,Nat.le_refl _,fun _ _ _=>rfl⟩
 ·obtain⟨p1,p2,p3,p4⟩:=tp r hlo hn hl hm
  exact⟨_,_,kx r he hm hok ha hx,p2,om,p3⟩
theorem bD{k bytes:Nat}(hk:k<2^31)(hb:bytes≤100):okLen k bytes=true:=by
 have:mostBytes=2^40:=rfl
 simp only[okLen,this,Bool.and_eq_true]
 exact⟨Nat.ble_eq.mpr (Nat.le_trans (Nat.mul_le_mul_left _ hb) om),Nat.ble_eq.mpr om⟩
theorem gi{h:AH}{n es:Nat}{cap:Option Nat}{cs:List AV}(hl:cs.length=n*es):elemsOf h es (.imm cs n cap)=some (cs,n):=by
 have h4:Nat.ble (n*es) cs.length=true:=Nat.ble_eq.mpr om
 simp only[elemsOf,h4,cond_true]
 rw[←hl,List.take_length]
theorem cE{h:AH}{b es n:Nat}{cap:Option Nat}{cs:List AV}{rw':Bool}(g:h.get b=some (.cells cs rw'))(hl:cs.length=n*es):elemsOf h es (.own b 0 n es cap)=some (cs,n):=by
 have h3:Nat.beq es es=true:=Nat.beq_refl es
 have h4:Nat.ble (0+n*es) cs.length=true:=Nat.ble_eq.mpr om
 simp only[elemsOf,h3,cond_true,g,h4,List.drop_zero]
 rw[←hl,List.take_length]
theorem gM{s:St}{es:Nat}{x:Opd}{z cells:List AV}{v:AV}(hx:s.eval x=some v)(hv:v.cells=some cells)(hl:cells.length=es)(hz:z.length=es):fill s z [(0,es,x)]=some cells:=by
 have h1:Nat.beq cells.length es=true:=by rw[hl];exact Nat.beq_refl es
 have h2:Nat.ble (0+es) z.length=true:=Nat.ble_eq.mpr om
 have h3:putAt z 0 cells=cells:=by
  simp only[putAt,List.take_zero,List.nil_append,Nat.zero_add]
  rw[List.drop_eq_nil_of_le om,List.append_nil]
 simp only[fill,hx,hv,h1,h2,Bool.and_self,cond_true,h3]
theorem vals_idsP{i:Nat}{v:AV}(he:s.eval (.t i)=some v):∀x∈idsL (pickTm s.tm [i]).vals,x∈ids v:=fun x hx=>by
 obtain⟨j,hj,w,hw,hxw⟩:=dr hx
 rw[List.mem_singleton.1 hj,he] at hw
 cases hw
 exact hxw
theorem bY{dst:Option Nat}{op:AOp}{rd fr:List Nat}{v:AV}(hc:calmOp rd op=true)(hnf:footed op=false)(hn:(rd.all fun t=>niceT s.h (s.eval (.t t)))=true)(ho:runOp E noCall s op=some (v,s))(hf:∀i∈fr,i<done.length)
  (k:DrawTo E rest (done++[⟨[],[],s.h.next,s.h.next⟩]) (s.put dst v) K):DrawTo E (⟨⟨dst,none,op⟩,rd,fr⟩::rest) done s K:=by
 have st:=gq (E:=E) (d:=⟨⟨dst,none,op⟩,rd,fr⟩) (near:=nearOf done fr) hc rfl rfl hn ho
 have e:theFoot op (idsL (pickTm s.tm rd).vals)=[]:=by unfold theFoot;rw[hnf];rfl
 rw[e] at st
 exact bA (d:=⟨⟨dst,none,op⟩,rd,fr⟩) (dg hf) st k
theorem yV{dst i es n:Nat}{z cs:List AV}{v:AV}{fr:List Nat}(he:s.eval (.t i)=some v)(hv:below s.h.next (ids v)=true)(hfill:fill s z [(0,es,.t i)]=some cs)(hf:∀i∈fr,i<done.length)
  (k:DrawTo E rest (done++[⟨[],[],s.h.next,s.h.next+1⟩]) ((s.toH (s.h.alloc (.cells cs true))).put (some dst) (.own s.h.next 0 n es (some n))) K):DrawTo E (⟨⟨some dst,none,.buildSlice es n z [(0,es,.t i)]⟩,[i],fr⟩::rest) done s K:=by
 refine bA (d:=⟨⟨some dst,none,.buildSlice es n z [(0,es,.t i)]⟩,[i],fr⟩) (dg hf) (Ev.of fun m=>?_) k
 have hm:mergeH s.h [] ((restrictH s.h []).alloc (.cells cs true))=s.h.alloc (.cells cs true):=by
  have e:((restrictH s.h []).alloc (.cells cs true)).get s.h.next=some (.cells cs true):=by
   rw[AH.get_alloc]
   exact if_pos rfl
  show(⟨s.h.next+1,copyNew ((restrictH s.h []).alloc (.cells cs true)) s.h.next (s.h.next+1-s.h.next) s.h.tr⟩:AH)=_
  rw[Nat.add_sub_cancel_left]
  simp only[copyNew,Nat.add_zero,e]
  rfl
 have hbel:below s.h.next (idsL (pickTm s.tm [i]).vals)=true:=List.all_eq_true.2 fun x hx=>List.all_eq_true.1 hv x (vals_idsP he x hx)
 have hfl:fill {tm:=pickTm s.tm [i],h:=restrictH s.h [],defers:=[],round:=s.round} z [(0,es,.t i)]=some cs:=by
  rw[←hfill]
  exact fw (s:=s) (l:=[i]) (F:=[]) (by simp[opdIn,memN])
 have hb':Nat.ble s.h.next ((restrictH s.h []).alloc (.cells cs true)).next=true:=Nat.ble_eq.mpr (Nat.le_succ _)
 have hb0:below s.h.next []=true:=rfl
 simp only[stepDraw,wantedA,hbel,foot,knownH,List.all_nil,Bool.and_self,cond_true,runOp,hfl,Option.bind_some,isCall,cond_false,turned,hm,List.isEmpty_nil,Bool.true_and,hb',hb0]
 rfl
theorem app_drawP{es bytes dst a d k m lo:Nat}{v x:AV}{cs new:List AV}(r:RowC s.h lo k es v cs)(hlo:lo≤s.h.next)(he:∀h:AH,(∀y∈ids x,h.get y=s.h.get y)→elemsOf h es x=some (new,m))(hl:new.length=m*es)(hlf:∀c∈new,Leaf c)(hok:okLen (k+m) bytes=true)
  (hx:∀y∈ids x,y<s.h.next∧∃kk,s.h.get y=some kk∧below s.h.next (idsB kk)=true) (h2:s.eval (.t a)=some v) (h3:s.eval (.t d)=some x)
  (kk:∀rec v' h',RowC h' lo (k+m) es v' (cs++new)→s.h.next≤h'.next→(∀y,y<s.h.next→y∉ids v→h'.get y=s.h.get y)→DrawTo E rest (done++[rec]) ((s.toH h').put (some dst) v') K):
  DrawTo E (⟨⟨some dst,none,.append es bytes (.t a) (.t d)⟩,[a,d],[]⟩::rest) done s K:=by
 generalize hvs:idsL (pickTm s.tm [a,d]).vals=vs
 have pa:(pickTm s.tm [a,d]).get a=some v:=dw List.mem_cons_self h2
 have pd:(pickTm s.tm [a,d]).get d=some x:=dw (List.mem_cons_of_mem _ List.mem_cons_self) h3
 have inv:∀y∈ids v,y∈vs:=fun y hy=>by rw[←hvs];exact ez (dP pa) y hy
 have inx:∀y∈ids x,y∈vs:=fun y hy=>by rw[←hvs];exact ez (dP pd) y hy
 have out:∀y∈vs,y∈ids v∨y∈ids x:=fun y hy=>by
  rw[←hvs] at hy
  obtain⟨j,hj,w,hw,hyw⟩:=dr hy
  rcases List.mem_cons.1 hj with rfl|hj
  ·rw[h2] at hw
   cases hw
   exact .inl hyw
  ·rw[List.mem_singleton.1 hj,h3] at hw
   cases hw
   exact .inr hyw
 have hbel:below s.h.next vs=true:=List.all_eq_true.2 fun y hy=>Nat.blt_eq.mpr (by
  rcases out y hy with q|q
  ·exact(r.ids y q).2.1
  ·exact(hx y q).1)
 have hkn:knownH s.h vs=true:=List.all_eq_true.2 fun y hy=>by
  rcases out y hy with q|q
  ·obtain⟨_,q1,q2⟩:=r.ids y q
   have q3:Nat.blt y s.h.next=true:=Nat.blt_eq.mpr q1
   simp only[q3,q2,idsB,bo r.1]
   rfl
  ·exact U48
 have r':RowC (restrictH s.h vs) lo k es v cs:=r.toB (Nat.le_refl _) fun y hy=>bB (inv y hy)
 obtain⟨v',h1,e1,e2,e3,e4⟩:=app_any (s:={tm:=pickTm s.tm [a,d],h:=restrictH s.h vs,defers:=[],round:=s.round}) (bytes:=bytes) r' hlo (he _ fun y hy=>bB (inx y hy)) hl hlf hok pa pd
 have e3:s.h.next≤h1.next:=e3
 have hro:∀m',runOp E (aj E (exec E m')) {tm:=pickTm s.tm [a,d],h:=restrictH s.h vs,defers:=[],round:=s.round} (.append es bytes (.t a) (.t d))=some (v',{tm:=pickTm s.tm [a,d],h:=h1,defers:=[],round:=s.round}):=fun m'=>e1
 have htu:turned {tm:=pickTm s.tm [a,d],h:=restrictH s.h vs,defers:=[],round:=s.round} (.append es bytes (.t a) (.t d))=ids v:=by
  simp only[turned,idsO,St.eval,pa]
 have hDb:below s.h.next (ids v)=true:=r.below
 have hble:Nat.ble s.h.next h1.next=true:=Nat.ble_eq.mpr e3
 have hst:Ev fun n=>stepDraw E (aj E (exec E n)) ⟨⟨some dst,none,.append es bytes (.t a) (.t d)⟩,[a,d],[]⟩ (nearOf done []) s=some (v',⟨vs,ids v,s.h.next,h1.next⟩,mergeH s.h (ids v) h1):=by
  refine Ev.of fun n=>?_
  simp only[stepDraw,wantedA,hvs,foot,hbel,hkn,Bool.and_self,cond_true,hro,isCall,cond_false,htu,List.isEmpty_nil,hble,hDb]
 have hnx:(mergeH s.h (ids v) h1).next=h1.next:=rfl
 refine bA (d:=⟨⟨some dst,none,.append es bytes (.t a) (.t d)⟩,[a,d],[]⟩) rfl hst (kk _ v' _ ?_ (by rw[hnx];exact e3) fun y hy hv=>?_)
 ·refine e2.toB (by rw[hnx];exact Nat.le_refl _) fun y hy=>?_
  obtain⟨y1,y2,y3⟩:=e2.ids y hy
  rw[eo e3]
  by_cases q:s.h.next≤y
  ·rw[if_pos ⟨q,y2⟩]
  ·exact U49
 ·rw[eo e3,if_neg om,if_neg hv]
theorem du{n a x b off:Nat}{v:AV}{cs l:List AV}{h':AH}(ha:s.eval (.t a)=some (.ptr b off))(hx:s.eval (.t x)=some v)(hv:below s.h.next (ids v)=true)(hl:v.cells=some l)
  (hg:s.h.get b=some (.cells cs true)) (hi:below s.h.next (idsL cs)=true) (hb:b<s.h.next) (hst:storeH s.h n (.ptr b off) l=some h')
  (k:DrawTo E rest (done++[⟨[b],[b],s.h.next,s.h.next⟩]) (s.toH h') K):DrawTo E (⟨⟨none,none,.store n (.t a) (.t x)⟩,[a,x],[]⟩::rest) done s K:=by
 refine bA (d:=⟨⟨none,none,.store n (.t a) (.t x)⟩,[a,x],[]⟩) (v:=undefA) rfl (Ev.of fun m=>?_) k
 have pa:(pickTm s.tm [a,x]).get a=some (.ptr b off):=dw List.mem_cons_self ha
 have px:(pickTm s.tm [a,x]).get x=some v:=dw (List.mem_cons_of_mem _ List.mem_cons_self) hx
 have hbel:below s.h.next (idsL (pickTm s.tm [a,x]).vals)=true:=List.all_eq_true.2 fun y hy=>by
  obtain⟨j,hj,w,hw,hyw⟩:=dr hy
  rcases List.mem_cons.1 hj with rfl|hj
  ·rw[ha] at hw
   cases hw
   simp only[ids,List.mem_singleton] at hyw
   subst hyw
   exact Nat.blt_eq.mpr hb
  ·rw[List.mem_singleton.1 hj,hx] at hw
   cases hw
   exact List.all_eq_true.1 hv y hyw
 have hbb:Nat.blt b s.h.next=true:=Nat.blt_eq.mpr hb
 have hkn:knownH s.h [b]=true:=by simp only[knownH,List.all_cons,List.all_nil,hbb,hg,idsB,hi,Bool.and_self]
 have hg':(restrictH s.h [b]).get b=some (.cells cs true):=by rw[bB List.mem_cons_self,hg]
 simp only[storeH,hg] at hst
 have hc:(Nat.beq l.length n&&Nat.ble (off+n) cs.length)=true:=by
  cases hq:(Nat.beq l.length n&&Nat.ble (off+n) cs.length) with
  |true=>rfl
  |false=>rw[hq] at hst;cases hst
 rw[hc] at hst
 simp only[cond_true,sI] at hst
 have hm:mergeH s.h [b] ((restrictH s.h [b]).put b (some (.cells (putAt cs off l) true)))=h':=by
  rw[←hst]
  have e:((restrictH s.h [b]).put b (some (.cells (putAt cs off l) true))).get b=some (.cells (putAt cs off l) true):=by rw[AH.get_put,if_pos rfl]
  show(⟨s.h.next,copyNew _ s.h.next (s.h.next-s.h.next) (s.h.tr.put b (((restrictH s.h [b]).put b (some (.cells (putAt cs off l) true))).get b))⟩:AH)=_
  rw[Nat.sub_self,e]
  rfl
 have hble:Nat.ble s.h.next s.h.next=true:=Nat.ble_eq.mpr (Nat.le_refl _)
 have hbl1:below s.h.next [b]=true:=by simp only[below,List.all_cons,List.all_nil,hbb,Bool.and_self]
 have i1:∀h:AH,idsO {tm:=pickTm s.tm [a,x],h:=h,defers:=[],round:=s.round} (.t a)=[b]:=fun h=>by
  simp only[idsO,St.eval,pa,ids]
 have hro:runOp E (aj E (exec E m)) {tm:=pickTm s.tm [a,x],h:=restrictH s.h [b],defers:=[],round:=s.round} (.store n (.t a) (.t x))=some (undefA,{tm:=pickTm s.tm [a,x],h:=(restrictH s.h [b]).put b (some (.cells (putAt cs off l) true)),defers:=[],round:=s.round}):=by
  simp only[runOp,St.eval,pa,px,Option.bind_some,hl,hg',hc,cond_true]
 have hn2:((restrictH s.h [b]).put b (some (.cells (putAt cs off l) true))).next=s.h.next:=rfl
 simp only[stepDraw,wantedA,hbel,foot,i1,hkn,Bool.and_self,cond_true,hro,isCall,cond_false,turned,List.isEmpty_nil,hn2,hble,hbl1,hm]
theorem st_at'{h:AH}{b i:Nat}{cs:List AV}{x:AV}(g:h.get b=some (.cells cs true))(hi:i<cs.length):storeH h 1 (.ptr b i) [x]=some (h.put b (some (.cells (cs.set i x) true))):=by
 have h1:Nat.beq [x].length 1=true:=rfl
 have h2:Nat.ble (i+1) cs.length=true:=Nat.ble_eq.mpr om
 have h3:putAt cs i [x]=cs.set i x:=by
  rw[putAt,List.set_eq_take_append_cons_drop,if_pos hi,List.append_assoc]
  rfl
 simp only[storeH,g,h1,h2,Bool.and_self,cond_true,h3]
theorem cq:∀{a b:List AV},idsL (a++b)=idsL a++idsL b
 | [],b=>rfl
 |x::a,b=>by simp only[List.cons_append,idsL,cq,List.append_assoc]
theorem gL{es bytes off k lo r a b d f t C:Nat}{v w:AV}{z cs new X Y:List AV}{fr:List Nat}(hr:RowC s.h lo k es v cs)(hC:C<lo)(hlo:lo≤s.h.next)(hg:s.h.get C=some (.cells (X++v::Y) true))(hX:X.length=off)(iX:idsL X=[])(iY:idsL Y=[])
  (ea:s.eval (.t a)=some v) (er:s.eval (.t r)=some w) (hw:w.cells=some new) (hlf:∀c∈new,Leaf c) (iw:ids w=[]) (hl:new.length=es) (hz:z.length=es) (ec:s.eval (.t t)=some (.ptr C 0)) (hok:okLen (k+1) bytes=true) (hf:∀i∈fr,i<done.length)
  (ne1:b≠a) (ne2:b≠t) (ne3:d≠t) (ne4:f≠d)
  (kk:∀h' v' x y u,RowC h' lo (k+1) es v' (cs++new)→h'.get C=some (.cells (X++v'::Y) true)→s.h.next≤h'.next→(∀q,q<lo→q≠C→h'.get q=s.h.get q)→K ((((s.toH h').put (some b) x).put (some d) y).put (some f) u)):
  DrawTo E [⟨⟨some b,none,.buildSlice es 1 z [(0,es,.t r)]⟩,[r],fr⟩,⟨⟨some d,none,.append es bytes (.t a) (.t b)⟩,[a,b],[]⟩,⟨⟨some f,none,.fieldAddr off (.t t)⟩,[t],[]⟩,⟨⟨none,none,.store 1 (.t f) (.t d)⟩,[f,d],[]⟩] done s K:=by
 refine yV er (by rw[iw];rfl) (gM er hw hl hz) hf ?_
 generalize hs1:(s.toH (s.h.alloc (.cells new true))).put (some b) (.own s.h.next 0 1 es (some 1))=s1
 have hh1:s1.h=s.h.alloc (.cells new true):=by rw[←hs1];rfl
 have hn1:s1.h.next=s.h.next+1:=by rw[hh1];rfl
 have gE:s1.h.get s.h.next=some (.cells new true):=by rw[hh1];exact ai
 have gO:∀y,y<s.h.next→s1.h.get y=s.h.get y:=fun y hy=>by rw[hh1];exact aP hy
 have eb1:s1.eval (.t b)=some (.own s.h.next 0 1 es (some 1)):=by rw[←hs1];simp[St.put,St.eval_set]
 have ea1:s1.eval (.t a)=some v:=by
  rw[←hs1]
  simp only[St.put,St.eval_set]
  rw[if_neg (fun e=>ne1 e.symm)]
  exact ea
 have ec1:s1.eval (.t t)=some (.ptr C 0):=by
  rw[←hs1]
  simp only[St.put,St.eval_set]
  rw[if_neg (fun e=>ne2 e.symm)]
  exact ec
 have hr1:RowC s1.h lo k es v cs:=hr.to om fun y _ hy=>gO y hy
 refine app_drawP (m:=1) (x:=.own s.h.next 0 1 es (some 1)) (new:=new) hr1 om (fun h hh=>?_) (by rw[hl,Nat.one_mul]) hlf hok ?_ ea1 eb1 ?_
 ·exact cE (by rw[hh _ (by simp only[ids,List.mem_singleton]),gE]) (by rw[hl,Nat.one_mul])
 ·intro y hy
  simp only[ids,List.mem_singleton] at hy
  subst hy
  exact⟨om,_,gE,by simp only[idsB,bo hlf];rfl⟩
 intro rec v' h2 r2 n2 o2
 generalize hs2:(s1.toH h2).put (some d) v'=s2
 have hh2:s2.h=h2:=by rw[←hs2];rfl
 have hCv:C∉ids v:=fun h=>by
  have:=(hr.ids C h).1
  omega
 have gC:h2.get C=some (.cells (X++v::Y) true):=by rw[o2 C om hCv,gO C om,hg]
 have hbv:below h2.next (ids v)=true:=List.all_eq_true.2 fun y hy=>Nat.blt_eq.mpr (by
  have:=(hr.ids y hy).2.1
  omega)
 have hbc:below h2.next (idsL (X++v::Y))=true:=by
  rw[cq,iX]
  simp only[idsL,iY,List.append_nil,List.nil_append]
  exact hbv
 have nC:∀o,niceT h2 (some (.ptr C o))=true:=fun o=>by
  have:Nat.blt C h2.next=true:=Nat.blt_eq.mpr om
  simp only[niceT,niceV,ids,List.all_cons,List.all_nil,this,gC,hbc,Bool.and_self]
 have ec2:s2.eval (.t t)=some (.ptr C 0):=by
  rw[←hs2]
  simp only[St.put,St.eval_set]
  rw[if_neg (fun e=>ne3 e.symm)]
  exact ec1
 have ed2:s2.eval (.t d)=some v':=by rw[←hs2];simp[St.put,St.eval_set]
 refine bY (v:=.ptr C off) (by show memN [t] t=true;simp[memN]) rfl ?_ ?_ (fun i hi=>by cases hi) ?_
 ·simp only[List.all_cons,List.all_nil,ec2,hh2,nC,Bool.and_self]
 ·simp only[runOp,ec2,Option.bind_some,fieldAddrV,Nat.zero_add]
 generalize hs3:s2.put (some f) (.ptr C off)=s3
 have hh3:s3.h=h2:=by rw[←hs3];exact hh2
 have ef3:s3.eval (.t f)=some (.ptr C off):=by rw[←hs3];simp[St.put,St.eval_set]
 have ed3:s3.eval (.t d)=some v':=by
  rw[←hs3]
  simp only[St.put,St.eval_set]
  rw[if_neg (fun e=>ne4 e.symm)]
  exact ed2
 have hset:(X++v::Y).set off v'=X++v'::Y:=by
  rw[←hX,List.set_append_right _ _ (Nat.le_refl _),Nat.sub_self]
  rfl
 have hst:=st_at' (i:=off) (x:=v') gC (by rw[List.length_append,List.length_cons,hX];omega)
 rw[hset] at hst
 refine du (b:=C) (off:=off) (v:=v') (cs:=X++v::Y) (l:=[v']) (h':=h2.put C (some (.cells (X++v'::Y) true))) ef3 ed3 ?_ r2.cells ?_ ?_ ?_ ?_ ?_
 ·rw[hh3];exact r2.below
 ·rw[hh3];exact gC
 ·rw[hh3];exact hbc
 ·rw[hh3];omega
 ·rw[hh3];exact hst
 refine bV ?_
 have:=kk (h2.put C (some (.cells (X++v'::Y) true))) v' (.own s.h.next 0 1 es (some 1)) v' (.ptr C off) (r2.to (Nat.le_refl _) fun y y1 y2=>ac om) np (by show s.h.next≤h2.next;omega) (fun q q1 q2=>by
  rw[ac q2,o2 q om (fun h=>by have:=(hr.ids q h).1;omega),gO q om])
 rw[←hs3,←hs2,←hs1]
 exact this
end Go.AM
