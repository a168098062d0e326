/- XBits XRep XReach XDrawC XDrawR XDrawA XDrawM XPush XCallv XArgs XRowX XMap -/
import Derived.Test.YtkmoeaplhnabcaaGreatDoorU0
import Derived.Test.YtkmoeaplhnabcaaGreatDoorW1

set_option linter.all false
open Option.some renaming injEq → sI
open Prod.mk renaming injEq → pI
open Bool renaming and_eq_true → i9, and_self → ip, false_eq_true → ju, not_false → A5, true_and → A7, true_eq_false → Bw
open List renaming all_cons → j4, all_eq_true → iy, all_nil → j5, any_eq_false → Bl, append_assoc → jh, append_nil → j6, drop_zero → jj, foldl_cons → Bh, getElem?_append_left → Bo, getElem?_eq_getElem → jk, getElem_mem → C7, isEmpty_nil → An, length_append → io, length_cons → im, length_eq_zero_iff → C2, length_map → ji, length_nil → jf, mapM_cons → Ap, map_cons → jd, mem_append → jc, mem_cons → i8, mem_cons_of_mem → j0, mem_cons_self → il, mem_singleton → ig, nil_append → iz, take_length → By, take_of_length_le → jl
open Nat renaming beq → i5, beq_refl → je, ble → i6, ble_eq → iu, blt → iq, blt_eq → j8, eq_of_beq_eq_true → ij, eq_zero_or_pos → Ar, le_of_ble_eq_true → is, le_refl → i7, le_succ → jw, lt_succ_self → js, zero_add → jp
open Option renaming bind_some → j9, map_some → jo
namespace Go.AM
variable {E:Env}{s:St}{K:St→Prop}{r:List AOper}{dst:Option Nat}
def convV(k:IntKind):AV→Option AV
 |.val (.int _ n)=>some (.val (.int k (k.wrap n)))
 |_=>none
theorem Jl{k k':IntKind}{n:Int}:convV k (.val (.int k' n))=some (.val (.int k (k.wrap n))):=rfl
theorem Ka{k:IntKind}{x:Opd}:wpOps E (⟨dst,none,.conv k x⟩::r) s K=stepV E r s dst K ((s.eval x).bind (convV k)):=by
 rw[ax (o:=(s.eval x).bind (convV k))]
 ·rfl
 ·simp only[runOp];cases s.eval x with
  |none=>rfl
  |some v=>
   cases v with
   |val v=>cases v<;>rfl
   |_=>rfl
 ·exact fun _ _=>rfl
theorem Fh{x:Opd}:wpOps E (⟨dst,none,.nilck x⟩::r) s K=stepV E r s dst K ((s.eval x).bind (nilckV E)):=by
 rw[ax (o:=(s.eval x).bind (nilckV E))]
 ·rfl
 ·rw[rP];cases s.eval x<;>rfl
 ·exact fun _ _=>rfl
theorem Fa{b o:Nat}:nilckV E (.ptr b o)=some (.ptr b o):=rfl
theorem Jv{x:Opd}:wpOps E (⟨dst,none,.strOfBytes x⟩::r) s K=stepV E r s dst K ((s.eval x).bind (strB s.h)):=by
 rw[ax (o:=(s.eval x).bind (strB s.h))]
 ·rfl
 ·rw[vR];cases s.eval x<;>rfl
 ·exact fun _ _=>rfl
def Dv(E:Env)(r:List AOper)(s:St)(dst:Option Nat)(K:St→Prop):Option AV→Option (List AV)→Prop
 |some (.fn (.func f) a b),some l=>mj E f r s dst K (some (a++l++b))
 |some (.yld b),some l=>CallTo E (.y b) l s.h fun v h=>wpOps E r ((s.toH h).put dst v) K
 |_,_=>False
theorem Du{f:Nat}{a b l:List AV}:Dv E r s dst K (some (.fn (.func f) a b)) (some l)=mj E f r s dst K (some (a++l++b)):=rfl
theorem Fi{x:Opd}{l:List Opd}:wpOps E (⟨dst,none,.callv x l⟩::r) s K=Dv E r s dst K (s.eval x) (evalAll s l):=by
 have hw:wpOps E (⟨dst,none,.callv x l⟩::r) s K=wpOp E (.callv x l) s fun v s'=>wpOps E r ({s' with round:=s.round}.put dst v) K:=by
  simp only[wpOps,wantedA,aJ,forall_const,Bw,false_implies,and_true]
 rw[hw];simp only[wpOp];cases hx:s.eval x with
 |none=>rfl
 |some v=>
  cases v with
  |yld b=>
   simp only;cases evalAll s l<;>rfl
  |fn f a b=>
   cases f with
   |func f=>
    simp only;cases evalAll s l<;>rfl
   |_=>rfl
  |_=>rfl
def NoTag(h:AH):Prop:=∀b x t n,h.get b≠some (.tag x t n)
theorem NoTag.empty:NoTag .empty:=fun b x t n h=>by cases h
theorem NoTag.alloc{h:AH}{cs:List AV}{rw:Bool}(k:NoTag h):NoTag (h.alloc (.cells cs rw)):=fun b x t n e=>by
 rw[AH.get_alloc] at e;split at e
 ·cases e
 ·exact k b x t n e
theorem NoTag.put{h:AH}{cs:List AV}{rw:Bool}{c:Nat}(k:NoTag h):NoTag (h.put c (some (.cells cs rw))):=fun b x t n e=>by
 rw[AH.get_put] at e;split at e
 ·cases e
 ·exact k b x t n e
theorem NoTag.drop{h:AH}{c:Nat}(k:NoTag h):NoTag (h.put c none):=fun b x t n e=>by
 rw[AH.get_put] at e;split at e
 ·cases e
 ·exact k b x t n e
theorem NoTag.at{h:AH}(k:NoTag h)(b:Nat):tagOf h b=none:=by
 unfold tagOf;split
 ·rename_i x t n e;exact absurd e (k _ _ _ _)
 ·rfl
def bytesA(l:List UInt8):List AV:=l.flatMap fun b=>[.val (.int .u8 (b.toNat:Nat))]
def appH(h:AH)(b:Nat)(cap:Option Nat)(cs:List AV):AH:=match cap with
 |some _=>h.alloc (.cells cs true)
 |none=>(h.put b none).alloc (.cells cs true)
theorem NoTag.app{h:AH}{b:Nat}{cap:Option Nat}{cs:List AV}(k:NoTag h):NoTag (appH h b cap cs):=by
 cases cap with
 |some c=>exact k.alloc
 |none=>exact k.drop.alloc
end Go.AM
namespace Go.AM
variable {E:Env}{s:St}{K:St→Prop}{r:List AOper}{dst:Option Nat}
def Rep(h:AH)(lo hi:Nat):Nat→AV→AV→Prop
 |0,v,t=>Leaf v∧t=v
 |n+1,v,t=>(Leaf v∧t=v)∨
   (∃b k es cap rw,∃ps:List (AV×AV),v=.own b 0 k es cap∧lo≤b∧b<hi∧h.get b=some (.cells (ps.map (·.1)) rw)∧ps.length=k*es∧t=.imm (ps.map (·.2)) k cap∧∀p∈ps,Rep h lo hi n p.1 p.2)∨
   (∃ps:List (AV×AV),v=.agg (ps.map (·.1))∧t=.agg (ps.map (·.2))∧∀p∈ps,Rep h lo hi n p.1 p.2)∨
   (∃ps:List (AV×AV),v=.tup (ps.map (·.1))∧t=.tup (ps.map (·.2))∧∀p∈ps,Rep h lo hi n p.1 p.2)
theorem Rep.leaf{h:AH}{lo hi n:Nat}{v:AV}(k:Leaf v):Rep h lo hi n v v:=by
 cases n with
 |zero=>exact⟨k,rfl⟩
 |succ n=>exact .inl ⟨k,rfl⟩
theorem Rep.own{h:AH}{lo hi n b k es:Nat}{cap:Option Nat}{rw:Bool}{ps:List (AV×AV)}(h1:lo≤b)(h2:b<hi)(hg:h.get b=some (.cells (ps.map (·.1)) rw))(hl:ps.length=k*es)(hp:∀p∈ps,Rep h lo hi n p.1 p.2):
  Rep h lo hi (n+1) (.own b 0 k es cap) (.imm (ps.map (·.2)) k cap):=
 .inr (.inl ⟨b,k,es,cap,rw,ps,rfl,h1,h2,hg,hl,rfl,hp⟩)
theorem Rep.agg{h:AH}{lo hi n:Nat}{ps:List (AV×AV)}(hp:∀p∈ps,Rep h lo hi n p.1 p.2):Rep h lo hi (n+1) (.agg (ps.map (·.1))) (.agg (ps.map (·.2))):=
 .inr (.inr (.inl ⟨ps,rfl,rfl,hp⟩))
theorem Rep.tup{h:AH}{lo hi n:Nat}{ps:List (AV×AV)}(hp:∀p∈ps,Rep h lo hi n p.1 p.2):Rep h lo hi (n+1) (.tup (ps.map (·.1))) (.tup (ps.map (·.2))):=
 .inr (.inr (.inr ⟨ps,rfl,rfl,hp⟩))
theorem Rep.to{h h':AH}{lo hi lo' hi':Nat}(hl:lo'≤lo)(hh:hi≤hi')(hg:∀b,lo≤b→b<hi→∀cs rw,h.get b=some (.cells cs rw)→∃rw',h'.get b=some (.cells cs rw')):
  ∀{n m:Nat} {v t:AV},n≤m→Rep h lo hi n v t→Rep h' lo' hi' m v t
 |0,m,v,t,_,k=>by
  obtain⟨k,rfl⟩:=k;exact Rep.leaf k
 |n+1,0,v,t,hm,k=>by omega
 |n+1,m+1,v,t,hm,k=>by
  rcases k with⟨k,rfl⟩|⟨b,k,es,cap,rw,ps,rfl,h1,h2,g,hk,rfl,hp⟩|⟨ps,rfl,rfl,hp⟩|⟨ps,rfl,rfl,hp⟩
  ·exact Rep.leaf k
  ·obtain⟨rw',g'⟩:=hg b h1 h2 _ _ g;exact Rep.own om om g' hk fun p hm'=>Rep.to hl hh hg om (hp p hm')
  ·exact Rep.agg fun p hm'=>Rep.to hl hh hg om (hp p hm')
  ·exact Rep.tup fun p hm'=>Rep.to hl hh hg om (hp p hm')
theorem Fz.cells{h h':AH}(z:Fz h h'){b:Nat}{cs:List AV}{rw:Bool}(g:h.get b=some (.cells cs rw)):∃rw',h'.get b=some (.cells cs rw'):=by
 rcases z.2 b with e|⟨cs',rw',e1,e2⟩
 ·exact⟨rw,by rw[e,g]⟩
 ·rw[g] at e1;cases e1;exact⟨false,e2⟩
theorem Fz.still{h h':AH}(z:Fz h h'){b:Nat}{cs:List AV}(g:h.get b=some (.cells cs false)):h'.get b=some (.cells cs false):=by
 rcases z.2 b with e|⟨cs',rw',e1,e2⟩
 ·rw[e,g]
 ·rw[g] at e1;cases e1;exact e2
theorem Rep.fz{h h':AH}{lo hi n:Nat}{v t:AV}(z:Fz h h')(k:Rep h lo hi n v t):Rep h' lo hi n v t:=
 Rep.to (i7 _) (i7 _) (fun b _ _ cs rw g=>z.cells g) (i7 _) k
theorem lK{lo hi n m:Nat}{h2:AH}(ih:∀(v t:AV) (g:AH),Rep g lo hi n v t→Fz (freeze m v g) h2→toTree h2 m v=some t):∀(ps:List (AV×AV)) (g:AH),(∀p∈ps,Rep g lo hi n p.1 p.2)→Fz ((ps.map (·.1)).foldl (fun h c=>freeze m c h) g) h2→(ps.map (·.1)).mapM (toTree h2 m)=some (ps.map (·.2))
 | [],g,_,_=>rfl
 |p::ps,g,hp,z=>by
  simp only[jd,Bh] at z;have z1:Fz (freeze m p.1 g) h2:=(Fz.foldl (fun h c=>cH m c h) (ps.map (·.1)) (freeze m p.1 g)).trans z;have a:=ih p.1 p.2 g (hp p il) z1;have b:=lK ih ps (freeze m p.1 g) (fun q hq=>(hp q (j0 _ hq)).fz (cH m p.1 g)) z;simp only[jd,Ap,a,b];rfl
theorem qg{lo hi:Nat}:∀(n m:Nat),n<m→∀(v t:AV) (g h2:AH),Rep g lo hi n v t→Fz (freeze m v g) h2→toTree h2 m v=some t
 |0,m,hm,v,t,g,h2,k,z=>by
  obtain⟨k,rfl⟩:=k;obtain⟨j,rfl⟩:∃j,m=j+1:=⟨m-1,om⟩;exact k.1 h2 j
 |n+1,m,hm,v,t,g,h2,k,z=>by
  obtain⟨j,rfl⟩:∃j,m=j+1:=⟨m-1,om⟩;have ih:=fun v t g=>qg (lo:=lo) (hi:=hi) n j om v t g h2;rcases k with⟨k,rfl⟩|⟨b,k,es,cap,rw,ps,rfl,h1,h2',g1,hk,rfl,hp⟩|⟨ps,rfl,rfl,hp⟩|⟨ps,rfl,rfl,hp⟩
  ·exact k.1 h2 j
  ·have hlen:(ps.map (·.1)).length=k*es:=by rw[ji,hk]
   have e1:freeze (j+1) (.own b 0 k es cap) g=(ps.map (·.1)).foldl (fun h c=>freeze j c h) (g.put b (some (.cells (ps.map (·.1)) false))):=by
    show(match g.get b with
     |some (.cells cs _)=>((cs.drop 0).take (k*es)).foldl (fun h c=>freeze j c h) (g.put b (some (.cells cs false)))
     |_=>g)=_
    rw[g1];simp only[jj];rw[jl om]
   rw[e1] at z;have z0:Fz g (g.put b (some (.cells (ps.map (·.1)) false))):=⟨rfl,fun x=>by
    rw[AH.get_put];split
    ·rename_i e;subst e;exact .inr ⟨_,rw,g1,rfl⟩
    ·exact .inl rfl⟩
   have hb:(g.put b (some (.cells (ps.map (·.1)) false))).get b=some (.cells (ps.map (·.1)) false):=by rw[AH.get_put,if_pos rfl]
   have hb2:h2.get b=some (.cells (ps.map (·.1)) false):=((Fz.foldl (fun h c=>cH j c h) (ps.map (·.1)) _).trans z).still hb;have hm2:=lK (m:=j) (h2:=h2) (n:=n) ih ps _ (fun p hp'=>(hp p hp').fz z0) z;rw[toTree.eq_def];have hle:i6 (0+k*es) (ps.map (·.1)).length=true:=iu.mpr om;simp only[hb2,hle,cond_true,jj];rw[jl om,hm2];rfl
  ·exact U27
  ·exact U27
theorem hZ{g:Nat}{l:List AV}{v t:AV}{hc:AH}{lo hi n:Nat}(hs:E.shared.get g=none)(hk:E.known g l=none)(hl:∀v∈l,Tree v)
  (a:Ev fun n=>enterA E (exec E n) g l .empty=some (v,hc)) (hr:Rep hc lo hi n v t) (hn:n<deepest) (h:AH):RunCall E (.f g) l h t h:=by
 refine a.mono fun n' p=>?_
 have hz:l.foldl (fun h v=>freeze deepest v h) h=h:=az hl;have ht:=qg n deepest hn v t hc _ hr (Fz.refl _);simp only[aZ,cD,hs,hz,bb hl,hk,p,ht];cases isFlat t<;>rfl
end Go.AM
namespace Go.AM
variable {E:Env}{s:St}{K:St→Prop}
theorem Leaf.ids{v:AV}(k:Leaf v):ids v=[]:=by
 have k:=k.1 .empty 0;cases v with
 |val x=>rfl
 |imm _ _ _=>rfl
 |iptr _=>rfl
 |agg cs=>
  cases cs with
  |nil=>rfl
  |cons c r=>
   rw[toTree.eq_def] at k;simp only[Ap] at k;rw[toTree.eq_def] at k;simp at k
 |tup cs=>
  cases cs with
  |nil=>rfl
  |cons c r=>
   rw[toTree.eq_def] at k;simp only[Ap] at k;rw[toTree.eq_def] at k;simp at k
 |own b off n es cap=>
  rw[toTree.eq_def] at k;simp[AH.get,AH.empty,Tr.get] at k
 |ptr b off=>rw[toTree.eq_def] at k;simp at k
 |mp b=>rw[toTree.eq_def] at k;simp at k
 |it b=>rw[toTree.eq_def] at k;simp at k
 |yld b=>rw[toTree.eq_def] at k;simp at k
 |ifc t v=>
  rw[toTree.eq_def] at k;simp only at k;rw[toTree.eq_def] at k;simp at k
 |fn f a b=>
  rw[toTree.eq_def] at k;cases a with
  |cons c r=>
   simp only[Ap] at k;rw[toTree.eq_def] at k;simp at k
  |nil=>
   cases b with
   |nil=>rfl
   |cons c r=>
    simp only[Ap,List.mapM_nil] at k;rw[toTree.eq_def] at k;simp at k
inductive Sees (h:AH) (lo hi:Nat):Nat→Nat→Prop
 |mk {b c:Nat} {cs:List AV} {rw:Bool} (l:List (Nat×Nat)) (h1:lo≤b) (h2:b<hi) (g:h.get b=some (.cells cs rw)) (hd:idsL cs=l.map (·.1)) (hk:∀p∈l,Sees h lo hi p.1 p.2) (hc:(l.map (·.2)).sum+1≤c):Sees h lo hi b c
theorem yu{l:List Nat}{i:Nat}(h:i∈l):memN l i=true:=by
 simp only[memN,List.any_eq_true];exact⟨i,h,je i⟩
theorem me{h':AH}:∀(l:List Nat) (t:Tr Blk) (b:Nat),(copyOld h' l t).get b=if b∈l then h'.get b else t.get b
 | [],t,b=>by simp[copyOld]
 |a::r,t,b=>by
  simp only[copyOld,Tr.get_put]
  by_cases e:b=a
  ·subst e;rw[if_pos rfl,if_pos il]
  ·rw[if_neg e,me r t b]
   by_cases m:b∈r
   ·rw[if_pos m,if_pos (j0 _ m)]
   ·rw[if_neg m,if_neg (by simp[e,m])]
theorem ym{h:AH}(k:NoTag h)(l:List Nat):withTags h l=l:=by
 unfold withTags;refine List.append_right_eq_self.2 (List.filterMap_eq_nil_iff.2 fun b _=>?_);split
 ·rename_i b' t n e;exact absurd e (k _ _ _ _)
 ·rfl
end Go.AM
namespace Go.AM
variable {E:Env}{s:St}{K:St→Prop}
theorem aj{d:DOp}{r:List DOp}{done:List DRec}{v:AV}{rec:DRec}{h:AH}(hf:freeOk done rec d.free=true)
  (hs:Ev fun n=>stepDraw E (aZ E (exec E n)) d (nearOf done d.free) s=some (v,rec,h)) (k:DrawTo E r (done++[rec]) ((s.toH h).put d.o.dst v) K):DrawTo E (d::r) done s K:=by
 obtain⟨s',x,y⟩:=k;refine⟨s',(hs.and x).mono fun n ⟨a,b⟩=>?_,y⟩;simp only[runDraw,a,hf,cond_true];cases hd:d.o.dst with
 |none=>rw[hd] at b;exact b
 |some t=>rw[hd] at b;exact b
end Go.AM
namespace Go.AM
variable {E:Env}{s:St}{K:St→Prop}
theorem bZ{A B:Prop}:guardTo s none A B=A:=by
 simp only[guardTo,wantedA,aJ,forall_const,Bw,false_implies,and_true]
def gIf(o:Option Bool)(A B:Prop):Prop:=match o with
 |some true=>A
 |some false=>B
 |none=>False
theorem nz{A B:Prop}:gIf (some true) A B=A:=rfl
theorem vq{A B:Prop}:gIf (some false) A B=B:=rfl
theorem iO{t:Nat}{b:Bool}{A B:Prop}:guardTo s (some (t,b)) A B=gIf (wantedV (s.eval (.t t)) b) A B:=by
 have e:wantedA s (some (t,b))=wantedV (s.eval (.t t)) b:=by
  show(match s.tm.get t with|some (.val (.bool c))=>some (c==b)|some (.tup [])=>some false|_=>none)=_;show _=wantedV (s.tm.get t) b;unfold wantedV;rfl
 rw[guardTo,e];cases wantedV (s.eval (.t t)) b with
 |none=>rfl
 |some g=>
  cases g with
  |true=>simp only[aJ,gIf,forall_const,Bw,false_implies,and_true]
  |false=>simp only[aJ,gIf,forall_const,ju,false_implies,true_and]
theorem dL{h:AH}{v:Value}:niceT h (some (.val v))=true:=rfl
theorem an{h:AH}{l:List AV}:niceT h (some (.iptr l))=true:=rfl
end Go.AM
namespace Go.AM
variable {E:Env}{s:St}{K:St→Prop}
def QuietB(n:Nat)(r:DRec):Prop:=Quiet r∧below n r.F=true
theorem uH{l:List Nat}{op:AOp}{tm:Tr AV}{h:AH}(hn:(l.all fun t=>niceT h (tm.get t))=true):below h.next (theFoot op (idsL (pickTm tm l).vals))=true:=by
 unfold theFoot;cases footed op with
 |true=>exact(rQ hn).1
 |false=>rfl
theorem cN{post:List DOp}:∀(pre:List DOp) (done:List DRec) (s:St),calmAt done.length pre=true→(∀x∈done,QuietB s.h.next x)→
  wpDr E pre s (fun s'=>s'.h=s.h→∀done':List DRec,done'.length=done.length+pre.length→(∀x∈done',QuietB s.h.next x)→DrawTo E post done' s' K)→DrawTo E (pre++post) done s K
 | [],done,s,_,hq,h=>h rfl done (by simp) hq
 |⟨⟨dst,g,op⟩,rd,fr⟩::r,done,s,hc,hq,h=>by
  simp only[calmAt,i9] at hc;obtain⟨⟨hfr,hcd⟩,hcr⟩:=hc;have hf:∀i∈fr,i<done.length:=fun i hi=>j8.mp (iy.1 hfr i hi);have hq1:∀x∈done,Quiet x:=fun x hx=>(hq x hx).1;have hh:∀(dst:Option Nat) (v:AV),(s.put dst v).h=s.h:=fun dst v=>by cases dst<;>rfl
  have eK:∀(rec:DRec) (v:AV),(fun s':St=>s'.h=s.h→∀done':List DRec,done'.length=done.length+(⟨⟨dst,g,op⟩,rd,fr⟩::r).length→(∀x∈done',QuietB s.h.next x)→DrawTo E post done' s' K)=(fun s':St=>s'.h=(s.put dst v).h→∀done':List DRec,done'.length=(done++[rec]).length+r.length→(∀x∈done',QuietB (s.put dst v).h.next x)→DrawTo E post done' s' K):=fun rec v=>by
   have:(done++[rec]).length+r.length=done.length+(⟨⟨dst,g,op⟩,rd,fr⟩::r).length:=by
    rw[io,im,im,jf];omega
   rw[this,hh]
  have nx:∀(rec:DRec) (v:AV),QuietB s.h.next rec→wpDr E r (s.put dst v) (fun s':St=>s'.h=s.h→∀done':List DRec,done'.length=done.length+(⟨⟨dst,g,op⟩,rd,fr⟩::r).length→(∀x∈done',QuietB s.h.next x)→DrawTo E post done' s' K)→DrawTo E (r++post) (done++[rec]) (s.put dst v) K:=fun rec v hqr hw=>by
   rw[eK rec v] at hw;exact cN r (done++[rec]) (s.put dst v) (by rw[io];exact hcr) (fun x hx=>by
    rw[hh];rcases jc.1 hx with hx|hx
    ·exact hq x hx
    ·rw[ig.1 hx];exact hqr) hw
  simp only[wpDr] at h;obtain⟨hnice,h⟩:=h;simp only[calmD,i9] at hcd;obtain⟨hg,hop⟩:=hcd;simp only[guardTo] at h;cases hw:wantedA s g with
  |none=>rw[hw] at h;exact h.elim
  |some b=>
   rw[hw] at h;simp only[aJ] at h;cases b with
   |false=>exact dC (d:=⟨⟨dst,g,op⟩,rd,fr⟩) hq1 hf (dg hg hw) (nx _ _ ⟨⟨rfl,rfl⟩,rfl⟩ (h.2 rfl))
   |true=>
    have h1:=h.1 rfl;clear h;split at h1
    ·rename_i f xs;obtain⟨hp,h1⟩:=h1;cases he:evalAll s xs with
     |none=>rw[he] at h1;exact h1.elim
     |some l=>
      rw[he] at h1;obtain⟨v,hr,hk⟩:=h1;exact dC (d:=⟨⟨dst,g,.call f xs⟩,rd,fr⟩) hq1 hf (fJ rfl hop hg hw hp he hr) (nx _ _ ⟨⟨rfl,rfl⟩,rfl⟩ hk)
    ·rename_i hne;have hop':calmOp rd op=true:=by
      split at hop
      ·exact absurd rfl (hne _ _)
      ·exact hop
     have hwo:wpOp E op s=fun K=>withV (runOp E noCall s op) fun(v,s')=>K v s':=by
      funext K
      cases op<;>first|rfl|(simp only[calmOp,ju] at hop')
     simp only[wpOps,wantedA,aJ,forall_const,hwo] at h1;have h1:=h1.1;cases hr:runOp E noCall s op with
     |none=>rw[hr] at h1;exact h1.elim
     |some vs=>
      obtain⟨v,s1⟩:=vs;rw[hr] at h1;have hs:=(hY hop' hr).1;subst hs;exact dC (d:=⟨⟨dst,g,op⟩,rd,fr⟩) hq1 hf (dD (d:=⟨⟨dst,g,op⟩,rd,fr⟩) hop' hg hw hnice hr) (nx _ _ ⟨⟨rfl,rfl⟩,uH hnice⟩ h1)
theorem dR{done:List DRec}{lo hi:Nat}:∀{l:List Nat},(∀i∈l,i<done.length)→freeOk done ⟨[],[],lo,hi⟩ l=true
 | [],_=>rfl
 |i::r,h=>by
  have hi:=h i il;simp only[freeOk,jk hi,recApart,touches,List.any_nil,A5,ip,A7];exact dR fun j hj=>h j (j0 _ hj)
theorem vg{l:List Nat}{n b:Nat}(h:below n l=true)(hb:n≤b):memN l b=false:=by
 rw[memN,Bl];intro x hx e;have h1:=j8.mp (iy.1 h x hx);have h2:=ij e;omega
theorem rZ{done more:List DRec}{n b lo hi:Nat}(hq:∀x∈done,QuietB n x)(hb:n≤b):∀{l:List Nat},(∀i∈l,i<done.length)→freeOk (done++more) ⟨[b],[b],lo,hi⟩ l=true
 | [],_=>rfl
 |i::r,h=>by
  have hi:=h i il;have ha:=hq _ (C7 hi);have e:(done++more)[i]? =some done[i]:=by rw[Bo hi,jk hi]
  simp only[freeOk,e,recApart,eR ha.1,List.any_cons,List.any_nil,vg ha.2 hb,Bool.or_false,A5,ip,A7];exact rZ hq hb fun j hj=>h j (j0 _ hj)
theorem vM{dst:Nat}{z:List AV}{fr:List Nat}{r:List DOp}{done:List DRec}(hf:∀i∈fr,i<done.length)
  (k:DrawTo E r (done++[⟨[],[],s.h.next,s.h.next+1⟩]) ((s.toH (s.h.alloc (.cells z true))).put (some dst) (.ptr s.h.next 0)) K):DrawTo E (⟨⟨some dst,none,.alloc z⟩,[],fr⟩::r) done s K:=by
 refine aj (d:=⟨⟨some dst,none,.alloc z⟩,[],fr⟩) (dR hf) (Ev.of fun n=>?_) k;have hm:mergeH s.h [] ((restrictH s.h []).alloc (.cells z true))=s.h.alloc (.cells z true):=by
  have e:((restrictH s.h []).alloc (.cells z true)).get s.h.next=some (.cells z true):=by
   rw[AH.get_alloc];exact if_pos rfl
  show(⟨s.h.next+1,copyNew ((restrictH s.h []).alloc (.cells z true)) s.h.next (s.h.next+1-s.h.next) s.h.tr⟩:AH)=_;rw[Nat.add_sub_cancel_left];simp only[copyNew,Nat.add_zero,e];rfl
 have hb:i6 s.h.next (s.h.next+1)=true:=iu.mpr (jw _);have e1:pickTm s.tm []=.nil:=rfl;have e2:idsL (Tr.vals (.nil:Tr AV))=[]:=rfl;simp only[stepDraw,wantedA,e1,e2,foot,below,knownH,j5,ip,cond_true,runOp,isCall,cond_false,turned,hm,An,A7];have hb':i6 s.h.next ((restrictH s.h []).alloc (.cells z true)).next=true:=hb;simp only[hb'];rfl
theorem tM{n a x b off:Nat}{v:AV}{cs l:List AV}{fr:List Nat}{r:List DOp}{done:List DRec}{h':AH}(ha:s.eval (.t a)=some (.ptr b off))(hx:s.eval (.t x)=some v)(hv:ids v=[])(hl:v.cells=some l)(hax:a≠x)
  (hg:s.h.get b=some (.cells cs true)) (hi:idsL cs=[]) (hb:b<s.h.next) (hst:storeH s.h n (.ptr b off) l=some h') (hf:freeOk done ⟨[b],[b],s.h.next,s.h.next⟩ fr=true)
  (k:DrawTo E r (done++[⟨[b],[b],s.h.next,s.h.next⟩]) (s.toH h') K):DrawTo E (⟨⟨none,none,.store n (.t a) (.t x)⟩,[a,x],fr⟩::r) done s K:=by
 refine aj (d:=⟨⟨none,none,.store n (.t a) (.t x)⟩,[a,x],fr⟩) (v:=undefA) hf (Ev.of fun m=>?_) k;have pa:(pickTm s.tm [a,x]).get a=some (.ptr b off):=by rw[aw,if_pos il];exact ha
 have px:(pickTm s.tm [a,x]).get x=some v:=by rw[aw,if_pos (j0 _ il)];exact hx
 have hids:∀y∈idsL (pickTm s.tm [a,x]).vals,y=b:=fun y hy=>by
  obtain⟨w,hw,hyw⟩:=kc hy;obtain⟨i,hi⟩:=dM hw;rw[aw] at hi;split at hi
  ·rename_i hm;rcases i8.1 hm with rfl|hm
   ·have:s.tm.get i=some (.ptr b off):=ha;rw[this] at hi;cases hi
    simpa only[ids,ig] using hyw
   ·rw[ig.1 hm] at hi;have:s.tm.get x=some v:=hx;rw[this] at hi;cases hi;rw[hv] at hyw;cases hyw
  ·cases hi
 have hbel:below s.h.next (idsL (pickTm s.tm [a,x]).vals)=true:=iy.2 fun y hy=>j8.mpr (by rw[hids y hy];exact hb)
 have hbb:iq b s.h.next=true:=j8.mpr hb;have hkn:knownH s.h [b]=true:=by simp only[knownH,j4,j5,hbb,hg,idsB,hi,below,ip]
 have hg':(restrictH s.h [b]).get b=some (.cells cs true):=by rw[aV il,hg]
 simp only[storeH,hg] at hst;have hc:(i5 l.length n&&i6 (off+n) cs.length)=true:=by
  cases hq:(i5 l.length n&&i6 (off+n) cs.length) with
  |true=>rfl
  |false=>rw[hq] at hst;cases hst
 rw[hc] at hst;simp only[cond_true,sI] at hst;have hm:mergeH s.h [b] ((restrictH s.h [b]).put b (some (.cells (putAt cs off l) true)))=h':=by
  rw[←hst];have e:((restrictH s.h [b]).put b (some (.cells (putAt cs off l) true))).get b=some (.cells (putAt cs off l) true):=by rw[AH.get_put,if_pos rfl]
  show(⟨s.h.next,copyNew _ s.h.next (s.h.next-s.h.next) (s.h.tr.put b (((restrictH s.h [b]).put b (some (.cells (putAt cs off l) true))).get b))⟩:AH)=_;rw[Nat.sub_self,e];rfl
 have hble:i6 s.h.next s.h.next=true:=iu.mpr (i7 _);have hbl1:below s.h.next [b]=true:=by simp only[below,j4,j5,hbb,ip]
 have i1:∀h:AH,idsO {tm:=pickTm s.tm [a,x],h:=h,defers:=[],round:=s.round} (.t a)=[b]:=fun h=>by
  simp only[idsO,St.eval,pa,ids]
 have hro:runOp E (aZ E (exec E m)) {tm:=pickTm s.tm [a,x],h:=restrictH s.h [b],defers:=[],round:=s.round} (.store n (.t a) (.t x))=some (undefA,{tm:=pickTm s.tm [a,x],h:=(restrictH s.h [b]).put b (some (.cells (putAt cs off l) true)),defers:=[],round:=s.round}):=by
  simp only[runOp,St.eval,pa,px,j9,hl,hg',hc,cond_true]
 have hn2:((restrictH s.h [b]).put b (some (.cells (putAt cs off l) true))).next=s.h.next:=rfl;simp only[stepDraw,wantedA,hbel,foot,i1,hkn,ip,cond_true,hro,isCall,cond_false,turned,An,hn2,hble,hbl1,hm]
end Go.AM
namespace Go.AM
variable {E:Env}{s:St}{K:St→Prop}{rest:List DOp}{done:List DRec}
theorem ce{h F:AH}{D:List Nat}(hn:h.next≤F.next)(b:Nat):(mergeH h D F).get b=if h.next≤b∧b<F.next then F.get b else if b∈D then F.get b else h.get b:=by
 show(copyNew F h.next (F.next-h.next) (copyOld F D h.tr)).get b=_;rw[dY,show h.next+(F.next-h.next)=F.next by omega,me]
 rfl
theorem cg{l:List Nat}{i:Nat}{v:AV}(hi:i∈l)(he:s.eval (.t i)=some v):(pickTm s.tm l).get i=some v:=by rw[aw,if_pos hi];exact he
theorem dx{l:List Nat}{x:Nat}(hx:x∈idsL (pickTm s.tm l).vals):∃j∈l,∃v,s.eval (.t j)=some v∧x∈ids v:=by
 obtain⟨w,hw,hxw⟩:=kc hx;obtain⟨j,hj⟩:=dM hw;rw[aw] at hj;split at hj
 ·rename_i hm;exact⟨j,hm,w,hj,hxw⟩
 ·cases hj
def MildR(R:List Nat)(x:DRec):Prop:=∀r∈R,r∉x.D∧¬(x.lo≤r∧r<x.hi)
theorem tJ{R F:List Nat}{x:DRec}(hm:MildR R x)(hF:∀b∈F,b∈R):touches x F=false:=by
 rw[touches,Bl];intro b hb;obtain⟨h1,h2⟩:=hm b (hF b hb);have m1:memN x.D b=false:=by
  cases hq:memN x.D b with
  |false=>rfl
  |true=>exact absurd (cA hq) h1
 have m2:(i6 x.lo b&&iq b x.hi)=false:=by
  cases hq:(i6 x.lo b&&iq b x.hi) with
  |false=>rfl
  |true=>
   simp only[i9] at hq;exact absurd ⟨is hq.1,j8.mp hq.2⟩ h2
 rw[m1,m2];decide
theorem dA{R F:List Nat}{lo hi:Nat}(hq:∀x∈done,MildR R x)(hF:∀b∈F,b∈R):∀{l:List Nat},(∀i∈l,i<done.length)→freeOk done ⟨F,[],lo,hi⟩ l=true
 | [],_=>rfl
 |i::r,h=>by
  have hi:=h i il;have t1:=tJ (hq _ (C7 hi)) hF;have t2:touches done[i] []=false:=rfl;simp only[freeOk,jk hi,recApart,t1,t2,List.any_nil,A5,ip,A7];exact dA hq hF fun j hj=>h j (j0 _ hj)
def onlyT(R:List Nat):Option AV→Bool
 |some v=>(ids v).all (memN R)
 |none=>true
def wpDm(E:Env)(R:List Nat):List DOp→St→(St→Prop)→Prop
 | [],s,K=>K s
 |⟨⟨dst,g,op⟩,rd,_⟩::r,s,K=>(rd.all fun t=>niceT s.h (s.eval (.t t)))=true∧(!footed op||rd.all fun t=>onlyT R (s.eval (.t t)))=true∧guardTo s g
   (match op with
   |.call f l=>(rd.all fun t=>plainT (s.eval (.t t)))=true∧withV (evalAll s l) fun l=>∃v,(∀h,RunCall E (.f f) l h v h)∧wpDm E R r (s.put dst v) K
   |op=>wpOps E [⟨dst,none,op⟩] s fun s'=>wpDm E R r s' K)
   (wpDm E R r (s.put dst undefA) K)
theorem eC{R:List Nat}{post:List DOp}{K1:St→Prop}:∀(pre:List DOp) (done:List DRec) (s:St) (h0:AH) (n0:Nat),calmAt done.length pre=true→(∀x∈done,MildR R x)→(∀r∈R,r<s.h.next)→s.h=h0→done.length+pre.length=n0→
  wpDm E R pre s K1→(∀s',K1 s'→s'.h=h0→∀done':List DRec,done'.length=n0→(∀x∈done',MildR R x)→DrawTo E post done' s' K)→DrawTo E (pre++post) done s K
 | [],done,s,h0,n0,_,hq,_,e,en,h,hk=>hk s h e done (by rw[←en];rfl) hq
 |⟨⟨dst,g,op⟩,rd,fr⟩::r,done,s,h0,n0,hc,hq,hR,e,en,h,hk=>by
  simp only[calmAt,i9] at hc;obtain⟨⟨hfr,hcd⟩,hcr⟩:=hc;simp only[calmD,i9] at hcd;obtain⟨hg,hop⟩:=hcd;have hf:∀i∈fr,i<done.length:=fun i hi=>j8.mp (iy.1 hfr i hi);have hh:∀(dst:Option Nat) (v:AV),(s.put dst v).h=s.h:=fun dst v=>by cases dst<;>rfl
  have nx:∀(rec:DRec) (v:AV),MildR R rec→wpDm E R r (s.put dst v) K1→DrawTo E (r++post) (done++[rec]) (s.put dst v) K:=fun rec v hqr hw=>
   eC r (done++[rec]) (s.put dst v) h0 n0 (by rw[io];exact hcr) (fun x hx=>by
    rcases jc.1 hx with hx|hx
    ·exact hq x hx
    ·rw[ig.1 hx];exact hqr) (fun r hr=>by rw[hh];exact hR r hr) (by rw[hh];exact e) (by
    rw[←en,io,im,im,jf];omega) hw hk
  have md:∀F,MildR R ⟨F,[],s.h.next,s.h.next⟩:=fun F r _=>⟨(fun h=>by cases h),(fun hab=>by
   obtain⟨h1,h2⟩:=hab;simp only at h1 h2;omega)⟩
  simp only[wpDm] at h;obtain⟨hnice,honly,h⟩:=h;simp only[guardTo] at h;cases hw:wantedA s g with
  |none=>rw[hw] at h;exact h.elim
  |some b=>
   rw[hw] at h;simp only[aJ] at h;cases b with
   |false=>exact aj (d:=⟨⟨dst,g,op⟩,rd,fr⟩) (dA hq (fun b hb=>by cases hb) hf) (dg hg hw) (nx _ _ (md _) (h.2 rfl))
   |true=>
    have h1:=h.1 rfl;clear h;split at h1
    ·exact U28
    ·exact U29
theorem yt{R:List Nat}{post:List DOp}(pre:List DOp)(done:List DRec)(s:St)(hc:calmAt done.length pre=true)(hq:∀x∈done,MildR R x)(hR:∀r∈R,r<s.h.next)
  (h:wpDm E R pre s (fun s'=>s'.h=s.h→∀done':List DRec,done'.length=done.length+pre.length→(∀x∈done',MildR R x)→DrawTo E post done' s' K)):DrawTo E (pre++post) done s K:=
 eC pre done s s.h _ hc hq hR rfl rfl h fun s' k e=>k e
def tagH(h:AH)(e:TypeId)(cs:List AV):AH:=(h.alloc (.cells cs true)).alloc (.tag h.next e none)
theorem wc{h:AH}{e:TypeId}{cs:List AV}:(tagH h e cs).next=h.next+2:=rfl
theorem x9{h:AH}{e:TypeId}{cs:List AV}:(tagH h e cs).get h.next=some (.cells cs true):=by
 simp only[tagH,AH.get_alloc,vN];rw[if_neg om];simp
theorem x8{h:AH}{e:TypeId}{cs:List AV}:(tagH h e cs).get (h.next+1)=some (.tag h.next e none):=by
 simp only[tagH,AH.get_alloc,vN,if_true]
structure RowT (h:AH) (b:Nat) (bs:List UInt8):Prop where
 cb:h.get b=some (.cells (bytesA bs) true)
 tg:h.get (b+1)=some (.tag b 5 none)
 lt:b+1<h.next
theorem RowT.new{h:AH}{bs:List UInt8}:RowT (tagH h 5 (bytesA bs)) h.next bs:=⟨x9,x8,by rw[wc];omega⟩
theorem RowT.to{h h':AH}{b:Nat}{bs:List UInt8}(k:RowT h b bs)(hn:h.next≤h'.next)(g1:h'.get b=h.get b)(g2:h'.get (b+1)=h.get (b+1)):RowT h' b bs:=⟨by rw[g1,k.cb],by rw[g2,k.tg],by have:=k.lt;omega⟩
theorem RowT.tag{h:AH}{b:Nat}{bs:List UInt8}(k:RowT h b bs):tagOf h b=some (5,none):=by
 simp only[tagOf,k.tg,je,cond_true]
end Go.AM
namespace Go.AM
variable {E:Env}{s:St}{K:St→Prop}{rest:List DOp}{done:List DRec}
theorem aP{h:AH}{x:Option Blk}{y c:Nat}(hy:y≠c):(h.put c x).get y=h.get y:=by rw[AH.get_put,if_neg hy]
theorem aB{h:AH}{x:Blk}{y:Nat}(hy:y<h.next):(h.alloc x).get y=h.get y:=by rw[AH.get_alloc,if_neg om]
theorem aO{h:AH}{x:Blk}:(h.alloc x).get h.next=some x:=by rw[AH.get_alloc,if_pos rfl]
theorem bL{h:AH}{b:Nat}{k:Blk}:(h.put b (some k)).get b=some k:=by rw[AH.get_put,if_pos rfl]
def RowC(h:AH)(lo k es:Nat)(v:AV)(cs:List AV):Prop:=
 (∀c∈cs,Leaf c)∧cs.length=k*es∧((k=0∧v=.val (.slice none 0 0))∨∃b,lo≤b∧b<h.next∧0<k∧v=.own b 0 k es none∧h.get b=some (.cells cs true))
theorem RowC.nil{h:AH}{lo es:Nat}:RowC h lo 0 es (.val (.slice none 0 0)) []:=⟨fun c hc=>(by cases hc),by simp,.inl ⟨rfl,rfl⟩⟩
theorem RowC.to{h h':AH}{lo k es:Nat}{v:AV}{cs:List AV}(r:RowC h lo k es v cs)(hn:h.next≤h'.next)(g:∀x,lo≤x→x<h.next→h'.get x=h.get x):RowC h' lo k es v cs:=by
 obtain⟨h1,h2,r⟩:=r;refine⟨h1,h2,?_⟩;rcases r with r|⟨b,b1,b2,b3,b4,b5⟩
 ·exact .inl r
 ·exact .inr ⟨b,b1,om,b3,b4,by rw[g b b1 b2,b5]⟩
theorem RowC.toB{h h':AH}{lo k es:Nat}{v:AV}{cs:List AV}(r:RowC h lo k es v cs)(hn:h.next≤h'.next)(g:∀x∈ids v,h'.get x=h.get x):RowC h' lo k es v cs:=by
 obtain⟨h1,h2,r⟩:=r;refine⟨h1,h2,?_⟩;rcases r with r|⟨b,b1,b2,b3,rfl,b5⟩
 ·exact .inl r
 ·exact .inr ⟨b,b1,om,b3,rfl,by rw[g b (by simp only[ids,ig]),b5]⟩
theorem RowC.low{h:AH}{lo lo' k es:Nat}{v:AV}{cs:List AV}(r:RowC h lo k es v cs)(hl:lo'≤lo):RowC h lo' k es v cs:=by
 obtain⟨h1,h2,r⟩:=r;refine⟨h1,h2,?_⟩;rcases r with r|⟨b,b1,b2,b3,b4,b5⟩
 ·exact .inl r
 ·exact .inr ⟨b,om,b2,b3,b4,b5⟩
theorem RowC.cells{h:AH}{lo k es:Nat}{v:AV}{cs:List AV}(r:RowC h lo k es v cs):v.cells=some [v]:=by
 obtain⟨_,_,⟨_,rfl⟩|⟨b,_,_,_,rfl,_⟩⟩:=r<;>rfl
theorem bV{cs:List AV}(h:∀c∈cs,Leaf c):idsL cs=[]:=by
 induction cs with
 |nil=>rfl
 |cons a l ih=>
  simp only[idsL,(h a il).ids,ih fun c hc=>h c (j0 _ hc),j6]
theorem RowC.ids{h:AH}{lo k es:Nat}{v:AV}{cs:List AV}(r:RowC h lo k es v cs):∀x∈ids v,lo≤x∧x<h.next∧h.get x=some (.cells cs true):=by
 intro x hx;obtain⟨_,_,⟨_,rfl⟩|⟨b,b1,b2,_,rfl,b5⟩⟩:=r
 ·cases hx
 ·simp only[AM.ids,ig] at hx;subst hx;exact⟨b1,b2,b5⟩
theorem RowC.below{h:AH}{lo k es:Nat}{v:AV}{cs:List AV}(r:RowC h lo k es v cs):AM.below h.next (AM.ids v)=true:=iy.2 fun x hx=>j8.mpr (r.ids x hx).2.1
theorem RowC.nice{h:AH}{lo k es:Nat}{v:AV}{cs:List AV}(r:RowC h lo k es v cs):niceT h (some v)=true:=by
 simp only[niceT,niceV];refine iy.2 fun x hx=>?_
 obtain⟨_,h1,h2⟩:=r.ids x hx;have:iq x h.next=true:=j8.mpr h1;simp only[this,h2,bV r.1];rfl
theorem RowC.len{h:AH}{lo k es:Nat}{v:AV}{cs:List AV}(r:RowC h lo k es v cs):lenV v=some (vI (k:Nat)):=by
 obtain⟨_,_,⟨rfl,rfl⟩|⟨b,_,_,_,rfl,_⟩⟩:=r<;>rfl
theorem qG:∀cs:List AV,(cs.map fun c=>(c,c)).map (·.1)=cs
 | []=>rfl
 |c::r=>by rw[jd,jd,qG r]
theorem qF:∀cs:List AV,(cs.map fun c=>(c,c)).map (·.2)=cs
 | []=>rfl
 |c::r=>by rw[jd,jd,qF r]
theorem cf{h:AH}{y:Nat}:∀{l:List Nat},y∉l→(restrictH h l).get y=none
 | [],_=>rfl
 |b::l,q=>by
  simp only[i8,not_or] at q;simp only[restrictH,restrictT,AH.get,Tr.get_put];rw[if_neg q.1];exact cf q.2
theorem RowC.rep{h:AH}{lo k es:Nat}{v:AV}{cs:List AV}(r:RowC h lo k es v cs):Rep h lo h.next 1 v (bif i5 k 0 then .val (.slice none 0 0) else .imm cs k none):=by
 obtain⟨h1,h2,⟨rfl,rfl⟩|⟨b,b1,b2,b3,rfl,b5⟩⟩:=r
 ·exact Rep.leaf (Leaf.val _)
 ·have e:i5 k 0=false:=by
   cases hk:i5 k 0 with
   |false=>rfl
   |true=>
    have:=ij hk;omega
  rw[e];have:=Rep.own (h:=h) (lo:=lo) (hi:=h.next) (n:=0) (b:=b) (k:=k) (es:=es) (cap:=none) (rw:=true) (ps:=cs.map fun c=>(c,c)) b1 b2 (by rw[qG];exact b5) (by rw[ji,h2]) (fun p hp=>by
   obtain⟨c,hc,rfl⟩:=List.mem_map.1 hp;exact Rep.leaf (h1 c hc))
  rw[qF] at this;exact this
def pushC(h:AH)(v:AV)(new:List AV):AH:=match v with
 |.own b _ _ _ none=>match h.get b with
  |some (.cells cs _)=>(h.put b none).alloc (.cells (cs++new) true)
  |_=>h
 |_=>h.alloc (.cells new true)
theorem jM{es bytes a d k m lo:Nat}{v x:AV}{cs new:List AV}(r:RowC s.h lo k es v cs)(he:elemsOf s.h es x=some (new,m))(hm:0<m)(hok:okLen (k+m) bytes=true)(ha:s.eval (.t a)=some v)(hx:s.eval (.t d)=some x):
  appendA s es bytes (.t a) (.t d)=some (.own s.h.next 0 (k+m) es none,s.toH (pushC s.h v new)):=by
 have hb:i5 m 0=false:=by
  cases hk:i5 m 0 with
  |false=>rfl
  |true=>
   have:=ij hk;omega
 have bes:i5 es es=true:=je es;obtain⟨h1,h2,⟨rfl,rfl⟩|⟨b,b1,b2,b3,rfl,b5⟩⟩:=r
 ·simp only[jp] at hok;simp only[appendA,ha,hx,he,hb,cond_false,hok,cond_true,pushC,jp];rfl
 ·have c2:i6 (0+k*es) cs.length=true:=iu.mpr om;have c3:i5 (0+k*es) cs.length=true:=Nat.beq_eq.mpr om;have c4:iq (0+k*es) cs.length=false:=Eh om;simp only[appendA,ha,hx,he,hb,cond_false,b5,bes,c2,c4,hok,ip,Bool.false_and,cond_true,c3,pushC,jj];rfl
theorem tC{es bytes a d k lo:Nat}{v x:AV}{cs new:List AV}(r:RowC s.h lo k es v cs)(he:elemsOf s.h es x=some (new,0))(ha:s.eval (.t a)=some v)(hx:s.eval (.t d)=some x):
  appendA s es bytes (.t a) (.t d)=some (v,s):=by
 have hb:i5 0 0=true:=rfl;obtain⟨h1,h2,⟨rfl,rfl⟩|⟨b,b1,b2,b3,rfl,b5⟩⟩:=r
 ·simp only[appendA,ha,hx,he,hb,cond_true]
 ·simp only[appendA,ha,hx,he,hb,cond_true]
theorem pB{h:AH}{lo k m es:Nat}{v:AV}{cs new:List AV}(r:RowC h lo k es v cs)(hlo:lo≤h.next)(hn:∀c∈new,Leaf c)(hl:new.length=m*es)(hm:0<m):
  (pushC h v new).next=h.next+1∧RowC (pushC h v new) lo (k+m) es (.own h.next 0 (k+m) es none) (cs++new)∧(∀x,x<h.next→x∉AM.ids v→(pushC h v new).get x=h.get x)∧(pushC h v new).get h.next=some (.cells (cs++new) true):=by
 obtain⟨h1,h2,r⟩:=r;have hl':(cs++new).length=(k+m)*es:=by rw[io,h2,hl,Nat.add_mul]
 have hlf:∀c∈cs++new,Leaf c:=fun c hc=>by
  rcases jc.1 hc with hc|hc
  ·exact h1 c hc
  ·exact hn c hc
 rcases r with⟨rfl,rfl⟩|⟨b,b1,b2,b3,rfl,b5⟩
 ·have e:cs=[]:=C2.1 om;subst e;refine⟨rfl,⟨hlf,hl',.inr ⟨h.next,hlo,js _,om,rfl,?_⟩⟩,fun x hx _=>?_,?_⟩
  ·simp only[pushC,iz];exact aO
  ·simp only[pushC];exact aB hx
  ·simp only[pushC,iz];exact aO
 ·have hp:pushC h (.own b 0 k es none) new=(h.put b none).alloc (.cells (cs++new) true):=by simp only[pushC,b5]
  have hpn:(h.put b none).next=h.next:=rfl;rw[hp];have hg:((h.put b none).alloc (.cells (cs++new) true)).get h.next=some (.cells (cs++new) true):=by
   have:=aO (h:=h.put b none) (x:=.cells (cs++new) true)
   rwa [hpn] at this
  refine⟨rfl,⟨hlf,hl',.inr ⟨h.next,hlo,js _,om,rfl,hg⟩⟩,fun x hx hv=>?_,hg⟩;rw[aB (by rw[hpn];exact hx),aP]
  intro e;exact hv (by simp only[AM.ids,ig];exact e)
theorem wR{es bytes a d k m lo:Nat}{v x:AV}{cs new:List AV}(r:RowC s.h lo k es v cs)(hlo:lo≤s.h.next)(he:elemsOf s.h es x=some (new,m))(hl:new.length=m*es)(hn:∀c∈new,Leaf c)(hok:okLen (k+m) bytes=true)(ha:s.eval (.t a)=some v)(hx:s.eval (.t d)=some x):
  ∃v' h',appendA s es bytes (.t a) (.t d)=some (v',s.toH h')∧RowC h' lo (k+m) es v' (cs++new)∧s.h.next≤h'.next∧(∀y,y<s.h.next→y∉AM.ids v→h'.get y=s.h.get y):=by
 rcases Ar m with e|hm
 ·subst e;have:new=[]:=C2.1 om;subst this;exact⟨v,s.h,tC r he ha hx,by rw[j6];exact r,i7 _,fun _ _ _=>rfl⟩
 ·obtain⟨p1,p2,p3,p4⟩:=pB r hlo hn hl hm;exact⟨_,_,jM r he hm hok ha hx,p2,om,p3⟩
theorem aS{k bytes:Nat}(hk:k<2^31)(hb:bytes≤100):okLen k bytes=true:=by
 have:mostBytes=2^40:=rfl;simp only[okLen,this,i9];exact⟨iu.mpr (Nat.le_trans (Nat.mul_le_mul_left _ hb) om),iu.mpr om⟩
theorem du{h:AH}{n es:Nat}{cap:Option Nat}{cs:List AV}(hl:cs.length=n*es):elemsOf h es (.imm cs n cap)=some (cs,n):=by
 have h4:i6 (n*es) cs.length=true:=iu.mpr om;simp only[elemsOf,h4,cond_true];rw[←hl,By]
theorem aq{h:AH}{b es n:Nat}{cap:Option Nat}{cs:List AV}{rw':Bool}(g:h.get b=some (.cells cs rw'))(hl:cs.length=n*es):elemsOf h es (.own b 0 n es cap)=some (cs,n):=by
 have h3:i5 es es=true:=je es;have h4:i6 (0+n*es) cs.length=true:=iu.mpr om;simp only[elemsOf,h3,cond_true,g,h4,jj];rw[←hl,By]
theorem oD{s:St}{es:Nat}{x:Opd}{z cells:List AV}{v:AV}(hx:s.eval x=some v)(hv:v.cells=some cells)(hl:cells.length=es)(hz:z.length=es):fill s z [(0,es,x)]=some cells:=by
 have h1:i5 cells.length es=true:=by rw[hl];exact je es
 have h2:i6 (0+es) z.length=true:=iu.mpr om;have h3:putAt z 0 cells=cells:=by
  simp only[putAt,List.take_zero,iz,jp];rw[List.drop_eq_nil_of_le om,j6]
 simp only[fill,hx,hv,h1,h2,ip,cond_true,h3]
theorem bH{dst:Option Nat}{op:AOp}{rd fr:List Nat}{v:AV}(hc:calmOp rd op=true)(hnf:footed op=false)(hn:(rd.all fun t=>niceT s.h (s.eval (.t t)))=true)(ho:runOp E noCall s op=some (v,s))(hf:∀i∈fr,i<done.length)
  (k:DrawTo E rest (done++[⟨[],[],s.h.next,s.h.next⟩]) (s.put dst v) K):DrawTo E (⟨⟨dst,none,op⟩,rd,fr⟩::rest) done s K:=by
 have st:=dD (E:=E) (d:=⟨⟨dst,none,op⟩,rd,fr⟩) (near:=nearOf done fr) hc rfl rfl hn ho;have e:theFoot op (idsL (pickTm s.tm rd).vals)=[]:=by unfold theFoot;rw[hnf];rfl
 rw[e] at st;exact aj (d:=⟨⟨dst,none,op⟩,rd,fr⟩) (dR hf) st k
theorem xj{es bytes dst a d k m lo:Nat}{v x:AV}{cs new:List AV}(r:RowC s.h lo k es v cs)(hlo:lo≤s.h.next)(he:∀h:AH,(∀y∈ids x,h.get y=s.h.get y)→elemsOf h es x=some (new,m))(hl:new.length=m*es)(hlf:∀c∈new,Leaf c)(hok:okLen (k+m) bytes=true)
  (hx:∀y∈ids x,y<s.h.next∧∃kk,s.h.get y=some kk∧below s.h.next (idsB kk)=true) (h2:s.eval (.t a)=some v) (h3:s.eval (.t d)=some x)
  (kk:∀rec v' h',RowC h' lo (k+m) es v' (cs++new)→s.h.next≤h'.next→(∀y,y<s.h.next→y∉ids v→h'.get y=s.h.get y)→DrawTo E rest (done++[rec]) ((s.toH h').put (some dst) v') K):
  DrawTo E (⟨⟨some dst,none,.append es bytes (.t a) (.t d)⟩,[a,d],[]⟩::rest) done s K:=by
 generalize hvs:idsL (pickTm s.tm [a,d]).vals=vs;have pa:(pickTm s.tm [a,d]).get a=some v:=cg il h2;have pd:(pickTm s.tm [a,d]).get d=some x:=cg (j0 _ il) h3;have inv:∀y∈ids v,y∈vs:=fun y hy=>by rw[←hvs];exact cm (b9 pa) y hy
 have inx:∀y∈ids x,y∈vs:=fun y hy=>by rw[←hvs];exact cm (b9 pd) y hy
 have out:∀y∈vs,y∈ids v∨y∈ids x:=fun y hy=>by
  rw[←hvs] at hy;obtain⟨j,hj,w,hw,hyw⟩:=dx hy;rcases i8.1 hj with rfl|hj
  ·rw[h2] at hw;cases hw;exact .inl hyw
  ·rw[ig.1 hj,h3] at hw;cases hw;exact .inr hyw
 have hbel:below s.h.next vs=true:=iy.2 fun y hy=>j8.mpr (by
  rcases out y hy with q|q
  ·exact(r.ids y q).2.1
  ·exact(hx y q).1)
 have hkn:knownH s.h vs=true:=iy.2 fun y hy=>by
  rcases out y hy with q|q
  ·obtain⟨_,q1,q2⟩:=r.ids y q;have q3:iq y s.h.next=true:=j8.mpr q1;simp only[q3,q2,idsB,bV r.1];rfl
  ·exact U30
 have r':RowC (restrictH s.h vs) lo k es v cs:=r.toB (i7 _) fun y hy=>aV (inv y hy);obtain⟨v',h1,e1,e2,e3,e4⟩:=wR (s:={tm:=pickTm s.tm [a,d],h:=restrictH s.h vs,defers:=[],round:=s.round}) (bytes:=bytes) r' hlo (he _ fun y hy=>aV (inx y hy)) hl hlf hok pa pd;have e3:s.h.next≤h1.next:=e3;have hro:∀m',runOp E (aZ E (exec E m')) {tm:=pickTm s.tm [a,d],h:=restrictH s.h vs,defers:=[],round:=s.round} (.append es bytes (.t a) (.t d))=some (v',{tm:=pickTm s.tm [a,d],h:=h1,defers:=[],round:=s.round}):=fun m'=>e1;have htu:turned {tm:=pickTm s.tm [a,d],h:=restrictH s.h vs,defers:=[],round:=s.round} (.append es bytes (.t a) (.t d))=ids v:=by
  simp only[turned,idsO,St.eval,pa]
 have hDb:below s.h.next (ids v)=true:=r.below;have hble:i6 s.h.next h1.next=true:=iu.mpr e3;have hst:Ev fun n=>stepDraw E (aZ E (exec E n)) ⟨⟨some dst,none,.append es bytes (.t a) (.t d)⟩,[a,d],[]⟩ (nearOf done []) s=some (v',⟨vs,ids v,s.h.next,h1.next⟩,mergeH s.h (ids v) h1):=by
  refine Ev.of fun n=>?_
  simp only[stepDraw,wantedA,hvs,foot,hbel,hkn,ip,cond_true,hro,isCall,cond_false,htu,An,hble,hDb]
 have hnx:(mergeH s.h (ids v) h1).next=h1.next:=rfl;refine aj (d:=⟨⟨some dst,none,.append es bytes (.t a) (.t d)⟩,[a,d],[]⟩) rfl hst (kk _ v' _ ?_ (by rw[hnx];exact e3) fun y hy hv=>?_)
 ·refine e2.toB (by rw[hnx];exact i7 _) fun y hy=>?_
  obtain⟨y1,y2,y3⟩:=e2.ids y hy;rw[ce e3]
  by_cases q:s.h.next≤y
  ·rw[if_pos ⟨q,y2⟩]
  ·exact U31
 ·rw[ce e3,if_neg om,if_neg hv]
theorem Jp{h:AH}{b i:Nat}{cs:List AV}{x:AV}(g:h.get b=some (.cells cs true))(hi:i<cs.length):storeH h 1 (.ptr b i) [x]=some (h.put b (some (.cells (cs.set i x) true))):=by
 have h1:i5 [x].length 1=true:=rfl;have h2:i6 (i+1) cs.length=true:=iu.mpr om;have h3:putAt cs i [x]=cs.set i x:=by
  rw[putAt,List.set_eq_take_append_cons_drop,if_pos hi,jh];rfl
 simp only[storeH,g,h1,h2,ip,cond_true,h3]
end Go.AM
namespace Go.AM
variable {E:Env}
theorem pN{h:AH}{a a':AV}(hm:toTree h deepest a=some a'){ys:List AV}(hy:∀v∈ys,Tree v):∀{xs:List AV},(∀v∈xs,Tree v)→mapTree h (xs++a::ys)=some (xs++a'::ys)
 | [],_=>by simp only[iz,mapTree,hm,bb hy]
 |x::xs,hx=>by
  have h1:toTree h deepest x=some x:=(hx x il).1 h 999999998;simp only[List.cons_append,mapTree,h1,pN hm hy fun v hv=>hx v (j0 _ hv)]
theorem Dy{g:Nat}{xs ys:List AV}{a a' t:AV}{h h1:AH}(hs:E.shared.get g=none)(hx:∀v∈xs,Tree v)(hy:∀v∈ys,Tree v)(ha:Tree a')(hz:freeze deepest a h=h1)(hm:toTree h1 deepest a=some a')
  (hc:∀h,RunCall E (.f g) (xs++a'::ys) h t h):∃h2,RunCall E (.f g) (xs++a::ys) h t h2∧(h2=h∨h2=h1):=by
 have hf:(xs++a::ys).foldl (fun h v=>freeze deepest v h) h=h1:=by
  rw[List.foldl_append,az hx,Bh,hz,az hy]
 have hm1:=pN hm hy hx;have hl':∀v∈xs++a'::ys,Tree v:=fun v hv=>by
  rcases jc.1 hv with hv|hv
  ·exact hx v hv
  ·rcases i8.1 hv with rfl|hv
   ·exact ha
   ·exact hy v hv
 refine⟨bif isFlat t then h else h1,(hc h1).mono fun n p=>?_,?_⟩
 ·have p:cD E (enterA E (exec E n)) g (xs++a'::ys) h1=some (t,h1):=p;show cD E (enterA E (exec E n)) g (xs++a::ys) h=_;simp only[cD,hs,az hl',bb hl'] at p;simp only[cD,hs,hf,hm1];revert p;cases E.known g (xs++a'::ys) with
  |some r=>
   intro p;simp only[sI,pI] at p⊢
   obtain⟨rfl,_⟩:=p;exact⟨rfl,rfl⟩
  |none=>
   simp only;cases enterA E (exec E n) g (xs++a'::ys) .empty with
   |none=>intro p;cases p
   |some q=>
    obtain⟨r,hc'⟩:=q;simp only;cases toTree (freeze deepest r hc') deepest r with
    |none=>intro p;cases p
    |some t'=>
     intro p;simp only[sI,pI] at p⊢
     obtain⟨rfl,_⟩:=p;exact⟨rfl,rfl⟩
 ·cases isFlat t
  ·exact .inr rfl
  ·exact .inl rfl
theorem n8{n:Nat}:∀{cs:List AV} {h:AH},(∀c∈cs,Leaf c)→cs.foldl (fun h c=>freeze (n+1) c h) h=h
 | [],_,_=>rfl
 |c::r,h,k=>by rw[Bh,(k c il).2 h n];exact n8 fun x hx=>k x (j0 _ hx)
theorem rS{n:Nat}{h:AH}:∀{cs:List AV},(∀c∈cs,Leaf c)→cs.mapM (toTree h (n+1))=some cs
 | [],_=>rfl
 |c::r,k=>by
  rw[Ap,(k c il).1 h n,rS fun x hx=>k x (j0 _ hx)];rfl
def rowT(k:Nat)(cs:List AV):AV:=bif i5 k 0 then .val (.slice none 0 0) else .imm cs k none
theorem uG{h:AH}{lo k es:Nat}{v:AV}{cs:List AV}(r:RowC h lo k es v cs)(n:Nat):∃h1,freeze (n+2) v h=h1∧h1.next=h.next∧(∀x,x∉ids v→h1.get x=h.get x)∧toTree h1 (n+2) v=some (rowT k cs):=by
 obtain⟨h1,h2,⟨rfl,rfl⟩|⟨b,b1,b2,b3,rfl,b5⟩⟩:=r
 ·exact⟨h,rfl,rfl,fun _ _=>rfl,rfl⟩
 ·have hk:i5 k 0=false:=by
   cases hk:i5 k 0 with
   |false=>rfl
   |true=>
    have:=ij hk;omega
  have ht:(cs.drop 0).take (k*es)=cs:=by rw[jj,←h2,By]
  refine⟨h.put b (some (.cells cs false)),?_,rfl,fun x hx=>?_,?_⟩
  ·rw[freeze];simp only[b5,ht];exact n8 h1
  ·rw[AH.get_put,if_neg (fun e=>hx (by simp only[ids,ig];exact e))]
  ·have g:(h.put b (some (.cells cs false))).get b=some (.cells cs false):=by rw[AH.get_put,if_pos rfl]
   have hle:i6 (0+k*es) cs.length=true:=iu.mpr om;rw[toTree.eq_def];simp only[g,hle,cond_true,ht,rS h1,jo,rowT,hk,cond_false]
theorem ed{h:AH}{lo k es:Nat}{v:AV}{cs:List AV}(r:RowC h lo k es v cs):∃h1,freeze deepest v h=h1∧h1.next=h.next∧(∀x,x∉ids v→h1.get x=h.get x)∧toTree h1 deepest v=some (rowT k cs):=uG r 999999998
theorem aW{s:St}{K:St→Prop}{r:List AOper}{dst:Option Nat}{f:Nat}{l:List AV}{v:AV}{h':AH}(h:RunCall E (.f f) l s.h v h')(k:wpOps E r ((s.toH h').put dst v) K):mj E f r s dst K (some l):=by
 rw[Eb h];exact k
theorem cO{s:St}{K:St→Prop}{r:List AOper}{dst:Option Nat}{es bytes a d k m lo:Nat}{v x:AV}{cs new:List AV}(hr:RowC s.h lo k es v cs)(hlo:lo≤s.h.next)(he:elemsOf s.h es x=some (new,m))(hl:new.length=m*es)(hn:∀c∈new,Leaf c)(hok:okLen (k+m) bytes=true)(ha:s.eval (.t a)=some v)(hx:s.eval (.t d)=some x)
  (kk:∀v' h',RowC h' lo (k+m) es v' (cs++new)→s.h.next≤h'.next→(∀y,y<s.h.next→y∉ids v→h'.get y=s.h.get y)→wpOps E r ((s.toH h').put dst v') K):wpOps E (⟨dst,none,.append es bytes (.t a) (.t d)⟩::r) s K:=by
 obtain⟨v',h',e,r',n',o'⟩:=wR (bytes:=bytes) hr hlo he hl hn hok ha hx;rw[cR,e];exact kk v' h' r' n' o'
end Go.AM
namespace Go.AM
variable {E:Env}{s:St}{K:St→Prop}{rest:List DOp}{done:List DRec}
def RowX(h:AH)(lo k es:Nat)(v:AV)(cs:List AV):Prop:=
 RowC h lo k es v cs∨((∀c∈cs,Leaf c)∧cs.length=k*es∧∃b,lo≤b∧b<h.next∧v=.own b 0 k es (some k)∧h.get b=some (.cells cs true))
theorem RowC.x{h:AH}{lo k es:Nat}{v:AV}{cs:List AV}(r:RowC h lo k es v cs):RowX h lo k es v cs:=.inl r
theorem RowX.made{h:AH}{lo k es b:Nat}{cs:List AV}(h1:∀c∈cs,Leaf c)(h2:cs.length=k*es)(b1:lo≤b)(b2:b<h.next)(g:h.get b=some (.cells cs true)):RowX h lo k es (.own b 0 k es (some k)) cs:=.inr ⟨h1,h2,b,b1,b2,rfl,g⟩
theorem RowX.leafs{h:AH}{lo k es:Nat}{v:AV}{cs:List AV}(r:RowX h lo k es v cs):∀c∈cs,Leaf c:=by
 rcases r with r|r
 ·exact r.1
 ·exact r.1
theorem RowX.length{h:AH}{lo k es:Nat}{v:AV}{cs:List AV}(r:RowX h lo k es v cs):cs.length=k*es:=by
 rcases r with r|r
 ·exact r.2.1
 ·exact r.2.1
theorem RowX.toB{h h':AH}{lo k es:Nat}{v:AV}{cs:List AV}(r:RowX h lo k es v cs)(hn:h.next≤h'.next)(g:∀x∈ids v,h'.get x=h.get x):RowX h' lo k es v cs:=by
 rcases r with r|⟨h1,h2,b,b1,b2,rfl,b5⟩
 ·exact .inl (r.toB hn g)
 ·exact .inr ⟨h1,h2,b,b1,om,rfl,by rw[g b (by simp only[AM.ids,ig]),b5]⟩
theorem RowX.ids{h:AH}{lo k es:Nat}{v:AV}{cs:List AV}(r:RowX h lo k es v cs):∀x∈ids v,lo≤x∧x<h.next∧h.get x=some (.cells cs true):=by
 rcases r with r|⟨h1,h2,b,b1,b2,rfl,b5⟩
 ·exact r.ids
 ·intro x hx;simp only[AM.ids,ig] at hx;subst hx;exact⟨b1,b2,b5⟩
theorem RowX.to{h h':AH}{lo k es:Nat}{v:AV}{cs:List AV}(r:RowX h lo k es v cs)(hn:h.next≤h'.next)(g:∀x,lo≤x→x<h.next→h'.get x=h.get x):RowX h' lo k es v cs:=
 r.toB hn fun x hx=>g x (r.ids x hx).1 (r.ids x hx).2.1
theorem RowX.low{h:AH}{lo lo' k es:Nat}{v:AV}{cs:List AV}(r:RowX h lo k es v cs)(hl:lo'≤lo):RowX h lo' k es v cs:=by
 rcases r with r|⟨h1,h2,b,b1,b2,rfl,b5⟩
 ·exact .inl (r.low hl)
 ·exact .inr ⟨h1,h2,b,om,b2,rfl,b5⟩
theorem RowX.cells{h:AH}{lo k es:Nat}{v:AV}{cs:List AV}(r:RowX h lo k es v cs):v.cells=some [v]:=by
 rcases r with r|⟨_,_,b,_,_,rfl,_⟩
 ·exact r.cells
 ·rfl
theorem RowX.below{h:AH}{lo k es:Nat}{v:AV}{cs:List AV}(r:RowX h lo k es v cs):AM.below h.next (AM.ids v)=true:=iy.2 fun x hx=>j8.mpr (r.ids x hx).2.1
theorem RowX.nice{h:AH}{lo k es:Nat}{v:AV}{cs:List AV}(r:RowX h lo k es v cs):niceT h (some v)=true:=by
 simp only[niceT,niceV];refine iy.2 fun x hx=>?_
 obtain⟨_,h1,h2⟩:=r.ids x hx;have:iq x h.next=true:=j8.mpr h1;simp only[this,h2,bV r.leafs];rfl
theorem RowX.len{h:AH}{lo k es:Nat}{v:AV}{cs:List AV}(r:RowX h lo k es v cs):lenV v=some (vI (k:Nat)):=by
 rcases r with r|⟨_,_,b,_,_,rfl,_⟩
 ·exact r.len
 ·rfl
theorem RowX.one{h:AH}{lo k es:Nat}{v:AV}{cs:List AV}(r:RowX h lo k es v cs):AM.ids v=[]∨∃b,AM.ids v=[b]:=by
 rcases r with⟨_,_,⟨_,rfl⟩|⟨b,_,_,_,rfl,_⟩⟩|⟨_,_,b,_,_,rfl,_⟩
 ·exact .inl rfl
 ·exact .inr ⟨b,rfl⟩
 ·exact .inr ⟨b,rfl⟩
def rowX(v:AV)(k:Nat)(cs:List AV):AV:=match v with
 |.own _ _ _ _ cap=>.imm cs k cap
 |_=>.val (.slice none 0 0)
theorem bN{h:AH}{lo k es:Nat}{v:AV}{cs:List AV}(r:RowX h lo k es v cs):∃h1,freeze deepest v h=h1∧h1.next=h.next∧(∀x,x∉AM.ids v→h1.get x=h.get x)∧toTree h1 deepest v=some (rowX v k cs):=by
 rcases r with r|⟨h1,h2,b,b1,b2,rfl,b5⟩
 ·obtain⟨h1,e1,e2,e3,e4⟩:=ed r;refine⟨h1,e1,e2,e3,?_⟩;rw[e4];obtain⟨_,_,⟨rfl,rfl⟩|⟨b,_,_,h3,rfl,_⟩⟩:=r
  ·rfl
  ·have:i5 k 0=false:=by
    cases hk:i5 k 0 with
    |false=>rfl
    |true=>
     have:=ij hk;omega
   simp only[rowT,rowX,this];rfl
 ·refine⟨_,rfl,?_,?_,yV b5 h2 h1⟩
  ·exact(cH deepest _ h).1
  ·intro x hx;have hx:x≠b:=fun e=>hx (by rw[e];simp only[AM.ids,ig])
   show(match h.get b with
    |some (.cells cs _)=>((cs.drop 0).take (k*es)).foldl (fun h c=>freeze 999999999 c h) (h.put b (some (.cells cs false)))
    |_=>h).get x=_
   rw[b5];simp only[jj];rw[jl om,bv h1,aP hx]
theorem mm{es bytes a d k m lo:Nat}{v x:AV}{cs new:List AV}(r:RowX s.h lo k es v cs)(hlo:lo≤s.h.next)(he:elemsOf s.h es x=some (new,m))(hl:new.length=m*es)(hn:∀c∈new,Leaf c)(hok:okLen (k+m) bytes=true)(ha:s.eval (.t a)=some v)(hx:s.eval (.t d)=some x):
  ∃v' h',appendA s es bytes (.t a) (.t d)=some (v',s.toH h')∧RowX h' lo (k+m) es v' (cs++new)∧s.h.next≤h'.next∧(∀y,y<s.h.next→y∉AM.ids v→h'.get y=s.h.get y)∧(NoTag s.h→NoTag h'):=by
 rcases Ar m with rfl|hm
 ·have:new=[]:=List.eq_nil_of_length_eq_zero (by rw[hl];omega)
  subst this;rw[j6];refine⟨v,s.h,?_,r,i7 _,fun _ _ _=>rfl,fun h=>h⟩;rcases r with r|⟨h1,h2,b,b1,b2,rfl,b5⟩
  ·exact tC r he ha hx
  ·have hb:i5 0 0=true:=rfl;simp only[appendA,ha,hx,he,hb,cond_true];rfl
 ·rcases r with r|⟨h1,h2,b,b1,b2,rfl,b5⟩
  ·obtain⟨p1,p2,p3,p4⟩:=pB r hlo hn hl hm;refine⟨_,_,jM r he hm hok ha hx,.inl p2,om,p3,fun nt=>?_⟩;obtain⟨_,_,⟨rfl,rfl⟩|⟨b,_,_,_,rfl,b5⟩⟩:=r
   ·exact nt.alloc
   ·simp only[pushC,b5];exact nt.drop.alloc
  ·have hb:i5 m 0=false:=by
    cases hk:i5 m 0 with
    |false=>rfl
    |true=>
     have:=ij hk;omega
   have bes:i5 es es=true:=je es;have c2:i6 (0+k*es) cs.length=true:=iu.mpr om;have c3:i6 (k+m) k=false:=by
    cases hq:i6 (k+m) k with
    |false=>rfl
    |true=>
     have:=is hq;omega
   have c4:(cs.drop 0).take (k*es)=cs:=by rw[jj,jl om]
   refine⟨.own s.h.next 0 (k+m) es none,s.h.alloc (.cells (cs++new) true),?_,.inl ⟨fun c hc=>?_,?_,.inr ⟨s.h.next,hlo,js _,om,rfl,aO⟩⟩,jw _,fun y hy _=>aB hy,fun nt=>nt.alloc⟩
   ·simp only[appendA,ha,hx,he,hb,cond_false,b5,bes,c2,hok,ip,cond_true,c3,c4];rfl
   ·rcases jc.1 hc with hc|hc
    ·exact h1 c hc
    ·exact hn c hc
   ·rw[io,h2,hl,Nat.add_mul]
theorem fK{es bytes dst a d k m lo:Nat}{v x:AV}{cs new:List AV}{gd:Option (Nat×Bool)}{rd fr:List Nat}(r:RowX s.h lo k es v cs)(hlo:lo≤s.h.next)(he:∀h:AH,(∀y∈ids x,h.get y=s.h.get y)→elemsOf h es x=some (new,m))(hl:new.length=m*es)(hlf:∀c∈new,Leaf c)(hok:okLen (k+m) bytes=true)
  (hx:∀y∈ids x,y<s.h.next∧∃kk,s.h.get y=some kk∧below s.h.next (idsB kk)=true) (h2:s.eval (.t a)=some v) (h3:s.eval (.t d)=some x)
  (ma:a∈rd) (md:d∈rd) (mo:∀j∈rd,j=a∨j=d∨∃w,s.eval (.t j)=some (.val w)) (hg:guardIn rd gd=true) (hw:wantedA s gd=some true) (hfr:∀F D lo hi,(∀y∈F,y∈ids v∨y∈ids x)→(∀y∈D,y∈ids v)→freeOk done ⟨F,D,lo,hi⟩ fr=true)
  (kk:∀rec v' h',RowX h' lo (k+m) es v' (cs++new)→s.h.next≤h'.next→(∀y,y<s.h.next→y∉ids v→h'.get y=s.h.get y)→(NoTag s.h→NoTag h')→(∀R:List Nat,(∀r∈R,r<s.h.next∧r∉ids v)→MildR R rec)→DrawTo E rest (done++[rec]) ((s.toH h').put (some dst) v') K):
  DrawTo E (⟨⟨some dst,gd,.append es bytes (.t a) (.t d)⟩,rd,fr⟩::rest) done s K:=by
 generalize hvs:idsL (pickTm s.tm rd).vals=vs;have pa:(pickTm s.tm rd).get a=some v:=cg ma h2;have pd:(pickTm s.tm rd).get d=some x:=cg md h3;have inv:∀y∈ids v,y∈vs:=fun y hy=>by rw[←hvs];exact cm (b9 pa) y hy
 have inx:∀y∈ids x,y∈vs:=fun y hy=>by rw[←hvs];exact cm (b9 pd) y hy
 have out:∀y∈vs,y∈ids v∨y∈ids x:=fun y hy=>by
  rw[←hvs] at hy;obtain⟨j,hj,w,hw,hyw⟩:=dx hy;rcases mo j hj with rfl|rfl|⟨w',hw'⟩
  ·rw[h2] at hw;cases hw;exact .inl hyw
  ·rw[h3] at hw;cases hw;exact .inr hyw
  ·rw[hw'] at hw;cases hw;cases hyw
 have hbel:below s.h.next vs=true:=iy.2 fun y hy=>j8.mpr (by
  rcases out y hy with q|q
  ·exact(r.ids y q).2.1
  ·exact(hx y q).1)
 have hkn:knownH s.h vs=true:=iy.2 fun y hy=>by
  rcases out y hy with q|q
  ·obtain⟨_,q1,q2⟩:=r.ids y q;have q3:iq y s.h.next=true:=j8.mpr q1;simp only[q3,q2,idsB,bV r.leafs];rfl
  ·exact U30
 have r':RowX (restrictH s.h vs) lo k es v cs:=r.toB (i7 _) fun y hy=>aV (inv y hy);obtain⟨v',h1,e1,e2,e3,e4,e5⟩:=mm (s:={tm:=pickTm s.tm rd,h:=restrictH s.h vs,defers:=[],round:=s.round}) (bytes:=bytes) r' hlo (he _ fun y hy=>aV (inx y hy)) hl hlf hok pa pd;have e3:s.h.next≤h1.next:=e3;have hro:∀m',runOp E (aZ E (exec E m')) {tm:=pickTm s.tm rd,h:=restrictH s.h vs,defers:=[],round:=s.round} (.append es bytes (.t a) (.t d))=some (v',{tm:=pickTm s.tm rd,h:=h1,defers:=[],round:=s.round}):=fun m'=>e1;have htu:turned {tm:=pickTm s.tm rd,h:=restrictH s.h vs,defers:=[],round:=s.round} (.append es bytes (.t a) (.t d))=ids v:=by
  simp only[turned,idsO,St.eval,pa]
 have hDb:below s.h.next (ids v)=true:=r.below;have hble:i6 s.h.next h1.next=true:=iu.mpr e3;have hw':wantedA {tm:=pickTm s.tm rd,h:=s.h,defers:=[],round:=s.round} gd=some true:=by
  rw[←hw];exact br (s:=s) (F:=[]) hg▸(by cases gd<;>rfl)
 have hst:Ev fun n=>stepDraw E (aZ E (exec E n)) ⟨⟨some dst,gd,.append es bytes (.t a) (.t d)⟩,rd,fr⟩ (nearOf done fr) s=some (v',⟨vs,ids v,s.h.next,h1.next⟩,mergeH s.h (ids v) h1):=by
  refine Ev.of fun n=>?_
  simp only[stepDraw,hw',hvs,foot,hbel,hkn,ip,cond_true,hro,isCall,cond_false,htu,An,hble,hDb]
 have hnx:(mergeH s.h (ids v) h1).next=h1.next:=rfl;refine aj (d:=⟨⟨some dst,gd,.append es bytes (.t a) (.t d)⟩,rd,fr⟩) (hfr _ _ _ _ out (fun y hy=>hy)) hst (kk _ v' _ ?_ (by rw[hnx];exact e3) (fun y hy hv=>?_) (fun nt=>?_) (fun R hR r hr=>⟨(hR r hr).2,fun hab=>by
  have h1:=(hR r hr).1;obtain⟨h2,h3⟩:=hab;simp only at h2 h3;omega⟩))
 ·refine e2.toB (by rw[hnx];exact i7 _) fun y hy=>?_
  obtain⟨y1,y2,y3⟩:=e2.ids y hy;rw[ce e3]
  by_cases q:s.h.next≤y
  ·rw[if_pos ⟨q,y2⟩]
  ·exact U31
 ·rw[ce e3,if_neg om,if_neg hv]
 ·have nr:NoTag (restrictH s.h vs):=fun b x t n e=>by
   by_cases q:b∈vs
   ·exact nt b x t n (by rw[←aV q];exact e)
   ·rw[cf q] at e;cases e
  intro b x t n e;rw[ce e3] at e;split at e
  ·exact e5 nr b x t n e
  ·split at e
   ·exact e5 nr b x t n e
   ·exact nt b x t n e
theorem oT{es bytes dst a d k m lo:Nat}{v x:AV}{cs new:List AV}{gd:Option (Nat×Bool)}{rd:List Nat}(r:RowX s.h lo k es v cs)(hlo:lo≤s.h.next)(he:∀h:AH,(∀y∈ids x,h.get y=s.h.get y)→elemsOf h es x=some (new,m))(hl:new.length=m*es)(hlf:∀c∈new,Leaf c)(hok:okLen (k+m) bytes=true)
  (hx:∀y∈ids x,y<s.h.next∧∃kk,s.h.get y=some kk∧below s.h.next (idsB kk)=true) (h2:s.eval (.t a)=some v) (h3:s.eval (.t d)=some x)
  (ma:a∈rd) (md:d∈rd) (mo:∀j∈rd,j=a∨j=d∨∃w,s.eval (.t j)=some (.val w)) (hg:guardIn rd gd=true) (hw:wantedA s gd=some true)
  (kk:∀rec v' h',RowX h' lo (k+m) es v' (cs++new)→s.h.next≤h'.next→(∀y,y<s.h.next→y∉ids v→h'.get y=s.h.get y)→(NoTag s.h→NoTag h')→(∀R:List Nat,(∀r∈R,r<s.h.next∧r∉ids v)→MildR R rec)→DrawTo E rest (done++[rec]) ((s.toH h').put (some dst) v') K):
  DrawTo E (⟨⟨some dst,gd,.append es bytes (.t a) (.t d)⟩,rd,[]⟩::rest) done s K:=
 fK r hlo he hl hlf hok hx h2 h3 ma md mo hg hw (fun _ _ _ _ _ _=>rfl) kk
theorem et{dst es n:Nat}{z cs:List AV}{parts:List (Nat×Nat×Opd)}{fr rd:List Nat}{gd:Option (Nat×Bool)}(hv:∀j∈rd,∀w,s.eval (.t j)=some w→below s.h.next (ids w)=true)(hp:parts.all (fun p=>opdIn rd p.2.2)=true)(hfill:fill s z parts=some cs)(hf:∀i∈fr,i<done.length)
  (hg:guardIn rd gd=true) (hw:wantedA s gd=some true)
  (k:DrawTo E rest (done++[⟨[],[],s.h.next,s.h.next+1⟩]) ((s.toH (s.h.alloc (.cells cs true))).put (some dst) (.own s.h.next 0 n es (some n))) K):DrawTo E (⟨⟨some dst,gd,.buildSlice es n z parts⟩,rd,fr⟩::rest) done s K:=by
 refine aj (d:=⟨⟨some dst,gd,.buildSlice es n z parts⟩,rd,fr⟩) (dR hf) (Ev.of fun m=>?_) k;have hm:mergeH s.h [] ((restrictH s.h []).alloc (.cells cs true))=s.h.alloc (.cells cs true):=by
  have e:((restrictH s.h []).alloc (.cells cs true)).get s.h.next=some (.cells cs true):=by
   rw[AH.get_alloc];exact if_pos rfl
  show(⟨s.h.next+1,copyNew ((restrictH s.h []).alloc (.cells cs true)) s.h.next (s.h.next+1-s.h.next) s.h.tr⟩:AH)=_;rw[Nat.add_sub_cancel_left];simp only[copyNew,Nat.add_zero,e];rfl
 have hbel:below s.h.next (idsL (pickTm s.tm rd).vals)=true:=iy.2 fun x hx=>by
  obtain⟨j,hj,w,hw,hxw⟩:=dx hx;exact iy.1 (hv j hj w hw) x hxw
 have hfl:fill {tm:=pickTm s.tm rd,h:=restrictH s.h [],defers:=[],round:=s.round} z parts=some cs:=by
  rw[←hfill];exact iE (s:=s) (l:=rd) (F:=[]) hp
 have hw':wantedA {tm:=pickTm s.tm rd,h:=s.h,defers:=[],round:=s.round} gd=some true:=by
  rw[←hw];exact br (s:=s) (F:=[]) hg▸(by cases gd<;>rfl)
 have hb':i6 s.h.next ((restrictH s.h []).alloc (.cells cs true)).next=true:=iu.mpr (jw _);have hb0:below s.h.next []=true:=rfl;simp only[stepDraw,hw',hbel,foot,knownH,j5,ip,cond_true,runOp,hfl,j9,isCall,cond_false,turned,hm,An,hb',hb0];rfl
theorem ml{dst:Option Nat}{f lo k es:Nat}{xs:List Opd}{rd fr:List Nat}{l:List AV}{w t:AV}{cs:List AV}{gd:Option (Nat×Bool)}(r:RowX s.h lo k es w cs)(hn:∀j∈rd,∃v,s.eval (.t j)=some v∧(ids v=[]∨v=w))(hwm:∃j∈rd,s.eval (.t j)=some w)
  (hxs:xs.all (opdIn rd)=true) (he:evalAll s xs=some l) (ht:NoTag s.h) (hg:guardIn rd gd=true) (hw:wantedA s gd=some true)
  (hc:∀h,h.next=s.h.next→(∀y∈ids w,h.get y=s.h.get y)→RunCall E (.f f) l h t h)
  (hfr:∀F D lo hi,(∀y∈F,y∈ids w)→(∀y∈D,y∈ids w)→freeOk done ⟨F,D,lo,hi⟩ fr=true)
  (kk:∀(rec:DRec) h',(∀y∈rec.D,y∈ids w)→rec.lo=s.h.next→rec.hi=s.h.next→h'.next=s.h.next→(∀y,h'.get y=s.h.get y)→DrawTo E rest (done++[rec]) ((s.toH h').put dst t) K):
  DrawTo E (⟨⟨dst,gd,.call f xs⟩,rd,fr⟩::rest) done s K:=by
 generalize hvs:idsL (pickTm s.tm rd).vals=vs;have inw:∀y∈ids w,y∈vs:=fun y hy=>by
  obtain⟨j,hj,e⟩:=hwm;rw[←hvs];exact cm (b9 (cg hj e)) y hy
 have out:∀y∈vs,y∈ids w:=fun y hy=>by
  rw[←hvs] at hy;obtain⟨j,hj,v,hv,hyv⟩:=dx hy;obtain⟨v',e1,e2⟩:=hn j hj;rw[hv] at e1;cases e1;rcases e2 with e2|rfl
  ·rw[e2] at hyv;cases hyv
  ·exact hyv
 have reach_ok:∀(n:Nat) (L seen:List Nat),(∀y∈L,y∈ids w)→(∀y∈seen,y∈ids w)→(∀y∈reach s.h n L seen,y∈ids w)∧∀y∈seen,y∈reach s.h n L seen:=by
  intro n
  induction n with
  |zero=>intro L seen h1 h2;exact⟨h2,fun y hy=>hy⟩
  |succ n ih=>
   intro L seen h1 h2;cases L with
   |nil=>exact⟨h2,fun y hy=>hy⟩
   |cons b L=>
    simp only[reach];cases hm:memN seen b with
    |true=>exact ih L seen (fun y hy=>h1 y (j0 _ hy)) h2
    |false=>
     have hb:=h1 b il;obtain⟨_,_,g⟩:=r.ids b hb;simp only[cond_false,g,idsB,bV r.leafs,iz];have:=ih L (b::seen) (fun y hy=>h1 y (j0 _ hy)) (fun y hy=>by
      rcases i8.1 hy with rfl|hy
      ·exact hb
      ·exact h2 y hy)
     exact⟨this.1,fun y hy=>this.2 y (j0 _ hy)⟩
 have first:∀y∈vs,y∈reach s.h 100000 vs []:=fun y hy=>by
  have hone:∀z∈vs,z=y:=fun z hz=>by
   have h1:=out y hy;have h2:=out z hz;rcases r.one with e|⟨b,e⟩
   ·rw[e] at h1;cases h1
   ·rw[e,ig] at h1 h2;rw[h1,h2]
  cases hv:vs with
  |nil=>rw[hv] at hy;cases hy
  |cons z L=>
   have hz:z=y:=hone z (by rw[hv];exact il)
   subst hz;have e:reach s.h (99999+1) (z::L) []=reach s.h 99999 L [z]:=by
    have hm:memN ([]:List Nat) z=false:=rfl;obtain⟨_,_,g⟩:=r.ids z (out z hy);simp only[reach,hm,cond_false,g,idsB,bV r.leafs,iz]
   rw[show(100000:Nat)=99999+1 from rfl,e];refine(reach_ok 99999 L [z] (fun q hq=>out q (by rw[hv];exact j0 _ hq)) (fun q hq=>?_)).2 z (List.mem_singleton_self z)
   rw[ig.1 hq];exact out z hy
 generalize hR:(bif vs.isEmpty then([]:List Nat) else reach s.h 100000 vs [])=F;have hF1:∀y∈F,y∈ids w:=fun y hy=>by
  cases hq:vs.isEmpty with
  |true=>rw[hq] at hR;rw[←hR] at hy;cases hy
  |false=>
   rw[hq] at hR;rw[←hR] at hy;exact(reach_ok 100000 vs [] out (fun q hq=>by cases hq)).1 y hy
 have hF2:∀y∈ids w,y∈F:=fun y hy=>by
  have h1:=inw y hy;have hq:vs.isEmpty=false:=by cases hv:vs with
   |nil=>rw[hv] at h1;cases h1
   |cons _ _=>rfl
  rw[hq] at hR;rw[←hR];exact first y h1
 have hfoot:foot {tm:=pickTm s.tm rd,h:=s.h,defers:=[],round:=s.round} vs (.call f xs)=F:=by
  rw[←hR];show(bif vs.isEmpty then [] else withTags s.h (reach s.h 100000 vs []))=_;rw[ym ht]
 have hbel:below s.h.next vs=true:=iy.2 fun y hy=>j8.mpr (r.ids y (out y hy)).2.1;have hkn:knownH s.h F=true:=iy.2 fun y hy=>by
  obtain⟨_,q1,q2⟩:=r.ids y (hF1 y hy);have q3:iq y s.h.next=true:=j8.mpr q1;simp only[q3,q2,idsB,bV r.leafs];rfl
 have hev:evalAll {tm:=pickTm s.tm rd,h:=restrictH s.h F,defers:=[],round:=s.round} xs=some l:=by
  rw[←he];exact lI (s:=s) (F:=F) hxs
 have hw':wantedA {tm:=pickTm s.tm rd,h:=s.h,defers:=[],round:=s.round} gd=some true:=by
  rw[←hw];exact br (s:=s) (F:=[]) hg▸(by cases gd<;>rfl)
 generalize hD:(F.filter fun b=> !(memN (vs++nearOf done fr) b&&eqB (s.h.get b) ((restrictH s.h F).get b)))=D;have hDF:∀y∈D,y∈F:=fun y hy=>by rw[←hD] at hy;exact(List.mem_filter.1 hy).1
 have hDb:below s.h.next D=true:=iy.2 fun y hy=>j8.mpr (r.ids y (hF1 y (hDF y hy))).2.1;have hbl:i6 s.h.next s.h.next=true:=iu.mpr (i7 _);have hst:Ev fun n=>stepDraw E (aZ E (exec E n)) ⟨⟨dst,gd,.call f xs⟩,rd,fr⟩ (nearOf done fr) s=some (t,⟨F,D,s.h.next,s.h.next⟩,mergeH s.h D (restrictH s.h F)):=by
  refine(hc (restrictH s.h F) rfl (fun y hy=>aV (hF2 y hy))).mono fun n p=>?_
  have hnx:(restrictH s.h F).next=s.h.next:=rfl;simp only[stepDraw,hw',hvs,hfoot,hbel,hkn,ip,cond_true,runOp,hev,p,j9,isCall,An,hnx,hbl,hD,hDb]
 refine aj (d:=⟨⟨dst,gd,.call f xs⟩,rd,fr⟩) (hfr _ _ _ _ hF1 (fun y hy=>hF1 y (hDF y hy))) hst (kk _ _ (fun y hy=>hF1 y (hDF y hy)) rfl rfl rfl fun y=>?_);rw[ce (h:=s.h) (F:=restrictH s.h F) (D:=D) (i7 s.h.next) y,if_neg (by show¬(s.h.next≤y∧y<s.h.next);omega)]
 split
 ·rename_i m;exact aV (hDF y m)
 ·rfl
theorem fq{dst:Option Nat}{f lo k es:Nat}{xs:List Opd}{rd fr:List Nat}{l:List AV}{w t:AV}{cs:List AV}{gd:Option (Nat×Bool)}(r:RowX s.h lo k es w cs)(hn:∀j∈rd,∃v,s.eval (.t j)=some v∧(ids v=[]∨v=w))(hwm:∃j∈rd,s.eval (.t j)=some w)
  (hxs:xs.all (opdIn rd)=true) (he:evalAll s xs=some l) (ht:NoTag s.h) (hg:guardIn rd gd=true) (hw:wantedA s gd=some true)
  (hc:∀h,h.next=s.h.next→(∀y∈ids w,h.get y=s.h.get y)→RunCall E (.f f) l h t h)
  (hfr:∀F D lo hi,(∀y∈F,y∈ids w)→(∀y∈D,y∈ids w)→freeOk done ⟨F,D,lo,hi⟩ fr=true)
  (kk:∀rec h',h'.next=s.h.next→(∀y,h'.get y=s.h.get y)→DrawTo E rest (done++[rec]) ((s.toH h').put dst t) K):
  DrawTo E (⟨⟨dst,gd,.call f xs⟩,rd,fr⟩::rest) done s K:=
 ml r hn hwm hxs he ht hg hw hc hfr fun rec h' _ _ _=>kk rec h'
theorem vC{dst:Option Nat}{f lo k es:Nat}{xs:List Opd}{rd:List Nat}{l:List AV}{w t:AV}{cs:List AV}{gd:Option (Nat×Bool)}(r:RowX s.h lo k es w cs)(hn:∀j∈rd,∃v,s.eval (.t j)=some v∧(ids v=[]∨v=w))(hwm:∃j∈rd,s.eval (.t j)=some w)
  (hxs:xs.all (opdIn rd)=true) (he:evalAll s xs=some l) (ht:NoTag s.h) (hg:guardIn rd gd=true) (hw:wantedA s gd=some true)
  (hc:∀h,h.next=s.h.next→(∀y∈ids w,h.get y=s.h.get y)→RunCall E (.f f) l h t h)
  (kk:∀rec h',h'.next=s.h.next→(∀y,h'.get y=s.h.get y)→DrawTo E rest (done++[rec]) ((s.toH h').put dst t) K):
  DrawTo E (⟨⟨dst,gd,.call f xs⟩,rd,[]⟩::rest) done s K:=
 fq r hn hwm hxs he ht hg hw hc (fun _ _ _ _ _ _=>rfl) kk
theorem vE{dst:Option Nat}{fr:List Nat}{f i:Nat}{a v:AV}{h1:AH}(he:s.eval (.t i)=some a)(hv:ids a=[])
  (hc:RunCall E (.f f) [a] (restrictH s.h []) v h1) (hn:s.h.next≤h1.next) (hf:∀j∈fr,j<done.length)
  (k:∀h',h'.next=h1.next→(∀x,s.h.next≤x→x<h1.next→h'.get x=h1.get x)→(∀x,x<s.h.next→h'.get x=s.h.get x)→(NoTag s.h→NoTag h1→NoTag h')→DrawTo E rest (done++[⟨[],[],s.h.next,h1.next⟩]) ((s.toH h').put dst v) K):
  DrawTo E (⟨⟨dst,none,.call f [.t i]⟩,[i],fr⟩::rest) done s K:=by
 have hvs:idsL (pickTm s.tm [i]).vals=[]:=by
  cases hq:idsL (pickTm s.tm [i]).vals with
  |nil=>rfl
  |cons x l=>
   obtain⟨j,hj,w,hw,hxw⟩:=dx (s:=s) (l:=[i]) (x:=x) (by rw[hq];exact il)
   rw[ig.1 hj,he] at hw;cases hw;rw[hv] at hxw;cases hxw
 have hev:evalAll {tm:=pickTm s.tm [i],h:=restrictH s.h [],defers:=[],round:=s.round} [.t i]=some [a]:=by
  simp only[evalAll,St.eval,cg il he]
 have hble:i6 s.h.next h1.next=true:=iu.mpr hn;have hst:Ev fun n=>stepDraw E (aZ E (exec E n)) ⟨⟨dst,none,.call f [.t i]⟩,[i],fr⟩ (nearOf done fr) s=some (v,⟨[],[],s.h.next,h1.next⟩,mergeH s.h [] h1):=by
  refine hc.mono fun n p=>?_
  have b0:below s.h.next []=true:=rfl;have k0:knownH s.h []=true:=rfl;have f0:∀tm:Tr AV,foot {tm:=tm,h:=s.h,defers:=[],round:=s.round} [] (.call f [.t i])=[]:=fun _=>rfl;simp only[stepDraw,wantedA,hvs,f0,b0,k0,ip,cond_true,runOp,hev,p,j9,isCall,An,hble,List.filter_nil]
 refine aj (d:=⟨⟨dst,none,.call f [.t i]⟩,[i],fr⟩) (dA (R:=[]) (fun x _ r hr=>by cases hr) (fun b hb=>hb) hf) hst (k _ rfl ?_ ?_ ?_)
 ·intro x x1 x2;rw[ce hn,if_pos ⟨x1,x2⟩]
 ·intro x x1;rw[ce hn,if_neg om,if_neg (by simp)]
 ·intro n1 n2 b x t n e;rw[ce hn] at e;split at e
  ·exact n2 b x t n e
  ·rw[if_neg (by simp)] at e
   exact n1 b x t n e
theorem nc{R:List Nat}{post:List DOp}{K1:St→Prop}:∀(pre:List DOp) (done:List DRec) (s:St) (h0:AH),calmAt done.length pre=true→(∀x∈done,MildR R x)→(∀r∈R,r<s.h.next)→s.h=h0→
  wpDm E R pre s K1→(∀s',K1 s'→s'.h=h0→∀more:List DRec,more.length=pre.length→(∀x∈more,MildR R x)→DrawTo E post (done++more) s' K)→DrawTo E (pre++post) done s K
 | [],done,s,h0,_,hq,_,e,h,hk=>by
  have:=hk s h e [] rfl (fun x hx=>by cases hx)
  rwa [j6] at this
 |⟨⟨dst,g,op⟩,rd,fr⟩::r,done,s,h0,hc,hq,hR,e,h,hk=>by
  simp only[calmAt,i9] at hc;obtain⟨⟨hfr,hcd⟩,hcr⟩:=hc;simp only[calmD,i9] at hcd;obtain⟨hg,hop⟩:=hcd;have hf:∀i∈fr,i<done.length:=fun i hi=>j8.mp (iy.1 hfr i hi);have hh:∀(dst:Option Nat) (v:AV),(s.put dst v).h=s.h:=fun dst v=>by cases dst<;>rfl
  have nx:∀(rec:DRec) (v:AV),MildR R rec→wpDm E R r (s.put dst v) K1→DrawTo E (r++post) (done++[rec]) (s.put dst v) K:=fun rec v hqr hw=>
   nc r (done++[rec]) (s.put dst v) h0 (by rw[io];exact hcr) (fun x hx=>by
    rcases jc.1 hx with hx|hx
    ·exact hq x hx
    ·rw[ig.1 hx];exact hqr) (fun r hr=>by rw[hh];exact hR r hr) (by rw[hh];exact e) hw fun s' k1 k2 more k3 k4=>by
    have:=hk s' k1 k2 (rec::more) (by rw[im,im,k3]) (fun x hx=>by
     rcases i8.1 hx with rfl|hx
     ·exact hqr
     ·exact k4 x hx)
    rwa [jh,List.singleton_append]
  have md:∀F,MildR R ⟨F,[],s.h.next,s.h.next⟩:=fun F r _=>⟨(fun h=>by cases h),(fun hab=>by
   obtain⟨h1,h2⟩:=hab;simp only at h1 h2;omega)⟩
  simp only[wpDm] at h;obtain⟨hnice,honly,h⟩:=h;simp only[guardTo] at h;cases hw:wantedA s g with
  |none=>rw[hw] at h;exact h.elim
  |some b=>
   rw[hw] at h;simp only[aJ] at h;cases b with
   |false=>exact aj (d:=⟨⟨dst,g,op⟩,rd,fr⟩) (dA hq (fun b hb=>by cases hb) hf) (dg hg hw) (nx _ _ (md _) (h.2 rfl))
   |true=>
    have h1:=h.1 rfl;clear h;split at h1
    ·exact U28
    ·exact U29
theorem dh{dst:Option Nat}{g:Option (Nat×Bool)}{op:AOp}{rd fr:List Nat}(hg:guardIn rd g=true)(hw:wantedA s g=some false)(hf:∀i∈fr,i<done.length)
  (k:DrawTo E rest (done++[⟨[],[],s.h.next,s.h.next⟩]) (s.put dst undefA) K):DrawTo E (⟨⟨dst,g,op⟩,rd,fr⟩::rest) done s K:=
 aj (d:=⟨⟨dst,g,op⟩,rd,fr⟩) (dR hf) (dg hg hw) k
theorem tW{dst:Option Nat}{g:Option (Nat×Bool)}{op:AOp}{rd fr:List Nat}{v:AV}(hc:calmOp rd op=true)(hnf:footed op=false)(hg:guardIn rd g=true)(hw:wantedA s g=some true)(hn:(rd.all fun t=>niceT s.h (s.eval (.t t)))=true)(ho:runOp E noCall s op=some (v,s))(hf:∀i∈fr,i<done.length)
  (k:DrawTo E rest (done++[⟨[],[],s.h.next,s.h.next⟩]) (s.put dst v) K):DrawTo E (⟨⟨dst,g,op⟩,rd,fr⟩::rest) done s K:=by
 have st:=dD (E:=E) (d:=⟨⟨dst,g,op⟩,rd,fr⟩) (near:=nearOf done fr) hc hg hw hn ho;have e:theFoot op (idsL (pickTm s.tm rd).vals)=[]:=by unfold theFoot;rw[hnf];rfl
 rw[e] at st;exact aj (d:=⟨⟨dst,g,op⟩,rd,fr⟩) (dR hf) st k
theorem cz{done more:List DRec}{n:Nat}{F D:List Nat}{lo hi:Nat}(hq:∀x∈done,QuietB n x)(hF:∀y∈F,n≤y)(hD:∀y∈D,n≤y):∀{l:List Nat},(∀i∈l,i<done.length)→freeOk (done++more) ⟨F,D,lo,hi⟩ l=true
 | [],_=>rfl
 |i::r,h=>by
  have hi:=h i il;have hg:(done++more)[i]? =some done[i]:=by rw[Bo hi,jk hi]
  have ha:QuietB n done[i]:=hq _ (C7 hi);have h3:(D.any fun x=>memN (done[i]).F x)=false:=by
   rw[Bl];intro y hy;rw[vg ha.2 (hD y hy)];decide
  simp only[freeOk,hg,recApart,eR ha.1,h3,A5,ip,A7];exact cz hq hF hD fun j hj=>h j (j0 _ hj)
end Go.AM
namespace Go.AM
variable {E:Env}{s:St}{K:St→Prop}{r:List AOper}{dst:Option Nat}
def memS(x:ByteArray):List ByteArray→Bool
 | []=>false
 |y::r=>strEq x y||memS x r
def addS(x:ByteArray)(l:List ByteArray):List ByteArray:=bif memS x l then l else l++[x]
def mapB(l:List ByteArray):Blk:=.map (l.map fun b=>(.string b,vB true))
theorem dJ{a b:ByteArray}(h:strEq a b=true):a=b:=by
 rw[strEq,bp] at h;have:=eq_of_beq h;obtain⟨⟨a⟩⟩:=a;obtain⟨⟨b⟩⟩:=b;have:a=b:=this;rw[this]
theorem bA(a:ByteArray):strEq a a=true:=by rw[strEq,bp];exact beq_self_eq_true _
theorem tL(a b:ByteArray):strEq a b=strEq b a:=by
 cases h:strEq a b with
 |true=>rw[dJ h,bA]
 |false=>cases k:strEq b a with
  |false=>rfl
  |true=>rw[dJ k,bA] at h;cases h
theorem vU:wpOps E (⟨dst,none,.mkMap⟩::r) s K=wpOps E r ((s.toH (s.h.alloc (.map []))).put dst (.mp s.h.next)) K:=by
 rw[bz (o:=some (.mp s.h.next,s.h.alloc (.map [])))]
 ·rfl
 ·rfl
 ·exact fun _ _=>rfl
def lookE(k:Value)(es:List (Value×AV)):Option AV:=match lookA .string k es with
 |some (some v)=>some v
 |some none=>some (vB false)
 |none=>none
def lookB(k:Value):Option Blk→Option AV
 |some (.map es)=>lookE k es
 |_=>none
def lookO(h:AH):Option AV→Option AV→Option AV
 |some (.val (.map none)),some (.val k)=>lookE k []
 |some (.mp b),some (.val k)=>lookB k (h.get b)
 |_,_=>none
theorem lJ{m k:Opd}:wpOps E (⟨dst,none,.lookup .string (vB false) m k false⟩::r) s K=stepV E r s dst K (lookO s.h (s.eval m) (s.eval k)):=by
 rw[ax (o:=lookO s.h (s.eval m) (s.eval k))]
 ·rfl
 ·simp only[runOp];cases s.eval m with
  |none=>rfl
  |some mv=>cases s.eval k with
   |none=>cases mv with
    |val v=>cases v<;>first|rfl|(rename_i x;cases x<;>rfl)
    |_=>rfl
   |some kv=>cases kv with
    |val kv=>
     cases mv with
     |val v=>
      cases v with
      |map x=>
       cases x with
       |none=>simp only[lookO,lookE,lookA,cond_false];rfl
       |some x=>rfl
      |_=>rfl
     |mp b=>
      simp only[lookO,lookB];cases s.h.get b with
      |none=>rfl
      |some x=>cases x with
       |map es=>
        simp only[lookE,cond_false];cases lookA .string kv es with
        |none=>rfl
        |some o=>cases o<;>rfl
       |_=>rfl
     |_=>rfl
    |_=>cases mv with
     |val v=>cases v<;>first|rfl|(rename_i x;cases x<;>rfl)
     |_=>rfl
 ·exact fun _ _=>rfl
theorem eW{h:AH}{b:Nat}{k:Value}:lookO h (some (.mp b)) (some (.val k))=lookB k (h.get b):=rfl
theorem lu{x:ByteArray}:∀l:List ByteArray,lookA .string (.string x) (l.map fun b=>(.string b,vB true))=some (bif memS x l then some (vB true) else none)
 | []=>rfl
 |y::r=>by
  simp only[jd,lookA,keyEq,memS];rw[show eqBytes x.data.toList y.data.toList=strEq x y from rfl];cases strEq x y with
  |true=>rfl
  |false=>exact lu r
theorem gP{x:ByteArray}{l:List ByteArray}:lookB (.string x) (some (mapB l))=some (vB (memS x l)):=by
 simp only[lookB,mapB,lookE,lu];cases memS x l<;>rfl
def updB(h:AH)(b:Nat)(k:Value)(x:AV):Option Blk→Option AH
 |some (.map es)=>(updA .string k x es).map fun es=>h.put b (some (.map es))
 |_=>none
def updO(h:AH):Option AV→Option AV→Option AV→Option AH
 |some (.mp b),some (.val k),some x=>updB h b k x (h.get b)
 |_,_,_=>none
theorem Ii{m k x:Opd}:wpOps E (⟨none,none,.mapUpd .string m k x⟩::r) s K=stepS E r s K (updO s.h (s.eval m) (s.eval k) (s.eval x)):=by
 rw[bz (o:=(updO s.h (s.eval m) (s.eval k) (s.eval x)).map fun h=>(undefA,h))]
 ·cases updO s.h (s.eval m) (s.eval k) (s.eval x)<;>rfl
 ·simp only[runOp];cases s.eval m with
  |none=>rfl
  |some mv=>cases s.eval k with
   |none=>cases mv<;>rfl
   |some kv=>cases s.eval x with
    |none=>cases mv<;>cases kv<;>rfl
    |some xv=>
     cases mv with
     |mp b=>cases kv with
      |val kv=>
       simp only[updO,updB];cases s.h.get b with
       |none=>rfl
       |some y=>cases y with
        |map es=>
         simp only;cases updA .string kv xv es<;>rfl
        |_=>rfl
      |_=>rfl
     |_=>cases kv<;>rfl
 ·exact fun _ _=>rfl
theorem vP{h:AH}{b:Nat}{k:Value}{x:AV}:updO h (some (.mp b)) (some (.val k)) (some x)=updB h b k x (h.get b):=rfl
theorem nH{x:ByteArray}:∀l:List ByteArray,updA .string (.string x) (vB true) (l.map fun b=>(.string b,vB true))=some ((addS x l).map fun b=>(.string b,vB true))
 | []=>rfl
 |y::r=>by
  simp only[jd,updA,keyEq];rw[show eqBytes x.data.toList y.data.toList=strEq x y from rfl];cases h:strEq x y with
  |true=>
   rw[dJ h];simp only[addS,memS,bA,Bool.true_or,cond_true,jd]
  |false=>
   simp only[nH r,jo,addS,memS,h,Bool.false_or];cases memS x r<;>rfl
theorem xy{h:AH}{b:Nat}{x:ByteArray}{l:List ByteArray}:updB h b (.string x) (vB true) (some (mapB l))=some (h.put b (some (mapB (addS x l)))):=by
 simp only[updB,mapB,nH,jo]
end Go.AM
