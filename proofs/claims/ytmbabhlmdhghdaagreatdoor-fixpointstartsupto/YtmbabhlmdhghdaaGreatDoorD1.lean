/- XBits XRep XReach XDrawC XDrawR XDrawA XDrawM XPush XCallv XArgs XRowX XMap XPushL XPushTwo -/
import Derived.Test.YtmbabhlmdhghdaaGreatDoorW1
set_option linter.all false
open Option renaming some->Z, none->Y
open Bool renaming true->J, false->U
open Bool renaming and_eq_true->im, and_self->ja
open List renaming all_eq_true->j3, append_nil->jm, cons_append->jj, drop_zero->A9, map_cons->jk, mem_cons_of_mem->iy, mem_cons_self->ip
open Nat renaming beq->ig, ble->ii, ble_eq->jo, blt->ir, blt_eq->j8, eq_of_beq_eq_true->iu, eq_zero_or_pos->Bf, le_refl->ij, lt_succ_self->je, zero_le->il
namespace Go.AM
variable {E:Env}{s:St}{K:St->Prop}{r:List aW}{dst:Option Nat}
theorem aRG{P:Program}{t:TypeId}{g:Bool}{k:IntKind}{a b:Int}(h:b≠0):dM P .rem t g (.val (.int k a)) (.val (.int k b))=Z (.val (.int k (a.tmod b))):=by
 have:(b==0)=U:=Gr;simp only[dM,fR,this,cond_false,aIA,cond_true]
def convV(k:IntKind):AV->Option AV
 |.val (.int _ n)=>Z (.val (.int k (k.wrap n)))
 |_=>Y
theorem bJQ{k k':IntKind}{n:Int}:convV k (.val (.int k' n))=Z (.val (.int k (k.wrap n))):=rfl
theorem bKG{k:IntKind}{x:Opd}:wpOps E (⟨dst,Y,.conv k x⟩::r) s K=fM E r s dst K ((s.eval x).bind (convV k)):=by
 rw[sN (o:=(s.eval x).bind (convV k))]
 ·rfl
 ·simp only[aL];cases s.eval x with
  |none=>rfl
  |some v=>
   cases v with
   |val v=>cases v<;>rfl
   |_=>rfl
 ·exact U177
theorem bBX{x:Opd}:wpOps E (⟨dst,Y,.cE x⟩::r) s K=fM E r s dst K ((s.eval x).bind (nY E)):=by
 rw[sN (o:=(s.eval x).bind (nY E))]
 ·rfl
 ·rw[Zg];cases s.eval x<;>rfl
 ·exact U177
theorem Rf{b o:Nat}:nY E (.ptr b o)=Z (.ptr b o):=rfl
theorem bKB{x:Opd}:wpOps E (⟨dst,Y,.bP x⟩::r) s K=fM E r s dst K ((s.eval x).bind (strB s.h)):=by
 rw[sN (o:=(s.eval x).bind (strB s.h))]
 ·rfl
 ·rw[aHM];cases s.eval x<;>rfl
 ·exact U177
def aHA(E:Env)(r:List aW)(s:St)(dst:Option Nat)(K:St->Prop):Option AV->Option (List AV)->Prop
 |some (.fn (.func f) a b),Z l=>bo E f r s dst K (Z (a++l++b))
 |some (.yld b),Z l=>fu E (.y b) l s.h λv h=>wpOps E r ((s.toH h).put dst v) K
 |_,_=>False
theorem aZR{f:Nat}{a b l:List AV}:aHA E r s dst K (Z (.fn (.func f) a b)) (Z l)=bo E f r s dst K (Z (a++l++b)):=rfl
theorem bBY{x:Opd}{l:List Opd}:wpOps E (⟨dst,Y,.dR x l⟩::r) s K=aHA E r s dst K (s.eval x) (aT s l):=by
 have hw:wpOps E (⟨dst,Y,.dR x l⟩::r) s K=wpOp E (.dR x l) s λv s'=>wpOps E r ({s' with round:=s.round}.put dst v) K:=by
  simp[wpOps,aw,lB]
 rw[hw];rw[wpOp];cases hx:s.eval x with
 |none=>rfl
 |some v=>
  cases v with
  |yld b=>
   simp only;cases aT s l<;>rfl
  |fn f a b=>
   cases f with
   |func f=>
    simp only;cases aT s l<;>rfl
   |_=>rfl
  |_=>rfl
def ak(h:AH):Prop:=∀b x t n,h.get b≠Z (.tag x t n)
theorem ak.empty:ak .empty:=λb x t n h=>by cases h
theorem ak.alloc{h:AH}{cs:List AV}{rw:Bool}(k:ak h):ak (h.alloc (.cells cs rw)):=λb x t n e=>by
 rw[AH.aS] at e;split at e
 ·cases e
 ·exact k b x t n e
theorem ak.put{h:AH}{cs:List AV}{rw:Bool}{c:Nat}(k:ak h):ak (h.put c (Z (.cells cs rw))):=λb x t n e=>by
 rw[AH.aO] at e;split at e
 ·cases e
 ·exact k b x t n e
theorem ak.drop{h:AH}{c:Nat}(k:ak h):ak (h.put c Y):=λb x t n e=>by
 rw[AH.aO] at e;split at e
 ·cases e
 ·exact k b x t n e
theorem ak.at{h:AH}(k:ak h)(b:Nat):kM h b=Y:=by
 unfold kM;split
 ·rename_i x t n e;exact absurd e (k _ _ _ _)
 ·rfl
def bytesA(l:List UInt8):List AV:=l.flatMap λb=>[.val (.int .u8 (b.toNat:Nat))]
end Go.AM
namespace Go.AM
variable {E:Env}{s:St}{K:St->Prop}{r:List aW}{dst:Option Nat}
def Rep(h:AH)(lo hi:Nat):Nat->AV->AV->Prop
 |0,v,t=>aj v/\t=v
 |n+1,v,t=>(aj v/\t=v)\/
   (∃b k es cap rw,∃ps:List (AV×AV),v=.own b 0 k es cap/\lo<=b/\b<hi/\h.get b=Z (.cells (ps.map (·.1)) rw)/\ps.length=k*es/\t=.imm (ps.map (·.2)) k cap/\∀p∈ps,Rep h lo hi n p.1 p.2)\/
   (∃ps:List (AV×AV),v=.agg (ps.map (·.1))/\t=.agg (ps.map (·.2))/\∀p∈ps,Rep h lo hi n p.1 p.2)\/
   (∃ps:List (AV×AV),v=.tup (ps.map (·.1))/\t=.tup (ps.map (·.2))/\∀p∈ps,Rep h lo hi n p.1 p.2)
theorem Rep.leaf{h:AH}{lo hi n:Nat}{v:AV}(k:aj v):Rep h lo hi n v v:=by
 cases n with
 |zero=>exact⟨k,rfl⟩
 |succ n=>exact .inl ⟨k,rfl⟩
theorem Rep.own{h:AH}{lo hi n b k es:Nat}{cap:Option Nat}{rw:Bool}{ps:List (AV×AV)}(h1:lo<=b)(h2:b<hi)(hg:h.get b=Z (.cells (ps.map (·.1)) rw))(hl:ps.length=k*es)(hp:∀p∈ps,Rep h lo hi n p.1 p.2):
  Rep h lo hi (n+1) (.own b 0 k es cap) (.imm (ps.map (·.2)) k cap):=
 .inr (.inl ⟨b,k,es,cap,rw,ps,rfl,h1,h2,hg,hl,rfl,hp⟩)
theorem Rep.agg{h:AH}{lo hi n:Nat}{ps:List (AV×AV)}(hp:∀p∈ps,Rep h lo hi n p.1 p.2):Rep h lo hi (n+1) (.agg (ps.map (·.1))) (.agg (ps.map (·.2))):=
 .inr (.inr (.inl ⟨ps,rfl,rfl,hp⟩))
theorem Rep.tup{h:AH}{lo hi n:Nat}{ps:List (AV×AV)}(hp:∀p∈ps,Rep h lo hi n p.1 p.2):Rep h lo hi (n+1) (.tup (ps.map (·.1))) (.tup (ps.map (·.2))):=
 .inr (.inr (.inr ⟨ps,rfl,rfl,hp⟩))
theorem Rep.to{h h':AH}{lo hi lo' hi':Nat}(hl:lo'<=lo)(hh:hi<=hi')(hg:∀b,lo<=b->b<hi->∀cs rw,h.get b=Z (.cells cs rw)->∃rw',h'.get b=Z (.cells cs rw')):
  ∀{n m:Nat} {v t:AV},n<=m->Rep h lo hi n v t->Rep h' lo' hi' m v t
 |0,m,v,t,_,k=>by
  obtain⟨k,rfl⟩:=k;exact Rep.leaf k
 |n+1,0,v,t,hm,k=>om
 |n+1,m+1,v,t,hm,k=>by
  rcases k with⟨k,rfl⟩|⟨b,k,es,cap,rw,ps,rfl,h1,h2,g,hk,rfl,hp⟩|⟨ps,rfl,rfl,hp⟩|⟨ps,rfl,rfl,hp⟩
  ·exact Rep.leaf k
  ·obtain⟨rw',g'⟩:=hg b h1 h2 _ _ g;exact Rep.own om om g' hk λp hm'=>Rep.to hl hh hg om (hp p hm')
  ·exact Rep.agg λp hm'=>Rep.to hl hh hg om (hp p hm')
  ·exact Rep.tup λp hm'=>Rep.to hl hh hg om (hp p hm')
theorem Fz.cells{h h':AH}(z:Fz h h'){b:Nat}{cs:List AV}{rw:Bool}(g:h.get b=Z (.cells cs rw)):∃rw',h'.get b=Z (.cells cs rw'):=by
 rcases z.2 b with e|⟨cs',rw',e1,e2⟩<;>grind
theorem Fz.still{h h':AH}(z:Fz h h'){b:Nat}{cs:List AV}(g:h.get b=Z (.cells cs U)):h'.get b=Z (.cells cs U):=by
 rcases z.2 b with e|⟨cs',rw',e1,e2⟩<;>grind
theorem Rep.fz{h h':AH}{lo hi n:Nat}{v t:AV}(z:Fz h h')(k:Rep h lo hi n v t):Rep h' lo hi n v t:=
 Rep.to (ij _) (ij _) (λb _ _ cs rw g=>z.cells g) (ij _) k
theorem yr{lo hi n m:Nat}{h2:AH}(ih:∀(v t:AV) (g:AH),Rep g lo hi n v t->Fz (freeze m v g) h2->ar h2 m v=Z t):∀(ps:List (AV×AV)) (g:AH),(∀p∈ps,Rep g lo hi n p.1 p.2)->Fz ((ps.map (·.1)).foldl (λh c=>freeze m c h) g) h2->(ps.map (·.1)).mapM (ar h2 m)=Z (ps.map (·.2))
 | [],g,_,_=>rfl
 |p::ps,g,hp,z=>by
  simp at z;have z1:Fz (freeze m p.1 g) h2:=(Fz.foldl (λh c=>sV m c h) (ps.map (·.1)) (freeze m p.1 g)).trans z;have a:=ih p.1 p.2 g (hp p ip) z1;have b:=yr ih ps (freeze m p.1 g) (λq hq=>(hp q (iy _ hq)).fz (sV m p.1 g)) z
  grind
theorem wn{lo hi:Nat}:∀(n m:Nat),n<m->∀(v t:AV) (g h2:AH),Rep g lo hi n v t->Fz (freeze m v g) h2->ar h2 m v=Z t
 |0,m,hm,v,t,g,h2,k,z=>by
  obtain⟨k,rfl⟩:=k;obtain⟨j,rfl⟩:∃j,m=j+1:=⟨m-1,om⟩;exact k.1 h2 j
 |n+1,m,hm,v,t,g,h2,k,z=>by
  obtain⟨j,rfl⟩:∃j,m=j+1:=⟨m-1,om⟩;have ih:=λv t g=>wn (lo:=lo) (hi:=hi) n j om v t g h2;rcases k with⟨k,rfl⟩|⟨b,k,es,cap,rw,ps,rfl,h1,h2',g1,hk,rfl,hp⟩|⟨ps,rfl,rfl,hp⟩|⟨ps,rfl,rfl,hp⟩
  ·exact k.1 h2 j
  ·have hlen:(ps.map (·.1)).length=k*es:=by grind
   have e1:freeze (j+1) (.own b 0 k es cap) g=(ps.map (·.1)).foldl (λh c=>freeze j c h) (g.put b (Z (.cells (ps.map (·.1)) U))):=by
    grind [freeze]
   rw[e1] at z;have z0:Fz g (g.put b (Z (.cells (ps.map (·.1)) U))):=⟨rfl,λx=>by
    rw[AH.aO]
    grind⟩
   have hb:(g.put b (Z (.cells (ps.map (·.1)) U))).get b=Z (.cells (ps.map (·.1)) U):=by rw[AH.aO,if_pos rfl]
   have hb2:h2.get b=Z (.cells (ps.map (·.1)) U):=((Fz.foldl (λh c=>sV j c h) (ps.map (·.1)) _).trans z).still hb;have hm2:=yr (m:=j) (h2:=h2) (n:=n) ih ps _ (λp hp'=>(hp p hp').fz z0) z;rw[ar.eq_def];have hle:ii (0+k*es) (ps.map (·.1)).length=J:=Sa
   grind
  ·have hm2:=yr (m:=j) (h2:=h2) (n:=n) ih ps g hp z
   grind [ar.eq_def]
  ·have hm2:=yr (m:=j) (h2:=h2) (n:=n) ih ps g hp z
   grind [ar.eq_def]
theorem Lb{g:Nat}{l:List AV}{v t:AV}{hc:AH}{lo hi n:Nat}(hs:E.shared.get g=Y)(hk:E.known g l=Y)(hl:∀v∈l,Tree v)
  (a:Ev λn=>bh E (exec E n) g l .empty=Z (v,hc)) (hr:Rep hc lo hi n v t) (hn:n<aU) (h:AH):aE E (.f g) l h t h:=by
 refine a.mono λn' p=>?_
 have hz:=U180;have ht:=wn n aU hn v t hc _ hr (Fz.refl _)
 simp_all [bY,fD,s9]
end Go.AM
namespace Go.AM
variable {E:Env}{s:St}{K:St->Prop}
theorem aj.ids{v:AV}(k:aj v):ids v=[]:=by
 have k:=k.1 .empty 0;cases v with
 |val x=>rfl
 |imm _ _ _=>rfl
 |bD _=>rfl
 |agg cs=>
  cases cs with
  |nil=>rfl
  |cons c r=>
   grind [ar.eq_def]
 |tup cs=>
  cases cs with
  |nil=>rfl
  |cons c r=>
   grind [ar.eq_def]
 |own b off n es cap=>
  grind [ar.eq_def,AH.get,AH.empty,Tr.get]
 |ptr b off=>grind [ar.eq_def]
 |mp b=>grind [ar.eq_def]
 |it b=>grind [ar.eq_def]
 |yld b=>grind [ar.eq_def]
 |ifc t v=>
  grind [ar.eq_def]
 |fn f a b=>
  rw[ar.eq_def] at k;cases a with
  |cons c r=>
   grind [ar.eq_def]
  |nil=>
   cases b with
   |nil=>rfl
   |cons c r=>
    grind [ar.eq_def]
mutual
def cost:AV->Nat
 |.imm cs _ _=>costL cs+1
 |.agg cs=>costL cs
 |.tup cs=>costL cs
 |_=>0
def costL:List AV->Nat
 | []=>0
 |c::r=>cost c+costL r
end
inductive Sees (h:AH) (lo hi:Nat):Nat->Nat->Prop
 |mk {b c:Nat} {cs:List AV} {rw:Bool} (l:List (Nat×Nat)) (h1:lo<=b) (h2:b<hi) (g:h.get b=Z (.cells cs rw)) (hd:aQ cs=l.map (·.1)) (hk:∀p∈l,Sees h lo hi p.1 p.2) (hc:(l.map (·.2)).sum+1<=c):Sees h lo hi b c
theorem aSS{h:AH}{lo hi:Nat}:∀(n:Nat) (v t:AV),Rep h lo hi n v t->∃l:List (Nat×Nat),ids v=l.map (·.1)/\(∀p∈l,Sees h lo hi p.1 p.2)/\(l.map (·.2)).sum<=cost t:=by
 intro n
 induction n with
 |zero=>
  rintro v t ⟨k,rfl⟩;exact⟨[],by rw[k.ids];rfl,λp hp=>(by cases hp),il _⟩
 |succ n ih=>
  have ihL:∀ps:List (AV×AV),(∀p∈ps,Rep h lo hi n p.1 p.2)->∃l:List (Nat×Nat),aQ (ps.map (·.1))=l.map (·.1)/\(∀p∈l,Sees h lo hi p.1 p.2)/\(l.map (·.2)).sum<=costL (ps.map (·.2)):=by
   intro ps
   induction ps with
   |nil=>intro _;exact⟨[],rfl,λp hp=>(by cases hp),il _⟩
   |cons p ps ihp=>
    intro hp;obtain⟨l1,a1,a2,a3⟩:=ih p.1 p.2 (hp p ip);obtain⟨l2,b1,b2,b3⟩:=ihp λq hq=>hp q (iy _ hq);refine⟨l1++l2,?_,?_,?_⟩<;>grind [aQ,costL]
  rintro v t (⟨k,rfl⟩|⟨b,k,es,cap,rw,ps,rfl,h1,h2,g,hk,rfl,hp⟩|⟨ps,rfl,rfl,hp⟩|⟨ps,rfl,rfl,hp⟩)
  ·exact⟨[],by rw[k.ids];rfl,λp hp=>(by cases hp),il _⟩
  ·obtain⟨l,a1,a2,a3⟩:=ihL ps hp;refine⟨[(b,(l.map (·.2)).sum+1)],rfl,?_,?_⟩
   ·intro p hp;rw[List.mem_singleton.1 hp];exact .mk l h1 h2 g a1 a2 (ij _)
   grind [cost]
  ·simp_all [ids,cost]
  simp_all [ids,cost]
theorem Kr{h':AH}:∀(l:List Nat) (t:Tr Blk) (b:Nat),(eD h' l t).get b=if b∈l then h'.get b else t.get b
 | [],t,b=>by rfl
 |a::r,t,b=>by
  rw[eD,Tr.aO]
  by_cases e:b=a
  ·grind
  ·rw[if_neg e,Kr r t b]
   grind
theorem bKV{h:AH}(k:ak h)(l:List Nat):kU h l=l:=by
 unfold kU;refine List.append_right_eq_self.2 (List.filterMap_eq_nil_iff.2 λb _=>?_);split
 ·rename_i b' t n e;exact absurd e (k _ _ _ _)
 ·rfl
end Go.AM
namespace Go.AM
variable {E:Env}{s:St}{K:St->Prop}
theorem uN{d:DOp}{r:List DOp}{done:List ck}{v:AV}{rec:ck}{h:AH}(hf:fk done rec d.free=J)
  (hs:Ev λn=>bC E (bY E (exec E n)) d (dv done d.free) s=Z (v,rec,h)) (k:b6 E r (done++[rec]) ((s.toH h).put d.o.dst v) K):b6 E (d::r) done s K:=by
 obtain⟨s',x,y⟩:=k;refine⟨s',(hs.and x).mono λn ⟨a,b⟩=>?_,y⟩;exact U100
end Go.AM
namespace Go.AM
variable {E:Env}{s:St}{K:St->Prop}
theorem pf{A B:Prop}:dY s Y A B=A:=by
 simp[dY,aw,lB]
def gIf(o:Option Bool)(A B:Prop):Prop:=match o with
 |some J=>A
 |some U=>B
 |none=>False
theorem aUS{A B:Prop}:gIf (Z J) A B=A:=rfl
theorem aUT{A B:Prop}:gIf (Z U) A B=B:=rfl
theorem Jp{t:Nat}{b:Bool}{A B:Prop}:dY s (Z (t,b)) A B=gIf (bO (s.eval (.t t)) b) A B:=by
 have e:aw s (Z (t,b))=bO (s.eval (.t t)) b:=by
  rfl
 rw[dY,e];cases bO (s.eval (.t t)) b with
 |none=>rfl
 |some g=>
  cases g<;>simp[lB,gIf]
theorem te{h:AH}{v:Value}:bp h (Z (.val v))=J:=rfl
theorem tC{h:AH}{l:List AV}:bp h (Z (.bD l))=J:=rfl
theorem Nv{v:Value}:dG (Z (.val v))=J:=rfl
theorem aNN{l:List AV}{n:Nat}{c:Option Nat}:dG (Z (.imm l n c))=J:=rfl
theorem aDR{l:List AV}:dG (Z (.bD l))=J:=rfl
theorem Yq:dG (Z bJ)=J:=rfl
end Go.AM
namespace Go.AM
variable {E:Env}{s:St}{K:St->Prop}
theorem zM{done:List ck}{lo hi:Nat}:∀{l:List Nat},(∀i∈l,i<done.length)->fk done ⟨[],[],lo,hi⟩ l=J
 | [],_=>rfl
 |i::r,h=>by
  have hi:=h i ip;simp[fk,List.getElem?_eq_getElem hi,eS,eT];exact zM λj hj=>h j (iy _ hj)
end Go.AM
namespace Go.AM
variable {E:Env}{s:St}{K:St->Prop}{rest:List DOp}{done:List ck}
theorem Ja{h F:AH}{D:List Nat}(hn:h.next<=F.next)(b:Nat):(dw h D F).get b=if h.next<=b/\b<F.next then F.get b else if b∈D then F.get b else h.get b:=by
 show(cx F h.next (F.next-h.next) (eD F D h.tr)).get b=_;rw[vJ,show h.next+(F.next-h.next)=F.next by omega,Kr]
 rfl
theorem xU{l:List Nat}{i:Nat}{v:AV}(hi:i∈l)(he:s.eval (.t i)=Z v):(aK s.tm l).get i=Z v:=by rw[sD,if_pos hi];exact he
theorem ye{l:List Nat}{x:Nat}(hx:x∈aQ (aK s.tm l).ag):∃j∈l,∃v,s.eval (.t j)=Z v/\x∈ids v:=by
 obtain⟨w,hw,hxw⟩:=Th hx;obtain⟨j,hj⟩:=vf hw;rw[sD] at hj;split at hj
 ·rename_i hm;exact⟨j,hm,w,hj,hxw⟩
 grind
def mD(R:List Nat)(x:ck):Prop:=∀r∈R,r∉x.D/\¬(x.lo<=r/\r<x.hi)
theorem aCS{R F:List Nat}{x:ck}(hm:mD R x)(hF:∀b∈F,b∈R):eT x F=U:=by
 rw[eT,List.any_eq_false];intro b hb;obtain⟨h1,h2⟩:=hm b (hF b hb);have m1:b9 x.D b=U:=by
  grind [sM]
 simp_all
theorem xY{R F:List Nat}{lo hi:Nat}(hq:∀x∈done,mD R x)(hF:∀b∈F,b∈R):∀{l:List Nat},(∀i∈l,i<done.length)->fk done ⟨F,[],lo,hi⟩ l=J
 | [],_=>rfl
 |i::r,h=>by
  have hi:=h i ip;have t1:=aCS (hq _ (List.getElem_mem hi)) hF;have t2:eT done[i] []=U:=rfl;simp[fk,eS, *];exact xY hq hF λj hj=>h j (iy _ hj)
def eZ(R:List Nat):Option AV->Bool
 |some v=>(ids v).all (b9 R)
 |none=>J
def eU(E:Env)(R:List Nat):List DOp->St->(St->Prop)->Prop
 | [],s,K=>K s
 |⟨⟨dst,g,op⟩,rd,_⟩::r,s,K=>(rd.all λt=>bp s.h (s.eval (.t t)))=J/\(!dF op||rd.all λt=>eZ R (s.eval (.t t)))=J/\dY s g
   (match op with
   |.call f l=>(rd.all λt=>dG (s.eval (.t t)))=J/\bB (aT s l) λl=>∃v,(∀h,aE E (.f f) l h v h)/\eU E R r (s.put dst v) K
   |op=>wpOps E [⟨dst,Y,op⟩] s λs'=>eU E R r s' K)
   (eU E R r (s.put dst bJ) K)
theorem Ss{R:List Nat}{post:List DOp}{K1:St->Prop}:∀(pre:List DOp) (done:List ck) (s:St) (h0:AH) (n0:Nat),ff done.length pre=J->(∀x∈done,mD R x)->(∀r∈R,r<s.h.next)->s.h=h0->done.length+pre.length=n0->
  eU E R pre s K1->(∀s',K1 s'->s'.h=h0->∀done':List ck,done'.length=n0->(∀x∈done',mD R x)->b6 E post done' s' K)->b6 E (pre++post) done s K
 | [],done,s,h0,n0,_,hq,_,e,en,h,hk=>hk s h e done Gr hq
 |⟨⟨dst,g,op⟩,rd,fr⟩::r,done,s,h0,n0,hc,hq,hR,e,en,h,hk=>by
  simp only[ff,im] at hc;obtain⟨⟨hfr,hcd⟩,hcr⟩:=hc;simp[calmD] at hcd;obtain⟨hg,hop⟩:=hcd;have hf:=U182;have hh:∀(dst:Option Nat) (v:AV),(s.put dst v).h=s.h:=λdst v=>by cases dst<;>rfl
  have nx:∀(rec:ck) (v:AV),mD R rec->eU E R r (s.put dst v) K1->b6 E (r++post) (done++[rec]) (s.put dst v) K:=λrec v hqr hw=>
   Ss r (done++[rec]) (s.put dst v) h0 n0 Gr (λx hx=>by
    grind) (λr hr=>by grind) Gr (by
    grind) hw hk
  have md:∀F,mD R ⟨F,[],s.h.next,s.h.next⟩:=λF r _=>⟨(λh=>by cases h),(λhab=>by
   grind)⟩
  simp only[eU] at h;obtain⟨hnice,honly,h⟩:=h;rw[dY] at h;cases hw:aw s g with
  |none=>rw[hw] at h;exact h.elim
  |some b=>
   rw[hw] at h;rw[lB] at h;cases b with
   |false=>exact uN (d:=⟨⟨dst,g,op⟩,rd,fr⟩) (xY hq (λb hb=>by cases hb) hf) (Bs hg hw) (nx _ _ (md _) (h.2 rfl))
   |true=>
    have h1:=h.1 rfl;clear h;split at h1
    ·rename_i f xs;obtain⟨hp,h1⟩:=h1;cases he:aT s xs with
     |none=>rw[he] at h1;exact h1.elim
     |some l=>
      rw[he] at h1;obtain⟨v,hr,hk1⟩:=h1;exact uN (d:=⟨⟨dst,g,.call f xs⟩,rd,fr⟩) (xY hq (λb hb=>by cases hb) hf) (Qr rfl hop hg hw hp he hr) (nx _ _ (md _) hk1)
    ·rename_i hne;have hop':bU rd op=J:=by
      grind
     have hwo:wpOp E op s=λK=>bB (aL E cQ s op) λ(v,s')=>K v s':=by
      funext K
      cases op<;>first|rfl|grind [bU]
     simp only[wpOps,aw,lB,forall_const,hwo] at h1;have h1:=h1.1;cases hr:aL E cQ s op with
     |none=>rw[hr] at h1;exact h1.elim
     |some vs=>
      obtain⟨v,s1⟩:=vs;rw[hr] at h1;have hs:=(xL hop' hr).1;subst hs;refine uN (d:=⟨⟨dst,g,op⟩,rd,fr⟩) (xY hq (λb hb=>?_) hf) (Cx (d:=⟨⟨dst,g,op⟩,rd,fr⟩) hop' hg hw hnice hr) (nx _ _ (md _) h1);unfold bf at hb;cases hft:dF op with
      |false=>
       grind
      |true=>
       rw[hft] at hb honly;simp only[Bool.not_true,Bool.false_or] at honly;obtain⟨j,hj,v,hv,hbv⟩:=ye (s:=s1) hb;have:=j3.1 honly j hj;rw[hv] at this;exact sM (j3.1 this b hbv)
theorem w7{R:List Nat}{post:List DOp}(pre:List DOp)(done:List ck)(s:St)(hc:ff done.length pre=J)(hq:∀x∈done,mD R x)(hR:∀r∈R,r<s.h.next)
  (h:eU E R pre s (λs'=>s'.h=s.h->∀done':List ck,done'.length=done.length+pre.length->(∀x∈done',mD R x)->b6 E post done' s' K)):b6 E (pre++post) done s K:=
 Ss pre done s s.h _ hc hq hR rfl rfl h λs' k e=>k e
theorem Ob{R:List Nat}{ops:List DOp}{s:St}(hc:ff done.length ops=J)(hq:∀x∈done,mD R x)(hR:∀r∈R,r<s.h.next)(h:eU E R ops s K):b6 E ops done s K:=by
 have:=Ss (E:=E) (R:=R) (post:=[]) (K:=K) ops done s s.h _ hc hq hR rfl rfl h (λs' k _ done' _ _=>xH k)
 grind
theorem wY{R:List Nat}{suf:List DOp}:∀(pre:List DOp) (s:St),eU E R (pre++suf) s K->eU E R pre s (λs1=>eU E R suf s1 K)
 | [],s,h=>h
 |⟨⟨dst,g,op⟩,rd,fr⟩::r,s,h=>by
  simp only[jj,eU] at h⊢
  refine⟨h.1,h.2.1,zJ h.2.2 (λh1=>?_) (λh1=>wY r _ h1)⟩;split at h1
  ·rename_i f l;refine⟨h1.1,?_⟩;have h2:=h1.2;cases he:aT s l with
   |none=>rw[he] at h2;exact h2.elim
   |some l'=>
    rw[he] at h2;simp[lB] at h2⊢
    obtain⟨v,hr,hk⟩:=h2;exact⟨v,hr,wY r _ hk⟩
  ·exact uI (λs1 q=>wY r _ q) _ _ h1
theorem aUD{R:List Nat}{d:DOp}(h:eU E R [d] s K):wpOps E [d.o] s K:=by
 refine aIG ?_
 obtain⟨⟨dst,g,op⟩,rd,fr⟩:=d;simp only[eU,iC] at h⊢
 grind
theorem Od{R:List Nat}{K:St->Prop}:∀(suf:List DOp) (s:St),eU E R suf s K->wpOps E (suf.map (·.o)) s K
 | [],s,h=>h
 |d::r,s,h=>by
  have h1:eU E R [d] s (λs1=>eU E R r s1 K):=wY (suf:=r) [d] s h;have h2:=uI (λs1 q=>Od r s1 q) _ _ (aUD h1);exact h2
theorem tY{R:List Nat}{ops:List DOp}{Q:Ex->St->Prop}(hc:ff 0 ops=J)(hR:∀r∈R,r<s.h.next)(h:eU E R ops s (Q .normal)):Run E (.draw ops) s Q:=by
 cases hl:cJ ops with
 |none=>grind [Xv,Ob]
 |some pd=>
  obtain⟨pre,suf⟩:=pd;obtain⟨e,_⟩:=vK hl;subst e;obtain⟨s',x,y⟩:=Ob (E:=E) (R:=R) (ops:=pre) (s:=s) (done:=[]) (yT pre 0 hc) (λx hx=>by cases hx) hR (wY pre s h)
  exact Bt hl ⟨s',x,Od suf s' y⟩
def tagH(h:AH)(e:TypeId)(cs:List AV):AH:=(h.alloc (.cells cs J)).alloc (.tag h.next e Y)
theorem aMS{h:AH}{e:TypeId}{cs:List AV}:(tagH h e cs).next=h.next+2:=rfl
theorem aRV{h:AH}{e:TypeId}{cs:List AV}:(tagH h e cs).get h.next=Z (.cells cs J):=by
 simp[tagH,AH.aS]
theorem aRU{h:AH}{e:TypeId}{cs:List AV}:(tagH h e cs).get (h.next+1)=Z (.tag h.next e Y):=by
 simp[tagH,AH.aS]
structure RowT (h:AH) (b:Nat) (bs:List UInt8):Prop where
 cb:h.get b=Z (.cells (bytesA bs) J)
 tg:h.get (b+1)=Z (.tag b 5 Y)
 lt:b+1<h.next
theorem RowT.new{h:AH}{bs:List UInt8}:RowT (tagH h 5 (bytesA bs)) h.next bs:=⟨aRV,aRU,by grind [aMS]⟩
theorem RowT.to{h h':AH}{b:Nat}{bs:List UInt8}(k:RowT h b bs)(hn:h.next<=h'.next)(g1:h'.get b=h.get b)(g2:h'.get (b+1)=h.get (b+1)):RowT h' b bs:=⟨by rw[g1,k.cb],by rw[g2,k.tg],by have:=k.lt;omega⟩
theorem RowT.tag{h:AH}{b:Nat}{bs:List UInt8}(k:RowT h b bs):kM h b=Z (5,Y):=by
 simp[kM,k.tg]
end Go.AM
namespace Go.AM
variable {E:Env}{s:St}{K:St->Prop}{rest:List DOp}{done:List ck}
theorem bc{h:AH}{x:Option Blk}{y c:Nat}(hy:y≠c):(h.put c x).get y=h.get y:=by simp_all [AH.aO]
theorem am{h:AH}{x:Blk}{y:Nat}(hy:y<h.next):(h.alloc x).get y=h.get y:=by rw[AH.aS,if_neg om]
theorem co{h:AH}{x:Blk}:(h.alloc x).get h.next=Z x:=by rw[AH.aS,if_pos rfl]
theorem lA{h:AH}{b:Nat}{k:Blk}:(h.put b (Z k)).get b=Z k:=by rw[AH.aO,if_pos rfl]
def aV(h:AH)(lo k es:Nat)(v:AV)(cs:List AV):Prop:=
 (∀c∈cs,aj c)/\cs.length=k*es/\((k=0/\v=.val (.slice Y 0 0))\/∃b,lo<=b/\b<h.next/\0<k/\v=.own b 0 k es Y/\h.get b=Z (.cells cs J))
theorem aV.nil{h:AH}{lo es:Nat}:aV h lo 0 es (.val (.slice Y 0 0)) []:=⟨λc hc=>(by cases hc),Sp,.inl ⟨rfl,rfl⟩⟩
theorem aV.to{h h':AH}{lo k es:Nat}{v:AV}{cs:List AV}(r:aV h lo k es v cs)(hn:h.next<=h'.next)(g:∀x,lo<=x->x<h.next->h'.get x=h.get x):aV h' lo k es v cs:=U2
theorem aV.toB{h h':AH}{lo k es:Nat}{v:AV}{cs:List AV}(r:aV h lo k es v cs)(hn:h.next<=h'.next)(g:∀x∈ids v,h'.get x=h.get x):aV h' lo k es v cs:=by
 obtain⟨h1,h2,r⟩:=r;refine⟨h1,h2,?_⟩;rcases r with r|⟨b,b1,b2,b3,rfl,b5⟩
 ·grind
 ·exact .inr ⟨b,b1,om,b3,rfl,by grind [ids]⟩
theorem aV.low{h:AH}{lo lo' k es:Nat}{v:AV}{cs:List AV}(r:aV h lo k es v cs)(hl:lo'<=lo):aV h lo' k es v cs:=U2
theorem aV.cells{h:AH}{lo k es:Nat}{v:AV}{cs:List AV}(r:aV h lo k es v cs):v.cells=Z [v]:=by
 obtain⟨_,_,⟨_,rfl⟩|⟨b,_,_,_,rfl,_⟩⟩:=r<;>rfl
theorem rX{cs:List AV}(h:∀c∈cs,aj c):aQ cs=[]:=by
 induction cs with
 |nil=>rfl
 |cons a l ih=>
  simp only[aQ,(h a ip).ids,ih λc hc=>h c (iy _ hc),jm]
theorem aV.ids{h:AH}{lo k es:Nat}{v:AV}{cs:List AV}(r:aV h lo k es v cs):∀x∈ids v,lo<=x/\x<h.next/\h.get x=Z (.cells cs J):=by
 intro x hx;obtain⟨_,_,⟨_,rfl⟩|⟨b,b1,b2,_,rfl,b5⟩⟩:=r<;>grind [AM.ids]
theorem aV.below{h:AH}{lo k es:Nat}{v:AV}{cs:List AV}(r:aV h lo k es v cs):AM.below h.next (AM.ids v)=J:=j3.2 λx hx=>j8.mpr (r.ids x hx).2.1
theorem aV.nice{h:AH}{lo k es:Nat}{v:AV}{cs:List AV}(r:aV h lo k es v cs):bp h (Z v)=J:=by
 rw[bp,lN];refine j3.2 λx hx=>?_
 obtain⟨_,h1,h2⟩:=r.ids x hx;have:ir x h.next=J:=Sa;simp only[rX r.1, *];rfl
theorem aV.len{h:AH}{lo k es:Nat}{v:AV}{cs:List AV}(r:aV h lo k es v cs):oL v=Z (vI (k:Nat)):=by
 obtain⟨_,_,⟨rfl,rfl⟩|⟨b,_,_,_,rfl,_⟩⟩:=r<;>rfl
theorem Wb:∀cs:List AV,(cs.map λc=>(c,c)).map (·.1)=cs
 | []=>rfl
 |c::r=>by rw[jk,jk,Wb r]
theorem Wa:∀cs:List AV,(cs.map λc=>(c,c)).map (·.2)=cs
 | []=>rfl
 |c::r=>by rw[jk,jk,Wa r]
theorem wC{h:AH}{y:Nat}:∀{l:List Nat},y∉l->(aJ h l).get y=Y
 | [],_=>rfl
 |b::l,q=>by
  simp at q;simp[aJ,gL,AH.get,Tr.aO];rw[if_neg q.1];exact wC q.2
theorem aV.rep{h:AH}{lo k es:Nat}{v:AV}{cs:List AV}(r:aV h lo k es v cs):Rep h lo h.next 1 v (bif ig k 0 then .val (.slice Y 0 0) else .imm cs k Y):=by
 obtain⟨h1,h2,⟨rfl,rfl⟩|⟨b,b1,b2,b3,rfl,b5⟩⟩:=r
 ·exact U183
 ·have e:ig k 0=U:=by
   grind [iu]
  rw[e];have:=Rep.own (h:=h) (lo:=lo) (hi:=h.next) (n:=0) (b:=b) (k:=k) (es:=es) (cap:=Y) (rw:=J) (ps:=cs.map λc=>(c,c)) b1 b2 (by grind [Wb]) Gr (λp hp=>by
   obtain⟨c,hc,rfl⟩:=List.mem_map.1 hp
   grind [Rep.leaf])
  grind [Wa]
def gj(h:AH)(v:AV)(new:List AV):AH:=match v with
 |.own b _ _ _ Y=>match h.get b with
  |some (.cells cs _)=>(h.put b Y).alloc (.cells (cs++new) J)
  |_=>h
 |_=>h.alloc (.cells new J)
theorem xc{es bytes a d k m lo:Nat}{v x:AV}{cs new:List AV}(r:aV s.h lo k es v cs)(he:au s.h es x=Z (new,m))(hm:0<m)(hok:cW (k+m) bytes=J)(ha:s.eval (.t a)=Z v)(hx:s.eval (.t d)=Z x):
  bN s es bytes (.t a) (.t d)=Z (.own s.h.next 0 (k+m) es Y,s.toH (gj s.h v new)):=by
 have hb:ig m 0=U:=by
  grind [iu]
 have bes:=U184;obtain⟨h1,h2,⟨rfl,rfl⟩|⟨b,b1,b2,b3,rfl,b5⟩⟩:=r
 ·simp at hok;simp only[bN,cond_false,cond_true,gj,Nat.zero_add, *];rfl
 ·have c2:ii (0+k*es) cs.length=J:=by simp_all
  have c3:ig (0+k*es) cs.length=J:=Sa;have c4:ir (0+k*es) cs.length=U:=aZY om;simp only[bN,ha,hx,he,hb,cond_false,b5,bes,c2,c4,hok,ja,Bool.false_and,cond_true,c3,gj,A9];rfl
theorem aCD{es bytes a d k lo:Nat}{v x:AV}{cs new:List AV}(r:aV s.h lo k es v cs)(he:au s.h es x=Z (new,0))(ha:s.eval (.t a)=Z v)(hx:s.eval (.t d)=Z x):
  bN s es bytes (.t a) (.t d)=Z (v,s):=by
 have hb:=U159;obtain⟨h1,h2,⟨rfl,rfl⟩|⟨b,b1,b2,b3,rfl,b5⟩⟩:=r<;>simp_all [bN]
theorem Gi{h:AH}{lo k m es:Nat}{v:AV}{cs new:List AV}(r:aV h lo k es v cs)(hlo:lo<=h.next)(hn:∀c∈new,aj c)(hl:new.length=m*es)(hm:0<m):
  (gj h v new).next=h.next+1/\aV (gj h v new) lo (k+m) es (.own h.next 0 (k+m) es Y) (cs++new)/\(∀x,x<h.next->x∉AM.ids v->(gj h v new).get x=h.get x)/\(gj h v new).get h.next=Z (.cells (cs++new) J):=by
 obtain⟨h1,h2,r⟩:=r;have hl':(cs++new).length=(k+m)*es:=Gr;have hlf:∀c∈cs++new,aj c:=Gr;rcases r with⟨rfl,rfl⟩|⟨b,b1,b2,b3,rfl,b5⟩
 ·have e:cs=[]:=by grind
  subst e;refine⟨rfl,⟨hlf,hl',.inr ⟨h.next,hlo,je _,om,rfl,?_⟩⟩,λx hx _=>?_,?_⟩<;>grind [gj,co,am]
 ·have hp:gj h (.own b 0 k es Y) new=(h.put b Y).alloc (.cells (cs++new) J):=by grind [gj]
  have hpn:(h.put b Y).next=h.next:=rfl;rw[hp];have hg:((h.put b Y).alloc (.cells (cs++new) J)).get h.next=Z (.cells (cs++new) J):=by
   grind [co]
  refine⟨rfl,⟨hlf,hl',.inr ⟨h.next,hlo,je _,om,rfl,hg⟩⟩,λx hx hv=>?_,hg⟩
  grind [am,bc,AM.ids]
theorem Wl{es bytes a d k m lo:Nat}{v x:AV}{cs new:List AV}(r:aV s.h lo k es v cs)(hlo:lo<=s.h.next)(he:au s.h es x=Z (new,m))(hl:new.length=m*es)(hn:∀c∈new,aj c)(hok:cW (k+m) bytes=J)(ha:s.eval (.t a)=Z v)(hx:s.eval (.t d)=Z x):
  ∃v' h',bN s es bytes (.t a) (.t d)=Z (v',s.toH h')/\aV h' lo (k+m) es v' (cs++new)/\s.h.next<=h'.next/\(∀y,y<s.h.next->y∉AM.ids v->h'.get y=s.h.get y):=by
 rcases Bf m with e|hm
 ·subst e;have:new=[]:=Gr;subst this;exact⟨v,s.h,aCD r he ha hx,Gr,ij _,λ_ _ _=>rfl⟩
 ·obtain⟨p1,p2,p3,p4⟩:=Gi r hlo hn hl hm
  grind [xc]
theorem lR{k bytes:Nat}(hk:k<2^31)(hb:bytes<=100):cW k bytes=J:=by
 have:cR=2^40:=rfl;simp only[cW,this,im];exact⟨jo.mpr (Nat.le_trans (Nat.mul_le_mul_left _ hb) om),jo.mpr om⟩
theorem aPQ{h:AH}{n es:Nat}{cap:Option Nat}{cs:List AV}(hl:cs.length=n*es):au h es (.imm cs n cap)=Z (cs,n):=by
 have h4:ii (n*es) cs.length=J:=Sa;rw[au,h4,cond_true]
 grind
theorem kl{h:AH}{b es n:Nat}{cap:Option Nat}{cs:List AV}{rw':Bool}(g:h.get b=Z (.cells cs rw'))(hl:cs.length=n*es):au h es (.own b 0 n es cap)=Z (cs,n):=by
 have h3:=U184;have h4:ii (0+n*es) cs.length=J:=Sa;simp only[au,h3,cond_true,g,h4,A9]
 grind
theorem Co{s:St}{es:Nat}{x:Opd}{z cells:List AV}{v:AV}(hx:s.eval x=Z v)(hv:v.cells=Z cells)(hl:cells.length=es)(hz:z.length=es):fill s z [(0,es,x)]=Z cells:=by
 have h1:ig cells.length es=J:=Sa;have h2:ii (0+es) z.length=J:=Sa;have h3:putAt z 0 cells=cells:=by
  simp_all [putAt]
 simp only[fill,hx,hv,h1,h2,ja,cond_true,h3]
theorem aMQ{i:Nat}{v:AV}(he:s.eval (.t i)=Z v):∀x∈aQ (aK s.tm [i]).ag,x∈ids v:=λx hx=>by
 grind [ye]
theorem Ib{dst:Option Nat}{op:AOp}{rd fr:List Nat}{v:AV}(hc:bU rd op=J)(hnf:dF op=U)(hn:(rd.all λt=>bp s.h (s.eval (.t t)))=J)(ho:aL E cQ s op=Z (v,s))(hf:∀i∈fr,i<done.length)
  (k:b6 E rest (done++[⟨[],[],s.h.next,s.h.next⟩]) (s.put dst v) K):b6 E (⟨⟨dst,Y,op⟩,rd,fr⟩::rest) done s K:=by
 have st:=Cx (E:=E) (d:=⟨⟨dst,Y,op⟩,rd,fr⟩) (near:=dv done fr) hc rfl rfl hn ho;have e:bf op (aQ (aK s.tm rd).ag)=[]:=by grind [bf]
 rw[e] at st;exact uN (d:=⟨⟨dst,Y,op⟩,rd,fr⟩) (zM hf) st k
theorem xO{dst i es n:Nat}{z cs:List AV}{v:AV}{fr:List Nat}(he:s.eval (.t i)=Z v)(hv:below s.h.next (ids v)=J)(hfill:fill s z [(0,es,.t i)]=Z cs)(hf:∀i∈fr,i<done.length)
  (k:b6 E rest (done++[⟨[],[],s.h.next,s.h.next+1⟩]) ((s.toH (s.h.alloc (.cells cs J))).put (Z dst) (.own s.h.next 0 n es (Z n))) K):b6 E (⟨⟨Z dst,Y,.buildSlice es n z [(0,es,.t i)]⟩,[i],fr⟩::rest) done s K:=by
 refine uN (d:=⟨⟨Z dst,Y,.buildSlice es n z [(0,es,.t i)]⟩,[i],fr⟩) (zM hf) (Ev.of λm=>?_) k;have hm:dw s.h [] ((aJ s.h []).alloc (.cells cs J))=s.h.alloc (.cells cs J):=by
  exact U104
 have hbel:below s.h.next (aQ (aK s.tm [i]).ag)=J:=j3.2 λx hx=>j3.1 hv x (aMQ he x hx);have hfl:fill {tm:=aK s.tm [i],h:=aJ s.h [],defers:=[],round:=s.round} z [(0,es,.t i)]=Z cs:=by
  rw[<-hfill];exact vX (s:=s) (l:=[i]) (F:=[]) (by simp[dH,b9])
 have hb':=U185;exact U105
theorem Qw{es bytes dst a d k m lo:Nat}{v x:AV}{cs new:List AV}(r:aV s.h lo k es v cs)(hlo:lo<=s.h.next)(he:∀h:AH,(∀y∈ids x,h.get y=s.h.get y)->au h es x=Z (new,m))(hl:new.length=m*es)(hlf:∀c∈new,aj c)(hok:cW (k+m) bytes=J)
  (hx:∀y∈ids x,y<s.h.next/\∃kk,s.h.get y=Z kk/\below s.h.next (hE kk)=J) (h2:s.eval (.t a)=Z v) (h3:s.eval (.t d)=Z x)
  (kk:∀rec v' h',aV h' lo (k+m) es v' (cs++new)->s.h.next<=h'.next->(∀y,y<s.h.next->y∉ids v->h'.get y=s.h.get y)->b6 E rest (done++[rec]) ((s.toH h').put (Z dst) v') K):
  b6 E (⟨⟨Z dst,Y,.append es bytes (.t a) (.t d)⟩,[a,d],[]⟩::rest) done s K:=by
 generalize hvs:aQ (aK s.tm [a,d]).ag=vs;have pa:(aK s.tm [a,d]).get a=Z v:=by grind [xU]
 have pd:(aK s.tm [a,d]).get d=Z x:=by grind [xU]
 have inv:∀y∈ids v,y∈vs:=λy hy=>by rw[<-hvs];exact xX (vG pa) y hy
 have inx:∀y∈ids x,y∈vs:=λy hy=>by rw[<-hvs];exact xX (vG pd) y hy
 have out:∀y∈vs,y∈ids v\/y∈ids x:=λy hy=>by
  rw[<-hvs] at hy;obtain⟨j,hj,w,hw,hyw⟩:=ye hy
  grind
 have hbel:below s.h.next vs=J:=j3.2 λy hy=>j8.mpr (by
  rcases out y hy with q|q
  ·exact(r.ids y q).2.1
  grind)
 have hkn:fG s.h vs=J:=j3.2 λy hy=>by
  rcases out y hy with q|q
  ·obtain⟨_,q1,q2⟩:=r.ids y q;have q3:ir y s.h.next=J:=Sa;simp only[hE,rX r.1, *];rfl
  ·obtain⟨q1,kk,q2,q4⟩:=hx y q
   simp_all
 have r':aV (aJ s.h vs) lo k es v cs:=r.toB (ij _) λy hy=>mi (inv y hy);obtain⟨v',h1,e1,e2,e3,e4⟩:=Wl (s:={tm:=aK s.tm [a,d],h:=aJ s.h vs,defers:=[],round:=s.round}) (bytes:=bytes) r' hlo (he _ λy hy=>mi (inx y hy)) hl hlf hok pa pd;have e3:s.h.next<=h1.next:=e3;have hro:∀m',aL E (bY E (exec E m')) {tm:=aK s.tm [a,d],h:=aJ s.h vs,defers:=[],round:=s.round} (.append es bytes (.t a) (.t d))=Z (v',{tm:=aK s.tm [a,d],h:=h1,defers:=[],round:=s.round}):=λm'=>e1;have htu:cZ {tm:=aK s.tm [a,d],h:=aJ s.h vs,defers:=[],round:=s.round} (.append es bytes (.t a) (.t d))=ids v:=by
  grind [cZ,kL,St.eval]
 have hDb:below s.h.next (ids v)=J:=r.below;have hble:ii s.h.next h1.next=J:=Sa;have hst:Ev λn=>bC E (bY E (exec E n)) ⟨⟨Z dst,Y,.append es bytes (.t a) (.t d)⟩,[a,d],[]⟩ (dv done []) s=Z (v',⟨vs,ids v,s.h.next,h1.next⟩,dw s.h (ids v) h1):=by
  refine Ev.of λn=>?_
  simp[bC,aw,jL,dm, *]
 have hnx:(dw s.h (ids v) h1).next=h1.next:=rfl;refine uN (d:=⟨⟨Z dst,Y,.append es bytes (.t a) (.t d)⟩,[a,d],[]⟩) rfl hst (kk _ v' _ ?_ Gr λy hy hv=>?_)
 ·refine e2.toB Gr λy hy=>?_
  obtain⟨y1,y2,y3⟩:=e2.ids y hy;rw[Ja e3]
  by_cases q:s.h.next<=y
  ·grind
  ·rw[if_neg om]
   by_cases q2:y∈ids v
   ·grind
   ·rw[if_neg q2];have:=e4 y (by show y<s.h.next;omega) q2
    grind [mi,wC]
 ·rw[Ja e3,if_neg om,if_neg hv]
theorem bJW{h:AH}{b i:Nat}{cs:List AV}{x:AV}(g:h.get b=Z (.cells cs J))(hi:i<cs.length):eu h 1 (.ptr b i) [x]=Z (h.put b (Z (.cells (cs.set i x) J))):=by
 have h1:ig [x].length 1=J:=rfl;have h2:ii (i+1) cs.length=J:=jo.mpr om;have h3:putAt cs i [x]=cs.set i x:=by
  simp_all [putAt,List.set_eq_take_append_cons_drop]
 simp only[eu,g,h1,h2,ja,cond_true,h3]
theorem ms:∀{a b:List AV},aQ (a++b)=aQ a++aQ b
 | [],b=>rfl
 |x::a,b=>by simp[aQ,ms]
end Go.AM
namespace Go.AM
variable {E:Env}{s:St}{K:St->Prop}{rest:List DOp}{done:List ck}
theorem aj.fn0(f:Fn):aj (.fn f [] []):=⟨λ_ _=>rfl,λ_ _=>rfl⟩
end Go.AM
namespace Go.AM
variable {E:Env}
theorem Su{h:AH}{a a':AV}(hm:ar h aU a=Z a'){ys:List AV}(hy:∀v∈ys,Tree v):∀{xs:List AV},(∀v∈xs,Tree v)->cG h (xs++a::ys)=Z (xs++a'::ys)
 | [],_=>by grind [cG,s9]
 |x::xs,hx=>by
  have h1:ar h aU x=Z x:=(hx x ip).1 h 999999998;simp only[jj,cG,h1,Su hm hy λv hv=>hx v (iy _ hv)]
theorem vA{g:Nat}{xs ys:List AV}{a a' t:AV}{h h1:AH}(hs:E.shared.get g=Y)(hx:∀v∈xs,Tree v)(hy:∀v∈ys,Tree v)(ha:Tree a')(hz:freeze aU a h=h1)(hm:ar h1 aU a=Z a')
  (hc:∀h,aE E (.f g) (xs++a'::ys) h t h):∃h2,aE E (.f g) (xs++a::ys) h t h2/\(h2=h\/h2=h1):=by
 have hf:(xs++a::ys).foldl (λh v=>freeze aU v h) h=h1:=by
  simp_all [sm]
 have hm1:=Su hm hy hx;have hl':∀v∈xs++a'::ys,Tree v:=Gr;refine⟨bif dg t then h else h1,(hc h1).mono λn p=>?_,?_⟩
 ·have p:=U186;show fD E (bh E (exec E n)) g (xs++a::ys) h=_;simp only[fD,hs,sm hl',s9 hl'] at p;simp[fD, *];revert p;cases E.known g (xs++a'::ys) with
  |some r=>
   grind
  |none=>
   simp only;cases bh E (exec E n) g (xs++a'::ys) .empty with
   |none=>grind
   |some q=>
    obtain⟨r,hc'⟩:=q;simp only;cases ar (freeze aU r hc') aU r<;>grind
 grind
theorem Cn{n:Nat}:∀{cs:List AV} {h:AH},(∀c∈cs,aj c)->cs.foldl (λh c=>freeze (n+1) c h) h=h
 | [],_,_=>rfl
 |c::r,h,k=>by rw[List.foldl_cons,(k c ip).2 h n];exact Cn λx hx=>k x (iy _ hx)
theorem Jd{n:Nat}{h:AH}:∀{cs:List AV},(∀c∈cs,aj c)->cs.mapM (ar h (n+1))=Z cs
 | [],_=>rfl
 |c::r,k=>by
  rw[List.mapM_cons,(k c ip).1 h n,Jd λx hx=>k x (iy _ hx)];rfl
def fE(k:Nat)(cs:List AV):AV:=bif ig k 0 then .val (.slice Y 0 0) else .imm cs k Y
theorem Jq{h:AH}{lo k es:Nat}{v:AV}{cs:List AV}(r:aV h lo k es v cs)(n:Nat):∃h1,freeze (n+2) v h=h1/\h1.next=h.next/\(∀x,x∉ids v->h1.get x=h.get x)/\ar h1 (n+2) v=Z (fE k cs):=by
 obtain⟨h1,h2,⟨rfl,rfl⟩|⟨b,b1,b2,b3,rfl,b5⟩⟩:=r
 ·exact⟨h,rfl,rfl,λ_ _=>rfl,rfl⟩
 ·have hk:ig k 0=U:=by
   grind [iu]
  have ht:=U187;refine⟨h.put b (Z (.cells cs U)),?_,rfl,λx hx=>?_,?_⟩
  ·rw[freeze]
   simp_all [Cn]
  ·simp_all [AH.aO,ids]
  ·have g:=U178;have hle:=U179;rw[ar.eq_def];simp only[g,hle,cond_true,ht,Jd h1,Option.map_some,fE,hk,cond_false]
theorem tP{h:AH}{lo k es:Nat}{v:AV}{cs:List AV}(r:aV h lo k es v cs):∃h1,freeze aU v h=h1/\h1.next=h.next/\(∀x,x∉ids v->h1.get x=h.get x)/\ar h1 aU v=Z (fE k cs):=Jq r 999999998
theorem tT{k:Nat}{cs:List AV}:aj (fE k cs):=by
 grind [fE,aj.imm,aj.val]
theorem gt{s:St}{K:St->Prop}{r:List aW}{dst:Option Nat}{f:Nat}{l:List AV}{v:AV}{h':AH}(h:aE E (.f f) l s.h v h')(k:wpOps E r ((s.toH h').put dst v) K):bo E f r s dst K (Z l):=by
 grind [aZV]
theorem bAE{s:St}{K:St->Prop}{r:List aW}{dst:Option Nat}{es bytes a d k m lo:Nat}{v x:AV}{cs new:List AV}(hr:aV s.h lo k es v cs)(hlo:lo<=s.h.next)(he:au s.h es x=Z (new,m))(hl:new.length=m*es)(hn:∀c∈new,aj c)(hok:cW (k+m) bytes=J)(ha:s.eval (.t a)=Z v)(hx:s.eval (.t d)=Z x)
  (kk:∀v' h',aV h' lo (k+m) es v' (cs++new)->s.h.next<=h'.next->(∀y,y<s.h.next->y∉ids v->h'.get y=s.h.get y)->wpOps E r ((s.toH h').put dst v') K):wpOps E (⟨dst,Y,.append es bytes (.t a) (.t d)⟩::r) s K:=by
 obtain⟨v',h',e,r',n',o'⟩:=Wl (bytes:=bytes) hr hlo he hl hn hok ha hx;rw[tX,e];exact kk v' h' r' n' o'
end Go.AM
namespace Go.AM
variable {E:Env}{s:St}{K:St->Prop}{rest:List DOp}{done:List ck}
def bn(h:AH)(lo k es:Nat)(v:AV)(cs:List AV):Prop:=
 aV h lo k es v cs\/((∀c∈cs,aj c)/\cs.length=k*es/\∃b,lo<=b/\b<h.next/\v=.own b 0 k es (Z k)/\h.get b=Z (.cells cs J))
theorem aV.x{h:AH}{lo k es:Nat}{v:AV}{cs:List AV}(r:aV h lo k es v cs):bn h lo k es v cs:=.inl r
theorem bn.made{h:AH}{lo k es b:Nat}{cs:List AV}(h1:∀c∈cs,aj c)(h2:cs.length=k*es)(b1:lo<=b)(b2:b<h.next)(g:h.get b=Z (.cells cs J)):bn h lo k es (.own b 0 k es (Z k)) cs:=.inr ⟨h1,h2,b,b1,b2,rfl,g⟩
theorem bn.leafs{h:AH}{lo k es:Nat}{v:AV}{cs:List AV}(r:bn h lo k es v cs):∀c∈cs,aj c:=by
 rcases r with r|r
 ·exact r.1
 grind
theorem bn.length{h:AH}{lo k es:Nat}{v:AV}{cs:List AV}(r:bn h lo k es v cs):cs.length=k*es:=by
 rcases r with r|r
 ·exact r.2.1
 grind
theorem bn.toB{h h':AH}{lo k es:Nat}{v:AV}{cs:List AV}(r:bn h lo k es v cs)(hn:h.next<=h'.next)(g:∀x∈ids v,h'.get x=h.get x):bn h' lo k es v cs:=by
 rcases r with r|⟨h1,h2,b,b1,b2,rfl,b5⟩
 ·exact .inl (r.toB hn g)
 ·exact .inr ⟨h1,h2,b,b1,om,rfl,by grind [AM.ids]⟩
theorem bn.ids{h:AH}{lo k es:Nat}{v:AV}{cs:List AV}(r:bn h lo k es v cs):∀x∈ids v,lo<=x/\x<h.next/\h.get x=Z (.cells cs J):=by
 rcases r with r|⟨h1,h2,b,b1,b2,rfl,b5⟩
 ·exact r.ids
 grind [AM.ids]
theorem bn.to{h h':AH}{lo k es:Nat}{v:AV}{cs:List AV}(r:bn h lo k es v cs)(hn:h.next<=h'.next)(g:∀x,lo<=x->x<h.next->h'.get x=h.get x):bn h' lo k es v cs:=
 r.toB hn λx hx=>g x (r.ids x hx).1 (r.ids x hx).2.1
theorem bn.low{h:AH}{lo lo' k es:Nat}{v:AV}{cs:List AV}(r:bn h lo k es v cs)(hl:lo'<=lo):bn h lo' k es v cs:=by
 rcases r with r|⟨h1,h2,b,b1,b2,rfl,b5⟩
 ·exact .inl (r.low hl)
 ·exact .inr ⟨h1,h2,b,om,b2,rfl,b5⟩
theorem bn.cells{h:AH}{lo k es:Nat}{v:AV}{cs:List AV}(r:bn h lo k es v cs):v.cells=Z [v]:=by
 rcases r with r|⟨_,_,b,_,_,rfl,_⟩
 ·exact r.cells
 ·rfl
theorem bn.below{h:AH}{lo k es:Nat}{v:AV}{cs:List AV}(r:bn h lo k es v cs):AM.below h.next (AM.ids v)=J:=j3.2 λx hx=>j8.mpr (r.ids x hx).2.1
theorem bn.nice{h:AH}{lo k es:Nat}{v:AV}{cs:List AV}(r:bn h lo k es v cs):bp h (Z v)=J:=by
 rw[bp,lN];refine j3.2 λx hx=>?_
 obtain⟨_,h1,h2⟩:=r.ids x hx;have:ir x h.next=J:=Sa;simp only[rX r.leafs, *];rfl
theorem bn.len{h:AH}{lo k es:Nat}{v:AV}{cs:List AV}(r:bn h lo k es v cs):oL v=Z (vI (k:Nat)):=by
 rcases r with r|⟨_,_,b,_,_,rfl,_⟩
 ·exact r.len
 ·rfl
theorem bn.one{h:AH}{lo k es:Nat}{v:AV}{cs:List AV}(r:bn h lo k es v cs):AM.ids v=[]\/∃b,AM.ids v=[b]:=by
 rcases r with⟨_,_,⟨_,rfl⟩|⟨b,_,_,_,rfl,_⟩⟩|⟨_,_,b,_,_,rfl,_⟩
 ·exact .inl rfl
 ·exact .inr ⟨b,rfl⟩
 ·exact .inr ⟨b,rfl⟩
def iA(v:AV)(k:Nat)(cs:List AV):AV:=match v with
 |.own _ _ _ _ cap=>.imm cs k cap
 |_=>.val (.slice Y 0 0)
theorem xD{h:AH}{lo k es:Nat}{v:AV}{cs:List AV}(r:bn h lo k es v cs):∃h1,freeze aU v h=h1/\h1.next=h.next/\(∀x,x∉AM.ids v->h1.get x=h.get x)/\ar h1 aU v=Z (iA v k cs):=by
 rcases r with r|⟨h1,h2,b,b1,b2,rfl,b5⟩
 ·obtain⟨h1,e1,e2,e3,e4⟩:=tP r;refine⟨h1,e1,e2,e3,?_⟩;rw[e4];obtain⟨_,_,⟨rfl,rfl⟩|⟨b,_,_,h3,rfl,_⟩⟩:=r<;>grind [ig,iu,fE,iA]
 ·refine⟨_,rfl,?_,?_,Yt b5 h2 h1⟩
  ·exact(sV aU _ h).1
  ·intro x hx;have hx:x≠b:=by grind [AM.ids]
   show(match h.get b with
    |some (.cells cs _)=>((cs.drop 0).take (k*es)).foldl (λh c=>freeze 999999999 c h) (h.put b (Z (.cells cs U)))
    |_=>h).get x=_
   simp_all [List.take_of_length_le,uY,bc]
theorem bAF{es bytes a d k m lo:Nat}{v x:AV}{cs new:List AV}(r:bn s.h lo k es v cs)(hlo:lo<=s.h.next)(he:au s.h es x=Z (new,m))(hl:new.length=m*es)(hn:∀c∈new,aj c)(hok:cW (k+m) bytes=J)(ha:s.eval (.t a)=Z v)(hx:s.eval (.t d)=Z x):
  ∃v' h',bN s es bytes (.t a) (.t d)=Z (v',s.toH h')/\bn h' lo (k+m) es v' (cs++new)/\s.h.next<=h'.next/\(∀y,y<s.h.next->y∉AM.ids v->h'.get y=s.h.get y)/\(ak s.h->ak h'):=by
 rcases Bf m with rfl|hm
 ·have:new=[]:=by grind
  subst this;rw[jm];refine⟨v,s.h,?_,r,ij _,λ_ _ _=>rfl,λh=>h⟩;rcases r with r|⟨h1,h2,b,b1,b2,rfl,b5⟩
  ·exact aCD r he ha hx
  ·have hb:=U159;simp only[bN,cond_true, *];rfl
 ·rcases r with r|⟨h1,h2,b,b1,b2,rfl,b5⟩
  ·obtain⟨p1,p2,p3,p4⟩:=Gi r hlo hn hl hm;refine⟨_,_,xc r he hm hok ha hx,.inl p2,om,p3,λnt=>?_⟩;obtain⟨_,_,⟨rfl,rfl⟩|⟨b,_,_,_,rfl,b5⟩⟩:=r
   ·exact nt.alloc
   ·simp[gj,b5];exact nt.drop.alloc
  ·have hb:ig m 0=U:=by
    grind [iu]
   have bes:=U184;have c2:=U179;have c3:ii (k+m) k=U:=by
    cases hq:ii (k+m) k with
    |false=>rfl
    |true=>
     have:=Nat.le_of_ble_eq_true hq;omega
   have c4:=U187;refine⟨.own s.h.next 0 (k+m) es Y,s.h.alloc (.cells (cs++new) J),?_,.inl ⟨λc hc=>?_,?_,.inr ⟨s.h.next,hlo,je _,om,rfl,co⟩⟩,Nat.le_succ _,λy hy _=>am hy,λnt=>nt.alloc⟩
   ·simp only[bN,ha,hx,he,hb,cond_false,b5,bes,c2,hok,ja,cond_true,c3,c4];rfl
   ·grind
   grind
end Go.AM
namespace Go.AM
variable {E:Env}{s:St}{K:St->Prop}{r:List aW}{dst:Option Nat}
theorem wc{a b:ByteArray}(h:aP a b=J):a=b:=by
 rw[aP,uM] at h;have:=eq_of_beq h;obtain⟨⟨a⟩⟩:=a
 simp_all
theorem Ha(a:ByteArray):aP a a=J:=by simp[aP,uM]
theorem Hc(a b:ByteArray):aP a b=aP b a:=by
 cases h:aP a b<;>grind [wc]
end Go.AM
namespace Go.AM
variable {E:Env}{s:St}{K:St->Prop}{done:List ck}
theorem aEU{es bytes off k lo r a b d f t C:Nat}{v w:AV}{z cs new X aB:List AV}{fr:List Nat}(hr:aV s.h lo k es v cs)(hC:C<lo)(hlo:lo<=s.h.next)(hg:s.h.get C=Z (.cells (X++v::aB) J))(hX:X.length=off)(iX:aQ X=[])(iY:aQ aB=[])
  (ea:s.eval (.t a)=Z v) (er:s.eval (.t r)=Z w) (hw:w.cells=Z new) (hlf:∀c∈new,aj c) (iw:ids w=[]) (hl:new.length=es) (hz:z.length=es) (ec:s.eval (.t t)=Z (.ptr C 0)) (hok:cW (k+1) bytes=J) (hf:∀i∈fr,i<done.length)
  (ne1:b≠a) (ne2:b≠t) (ne3:d≠t) (ne4:f≠d)
  (kk:∀h' v' x y u,aV h' lo (k+1) es v' (cs++new)->h'.get C=Z (.cells (X++v'::aB) J)->s.h.next<=h'.next->(∀q,q<lo->q≠C->h'.get q=s.h.get q)->K ((((s.toH h').put (Z b) x).put (Z d) y).put (Z f) u)):
  b6 E [⟨⟨Z b,Y,.buildSlice es 1 z [(0,es,.t r)]⟩,[r],fr⟩,⟨⟨Z d,Y,.append es bytes (.t a) (.t b)⟩,[a,b],[]⟩,⟨⟨Z f,Y,.fieldAddr off (.t t)⟩,[t],[]⟩] done s λs1=>wpOps E [⟨Y,Y,.store 1 (.t f) (.t d)⟩] s1 K:=by
 refine xO er (by rw[iw];rfl) (Co er hw hl hz) hf ?_
 generalize hs1:(s.toH (s.h.alloc (.cells new J))).put (Z b) (.own s.h.next 0 1 es (Z 1))=s1;have hh1:s1.h=s.h.alloc (.cells new J):=by rw[<-hs1];rfl
 have hn1:s1.h.next=s.h.next+1:=Sa;have gE:s1.h.get s.h.next=Z (.cells new J):=by grind [co]
 have gO:∀y,y<s.h.next->s1.h.get y=s.h.get y:=by grind [am]
 have eb1:s1.eval (.t b)=Z (.own s.h.next 0 1 es (Z 1)):=by grind [St.put,St.fV]
 have ea1:s1.eval (.t a)=Z v:=by
  rw[<-hs1];simp[St.put,St.fV];rw[if_neg (λe=>ne1 e.symm)];exact ea
 have ec1:s1.eval (.t t)=Z (.ptr C 0):=by
  rw[<-hs1];simp[St.put,St.fV];rw[if_neg (λe=>ne2 e.symm)];exact ec
 have hr1:aV s1.h lo k es v cs:=hr.to om λy _ hy=>gO y hy;refine Qw (m:=1) (x:=.own s.h.next 0 1 es (Z 1)) (new:=new) hr1 om (λh hh=>?_) Gr hlf hok ?_ ea1 eb1 ?_
 ·exact kl (by rw[hh _ (by grind [ids]),gE]) Gr
 ·intro y hy;simp[ids] at hy;subst hy;exact⟨om,_,gE,by simp[hE,rX hlf];rfl⟩
 intro rec v' h2 r2 n2 o2;generalize hs2:(s1.toH h2).put (Z d) v'=s2;have hh2:s2.h=h2:=by rw[<-hs2];rfl
 have hCv:C∉ids v:=λh=>by
  have:=(hr.ids C h).1;omega
 have gC:h2.get C=Z (.cells (X++v::aB) J):=Gr;have hbv:below h2.next (ids v)=J:=j3.2 λy hy=>j8.mpr (by
  have:=(hr.ids y hy).2.1;omega)
 have hbc:below h2.next (aQ (X++v::aB))=J:=by
  grind [ms,aQ]
 have nC:∀o,bp h2 (Z (.ptr C o))=J:=λo=>by
  have:ir C h2.next=J:=j8.mpr om
  grind [bp,lN,ids]
 have ec2:s2.eval (.t t)=Z (.ptr C 0):=by
  rw[<-hs2];simp[St.put,St.fV];rw[if_neg (λe=>ne3 e.symm)];exact ec1
 have ed2:s2.eval (.t d)=Z v':=by grind [St.put,St.fV]
 refine Ib (v:=.ptr C off) (by show b9 [t] t=J;simp[b9]) rfl ?_ ?_ (λi hi=>by cases hi) ?_
 ·grind
 ·simp_all [aL]
 generalize hs3:s2.put (Z f) (.ptr C off)=s3;have hh3:s3.h=h2:=by rw[<-hs3];exact hh2
 have ef3:s3.eval (.t f)=Z (.ptr C off):=by grind [St.put,St.fV]
 have ed3:s3.eval (.t d)=Z v':=by
  rw[<-hs3];simp[St.put,St.fV]
  grind
 have hset:(X++v::aB).set off v'=X++v'::aB:=by
  simp_all
 have hst:=bJW (i:=off) (x:=v') gC Gr;rw[hset] at hst;refine xH ?_
 rw[aHQ,ef3,ed3,Option.bind_some,r2.cells,Dk,hh3,hst,Hf];have:=kk (h2.put C (Z (.cells (X++v'::aB) J))) v' (.own s.h.next 0 1 es (Z 1)) v' (.ptr C off) (r2.to (ij _) λy y1 y2=>bc om) lA (by show s.h.next<=h2.next;omega) (λq q1 q2=>by
  rw[bc q2,o2 q om (λh=>by have:=(hr.ids q h).1;omega),gO q om])
 rw[<-hs3,<-hs2,<-hs1];exact this
theorem aEV{es bytes off k lo r a b d f t C:Nat}{v w:AV}{z cs new X aB:List AV}{fr:List Nat}{K0:St->Prop}(hK:∀s1,wpOps E [⟨Y,Y,.store 1 (.t f) (.t d)⟩] s1 K->K0 s1)(hr:aV s.h lo k es v cs)(hC:C<lo)(hlo:lo<=s.h.next)(hg:s.h.get C=Z (.cells (X++v::aB) J))(hX:X.length=off)(iX:aQ X=[])(iY:aQ aB=[])
  (ea:s.eval (.t a)=Z v) (er:s.eval (.t r)=Z w) (hw:w.cells=Z new) (hlf:∀c∈new,aj c) (iw:ids w=[]) (hl:new.length=es) (hz:z.length=es) (ec:s.eval (.t t)=Z (.ptr C 0)) (hok:cW (k+1) bytes=J) (hf:∀i∈fr,i<done.length)
  (ne1:b≠a) (ne2:b≠t) (ne3:d≠t) (ne4:f≠d)
  (kk:∀h' v' x y u,aV h' lo (k+1) es v' (cs++new)->h'.get C=Z (.cells (X++v'::aB) J)->s.h.next<=h'.next->(∀q,q<lo->q≠C->h'.get q=s.h.get q)->K ((((s.toH h').put (Z b) x).put (Z d) y).put (Z f) u)):
  b6 E [⟨⟨Z b,Y,.buildSlice es 1 z [(0,es,.t r)]⟩,[r],fr⟩,⟨⟨Z d,Y,.append es bytes (.t a) (.t b)⟩,[a,b],[]⟩,⟨⟨Z f,Y,.fieldAddr off (.t t)⟩,[t],[]⟩] done s K0:=by
 obtain⟨s',x,y⟩:=aEU (K:=K) hr hC hlo hg hX iX iY ea er hw hlf iw hl hz ec hok hf ne1 ne2 ne3 ne4 kk;exact⟨s',x,hK _ y⟩
theorem vY{s:St}{ops pre:List DOp}{d:DOp}{Q:Ex->St->Prop}(hl:cJ ops=Z (pre,[d]))(h:∀K0:St->Prop,(∀s1,wpOps E [d.o] s1 (Q .normal)->K0 s1)->b6 E pre [] s K0):Run E (.draw ops) s Q:=aNC hl (h _ λ_ x=>x)
end Go.AM
namespace Go.AM
variable {E:Env}{s:St}{K:St->Prop}{done:List ck}{rest:List DOp}
theorem Wk{dst i j es o n:Nat}{z cs:List AV}{v w:AV}{fr:List Nat}(hi:s.eval (.t i)=Z v)(hj:s.eval (.t j)=Z w)(hv:below s.h.next (ids v)=J)(hw:below s.h.next (ids w)=J)(hfill:fill s z [(0,es,.t i),(o,es,.t j)]=Z cs)(hf:∀i∈fr,i<done.length)
  (k:b6 E rest (done++[⟨[],[],s.h.next,s.h.next+1⟩]) ((s.toH (s.h.alloc (.cells cs J))).put (Z dst) (.own s.h.next 0 n es (Z n))) K):b6 E (⟨⟨Z dst,Y,.buildSlice es n z [(0,es,.t i),(o,es,.t j)]⟩,[i,j],fr⟩::rest) done s K:=by
 refine uN (d:=⟨⟨Z dst,Y,.buildSlice es n z [(0,es,.t i),(o,es,.t j)]⟩,[i,j],fr⟩) (zM hf) (Ev.of λm=>?_) k;have hm:dw s.h [] ((aJ s.h []).alloc (.cells cs J))=s.h.alloc (.cells cs J):=by
  exact U104
 have hbel:below s.h.next (aQ (aK s.tm [i,j]).ag)=J:=j3.2 λx hx=>by
  obtain⟨y,hy,u,hu,hxu⟩:=ye hx;simp[List.mem_nil_iff] at hy;rcases hy with rfl|rfl
  ·rw[hi] at hu;cases hu;exact j3.1 hv x hxu
  ·rw[hj] at hu;cases hu;exact j3.1 hw x hxu
 have hfl:fill {tm:=aK s.tm [i,j],h:=aJ s.h [],defers:=[],round:=s.round} z [(0,es,.t i),(o,es,.t j)]=Z cs:=by
  rw[<-hfill];exact vX (s:=s) (l:=[i,j]) (F:=[]) (by simp[dH,b9])
 have hb':=U185;exact U105
end Go.AM
