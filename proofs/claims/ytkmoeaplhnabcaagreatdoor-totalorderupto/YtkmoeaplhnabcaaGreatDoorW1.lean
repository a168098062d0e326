/- XWp XWq XWr XWs XOwn XRow XDraw XDrawB XCalm -/
import Derived.Test.YtkmoeaplhnabcaaGreatDoorU0
import Derived.Test.YtkmoeaplhnabcaaGreatDoorM4

set_option linter.all false
open Option.some renaming injEq → sI
open Prod.mk renaming injEq → pI
open Bool renaming and_eq_true → i9, and_self → ip, false_eq_true → ju, true_eq_false → Bw
open List renaming all_cons → j4, all_eq_true → iy, all_nil → j5, append_nil → j6, cons_append → ja, drop_zero → jj, foldl_cons → Bh, isEmpty_nil → An, mem_append → jc, mem_cons → i8, mem_cons_of_mem → j0, mem_cons_self → il, mem_singleton → ig, nil_append → iz, take_of_length_le → jl
open Nat renaming beq → i5, ble → i6, ble_eq → iu, blt → iq, le_of_ble_eq_true → is, le_refl → i7
open Option renaming bind_some → j9, map → B7, map_some → jo
namespace Go.AM
variable {E:Env}
def Ev(p:Nat→Prop):Prop:=∃N,∀n,N≤n→p n
theorem Ev.of{p:Nat→Prop}(h:∀n,p n):Ev p:=⟨0,fun n _=>h n⟩
theorem Ev.mono{p q:Nat→Prop}(h:Ev p)(k:∀n,p n→q n):Ev q:=h.imp fun _ h n hn=>k n (h n hn)
theorem Ev.and{p q:Nat→Prop}(h:Ev p)(k:Ev q):Ev fun n=>p n∧q n:=by
 obtain⟨a,h⟩:=h;obtain⟨b,k⟩:=k;exact⟨a+b,fun n hn=>⟨h n om,k n om⟩⟩
theorem Ev.step{p:Nat→Prop}(h:Ev fun n=>p (n+1)):Ev p:=by
 obtain⟨a,h⟩:=h;refine⟨a+1,fun n hn=>?_⟩;obtain⟨m,rfl⟩:∃m,n=m+1:=⟨n-1,om⟩;exact h m om
theorem Ev.one{p:Nat→Prop}(h:Ev p):∃n,p n:=by
 obtain⟨a,h⟩:=h;exact⟨a,h a (i7 a)⟩
def Run(E:Env)(c:ACode)(s:St)(Q:Ex→St→Prop):Prop:=∃e s',Ev (fun n=>exec E n c s=some (e,s'))∧Q e s'
def RunCall(E:Env)(c:Cle)(l:List AV)(h:AH)(v:AV)(h':AH):Prop:=Ev fun n=>aZ E (exec E n) c l h=some (v,h')
def CallTo(E:Env)(c:Cle)(l:List AV)(h:AH)(K:AV→AH→Prop):Prop:=∃v h',RunCall E c l h v h'∧K v h'
def RunOps(E:Env)(ops:List AOper)(s:St)(K:St→Prop):Prop:=∃s',Ev (fun n=>runOps E (aZ E (exec E n)) ops s=some s')∧K s'
theorem RunCall.det{c:Cle}{l:List AV}{h h1 h2:AH}{v1 v2:AV}(a:RunCall E c l h v1 h1)(b:RunCall E c l h v2 h2):v1=v2∧h1=h2:=by
 obtain⟨n,x,y⟩:=(a.and b).one;rw[x] at y;simp only[sI,pI] at y;exact y
theorem mh{c:Cle}{l:List AV}{h h':AH}{v:AV}{K:AV→AH→Prop}(r:RunCall E c l h v h'):CallTo E c l h K↔K v h':=
 ⟨fun⟨_,_,r2,k⟩=>by obtain⟨a,b⟩:=r.det r2;subst a;subst b;exact k,fun k=>⟨v,h',r,k⟩⟩
def St.set(s:St)(d:Nat)(v:AV):St:={s with tm:=s.tm.put d (some v)}
def St.toH(s:St)(h:AH):St:={s with h}
def St.put(s:St):Option Nat→AV→St
 |none,_=>s
 |some d,v=>s.set d v
theorem St.get_set(s:St)(d i:Nat)(v:AV):(s.set d v).tm.get i=if i=d then some v else s.tm.get i:=Tr.get_put _ _ _ _
theorem St.eval_set(s:St)(d i:Nat)(v:AV):(s.set d v).eval (.t i)=if i=d then some v else s.eval (.t i):=Tr.get_put _ _ _ _
theorem St.eval_toH(s:St)(h:AH)(x:Opd):(s.toH h).eval x=s.eval x:=by cases x<;>rfl
theorem St.eval_c(s:St)(v:AV):s.eval (.c v)=some v:=rfl
theorem St.h_set(s:St)(d:Nat)(v:AV):(s.set d v).h=s.h:=rfl
theorem St.h_toH(s:St)(h:AH):(s.toH h).h=h:=rfl
theorem St.df_set(s:St)(d:Nat)(v:AV):(s.set d v).defers=s.defers:=rfl
theorem St.df_toH(s:St)(h:AH):(s.toH h).defers=s.defers:=rfl
theorem St.tm_toH(s:St)(h:AH):(s.toH h).tm=s.tm:=rfl
def withV{α:Type}(o:Option α)(f:α→Prop):Prop:=match o with
 |some v=>f v
 |none=>False
theorem aJ{α:Type}(v:α)(f:α→Prop):withV (some v) f=f v:=rfl
def noCall:Cle→List AV→AH→Option (AV×AH):=fun _ _ _=>none
theorem d8{call:Cle→List AV→AH→Option (AV×AH)}{s:St}{op:AOp}{r:AV×St}(h:runOp E noCall s op=some r):runOp E call s op=some r:=by
 cases op with
 |call f args=>
  exfalso;simp only[runOp] at h;split at h<;>simp[noCall] at h
 |callv x args=>
  exfalso;simp only[runOp] at h;split at h<;>try (first|(simp[noCall] at h;done)|(split at h<;>simp[noCall] at h;done))
 |invoke x name args=>
  exfalso;simp only[runOp] at h;split at h<;>try (first|(simp[noCall] at h;done)|(split at h<;>simp[noCall] at h;done))
 |_=>exact h
def wpOp(E:Env)(op:AOp)(s:St)(K:AV→St→Prop):Prop:=
 match op with
 |.call f args=>withV (evalAll s args) fun l=>CallTo E (.f f) l s.h fun v h=>K v (s.toH h)
 |.callv x args=>match s.eval x with
  |some (.yld b)=>withV (evalAll s args) fun l=>CallTo E (.y b) l s.h fun v h=>K v (s.toH h)
  |some (.fn (.func f) a b)=>withV (evalAll s args) fun l=>CallTo E (.f f) (a++l++b) s.h fun v h=>K v (s.toH h)
  |_=>False
 |op=>withV (runOp E noCall s op) fun(v,s')=>K v s'
def wpOps(E:Env):List AOper→St→(St→Prop)→Prop
 | [],s,K=>K s
 |o::r,s,K=>withV (wantedA s o.guard) fun g=>
  (g=true→wpOp E o.op s fun v s'=>wpOps E r ({s' with round:=s.round}.put o.dst v) K)∧
  (g=false→wpOps E r (s.put o.dst undefA) K)
theorem jR{o:AOper}{r:List AOper}{s:St}{K:St→Prop}{v:AV}{s1:St}(hw:wantedA s o.guard=some true)
  (h:Ev fun n=>runOp E (aZ E (exec E n)) s o.op=some (v,s1)) (k:RunOps E r ({s1 with round:=s.round}.put o.dst v) K):RunOps E (o::r) s K:=by
 obtain⟨s',k1,k2⟩:=k;refine⟨s',(h.and k1).mono fun n ⟨a,b⟩=>?_,k2⟩;simp only[runOps,hw,a];cases hd:o.dst with
 |none=>rw[hd] at b;exact b
 |some d=>rw[hd] at b;exact b
theorem fp{o:AOper}{r:List AOper}{s:St}{K:St→Prop}{c:Cle}{l:List AV}(hw:wantedA s o.guard=some true)
  (ho:∀call,runOp E call s o.op=(call c l s.h).bind fun(v,h)=>some (v,{s with h}))
  (ih:∀s',wpOps E r s' K→RunOps E r s' K) (h:CallTo E c l s.h fun v h=>wpOps E r ({s.toH h with round:=s.round}.put o.dst v) K):RunOps E (o::r) s K:=by
 obtain⟨v,h',hr,hk⟩:=h;refine jR hw (v:=v) (s1:=s.toH h') (Ev.mono hr fun n a=>?_) (ih _ hk);rw[ho,a];rfl
theorem fA:∀(ops:List AOper) (s:St) (K:St→Prop),wpOps E ops s K→RunOps E ops s K
 | [],s,K,h=>⟨s,Ev.of fun _=>rfl,h⟩
 |o::r,s,K,h=>by
  simp only[wpOps] at h;cases hw:wantedA s o.guard with
  |none=>rw[hw] at h;exact h.elim
  |some g=>
   rw[hw] at h;simp only[aJ] at h;cases g with
   |false=>
    have h2:=fA r _ K (h.2 rfl);obtain⟨s',k1,k2⟩:=h2;refine⟨s',k1.mono fun n b=>?_,k2⟩;simp only[runOps,hw];cases hd:o.dst with
    |none=>rw[hd] at b;exact b
    |some d=>rw[hd] at b;exact b
   |true=>
    have h1:=h.1 rfl;have ih:∀s',wpOps E r s' K→RunOps E r s' K:=fun s'=>fA r s' K;clear h;unfold wpOp at h1;split at h1
    ·rename_i f args heq;cases he:evalAll s args with
     |none=>rw[he] at h1;exact h1.elim
     |some l=>
      rw[he] at h1;exact fp hw (fun call=>by rw[heq];simp only[runOp,he]) ih h1
    ·rename_i x args heq;split at h1
     ·rename_i b hx;cases he:evalAll s args with
      |none=>rw[he] at h1;exact h1.elim
      |some l=>
       rw[he] at h1;exact fp hw (fun call=>by rw[heq];simp only[runOp,he,hx]) ih h1
     ·rename_i f a b hx;cases he:evalAll s args with
      |none=>rw[he] at h1;exact h1.elim
      |some l=>
       rw[he] at h1;exact fp hw (fun call=>by rw[heq];simp only[runOp,he,hx]) ih h1
     ·exact h1.elim
    ·cases ho:runOp E noCall s o.op with
     |none=>rw[ho] at h1;exact h1.elim
     |some vs=>
      obtain⟨v,s1⟩:=vs;rw[ho] at h1;exact jR hw (Ev.of fun n=>d8 ho) (ih _ h1)
def wp(E:Env):ACode→St→(Ex→St→Prop)→Prop
 |.skip,s,Q=>Q .normal s
 |.ret,s,Q=>Q .ret s
 |.exit id,s,Q=>Q (.exit id) s
 |.region ops,s,Q=>wpOps E ops s (Q .normal)
 |.seq a b,s,Q=>wp E a s fun e s'=>match e with
  |.normal=>wp E b s' Q
  |e=>Q e s'
 |.cond c a b,s,Q=>match s.eval c with
  |some (.val (.bool x))=>(x=true→wp E a s Q)∧(x=false→wp E b s Q)
  |_=>False
 |.block id b,s,Q=>wp E b s fun e s'=>match e with
  |.exit i=>Q (bif i5 i id then .normal else .exit i) s'
  |e=>Q e s'
 |c,s,Q=>Run E c s Q
theorem Run.mono{c:ACode}{s:St}{Q Q':Ex→St→Prop}(h:Run E c s Q)(k:∀e s',Q e s'→Q' e s'):Run E c s Q':=by
 obtain⟨e,s',a,b⟩:=h;exact⟨e,s',a,k _ _ b⟩
theorem Run.seq{a b:ACode}{s:St}{Q:Ex→St→Prop}(h:Run E a s fun e s'=>match e with|.normal=>Run E b s' Q|e=>Q e s'):Run E (.seq a b) s Q:=by
 obtain⟨e,s',x,y⟩:=h;cases e with
 |normal=>
  obtain⟨e2,s2,x2,y2⟩:=y;refine⟨e2,s2,((x.and x2).mono fun n ⟨p,q⟩=>?_:Ev fun n=>exec E (n+1) (.seq a b) s=some (e2,s2)).step,y2⟩;simp only[exec,p,q]
 |exit i=>exact⟨_,_,(x.mono fun n p=>by simp only[exec,p]:Ev fun n=>exec E (n+1) (.seq a b) s=some (.exit i,s')).step,y⟩
 |ret=>exact⟨_,_,(x.mono fun n p=>by simp only[exec,p]:Ev fun n=>exec E (n+1) (.seq a b) s=some (.ret,s')).step,y⟩
theorem Run.block{id:Nat}{b:ACode}{s:St}{Q:Ex→St→Prop}(h:Run E b s fun e s'=>match e with|.exit i=>Q (bif i5 i id then .normal else .exit i) s'|e=>Q e s'):Run E (.block id b) s Q:=by
 obtain⟨e,s',x,y⟩:=h;cases e with
 |normal=>exact⟨_,_,(x.mono fun n p=>by simp only[exec,p]:Ev fun n=>exec E (n+1) (.block id b) s=some (.normal,s')).step,y⟩
 |exit i=>exact⟨_,_,(x.mono fun n p=>by simp only[exec,p]:Ev fun n=>exec E (n+1) (.block id b) s=some (bif i5 i id then .normal else .exit i,s')).step,y⟩
 |ret=>exact⟨_,_,(x.mono fun n p=>by simp only[exec,p]:Ev fun n=>exec E (n+1) (.block id b) s=some (.ret,s')).step,y⟩
theorem Run.loop{b:ACode}{s:St}{Q:Ex→St→Prop}(h:Run E b s fun e s'=>match e with|.normal=>Run E (.loop b) s' Q|e=>Q e s'):Run E (.loop b) s Q:=by
 obtain⟨e,s',x,y⟩:=h;cases e with
 |normal=>
  obtain⟨e2,s2,x2,y2⟩:=y;refine⟨e2,s2,((x.and x2).mono fun n ⟨p,q⟩=>?_:Ev fun n=>exec E (n+1) (.loop b) s=some (e2,s2)).step,y2⟩;simp only[exec,p,q]
 |exit i=>exact⟨_,_,(x.mono fun n p=>by simp only[exec,p]:Ev fun n=>exec E (n+1) (.loop b) s=some (.exit i,s')).step,y⟩
 |ret=>exact⟨_,_,(x.mono fun n p=>by simp only[exec,p]:Ev fun n=>exec E (n+1) (.loop b) s=some (.ret,s')).step,y⟩
theorem ag:∀(c:ACode) (s:St) (Q:Ex→St→Prop),wp E c s Q→Run E c s Q
 |.skip,s,Q,h=>⟨_,_,(Ev.of fun _=>rfl:Ev fun n=>exec E (n+1) .skip s=some (.normal,s)).step,h⟩
 |.ret,s,Q,h=>⟨_,_,(Ev.of fun _=>rfl:Ev fun n=>exec E (n+1) .ret s=some (.ret,s)).step,h⟩
 |.exit i,s,Q,h=>⟨_,_,(Ev.of fun _=>rfl:Ev fun n=>exec E (n+1) (.exit i) s=some (.exit i,s)).step,h⟩
 |.region ops,s,Q,h=>by
  obtain⟨s',x,y⟩:=fA ops s _ h;exact⟨_,_,(x.mono fun n p=>by simp only[exec,p,jo]:Ev fun n=>exec E (n+1) (.region ops) s=some (.normal,s')).step,y⟩
 |.seq a b,s,Q,h=>Run.seq ((ag a s _ h).mono fun e s' k=>by
   cases e with
   |normal=>exact ag b s' Q k
   |exit i=>exact k
   |ret=>exact k)
 |.cond c a b,s,Q,h=>by
  simp only[wp] at h;split at h
  ·rename_i x hx;cases x with
   |true=>
    obtain⟨e,s',x,y⟩:=ag a s Q (h.1 rfl);exact⟨e,s',(x.mono fun n p=>by simp only[exec,hx,p]:Ev fun n=>exec E (n+1) (.cond c a b) s=some (e,s')).step,y⟩
   |false=>
    obtain⟨e,s',x,y⟩:=ag b s Q (h.2 rfl);exact⟨e,s',(x.mono fun n p=>by simp only[exec,hx,p]:Ev fun n=>exec E (n+1) (.cond c a b) s=some (e,s')).step,y⟩
  ·exact h.elim
 |.block id b,s,Q,h=>Run.block (ag b s _ h)
 |.loop b,s,Q,h=>h
 |.draw ops,s,Q,h=>h
 |.range g ps asg body M,s,Q,h=>h
 |.bad why,s,Q,h=>h
def Ans(E:Env)(g:Nat)(l:List AV)(r:AV):Prop:=∃hc,Ev fun n=>enterA E (exec E n) g l .empty=some (r,hc)
theorem Ea{g:Nat}{l:List AV}{r:AV}{h:AH}(hs:E.shared.get g=none)(hk:E.known g l=none)(hm:mapTree h l=some l)
  (hz:l.foldl (fun h v=>freeze deepest v h) h=h) (hr:isFlat r=true) (ht:∀hc,toTree (freeze deepest r hc) deepest r=some r) (a:Ans E g l r):RunCall E (.f g) l h r h:=by
 obtain⟨hc,a⟩:=a;refine a.mono fun n p=>?_
 simp only[aZ,cD,hs,hz,hm,hk,p,ht,hr,cond_true]
end Go.AM
namespace Go.AM
variable {E:Env}{s:St}{K:St→Prop}{r:List AOper}{d:Nat}{dst:Option Nat}
def guardTo(s:St)(g:Option (Nat×Bool))(A B:Prop):Prop:=withV (wantedA s g) fun g=>(g=true→A)∧(g=false→B)
theorem wT:wpOps E [] s K=K s:=rfl
def ifP(b:Bool)(A B:Prop):Prop:=match b with
 |true=>A
 |false=>B
theorem vo{b:Bool}{A B:Prop}:ifP b A B↔(b=true→A)∧(b=false→B):=by
 cases b with
 |true=>exact⟨fun h=>⟨fun _=>h,fun x=>(by cases x)⟩,fun h=>h.1 rfl⟩
 |false=>exact⟨fun h=>⟨fun x=>(by cases x),fun _=>h⟩,fun h=>h.2 rfl⟩
def wantedV(o:Option AV)(b:Bool):Option Bool:=match o with
 |some (.val (.bool c))=>some (c==b)
 |some (.tup [])=>some false
 |_=>none
theorem wW{c:Bool}:wantedV (some (.val (.bool c))) true=some c:=by cases c<;>rfl
theorem wX{c:Bool}:wantedV (some (.val (.bool c))) false=some (!c):=by cases c<;>rfl
theorem wV{b:Bool}:wantedV (some undefA) b=some false:=rfl
theorem Et{t:Nat}{b:Bool}{op:AOp}:wpOps E (⟨dst,some (t,b),op⟩::r) s K=withV (wantedV (s.eval (.t t)) b) fun b=>ifP b (wpOps E (⟨dst,none,op⟩::r) s K) (wpOps E r (s.put dst undefA) K):=by
 have h1:wpOps E (⟨dst,none,op⟩::r) s K=wpOp E op s fun v s'=>wpOps E r ({s' with round:=s.round}.put dst v) K:=by
  simp only[wpOps,wantedA,aJ,true_implies,Bw,false_implies,and_true]
 rw[h1];show withV (wantedV (s.eval (.t t)) b) _=_;cases wantedV (s.eval (.t t)) b with
 |none=>rfl
 |some g=>exact propext (vo (b:=g)).symm
theorem ax{op:AOp}{o:Option AV}(h:runOp E noCall s op=o.map fun v=>(v,s))(hn:∀s' K,wpOp E op s' K=withV (runOp E noCall s' op) fun(v,s'')=>K v s''):
  wpOps E (⟨dst,none,op⟩::r) s K=withV o fun v=>wpOps E r (s.put dst v) K:=by
 simp only[wpOps,wantedA,aJ,true_implies,Bw,false_implies,and_true,hn,h];cases o<;>rfl
theorem bz{op:AOp}{o:Option (AV×AH)}(h:runOp E noCall s op=o.map fun(v,h)=>(v,s.toH h))(hn:∀s' K,wpOp E op s' K=withV (runOp E noCall s' op) fun(v,s'')=>K v s''):
  wpOps E (⟨dst,none,op⟩::r) s K=withV o fun(v,h)=>wpOps E r ((s.toH h).put dst v) K:=by
 simp only[wpOps,wantedA,aJ,true_implies,Bw,false_implies,and_true,hn,h];cases o<;>rfl
theorem dv{o:Option AV}:(o.bind fun v=>some (v,s))=o.map fun v=>(v,s):=by cases o<;>rfl
theorem qL{c:Bool}{v:AV}:(bif c then some (v,s) else none)=B7 (fun v=>(v,s)) (bif c then some v else none):=by cases c<;>rfl
theorem Us{x:Opd}:wpOps E (⟨dst,none,.mv x⟩::r) s K=withV (s.eval x) fun v=>wpOps E r (s.put dst v) K:=
 ax (by simp only[runOp];exact dv) fun _ _=>rfl
def pickV(c a b:Option AV):Option AV:=match c with
 |some (.val (.bool true))=>a
 |some (.val (.bool false))=>b
 |_=>none
theorem Jc {c a b : Opd} : wpOps E (⟨dst, none, .pick c a b⟩ :: r) s K = withV (pickV (s.eval c) (s.eval a) (s.eval b)) fun v => wpOps E r (s.put dst v) K :=
  ax (by
    simp only [runOp];cases s.eval c with
    | none => rfl
    | some v => cases v <;> try rfl
                rename_i v;cases v <;> try rfl
                rename_i x;cases x <;> exact dv) fun _ _ => rfl
theorem Ez{z:List AV}:wpOps E (⟨dst,none,.alloc z⟩::r) s K=wpOps E r ((s.toH (s.h.alloc (.cells z true))).put dst (.ptr s.h.next 0)) K:=
 bz (o:=some (.ptr s.h.next 0,s.h.alloc (.cells z true))) rfl fun _ _=>rfl
theorem Om{x:Opd}:wpOps E (⟨dst,none,.box x⟩::r) s K=withV ((s.eval x).bind AV.cells) fun l=>wpOps E r ((s.toH (s.h.alloc (.cells l true))).put dst (.ptr s.h.next 0)) K:=by
 rw[bz (o:=((s.eval x).bind AV.cells).map fun l=>(.ptr s.h.next 0,s.h.alloc (.cells l true)))]
 ·cases (s.eval x).bind AV.cells<;>rfl
 ·simp only[runOp];cases (s.eval x).bind AV.cells<;>rfl
 ·exact fun _ _=>rfl
theorem Ey{z:List AV}{ps:List (Nat×Nat×Opd)}:wpOps E (⟨dst,none,.build z ps⟩::r) s K=withV (fill s z ps) fun cs=>wpOps E r (s.put dst (.agg cs)) K:=by
 rw[ax (o:=(fill s z ps).map .agg)]
 ·cases fill s z ps<;>rfl
 ·simp only[runOp];cases fill s z ps<;>rfl
 ·exact fun _ _=>rfl
theorem oV{es n:Nat}{z:List AV}{ps:List (Nat×Nat×Opd)}:wpOps E (⟨dst,none,.buildSlice es n z ps⟩::r) s K=withV (fill s z ps) fun cs=>wpOps E r ((s.toH (s.h.alloc (.cells cs true))).put dst (.own s.h.next 0 n es (some n))) K:=by
 rw[bz (o:=(fill s z ps).map fun cs=>(.own s.h.next 0 n es (some n),s.h.alloc (.cells cs true)))]
 ·cases fill s z ps<;>rfl
 ·simp only[runOp];cases fill s z ps<;>rfl
 ·exact fun _ _=>rfl
theorem Je{n:Option Nat}{x:Opd}:wpOps E (⟨dst,none,.load n x⟩::r) s K=withV (s.eval x) fun v=>withV (cellsFrom E.globs s.h v) fun cs=>withV (takeN n cs) fun v=>wpOps E r (s.put dst v) K:=by
 rw[ax (o:=(s.eval x).bind fun v=>(cellsFrom E.globs s.h v).bind (takeN n))]
 ·cases s.eval x with
  |none=>rfl
  |some v=>cases hc:cellsFrom E.globs s.h v with
   |none=>simp only[j9,hc,aJ];rfl
   |some cs=>simp only[j9,hc,aJ]
 ·simp only[runOp];cases s.eval x with
  |none=>rfl
  |some v=>exact dv
 ·exact fun _ _=>rfl
def storeH(h:AH)(n:Nat)(a:AV)(l:List AV):Option AH:=match a with
 |.ptr b off=>match h.get b with
  |some (.cells cs true)=>bif i5 l.length n&&i6 (off+n) cs.length then some (h.put b (some (.cells (putAt cs off l) true))) else none
  |_=>none
 |_=>none
theorem Ew{n:Nat}{a x:Opd}:wpOps E (⟨none,none,.store n a x⟩::r) s K=withV (s.eval a) fun a=>withV ((s.eval x).bind AV.cells) fun l=>withV (storeH s.h n a l) fun h=>wpOps E r (s.toH h) K:=by
 rw[bz (o:=(s.eval a).bind fun a=>((s.eval x).bind AV.cells).bind fun l=>(storeH s.h n a l).map fun h=>(undefA,h))]
 ·cases s.eval a with
  |none=>rfl
  |some a=>cases (s.eval x).bind AV.cells with
   |none=>rfl
   |some l=>
    simp only[j9,aJ];cases storeH s.h n a l<;>rfl
 ·simp only[runOp];cases s.eval a with
  |none=>rfl
  |some a=>cases (s.eval x).bind AV.cells with
   |none=>cases a<;>rfl
   |some l=>
    cases a<;>try rfl
    rename_i b off;simp only[j9,storeH];generalize s.h.get b=o;cases o with
    |none=>rfl
    |some k=>
     cases k<;>try rfl
     rename_i cs rw;cases rw
     ·rfl
     ·show(bif _ then _ else _)=B7 _ (B7 _ (bif _ then _ else _));generalize (i5 l.length n&&i6 (off+n) cs.length)=c;cases c<;>rfl
 ·exact fun _ _=>rfl
theorem On{op:BinOp}{t:TypeId}{g:Bool}{x y:Opd}:wpOps E (⟨dst,none,.bin op t g x y⟩::r) s K=withV (s.eval x) fun a=>withV (s.eval y) fun b=>withV (binA E.P op t g a b) fun v=>wpOps E r (s.put dst v) K:=by
 rw[ax (o:=(s.eval x).bind fun a=>(s.eval y).bind fun b=>binA E.P op t g a b)]
 ·cases s.eval x with
  |none=>rfl
  |some a=>cases s.eval y with
   |none=>rfl
   |some b=>rfl
 ·simp only[runOp];cases s.eval x with
  |none=>rfl
  |some a=>cases s.eval y with
   |none=>rfl
   |some b=>exact dv
 ·exact fun _ _=>rfl
def unV(P:Program)(op:UnOp)(x:AV):Option AV:=match x with
 |.val v=>(evalPure P (Op.unary op v)).bind ofFlat
 |_=>none
theorem Ur{op:UnOp}{x:Opd}:wpOps E (⟨dst,none,.un op x⟩::r) s K=withV (s.eval x) fun a=>withV (unV E.P op a) fun v=>wpOps E r (s.put dst v) K:=by
 rw[ax (o:=(s.eval x).bind (unV E.P op))]
 ·cases s.eval x<;>rfl
 ·exact U26
 ·exact fun _ _=>rfl
def fieldAddrV(off:Nat)(x:AV):Option AV:=match x with
 |.ptr b o=>some (.ptr b (o+off))
 |.iptr cs=>bif i6 off cs.length then some (.iptr (cs.drop off)) else none
 |.val (.pointer (some ⟨g,o,none⟩))=>some (.val (.pointer (some ⟨g,o+off,none⟩)))
 |_=>none
theorem qP{off:Nat}{x:Opd}:wpOps E (⟨dst,none,.fieldAddr off x⟩::r) s K=withV (s.eval x) fun a=>withV (fieldAddrV off a) fun v=>wpOps E r (s.put dst v) K:=by
 rw[ax (o:=(s.eval x).bind (fieldAddrV off))]
 ·cases s.eval x<;>rfl
 ·simp only[runOp];cases s.eval x with
  |none=>rfl
  |some a=>
   simp only[j9,fieldAddrV];cases a<;>try rfl
   ·rename_i v;cases v<;>try rfl
    rename_i p;cases p with
    |none=>rfl
    |some p=>
     obtain⟨g,o,sp⟩:=p;cases sp<;>rfl
   ·exact qL
 ·exact fun _ _=>rfl
def idxAddrSV(es:Nat)(x:AV)(i:Nat):Option AV:=match x with
 |.imm cs n _=>bif iq i n&&i6 (i*es) cs.length then some (.iptr (cs.drop (i*es))) else none
 |.own b off n es' _=>bif iq i n&&i5 es es' then some (.ptr b (off+i*es)) else none
 |_=>none
theorem tH{es:Nat}{x i:Opd}:wpOps E (⟨dst,none,.idxAddrS es x i⟩::r) s K=withV (s.eval x) fun a=>withV ((s.eval i).bind asN) fun i=>withV (idxAddrSV es a i) fun v=>wpOps E r (s.put dst v) K:=by
 rw[ax (o:=(s.eval x).bind fun a=>((s.eval i).bind asN).bind fun i=>idxAddrSV es a i)]
 ·cases s.eval x with
  |none=>rfl
  |some a=>cases (s.eval i).bind asN<;>rfl
 ·simp only[runOp];cases s.eval x with
  |none=>rfl
  |some a=>cases (s.eval i).bind asN with
   |none=>cases a<;>rfl
   |some j=>
    simp only[j9,idxAddrSV];cases a<;>try rfl
    ·rename_i cs n c;exact qL
    ·rename_i b o n es' c;exact qL
 ·exact fun _ _=>rfl
def idxStrV(x:AV)(i:Nat):Option AV:=match x with
 |.val (.string b)=>(b.data.toList[i]?).map fun c=>.val (.int .u8 c.toNat)
 |_=>none
theorem xq{x i:Opd}:wpOps E (⟨dst,none,.idxStr x i⟩::r) s K=withV (s.eval x) fun a=>withV ((s.eval i).bind asN) fun i=>withV (idxStrV a i) fun v=>wpOps E r (s.put dst v) K:=by
 rw[ax (o:=(s.eval x).bind fun a=>((s.eval i).bind asN).bind fun i=>idxStrV a i)]
 ·cases s.eval x with
  |none=>rfl
  |some a=>cases (s.eval i).bind asN<;>rfl
 ·simp only[runOp];cases s.eval x with
  |none=>rfl
  |some a=>cases (s.eval i).bind asN with
   |none=>cases a<;>first|rfl|(rename_i v;cases v<;>rfl)
   |some j=>
    simp only[j9,idxStrV];cases a<;>try rfl
    rename_i v;cases v<;>try rfl
    rename_i b;show(match b.data.toList[j]? with|some c=>some (AV.val (.int .u8 c.toNat),s)|none=>none)=B7 _ (B7 _ (b.data.toList[j]?));generalize b.data.toList[j]? =o;cases o<;>rfl
 ·exact fun _ _=>rfl
def sliceStrV(x:AV)(lo hi:Option Nat):Option AV:=match x with
 |.val (.string b)=>(sliceB b.size b.size lo hi none).map fun(l,h,_)=>.val (.string (b.extract l h))
 |_=>none
theorem tG{x:Opd}{lo hi:Option Opd}:wpOps E (⟨dst,none,.sliceStr x lo hi⟩::r) s K=withV (s.eval x) fun a=>withV (optN s lo) fun lo=>withV (optN s hi) fun hi=>withV (sliceStrV a lo hi) fun v=>wpOps E r (s.put dst v) K:=by
 rw[ax (o:=(s.eval x).bind fun a=>(optN s lo).bind fun lo=>(optN s hi).bind fun hi=>sliceStrV a lo hi)]
 ·cases s.eval x with
  |none=>rfl
  |some a=>cases optN s lo with
   |none=>rfl
   |some lo=>cases optN s hi<;>rfl
 ·simp only[runOp];cases s.eval x with
  |none=>rfl
  |some a=>cases optN s lo with
   |none=>cases a<;>first|rfl|(rename_i v;cases v<;>rfl)
   |some lo=>cases optN s hi with
    |none=>cases a<;>first|rfl|(rename_i v;cases v<;>rfl)
    |some hi=>
     simp only[j9,sliceStrV];cases a<;>try rfl
     rename_i v;cases v<;>try rfl
     rename_i b;show(match sliceB b.size b.size lo hi none with|some (l,h,_)=>some (AV.val (.string (b.extract l h)),s)|none=>none)=B7 _ (B7 _ (sliceB b.size b.size lo hi none));generalize sliceB b.size b.size lo hi none=o;cases o<;>rfl
 ·exact fun _ _=>rfl
def extractV(i:Nat)(x:AV):Option AV:=match x with
 |.tup vs=>vs[i]?
 |_=>none
theorem wY{i:Nat}{x:Opd}:wpOps E (⟨dst,none,.extract i x⟩::r) s K=withV (s.eval x) fun a=>withV (extractV i a) fun v=>wpOps E r (s.put dst v) K:=by
 rw[ax (o:=(s.eval x).bind (extractV i))]
 ·cases s.eval x<;>rfl
 ·exact U26
 ·exact fun _ _=>rfl
def lenV(x:AV):Option AV:=match x with
 |.val (.slice _ 0 _)=>some (.val (.int .i64 0))
 |.imm _ n _=>some (.val (.int .i64 n))
 |.own _ _ n _ _=>some (.val (.int .i64 n))
 |_=>none
theorem Jf{x:Opd}:wpOps E (⟨dst,none,.lenS x⟩::r) s K=withV (s.eval x) fun a=>withV (lenV a) fun v=>wpOps E r (s.put dst v) K:=by
 rw[ax (o:=(s.eval x).bind lenV)]
 ·cases s.eval x<;>rfl
 ·simp only[runOp];cases s.eval x with
  |none=>rfl
  |some a=>
   simp only[j9,lenV];cases a<;>try rfl
   rename_i v;cases v<;>try rfl
   rename_i p n c;cases n<;>rfl
 ·exact fun _ _=>rfl
def lenStrV(x:AV):Option AV:=match x with
 |.val (.string b)=>some (.val (.int .i64 b.size))
 |_=>none
theorem xp{x:Opd}:wpOps E (⟨dst,none,.lenStr x⟩::r) s K=withV (s.eval x) fun a=>withV (lenStrV a) fun v=>wpOps E r (s.put dst v) K:=by
 rw[ax (o:=(s.eval x).bind lenStrV)]
 ·cases s.eval x<;>rfl
 ·simp only[runOp];cases s.eval x with
  |none=>rfl
  |some a=>cases a<;>first|rfl|(rename_i v;cases v<;>rfl)
 ·exact fun _ _=>rfl
def maxV(l:List AV):Option AV:=match l with
 |.val (.int k a)::r=>(mostOf true k a r).map fun m=>.val (.int k m)
 |_=>none
theorem Jd{l:List Opd}:wpOps E (⟨dst,none,.maxI l⟩::r) s K=withV (evalAll s l) fun l=>withV (maxV l) fun v=>wpOps E r (s.put dst v) K:=by
 rw[ax (o:=(evalAll s l).bind maxV)]
 ·cases evalAll s l<;>rfl
 ·simp only[runOp];cases evalAll s l with
  |none=>rfl
  |some l=>
   simp only[j9,maxV];cases l with
   |nil=>rfl
   |cons a t=>
    cases a<;>try rfl
    rename_i v;cases v<;>try rfl
    rename_i k a;show(mostOf true k a t).bind (fun m=>some (AV.val (.int k m),s))=B7 _ (B7 _ (mostOf true k a t));generalize mostOf true k a t=o;cases o<;>rfl
 ·exact fun _ _=>rfl
theorem xo{f:Fn}{a b:List Opd}:wpOps E (⟨dst,none,.mkFunc f a b⟩::r) s K=withV (evalAll s a) fun a=>withV (evalAll s b) fun b=>wpOps E r (s.put dst (.fn f a b)) K:=by
 rw[ax (o:=(evalAll s a).bind fun a=>(evalAll s b).map fun b=>.fn f a b)]
 ·cases evalAll s a with
  |none=>rfl
  |some a=>cases evalAll s b<;>rfl
 ·simp only[runOp];cases evalAll s a with
  |none=>rfl
  |some a=>cases evalAll s b<;>rfl
 ·exact fun _ _=>rfl
theorem Jg{f:Nat}{l:List Opd}:wpOps E (⟨dst,none,.call f l⟩::r) s K=withV (evalAll s l) fun l=>CallTo E (.f f) l s.h fun v h=>wpOps E r ((s.toH h).put dst v) K:=U1
theorem Eh{a b:Nat}(h:b≤a):iq a b=false:=by
 cases e:iq a b with
 |false=>rfl
 |true=>exact absurd (is e:a<b) om
theorem xr{es bytes:Nat}{sl x:Opd}:wpOps E (⟨dst,none,.append es bytes sl x⟩::r) s K=withV (appendA s es bytes sl x) fun(v,s')=>wpOps E r ({s' with round:=s.round}.put dst v) K:=U1
theorem sk:evalAll s []=some []:=rfl
variable {Q:Ex→St→Prop}
def seqK(E:Env)(b:ACode)(Q:Ex→St→Prop)(e:Ex)(s:St):Prop:=match e with
 |.normal=>wp E b s Q
 |e=>Q e s
def blockK(id:Nat)(Q:Ex→St→Prop)(e:Ex)(s:St):Prop:=match e with
 |.exit i=>Q (bif i5 i id then .normal else .exit i) s
 |e=>Q e s
theorem Nn:wp E .skip s Q=Q .normal s:=rfl
theorem Tl:wp E .ret s Q=Q .ret s:=rfl
theorem Np{i:Nat}:wp E (.exit i) s Q=Q (.exit i) s:=rfl
theorem Ee{ops:List AOper}:wp E (.region ops) s Q=wpOps E ops s (Q .normal):=rfl
theorem Tk{a b:ACode}:wp E (.seq a b) s Q=wp E a s (seqK E b Q):=rfl
theorem Hz{id:Nat}{b:ACode}:wp E (.block id b) s Q=wp E b s (blockK id Q):=rfl
def boolV:AV→Option Bool
 |.val (.bool x)=>some x
 |_=>none
theorem Nq{c:Opd}{a b:ACode}:wp E (.cond c a b) s Q=withV ((s.eval c).bind boolV) fun x=>ifP x (wp E a s Q) (wp E b s Q):=by
 simp only[wp];cases s.eval c with
 |none=>rfl
 |some v=>
  cases v<;>try rfl
  rename_i v;cases v<;>try rfl
  rename_i x;exact propext (vo (b:=x)).symm
theorem y7{b:ACode}:seqK E b Q .normal s=wp E b s Q:=rfl
theorem Rs{b:ACode}:seqK E b Q .ret s=Q .ret s:=rfl
theorem Lc{b:ACode}{i:Nat}:seqK E b Q (.exit i) s=Q (.exit i) s:=rfl
theorem Ei{id:Nat}:blockK id Q .normal s=Q .normal s:=rfl
theorem Tm{id:Nat}:blockK id Q .ret s=Q .ret s:=rfl
theorem Nr{id i:Nat}:blockK id Q (.exit i) s=Q (bif i5 i id then .normal else .exit i) s:=rfl
def loopK(E:Env)(l:ACode)(Q:Ex→St→Prop)(e:Ex)(s:St):Prop:=match e with
 |.normal=>Run E l s Q
 |e=>Q e s
theorem aC{l b:ACode}(hl:l=.loop b)(h:wp E b s (loopK E l Q)):Run E l s Q:=by
 subst hl;refine Run.loop ((ag _ _ _ h).mono fun e s' k=>?_);cases e<;>exact k
theorem y4{l:ACode}:loopK E l Q .normal s=Run E l s Q:=rfl
theorem Rh{l:ACode}:loopK E l Q .ret s=Q .ret s:=rfl
theorem Kw{l:ACode}{i:Nat}:loopK E l Q (.exit i) s=Q (.exit i) s:=rfl
theorem gN(k:IntKind):(k==k)=true:=by cases k<;>rfl
theorem Ie{P:Program}{t:TypeId}{g:Bool}{k:IntKind}{a b:Int}:binA P .lss t g (.val (.int k a)) (.val (.int k b))=some (.val (.bool (decide (a<b)))):=by simp only[binA,binInt,gN,cond_true]
theorem Ox{P:Program}{t:TypeId}{g:Bool}{k:IntKind}{a b:Int}:binA P .leq t g (.val (.int k a)) (.val (.int k b))=some (.val (.bool (decide (a≤b)))):=by simp only[binA,binInt,gN,cond_true]
theorem Oy{P:Program}{t:TypeId}{g:Bool}{k:IntKind}{a b:Int}:binA P .gtr t g (.val (.int k a)) (.val (.int k b))=some (.val (.bool (decide (b<a)))):=by simp only[binA,binInt,gN,cond_true]
theorem Oz{P:Program}{t:TypeId}{g:Bool}{k:IntKind}{a b:Int}:binA P .geq t g (.val (.int k a)) (.val (.int k b))=some (.val (.bool (decide (b≤a)))):=by simp only[binA,binInt,gN,cond_true]
theorem Pa{P:Program}{t:TypeId}{g:Bool}{k:IntKind}{a b:Int}:binA P .eql t g (.val (.int k a)) (.val (.int k b))=some (.val (.bool (decide (a=b)))):=by simp only[binA,binInt,gN,cond_true]<;>rfl
theorem Ot{P:Program}{t:TypeId}{g:Bool}{k:IntKind}{a b:Int}:binA P .neq t g (.val (.int k a)) (.val (.int k b))=some (.val (.bool (!decide (a=b)))):=by simp only[binA,binInt,gN,cond_true]<;>rfl
theorem Pb{P:Program}{t:TypeId}{g:Bool}{k:IntKind}{a b:Int}:binA P .add t g (.val (.int k a)) (.val (.int k b))=some (.val (.int k (k.wrap (a+b)))):=by simp only[binA,binInt,gN,cond_true]
theorem Oo{P:Program}{t:TypeId}{g:Bool}{k:IntKind}{a b:Int}:binA P .sub t g (.val (.int k a)) (.val (.int k b))=some (.val (.int k (k.wrap (a-b)))):=by simp only[binA,binInt,gN,cond_true]
theorem Ov{P:Program}{t:TypeId}{g:Bool}{k:IntKind}{a b:Int}:binA P .mul t g (.val (.int k a)) (.val (.int k b))=some (.val (.int k (k.wrap (a*b)))):=by simp only[binA,binInt,gN,cond_true]
def strEq(a b:ByteArray):Bool:=eqBytes a.data.toList b.data.toList
theorem Jj{P:Program}{t:TypeId}{g:Bool}{a b:ByteArray}:binA P .eql t g (.val (.string a)) (.val (.string b))=some (.val (.bool (strEq a b))):=by simp only[binA,binStr,jo,strEq]
theorem Ji{P:Program}{t:TypeId}{g:Bool}{a b:ByteArray}:binA P .neq t g (.val (.string a)) (.val (.string b))=some (.val (.bool (!strEq a b))):=by simp only[binA,binStr,jo,strEq]
theorem Oq{P:Program}{b:Bool}:unV P .not (.val (.bool b))=some (.val (.bool (!b))):=by cases b<;>rfl
theorem Jk{b:Bool}{x y:AV}:pickV (some (.val (.bool b))) (some x) (some y)=some (bif b then x else y):=by cases b<;>rfl
theorem Kt{k:IntKind}{i:Nat}:asN (.val (.int k (Nat.cast i)))=some i:=rfl
theorem Lr{off b o:Nat}:fieldAddrV off (.ptr b o)=some (.ptr b (o+off)):=rfl
def cfB(o:Option Blk)(off:Nat):Option (List AV):=match o with
 |some (.cells cs _)=>bif i6 off cs.length then some (cs.drop off) else none
 |_=>none
theorem Nm{G:Nat→Option (List AV)}{h:AH}{b off:Nat}:cellsFrom G h (.ptr b off)=cfB (h.get b) off:=rfl
theorem Hx{G:Nat→Option (List AV)}{h:AH}{cs:List AV}:cellsFrom G h (.iptr cs)=some cs:=rfl
theorem Nj:AH.empty.next=0:=rfl
theorem vN{h:AH}{x:Blk}:(h.alloc x).next=h.next+1:=rfl
theorem Kl{h:AH}{b:Nat}{x:Option Blk}:(h.put b x).next=h.next:=rfl
theorem Ou{P:Program}{n:Int}:unV P .neg (.val (.int .i64 n))=some (.val (.int .i64 (IntKind.i64.wrap (0-n)))):=rfl
theorem Ow{a b:Nat}:maxV [.val (.int .i64 (a:Int)),.val (.int .i64 (b:Int))]=some (.val (.int .i64 ((max a b:Nat):Int))):=by
 have h:(IntKind.i64==IntKind.i64)=true:=rfl;have k:max (a:Int) (b:Int)=((max a b:Nat):Int):=by omega
 simp only[maxV,mostOf,h,cond_true,jo,k]
theorem x_0{a:AV}{l:List AV}:extractV 0 (.tup (a::l))=some a:=rfl
theorem x_1{a b:AV}{l:List AV}:extractV 1 (.tup (a::b::l))=some b:=rfl
theorem x_2{a b c:AV}{l:List AV}:extractV 2 (.tup (a::b::c::l))=some c:=rfl
theorem Qd{G:Nat→Option (List AV)}:resultsA G s []=some []:=rfl
theorem Qc{G:Nat→Option (List AV)}{t:Nat}{l:List ARes}:resultsA G s (.tmp t::l)=(s.eval (.t t)).bind fun v=>(resultsA G s l).map fun l=>v::l:=by
 have h:s.eval (.t t)=s.tm.get t:=rfl;rw[h];simp only[resultsA];cases s.tm.get t with
 |none=>rfl
 |some v=>cases resultsA G s l<;>rfl
theorem Kg{G:Nat→Option (List AV)}{t:Nat}{n:Option Nat}{l:List ARes}:resultsA G s (.cell t n::l)=(s.eval (.t t)).bind fun v=>(cellsFrom G s.h v).bind fun cs=>(takeN n cs).bind fun v=>(resultsA G s l).map fun l=>v::l:=by
 have h:s.eval (.t t)=s.tm.get t:=rfl;rw[h];simp only[resultsA];cases s.tm.get t with
 |none=>rfl
 |some v=>
  simp only[j9];cases hc:cellsFrom G s.h v with
  |none=>simp only[Option.bind_none]
  |some cs=>
   simp only[j9];cases resultsA G s l with
   |none=>cases takeN n cs<;>rfl
   |some l=>
    show B7 (fun x=>x::l) (takeN n cs)=_;cases takeN n cs<;>rfl
def Leaf(v:AV):Prop:=(∀h n,toTree h (n+1) v=some v)∧∀h n,freeze (n+1) v h=h
def Tree(v:AV):Prop:=(∀h n,toTree h (n+2) v=some v)∧∀h n,freeze (n+2) v h=h
theorem Leaf.val(v:Value):Leaf (.val v):=⟨fun _ _=>rfl,fun _ _=>rfl⟩
theorem Leaf.imm(cs:List AV)(n:Nat)(c:Option Nat):Leaf (.imm cs n c):=⟨fun _ _=>rfl,fun _ _=>rfl⟩
theorem Leaf.tree{v:AV}(h:Leaf v):Tree v:=⟨fun a n=>h.1 a (n+1),fun a n=>h.2 a (n+1)⟩
theorem Tree.val(v:Value):Tree (.val v):=(Leaf.val v).tree
theorem dO{h:AH}{n:Nat}:∀{l:List AV},(∀v∈l,Leaf v)→l.mapM (toTree h (n+1))=some l
 | [],_=>rfl
 |v::l,k=>by
  rw[List.mapM_cons,(k v il).1,dO fun x hx=>k x (j0 _ hx)];rfl
theorem bv{n:Nat}:∀{l:List AV} {h:AH},(∀v∈l,Leaf v)→l.foldl (fun h c=>freeze (n+1) c h) h=h
 | [],_,_=>rfl
 |v::l,h,k=>by
  rw[Bh,(k v il).2];exact bv fun x hx=>k x (j0 _ hx)
theorem Tree.agg{l:List AV}(k:∀v∈l,Leaf v):Tree (.agg l):=
 ⟨fun h n=>(show(l.mapM (toTree h (n+1))).map AV.agg=_ by rw[dO k];rfl),fun h n=>(show l.foldl (fun h c=>freeze (n+1) c h) h=h from bv k)⟩
theorem Tree.tup{l:List AV}(k:∀v∈l,Leaf v):Tree (.tup l):=
 ⟨fun h n=>(show(l.mapM (toTree h (n+1))).map AV.tup=_ by rw[dO k];rfl),fun h n=>(show l.foldl (fun h c=>freeze (n+1) c h) h=h from bv k)⟩
theorem bb{h:AH}:∀{l:List AV},(∀v∈l,Tree v)→mapTree h l=some l
 | [],_=>rfl
 |v::l,k=>by
  have h1:toTree h deepest v=some v:=(k v il).1 h 999999998;simp only[mapTree,h1,bb fun x hx=>k x (j0 _ hx)]
theorem az:∀{l:List AV} {h:AH},(∀v∈l,Tree v)→l.foldl (fun h v=>freeze deepest v h) h=h
 | [],_,_=>rfl
 |v::l,h,k=>by
  have h1:freeze deepest v h=h:=(k v il).2 h 999999998;rw[Bh,h1];exact az fun x hx=>k x (j0 _ hx)
theorem xd{g:Nat}{l:List AV}{r:AV}(hs:E.shared.get g=none)(hk:E.known g l=none)(hl:∀v∈l,Tree v)(hr:isFlat r=true)(ht:Tree r)(a:Ans E g l r)(h:AH):RunCall E (.f g) l h r h:=
 Ea hs hk (bb hl) (az hl) hr (fun hc=>ht.1 _ 999999998) a
theorem iM{p:AV→Prop}{a:AV}(h:p a):∀v∈[a],p v:=fun v hv=>by
 rw[ig.1 hv];exact h
theorem dm{p:AV→Prop}{a b:AV}(h:p a)(k:p b):∀v∈[a,b],p v:=fun v hv=>by
 simp only[i8,List.mem_nil_iff,or_false] at hv;rcases hv with rfl|rfl
 ·exact h
 ·exact k
end Go.AM
namespace Go.AM
variable {E:Env}{s:St}{K:St→Prop}{r:List AOper}{d:Nat}{dst:Option Nat}{Q:Ex→St→Prop}
def stepV(E:Env)(r:List AOper)(s:St)(dst:Option Nat)(K:St→Prop)(o:Option AV):Prop:=withV o fun v=>wpOps E r (s.put dst v) K
def stepH(E:Env)(r:List AOper)(s:St)(dst:Option Nat)(K:St→Prop)(o:Option (AV×AH)):Prop:=withV o fun(v,h)=>wpOps E r ((s.toH h).put dst v) K
def stepS(E:Env)(r:List AOper)(s:St)(K:St→Prop)(o:Option AH):Prop:=withV o fun h=>wpOps E r (s.toH h) K
theorem tN{v:AV}:stepV E r s dst K (some v)=wpOps E r (s.put dst v) K:=rfl
theorem tP{v:AV}{h:AH}:stepH E r s dst K (some (v,h))=wpOps E r ((s.toH h).put dst v) K:=rfl
theorem tO{h:AH}:stepS E r s K (some h)=wpOps E r (s.toH h) K:=rfl
def guardK(E:Env)(dst:Option Nat)(op:AOp)(r:List AOper)(s:St)(K:St→Prop)(o:Option Bool):Prop:=match o with
 |some true=>wpOps E (⟨dst,none,op⟩::r) s K
 |some false=>wpOps E r (s.put dst undefA) K
 |none=>False
theorem zB{op:AOp}:guardK E dst op r s K (some true)=wpOps E (⟨dst,none,op⟩::r) s K:=rfl
theorem zC{op:AOp}:guardK E dst op r s K (some false)=wpOps E r (s.put dst undefA) K:=rfl
theorem s_g{t:Nat}{b:Bool}{op:AOp}:wpOps E (⟨dst,some (t,b),op⟩::r) s K=guardK E dst op r s K (wantedV (s.eval (.t t)) b):=by
 rw[Et];cases wantedV (s.eval (.t t)) b with
 |none=>rfl
 |some g=>cases g<;>rfl
def condK(E:Env)(a b:ACode)(s:St)(Q:Ex→St→Prop)(o:Option AV):Prop:=match o with
 |some (.val (.bool true))=>wp E a s Q
 |some (.val (.bool false))=>wp E b s Q
 |_=>False
theorem Hu{a b:ACode}:condK E a b s Q (some (.val (.bool true)))=wp E a s Q:=rfl
theorem Hv{a b:ACode}:condK E a b s Q (some (.val (.bool false)))=wp E b s Q:=rfl
theorem Kb{c:Opd}{a b:ACode}:wp E (.cond c a b) s Q=condK E a b s Q (s.eval c):=by
 rw[Nq];cases s.eval c with
 |none=>rfl
 |some v=>
  cases v<;>try rfl
  rename_i v;cases v<;>try rfl
  rename_i x;cases x<;>rfl
theorem Ux{x:Opd}:wpOps E (⟨dst,none,.mv x⟩::r) s K=stepV E r s dst K (s.eval x):=Us
theorem Jw{c a b:Opd}:wpOps E (⟨dst,none,.pick c a b⟩::r) s K=stepV E r s dst K (pickV (s.eval c) (s.eval a) (s.eval b)):=Jc
def boxO(h:AH):Option (List AV)→Option (AV×AH)
 |some l=>some (.ptr h.next 0,h.alloc (.cells l true))
 |none=>none
theorem xh{h:AH}{l:List AV}:boxO h (some l)=some (.ptr h.next 0,h.alloc (.cells l true)):=rfl
theorem Pz{x:Opd}:wpOps E (⟨dst,none,.box x⟩::r) s K=stepH E r s dst K (boxO s.h ((s.eval x).bind AV.cells)):=by
 rw[Om];cases (s.eval x).bind AV.cells<;>rfl
def aggO:Option (List AV)→Option AV
 |some l=>some (.agg l)
 |none=>none
theorem xk{l:List AV}:aggO (some l)=some (.agg l):=rfl
theorem Fj{z:List AV}{ps:List (Nat×Nat×Opd)}:wpOps E (⟨dst,none,.build z ps⟩::r) s K=stepV E r s dst K (aggO (fill s z ps)):=by
 rw[Ey];cases fill s z ps<;>rfl
def ownO(h:AH)(es n:Nat):Option (List AV)→Option (AV×AH)
 |some l=>some (.own h.next 0 n es (some n),h.alloc (.cells l true))
 |none=>none
theorem wq{h:AH}{es n:Nat}{l:List AV}:ownO h es n (some l)=some (.own h.next 0 n es (some n),h.alloc (.cells l true)):=rfl
theorem ou{es n:Nat}{z:List AV}{ps:List (Nat×Nat×Opd)}:wpOps E (⟨dst,none,.buildSlice es n z ps⟩::r) s K=stepH E r s dst K (ownO s.h es n (fill s z ps)):=by
 rw[oV];cases fill s z ps<;>rfl
theorem Jy{n:Option Nat}{x:Opd}:wpOps E (⟨dst,none,.load n x⟩::r) s K=stepV E r s dst K (((s.eval x).bind (cellsFrom E.globs s.h)).bind (takeN n)):=by
 rw[Je];cases s.eval x with
 |none=>rfl
 |some v=>
  simp only[aJ,j9];cases cellsFrom E.globs s.h v<;>rfl
def storeO(h:AH)(n:Nat):Option AV→Option (List AV)→Option AH
 |some a,some l=>storeH h n a l
 |_,_=>none
theorem qS{h:AH}{n:Nat}{a:AV}{l:List AV}:storeO h n (some a) (some l)=storeH h n a l:=rfl
theorem Fg{n:Nat}{a x:Opd}:wpOps E (⟨none,none,.store n a x⟩::r) s K=stepS E r s K (storeO s.h n (s.eval a) ((s.eval x).bind AV.cells)):=by
 rw[Ew];cases s.eval a with
 |none=>rfl
 |some a=>cases (s.eval x).bind AV.cells<;>rfl
def binO(P:Program)(op:BinOp)(t:TypeId)(g:Bool):Option AV→Option AV→Option AV
 |some a,some b=>binA P op t g a b
 |_,_=>none
theorem xi{P:Program}{op:BinOp}{t:TypeId}{g:Bool}{a b:AV}:binO P op t g (some a) (some b)=binA P op t g a b:=rfl
theorem Qa{op:BinOp}{t:TypeId}{g:Bool}{x y:Opd}:wpOps E (⟨dst,none,.bin op t g x y⟩::r) s K=stepV E r s dst K (binO E.P op t g (s.eval x) (s.eval y)):=by
 rw[On];cases s.eval x with
 |none=>rfl
 |some a=>cases s.eval y<;>rfl
theorem Uw{op:UnOp}{x:Opd}:wpOps E (⟨dst,none,.un op x⟩::r) s K=stepV E r s dst K ((s.eval x).bind (unV E.P op)):=by
 rw[Ur];cases s.eval x<;>rfl
theorem qa{off:Nat}{x:Opd}:wpOps E (⟨dst,none,.fieldAddr off x⟩::r) s K=stepV E r s dst K ((s.eval x).bind (fieldAddrV off)):=by
 rw[qP];cases s.eval x<;>rfl
def idxO(es:Nat):Option AV→Option Nat→Option AV
 |some a,some i=>idxAddrSV es a i
 |_,_=>none
theorem xM{es i:Nat}{a:AV}:idxO es (some a) (some i)=idxAddrSV es a i:=rfl
theorem tV{es:Nat}{x i:Opd}:wpOps E (⟨dst,none,.idxAddrS es x i⟩::r) s K=stepV E r s dst K (idxO es (s.eval x) ((s.eval i).bind asN)):=by
 rw[tH];cases s.eval x with
 |none=>rfl
 |some a=>cases (s.eval i).bind asN<;>rfl
def idxSO:Option AV→Option Nat→Option AV
 |some a,some i=>idxStrV a i
 |_,_=>none
theorem uC{i:Nat}{a:AV}:idxSO (some a) (some i)=idxStrV a i:=rfl
theorem yG{x i:Opd}:wpOps E (⟨dst,none,.idxStr x i⟩::r) s K=stepV E r s dst K (idxSO (s.eval x) ((s.eval i).bind asN)):=by
 rw[xq];cases s.eval x with
 |none=>rfl
 |some a=>cases (s.eval i).bind asN<;>rfl
def sliceO:Option AV→Option (Option Nat)→Option (Option Nat)→Option AV
 |some a,some lo,some hi=>sliceStrV a lo hi
 |_,_,_=>none
theorem qX{a:AV}{lo hi:Option Nat}:sliceO (some a) (some lo) (some hi)=sliceStrV a lo hi:=rfl
theorem tU{x:Opd}{lo hi:Option Opd}:wpOps E (⟨dst,none,.sliceStr x lo hi⟩::r) s K=stepV E r s dst K (sliceO (s.eval x) (optN s lo) (optN s hi)):=by
 rw[tG];cases s.eval x with
 |none=>rfl
 |some a=>cases optN s lo with
  |none=>rfl
  |some lo=>cases optN s hi<;>rfl
theorem wi{i:Nat}{x:Opd}:wpOps E (⟨dst,none,.extract i x⟩::r) s K=stepV E r s dst K ((s.eval x).bind (extractV i)):=by
 rw[wY];cases s.eval x<;>rfl
theorem Jz{x:Opd}:wpOps E (⟨dst,none,.lenS x⟩::r) s K=stepV E r s dst K ((s.eval x).bind lenV):=by
 rw[Jf];cases s.eval x<;>rfl
theorem yF{x:Opd}:wpOps E (⟨dst,none,.lenStr x⟩::r) s K=stepV E r s dst K ((s.eval x).bind lenStrV):=by
 rw[xp];cases s.eval x<;>rfl
theorem Jx{l:List Opd}:wpOps E (⟨dst,none,.maxI l⟩::r) s K=stepV E r s dst K ((evalAll s l).bind maxV):=by
 rw[Jd];cases evalAll s l<;>rfl
def fnO(f:Fn):Option (List AV)→Option (List AV)→Option AV
 |some a,some b=>some (.fn f a b)
 |_,_=>none
theorem zP{f:Fn}{a b:List AV}:fnO f (some a) (some b)=some (.fn f a b):=rfl
theorem yE{f:Fn}{a b:List Opd}:wpOps E (⟨dst,none,.mkFunc f a b⟩::r) s K=stepV E r s dst K (fnO f (evalAll s a) (evalAll s b)):=by
 rw[xo];cases evalAll s a with
 |none=>rfl
 |some a=>cases evalAll s b<;>rfl
def mj(E:Env)(f:Nat)(r:List AOper)(s:St)(dst:Option Nat)(K:St→Prop)(o:Option (List AV)):Prop:=withV o fun l=>CallTo E (.f f) l s.h fun v h=>wpOps E r ((s.toH h).put dst v) K
theorem Kc{f:Nat}{l:List Opd}:wpOps E (⟨dst,none,.call f l⟩::r) s K=mj E f r s dst K (evalAll s l):=Jg
theorem aG{f:Nat}{l:List AV}{v:AV}(h:∀h,RunCall E (.f f) l h v h):mj E f r s dst K (some l)=wpOps E r (s.put dst v) K:=by
 show CallTo E (.f f) l s.h _=_;exact propext (mh (h s.h))
theorem Eb{f:Nat}{l:List AV}{v:AV}{h':AH}(h:RunCall E (.f f) l s.h v h'):mj E f r s dst K (some l)=wpOps E r ((s.toH h').put dst v) K:=by
 show CallTo E (.f f) l s.h _=_;exact propext (mh h)
def consO:Option AV→Option (List AV)→Option (List AV)
 |some a,some l=>some (a::l)
 |_,_=>none
theorem ux{a:AV}{l:List AV}:consO (some a) (some l)=some (a::l):=rfl
theorem To{x:Opd}{l:List Opd}:evalAll s (x::l)=consO (s.eval x) (evalAll s l):=by
 simp only[evalAll];cases s.eval x with
 |none=>rfl
 |some v=>cases evalAll s l<;>rfl
theorem Fm{G:Nat→Option (List AV)}{t:Nat}{l:List ARes}:resultsA G s (.tmp t::l)=consO (s.eval (.t t)) (resultsA G s l):=by
 rw[Qc];cases s.eval (.t t) with
 |none=>rfl
 |some v=>cases resultsA G s l<;>rfl
theorem yJ{G:Nat→Option (List AV)}{t:Nat}{n:Option Nat}{l:List ARes}:resultsA G s (.cell t n::l)=consO (((s.eval (.t t)).bind (cellsFrom G s.h)).bind (takeN n)) (resultsA G s l):=by
 rw[Kg];cases s.eval (.t t) with
 |none=>rfl
 |some v=>
  simp only[j9];cases cellsFrom G s.h v with
  |none=>rfl
  |some cs=>
   simp only[j9];cases takeN n cs with
   |none=>rfl
   |some x=>cases resultsA G s l<;>rfl
theorem n_0{k:IntKind}:asN (.val (.int k 0))=some 0:=rfl
theorem n_1{k:IntKind}:asN (.val (.int k 1))=some 1:=rfl
end Go.AM
namespace Go.AM
variable {E:Env}
theorem yV{h:AH}{b k es:Nat}{cap:Option Nat}{cs:List AV}{rw:Bool}(hb:h.get b=some (.cells cs rw))(hl:cs.length=k*es)(hv:∀v∈cs,Leaf v):
  toTree (freeze deepest (.own b 0 k es cap) h) deepest (.own b 0 k es cap)=some (.imm cs k cap):=by
 have e1:freeze deepest (.own b 0 k es cap) h=h.put b (some (.cells cs false)):=by
  show(match h.get b with
   |some (.cells cs _)=>((cs.drop 0).take (k*es)).foldl (fun h c=>freeze 999999999 c h) (h.put b (some (.cells cs false)))
   |_=>h)=_
  rw[hb];simp only[jj];rw[jl om];exact bv hv
 rw[e1];have hg:(h.put b (some (.cells cs false))).get b=some (.cells cs false):=by rw[AH.get_put,if_pos rfl]
 rw[show deepest=999999999+1 from rfl,toTree.eq_def];simp only[hg];have h1:i6 (0+k*es) cs.length=true:=iu.mpr om;simp only[h1,cond_true,jj];rw[jl om,dO hv];rfl
end Go.AM
namespace Go.AM
variable {E:Env}{s:St}{K:St→Prop}{r:List AOper}{d:Nat}{dst:Option Nat}
def Row(lo:Nat)(h:AH)(v:AV)(cs:List AV):Prop:=(v=.val (.slice none 0 0)∧cs=[])∨∃b,lo≤b∧b<h.next∧cs≠ []∧v=.own b 0 cs.length 1 none∧h.get b=some (.cells cs true)
theorem Row.to{lo:Nat}{h h':AH}{v:AV}{cs:List AV}(hr:Row lo h v cs)(hn:h.next≤h'.next)(hg:∀b,b<h.next→h'.get b=h.get b):Row lo h' v cs:=by
 rcases hr with⟨rfl,rfl⟩|⟨c,h1,h2,h3,rfl,h4⟩
 ·exact .inl ⟨rfl,rfl⟩
 ·exact .inr ⟨c,h1,om,h3,rfl,by rw[hg c h2,h4]⟩
theorem cR{es bytes:Nat}{sl x:Opd}:wpOps E (⟨dst,none,.append es bytes sl x⟩::r) s K=withV (appendA s es bytes sl x) fun(v,s')=>wpOps E r ({s' with round:=s.round}.put dst v) K:=xr
def sliceSO(h:AH)(es:Nat):Option AV→Option (Option Nat)→Option (Option Nat)→Option (Option Nat)→Option AV
 |some v,some lo,some hi,some mx=>(sliceA' es v lo hi mx).or (sliceW h es v lo hi mx)
 |_,_,_,_=>none
theorem oo{h:AH}{es:Nat}{v:AV}{lo hi mx:Option Nat}:sliceSO h es (some v) (some lo) (some hi) (some mx)=(sliceA' es v lo hi mx).or (sliceW h es v lo hi mx):=rfl
theorem Ge{α:Type}{a:α}{b:Option α}:(some a).or b=some a:=rfl
theorem yD{es:Nat}{x:Opd}{lo hi mx:Option Opd}:wpOps E (⟨dst,none,.sliceS es x lo hi mx⟩::r) s K=stepV E r s dst K (sliceSO s.h es (s.eval x) (optN s lo) (optN s hi) (optN s mx)):=by
 rw[ax (o:=sliceSO s.h es (s.eval x) (optN s lo) (optN s hi) (optN s mx))]
 ·rfl
 ·simp only[runOp];cases s.eval x with
  |none=>rfl
  |some v=>cases optN s lo with
   |none=>rfl
   |some lo=>cases optN s hi with
    |none=>rfl
    |some hi=>cases optN s mx with
     |none=>rfl
     |some mx=>exact dv
 ·exact fun _ _=>rfl
theorem Kn:optN s none=some none:=rfl
def optM:Option AV→Option (Option Nat)
 |some v=>(asN v).map some
 |none=>none
theorem Km{x:Opd}:optN s (some x)=optM (s.eval x):=by
 simp only[optN,optM];cases s.eval x<;>rfl
theorem wu{v:AV}:optM (some v)=(asN v).map some:=rfl
theorem slice_mid{b:ByteArray}{i j:Nat}(h:i≤j)(k:j≤b.size):sliceStrV (.val (.string b)) (some i) (some j)=some (.val (.string (b.extract i j))):=by
 have h1:i6 b.size b.size=true:=iu.mpr (i7 _);have h2:i6 j b.size=true:=iu.mpr k;have h3:i6 i j=true:=iu.mpr h;simp only[sliceStrV,sliceB,Option.getD_none,Option.getD_some,h1,h2,h3,Option.isNone_none,Bool.true_or,ip,cond_true,jo]
theorem Fc{v:AV}{l:List AV}:takeN none (v::l)=some v:=rfl
end Go.AM
namespace Go.AM
variable {E:Env}{s:St}{K:St→Prop}
def DrawTo(E:Env)(ops:List DOp)(done:List DRec)(s:St)(K:St→Prop):Prop:=∃s',Ev (fun n=>runDraw E (aZ E (exec E n)) ops done s=some s')∧K s'
theorem bO{done:List DRec}(h:K s):DrawTo E [] done s K:=⟨s,Ev.of fun _=>rfl,h⟩
theorem yH{ops:List DOp}{Q:Ex→St→Prop}(h:DrawTo E ops [] s (Q .normal))(hn:lastSeq ops=none:=by rfl):Run E (.draw ops) s Q:=by
 obtain⟨s',x,y⟩:=h;exact⟨_,_,(x.mono fun n p=>by simp only[exec,runDrawX,hn,iF (done:=[]) p,jo]:Ev fun n=>exec E (n+1) (.draw ops) s=some (.normal,s')).step,y⟩
theorem bT{ops pre:List DOp}{d:DOp}{Q:Ex→St→Prop}(hl:lastSeq ops=some (pre,d))(h:DrawTo E pre [] s fun s1=>wpOps E [d.o] s1 (Q .normal)):Run E (.draw ops) s Q:=by
 obtain⟨s',x,y⟩:=h;obtain⟨s2,x2,y2⟩:=fA _ _ _ y;exact⟨_,_,((x.and x2).mono fun n ⟨p,q⟩=>by simp only[exec,runDrawX,hl,iF (done:=[]) p,q,jo]:Ev fun n=>exec E (n+1) (.draw ops) s=some (.normal,s2)).step,y2⟩
def Quiet(r:DRec):Prop:=r.D=[]∧r.lo=r.hi
theorem eR{r:DRec}(h:Quiet r)(l:List Nat):touches r l=false:=by
 obtain⟨F,D,lo,hi⟩:=r;obtain⟨h1,h2⟩:=h;simp only at h1 h2;subst h1;subst h2;unfold touches;rw[List.any_eq_false];intro x _;have:(i6 lo x&&iq x lo)=false:=by
  cases a:i6 lo x with
  |false=>rfl
  |true=>
   cases b:iq x lo with
   |false=>rfl
   |true=>
    have h1:=is a;have h2:x<lo:=is b;omega
 simp only[memN,List.any_nil,Bool.false_or,this,ju,not_false_eq_true]
theorem lT{done:List DRec}{b:DRec}(hq:∀x∈done,Quiet x)(hb:Quiet b):∀{l:List Nat},(∀i∈l,i<done.length)→freeOk done b l=true
 | [],_=>rfl
 |i::r,h=>by
  have hi:=h i il;have ha:Quiet done[i]:=hq _ (List.getElem_mem hi);simp only[freeOk,List.getElem?_eq_getElem hi,recApart,eR ha,hb.1,List.any_nil,Bool.not_false,ip,Bool.true_and];exact lT hq hb fun j hj=>h j (j0 _ hj)
theorem dC{d:DOp}{r:List DOp}{done:List DRec}{v:AV}{l:List Nat}(hq:∀x∈done,Quiet x)(hf:∀i∈d.free,i<done.length)
  (hs:Ev fun n=>stepDraw E (aZ E (exec E n)) d (nearOf done d.free) s=some (v,⟨l,[],s.h.next,s.h.next⟩,s.h))
  (k:DrawTo E r (done++[⟨l,[],s.h.next,s.h.next⟩]) (s.put d.o.dst v) K):DrawTo E (d::r) done s K:=by
 obtain⟨s',x,y⟩:=k;refine⟨s',(hs.and x).mono fun n ⟨a,b⟩=>?_,y⟩;have hfree:freeOk done ⟨l,[],s.h.next,s.h.next⟩ d.free=true:=lT hq ⟨rfl,rfl⟩ hf;simp only[runDraw,a,hfree,cond_true];cases hd:d.o.dst with
 |none=>rw[hd] at b;exact b
 |some t=>rw[hd] at b;exact b
theorem lj{h:AH}{l:List Nat}:mergeH h [] (restrictH h l)=h:=by
 simp only[mergeH,restrictH,Nat.sub_self,copyNew,copyOld]
def seen(s:St)(reads l:List Nat):St:={tm:=pickTm s.tm reads,h:=restrictH s.h l,defers:=[],round:=s.round}
theorem dM{α:Type}:∀{t:Tr α} {x:α},x∈t.vals→∃k,t.get k=some x
 |.nil,x,h=>by simp only[Tr.vals,List.not_mem_nil] at h
 |.nd l v r,x,h=>by
  simp only[Tr.vals,jc] at h;rcases h with h|h|h
  ·cases v with
   |none=>cases h
   |some y=>
    rw[ig.1 h];exact⟨0,rfl⟩
  ·obtain⟨k,hk⟩:=dM h;refine⟨2*k+1,?_⟩;have h1:i5 (2*k+1) 0=false:=rfl;have h2:(2*k+1)%2=1:=by omega
   have h3:(2*k+1)/2=k:=by omega
   simp only[Tr.get,h1,cond_false,h2,h3,Nat.beq_refl,cond_true,hk]
  ·obtain⟨k,hk⟩:=dM h;refine⟨2*k+2,?_⟩;have h1:i5 (2*k+2) 0=false:=rfl;have h2:(2*k+2)%2=0:=by omega
   have h3:(2*k+2)/2-1=k:=by omega
   have h4:i5 0 1=false:=rfl;simp only[Tr.get,h1,cond_false,h2,h3,h4,hk]
theorem rj:∀{l:List AV},(∀x∈l,ids x=[])→idsL l=[]
 | [],_=>rfl
 |a::r,h=>by
  simp only[idsL,h a il,iz];exact rj fun x hx=>h x (j0 _ hx)
end Go.AM
namespace Go.AM
variable {E:Env}{s:St}{K:St→Prop}{r:List DOp}{done:List DRec}
theorem iH{α:Type}(x:α):∀(n k:Nat),k<n→(Tr.putF n .nil k (some x)).vals=[x]
 |0,k,h=>by omega
 |n+1,k,h=>by
  simp only[Tr.putF];cases k with
  |zero=>rfl
  |succ k=>
   have h0:i5 (k+1) 0=false:=rfl;simp only[h0,cond_false];cases hb:i5 ((k+1)%2) 1 with
   |true=>
    simp only[cond_true,Tr.vals,iz];rw[iH x n _ om,j6]
   |false=>
    simp only[cond_false,Tr.vals,iz];exact iH x n _ om
theorem yk{tm:Tr AV}{t:Nat}{v:AV}(h:tm.get t=some v):(pickTm tm [t]).vals=[v]:=by
 simp only[pickTm,h,Tr.put];exact iH v _ _ om
theorem vd{t:Nat}{v:AV}(h:s.eval (.t t)=some v):idsL (pickTm s.tm [t]).vals=ids v:=by
 have hg:s.tm.get t=some v:=h;rw[yk hg];simp only[idsL,j6]
theorem Ih{l F:List Nat}{t:Nat}(h:t∈l):(seen s l F).tm.get t=s.tm.get t:=by
 simp only[seen,aw,if_pos h]
end Go.AM
namespace Go.AM
variable {E:Env}{s:St}{K:St→Prop}
def niceV(h:AH)(v:AV):Bool:=(ids v).all fun b=>iq b h.next&&match h.get b with
 |some (.cells cs _)=>below h.next (idsL cs)
 |_=>false
def niceT(h:AH):Option AV→Bool
 |some v=>niceV h v
 |none=>true
def plainT:Option AV→Bool
 |some v=>(ids v).isEmpty
 |none=>true
def opdIn(l:List Nat):Opd→Bool
 |.t i=>memN l i
 |.c v=>(ids v).isEmpty
def optIn(l:List Nat):Option Opd→Bool
 |none=>true
 |some x=>opdIn l x
def calmOp(l:List Nat):AOp→Bool
 |.mv x|.nilck x|.un _ x|.conv _ x|.strOfBytes x|.fieldAddr _ x|.extract _ x|.lenS x|.lenStr x=>opdIn l x
 |.load _ (.t i)=>memN l i
 |.pick a b c=>opdIn l a&&opdIn l b&&opdIn l c
 |.bin _ _ _ x y|.idxAddrS _ x y|.idxStr x y=>opdIn l x&&opdIn l y
 |.build _ ps=>ps.all fun p=>opdIn l p.2.2
 |.sliceS _ x a b c=>opdIn l x&&optIn l a&&optIn l b&&optIn l c
 |_=>false
def guardIn(l:List Nat):Option (Nat×Bool)→Bool
 |none=>true
 |some (i,_)=>memN l i
def calmD(d:DOp):Bool:=guardIn d.reads d.o.guard&&match d.o.op with
 |.call _ l=>l.all (opdIn d.reads)
 |op=>calmOp d.reads op
def calmAt:Nat→List DOp→Bool
 |_,[]=>true
 |i,d::r=>d.free.all (fun j=>iq j i)&&calmD d&&calmAt (i+1) r
def wpDr(E:Env):List DOp→St→(St→Prop)→Prop
 | [],s,K=>K s
 |⟨⟨dst,g,op⟩,rd,_⟩::r,s,K=>(rd.all fun t=>niceT s.h (s.eval (.t t)))=true∧guardTo s g
   (match op with
   |.call f l=>(rd.all fun t=>plainT (s.eval (.t t)))=true∧withV (evalAll s l) fun l=>∃v,(∀h,RunCall E (.f f) l h v h)∧wpDr E r (s.put dst v) K
   |op=>wpOps E [⟨dst,none,op⟩] s fun s'=>wpDr E r s' K)
   (wpDr E r (s.put dst undefA) K)
theorem cA:∀{l:List Nat} {i:Nat},memN l i=true→i∈l
 |a::r,i,h=>by
  simp only[memN,List.any_cons,Bool.or_eq_true] at h;rcases h with h|h
  ·rw[Nat.eq_of_beq_eq_true h];exact il
  ·exact j0 _ (cA h)
theorem aX{l F:List Nat}{x:Opd}(h:opdIn l x=true):(seen s l F).eval x=s.eval x:=by
 cases x with
 |c v=>rfl
 |t i=>exact Ih (cA h)
theorem lH{l F:List Nat}{x:Option Opd}(h:optIn l x=true):optN (seen s l F) x=optN s x:=by
 cases x with
 |none=>rfl
 |some x=>simp only[optN,aX h]
theorem lI{l F:List Nat}:∀{xs:List Opd},xs.all (opdIn l)=true→evalAll (seen s l F) xs=evalAll s xs
 | [],_=>rfl
 |x::r,h=>by
  simp only[j4,i9] at h;simp only[evalAll,aX h.1,lI h.2]
theorem iE{l F:List Nat}:∀{ps:List (Nat×Nat×Opd)} {z:List AV},(ps.all fun p=>opdIn l p.2.2)=true→fill (seen s l F) z ps=fill s z ps
 | [],_,_=>rfl
 |(a,b,x)::r,z,h=>by
  simp only[j4,i9] at h;simp only[fill,aX h.1];cases s.eval x with
  |none=>rfl
  |some v=>
   simp only;cases v.cells with
   |none=>rfl
   |some c=>
    simp only;cases (i5 c.length b&&i6 (a+b) z.length) with
    |false=>rfl
    |true=>exact iE h.2
theorem br{l F:List Nat}{g:Option (Nat×Bool)}(h:guardIn l g=true):wantedA (seen s l F) g=wantedA s g:=by
 cases g with
 |none=>rfl
 |some p=>
  obtain⟨i,b⟩:=p;have:=Ih (s:=s) (F:=F) (cA h);simp only[wantedA,this]
theorem b9{α:Type}{x:α}:∀{t:Tr α} {k:Nat},t.get k=some x→x∈t.vals
 |.nil,k,h=>by cases h
 |.nd l v r,k,h=>by
  simp only[Tr.vals,jc];simp only[Tr.get] at h;cases hb:i5 k 0 with
  |true=>
   rw[hb] at h;simp only[cond_true] at h;rw[h];exact .inl (ig.2 rfl)
  |false=>
   rw[hb] at h;simp only[cond_false] at h;cases hc:i5 (k%2) 1 with
   |true=>
    rw[hc] at h;exact .inr (.inl (b9 h))
   |false=>
    rw[hc] at h;exact .inr (.inr (b9 h))
theorem cm{l:List AV}{v:AV}(h:v∈l):∀b∈ids v,b∈idsL l:=by
 induction l with
 |nil=>cases h
 |cons a r ih=>
  intro b hb;simp only[idsL,jc];rcases i8.1 h with rfl|h
  ·exact .inl hb
  ·exact .inr (ih h b hb)
theorem kc{l:List AV}{b:Nat}(h:b∈idsL l):∃v∈l,b∈ids v:=by
 induction l with
 |nil=>cases h
 |cons a r ih=>
  simp only[idsL,jc] at h;rcases h with h|h
  ·exact⟨a,il,h⟩
  ·obtain⟨v,hv,hb⟩:=ih h;exact⟨v,j0 _ hv,hb⟩
theorem aV{h:AH}{b:Nat}:∀{l:List Nat},b∈l→(restrictH h l).get b=h.get b
 |a::r,hb=>by
  simp only[restrictH,restrictT,AH.get,Tr.get_put]
  by_cases e:b=a
  ·rw[if_pos e,e]
  ·rw[if_neg e];exact aV (h:=h) (List.mem_of_ne_of_mem e hb)
def footed:AOp→Bool
 |.load .. |.strOfBytes _|.lenS _|.lenStr _|.conv .. |.idxStr .. |.sliceS .. =>true
 |_=>false
def theFoot(op:AOp)(vs:List Nat):List Nat:=bif footed op then vs else []
theorem xP{l vs:List Nat}{op:AOp}{s':St}(h:calmOp l op=true):foot s' vs op=theFoot op vs:=U0
theorem qR{l:List Nat}{op:AOp}{s':St}(h:calmOp l op=true):turned s' op=[]:=U0
theorem xe{l:List Nat}{op:AOp}(h:calmOp l op=true):isCall op=false:=U0
theorem uz{l:List Nat}{i:Nat}{v:AV}{G:Nat→Option (List AV)}(hi:i∈l)(hv:s.eval (.t i)=some v):cellsFrom G (restrictH s.h (idsL (pickTm s.tm l).vals)) v=cellsFrom G s.h v:=by
 have hp:(pickTm s.tm l).get i=some v:=by rw[aw,if_pos hi];exact hv
 have hm:v∈(pickTm s.tm l).vals:=b9 hp;cases v with
 |ptr b off=>
  have:b∈idsL (pickTm s.tm l).vals:=cm hm b (by simp only[ids,ig])
  simp only[cellsFrom,aV this]
 |val x=>
  cases x with
  |pointer p=>
   cases p with
   |none=>rfl
   |some a=>
    obtain⟨g,o,sp⟩:=a;cases sp<;>rfl
  |_=>rfl
 |_=>rfl
theorem ur{l:List Nat}{x:Opd}{v:AV}{es:Nat}(hi:opdIn l x=true)(hv:s.eval x=some v):elemsOf (restrictH s.h (idsL (pickTm s.tm l).vals)) es v=elemsOf s.h es v:=by
 cases v with
 |own b off n es' cap=>
  have:b∈idsL (pickTm s.tm l).vals:=by
   cases x with
   |c w=>
    cases hv;simp only[opdIn,ids,List.isEmpty_cons,ju] at hi
   |t i=>
    have hp:(pickTm s.tm l).get i=some (.own b off n es' cap):=by rw[aw,if_pos (cA hi)];exact hv
    exact cm (b9 hp) b (by simp only[ids,ig])
  simp only[elemsOf,aV this]
 |val x=>
  cases x with
  |slice p a b=>
   cases p with
   |some p=>cases a<;>rfl
   |none=>cases a<;>cases b<;>rfl
  |_=>rfl
 |_=>rfl
theorem tR{l:List Nat}{x:Opd}{v:AV}{es:Nat}{lo hi mx:Option Nat}(hi':opdIn l x=true)(hv:s.eval x=some v):sliceW (restrictH s.h (idsL (pickTm s.tm l).vals)) es v lo hi mx=sliceW s.h es v lo hi mx:=by
 cases v with
 |own b off n es' cap=>
  have:b∈idsL (pickTm s.tm l).vals:=by
   cases x with
   |c w=>
    cases hv;simp only[opdIn,ids,List.isEmpty_cons,ju] at hi'
   |t i=>
    have hp:(pickTm s.tm l).get i=some (.own b off n es' cap):=by rw[aw,if_pos (cA hi')];exact hv
    exact cm (b9 hp) b (by simp only[ids,ig])
  cases cap with
  |some c=>rfl
  |none=>
   cases hi with
   |none=>rfl
   |some k=>
    cases mx with
    |some m=>rfl
    |none=>simp only[sliceW,aV this]
 |_=>rfl
def nilckV(E:Env):AV→Option AV
 |.val (.pointer none)|.val .nilIface|.val .nilFunc|.val (.func ..)=>none
 |.fn (.method name) (.ifc t v::a) b=>match E.meth t name with
  |some _=>some (.fn (.method name) (.ifc t v::a) b)
  |none=>none
 |.fn (.method _) _ _=>none
 |.yld _=>none
 |v=>some v
theorem rP{x:Opd}{call:Cle→List AV→AH→Option (AV×AH)}:runOp E call s (.nilck x)=(s.eval x).bind fun v=>(nilckV E v).map fun w=>(w,s):=by
 simp only[runOp];cases s.eval x with
 |none=>rfl
 |some v=>
  simp only[j9];cases v with
  |val y=>
   cases y with
   |pointer p=>cases p<;>rfl
   |_=>rfl
  |fn f a b=>
   cases f with
   |method nm=>
    cases a with
    |nil=>rfl
    |cons c a=>
     cases c with
     |ifc t v=>
      simp only[nilckV];cases E.meth t nm<;>rfl
     |_=>rfl
   |_=>rfl
  |_=>rfl
def strB(h:AH):AV→Option AV
 |.val (.slice none 0 0)=>some (.val (.string ⟨#[]⟩))
 |.val _=>none
 |v=>match elemsOf h 1 v with
  |some (cs,_)=>(bytesOf cs).map fun b=>.val (.string b)
  |none=>none
theorem vR{x:Opd}{call:Cle→List AV→AH→Option (AV×AH)}:runOp E call s (.strOfBytes x)=(s.eval x).bind fun v=>(strB s.h v).map fun w=>(w,s):=by
 have key:∀v:AV,(match elemsOf s.h 1 v with|some (cs,_)=>(bytesOf cs).bind fun b=>some ((.val (.string b):AV),s)|none=>none)=(match elemsOf s.h 1 v with|some (cs,_)=>(bytesOf cs).map fun b=>(.val (.string b):AV)|none=>none).map fun w=>(w,s):=by
  intro v;cases elemsOf s.h 1 v with
  |none=>rfl
  |some p=>
   obtain⟨cs,n⟩:=p;simp only;cases bytesOf cs<;>rfl
 simp only[runOp];cases s.eval x with
 |none=>rfl
 |some v=>
  simp only[j9];have k:=key v;cases v with
  |val y=>
   cases y with
   |slice p a b=>
    cases p with
    |some p=>rfl
    |none=>cases a<;>cases b<;>rfl
   |_=>rfl
  |_=>exact k
theorem hY{l:List Nat}{op:AOp}{v:AV}{s1:St}(hc:calmOp l op=true)(h:runOp E noCall s op=some (v,s1)):
  s1=s∧runOp E noCall (seen s l (theFoot op (idsL (pickTm s.tm l).vals))) op=some (v,seen s l (theFoot op (idsL (pickTm s.tm l).vals))):=by
 cases op with
 |mv x=>
  simp only[calmOp] at hc;simp only[runOp,aX hc] at h⊢
  cases he:s.eval x with
  |none=>rw[he] at h;cases h
  |some w=>
   rw[he] at h;simp only[j9,sI,pI] at h⊢
   exact⟨h.2.symm,h.1,(by first|trivial|rfl)⟩
 |pick a b c=>
  simp only[calmOp,i9] at hc;simp only[runOp,aX hc.1.1,aX hc.1.2,aX hc.2] at h⊢
  split at h
  ·cases he:s.eval b with
   |none=>rw[he] at h;cases h
   |some w=>
    rw[he] at h;simp only[j9,sI,pI] at h⊢
    exact⟨h.2.symm,h.1,(by first|trivial|rfl)⟩
  ·cases he:s.eval c with
   |none=>rw[he] at h;cases h
   |some w=>
    rw[he] at h;simp only[j9,sI,pI] at h⊢
    exact⟨h.2.symm,h.1,(by first|trivial|rfl)⟩
  ·cases h
 |build z ps=>
  simp only[calmOp] at hc;simp only[runOp,iE hc] at h⊢
  cases he:fill s z ps with
  |none=>rw[he] at h;cases h
  |some w=>
   rw[he] at h;simp only[j9,sI,pI] at h⊢
   exact⟨h.2.symm,h.1,(by first|trivial|rfl)⟩
 |load n x=>
  cases x with
  |c w=>simp only[calmOp,ju] at hc
  |t i=>
   simp only[calmOp] at hc;have hev:(seen s l (theFoot (.load n (.t i)) (idsL (pickTm s.tm l).vals))).eval (.t i)=s.eval (.t i):=aX hc;simp only[runOp,hev] at h⊢
   cases he:s.eval (.t i) with
   |none=>rw[he] at h;cases h
   |some w=>
    rw[he] at h;have hcs:cellsFrom E.globs (seen s l (theFoot (.load n (.t i)) (idsL (pickTm s.tm l).vals))).h w=cellsFrom E.globs s.h w:=uz (cA hc) he;simp only[hcs];simp only at h;cases hx:(cellsFrom E.globs s.h w).bind (takeN n) with
    |none=>rw[hx] at h;cases h
    |some y=>
     rw[hx] at h;simp only[j9,sI,pI] at h⊢
     exact⟨h.2.symm,h.1,(by first|trivial|rfl)⟩
 |nilck x=>
  simp only[calmOp] at hc;simp only[rP,aX hc] at h⊢
  cases he:s.eval x with
  |none=>rw[he] at h;cases h
  |some w=>
   rw[he] at h;simp only[j9] at h⊢
   cases hn:nilckV E w with
   |none=>rw[hn] at h;cases h
   |some y=>
    rw[hn] at h;simp only[jo,sI,pI] at h⊢
    exact⟨h.2.symm,h.1,trivial⟩
 |bin op t g x y=>
  simp only[calmOp,i9] at hc;simp only[runOp,aX hc.1,aX hc.2] at h⊢
  split at h
  ·rename_i a b ha hb;cases he:binA E.P op t g a b with
   |none=>rw[he] at h;cases h
   |some w=>
    rw[he] at h;simp only[j9,sI,pI] at h;simp only[j9,sI,pI];exact⟨h.2.symm,h.1,(by first|trivial|rfl)⟩
  ·cases h
 |un op x=>
  simp only[calmOp] at hc;simp only[runOp,aX hc] at h⊢
  split at h
  ·rename_i a ha;cases he:(evalPure E.P (Op.unary op a)).bind ofFlat with
   |none=>rw[he] at h;cases h
   |some w=>
    rw[he] at h;simp only[j9,sI,pI] at h;simp only[j9,sI,pI];exact⟨h.2.symm,h.1,(by first|trivial|rfl)⟩
  ·cases h
 |conv k x=>
  simp only[calmOp] at hc;have hev:(seen s l (theFoot (.conv k x) (idsL (pickTm s.tm l).vals))).eval x=s.eval x:=aX hc;simp only[runOp,hev] at h⊢
  split at h
  ·rename_i a b ha;simp only[sI,pI] at h⊢
   exact⟨h.2.symm,h.1,(by first|trivial|rfl)⟩
  ·cases h
 |strOfBytes x=>
  simp only[calmOp] at hc;have hev:(seen s l (theFoot (.strOfBytes x) (idsL (pickTm s.tm l).vals))).eval x=s.eval x:=aX hc;simp only[vR,hev] at h⊢
  cases he:s.eval x with
  |none=>rw[he] at h;cases h
  |some w=>
   rw[he] at h;have hcs:strB (seen s l (theFoot (.strOfBytes x) (idsL (pickTm s.tm l).vals))).h w=strB s.h w:=by
    have:=ur (es:=1) hc he;unfold strB;split<;>first|rfl|skip
    have e2:elemsOf (seen s l (theFoot (.strOfBytes x) (idsL (pickTm s.tm l).vals))).h 1 w=elemsOf s.h 1 w:=this;rw[e2]
   simp only[j9,hcs] at h⊢
   cases hn:strB s.h w with
   |none=>rw[hn] at h;cases h
   |some y=>
    rw[hn] at h;simp only[jo,sI,pI] at h⊢
    exact⟨h.2.symm,h.1,trivial⟩
 |sliceS es x lo hi mx=>
  simp only[calmOp,i9] at hc;have h1:(seen s l (theFoot (.sliceS es x lo hi mx) (idsL (pickTm s.tm l).vals))).eval x=s.eval x:=aX hc.1.1.1;have h2:optN (seen s l (theFoot (.sliceS es x lo hi mx) (idsL (pickTm s.tm l).vals))) lo=optN s lo:=lH hc.1.1.2;have h3:optN (seen s l (theFoot (.sliceS es x lo hi mx) (idsL (pickTm s.tm l).vals))) hi=optN s hi:=lH hc.1.2;have h4:optN (seen s l (theFoot (.sliceS es x lo hi mx) (idsL (pickTm s.tm l).vals))) mx=optN s mx:=lH hc.2;simp only[runOp,h1,h2,h3,h4] at h⊢
  split at h
  ·rename_i w a b c e1 e2 e3 e4;have hw:sliceW (seen s l (theFoot (.sliceS es x lo hi mx) (idsL (pickTm s.tm l).vals))).h es w a b c=sliceW s.h es w a b c:=tR hc.1.1.1 e1;cases he:(sliceA' es w a b c).or (sliceW s.h es w a b c) with
   |none=>rw[he] at h;cases h
   |some y=>
    rw[he] at h;simp only[j9,sI,pI] at h;simp only[hw,he,j9,sI,pI];exact⟨h.2.symm,h.1,(by first|trivial|rfl)⟩
  ·cases h
 |fieldAddr off x=>
  simp only[calmOp] at hc;simp only[runOp,aX hc] at h⊢
  split at h
  ·rename_i b o he;simp only[sI,pI] at h;simp only[sI,pI];exact⟨h.2.symm,h.1,(by first|trivial|rfl)⟩
  ·rename_i cs he;cases hb:i6 off cs.length with
   |false=>rw[hb] at h;cases h
   |true=>
    rw[hb] at h;simp only[cond_true,sI,pI] at h;simp only[cond_true,sI,pI];exact⟨h.2.symm,h.1,(by first|trivial|rfl)⟩
  ·rename_i g o he;simp only[sI,pI] at h;simp only[sI,pI];exact⟨h.2.symm,h.1,(by first|trivial|rfl)⟩
  ·cases h
 |idxAddrS es x i=>
  simp only[calmOp,i9] at hc;simp only[runOp,aX hc.1,aX hc.2] at h⊢
  split at h
  ·rename_i cs n cap j he hj;cases hb:(iq j n&&i6 (j*es) cs.length) with
   |false=>rw[hb] at h;cases h
   |true=>
    rw[hb] at h;simp only[cond_true,sI,pI] at h;simp only[cond_true,sI,pI];exact⟨h.2.symm,h.1,(by first|trivial|rfl)⟩
  ·rename_i b off n es' cap j he hj;cases hb:(iq j n&&i5 es es') with
   |false=>rw[hb] at h;cases h
   |true=>
    rw[hb] at h;simp only[cond_true,sI,pI] at h;simp only[cond_true,sI,pI];exact⟨h.2.symm,h.1,(by first|trivial|rfl)⟩
  ·cases h
 |idxStr x i=>
  simp only[calmOp,i9] at hc;have h1:(seen s l (theFoot (.idxStr x i) (idsL (pickTm s.tm l).vals))).eval x=s.eval x:=aX hc.1;have h2:(seen s l (theFoot (.idxStr x i) (idsL (pickTm s.tm l).vals))).eval i=s.eval i:=aX hc.2;simp only[runOp,h1,h2] at h⊢
  split at h
  ·rename_i b j he hj;cases hb:b.data.toList[j]? with
   |none=>rw[hb] at h;cases h
   |some c=>
    rw[hb] at h;simp only[sI,pI] at h;simp only[sI,pI];exact⟨h.2.symm,h.1,(by first|trivial|rfl)⟩
  ·cases h
 |extract i x=>
  simp only[calmOp] at hc;simp only[runOp,aX hc] at h⊢
  split at h
  ·rename_i vs he;cases hb:vs[i]? with
   |none=>rw[hb] at h;cases h
   |some c=>
    rw[hb] at h;simp only[j9,sI,pI] at h;simp only[j9,sI,pI];exact⟨h.2.symm,h.1,(by first|trivial|rfl)⟩
  ·cases h
 |lenS x=>
  simp only[calmOp] at hc;have h1:(seen s l (theFoot (.lenS x) (idsL (pickTm s.tm l).vals))).eval x=s.eval x:=aX hc;simp only[runOp,h1] at h⊢
  split at h<;>first|(cases h;done)|skip
  all_goals
   rename_i he;simp only[sI,pI] at h;simp only[sI,pI];exact⟨h.2.symm,h.1,(by first|trivial|rfl)⟩
 |lenStr x=>
  simp only[calmOp] at hc;have h1:(seen s l (theFoot (.lenStr x) (idsL (pickTm s.tm l).vals))).eval x=s.eval x:=aX hc;simp only[runOp,h1] at h⊢
  split at h
  ·rename_i b he;simp only[sI,pI] at h;simp only[sI,pI];exact⟨h.2.symm,h.1,(by first|trivial|rfl)⟩
  ·cases h
 |_=>simp only[calmOp,ju] at hc
theorem rQ{h:AH}{l:List Nat}{tm:Tr AV}(hn:(l.all fun t=>niceT h (tm.get t))=true):below h.next (idsL (pickTm tm l).vals)=true∧knownH h (idsL (pickTm tm l).vals)=true:=by
 have key:∀b∈idsL (pickTm tm l).vals,iq b h.next=true∧∃cs rw,h.get b=some (.cells cs rw)∧below h.next (idsL cs)=true:=by
  intro b hb;obtain⟨v,hv,hbv⟩:=kc hb;obtain⟨k,hk⟩:=dM hv;rw[aw] at hk;split at hk
  ·rename_i hkl;have:=iy.1 hn k hkl;rw[hk] at this;have:=iy.1 this b hbv;rw[i9] at this;refine⟨this.1,?_⟩;have h2:=this.2;split at h2
   ·rename_i cs rw hg;exact⟨cs,rw,hg,h2⟩
   ·cases h2
  ·cases hk
 constructor
 ·exact iy.2 fun b hb=>(key b hb).1
 ·refine iy.2 fun b hb=>?_
  obtain⟨h1,cs,rw,h2,h3⟩:=key b hb;simp only[h1,h2,idsB,h3,ip]
theorem wm{l:List Nat}{tm:Tr AV}(hn:(l.all fun t=>plainT (tm.get t))=true):idsL (pickTm tm l).vals=[]:=by
 refine rj fun v hv=>?_
 obtain⟨k,hk⟩:=dM hv;rw[aw] at hk;split at hk
 ·rename_i hkl;have:=iy.1 hn k hkl;rw[hk] at this;exact List.isEmpty_iff.1 this
 ·cases hk
theorem dD{d:DOp}{near:List Nat}{v:AV}(hc:calmOp d.reads d.o.op=true)(hg:guardIn d.reads d.o.guard=true)(hw:wantedA s d.o.guard=some true)
  (hn:(d.reads.all fun t=>niceT s.h (s.tm.get t))=true) (ho:runOp E noCall s d.o.op=some (v,s)):
  Ev fun n=>stepDraw E (aZ E (exec E n)) d near s=some (v,⟨theFoot d.o.op (idsL (pickTm s.tm d.reads).vals),[],s.h.next,s.h.next⟩,s.h):=by
 refine Ev.of fun n=>?_
 obtain⟨n1,n2⟩:=rQ hn;have hr:=d8 (call:=aZ E (exec E n)) (hY hc ho).2;have hk:knownH s.h (theFoot d.o.op (idsL (pickTm s.tm d.reads).vals))=true:=by
  unfold theFoot;cases footed d.o.op with
  |true=>exact n2
  |false=>rfl
 have hw':wantedA {tm:=pickTm s.tm d.reads,h:=s.h,defers:=[],round:=s.round} d.o.guard=some true:=by
  rw[←hw];exact br (s:=s) (F:=[]) hg▸(by cases d.o.guard<;>rfl)
 have hb:i6 s.h.next s.h.next=true:=iu.mpr (i7 _);have hm:=lj (h:=s.h) (l:=theFoot d.o.op (idsL (pickTm s.tm d.reads).vals));simp only[stepDraw,hw',xP hc,n1,hk,ip,cond_true];simp only[seen] at hr;rw[hr];simp only[xe hc,cond_false,qR hc,An,hm];simp only[restrictH,hb,below,j5,ip,cond_true]
theorem fJ{d:DOp}{near:List Nat}{v:AV}{f:Nat}{xs:List Opd}{l:List AV}(hop:d.o.op=.call f xs)(hx:xs.all (opdIn d.reads)=true)(hg:guardIn d.reads d.o.guard=true)(hw:wantedA s d.o.guard=some true)
  (hn:(d.reads.all fun t=>plainT (s.tm.get t))=true) (he:evalAll s xs=some l) (hr:∀h,RunCall E (.f f) l h v h):
  Ev fun n=>stepDraw E (aZ E (exec E n)) d near s=some (v,⟨[],[],s.h.next,s.h.next⟩,s.h):=by
 have hv:=wm hn;refine(hr (restrictH s.h [])).mono fun n p=>?_
 have hw':wantedA {tm:=pickTm s.tm d.reads,h:=s.h,defers:=[],round:=s.round} d.o.guard=some true:=by
  rw[←hw];exact br (s:=s) (F:=[]) hg▸(by cases d.o.guard<;>rfl)
 have he':evalAll {tm:=pickTm s.tm d.reads,h:=restrictH s.h [],defers:=[],round:=s.round} xs=some l:=by
  rw[←he];exact lI (s:=s) (F:=[]) hx
 have hb:i6 s.h.next s.h.next=true:=iu.mpr (i7 _);have hm:=lj (h:=s.h) (l:=[]);have hfo:foot {tm:=pickTm s.tm d.reads,h:=s.h,defers:=[],round:=s.round} [] (.call f xs)=[]:=rfl;simp only[stepDraw,hw',hv,hop,hfo,below,knownH,j5,ip,cond_true,runOp,he',p,j9,isCall,List.filter_nil,An,hm];simp only[restrictH,hb,ip,cond_true]
theorem dg{d:DOp}{near:List Nat}(hg:guardIn d.reads d.o.guard=true)(hw:wantedA s d.o.guard=some false):
  Ev fun n=>stepDraw E (aZ E (exec E n)) d near s=some (undefA,⟨[],[],s.h.next,s.h.next⟩,s.h):=by
 refine Ev.of fun n=>?_
 have hw':wantedA {tm:=pickTm s.tm d.reads,h:=s.h,defers:=[],round:=s.round} d.o.guard=some false:=by
  rw[←hw];exact br (s:=s) (F:=[]) hg▸(by cases d.o.guard<;>rfl)
 simp only[stepDraw,hw']
theorem jK:∀(ops:List DOp) (done:List DRec) (s:St),calmAt done.length ops=true→(∀x∈done,Quiet x)→wpDr E ops s K→DrawTo E ops done s K
 | [],done,s,_,_,h=>bO h
 |⟨⟨dst,g,op⟩,rd,fr⟩::r,done,s,hc,hq,h=>by
  simp only[calmAt,i9] at hc;obtain⟨⟨hfr,hcd⟩,hcr⟩:=hc;have hf:∀i∈fr,i<done.length:=fun i hi=>Nat.blt_eq.mp (iy.1 hfr i hi);have nx:∀(rec:DRec) (s':St),Quiet rec→wpDr E r s' K→DrawTo E r (done++[rec]) s' K:=fun rec s' hqr hw=>
   jK r (done++[rec]) s' (by rw[List.length_append];exact hcr) (fun x hx=>by
    rcases jc.1 hx with hx|hx
    ·exact hq x hx
    ·rw[ig.1 hx];exact hqr) hw
  simp only[wpDr] at h;obtain⟨hnice,h⟩:=h;simp only[calmD,i9] at hcd;obtain⟨hg,hop⟩:=hcd;simp only[guardTo] at h;cases hw:wantedA s g with
  |none=>rw[hw] at h;exact h.elim
  |some b=>
   rw[hw] at h;simp only[aJ] at h;cases b with
   |false=>exact dC (d:=⟨⟨dst,g,op⟩,rd,fr⟩) hq hf (dg hg hw) (nx _ _ ⟨rfl,rfl⟩ (h.2 rfl))
   |true=>
    have h1:=h.1 rfl;clear h;split at h1
    ·rename_i f xs;obtain⟨hp,h1⟩:=h1;cases he:evalAll s xs with
     |none=>rw[he] at h1;exact h1.elim
     |some l=>
      rw[he] at h1;obtain⟨v,hr,hk⟩:=h1;exact dC (d:=⟨⟨dst,g,.call f xs⟩,rd,fr⟩) hq hf (fJ rfl hop hg hw hp he hr) (nx _ _ ⟨rfl,rfl⟩ hk)
    ·rename_i hne;have hop':calmOp rd op=true:=by
      split at hop
      ·exact absurd rfl (hne _ _)
      ·exact hop
     have hwo:wpOp E op s=fun K=>withV (runOp E noCall s op) fun(v,s')=>K v s':=by
      funext K
      cases op<;>first|rfl|(simp only[calmOp,ju] at hop')
     simp only[wpOps,wantedA,aJ,forall_const,hwo] at h1;have h1:=h1.1;cases hr:runOp E noCall s op with
     |none=>rw[hr] at h1;exact h1.elim
     |some vs=>
      obtain⟨v,s1⟩:=vs;rw[hr] at h1;have hs:=(hY hop' hr).1;subst hs;exact dC (d:=⟨⟨dst,g,op⟩,rd,fr⟩) hq hf (dD (d:=⟨⟨dst,g,op⟩,rd,fr⟩) hop' hg hw hnice hr) (nx _ _ ⟨rfl,rfl⟩ h1)
theorem dG{α:Type}{o:Option α}{K K':α→Prop}(h:withV o K)(k:∀a,K a→K' a):withV o K':=by
 cases o with
 |none=>exact h
 |some a=>exact k a h
theorem wU{op:AOp}{K K':AV→St→Prop}(k:∀v s,K v s→K' v s)(h:wpOp E op s K):wpOp E op s K':=by
 have ct:∀(c:Cle) (l:List AV),CallTo E c l s.h (fun v h=>K v (s.toH h))→CallTo E c l s.h fun v h=>K' v (s.toH h):=fun c l ⟨v,h',x,y⟩=>⟨v,h',x,k _ _ y⟩;cases op with
 |call f args=>
  simp only[wpOp] at h⊢
  exact dG h fun l q=>ct _ _ q
 |callv x args=>
  simp only[wpOp] at h⊢
  split at h
  ·exact dG h fun l q=>ct _ _ q
  ·exact dG h fun l q=>ct _ _ q
  ·exact h.elim
 |_=>
  simp only[wpOp] at h⊢
  exact dG h fun p q=>k _ _ q
theorem dw{K K':St→Prop}(k:∀s,K s→K' s):∀(l:List AOper) (s:St),wpOps E l s K→wpOps E l s K'
 | [],s,h=>k s h
 |o::r,s,h=>by
  simp only[wpOps] at h⊢
  exact dG h fun g q=>⟨fun e=>wU (fun v s' z=>dw k r _ z) (q.1 e),fun e=>dw k r _ (q.2 e)⟩
theorem gX{g:Option (Nat×Bool)}{A B A' B':Prop}(h:guardTo s g A B)(ha:A→A')(hb:B→B'):guardTo s g A' B':=by
 unfold guardTo at h⊢
 cases hw:wantedA s g with
 |none=>rw[hw] at h;exact h.elim
 |some b=>
  rw[hw] at h;simp only[aJ] at h⊢
  exact⟨fun e=>ha (h.1 e),fun e=>hb (h.2 e)⟩
theorem fw{d:DOp}:∀(pre:List DOp) (s:St),calmAt 0 (pre++[d])=true∨True→wpDr E (pre++[d]) s K→wpDr E pre s (fun s1=>wpDr E [d] s1 K)
 | [],s,_,h=>h
 |⟨⟨dst,g,op⟩,rd,fr⟩::r,s,_,h=>by
  simp only[ja,wpDr] at h⊢
  refine⟨h.1,gX h.2 (fun h1=>?_) (fun h1=>fw r _ (.inr trivial) h1)⟩;split at h1
  ·rename_i f l _;refine⟨h1.1,?_⟩;have h2:=h1.2;cases he:evalAll s l with
   |none=>rw[he] at h2;exact h2.elim
   |some l'=>
    rw[he] at h2;simp only[aJ] at h2⊢
    obtain⟨v,hr,hk⟩:=h2;exact⟨v,hr,fw r _ (.inr trivial) hk⟩
  ·exact dw (fun s1 q=>fw r _ (.inr trivial) q) _ _ h1
theorem mg{d:DOp}:∀(pre:List DOp) (n:Nat),calmAt n (pre++[d])=true→calmAt n pre=true
 | [],n,_=>rfl
 |x::r,n,h=>by
  simp only[ja,calmAt,i9] at h⊢
  exact⟨h.1,mg r (n+1) h.2⟩
theorem Gv{d:DOp}(h:wpDr E [d] s K):wpOps E [d.o] s K:=by
 obtain⟨⟨dst,g,op⟩,rd,fr⟩:=d;simp only[wpDr] at h;have h:=h.2;unfold guardTo at h;simp only[wpOps];cases hw:wantedA s g with
 |none=>rw[hw] at h;exact h.elim
 |some b=>
  rw[hw] at h;simp only[aJ] at h⊢
  refine⟨fun e=>?_,fun e=>h.2 e⟩;have h1:=h.1 e;split at h1
  ·rename_i f l _;have h2:=h1.2;simp only[wpOp];cases he:evalAll s l with
   |none=>rw[he] at h2;exact h2.elim
   |some l'=>
    rw[he] at h2;simp only[aJ] at h2⊢
    obtain⟨v,hr,hk⟩:=h2;exact⟨v,s.h,hr s.h,hk⟩
  ·simp only[wpOps,wantedA,aJ,forall_const] at h1;exact h1.1
theorem eP{ops:List DOp}{Q:Ex→St→Prop}(hc:calmAt 0 ops=true)(h:wpDr E ops s (Q .normal)):Run E (.draw ops) s Q:=by
 cases hl:lastSeq ops with
 |none=>exact yH (jK ops [] s hc (fun x hx=>by cases hx) h) hl
 |some pd=>
  obtain⟨pre,d⟩:=pd;obtain⟨e,_⟩:=eF hl;subst e;obtain⟨s',x,y⟩:=jK (E:=E) pre [] s (mg pre 0 hc) (fun x hx=>by cases hx) (fw pre s (.inr trivial) h)
  exact bT hl ⟨s',x,Gv y⟩
end Go.AM
namespace Go.AM
abbrev vI(n:Int):AV:=.val (.int .i64 n)
abbrev vB(b:Bool):AV:=.val (.bool b)
abbrev vS(x:ByteArray):AV:=.val (.string x)
end Go.AM
