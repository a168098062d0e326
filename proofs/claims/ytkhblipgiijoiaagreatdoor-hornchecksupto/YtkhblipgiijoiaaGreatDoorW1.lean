/- XWp XWq XWr XWs XOwn XRow XDraw XDrawB XCalm -/
import Derived.Test.YtkhblipgiijoiaaGreatDoorU0
import Derived.Test.YtkhblipgiijoiaaGreatDoorM4

set_option linter.all false
open Option.some renaming injEq → sI
open Prod.mk renaming injEq → pI
open Bool renaming and_eq_true → ii, and_self → iu, false_eq_true → ju, true_eq_false → Bg, true_or → B8
open List renaming all_cons → iv, all_eq_true → j0, all_nil → is, drop_zero → j9, foldl_cons → Au, isEmpty_nil → Ak, mem_append → jb, mem_cons → ie, mem_cons_of_mem → j4, mem_cons_self → ik, mem_nil_iff → j7, mem_singleton → ig, nil_append → im, take_of_length_le → ji
open Nat renaming beq → i8, ble → ia, ble_eq → ir, blt → ip, eq_of_beq_eq_true → ij, le_of_ble_eq_true → iq, le_refl → ib
open Option renaming bind_some → j8, getD_none → Aa, getD_some → js, isNone_none → Bv, map → Ar, map_some → jd
namespace Go.AM
variable {E:Env}
def Ev(p:Nat→Prop):Prop:=∃N,∀n,N≤n→p n
theorem Ev.of{p:Nat→Prop}(h:∀n,p n):Ev p:=⟨0,fun n _=>h n⟩
theorem Ev.mono{p q:Nat→Prop}(h:Ev p)(k:∀n,p n→q n):Ev q:=h.imp fun _ h n hn=>k n (h n hn)
theorem Ev.and{p q:Nat→Prop}(h:Ev p)(k:Ev q):Ev fun n=>p n∧q n:=by
 obtain⟨a,h⟩:=h;obtain⟨b,k⟩:=k;exact⟨a+b,fun n hn=>⟨h n om,k n om⟩⟩
theorem Ev.step{p:Nat→Prop}(h:Ev fun n=>p (n+1)):Ev p:=by
 obtain⟨a,h⟩:=h;refine⟨a+1,fun n hn=>?_⟩;obtain⟨m,rfl⟩:∃m,n=m+1:=⟨n-1,om⟩;exact h m om
theorem Ev.one{p:Nat→Prop}(h:Ev p):∃n,p n:=by
 obtain⟨a,h⟩:=h;exact⟨a,h a (ib a)⟩
def Run(E:Env)(c:ACode)(s:St)(Q:Ex→St→Prop):Prop:=∃e s',Ev (fun n=>exec E n c s=some (e,s'))∧Q e s'
def RunCall(E:Env)(c:Cle)(l:List AV)(h:AH)(v:AV)(h':AH):Prop:=Ev fun n=>ap E (exec E n) c l h=some (v,h')
def CallTo(E:Env)(c:Cle)(l:List AV)(h:AH)(K:AV→AH→Prop):Prop:=∃v h',RunCall E c l h v h'∧K v h'
def RunOps(E:Env)(ops:List AOper)(s:St)(K:St→Prop):Prop:=∃s',Ev (fun n=>runOps E (ap E (exec E n)) ops s=some s')∧K s'
theorem RunCall.det{c:Cle}{l:List AV}{h h1 h2:AH}{v1 v2:AV}(a:RunCall E c l h v1 h1)(b:RunCall E c l h v2 h2):v1=v2∧h1=h2:=by
 obtain⟨n,x,y⟩:=(a.and b).one;rw[x] at y;simp only[sI,pI] at y;exact y
theorem jY{c:Cle}{l:List AV}{h h':AH}{v:AV}{K:AV→AH→Prop}(r:RunCall E c l h v h'):CallTo E c l h K↔K v h':=
 ⟨fun⟨_,_,r2,k⟩=>by obtain⟨a,b⟩:=r.det r2;subst a;subst b;exact k,fun k=>⟨v,h',r,k⟩⟩
def St.set(s:St)(d:Nat)(v:AV):St:={s with tm:=s.tm.put d (some v)}
def St.toH(s:St)(h:AH):St:={s with h}
def St.put(s:St):Option Nat→AV→St
 |none,_=>s
 |some d,v=>s.set d v
theorem St.get_set(s:St)(d i:Nat)(v:AV):(s.set d v).tm.get i=if i=d then some v else s.tm.get i:=Tr.get_put _ _ _ _
theorem St.eval_set(s:St)(d i:Nat)(v:AV):(s.set d v).eval (.t i)=if i=d then some v else s.eval (.t i):=Tr.get_put _ _ _ _
theorem St.eval_toH(s:St)(h:AH)(x:Opd):(s.toH h).eval x=s.eval x:=by cases x<;>rfl
theorem St.eval_c(s:St)(v:AV):s.eval (.c v)=some v:=rfl
theorem St.h_set(s:St)(d:Nat)(v:AV):(s.set d v).h=s.h:=rfl
theorem St.h_toH(s:St)(h:AH):(s.toH h).h=h:=rfl
theorem St.df_set(s:St)(d:Nat)(v:AV):(s.set d v).defers=s.defers:=rfl
theorem St.df_toH(s:St)(h:AH):(s.toH h).defers=s.defers:=rfl
theorem St.rd_set(s:St)(d:Nat)(v:AV):(s.set d v).round=s.round:=rfl
theorem St.rd_toH(s:St)(h:AH):(s.toH h).round=s.round:=rfl
theorem St.tm_toH(s:St)(h:AH):(s.toH h).tm=s.tm:=rfl
def withV{α:Type}(o:Option α)(f:α→Prop):Prop:=match o with
 |some v=>f v
 |none=>False
theorem aP{α:Type}(v:α)(f:α→Prop):withV (some v) f=f v:=rfl
def noCall:Cle→List AV→AH→Option (AV×AH):=fun _ _ _=>none
theorem dY{call:Cle→List AV→AH→Option (AV×AH)}{s:St}{op:AOp}{r:AV×St}(h:runOp E noCall s op=some r):runOp E call s op=some r:=by
 cases op with
 |call f args=>
  exfalso;simp only[runOp] at h;split at h<;>simp[noCall] at h
 |callv x args=>
  exfalso;simp only[runOp] at h;split at h<;>try (first|(simp[noCall] at h;done)|(split at h<;>simp[noCall] at h;done))
 |invoke x name args=>
  exfalso;simp only[runOp] at h;split at h<;>try (first|(simp[noCall] at h;done)|(split at h<;>simp[noCall] at h;done))
 |_=>exact h
def wpOp(E:Env)(op:AOp)(s:St)(K:AV→St→Prop):Prop:=
 match op with
 |.call f args=>withV (evalAll s args) fun l=>CallTo E (.f f) l s.h fun v h=>K v (s.toH h)
 |.callv x args=>match s.eval x with
  |some (.yld b)=>withV (evalAll s args) fun l=>CallTo E (.y b) l s.h fun v h=>K v (s.toH h)
  |some (.fn (.func f) a b)=>withV (evalAll s args) fun l=>CallTo E (.f f) (a++l++b) s.h fun v h=>K v (s.toH h)
  |_=>False
 |op=>withV (runOp E noCall s op) fun(v,s')=>K v s'
def wpOps(E:Env):List AOper→St→(St→Prop)→Prop
 | [],s,K=>K s
 |o::r,s,K=>withV (wantedA s o.guard) fun g=>
  (g=true→wpOp E o.op s fun v s'=>wpOps E r ({s' with round:=s.round}.put o.dst v) K)∧
  (g=false→wpOps E r (s.put o.dst undefA) K)
theorem nH{o:AOper}{r:List AOper}{s:St}{K:St→Prop}{v:AV}{s1:St}(hw:wantedA s o.guard=some true)
  (h:Ev fun n=>runOp E (ap E (exec E n)) s o.op=some (v,s1)) (k:RunOps E r ({s1 with round:=s.round}.put o.dst v) K):RunOps E (o::r) s K:=by
 obtain⟨s',k1,k2⟩:=k;refine⟨s',(h.and k1).mono fun n ⟨a,b⟩=>?_,k2⟩;simp only[runOps,hw,a];cases hd:o.dst with
 |none=>rw[hd] at b;exact b
 |some d=>rw[hd] at b;exact b
theorem jX{o:AOper}{r:List AOper}{s:St}{K:St→Prop}{c:Cle}{l:List AV}(hw:wantedA s o.guard=some true)
  (ho:∀call,runOp E call s o.op=(call c l s.h).bind fun(v,h)=>some (v,{s with h}))
  (ih:∀s',wpOps E r s' K→RunOps E r s' K) (h:CallTo E c l s.h fun v h=>wpOps E r ({s.toH h with round:=s.round}.put o.dst v) K):RunOps E (o::r) s K:=by
 obtain⟨v,h',hr,hk⟩:=h;refine nH hw (v:=v) (s1:=s.toH h') (Ev.mono hr fun n a=>?_) (ih _ hk);rw[ho,a];rfl
theorem lh:∀(ops:List AOper) (s:St) (K:St→Prop),wpOps E ops s K→RunOps E ops s K
 | [],s,K,h=>⟨s,Ev.of fun _=>rfl,h⟩
 |o::r,s,K,h=>by
  simp only[wpOps] at h;cases hw:wantedA s o.guard with
  |none=>rw[hw] at h;exact h.elim
  |some g=>
   rw[hw] at h;simp only[aP] at h;cases g with
   |false=>
    have h2:=lh r _ K (h.2 rfl);obtain⟨s',k1,k2⟩:=h2;refine⟨s',k1.mono fun n b=>?_,k2⟩;simp only[runOps,hw];cases hd:o.dst with
    |none=>rw[hd] at b;exact b
    |some d=>rw[hd] at b;exact b
   |true=>
    have h1:=h.1 rfl;have ih:∀s',wpOps E r s' K→RunOps E r s' K:=fun s'=>lh r s' K;clear h;unfold wpOp at h1;split at h1
    ·rename_i f args heq;cases he:evalAll s args with
     |none=>rw[he] at h1;exact h1.elim
     |some l=>
      rw[he] at h1;exact jX hw (fun call=>by rw[heq];simp only[runOp,he]) ih h1
    ·rename_i x args heq;split at h1
     ·rename_i b hx;cases he:evalAll s args with
      |none=>rw[he] at h1;exact h1.elim
      |some l=>
       rw[he] at h1;exact jX hw (fun call=>by rw[heq];simp only[runOp,he,hx]) ih h1
     ·rename_i f a b hx;cases he:evalAll s args with
      |none=>rw[he] at h1;exact h1.elim
      |some l=>
       rw[he] at h1;exact jX hw (fun call=>by rw[heq];simp only[runOp,he,hx]) ih h1
     ·exact h1.elim
    ·cases ho:runOp E noCall s o.op with
     |none=>rw[ho] at h1;exact h1.elim
     |some vs=>
      obtain⟨v,s1⟩:=vs;rw[ho] at h1;exact nH hw (Ev.of fun n=>dY ho) (ih _ h1)
def wp(E:Env):ACode→St→(Ex→St→Prop)→Prop
 |.skip,s,Q=>Q .normal s
 |.ret,s,Q=>Q .ret s
 |.exit id,s,Q=>Q (.exit id) s
 |.region ops,s,Q=>wpOps E ops s (Q .normal)
 |.seq a b,s,Q=>wp E a s fun e s'=>match e with
  |.normal=>wp E b s' Q
  |e=>Q e s'
 |.cond c a b,s,Q=>match s.eval c with
  |some (.val (.bool x))=>(x=true→wp E a s Q)∧(x=false→wp E b s Q)
  |_=>False
 |.block id b,s,Q=>wp E b s fun e s'=>match e with
  |.exit i=>Q (bif i8 i id then .normal else .exit i) s'
  |e=>Q e s'
 |c,s,Q=>Run E c s Q
theorem Run.mono{c:ACode}{s:St}{Q Q':Ex→St→Prop}(h:Run E c s Q)(k:∀e s',Q e s'→Q' e s'):Run E c s Q':=by
 obtain⟨e,s',a,b⟩:=h;exact⟨e,s',a,k _ _ b⟩
theorem Run.seq{a b:ACode}{s:St}{Q:Ex→St→Prop}(h:Run E a s fun e s'=>match e with|.normal=>Run E b s' Q|e=>Q e s'):Run E (.seq a b) s Q:=by
 obtain⟨e,s',x,y⟩:=h;cases e with
 |normal=>
  obtain⟨e2,s2,x2,y2⟩:=y;refine⟨e2,s2,((x.and x2).mono fun n ⟨p,q⟩=>?_:Ev fun n=>exec E (n+1) (.seq a b) s=some (e2,s2)).step,y2⟩;simp only[exec,p,q]
 |exit i=>exact⟨_,_,(x.mono fun n p=>by simp only[exec,p]:Ev fun n=>exec E (n+1) (.seq a b) s=some (.exit i,s')).step,y⟩
 |ret=>exact⟨_,_,(x.mono fun n p=>by simp only[exec,p]:Ev fun n=>exec E (n+1) (.seq a b) s=some (.ret,s')).step,y⟩
theorem Run.block{id:Nat}{b:ACode}{s:St}{Q:Ex→St→Prop}(h:Run E b s fun e s'=>match e with|.exit i=>Q (bif i8 i id then .normal else .exit i) s'|e=>Q e s'):Run E (.block id b) s Q:=by
 obtain⟨e,s',x,y⟩:=h;cases e with
 |normal=>exact⟨_,_,(x.mono fun n p=>by simp only[exec,p]:Ev fun n=>exec E (n+1) (.block id b) s=some (.normal,s')).step,y⟩
 |exit i=>exact⟨_,_,(x.mono fun n p=>by simp only[exec,p]:Ev fun n=>exec E (n+1) (.block id b) s=some (bif i8 i id then .normal else .exit i,s')).step,y⟩
 |ret=>exact⟨_,_,(x.mono fun n p=>by simp only[exec,p]:Ev fun n=>exec E (n+1) (.block id b) s=some (.ret,s')).step,y⟩
theorem Run.loop{b:ACode}{s:St}{Q:Ex→St→Prop}(h:Run E b s fun e s'=>match e with|.normal=>Run E (.loop b) s' Q|e=>Q e s'):Run E (.loop b) s Q:=by
 obtain⟨e,s',x,y⟩:=h;cases e with
 |normal=>
  obtain⟨e2,s2,x2,y2⟩:=y;refine⟨e2,s2,((x.and x2).mono fun n ⟨p,q⟩=>?_:Ev fun n=>exec E (n+1) (.loop b) s=some (e2,s2)).step,y2⟩;simp only[exec,p,q]
 |exit i=>exact⟨_,_,(x.mono fun n p=>by simp only[exec,p]:Ev fun n=>exec E (n+1) (.loop b) s=some (.exit i,s')).step,y⟩
 |ret=>exact⟨_,_,(x.mono fun n p=>by simp only[exec,p]:Ev fun n=>exec E (n+1) (.loop b) s=some (.ret,s')).step,y⟩
theorem ay:∀(c:ACode) (s:St) (Q:Ex→St→Prop),wp E c s Q→Run E c s Q
 |.skip,s,Q,h=>⟨_,_,(Ev.of fun _=>rfl:Ev fun n=>exec E (n+1) .skip s=some (.normal,s)).step,h⟩
 |.ret,s,Q,h=>⟨_,_,(Ev.of fun _=>rfl:Ev fun n=>exec E (n+1) .ret s=some (.ret,s)).step,h⟩
 |.exit i,s,Q,h=>⟨_,_,(Ev.of fun _=>rfl:Ev fun n=>exec E (n+1) (.exit i) s=some (.exit i,s)).step,h⟩
 |.region ops,s,Q,h=>by
  obtain⟨s',x,y⟩:=lh ops s _ h;exact⟨_,_,(x.mono fun n p=>by simp only[exec,p,jd]:Ev fun n=>exec E (n+1) (.region ops) s=some (.normal,s')).step,y⟩
 |.seq a b,s,Q,h=>Run.seq ((ay a s _ h).mono fun e s' k=>by
   cases e with
   |normal=>exact ay b s' Q k
   |exit i=>exact k
   |ret=>exact k)
 |.cond c a b,s,Q,h=>by
  simp only[wp] at h;split at h
  ·rename_i x hx;cases x with
   |true=>
    obtain⟨e,s',x,y⟩:=ay a s Q (h.1 rfl);exact⟨e,s',(x.mono fun n p=>by simp only[exec,hx,p]:Ev fun n=>exec E (n+1) (.cond c a b) s=some (e,s')).step,y⟩
   |false=>
    obtain⟨e,s',x,y⟩:=ay b s Q (h.2 rfl);exact⟨e,s',(x.mono fun n p=>by simp only[exec,hx,p]:Ev fun n=>exec E (n+1) (.cond c a b) s=some (e,s')).step,y⟩
  ·exact h.elim
 |.block id b,s,Q,h=>Run.block (ay b s _ h)
 |.loop b,s,Q,h=>h
 |.draw ops,s,Q,h=>h
 |.range g ps asg body M,s,Q,h=>h
 |.bad why,s,Q,h=>h
def Ans(E:Env)(g:Nat)(l:List AV)(r:AV):Prop:=∃hc,Ev fun n=>enterA E (exec E n) g l .empty=some (r,hc)
theorem aKT{g:Nat}{l:List AV}{r:AV}{a:AFun}(hf:funOf E.P g=some a)
  (h:wp E a.body {tm:=enterTm l 0 .nil,h:=.empty,defers:=[],round:=none} fun e s=>(e=.normal∨e=.ret)∧s.defers=[]∧resultsA E.globs s a.res=some [r]):Ans E g l r:=by
 obtain⟨e,s',x,y1,y2,y3⟩:=ay _ _ _ h;refine⟨s'.h,x.mono fun n p=>?_⟩;have hl:leaveA E a s'=some (r,s'.h):=by
  obtain⟨tm,h1,df,rd⟩:=s';subst y2;simp only[leaveA,runDefers,y3];rfl
 simp only[enterA,hf,p];rcases y1 with rfl|rfl<;>exact hl
theorem aEK{g:Nat}{l:List AV}{rs:List AV}{a:AFun}(hf:funOf E.P g=some a)
  (h:wp E a.body {tm:=enterTm l 0 .nil,h:=.empty,defers:=[],round:=none} fun e s=>(e=.normal∨e=.ret)∧s.defers=[]∧resultsA E.globs s a.res=some rs):Ans E g l (oneOrTup rs):=by
 obtain⟨e,s',x,y1,y2,y3⟩:=ay _ _ _ h;refine⟨s'.h,x.mono fun n p=>?_⟩;have hl:leaveA E a s'=some (oneOrTup rs,s'.h):=by
  obtain⟨tm,h1,df,rd⟩:=s';subst y2;simp only[leaveA,runDefers,y3]
 simp only[enterA,hf,p];rcases y1 with rfl|rfl<;>exact hl
theorem Yp{g:Nat}{l:List AV}{r:AV}{h:AH}(hs:E.shared.get g=none)(hk:E.known g l=none)(hm:mapTree h l=some l)
  (hz:l.foldl (fun h v=>freeze deepest v h) h=h) (hr:isFlat r=true) (ht:∀hc,toTree (freeze deepest r hc) deepest r=some r) (a:Ans E g l r):RunCall E (.f g) l h r h:=by
 obtain⟨hc,a⟩:=a;refine a.mono fun n p=>?_
 simp only[ap,cT,hs,hz,hm,hk,p,ht,hr,cond_true]
end Go.AM
namespace Go.AM
variable {E:Env}{s:St}{K:St→Prop}{r:List AOper}{d:Nat}{dst:Option Nat}
def guardTo(s:St)(g:Option (Nat×Bool))(A B:Prop):Prop:=withV (wantedA s g) fun g=>(g=true→A)∧(g=false→B)
theorem Pq:wpOps E [] s K=K s:=rfl
def ifP(b:Bool)(A B:Prop):Prop:=match b with
 |true=>A
 |false=>B
theorem Mj{b:Bool}{A B:Prop}:ifP b A B↔(b=true→A)∧(b=false→B):=by
 cases b with
 |true=>exact⟨fun h=>⟨fun _=>h,fun x=>(by cases x)⟩,fun h=>h.1 rfl⟩
 |false=>exact⟨fun h=>⟨fun x=>(by cases x),fun _=>h⟩,fun h=>h.2 rfl⟩
def wantedV(o:Option AV)(b:Bool):Option Bool:=match o with
 |some (.val (.bool c))=>some (c==b)
 |some (.tup [])=>some false
 |_=>none
theorem Pu{c:Bool}:wantedV (some (.val (.bool c))) true=some c:=by cases c<;>rfl
theorem Pv{c:Bool}:wantedV (some (.val (.bool c))) false=some (!c):=by cases c<;>rfl
theorem Pt{b:Bool}:wantedV (some undefA) b=some false:=rfl
theorem Yw{t:Nat}{b:Bool}{op:AOp}:wpOps E (⟨dst,some (t,b),op⟩::r) s K=withV (wantedV (s.eval (.t t)) b) fun b=>ifP b (wpOps E (⟨dst,none,op⟩::r) s K) (wpOps E r (s.put dst undefA) K):=by
 have h1:wpOps E (⟨dst,none,op⟩::r) s K=wpOp E op s fun v s'=>wpOps E r ({s' with round:=s.round}.put dst v) K:=by
  simp only[wpOps,wantedA,aP,true_implies,Bg,false_implies,and_true]
 rw[h1];show withV (wantedV (s.eval (.t t)) b) _=_;cases wantedV (s.eval (.t t)) b with
 |none=>rfl
 |some g=>exact propext (Mj (b:=g)).symm
theorem bB{op:AOp}{o:Option AV}(h:runOp E noCall s op=o.map fun v=>(v,s))(hn:∀s' K,wpOp E op s' K=withV (runOp E noCall s' op) fun(v,s'')=>K v s''):
  wpOps E (⟨dst,none,op⟩::r) s K=withV o fun v=>wpOps E r (s.put dst v) K:=by
 simp only[wpOps,wantedA,aP,true_implies,Bg,false_implies,and_true,hn,h];cases o<;>rfl
theorem dH{op:AOp}{o:Option (AV×AH)}(h:runOp E noCall s op=o.map fun(v,h)=>(v,s.toH h))(hn:∀s' K,wpOp E op s' K=withV (runOp E noCall s' op) fun(v,s'')=>K v s''):
  wpOps E (⟨dst,none,op⟩::r) s K=withV o fun(v,h)=>wpOps E r ((s.toH h).put dst v) K:=by
 simp only[wpOps,wantedA,aP,true_implies,Bg,false_implies,and_true,hn,h];cases o<;>rfl
theorem d8{o:Option AV}:(o.bind fun v=>some (v,s))=o.map fun v=>(v,s):=by cases o<;>rfl
theorem zl{c:Bool}{v:AV}:(bif c then some (v,s) else none)=Ar (fun v=>(v,s)) (bif c then some v else none):=by cases c<;>rfl
theorem aOA{x:Opd}:wpOps E (⟨dst,none,.mv x⟩::r) s K=withV (s.eval x) fun v=>wpOps E r (s.put dst v) K:=
 bB (by simp only[runOp];exact d8) fun _ _=>rfl
def pickV(c a b:Option AV):Option AV:=match c with
 |some (.val (.bool true))=>a
 |some (.val (.bool false))=>b
 |_=>none
theorem aFN {c a b : Opd} : wpOps E (⟨dst, none, .pick c a b⟩ :: r) s K = withV (pickV (s.eval c) (s.eval a) (s.eval b)) fun v => wpOps E r (s.put dst v) K :=
  bB (by
    simp only [runOp];cases s.eval c with
    | none => rfl
    | some v => cases v <;> try rfl
                rename_i v;cases v <;> try rfl
                rename_i x;cases x <;> exact d8) fun _ _ => rfl
theorem Za{z:List AV}:wpOps E (⟨dst,none,.alloc z⟩::r) s K=wpOps E r ((s.toH (s.h.alloc (.cells z true))).put dst (.ptr s.h.next 0)) K:=
 dH (o:=some (.ptr s.h.next 0,s.h.alloc (.cells z true))) rfl fun _ _=>rfl
theorem aKZ{x:Opd}:wpOps E (⟨dst,none,.box x⟩::r) s K=withV ((s.eval x).bind AV.cells) fun l=>wpOps E r ((s.toH (s.h.alloc (.cells l true))).put dst (.ptr s.h.next 0)) K:=by
 rw[dH (o:=((s.eval x).bind AV.cells).map fun l=>(.ptr s.h.next 0,s.h.alloc (.cells l true)))]
 ·cases (s.eval x).bind AV.cells<;>rfl
 ·simp only[runOp];cases (s.eval x).bind AV.cells<;>rfl
 ·exact fun _ _=>rfl
theorem Yz{z:List AV}{ps:List (Nat×Nat×Opd)}:wpOps E (⟨dst,none,.build z ps⟩::r) s K=withV (fill s z ps) fun cs=>wpOps E r (s.put dst (.agg cs)) K:=by
 rw[bB (o:=(fill s z ps).map .agg)]
 ·cases fill s z ps<;>rfl
 ·simp only[runOp];cases fill s z ps<;>rfl
 ·exact fun _ _=>rfl
theorem xI{es n:Nat}{z:List AV}{ps:List (Nat×Nat×Opd)}:wpOps E (⟨dst,none,.buildSlice es n z ps⟩::r) s K=withV (fill s z ps) fun cs=>wpOps E r ((s.toH (s.h.alloc (.cells cs true))).put dst (.own s.h.next 0 n es (some n))) K:=by
 rw[dH (o:=(fill s z ps).map fun cs=>(.own s.h.next 0 n es (some n),s.h.alloc (.cells cs true)))]
 ·cases fill s z ps<;>rfl
 ·simp only[runOp];cases fill s z ps<;>rfl
 ·exact fun _ _=>rfl
theorem aFP{n:Option Nat}{x:Opd}:wpOps E (⟨dst,none,.load n x⟩::r) s K=withV (s.eval x) fun v=>withV (cellsFrom E.globs s.h v) fun cs=>withV (takeN n cs) fun v=>wpOps E r (s.put dst v) K:=by
 rw[bB (o:=(s.eval x).bind fun v=>(cellsFrom E.globs s.h v).bind (takeN n))]
 ·cases s.eval x with
  |none=>rfl
  |some v=>cases hc:cellsFrom E.globs s.h v with
   |none=>simp only[j8,hc,aP];rfl
   |some cs=>simp only[j8,hc,aP]
 ·simp only[runOp];cases s.eval x with
  |none=>rfl
  |some v=>exact d8
 ·exact fun _ _=>rfl
def storeH(h:AH)(n:Nat)(a:AV)(l:List AV):Option AH:=match a with
 |.ptr b off=>match h.get b with
  |some (.cells cs true)=>bif i8 l.length n&&ia (off+n) cs.length then some (h.put b (some (.cells (putAt cs off l) true))) else none
  |_=>none
 |_=>none
theorem Yx{n:Nat}{a x:Opd}:wpOps E (⟨none,none,.store n a x⟩::r) s K=withV (s.eval a) fun a=>withV ((s.eval x).bind AV.cells) fun l=>withV (storeH s.h n a l) fun h=>wpOps E r (s.toH h) K:=by
 rw[dH (o:=(s.eval a).bind fun a=>((s.eval x).bind AV.cells).bind fun l=>(storeH s.h n a l).map fun h=>(undefA,h))]
 ·cases s.eval a with
  |none=>rfl
  |some a=>cases (s.eval x).bind AV.cells with
   |none=>rfl
   |some l=>
    simp only[j8,aP];cases storeH s.h n a l<;>rfl
 ·simp only[runOp];cases s.eval a with
  |none=>rfl
  |some a=>cases (s.eval x).bind AV.cells with
   |none=>cases a<;>rfl
   |some l=>
    cases a<;>try rfl
    rename_i b off;simp only[j8,storeH];generalize s.h.get b=o;cases o with
    |none=>rfl
    |some k=>
     cases k<;>try rfl
     rename_i cs rw;cases rw
     ·rfl
     ·show(bif _ then _ else _)=Ar _ (Ar _ (bif _ then _ else _));generalize (i8 l.length n&&ia (off+n) cs.length)=c;cases c<;>rfl
 ·exact fun _ _=>rfl
theorem aLA{op:BinOp}{t:TypeId}{g:Bool}{x y:Opd}:wpOps E (⟨dst,none,.bin op t g x y⟩::r) s K=withV (s.eval x) fun a=>withV (s.eval y) fun b=>withV (binA E.P op t g a b) fun v=>wpOps E r (s.put dst v) K:=by
 rw[bB (o:=(s.eval x).bind fun a=>(s.eval y).bind fun b=>binA E.P op t g a b)]
 ·cases s.eval x with
  |none=>rfl
  |some a=>cases s.eval y with
   |none=>rfl
   |some b=>rfl
 ·simp only[runOp];cases s.eval x with
  |none=>rfl
  |some a=>cases s.eval y with
   |none=>rfl
   |some b=>exact d8
 ·exact fun _ _=>rfl
def unV(P:Program)(op:UnOp)(x:AV):Option AV:=match x with
 |.val v=>(evalPure P (Op.unary op v)).bind ofFlat
 |_=>none
theorem aNZ{op:UnOp}{x:Opd}:wpOps E (⟨dst,none,.un op x⟩::r) s K=withV (s.eval x) fun a=>withV (unV E.P op a) fun v=>wpOps E r (s.put dst v) K:=by
 rw[bB (o:=(s.eval x).bind (unV E.P op))]
 ·cases s.eval x<;>rfl
 ·exact U28
 ·exact fun _ _=>rfl
def fieldAddrV(off:Nat)(x:AV):Option AV:=match x with
 |.ptr b o=>some (.ptr b (o+off))
 |.iptr cs=>bif ia off cs.length then some (.iptr (cs.drop off)) else none
 |.val (.pointer (some ⟨g,o,none⟩))=>some (.val (.pointer (some ⟨g,o+off,none⟩)))
 |_=>none
theorem zq{off:Nat}{x:Opd}:wpOps E (⟨dst,none,.fieldAddr off x⟩::r) s K=withV (s.eval x) fun a=>withV (fieldAddrV off a) fun v=>wpOps E r (s.put dst v) K:=by
 rw[bB (o:=(s.eval x).bind (fieldAddrV off))]
 ·cases s.eval x<;>rfl
 ·simp only[runOp];cases s.eval x with
  |none=>rfl
  |some a=>
   simp only[j8,fieldAddrV];cases a<;>try rfl
   ·rename_i v;cases v<;>try rfl
    rename_i p;cases p with
    |none=>rfl
    |some p=>
     obtain⟨g,o,sp⟩:=p;cases sp<;>rfl
   ·exact zl
 ·exact fun _ _=>rfl
def idxAddrSV(es:Nat)(x:AV)(i:Nat):Option AV:=match x with
 |.imm cs n _=>bif ip i n&&ia (i*es) cs.length then some (.iptr (cs.drop (i*es))) else none
 |.own b off n es' _=>bif ip i n&&i8 es es' then some (.ptr b (off+i*es)) else none
 |_=>none
theorem Gv{es:Nat}{x i:Opd}:wpOps E (⟨dst,none,.idxAddrS es x i⟩::r) s K=withV (s.eval x) fun a=>withV ((s.eval i).bind asN) fun i=>withV (idxAddrSV es a i) fun v=>wpOps E r (s.put dst v) K:=by
 rw[bB (o:=(s.eval x).bind fun a=>((s.eval i).bind asN).bind fun i=>idxAddrSV es a i)]
 ·cases s.eval x with
  |none=>rfl
  |some a=>cases (s.eval i).bind asN<;>rfl
 ·simp only[runOp];cases s.eval x with
  |none=>rfl
  |some a=>cases (s.eval i).bind asN with
   |none=>cases a<;>rfl
   |some j=>
    simp only[j8,idxAddrSV];cases a<;>try rfl
    ·rename_i cs n c;exact zl
    ·rename_i b o n es' c;exact zl
 ·exact fun _ _=>rfl
def idxStrV(x:AV)(i:Nat):Option AV:=match x with
 |.val (.string b)=>(b.data.toList[i]?).map fun c=>.val (.int .u8 c.toNat)
 |_=>none
theorem Sz{x i:Opd}:wpOps E (⟨dst,none,.idxStr x i⟩::r) s K=withV (s.eval x) fun a=>withV ((s.eval i).bind asN) fun i=>withV (idxStrV a i) fun v=>wpOps E r (s.put dst v) K:=by
 rw[bB (o:=(s.eval x).bind fun a=>((s.eval i).bind asN).bind fun i=>idxStrV a i)]
 ·cases s.eval x with
  |none=>rfl
  |some a=>cases (s.eval i).bind asN<;>rfl
 ·simp only[runOp];cases s.eval x with
  |none=>rfl
  |some a=>cases (s.eval i).bind asN with
   |none=>cases a<;>first|rfl|(rename_i v;cases v<;>rfl)
   |some j=>
    simp only[j8,idxStrV];cases a<;>try rfl
    rename_i v;cases v<;>try rfl
    rename_i b;show(match b.data.toList[j]? with|some c=>some (AV.val (.int .u8 c.toNat),s)|none=>none)=Ar _ (Ar _ (b.data.toList[j]?));generalize b.data.toList[j]? =o;cases o<;>rfl
 ·exact fun _ _=>rfl
def sliceStrV(x:AV)(lo hi:Option Nat):Option AV:=match x with
 |.val (.string b)=>(sliceB b.size b.size lo hi none).map fun(l,h,_)=>.val (.string (b.extract l h))
 |_=>none
theorem Gu{x:Opd}{lo hi:Option Opd}:wpOps E (⟨dst,none,.sliceStr x lo hi⟩::r) s K=withV (s.eval x) fun a=>withV (optN s lo) fun lo=>withV (optN s hi) fun hi=>withV (sliceStrV a lo hi) fun v=>wpOps E r (s.put dst v) K:=by
 rw[bB (o:=(s.eval x).bind fun a=>(optN s lo).bind fun lo=>(optN s hi).bind fun hi=>sliceStrV a lo hi)]
 ·cases s.eval x with
  |none=>rfl
  |some a=>cases optN s lo with
   |none=>rfl
   |some lo=>cases optN s hi<;>rfl
 ·simp only[runOp];cases s.eval x with
  |none=>rfl
  |some a=>cases optN s lo with
   |none=>cases a<;>first|rfl|(rename_i v;cases v<;>rfl)
   |some lo=>cases optN s hi with
    |none=>cases a<;>first|rfl|(rename_i v;cases v<;>rfl)
    |some hi=>
     simp only[j8,sliceStrV];cases a<;>try rfl
     rename_i v;cases v<;>try rfl
     rename_i b;show(match sliceB b.size b.size lo hi none with|some (l,h,_)=>some (AV.val (.string (b.extract l h)),s)|none=>none)=Ar _ (Ar _ (sliceB b.size b.size lo hi none));generalize sliceB b.size b.size lo hi none=o;cases o<;>rfl
 ·exact fun _ _=>rfl
def extractV(i:Nat)(x:AV):Option AV:=match x with
 |.tup vs=>vs[i]?
 |_=>none
theorem Pw{i:Nat}{x:Opd}:wpOps E (⟨dst,none,.extract i x⟩::r) s K=withV (s.eval x) fun a=>withV (extractV i a) fun v=>wpOps E r (s.put dst v) K:=by
 rw[bB (o:=(s.eval x).bind (extractV i))]
 ·cases s.eval x<;>rfl
 ·exact U28
 ·exact fun _ _=>rfl
def lenV(x:AV):Option AV:=match x with
 |.val (.slice _ 0 _)=>some (.val (.int .i64 0))
 |.imm _ n _=>some (.val (.int .i64 n))
 |.own _ _ n _ _=>some (.val (.int .i64 n))
 |_=>none
theorem aFQ{x:Opd}:wpOps E (⟨dst,none,.lenS x⟩::r) s K=withV (s.eval x) fun a=>withV (lenV a) fun v=>wpOps E r (s.put dst v) K:=by
 rw[bB (o:=(s.eval x).bind lenV)]
 ·cases s.eval x<;>rfl
 ·simp only[runOp];cases s.eval x with
  |none=>rfl
  |some a=>
   simp only[j8,lenV];cases a<;>try rfl
   rename_i v;cases v<;>try rfl
   rename_i p n c;cases n<;>rfl
 ·exact fun _ _=>rfl
def lenStrV(x:AV):Option AV:=match x with
 |.val (.string b)=>some (.val (.int .i64 b.size))
 |_=>none
theorem Sy{x:Opd}:wpOps E (⟨dst,none,.lenStr x⟩::r) s K=withV (s.eval x) fun a=>withV (lenStrV a) fun v=>wpOps E r (s.put dst v) K:=by
 rw[bB (o:=(s.eval x).bind lenStrV)]
 ·cases s.eval x<;>rfl
 ·simp only[runOp];cases s.eval x with
  |none=>rfl
  |some a=>cases a<;>first|rfl|(rename_i v;cases v<;>rfl)
 ·exact fun _ _=>rfl
def maxV(l:List AV):Option AV:=match l with
 |.val (.int k a)::r=>(mostOf true k a r).map fun m=>.val (.int k m)
 |_=>none
theorem aFO{l:List Opd}:wpOps E (⟨dst,none,.maxI l⟩::r) s K=withV (evalAll s l) fun l=>withV (maxV l) fun v=>wpOps E r (s.put dst v) K:=by
 rw[bB (o:=(evalAll s l).bind maxV)]
 ·cases evalAll s l<;>rfl
 ·simp only[runOp];cases evalAll s l with
  |none=>rfl
  |some l=>
   simp only[j8,maxV];cases l with
   |nil=>rfl
   |cons a t=>
    cases a<;>try rfl
    rename_i v;cases v<;>try rfl
    rename_i k a;show(mostOf true k a t).bind (fun m=>some (AV.val (.int k m),s))=Ar _ (Ar _ (mostOf true k a t));generalize mostOf true k a t=o;cases o<;>rfl
 ·exact fun _ _=>rfl
theorem Sx{f:Fn}{a b:List Opd}:wpOps E (⟨dst,none,.mkFunc f a b⟩::r) s K=withV (evalAll s a) fun a=>withV (evalAll s b) fun b=>wpOps E r (s.put dst (.fn f a b)) K:=by
 rw[bB (o:=(evalAll s a).bind fun a=>(evalAll s b).map fun b=>.fn f a b)]
 ·cases evalAll s a with
  |none=>rfl
  |some a=>cases evalAll s b<;>rfl
 ·simp only[runOp];cases evalAll s a with
  |none=>rfl
  |some a=>cases evalAll s b<;>rfl
 ·exact fun _ _=>rfl
theorem aFR{f:Nat}{l:List Opd}:wpOps E (⟨dst,none,.call f l⟩::r) s K=withV (evalAll s l) fun l=>CallTo E (.f f) l s.h fun v h=>wpOps E r ((s.toH h).put dst v) K:=U2
theorem Yy{x:Opd}{l:List Opd}{b:Nat}(hx:s.eval x=some (.yld b)):wpOps E (⟨dst,none,.callv x l⟩::r) s K=withV (evalAll s l) fun l=>CallTo E (.y b) l s.h fun v h=>wpOps E r ((s.toH h).put dst v) K:=by
 simp only[wpOps,wantedA,aP,true_implies,Bg,false_implies,and_true,wpOp,hx];rfl
theorem Ta{es bytes:Nat}{sl x:Opd}:wpOps E (⟨dst,none,.append es bytes sl x⟩::r) s K=withV (appendA s es bytes sl x) fun(v,s')=>wpOps E r ({s' with round:=s.round}.put dst v) K:=U2
theorem Fy:evalAll s []=some []:=rfl
variable {Q:Ex→St→Prop}
def seqK(E:Env)(b:ACode)(Q:Ex→St→Prop)(e:Ex)(s:St):Prop:=match e with
 |.normal=>wp E b s Q
 |e=>Q e s
def blockK(id:Nat)(Q:Ex→St→Prop)(e:Ex)(s:St):Prop:=match e with
 |.exit i=>Q (bif i8 i id then .normal else .exit i) s
 |e=>Q e s
theorem aKL:wp E .skip s Q=Q .normal s:=rfl
theorem aNS:wp E .ret s Q=Q .ret s:=rfl
theorem aKM{i:Nat}:wp E (.exit i) s Q=Q (.exit i) s:=rfl
theorem Yq{ops:List AOper}:wp E (.region ops) s Q=wpOps E ops s (Q .normal):=rfl
theorem aNR{a b:ACode}:wp E (.seq a b) s Q=wp E a s (seqK E b Q):=rfl
theorem aEH{id:Nat}{b:ACode}:wp E (.block id b) s Q=wp E b s (blockK id Q):=rfl
def boolV:AV→Option Bool
 |.val (.bool x)=>some x
 |_=>none
theorem aKN{c:Opd}{a b:ACode}:wp E (.cond c a b) s Q=withV ((s.eval c).bind boolV) fun x=>ifP x (wp E a s Q) (wp E b s Q):=by
 simp only[wp];cases s.eval c with
 |none=>rfl
 |some v=>
  cases v<;>try rfl
  rename_i v;cases v<;>try rfl
  rename_i x;exact propext (Mj (b:=x)).symm
theorem Vf{b:ACode}:seqK E b Q .normal s=wp E b s Q:=rfl
theorem aNA{b:ACode}:seqK E b Q .ret s=Q .ret s:=rfl
theorem aHM{b:ACode}{i:Nat}:seqK E b Q (.exit i) s=Q (.exit i) s:=rfl
theorem Yr{id:Nat}:blockK id Q .normal s=Q .normal s:=rfl
theorem aNT{id:Nat}:blockK id Q .ret s=Q .ret s:=rfl
theorem aKO{id i:Nat}:blockK id Q (.exit i) s=Q (bif i8 i id then .normal else .exit i) s:=rfl
def loopK(E:Env)(l:ACode)(Q:Ex→St→Prop)(e:Ex)(s:St):Prop:=match e with
 |.normal=>Run E l s Q
 |e=>Q e s
theorem aB{l b:ACode}(hl:l=.loop b)(h:wp E b s (loopK E l Q)):Run E l s Q:=by
 subst hl;refine Run.loop ((ay _ _ _ h).mono fun e s' k=>?_);cases e<;>exact k
theorem Vc{l:ACode}:loopK E l Q .normal s=Run E l s Q:=rfl
theorem aMY{l:ACode}:loopK E l Q .ret s=Q .ret s:=rfl
theorem aHJ{l:ACode}{i:Nat}:loopK E l Q (.exit i) s=Q (.exit i) s:=rfl
theorem kb(k:IntKind):(k==k)=true:=by cases k<;>rfl
theorem aLI{P:Program}{t:TypeId}{g:Bool}{k:IntKind}{a b:Int}:binA P .lss t g (.val (.int k a)) (.val (.int k b))=some (.val (.bool (decide (a<b)))):=by simp only[binA,binInt,kb,cond_true]
theorem aLJ{P:Program}{t:TypeId}{g:Bool}{k:IntKind}{a b:Int}:binA P .leq t g (.val (.int k a)) (.val (.int k b))=some (.val (.bool (decide (a≤b)))):=by simp only[binA,binInt,kb,cond_true]
theorem aLK{P:Program}{t:TypeId}{g:Bool}{k:IntKind}{a b:Int}:binA P .gtr t g (.val (.int k a)) (.val (.int k b))=some (.val (.bool (decide (b<a)))):=by simp only[binA,binInt,kb,cond_true]
theorem aLL{P:Program}{t:TypeId}{g:Bool}{k:IntKind}{a b:Int}:binA P .geq t g (.val (.int k a)) (.val (.int k b))=some (.val (.bool (decide (b≤a)))):=by simp only[binA,binInt,kb,cond_true]
theorem aLM{P:Program}{t:TypeId}{g:Bool}{k:IntKind}{a b:Int}:binA P .eql t g (.val (.int k a)) (.val (.int k b))=some (.val (.bool (decide (a=b)))):=by simp only[binA,binInt,kb,cond_true]<;>rfl
theorem aLE{P:Program}{t:TypeId}{g:Bool}{k:IntKind}{a b:Int}:binA P .neq t g (.val (.int k a)) (.val (.int k b))=some (.val (.bool (!decide (a=b)))):=by simp only[binA,binInt,kb,cond_true]<;>rfl
theorem aEN{P:Program}{t:TypeId}{g:Bool}{k:IntKind}{a b:Int}:binA P .add t g (.val (.int k a)) (.val (.int k b))=some (.val (.int k (k.wrap (a+b)))):=by simp only[binA,binInt,kb,cond_true]
theorem aLB{P:Program}{t:TypeId}{g:Bool}{k:IntKind}{a b:Int}:binA P .sub t g (.val (.int k a)) (.val (.int k b))=some (.val (.int k (k.wrap (a-b)))):=by simp only[binA,binInt,kb,cond_true]
theorem aLG{P:Program}{t:TypeId}{g:Bool}{k:IntKind}{a b:Int}:binA P .mul t g (.val (.int k a)) (.val (.int k b))=some (.val (.int k (k.wrap (a*b)))):=by simp only[binA,binInt,kb,cond_true]
def strEq(a b:ByteArray):Bool:=eqBytes a.data.toList b.data.toList
theorem aFT{P:Program}{t:TypeId}{g:Bool}{a b:ByteArray}:binA P .eql t g (.val (.string a)) (.val (.string b))=some (.val (.bool (strEq a b))):=by simp only[binA,binStr,jd,strEq]
theorem aFS{P:Program}{t:TypeId}{g:Bool}{a b:ByteArray}:binA P .neq t g (.val (.string a)) (.val (.string b))=some (.val (.bool (!strEq a b))):=by simp only[binA,binStr,jd,strEq]
theorem aLD{P:Program}{b:Bool}:unV P .not (.val (.bool b))=some (.val (.bool (!b))):=by cases b<;>rfl
theorem aFU{b:Bool}{x y:AV}:pickV (some (.val (.bool b))) (some x) (some y)=some (bif b then x else y):=by cases b<;>rfl
theorem Io{k:IntKind}{i:Nat}:asN (.val (.int k (Nat.cast i)))=some i:=rfl
theorem aHP{off b o:Nat}:fieldAddrV off (.ptr b o)=some (.ptr b (o+off)):=rfl
def cfB(o:Option Blk)(off:Nat):Option (List AV):=match o with
 |some (.cells cs _)=>bif ia off cs.length then some (cs.drop off) else none
 |_=>none
theorem aKK{G:Nat→Option (List AV)}{h:AH}{b off:Nat}:cellsFrom G h (.ptr b off)=cfB (h.get b) off:=rfl
theorem aEE{G:Nat→Option (List AV)}{h:AH}{cs:List AV}:cellsFrom G h (.iptr cs)=some cs:=rfl
theorem mn:AH.empty.next=0:=rfl
theorem uF{h:AH}{x:Blk}:(h.alloc x).next=h.next+1:=rfl
theorem dT{h:AH}{b:Nat}{x:Option Blk}:(h.put b x).next=h.next:=rfl
theorem aLF{P:Program}{n:Int}:unV P .neg (.val (.int .i64 n))=some (.val (.int .i64 (IntKind.i64.wrap (0-n)))):=rfl
theorem aLH{a b:Nat}:maxV [.val (.int .i64 (a:Int)),.val (.int .i64 (b:Int))]=some (.val (.int .i64 ((max a b:Nat):Int))):=by
 have h:(IntKind.i64==IntKind.i64)=true:=rfl;have k:max (a:Int) (b:Int)=((max a b:Nat):Int):=by omega
 simp only[maxV,mostOf,h,cond_true,jd,k]
theorem x_0{a:AV}{l:List AV}:extractV 0 (.tup (a::l))=some a:=rfl
theorem x_1{a b:AV}{l:List AV}:extractV 1 (.tup (a::b::l))=some b:=rfl
theorem x_2{a b c:AV}{l:List AV}:extractV 2 (.tup (a::b::c::l))=some c:=rfl
theorem hZ{l:List AV}{i:Nat}{v:AV}{h:AH}{r:Option Nat}(hv:(enterTm l 0 .nil).get i=some v):St.eval {tm:=enterTm l 0 .nil,h,defers:=[],round:=r} (.t i)=some v:=hv
theorem aMA{G:Nat→Option (List AV)}:resultsA G s []=some []:=rfl
theorem aLZ{G:Nat→Option (List AV)}{t:Nat}{l:List ARes}:resultsA G s (.tmp t::l)=(s.eval (.t t)).bind fun v=>(resultsA G s l).map fun l=>v::l:=by
 have h:s.eval (.t t)=s.tm.get t:=rfl;rw[h];simp only[resultsA];cases s.tm.get t with
 |none=>rfl
 |some v=>cases resultsA G s l<;>rfl
theorem aGT{G:Nat→Option (List AV)}{t:Nat}{n:Option Nat}{l:List ARes}:resultsA G s (.cell t n::l)=(s.eval (.t t)).bind fun v=>(cellsFrom G s.h v).bind fun cs=>(takeN n cs).bind fun v=>(resultsA G s l).map fun l=>v::l:=by
 have h:s.eval (.t t)=s.tm.get t:=rfl;rw[h];simp only[resultsA];cases s.tm.get t with
 |none=>rfl
 |some v=>
  simp only[j8];cases hc:cellsFrom G s.h v with
  |none=>simp only[Option.bind_none]
  |some cs=>
   simp only[j8];cases resultsA G s l with
   |none=>cases takeN n cs<;>rfl
   |some l=>
    show Ar (fun x=>x::l) (takeN n cs)=_;cases takeN n cs<;>rfl
def Leaf(v:AV):Prop:=(∀h n,toTree h (n+1) v=some v)∧∀h n,freeze (n+1) v h=h
def Tree(v:AV):Prop:=(∀h n,toTree h (n+2) v=some v)∧∀h n,freeze (n+2) v h=h
theorem Leaf.val(v:Value):Leaf (.val v):=⟨fun _ _=>rfl,fun _ _=>rfl⟩
theorem Leaf.imm(cs:List AV)(n:Nat)(c:Option Nat):Leaf (.imm cs n c):=⟨fun _ _=>rfl,fun _ _=>rfl⟩
theorem Leaf.tree{v:AV}(h:Leaf v):Tree v:=⟨fun a n=>h.1 a (n+1),fun a n=>h.2 a (n+1)⟩
theorem Tree.val(v:Value):Tree (.val v):=(Leaf.val v).tree
theorem fE{h:AH}{n:Nat}:∀{l:List AV},(∀v∈l,Leaf v)→l.mapM (toTree h (n+1))=some l
 | [],_=>rfl
 |v::l,k=>by
  rw[List.mapM_cons,(k v ik).1,fE fun x hx=>k x (j4 _ hx)];rfl
theorem dN{n:Nat}:∀{l:List AV} {h:AH},(∀v∈l,Leaf v)→l.foldl (fun h c=>freeze (n+1) c h) h=h
 | [],_,_=>rfl
 |v::l,h,k=>by
  rw[Au,(k v ik).2];exact dN fun x hx=>k x (j4 _ hx)
theorem Tree.agg{l:List AV}(k:∀v∈l,Leaf v):Tree (.agg l):=
 ⟨fun h n=>(show(l.mapM (toTree h (n+1))).map AV.agg=_ by rw[fE k];rfl),fun h n=>(show l.foldl (fun h c=>freeze (n+1) c h) h=h from dN k)⟩
theorem Tree.tup{l:List AV}(k:∀v∈l,Leaf v):Tree (.tup l):=
 ⟨fun h n=>(show(l.mapM (toTree h (n+1))).map AV.tup=_ by rw[fE k];rfl),fun h n=>(show l.foldl (fun h c=>freeze (n+1) c h) h=h from dN k)⟩
theorem Tree.two(a b:Value):Tree (.tup [.val a,.val b]):=Tree.tup fun v hv=>by
 simp only[ie,j7,or_false] at hv;rcases hv with rfl|rfl<;>exact Leaf.val _
theorem Tree.three(a b c:Value):Tree (.tup [.val a,.val b,.val c]):=Tree.tup fun v hv=>by
 simp only[ie,j7,or_false] at hv;rcases hv with rfl|rfl|rfl<;>exact Leaf.val _
theorem cK{h:AH}:∀{l:List AV},(∀v∈l,Tree v)→mapTree h l=some l
 | [],_=>rfl
 |v::l,k=>by
  have h1:toTree h deepest v=some v:=(k v ik).1 h 999999998;simp only[mapTree,h1,cK fun x hx=>k x (j4 _ hx)]
theorem bR:∀{l:List AV} {h:AH},(∀v∈l,Tree v)→l.foldl (fun h v=>freeze deepest v h) h=h
 | [],_,_=>rfl
 |v::l,h,k=>by
  have h1:freeze deepest v h=h:=(k v ik).2 h 999999998;rw[Au,h1];exact bR fun x hx=>k x (j4 _ hx)
theorem aC{g:Nat}{l:List AV}{r:AV}(hs:E.shared.get g=none)(hk:E.known g l=none)(hl:∀v∈l,Tree v)(hr:isFlat r=true)(ht:Tree r)(a:Ans E g l r)(h:AH):RunCall E (.f g) l h r h:=
 Yp hs hk (cK hl) (bR hl) hr (fun hc=>ht.1 _ 999999998) a
theorem aN{p:AV→Prop}{a:AV}(h:p a):∀v∈[a],p v:=fun v hv=>by
 rw[ig.1 hv];exact h
theorem bT{p:AV→Prop}{a b:AV}(h:p a)(k:p b):∀v∈[a,b],p v:=fun v hv=>by
 simp only[ie,j7,or_false] at hv;rcases hv with rfl|rfl
 ·exact h
 ·exact k
theorem Dt{p:AV→Prop}{a b c:AV}(h:p a)(k:p b)(m:p c):∀v∈[a,b,c],p v:=fun v hv=>by
 simp only[ie,j7,or_false] at hv;rcases hv with rfl|rfl|rfl
 ·exact h
 ·exact k
 ·exact m
end Go.AM
namespace Go.AM
variable {E:Env}{s:St}{K:St→Prop}{r:List AOper}{d:Nat}{dst:Option Nat}{Q:Ex→St→Prop}
def stepV(E:Env)(r:List AOper)(s:St)(dst:Option Nat)(K:St→Prop)(o:Option AV):Prop:=withV o fun v=>wpOps E r (s.put dst v) K
def stepH(E:Env)(r:List AOper)(s:St)(dst:Option Nat)(K:St→Prop)(o:Option (AV×AH)):Prop:=withV o fun(v,h)=>wpOps E r ((s.toH h).put dst v) K
def stepS(E:Env)(r:List AOper)(s:St)(K:St→Prop)(o:Option AH):Prop:=withV o fun h=>wpOps E r (s.toH h) K
theorem Gy{v:AV}:stepV E r s dst K (some v)=wpOps E r (s.put dst v) K:=rfl
theorem Ha{v:AV}{h:AH}:stepH E r s dst K (some (v,h))=wpOps E r ((s.toH h).put dst v) K:=rfl
theorem Gz{h:AH}:stepS E r s K (some h)=wpOps E r (s.toH h) K:=rfl
def guardK(E:Env)(dst:Option Nat)(op:AOp)(r:List AOper)(s:St)(K:St→Prop)(o:Option Bool):Prop:=match o with
 |some true=>wpOps E (⟨dst,none,op⟩::r) s K
 |some false=>wpOps E r (s.put dst undefA) K
 |none=>False
theorem Vj{op:AOp}:guardK E dst op r s K (some true)=wpOps E (⟨dst,none,op⟩::r) s K:=rfl
theorem Vk{op:AOp}:guardK E dst op r s K (some false)=wpOps E r (s.put dst undefA) K:=rfl
theorem s_g{t:Nat}{b:Bool}{op:AOp}:wpOps E (⟨dst,some (t,b),op⟩::r) s K=guardK E dst op r s K (wantedV (s.eval (.t t)) b):=by
 rw[Yw];cases wantedV (s.eval (.t t)) b with
 |none=>rfl
 |some g=>cases g<;>rfl
def condK(E:Env)(a b:ACode)(s:St)(Q:Ex→St→Prop)(o:Option AV):Prop:=match o with
 |some (.val (.bool true))=>wp E a s Q
 |some (.val (.bool false))=>wp E b s Q
 |_=>False
theorem aEA{a b:ACode}:condK E a b s Q (some (.val (.bool true)))=wp E a s Q:=rfl
theorem aEB{a b:ACode}:condK E a b s Q (some (.val (.bool false)))=wp E b s Q:=rfl
theorem aGK{c:Opd}{a b:ACode}:wp E (.cond c a b) s Q=condK E a b s Q (s.eval c):=by
 rw[aKN];cases s.eval c with
 |none=>rfl
 |some v=>
  cases v<;>try rfl
  rename_i v;cases v<;>try rfl
  rename_i x;cases x<;>rfl
theorem aOC{x:Opd}:wpOps E (⟨dst,none,.mv x⟩::r) s K=stepV E r s dst K (s.eval x):=aOA
theorem aGE{c a b:Opd}:wpOps E (⟨dst,none,.pick c a b⟩::r) s K=stepV E r s dst K (pickV (s.eval c) (s.eval a) (s.eval b)):=aFN
def boxO(h:AH):Option (List AV)→Option (AV×AH)
 |some l=>some (.ptr h.next 0,h.alloc (.cells l true))
 |none=>none
theorem Sr{h:AH}{l:List AV}:boxO h (some l)=some (.ptr h.next 0,h.alloc (.cells l true)):=rfl
theorem aLW{x:Opd}:wpOps E (⟨dst,none,.box x⟩::r) s K=stepH E r s dst K (boxO s.h ((s.eval x).bind AV.cells)):=by
 rw[aKZ];cases (s.eval x).bind AV.cells<;>rfl
def aggO:Option (List AV)→Option AV
 |some l=>some (.agg l)
 |none=>none
theorem Sv{l:List AV}:aggO (some l)=some (.agg l):=rfl
theorem Zp{z:List AV}{ps:List (Nat×Nat×Opd)}:wpOps E (⟨dst,none,.build z ps⟩::r) s K=stepV E r s dst K (aggO (fill s z ps)):=by
 rw[Yz];cases fill s z ps<;>rfl
def ownO(h:AH)(es n:Nat):Option (List AV)→Option (AV×AH)
 |some l=>some (.own h.next 0 n es (some n),h.alloc (.cells l true))
 |none=>none
theorem Qn{h:AH}{es n:Nat}{l:List AV}:ownO h es n (some l)=some (.own h.next 0 n es (some n),h.alloc (.cells l true)):=rfl
theorem xR{es n:Nat}{z:List AV}{ps:List (Nat×Nat×Opd)}:wpOps E (⟨dst,none,.buildSlice es n z ps⟩::r) s K=stepH E r s dst K (ownO s.h es n (fill s z ps)):=by
 rw[xI];cases fill s z ps<;>rfl
theorem aGG{n:Option Nat}{x:Opd}:wpOps E (⟨dst,none,.load n x⟩::r) s K=stepV E r s dst K (((s.eval x).bind (cellsFrom E.globs s.h)).bind (takeN n)):=by
 rw[aFP];cases s.eval x with
 |none=>rfl
 |some v=>
  simp only[aP,j8];cases cellsFrom E.globs s.h v<;>rfl
def storeO(h:AH)(n:Nat):Option AV→Option (List AV)→Option AH
 |some a,some l=>storeH h n a l
 |_,_=>none
theorem Ca{h:AH}{n:Nat}{a:AV}{l:List AV}:storeO h n (some a) (some l)=storeH h n a l:=rfl
theorem Zm{n:Nat}{a x:Opd}:wpOps E (⟨none,none,.store n a x⟩::r) s K=stepS E r s K (storeO s.h n (s.eval a) ((s.eval x).bind AV.cells)):=by
 rw[Yx];cases s.eval a with
 |none=>rfl
 |some a=>cases (s.eval x).bind AV.cells<;>rfl
def binO(P:Program)(op:BinOp)(t:TypeId)(g:Bool):Option AV→Option AV→Option AV
 |some a,some b=>binA P op t g a b
 |_,_=>none
theorem Ss{P:Program}{op:BinOp}{t:TypeId}{g:Bool}{a b:AV}:binO P op t g (some a) (some b)=binA P op t g a b:=rfl
theorem aLX{op:BinOp}{t:TypeId}{g:Bool}{x y:Opd}:wpOps E (⟨dst,none,.bin op t g x y⟩::r) s K=stepV E r s dst K (binO E.P op t g (s.eval x) (s.eval y)):=by
 rw[aLA];cases s.eval x with
 |none=>rfl
 |some a=>cases s.eval y<;>rfl
theorem aOB{op:UnOp}{x:Opd}:wpOps E (⟨dst,none,.un op x⟩::r) s K=stepV E r s dst K ((s.eval x).bind (unV E.P op)):=by
 rw[aNZ];cases s.eval x<;>rfl
theorem Cm{off:Nat}{x:Opd}:wpOps E (⟨dst,none,.fieldAddr off x⟩::r) s K=stepV E r s dst K ((s.eval x).bind (fieldAddrV off)):=by
 rw[zq];cases s.eval x<;>rfl
def idxO(es:Nat):Option AV→Option Nat→Option AV
 |some a,some i=>idxAddrSV es a i
 |_,_=>none
theorem Rg{es i:Nat}{a:AV}:idxO es (some a) (some i)=idxAddrSV es a i:=rfl
theorem Hj{es:Nat}{x i:Opd}:wpOps E (⟨dst,none,.idxAddrS es x i⟩::r) s K=stepV E r s dst K (idxO es (s.eval x) ((s.eval i).bind asN)):=by
 rw[Gv];cases s.eval x with
 |none=>rfl
 |some a=>cases (s.eval i).bind asN<;>rfl
def idxSO:Option AV→Option Nat→Option AV
 |some a,some i=>idxStrV a i
 |_,_=>none
theorem Iy{i:Nat}{a:AV}:idxSO (some a) (some i)=idxStrV a i:=rfl
theorem Tx{x i:Opd}:wpOps E (⟨dst,none,.idxStr x i⟩::r) s K=stepV E r s dst K (idxSO (s.eval x) ((s.eval i).bind asN)):=by
 rw[Sz];cases s.eval x with
 |none=>rfl
 |some a=>cases (s.eval i).bind asN<;>rfl
def sliceO:Option AV→Option (Option Nat)→Option (Option Nat)→Option AV
 |some a,some lo,some hi=>sliceStrV a lo hi
 |_,_,_=>none
theorem Ch{a:AV}{lo hi:Option Nat}:sliceO (some a) (some lo) (some hi)=sliceStrV a lo hi:=rfl
theorem Hi{x:Opd}{lo hi:Option Opd}:wpOps E (⟨dst,none,.sliceStr x lo hi⟩::r) s K=stepV E r s dst K (sliceO (s.eval x) (optN s lo) (optN s hi)):=by
 rw[Gu];cases s.eval x with
 |none=>rfl
 |some a=>cases optN s lo with
  |none=>rfl
  |some lo=>cases optN s hi<;>rfl
theorem Qh{i:Nat}{x:Opd}:wpOps E (⟨dst,none,.extract i x⟩::r) s K=stepV E r s dst K ((s.eval x).bind (extractV i)):=by
 rw[Pw];cases s.eval x<;>rfl
theorem aGH{x:Opd}:wpOps E (⟨dst,none,.lenS x⟩::r) s K=stepV E r s dst K ((s.eval x).bind lenV):=by
 rw[aFQ];cases s.eval x<;>rfl
theorem Tw{x:Opd}:wpOps E (⟨dst,none,.lenStr x⟩::r) s K=stepV E r s dst K ((s.eval x).bind lenStrV):=by
 rw[Sy];cases s.eval x<;>rfl
theorem aGF{l:List Opd}:wpOps E (⟨dst,none,.maxI l⟩::r) s K=stepV E r s dst K ((evalAll s l).bind maxV):=by
 rw[aFO];cases evalAll s l<;>rfl
def fnO(f:Fn):Option (List AV)→Option (List AV)→Option AV
 |some a,some b=>some (.fn f a b)
 |_,_=>none
theorem Vo{f:Fn}{a b:List AV}:fnO f (some a) (some b)=some (.fn f a b):=rfl
theorem Tv{f:Fn}{a b:List Opd}:wpOps E (⟨dst,none,.mkFunc f a b⟩::r) s K=stepV E r s dst K (fnO f (evalAll s a) (evalAll s b)):=by
 rw[Sx];cases evalAll s a with
 |none=>rfl
 |some a=>cases evalAll s b<;>rfl
def aM(E:Env)(f:Nat)(r:List AOper)(s:St)(dst:Option Nat)(K:St→Prop)(o:Option (List AV)):Prop:=withV o fun l=>CallTo E (.f f) l s.h fun v h=>wpOps E r ((s.toH h).put dst v) K
theorem aGL{f:Nat}{l:List Opd}:wpOps E (⟨dst,none,.call f l⟩::r) s K=aM E f r s dst K (evalAll s l):=aFR
theorem aA{f:Nat}{l:List AV}{v:AV}(h:∀h,RunCall E (.f f) l h v h):aM E f r s dst K (some l)=wpOps E r (s.put dst v) K:=by
 show CallTo E (.f f) l s.h _=_;exact propext (jY (h s.h))
theorem lZ{f:Nat}{l:List AV}{v:AV}{h':AH}(h:RunCall E (.f f) l s.h v h'):aM E f r s dst K (some l)=wpOps E r ((s.toH h').put dst v) K:=by
 show CallTo E (.f f) l s.h _=_;exact propext (jY h)
def consO:Option AV→Option (List AV)→Option (List AV)
 |some a,some l=>some (a::l)
 |_,_=>none
theorem Kz{a:AV}{l:List AV}:consO (some a) (some l)=some (a::l):=rfl
theorem aNW{x:Opd}{l:List Opd}:evalAll s (x::l)=consO (s.eval x) (evalAll s l):=by
 simp only[evalAll];cases s.eval x with
 |none=>rfl
 |some v=>cases evalAll s l<;>rfl
theorem Zx{G:Nat→Option (List AV)}{t:Nat}{l:List ARes}:resultsA G s (.tmp t::l)=consO (s.eval (.t t)) (resultsA G s l):=by
 rw[aLZ];cases s.eval (.t t) with
 |none=>rfl
 |some v=>cases resultsA G s l<;>rfl
theorem Ub{G:Nat→Option (List AV)}{t:Nat}{n:Option Nat}{l:List ARes}:resultsA G s (.cell t n::l)=consO (((s.eval (.t t)).bind (cellsFrom G s.h)).bind (takeN n)) (resultsA G s l):=by
 rw[aGT];cases s.eval (.t t) with
 |none=>rfl
 |some v=>
  simp only[j8];cases cellsFrom G s.h v with
  |none=>rfl
  |some cs=>
   simp only[j8];cases takeN n cs with
   |none=>rfl
   |some x=>cases resultsA G s l<;>rfl
theorem n_0{k:IntKind}:asN (.val (.int k 0))=some 0:=rfl
theorem n_1{k:IntKind}:asN (.val (.int k 1))=some 1:=rfl
end Go.AM
namespace Go.AM
variable {E:Env}{s:St}{K:St→Prop}{r:List AOper}{dst:Option Nat}
def idxAV(len es:Nat)(n:Option Nat)(x:AV)(i:Nat):Option AV:=match x with
 |.agg cs=>bif ip i len&&ia (i*es) cs.length then takeN n (cs.drop (i*es)) else none
 |_=>none
def idxAO(len es:Nat)(n:Option Nat):Option AV→Option Nat→Option AV
 |some a,some i=>idxAV len es n a i
 |_,_=>none
theorem Iz{len es i:Nat}{n:Option Nat}{a:AV}:idxAO len es n (some a) (some i)=idxAV len es n a i:=rfl
theorem aGI{len es:Nat}{n:Option Nat}{x i:Opd}:wpOps E (⟨dst,none,.idxA len es n x i⟩::r) s K=stepV E r s dst K (idxAO len es n (s.eval x) ((s.eval i).bind asN)):=by
 rw[bB (o:=idxAO len es n (s.eval x) ((s.eval i).bind asN))]
 ·rfl
 ·simp only[runOp];cases s.eval x with
  |none=>rfl
  |some a=>cases (s.eval i).bind asN with
   |none=>cases a<;>rfl
   |some j=>
    cases a<;>try rfl
    rename_i cs;simp only[idxAO,idxAV];cases (ip j len&&ia (j*es) cs.length) with
    |false=>rfl
    |true=>exact d8
 ·exact fun _ _=>rfl
end Go.AM
namespace Go.AM
variable {E:Env}
theorem Da{h:AH}{b k es:Nat}{cap:Option Nat}{cs:List AV}{rw:Bool}(hb:h.get b=some (.cells cs rw))(hl:cs.length=k*es)(hv:∀v∈cs,Leaf v):
  toTree (freeze deepest (.own b 0 k es cap) h) deepest (.own b 0 k es cap)=some (.imm cs k cap):=by
 have e1:freeze deepest (.own b 0 k es cap) h=h.put b (some (.cells cs false)):=by
  show(match h.get b with
   |some (.cells cs _)=>((cs.drop 0).take (k*es)).foldl (fun h c=>freeze 999999999 c h) (h.put b (some (.cells cs false)))
   |_=>h)=_
  rw[hb];simp only[j9];rw[ji om];exact dN hv
 rw[e1];have hg:(h.put b (some (.cells cs false))).get b=some (.cells cs false):=by rw[AH.get_put,if_pos rfl]
 rw[show deepest=999999999+1 from rfl,toTree.eq_def];simp only[hg];have h1:ia (0+k*es) cs.length=true:=ir.mpr om;simp only[h1,cond_true,j9];rw[ji om,fE hv];rfl
theorem Gm{g:Nat}{l:List AV}{b k es:Nat}{cap:Option Nat}{cs:List AV}{rw:Bool}{hc:AH}(hs:E.shared.get g=none)(hk:E.known g l=none)(hl:∀v∈l,Tree v)
  (a:Ev fun n=>enterA E (exec E n) g l .empty=some (.own b 0 k es cap,hc)) (hb:hc.get b=some (.cells cs rw)) (hn:cs.length=k*es) (hv:∀v∈cs,Leaf v) (h:AH):RunCall E (.f g) l h (.imm cs k cap) h:=by
 refine a.mono fun n p=>?_
 have hz:l.foldl (fun h v=>freeze deepest v h) h=h:=bR hl;simp only[ap,cT,hs,hz,cK hl,hk,p,Da hb hn hv];cases isFlat (AV.imm cs k cap)<;>rfl
end Go.AM
namespace Go.AM
variable {E:Env}{s:St}{K:St→Prop}{r:List AOper}{d:Nat}{dst:Option Nat}
def Row(lo:Nat)(h:AH)(v:AV)(cs:List AV):Prop:=(v=.val (.slice none 0 0)∧cs=[])∨∃b,lo≤b∧b<h.next∧cs≠ []∧v=.own b 0 cs.length 1 none∧h.get b=some (.cells cs true)
def pushH(h:AH)(v e:AV):AH:=match v with
 |.own b _ _ _ _=>match h.get b with
  |some (.cells cs _)=>((h.alloc (.cells [e] true)).put b none).alloc (.cells (cs++[e]) true)
  |_=>h
 |_=>(h.alloc (.cells [e] true)).alloc (.cells [e] true)
theorem Qk{lo:Nat}{h:AH}{v:AV}{cs:List AV}{e:AV}(hr:Row lo h v cs):(pushH h v e).next=h.next+2:=by
 rcases hr with⟨rfl,rfl⟩|⟨b,_,_,_,rfl,hg⟩
 ·rfl
 ·simp only[pushH,hg];rfl
theorem Cy{lo:Nat}{h:AH}{v:AV}{cs:List AV}{e:AV}(hr:Row lo h v cs)(hl:lo≤h.next):Row lo (pushH h v e) (.own (h.next+1) 0 (cs.length+1) 1 none) (cs++[e]):=by
 refine .inr ⟨h.next+1,om,by rw[Qk hr];omega,by simp,by simp,?_⟩
 rcases hr with⟨rfl,rfl⟩|⟨c,h1,h2,_,rfl,hg⟩
 ·simp only[pushH,AH.get_alloc,uF,if_true,im]
 ·simp only[pushH,hg,AH.get_alloc,AH.get_put,uF,dT,if_true]
theorem Row.to{lo:Nat}{h h':AH}{v:AV}{cs:List AV}(hr:Row lo h v cs)(hn:h.next≤h'.next)(hg:∀b,b<h.next→h'.get b=h.get b):Row lo h' v cs:=by
 rcases hr with⟨rfl,rfl⟩|⟨c,h1,h2,h3,rfl,h4⟩
 ·exact .inl ⟨rfl,rfl⟩
 ·exact .inr ⟨c,h1,om,h3,rfl,by rw[hg c h2,h4]⟩
theorem pD{h:AH}{x:Blk}{y:Option Blk}{b:Nat}(hb:b<h.next):((h.alloc x).put h.next y).get b=h.get b:=by
 rw[AH.get_put,if_neg om,AH.get_alloc,if_neg om]
theorem bZ{es bytes:Nat}{sl x:Opd}:wpOps E (⟨dst,none,.append es bytes sl x⟩::r) s K=withV (appendA s es bytes sl x) fun(v,s')=>wpOps E r ({s' with round:=s.round}.put dst v) K:=Ta
theorem Pk{lo bytes d1 a:Nat}{h0:AH}{e v:AV}{cs:List AV}(hr:Row lo h0 v cs)(hl:okLen (cs.length+1) bytes=true)(h1:s.h=h0.alloc (.cells [e] true))(h2:s.eval (.t a)=some v)(h3:s.eval (.t d1)=some (.own h0.next 0 1 1 (some 1))):
  wpOps E (⟨dst,none,.append 1 bytes (.t a) (.t d1)⟩::r) s K=wpOps E r ((s.toH (pushH h0 v e)).put dst (.own (h0.next+1) 0 (cs.length+1) 1 none)) K:=by
 have hg:s.h.get h0.next=some (.cells [e] true):=by rw[h1,AH.get_alloc,if_pos rfl]
 have he:elemsOf s.h 1 (.own h0.next 0 1 1 (some 1))=some ([e],1):=by
  simp only[elemsOf,hg];rfl
 rw[h1] at he;have hb:i8 1 0=false:=rfl;have hn:(h0.alloc (.cells [e] true)).next=h0.next+1:=rfl
 suffices hs:appendA s 1 bytes (.t a) (.t d1)=some (.own (h0.next+1) 0 (cs.length+1) 1 none,s.toH (pushH h0 v e)) by
  rw[bZ,hs];rfl
 rcases hr with⟨rfl,rfl⟩|⟨c,g1,g2,g3,rfl,g4⟩
 ·simp only[List.length_nil,Nat.zero_add] at hl;simp only[appendA,h1,h2,h3,he,hb,cond_false,hl,cond_true,pushH];rfl
 ·have gc:(h0.alloc (.cells [e] true)).get c=some (.cells cs true):=by rw[AH.get_alloc,if_neg om,g4]
  have b1:i8 1 1=true:=rfl;have b2:ia (0+cs.length*1) cs.length=true:=ir.mpr om;have b3:i8 (0+cs.length*1) cs.length=true:=Nat.beq_eq.mpr om;simp only[appendA,h1,h2,h3,he,hb,cond_false,gc,b1,b2,hl,iu,cond_true,b3,pushH,g4,j9];rfl
def sliceSO(es:Nat):Option AV→Option (Option Nat)→Option (Option Nat)→Option (Option Nat)→Option AV
 |some v,some lo,some hi,some mx=>sliceA' es v lo hi mx
 |_,_,_,_=>none
theorem xO{es:Nat}{v:AV}{lo hi mx:Option Nat}:sliceSO es (some v) (some lo) (some hi) (some mx)=sliceA' es v lo hi mx:=rfl
theorem Tu{es:Nat}{x:Opd}{lo hi mx:Option Opd}:wpOps E (⟨dst,none,.sliceS es x lo hi mx⟩::r) s K=stepV E r s dst K (sliceSO es (s.eval x) (optN s lo) (optN s hi) (optN s mx)):=by
 rw[bB (o:=sliceSO es (s.eval x) (optN s lo) (optN s hi) (optN s mx))]
 ·rfl
 ·simp only[runOp];cases s.eval x with
  |none=>rfl
  |some v=>cases optN s lo with
   |none=>rfl
   |some lo=>cases optN s hi with
    |none=>rfl
    |some hi=>cases optN s mx with
     |none=>rfl
     |some mx=>exact d8
 ·exact fun _ _=>rfl
theorem aHD:optN s none=some none:=rfl
def optM:Option AV→Option (Option Nat)
 |some v=>(asN v).map some
 |none=>none
theorem aHC{x:Opd}:optN s (some x)=optM (s.eval x):=by
 simp only[optN,optM];cases s.eval x<;>rfl
theorem Qo{v:AV}:optM (some v)=(asN v).map some:=rfl
def fillO:Option AV→Option (List AV)
 |some v=>match v.cells with
  |some l=>bif i8 l.length 1 then some l else none
  |none=>none
 |none=>none
theorem wE{v:Value}:fillO (some (.val v))=some [.val v]:=rfl
theorem Ei{x:Opd}{z:AV}:fill s [z] [(0,1,x)]=fillO (s.eval x):=by
 simp only[fill,fillO];cases s.eval x with
 |none=>rfl
 |some v=>
  show(match v.cells with|some l=>bif i8 l.length 1&&ia (0+1) [z].length then some (putAt [z] 0 l) else none|none=>none)=(match v.cells with|some l=>bif i8 l.length 1 then some l else none|none=>none);generalize v.cells=o;cases o with
  |none=>rfl
  |some l=>
   have h1:ia (0+1) [z].length=true:=rfl;simp only[h1,Bool.and_true];cases hb:i8 l.length 1 with
   |false=>rfl
   |true=>
    have hl:=ij hb;simp only[cond_true,putAt,List.take_zero,im,Nat.zero_add,hl];simp
theorem Qe{b:ByteArray}{i j:Nat}(h:i≤j)(k:j≤b.size):sliceStrV (.val (.string b)) (some i) (some j)=some (.val (.string (b.extract i j))):=by
 have h1:ia b.size b.size=true:=ir.mpr (ib _);have h2:ia j b.size=true:=ir.mpr k;have h3:ia i j=true:=ir.mpr h;simp only[sliceStrV,sliceB,Aa,js,h1,h2,h3,Bv,B8,iu,cond_true,jd]
theorem Qf{b:ByteArray}{i:Nat}(h:i≤b.size):sliceStrV (.val (.string b)) (some i) none=some (.val (.string (b.extract i b.size))):=U1
def strs(l:List ByteArray):List AV:=l.map fun b=>.val (.string b)
theorem fU(l:List ByteArray):(strs l).length=l.length:=List.length_map _
theorem z8(l:List ByteArray)(b:ByteArray):strs l++[.val (.string b)]=strs (l++[b]):=by simp only[strs,List.map_append,List.map_cons,List.map_nil]
theorem Tn{l r:List ByteArray}{b:ByteArray}{i:Nat}{cap:Option Nat}(h:l.drop i=b::r):idxAddrSV 1 (.imm (strs l) l.length cap) i=some (.iptr (.val (.string b)::strs r)):=by
 have hi:i<l.length:=by
  rcases Nat.lt_or_ge i l.length with x|x
  ·exact x
  ·exact U29
 have a1:ip i l.length=true:=Nat.blt_eq.mpr hi;have a2:ia i (strs l).length=true:=ir.mpr (by rw[fU];omega)
 have a3:(strs l).drop i=.val (.string b)::strs r:=by
  rw[strs,←List.map_drop,h];rfl
 simp only[idxAddrSV,a1,a2,iu,cond_true,Nat.mul_one,a3]
theorem Zf{v:AV}{l:List AV}:takeN none (v::l)=some v:=rfl
theorem aBC{cs:List AV}{n:Nat}{cap:Option Nat}:lenV (.imm cs n cap)=some (.val (.int .i64 (n:Nat))):=rfl
theorem Tl{l:List ByteArray}{cap:Option Nat}(h:1≤l.length)(hc:cap=none):sliceA' 1 (.imm (strs l) l.length cap) (some 1) none none=some (.imm (strs (l.drop 1)) (l.drop 1).length none):=by
 subst hc;have a1:ia l.length l.length=true:=ir.mpr (ib _);have a2:ia 1 l.length=true:=ir.mpr h;have a3:((strs l).drop (1*1)).take ((l.length-1)*1)=strs (l.drop 1):=by
  rw[strs,strs,←List.map_drop,←List.map_take];rw[ji (by simp)]
 simp only[sliceA',sliceB,Aa,js,a1,a2,Bv,B8,iu,cond_true,a3,List.length_drop]
theorem vQ(l:List ByteArray):∀v∈strs l,Leaf v:=fun v hv=>by
 obtain⟨b,_,rfl⟩:=List.mem_map.1 hv;exact Leaf.val _
end Go.AM
namespace Go.AM
variable {E:Env}{s:St}{K:St→Prop}
def DrawTo(E:Env)(ops:List DOp)(done:List DRec)(s:St)(K:St→Prop):Prop:=∃s',Ev (fun n=>runDraw E (ap E (exec E n)) ops done s=some s')∧K s'
theorem b9{done:List DRec}(h:K s):DrawTo E [] done s K:=⟨s,Ev.of fun _=>rfl,h⟩
theorem am{ops:List DOp}{Q:Ex→St→Prop}(h:DrawTo E ops [] s (Q .normal)):Run E (.draw ops) s Q:=by
 obtain⟨s',x,y⟩:=h;exact⟨_,_,(x.mono fun n p=>by simp only[exec,p,jd]:Ev fun n=>exec E (n+1) (.draw ops) s=some (.normal,s')).step,y⟩
def Quiet(r:DRec):Prop:=r.D=[]∧r.lo=r.hi
theorem nO{r:DRec}(h:Quiet r)(l:List Nat):touches r l=false:=by
 obtain⟨F,D,lo,hi⟩:=r;obtain⟨h1,h2⟩:=h;simp only at h1 h2;subst h1;subst h2;unfold touches;rw[List.any_eq_false];intro x _;have:(ia lo x&&ip x lo)=false:=by
  cases a:ia lo x with
  |false=>rfl
  |true=>
   cases b:ip x lo with
   |false=>rfl
   |true=>
    have h1:=iq a;have h2:x<lo:=iq b;omega
 simp only[memN,List.any_nil,Bool.false_or,this,ju,not_false_eq_true]
theorem qe{done:List DRec}{b:DRec}(hq:∀x∈done,Quiet x)(hb:Quiet b):∀{l:List Nat},(∀i∈l,i<done.length)→freeOk done b l=true
 | [],_=>rfl
 |i::r,h=>by
  have hi:=h i ik;have ha:Quiet done[i]:=hq _ (List.getElem_mem hi);simp only[freeOk,List.getElem?_eq_getElem hi,recApart,nO ha,hb.1,List.any_nil,Bool.not_false,iu,Bool.true_and];exact qe hq hb fun j hj=>h j (j4 _ hj)
theorem iB{d:DOp}{r:List DOp}{done:List DRec}{v:AV}{l:List Nat}(hq:∀x∈done,Quiet x)(hf:∀i∈d.free,i<done.length)
  (hs:Ev fun n=>stepDraw E (ap E (exec E n)) d (nearOf done d.free) s=some (v,⟨l,[],s.h.next,s.h.next⟩,s.h))
  (k:DrawTo E r (done++[⟨l,[],s.h.next,s.h.next⟩]) (s.put d.o.dst v) K):DrawTo E (d::r) done s K:=by
 obtain⟨s',x,y⟩:=k;refine⟨s',(hs.and x).mono fun n ⟨a,b⟩=>?_,y⟩;have hfree:freeOk done ⟨l,[],s.h.next,s.h.next⟩ d.free=true:=qe hq ⟨rfl,rfl⟩ hf;simp only[runDraw,a,hfree,cond_true];cases hd:d.o.dst with
 |none=>rw[hd] at b;exact b
 |some t=>rw[hd] at b;exact b
theorem fC{h:AH}{l:List Nat}:mergeH h [] (restrictH h l)=h:=by
 simp only[mergeH,restrictH,Nat.sub_self,copyNew,copyOld]
def seen(s:St)(reads l:List Nat):St:={tm:=pickTm s.tm reads,h:=restrictH s.h l,defers:=[],round:=s.round}
theorem Zh{d:DOp}{v:AV}{near:List Nat}(hg:d.o.guard=none)(hc:isCall d.o.op=false)
  (h1:below s.h.next (idsL (pickTm s.tm d.reads).vals)=true)
  (h2:knownH s.h (foot (seen s d.reads []) (idsL (pickTm s.tm d.reads).vals) d.o.op)=true)
  (ht:∀s',turned s' d.o.op=[])
  (hfoot:foot {tm:=pickTm s.tm d.reads,h:=s.h,defers:=[],round:=s.round} (idsL (pickTm s.tm d.reads).vals) d.o.op=foot (seen s d.reads []) (idsL (pickTm s.tm d.reads).vals) d.o.op)
  (ho:runOp E noCall (seen s d.reads (foot (seen s d.reads []) (idsL (pickTm s.tm d.reads).vals) d.o.op)) d.o.op=some (v,seen s d.reads (foot (seen s d.reads []) (idsL (pickTm s.tm d.reads).vals) d.o.op))):
  Ev fun n=>stepDraw E (ap E (exec E n)) d near s=some (v,⟨foot (seen s d.reads []) (idsL (pickTm s.tm d.reads).vals) d.o.op,[],s.h.next,s.h.next⟩,s.h):=by
 refine Ev.of fun n=>?_
 have hn:=dY (call:=ap E (exec E n)) ho;simp only[seen] at hn;simp only[stepDraw,hg,wantedA,hfoot,h1,h2,iu,cond_true];simp only[seen] at*;rw[hn];have hb:ia s.h.next s.h.next=true:=ir.mpr (ib _);have hm:=fC (h:=s.h) (l:=foot {tm:=pickTm s.tm d.reads,h:=restrictH s.h [],defers:=[],round:=s.round} (idsL (pickTm s.tm d.reads).vals) d.o.op);simp only[hc,cond_false,ht,Ak,hm];simp only[restrictH,hb,below,is,iu,cond_true]
theorem eu{d:DOp}{r:List DOp}{done:List DRec}{v:AV}(hq:∀x∈done,Quiet x)(hf:∀i∈d.free,i<done.length)(hg:d.o.guard=none)(hc:isCall d.o.op=false)
  (hv:idsL (pickTm s.tm d.reads).vals=[]) (ht:∀s',turned s' d.o.op=[]) (h0:∀s',foot s' [] d.o.op=[])
  (ho:runOp E noCall (seen s d.reads []) d.o.op=some (v,seen s d.reads []))
  (k:∀rec,Quiet rec→DrawTo E r (done++[rec]) (s.put d.o.dst v) K):DrawTo E (d::r) done s K:=by
 refine iB hq hf (Zh hg hc (by rw[hv];rfl) (by rw[hv,h0];rfl) ht (by rw[hv,h0,h0]) (by rw[hv,h0];exact ho)) (k _ ⟨rfl,rfl⟩)
theorem eZ{α:Type}:∀{t:Tr α} {x:α},x∈t.vals→∃k,t.get k=some x
 |.nil,x,h=>by simp only[Tr.vals,List.not_mem_nil] at h
 |.nd l v r,x,h=>by
  simp only[Tr.vals,jb] at h;rcases h with h|h|h
  ·cases v with
   |none=>cases h
   |some y=>
    rw[ig.1 h];exact⟨0,rfl⟩
  ·obtain⟨k,hk⟩:=eZ h;refine⟨2*k+1,?_⟩;have h1:i8 (2*k+1) 0=false:=rfl;have h2:(2*k+1)%2=1:=by omega
   have h3:(2*k+1)/2=k:=by omega
   simp only[Tr.get,h1,cond_false,h2,h3,Nat.beq_refl,cond_true,hk]
  ·obtain⟨k,hk⟩:=eZ h;refine⟨2*k+2,?_⟩;have h1:i8 (2*k+2) 0=false:=rfl;have h2:(2*k+2)%2=0:=by omega
   have h3:(2*k+2)/2-1=k:=by omega
   have h4:i8 0 1=false:=rfl;simp only[Tr.get,h1,cond_false,h2,h3,h4,hk]
theorem sf:∀{l:List AV},(∀x∈l,ids x=[])→idsL l=[]
 | [],_=>rfl
 |a::r,h=>by
  simp only[idsL,h a ik,im];exact sf fun x hx=>h x (j4 _ hx)
theorem qX{l:List Nat}(h:∀t∈l,∀v,s.tm.get t=some v→ids v=[]):idsL (pickTm s.tm l).vals=[]:=by
 refine sf fun x hx=>?_
 obtain⟨k,hk⟩:=eZ hx;rw[bM] at hk;split at hk
 ·exact h k (by assumption) x hk
 ·cases hk
end Go.AM
namespace Go.AM
variable {E:Env}{s:St}{K:St→Prop}{r:List DOp}{done:List DRec}
theorem aEQ{l F:List Nat}{t:Nat}(h:t∈l):(seen s l F).tm.get t=s.tm.get t:=by
 simp only[seen,bM,if_pos h]
end Go.AM
namespace Go.AM
variable {E:Env}{s:St}{K:St→Prop}
def niceV(h:AH)(v:AV):Bool:=(ids v).all fun b=>ip b h.next&&match h.get b with
 |some (.cells cs _)=>below h.next (idsL cs)
 |_=>false
def niceT(h:AH):Option AV→Bool
 |some v=>niceV h v
 |none=>true
def plainT:Option AV→Bool
 |some v=>(ids v).isEmpty
 |none=>true
def opdIn(l:List Nat):Opd→Bool
 |.t i=>memN l i
 |.c v=>(ids v).isEmpty
def optIn(l:List Nat):Option Opd→Bool
 |none=>true
 |some x=>opdIn l x
def calmOp(l:List Nat):AOp→Bool
 |.mv x|.nilck x|.un _ x|.conv _ x|.strOfBytes x|.fieldAddr _ x|.extract _ x|.lenS x|.lenStr x=>opdIn l x
 |.load _ (.t i)=>memN l i
 |.pick a b c=>opdIn l a&&opdIn l b&&opdIn l c
 |.bin _ _ _ x y|.idxAddrS _ x y|.idxStr x y=>opdIn l x&&opdIn l y
 |.build _ ps=>ps.all fun p=>opdIn l p.2.2
 |.sliceS _ x a b c=>opdIn l x&&optIn l a&&optIn l b&&optIn l c
 |_=>false
def guardIn(l:List Nat):Option (Nat×Bool)→Bool
 |none=>true
 |some (i,_)=>memN l i
def calmD(d:DOp):Bool:=guardIn d.reads d.o.guard&&match d.o.op with
 |.call _ l=>l.all (opdIn d.reads)
 |op=>calmOp d.reads op
def calmAt:Nat→List DOp→Bool
 |_,[]=>true
 |i,d::r=>d.free.all (fun j=>ip j i)&&calmD d&&calmAt (i+1) r
def wpDr(E:Env):List DOp→St→(St→Prop)→Prop
 | [],s,K=>K s
 |⟨⟨dst,g,op⟩,rd,_⟩::r,s,K=>(rd.all fun t=>niceT s.h (s.eval (.t t)))=true∧guardTo s g
   (match op with
   |.call f l=>(rd.all fun t=>plainT (s.eval (.t t)))=true∧withV (evalAll s l) fun l=>∃v,(∀h,RunCall E (.f f) l h v h)∧wpDr E r (s.put dst v) K
   |op=>wpOps E [⟨dst,none,op⟩] s fun s'=>wpDr E r s' K)
   (wpDr E r (s.put dst undefA) K)
theorem dM:∀{l:List Nat} {i:Nat},memN l i=true→i∈l
 |a::r,i,h=>by
  simp only[memN,List.any_cons,Bool.or_eq_true] at h;rcases h with h|h
  ·rw[ij h];exact ik
  ·exact j4 _ (dM h)
theorem seen_eval{l F:List Nat}{x:Opd}(h:opdIn l x=true):(seen s l F).eval x=s.eval x:=by
 cases x with
 |c v=>rfl
 |t i=>exact aEQ (dM h)
theorem qN{l F:List Nat}{x:Option Opd}(h:optIn l x=true):optN (seen s l F) x=optN s x:=by
 cases x with
 |none=>rfl
 |some x=>simp only[optN,seen_eval h]
theorem kI{l F:List Nat}:∀{xs:List Opd},xs.all (opdIn l)=true→evalAll (seen s l F) xs=evalAll s xs
 | [],_=>rfl
 |x::r,h=>by
  simp only[iv,ii] at h;simp only[evalAll,seen_eval h.1,kI h.2]
theorem gQ{l F:List Nat}:∀{ps:List (Nat×Nat×Opd)} {z:List AV},(ps.all fun p=>opdIn l p.2.2)=true→fill (seen s l F) z ps=fill s z ps
 | [],_,_=>rfl
 |(a,b,x)::r,z,h=>by
  simp only[iv,ii] at h;simp only[fill,seen_eval h.1];cases s.eval x with
  |none=>rfl
  |some v=>
   simp only;cases v.cells with
   |none=>rfl
   |some c=>
    simp only;cases (i8 c.length b&&ia (a+b) z.length) with
    |false=>rfl
    |true=>exact gQ h.2
theorem cM{l F:List Nat}{g:Option (Nat×Bool)}(h:guardIn l g=true):wantedA (seen s l F) g=wantedA s g:=by
 cases g with
 |none=>rfl
 |some p=>
  obtain⟨i,b⟩:=p;have:=aEQ (s:=s) (F:=F) (dM h);simp only[wantedA,this]
theorem dc{α:Type}{x:α}:∀{t:Tr α} {k:Nat},t.get k=some x→x∈t.vals
 |.nil,k,h=>by cases h
 |.nd l v r,k,h=>by
  simp only[Tr.vals,jb];simp only[Tr.get] at h;cases hb:i8 k 0 with
  |true=>
   rw[hb] at h;simp only[cond_true] at h;rw[h];exact .inl (ig.2 rfl)
  |false=>
   rw[hb] at h;simp only[cond_false] at h;cases hc:i8 (k%2) 1 with
   |true=>
    rw[hc] at h;exact .inr (.inl (dc h))
   |false=>
    rw[hc] at h;exact .inr (.inr (dc h))
theorem fH{l:List AV}{v:AV}(h:v∈l):∀b∈ids v,b∈idsL l:=by
 induction l with
 |nil=>cases h
 |cons a r ih=>
  intro b hb;simp only[idsL,jb];rcases ie.1 h with rfl|h
  ·exact .inl hb
  ·exact .inr (ih h b hb)
theorem Mk{l:List AV}{b:Nat}(h:b∈idsL l):∃v∈l,b∈ids v:=by
 induction l with
 |nil=>cases h
 |cons a r ih=>
  simp only[idsL,jb] at h;rcases h with h|h
  ·exact⟨a,ik,h⟩
  ·obtain⟨v,hv,hb⟩:=ih h;exact⟨v,j4 _ hv,hb⟩
theorem bE{h:AH}{b:Nat}:∀{l:List Nat},b∈l→(restrictH h l).get b=h.get b
 |a::r,hb=>by
  simp only[restrictH,restrictT,AH.get,Tr.get_put]
  by_cases e:b=a
  ·rw[if_pos e,e]
  ·rw[if_neg e];exact bE (h:=h) (List.mem_of_ne_of_mem e hb)
def footed:AOp→Bool
 |.load .. |.strOfBytes _|.lenS _|.lenStr _|.conv .. |.idxStr .. |.sliceS .. =>true
 |_=>false
def theFoot(op:AOp)(vs:List Nat):List Nat:=bif footed op then vs else []
theorem Rm{l vs:List Nat}{op:AOp}{s':St}(h:calmOp l op=true):foot s' vs op=theFoot op vs:=U0
theorem zw{l:List Nat}{op:AOp}{s':St}(h:calmOp l op=true):turned s' op=[]:=U0
theorem Sq{l:List Nat}{op:AOp}(h:calmOp l op=true):isCall op=false:=U0
theorem Ld{l:List Nat}{i:Nat}{v:AV}{G:Nat→Option (List AV)}(hi:i∈l)(hv:s.eval (.t i)=some v):cellsFrom G (restrictH s.h (idsL (pickTm s.tm l).vals)) v=cellsFrom G s.h v:=by
 have hp:(pickTm s.tm l).get i=some v:=by rw[bM,if_pos hi];exact hv
 have hm:v∈(pickTm s.tm l).vals:=dc hp;cases v with
 |ptr b off=>
  have:b∈idsL (pickTm s.tm l).vals:=fH hm b (by simp only[ids,ig])
  simp only[cellsFrom,bE this]
 |val x=>
  cases x with
  |pointer p=>
   cases p with
   |none=>rfl
   |some a=>
    obtain⟨g,o,sp⟩:=a;cases sp<;>rfl
  |_=>rfl
 |_=>rfl
theorem Ku{l:List Nat}{x:Opd}{v:AV}{es:Nat}(hi:opdIn l x=true)(hv:s.eval x=some v):elemsOf (restrictH s.h (idsL (pickTm s.tm l).vals)) es v=elemsOf s.h es v:=by
 cases v with
 |own b off n es' cap=>
  have:b∈idsL (pickTm s.tm l).vals:=by
   cases x with
   |c w=>
    cases hv;simp only[opdIn,ids,List.isEmpty_cons,ju] at hi
   |t i=>
    have hp:(pickTm s.tm l).get i=some (.own b off n es' cap):=by rw[bM,if_pos (dM hi)];exact hv
    exact fH (dc hp) b (by simp only[ids,ig])
  simp only[elemsOf,bE this]
 |val x=>
  cases x with
  |slice p a b=>
   cases p with
   |some p=>cases a<;>rfl
   |none=>cases a<;>cases b<;>rfl
  |_=>rfl
 |_=>rfl
def nilckV(E:Env):AV→Option AV
 |.val (.pointer none)|.val .nilIface|.val .nilFunc|.val (.func ..)=>none
 |.fn (.method name) (.ifc t v::a) b=>match E.meth t name with
  |some _=>some (.fn (.method name) (.ifc t v::a) b)
  |none=>none
 |.fn (.method _) _ _=>none
 |.yld _=>none
 |v=>some v
theorem Dm{x:Opd}{call:Cle→List AV→AH→Option (AV×AH)}:runOp E call s (.nilck x)=(s.eval x).bind fun v=>(nilckV E v).map fun w=>(w,s):=by
 simp only[runOp];cases s.eval x with
 |none=>rfl
 |some v=>
  simp only[j8];cases v with
  |val y=>
   cases y with
   |pointer p=>cases p<;>rfl
   |_=>rfl
  |fn f a b=>
   cases f with
   |method nm=>
    cases a with
    |nil=>rfl
    |cons c a=>
     cases c with
     |ifc t v=>
      simp only[nilckV];cases E.meth t nm<;>rfl
     |_=>rfl
   |_=>rfl
  |_=>rfl
def strB(h:AH):AV→Option AV
 |.val (.slice none 0 0)=>some (.val (.string ⟨#[]⟩))
 |.val _=>none
 |v=>match elemsOf h 1 v with
  |some (cs,_)=>(bytesOf cs).map fun b=>.val (.string b)
  |none=>none
theorem Lp{x:Opd}{call:Cle→List AV→AH→Option (AV×AH)}:runOp E call s (.strOfBytes x)=(s.eval x).bind fun v=>(strB s.h v).map fun w=>(w,s):=by
 have key:∀v:AV,(match elemsOf s.h 1 v with|some (cs,_)=>(bytesOf cs).bind fun b=>some ((.val (.string b):AV),s)|none=>none)=(match elemsOf s.h 1 v with|some (cs,_)=>(bytesOf cs).map fun b=>(.val (.string b):AV)|none=>none).map fun w=>(w,s):=by
  intro v;cases elemsOf s.h 1 v with
  |none=>rfl
  |some p=>
   obtain⟨cs,n⟩:=p;simp only;cases bytesOf cs<;>rfl
 simp only[runOp];cases s.eval x with
 |none=>rfl
 |some v=>
  simp only[j8];have k:=key v;cases v with
  |val y=>
   cases y with
   |slice p a b=>
    cases p with
    |some p=>rfl
    |none=>cases a<;>cases b<;>rfl
   |_=>rfl
  |_=>exact k
theorem tu{l:List Nat}{op:AOp}{v:AV}{s1:St}(hc:calmOp l op=true)(h:runOp E noCall s op=some (v,s1)):
  s1=s∧runOp E noCall (seen s l (theFoot op (idsL (pickTm s.tm l).vals))) op=some (v,seen s l (theFoot op (idsL (pickTm s.tm l).vals))):=by
 cases op with
 |mv x=>
  simp only[calmOp] at hc;simp only[runOp,seen_eval hc] at h⊢
  cases he:s.eval x with
  |none=>rw[he] at h;cases h
  |some w=>
   rw[he] at h;simp only[j8,sI,pI] at h⊢
   exact⟨h.2.symm,h.1,(by first|trivial|rfl)⟩
 |pick a b c=>
  simp only[calmOp,ii] at hc;simp only[runOp,seen_eval hc.1.1,seen_eval hc.1.2,seen_eval hc.2] at h⊢
  split at h
  ·cases he:s.eval b with
   |none=>rw[he] at h;cases h
   |some w=>
    rw[he] at h;simp only[j8,sI,pI] at h⊢
    exact⟨h.2.symm,h.1,(by first|trivial|rfl)⟩
  ·cases he:s.eval c with
   |none=>rw[he] at h;cases h
   |some w=>
    rw[he] at h;simp only[j8,sI,pI] at h⊢
    exact⟨h.2.symm,h.1,(by first|trivial|rfl)⟩
  ·cases h
 |build z ps=>
  simp only[calmOp] at hc;simp only[runOp,gQ hc] at h⊢
  cases he:fill s z ps with
  |none=>rw[he] at h;cases h
  |some w=>
   rw[he] at h;simp only[j8,sI,pI] at h⊢
   exact⟨h.2.symm,h.1,(by first|trivial|rfl)⟩
 |load n x=>
  cases x with
  |c w=>simp only[calmOp,ju] at hc
  |t i=>
   simp only[calmOp] at hc;have hev:(seen s l (theFoot (.load n (.t i)) (idsL (pickTm s.tm l).vals))).eval (.t i)=s.eval (.t i):=seen_eval hc;simp only[runOp,hev] at h⊢
   cases he:s.eval (.t i) with
   |none=>rw[he] at h;cases h
   |some w=>
    rw[he] at h;have hcs:cellsFrom E.globs (seen s l (theFoot (.load n (.t i)) (idsL (pickTm s.tm l).vals))).h w=cellsFrom E.globs s.h w:=Ld (dM hc) he;simp only[hcs];simp only at h;cases hx:(cellsFrom E.globs s.h w).bind (takeN n) with
    |none=>rw[hx] at h;cases h
    |some y=>
     rw[hx] at h;simp only[j8,sI,pI] at h⊢
     exact⟨h.2.symm,h.1,(by first|trivial|rfl)⟩
 |nilck x=>
  simp only[calmOp] at hc;simp only[Dm,seen_eval hc] at h⊢
  cases he:s.eval x with
  |none=>rw[he] at h;cases h
  |some w=>
   rw[he] at h;simp only[j8] at h⊢
   cases hn:nilckV E w with
   |none=>rw[hn] at h;cases h
   |some y=>
    rw[hn] at h;simp only[jd,sI,pI] at h⊢
    exact⟨h.2.symm,h.1,trivial⟩
 |bin op t g x y=>
  simp only[calmOp,ii] at hc;simp only[runOp,seen_eval hc.1,seen_eval hc.2] at h⊢
  split at h
  ·rename_i a b ha hb;cases he:binA E.P op t g a b with
   |none=>rw[he] at h;cases h
   |some w=>
    rw[he] at h;simp only[j8,sI,pI] at h;simp only[j8,sI,pI];exact⟨h.2.symm,h.1,(by first|trivial|rfl)⟩
  ·cases h
 |un op x=>
  simp only[calmOp] at hc;simp only[runOp,seen_eval hc] at h⊢
  split at h
  ·rename_i a ha;cases he:(evalPure E.P (Op.unary op a)).bind ofFlat with
   |none=>rw[he] at h;cases h
   |some w=>
    rw[he] at h;simp only[j8,sI,pI] at h;simp only[j8,sI,pI];exact⟨h.2.symm,h.1,(by first|trivial|rfl)⟩
  ·cases h
 |conv k x=>
  simp only[calmOp] at hc;have hev:(seen s l (theFoot (.conv k x) (idsL (pickTm s.tm l).vals))).eval x=s.eval x:=seen_eval hc;simp only[runOp,hev] at h⊢
  split at h
  ·rename_i a b ha;simp only[sI,pI] at h⊢
   exact⟨h.2.symm,h.1,(by first|trivial|rfl)⟩
  ·cases h
 |strOfBytes x=>
  simp only[calmOp] at hc;have hev:(seen s l (theFoot (.strOfBytes x) (idsL (pickTm s.tm l).vals))).eval x=s.eval x:=seen_eval hc;simp only[Lp,hev] at h⊢
  cases he:s.eval x with
  |none=>rw[he] at h;cases h
  |some w=>
   rw[he] at h;have hcs:strB (seen s l (theFoot (.strOfBytes x) (idsL (pickTm s.tm l).vals))).h w=strB s.h w:=by
    have:=Ku (es:=1) hc he;unfold strB;split<;>first|rfl|skip
    have e2:elemsOf (seen s l (theFoot (.strOfBytes x) (idsL (pickTm s.tm l).vals))).h 1 w=elemsOf s.h 1 w:=this;rw[e2]
   simp only[j8,hcs] at h⊢
   cases hn:strB s.h w with
   |none=>rw[hn] at h;cases h
   |some y=>
    rw[hn] at h;simp only[jd,sI,pI] at h⊢
    exact⟨h.2.symm,h.1,trivial⟩
 |sliceS es x lo hi mx=>
  simp only[calmOp,ii] at hc;have h1:(seen s l (theFoot (.sliceS es x lo hi mx) (idsL (pickTm s.tm l).vals))).eval x=s.eval x:=seen_eval hc.1.1.1;have h2:optN (seen s l (theFoot (.sliceS es x lo hi mx) (idsL (pickTm s.tm l).vals))) lo=optN s lo:=qN hc.1.1.2;have h3:optN (seen s l (theFoot (.sliceS es x lo hi mx) (idsL (pickTm s.tm l).vals))) hi=optN s hi:=qN hc.1.2;have h4:optN (seen s l (theFoot (.sliceS es x lo hi mx) (idsL (pickTm s.tm l).vals))) mx=optN s mx:=qN hc.2;simp only[runOp,h1,h2,h3,h4] at h⊢
  split at h
  ·rename_i w a b c e1 e2 e3 e4;cases he:sliceA' es w a b c with
   |none=>rw[he] at h;cases h
   |some y=>
    rw[he] at h;simp only[j8,sI,pI] at h;simp only[j8,sI,pI];exact⟨h.2.symm,h.1,(by first|trivial|rfl)⟩
  ·cases h
 |fieldAddr off x=>
  simp only[calmOp] at hc;simp only[runOp,seen_eval hc] at h⊢
  split at h
  ·rename_i b o he;simp only[sI,pI] at h;simp only[sI,pI];exact⟨h.2.symm,h.1,(by first|trivial|rfl)⟩
  ·rename_i cs he;cases hb:ia off cs.length with
   |false=>rw[hb] at h;cases h
   |true=>
    rw[hb] at h;simp only[cond_true,sI,pI] at h;simp only[cond_true,sI,pI];exact⟨h.2.symm,h.1,(by first|trivial|rfl)⟩
  ·rename_i g o he;simp only[sI,pI] at h;simp only[sI,pI];exact⟨h.2.symm,h.1,(by first|trivial|rfl)⟩
  ·cases h
 |idxAddrS es x i=>
  simp only[calmOp,ii] at hc;simp only[runOp,seen_eval hc.1,seen_eval hc.2] at h⊢
  split at h
  ·rename_i cs n cap j he hj;cases hb:(ip j n&&ia (j*es) cs.length) with
   |false=>rw[hb] at h;cases h
   |true=>
    rw[hb] at h;simp only[cond_true,sI,pI] at h;simp only[cond_true,sI,pI];exact⟨h.2.symm,h.1,(by first|trivial|rfl)⟩
  ·rename_i b off n es' cap j he hj;cases hb:(ip j n&&i8 es es') with
   |false=>rw[hb] at h;cases h
   |true=>
    rw[hb] at h;simp only[cond_true,sI,pI] at h;simp only[cond_true,sI,pI];exact⟨h.2.symm,h.1,(by first|trivial|rfl)⟩
  ·cases h
 |idxStr x i=>
  simp only[calmOp,ii] at hc;have h1:(seen s l (theFoot (.idxStr x i) (idsL (pickTm s.tm l).vals))).eval x=s.eval x:=seen_eval hc.1;have h2:(seen s l (theFoot (.idxStr x i) (idsL (pickTm s.tm l).vals))).eval i=s.eval i:=seen_eval hc.2;simp only[runOp,h1,h2] at h⊢
  split at h
  ·rename_i b j he hj;cases hb:b.data.toList[j]? with
   |none=>rw[hb] at h;cases h
   |some c=>
    rw[hb] at h;simp only[sI,pI] at h;simp only[sI,pI];exact⟨h.2.symm,h.1,(by first|trivial|rfl)⟩
  ·cases h
 |extract i x=>
  simp only[calmOp] at hc;simp only[runOp,seen_eval hc] at h⊢
  split at h
  ·rename_i vs he;cases hb:vs[i]? with
   |none=>rw[hb] at h;cases h
   |some c=>
    rw[hb] at h;simp only[j8,sI,pI] at h;simp only[j8,sI,pI];exact⟨h.2.symm,h.1,(by first|trivial|rfl)⟩
  ·cases h
 |lenS x=>
  simp only[calmOp] at hc;have h1:(seen s l (theFoot (.lenS x) (idsL (pickTm s.tm l).vals))).eval x=s.eval x:=seen_eval hc;simp only[runOp,h1] at h⊢
  split at h<;>first|(cases h;done)|skip
  all_goals
   rename_i he;simp only[sI,pI] at h;simp only[sI,pI];exact⟨h.2.symm,h.1,(by first|trivial|rfl)⟩
 |lenStr x=>
  simp only[calmOp] at hc;have h1:(seen s l (theFoot (.lenStr x) (idsL (pickTm s.tm l).vals))).eval x=s.eval x:=seen_eval hc;simp only[runOp,h1] at h⊢
  split at h
  ·rename_i b he;simp only[sI,pI] at h;simp only[sI,pI];exact⟨h.2.symm,h.1,(by first|trivial|rfl)⟩
  ·cases h
 |_=>simp only[calmOp,ju] at hc
theorem Dp{h:AH}{l:List Nat}{tm:Tr AV}(hn:(l.all fun t=>niceT h (tm.get t))=true):below h.next (idsL (pickTm tm l).vals)=true∧knownH h (idsL (pickTm tm l).vals)=true:=by
 have key:∀b∈idsL (pickTm tm l).vals,ip b h.next=true∧∃cs rw,h.get b=some (.cells cs rw)∧below h.next (idsL cs)=true:=by
  intro b hb;obtain⟨v,hv,hbv⟩:=Mk hb;obtain⟨k,hk⟩:=eZ hv;rw[bM] at hk;split at hk
  ·rename_i hkl;have:=j0.1 hn k hkl;rw[hk] at this;have:=j0.1 this b hbv;rw[ii] at this;refine⟨this.1,?_⟩;have h2:=this.2;split at h2
   ·rename_i cs rw hg;exact⟨cs,rw,hg,h2⟩
   ·cases h2
  ·cases hk
 constructor
 ·exact j0.2 fun b hb=>(key b hb).1
 ·refine j0.2 fun b hb=>?_
  obtain⟨h1,cs,rw,h2,h3⟩:=key b hb;simp only[h1,h2,idsB,h3,iu]
theorem vf{l:List Nat}{tm:Tr AV}(hn:(l.all fun t=>plainT (tm.get t))=true):idsL (pickTm tm l).vals=[]:=by
 refine sf fun v hv=>?_
 obtain⟨k,hk⟩:=eZ hv;rw[bM] at hk;split at hk
 ·rename_i hkl;have:=j0.1 hn k hkl;rw[hk] at this;exact List.isEmpty_iff.1 this
 ·cases hk
theorem iC{d:DOp}{near:List Nat}{v:AV}(hc:calmOp d.reads d.o.op=true)(hg:guardIn d.reads d.o.guard=true)(hw:wantedA s d.o.guard=some true)
  (hn:(d.reads.all fun t=>niceT s.h (s.tm.get t))=true) (ho:runOp E noCall s d.o.op=some (v,s)):
  Ev fun n=>stepDraw E (ap E (exec E n)) d near s=some (v,⟨theFoot d.o.op (idsL (pickTm s.tm d.reads).vals),[],s.h.next,s.h.next⟩,s.h):=by
 refine Ev.of fun n=>?_
 obtain⟨n1,n2⟩:=Dp hn;have hr:=dY (call:=ap E (exec E n)) (tu hc ho).2;have hk:knownH s.h (theFoot d.o.op (idsL (pickTm s.tm d.reads).vals))=true:=by
  unfold theFoot;cases footed d.o.op with
  |true=>exact n2
  |false=>rfl
 have hw':wantedA {tm:=pickTm s.tm d.reads,h:=s.h,defers:=[],round:=s.round} d.o.guard=some true:=by
  rw[←hw];exact cM (s:=s) (F:=[]) hg▸(by cases d.o.guard<;>rfl)
 have hb:ia s.h.next s.h.next=true:=ir.mpr (ib _);have hm:=fC (h:=s.h) (l:=theFoot d.o.op (idsL (pickTm s.tm d.reads).vals));simp only[stepDraw,hw',Rm hc,n1,hk,iu,cond_true];simp only[seen] at hr;rw[hr];simp only[Sq hc,cond_false,zw hc,Ak,hm];simp only[restrictH,hb,below,is,iu,cond_true]
theorem xD{d:DOp}{near:List Nat}{v:AV}{f:Nat}{xs:List Opd}{l:List AV}(hop:d.o.op=.call f xs)(hx:xs.all (opdIn d.reads)=true)(hg:guardIn d.reads d.o.guard=true)(hw:wantedA s d.o.guard=some true)
  (hn:(d.reads.all fun t=>plainT (s.tm.get t))=true) (he:evalAll s xs=some l) (hr:∀h,RunCall E (.f f) l h v h):
  Ev fun n=>stepDraw E (ap E (exec E n)) d near s=some (v,⟨[],[],s.h.next,s.h.next⟩,s.h):=by
 have hv:=vf hn;refine(hr (restrictH s.h [])).mono fun n p=>?_
 have hw':wantedA {tm:=pickTm s.tm d.reads,h:=s.h,defers:=[],round:=s.round} d.o.guard=some true:=by
  rw[←hw];exact cM (s:=s) (F:=[]) hg▸(by cases d.o.guard<;>rfl)
 have he':evalAll {tm:=pickTm s.tm d.reads,h:=restrictH s.h [],defers:=[],round:=s.round} xs=some l:=by
  rw[←he];exact kI (s:=s) (F:=[]) hx
 have hb:ia s.h.next s.h.next=true:=ir.mpr (ib _);have hm:=fC (h:=s.h) (l:=[]);have hfo:foot {tm:=pickTm s.tm d.reads,h:=s.h,defers:=[],round:=s.round} [] (.call f xs)=[]:=rfl;simp only[stepDraw,hw',hv,hop,hfo,below,knownH,is,iu,cond_true,runOp,he',p,j8,isCall,List.filter_nil,Ak,hm];simp only[restrictH,hb,iu,cond_true]
theorem gP{d:DOp}{near:List Nat}(hg:guardIn d.reads d.o.guard=true)(hw:wantedA s d.o.guard=some false):
  Ev fun n=>stepDraw E (ap E (exec E n)) d near s=some (undefA,⟨[],[],s.h.next,s.h.next⟩,s.h):=by
 refine Ev.of fun n=>?_
 have hw':wantedA {tm:=pickTm s.tm d.reads,h:=s.h,defers:=[],round:=s.round} d.o.guard=some false:=by
  rw[←hw];exact cM (s:=s) (F:=[]) hg▸(by cases d.o.guard<;>rfl)
 simp only[stepDraw,hw']
end Go.AM
namespace Go.AM
abbrev vI(n:Int):AV:=.val (.int .i64 n)
abbrev vB(b:Bool):AV:=.val (.bool b)
abbrev vS(x:ByteArray):AV:=.val (.string x)
end Go.AM
