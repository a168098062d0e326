/- XWp XWq XWr XWs XOwn XRow XDraw XDrawB XCalm -/
import Derived.Test.YtmbabhlmdhghdaaGreatDoorM4
set_option linter.all false
open Option renaming some->Z, none->Y
open Bool renaming true->J, false->U
open Bool renaming and_eq_true->im, and_self->ja
open List renaming all_cons->j9, all_eq_true->j3, cons_append->jj, drop_zero->A9, foldl_cons->B6, mem_cons_of_mem->iy, mem_cons_self->ip, take_of_length_le->A5
open Nat renaming beq->ig, ble->ii, blt->ir, le_of_ble_eq_true->j6
open Option renaming bind_some->jn, getD_none->Ae, getD_some->jt, isNone_none->Be, map_some->Ab
namespace Go.AM
variable {E:Env}
def Ev(p:Nat->Prop):Prop:=∃N,∀n,N<=n->p n
theorem Ev.of{p:Nat->Prop}(h:∀n,p n):Ev p:=⟨0,λn _=>h n⟩
theorem Ev.mono{p q:Nat->Prop}(h:Ev p)(k:∀n,p n->q n):Ev q:=h.imp λ_ h n hn=>k n (h n hn)
theorem Ev.and{p q:Nat->Prop}(h:Ev p)(k:Ev q):Ev λn=>p n/\q n:=by
 obtain⟨a,h⟩:=h;obtain⟨b,k⟩:=k;exact⟨a+b,λn hn=>⟨h n om,k n om⟩⟩
theorem Ev.step{p:Nat->Prop}(h:Ev λn=>p (n+1)):Ev p:=by
 obtain⟨a,h⟩:=h;refine⟨a+1,λn hn=>?_⟩;obtain⟨m,rfl⟩:∃m,n=m+1:=⟨n-1,om⟩
 grind
theorem Ev.one{p:Nat->Prop}(h:Ev p):∃n,p n:=by
 obtain⟨a,h⟩:=h;exact⟨a,h a (Nat.le_refl a)⟩
def Run(E:Env)(c:aF)(s:St)(Q:Ex->St->Prop):Prop:=∃e s',Ev (λn=>exec E n c s=Z (e,s'))/\Q e s'
def aE(E:Env)(c:Cle)(l:List AV)(h:AH)(v:AV)(h':AH):Prop:=Ev λn=>bY E (exec E n) c l h=Z (v,h')
def fu(E:Env)(c:Cle)(l:List AV)(h:AH)(K:AV->AH->Prop):Prop:=∃v h',aE E c l h v h'/\K v h'
def ni(E:Env)(ops:List aW)(s:St)(K:St->Prop):Prop:=∃s',Ev (λn=>dT E (bY E (exec E n)) ops s=Z s')/\K s'
theorem aE.det{c:Cle}{l:List AV}{h h1 h2:AH}{v1 v2:AV}(a:aE E c l h v1 h1)(b:aE E c l h v2 h2):v1=v2/\h1=h2:=by
 obtain⟨n,x,y⟩:=(a.and b).one
 grind
theorem Ld{c:Cle}{l:List AV}{h h':AH}{v:AV}{K:AV->AH->Prop}(r:aE E c l h v h'):fu E c l h K↔K v h':=
 ⟨λ⟨_,_,r2,k⟩=>by obtain⟨a,b⟩:=r.det r2;grind,λk=>⟨v,h',r,k⟩⟩
def St.set(s:St)(d:Nat)(v:AV):St:={s with tm:=s.tm.put d (Z v)}
def St.toH(s:St)(h:AH):St:={s with h}
def St.put(s:St):Option Nat->AV->St
 |none,_=>s
 |some d,v=>s.set d v
theorem St.get_set(s:St)(d i:Nat)(v:AV):(s.set d v).tm.get i=if i=d then Z v else s.tm.get i:=Tr.aO _ _ _ _
theorem St.fV(s:St)(d i:Nat)(v:AV):(s.set d v).eval (.t i)=if i=d then Z v else s.eval (.t i):=Tr.aO _ _ _ _
theorem St.eval_toH(s:St)(h:AH)(x:Opd):(s.toH h).eval x=s.eval x:=by rfl
theorem St.eval_c(s:St)(v:AV):s.eval (.c v)=Z v:=rfl
theorem St.h_set(s:St)(d:Nat)(v:AV):(s.set d v).h=s.h:=rfl
theorem St.h_toH(s:St)(h:AH):(s.toH h).h=h:=rfl
theorem St.df_set(s:St)(d:Nat)(v:AV):(s.set d v).defers=s.defers:=rfl
theorem St.df_toH(s:St)(h:AH):(s.toH h).defers=s.defers:=rfl
theorem St.rd_set(s:St)(d:Nat)(v:AV):(s.set d v).round=s.round:=rfl
theorem St.rd_toH(s:St)(h:AH):(s.toH h).round=s.round:=rfl
theorem St.tm_toH(s:St)(h:AH):(s.toH h).tm=s.tm:=rfl
def bB{α:Type}(o:Option α)(f:α->Prop):Prop:=match o with
 |some v=>f v
 |none=>False
theorem lB{α:Type}(v:α)(f:α->Prop):bB (Z v) f=f v:=rfl
def cQ:Cle->List AV->AH->Option (AV×AH):=λ_ _ _=>Y
theorem vz{call:Cle->List AV->AH->Option (AV×AH)}{s:St}{op:AOp}{r:AV×St}(h:aL E cQ s op=Z r):aL E call s op=Z r:=by
 cases op with
 |call f args=>
  grind [aL,cQ]
 |dR x args=>
  grind [aL,cQ]
 |invoke x name args=>
  grind [aL,cQ]
 |_=>exact h
def wpOp(E:Env)(op:AOp)(s:St)(K:AV->St->Prop):Prop:=
 match op with
 |.call f args=>bB (aT s args) λl=>fu E (.f f) l s.h λv h=>K v (s.toH h)
 |.dR x args=>match s.eval x with
  |some (.yld b)=>bB (aT s args) λl=>fu E (.y b) l s.h λv h=>K v (s.toH h)
  |some (.fn (.func f) a b)=>bB (aT s args) λl=>fu E (.f f) (a++l++b) s.h λv h=>K v (s.toH h)
  |_=>False
 |op=>bB (aL E cQ s op) λ(v,s')=>K v s'
def wpOps(E:Env):List aW->St->(St->Prop)->Prop
 | [],s,K=>K s
 |o::r,s,K=>bB (aw s o.guard) λg=>
  (g=J->wpOp E o.op s λv s'=>wpOps E r ({s' with round:=s.round}.put o.dst v) K)/\
  (g=U->wpOps E r (s.put o.dst bJ) K)
theorem Dm{o:aW}{r:List aW}{s:St}{K:St->Prop}{v:AV}{s1:St}(hw:aw s o.guard=Z J)
  (h:Ev λn=>aL E (bY E (exec E n)) s o.op=Z (v,s1)) (k:ni E r ({s1 with round:=s.round}.put o.dst v) K):ni E (o::r) s K:=by
 obtain⟨s',k1,k2⟩:=k;refine⟨s',(h.and k1).mono λn ⟨a,b⟩=>?_,k2⟩;simp[dT, *];cases hd:o.dst with
 |none=>rw[hd] at b;exact b
 |some d=>rw[hd] at b;exact b
theorem aHB{o:aW}{r:List aW}{s:St}{K:St->Prop}{c:Cle}{l:List AV}(hw:aw s o.guard=Z J)
  (ho:∀call,aL E call s o.op=(call c l s.h).bind λ(v,h)=>Z (v,{s with h}))
  (ih:∀s',wpOps E r s' K->ni E r s' K) (h:fu E c l s.h λv h=>wpOps E r ({s.toH h with round:=s.round}.put o.dst v) K):ni E (o::r) s K:=by
 obtain⟨v,h',hr,hk⟩:=h;refine Dm hw (v:=v) (s1:=s.toH h') (Ev.mono hr λn a=>?_) (ih _ hk);rw[ho,a];rfl
theorem vU:∀(ops:List aW) (s:St) (K:St->Prop),wpOps E ops s K->ni E ops s K
 | [],s,K,h=>⟨s,Ev.of λ_=>rfl,h⟩
 |o::r,s,K,h=>by
  simp[wpOps] at h;cases hw:aw s o.guard with
  |none=>rw[hw] at h;exact h.elim
  |some g=>
   rw[hw] at h;simp[lB] at h;cases g with
   |false=>
    have h2:=vU r _ K (h.2 rfl);obtain⟨s',k1,k2⟩:=h2;refine⟨s',k1.mono λn b=>?_,k2⟩;simp[dT,hw];cases hd:o.dst with
    |none=>rw[hd] at b;exact b
    |some d=>rw[hd] at b;exact b
   |true=>
    have h1:=h.1 rfl;have ih:∀s',wpOps E r s' K->ni E r s' K:=λs'=>vU r s' K;clear h;unfold wpOp at h1;split at h1
    ·rename_i f args heq;exact U99
    ·rename_i x args heq;split at h1
     ·rename_i b hx;exact U99
     ·rename_i f a b hx;exact U99
     grind
    ·cases ho:aL E cQ s o.op with
     |none=>rw[ho] at h1;exact h1.elim
     |some vs=>
      obtain⟨v,s1⟩:=vs;rw[ho] at h1;exact Dm hw (Ev.of λn=>vz ho) (ih _ h1)
def wp(E:Env):aF->St->(Ex->St->Prop)->Prop
 |.skip,s,Q=>Q .normal s
 |.ret,s,Q=>Q .ret s
 |.exit id,s,Q=>Q (.exit id) s
 |.region ops,s,Q=>wpOps E ops s (Q .normal)
 |.seq a b,s,Q=>wp E a s λe s'=>match e with
  |.normal=>wp E b s' Q
  |e=>Q e s'
 |.cond c a b,s,Q=>match s.eval c with
  |some (.val (.bool x))=>(x=J->wp E a s Q)/\(x=U->wp E b s Q)
  |_=>False
 |.block id b,s,Q=>wp E b s λe s'=>match e with
  |.exit i=>Q (bif ig i id then .normal else .exit i) s'
  |e=>Q e s'
 |c,s,Q=>Run E c s Q
theorem Run.mono{c:aF}{s:St}{Q Q':Ex->St->Prop}(h:Run E c s Q)(k:∀e s',Q e s'->Q' e s'):Run E c s Q':=by
 obtain⟨e,s',a,b⟩:=h;exact⟨e,s',a,k _ _ b⟩
theorem Run.seq{a b:aF}{s:St}{Q:Ex->St->Prop}(h:Run E a s λe s'=>match e with|.normal=>Run E b s' Q|e=>Q e s'):Run E (.seq a b) s Q:=by
 obtain⟨e,s',x,y⟩:=h;cases e with
 |normal=>
  obtain⟨e2,s2,x2,y2⟩:=y;refine⟨e2,s2,((x.and x2).mono λn ⟨p,q⟩=>?_:Ev λn=>exec E (n+1) (.seq a b) s=Z (e2,s2)).step,y2⟩
  grind [exec]
 |exit i=>exact⟨_,_,(x.mono λn p=>by grind [exec]:Ev λn=>exec E (n+1) (.seq a b) s=Z (.exit i,s')).step,y⟩
 |ret=>exact⟨_,_,(x.mono λn p=>by grind [exec]:Ev λn=>exec E (n+1) (.seq a b) s=Z (.ret,s')).step,y⟩
theorem Run.block{id:Nat}{b:aF}{s:St}{Q:Ex->St->Prop}(h:Run E b s λe s'=>match e with|.exit i=>Q (bif ig i id then .normal else .exit i) s'|e=>Q e s'):Run E (.block id b) s Q:=by
 obtain⟨e,s',x,y⟩:=h;cases e with
 |normal=>exact⟨_,_,(x.mono λn p=>by grind [exec]:Ev λn=>exec E (n+1) (.block id b) s=Z (.normal,s')).step,y⟩
 |exit i=>exact⟨_,_,(x.mono λn p=>by grind [exec]:Ev λn=>exec E (n+1) (.block id b) s=Z (bif ig i id then .normal else .exit i,s')).step,y⟩
 |ret=>exact⟨_,_,(x.mono λn p=>by grind [exec]:Ev λn=>exec E (n+1) (.block id b) s=Z (.ret,s')).step,y⟩
theorem Run.loop{b:aF}{s:St}{Q:Ex->St->Prop}(h:Run E b s λe s'=>match e with|.normal=>Run E (.loop b) s' Q|e=>Q e s'):Run E (.loop b) s Q:=by
 obtain⟨e,s',x,y⟩:=h;cases e with
 |normal=>
  obtain⟨e2,s2,x2,y2⟩:=y;refine⟨e2,s2,((x.and x2).mono λn ⟨p,q⟩=>?_:Ev λn=>exec E (n+1) (.loop b) s=Z (e2,s2)).step,y2⟩
  grind [exec]
 |exit i=>exact⟨_,_,(x.mono λn p=>by grind [exec]:Ev λn=>exec E (n+1) (.loop b) s=Z (.exit i,s')).step,y⟩
 |ret=>exact⟨_,_,(x.mono λn p=>by grind [exec]:Ev λn=>exec E (n+1) (.loop b) s=Z (.ret,s')).step,y⟩
theorem rU:∀(c:aF) (s:St) (Q:Ex->St->Prop),wp E c s Q->Run E c s Q
 |.skip,s,Q,h=>⟨_,_,(Ev.of λ_=>rfl:Ev λn=>exec E (n+1) .skip s=Z (.normal,s)).step,h⟩
 |.ret,s,Q,h=>⟨_,_,(Ev.of λ_=>rfl:Ev λn=>exec E (n+1) .ret s=Z (.ret,s)).step,h⟩
 |.exit i,s,Q,h=>⟨_,_,(Ev.of λ_=>rfl:Ev λn=>exec E (n+1) (.exit i) s=Z (.exit i,s)).step,h⟩
 |.region ops,s,Q,h=>by
  obtain⟨s',x,y⟩:=vU ops s _ h;exact⟨_,_,(x.mono λn p=>by grind [exec]:Ev λn=>exec E (n+1) (.region ops) s=Z (.normal,s')).step,y⟩
 |.seq a b,s,Q,h=>Run.seq ((rU a s _ h).mono λe s' k=>by
   cases e with
   |normal=>exact rU b s' Q k
   |exit i=>exact k
   |ret=>exact k)
 |.cond c a b,s,Q,h=>by
  simp[wp] at h;split at h
  ·rename_i x hx;cases x with
   |true=>
    obtain⟨e,s',x,y⟩:=rU a s Q (h.1 rfl);exact U176
   |false=>
    obtain⟨e,s',x,y⟩:=rU b s Q (h.2 rfl);exact U176
  grind
 |.block id b,s,Q,h=>Run.block (rU b s _ h)
 |.loop b,s,Q,h=>h
 |.draw ops,s,Q,h=>h
 |.range g ps asg body M,s,Q,h=>h
 |.bad why,s,Q,h=>h
def Ans(E:Env)(g:Nat)(l:List AV)(r:AV):Prop:=∃hc,Ev λn=>bh E (exec E n) g l .empty=Z (r,hc)
theorem bON{g:Nat}{l:List AV}{r:AV}{a:ax}(hf:aR E.P g=Z a)
  (h:wp E a.body {tm:=bg l 0 .nil,h:=.empty,defers:=[],round:=Y} λe s=>(e=.normal\/e=.ret)/\s.defers=[]/\ay E.aY s a.res=Z [r]):Ans E g l r:=by
 obtain⟨e,s',x,y1,y2,y3⟩:=rU _ _ _ h;refine⟨s'.h,x.mono λn p=>?_⟩;have hl:fj E a s'=Z (r,s'.h):=by
  obtain⟨tm,h1,df,rd⟩:=s';subst y2;simp only[fj,cL,y3];rfl
 simp[bh, *]
 grind
theorem bHA{g:Nat}{l:List AV}{rs:List AV}{a:ax}(hf:aR E.P g=Z a)
  (h:wp E a.body {tm:=bg l 0 .nil,h:=.empty,defers:=[],round:=Y} λe s=>(e=.normal\/e=.ret)/\s.defers=[]/\ay E.aY s a.res=Z rs):Ans E g l (bQ rs):=by
 obtain⟨e,s',x,y1,y2,y3⟩:=rU _ _ _ h;refine⟨s'.h,x.mono λn p=>?_⟩;have hl:fj E a s'=Z (bQ rs,s'.h):=by
  obtain⟨tm,h1,df,rd⟩:=s'
  grind [fj,cL]
 simp[bh, *]
 grind
theorem aZT{g:Nat}{l:List AV}{r:AV}{h:AH}(hs:E.shared.get g=Y)(hk:E.known g l=Y)(hm:cG h l=Z l)
  (hz:l.foldl (λh v=>freeze aU v h) h=h) (hr:dg r=J) (ht:∀hc,ar (freeze aU r hc) aU r=Z r) (a:Ans E g l r):aE E (.f g) l h r h:=by
 obtain⟨hc,a⟩:=a;refine a.mono λn p=>?_
 simp_all [bY,fD]
end Go.AM
namespace Go.AM
variable {E:Env}{s:St}{K:St->Prop}{r:List aW}{d:Nat}{dst:Option Nat}
def dY(s:St)(g:Option (Nat×Bool))(A B:Prop):Prop:=bB (aw s g) λg=>(g=J->A)/\(g=U->B)
theorem aML:wpOps E [] s K=K s:=rfl
def ifP(b:Bool)(A B:Prop):Prop:=match b with
 |true=>A
 |false=>B
theorem aII{b:Bool}{A B:Prop}:ifP b A B↔(b=J->A)/\(b=U->B):=by
 cases b with
 |true=>exact⟨λh=>⟨λ_=>h,λx=>(by cases x)⟩,λh=>h.1 rfl⟩
 |false=>exact⟨λh=>⟨λx=>(by cases x),λ_=>h⟩,λh=>h.2 rfl⟩
def bO(o:Option AV)(b:Bool):Option Bool:=match o with
 |some (.val (.bool c))=>Z (c==b)
 |some (.tup [])=>Z U
 |_=>Y
theorem Nf{c:Bool}:bO (Z (.val (.bool c))) J=Z c:=by cases c<;>rfl
theorem Ng{c:Bool}:bO (Z (.val (.bool c))) U=Z (!c):=by cases c<;>rfl
theorem Nd{b:Bool}:bO (Z bJ) b=Z U:=rfl
theorem bAX{t:Nat}{b:Bool}{op:AOp}:wpOps E (⟨dst,Z (t,b),op⟩::r) s K=bB (bO (s.eval (.t t)) b) λb=>ifP b (wpOps E (⟨dst,Y,op⟩::r) s K) (wpOps E r (s.put dst bJ) K):=by
 have h1:wpOps E (⟨dst,Y,op⟩::r) s K=wpOp E op s λv s'=>wpOps E r ({s' with round:=s.round}.put dst v) K:=by
  simp[wpOps,aw,lB]
 rw[h1];show bB (bO (s.eval (.t t)) b) _=_
 grind [aII]
theorem sN{op:AOp}{o:Option AV}(h:aL E cQ s op=o.map λv=>(v,s))(hn:∀s' K,wpOp E op s' K=bB (aL E cQ s' op) λ(v,s'')=>K v s''):
  wpOps E (⟨dst,Y,op⟩::r) s K=bB o λv=>wpOps E r (s.put dst v) K:=by
 simp only[wpOps,aw,lB,true_implies,Bool.true_eq_false,false_implies,and_true, *];cases o<;>rfl
theorem wW{op:AOp}{o:Option (AV×AH)}(h:aL E cQ s op=o.map λ(v,h)=>(v,s.toH h))(hn:∀s' K,wpOp E op s' K=bB (aL E cQ s' op) λ(v,s'')=>K v s''):
  wpOps E (⟨dst,Y,op⟩::r) s K=bB o λ(v,h)=>wpOps E r ((s.toH h).put dst v) K:=by
 simp only[wpOps,aw,lB,true_implies,Bool.true_eq_false,false_implies,and_true, *];cases o<;>rfl
theorem vr{o:Option AV}:(o.bind λv=>Z (v,s))=o.map λv=>(v,s):=by cases o<;>rfl
theorem bVS{x:Opd}:wpOps E (⟨dst,Y,.mv x⟩::r) s K=bB (s.eval x) λv=>wpOps E r (s.put dst v) K:=
 sN (by simp[aL,vr]) λ_ _=>rfl
def pickV(c a b:Option AV):Option AV:=match c with
 |some (.val (.bool J))=>a
 |some (.val (.bool U))=>b
 |_=>Y
theorem bJH {c a b : Opd} : wpOps E (⟨dst, Y, .pick c a b⟩ :: r) s K = bB (pickV (s.eval c) (s.eval a) (s.eval b)) λv => wpOps E r (s.put dst v) K :=
  sN (by
    simp [aL];cases s.eval c with
    | none => rfl
    | some v => cases v <;> try rfl
                rename_i v;cases v <;> try rfl
                rename_i x;cases x <;> exact vr) λ_ _ => rfl
theorem bBL{z:List AV}:wpOps E (⟨dst,Y,.alloc z⟩::r) s K=wpOps E r ((s.toH (s.h.alloc (.cells z J))).put dst (.ptr s.h.next 0)) K:=
 wW (o:=Z (.ptr s.h.next 0,s.h.alloc (.cells z J))) rfl λ_ _=>rfl
theorem bPP{x:Opd}:wpOps E (⟨dst,Y,.box x⟩::r) s K=bB ((s.eval x).bind AV.cells) λl=>wpOps E r ((s.toH (s.h.alloc (.cells l J))).put dst (.ptr s.h.next 0)) K:=by
 rw[wW (o:=((s.eval x).bind AV.cells).map λl=>(.ptr s.h.next 0,s.h.alloc (.cells l J)))]
 ·cases (s.eval x).bind AV.cells<;>rfl
 ·simp only[aL];cases (s.eval x).bind AV.cells<;>rfl
 ·exact U177
theorem bBK{z:List AV}{ps:List (Nat×Nat×Opd)}:wpOps E (⟨dst,Y,.build z ps⟩::r) s K=bB (fill s z ps) λcs=>wpOps E r (s.put dst (.agg cs)) K:=by
 rw[sN (o:=(fill s z ps).map .agg)]
 ·cases fill s z ps<;>rfl
 ·simp only[aL];cases fill s z ps<;>rfl
 ·exact U177
theorem Rc{es n:Nat}{z:List AV}{ps:List (Nat×Nat×Opd)}:wpOps E (⟨dst,Y,.buildSlice es n z ps⟩::r) s K=bB (fill s z ps) λcs=>wpOps E r ((s.toH (s.h.alloc (.cells cs J))).put dst (.own s.h.next 0 n es (Z n))) K:=by
 rw[wW (o:=(fill s z ps).map λcs=>(.own s.h.next 0 n es (Z n),s.h.alloc (.cells cs J)))]
 ·cases fill s z ps<;>rfl
 ·simp only[aL];cases fill s z ps<;>rfl
 ·exact U177
theorem bJJ{n:Option Nat}{x:Opd}:wpOps E (⟨dst,Y,.load n x⟩::r) s K=bB (s.eval x) λv=>bB (bI E.aY s.h v) λcs=>bB (takeN n cs) λv=>wpOps E r (s.put dst v) K:=by
 rw[sN (o:=(s.eval x).bind λv=>(bI E.aY s.h v).bind (takeN n))]
 ·cases s.eval x with
  |none=>rfl
  |some v=>cases hc:bI E.aY s.h v with
   |none=>simp[hc,lB];rfl
   |some cs=>grind [lB]
 ·rw[aL];cases s.eval x<;>simp[vr]
 ·exact U177
def eu(h:AH)(n:Nat)(a:AV)(l:List AV):Option AH:=match a with
 |.ptr b off=>match h.get b with
  |some (.cells cs J)=>bif ig l.length n&&ii (off+n) cs.length then Z (h.put b (Z (.cells (putAt cs off l) J))) else Y
  |_=>Y
 |_=>Y
theorem bBJ{n:Nat}{a x:Opd}:wpOps E (⟨Y,Y,.store n a x⟩::r) s K=bB (s.eval a) λa=>bB ((s.eval x).bind AV.cells) λl=>bB (eu s.h n a l) λh=>wpOps E r (s.toH h) K:=by
 rw[wW (o:=(s.eval a).bind λa=>((s.eval x).bind AV.cells).bind λl=>(eu s.h n a l).map λh=>(bJ,h))]
 ·cases s.eval a with
  |none=>rfl
  |some a=>cases (s.eval x).bind AV.cells with
   |none=>rfl
   |some l=>
    simp only[jn,lB];cases eu s.h n a l<;>rfl
 ·simp only[aL];cases s.eval a with
  |none=>rfl
  |some a=>cases (s.eval x).bind AV.cells with
   |none=>grind
   |some l=>
    cases a<;>try rfl
    rename_i b off;simp only[jn,eu];generalize s.h.get b=o;cases o with
    |none=>rfl
    |some k=>
     cases k<;>try rfl
     rename_i cs rw;cases rw
     ·rfl
     ·show(bif _ then _ else _)=Option.map _ (Option.map _ (bif _ then _ else _));generalize (ig l.length n&&ii (off+n) cs.length)=c;cases c<;>rfl
 ·exact U177
theorem bPQ{op:BinOp}{t:TypeId}{g:Bool}{x y:Opd}:wpOps E (⟨dst,Y,.bin op t g x y⟩::r) s K=bB (s.eval x) λa=>bB (s.eval y) λb=>bB (dM E.P op t g a b) λv=>wpOps E r (s.put dst v) K:=by
 rw[sN (o:=(s.eval x).bind λa=>(s.eval y).bind λb=>dM E.P op t g a b)]
 ·cases s.eval x with
  |none=>rfl
  |some a=>cases s.eval y<;>rfl
 ·rw[aL];cases s.eval x with
  |none=>rfl
  |some a=>cases s.eval y<;>simp[vr]
 ·exact U177
def unV(P:Program)(op:UnOp)(x:AV):Option AV:=match x with
 |.val v=>(bK P (Op.unary op v)).bind ew
 |_=>Y
theorem bVR{op:UnOp}{x:Opd}:wpOps E (⟨dst,Y,.un op x⟩::r) s K=bB (s.eval x) λa=>bB (unV E.P op a) λv=>wpOps E r (s.put dst v) K:=by
 rw[sN (o:=(s.eval x).bind (unV E.P op))]
 ·cases s.eval x<;>rfl
 ·exact U25
 ·exact U177
def bu(off:Nat)(x:AV):Option AV:=match x with
 |.ptr b o=>Z (.ptr b (o+off))
 |.bD cs=>bif ii off cs.length then Z (.bD (cs.drop off)) else Y
 |.val (.pointer (Z ⟨g,o,Y⟩))=>Z (.val (.pointer (Z ⟨g,o+off,Y⟩)))
 |_=>Y
theorem Wx{off:Nat}{x:Opd}:wpOps E (⟨dst,Y,.fieldAddr off x⟩::r) s K=bB (s.eval x) λa=>bB (bu off a) λv=>wpOps E r (s.put dst v) K:=by
 rw[sN (o:=(s.eval x).bind (bu off))]
 ·cases s.eval x<;>rfl
 ·simp only[aL];cases s.eval x with
  |none=>rfl
  |some a=>
   simp[bu]
   grind
 ·exact U177
def aX(es:Nat)(x:AV)(i:Nat):Option AV:=match x with
 |.imm cs n _=>bif ir i n&&ii (i*es) cs.length then Z (.bD (cs.drop (i*es))) else Y
 |.own b off n es' _=>bif ir i n&&ig es es' then Z (.ptr b (off+i*es)) else Y
 |_=>Y
theorem aCN{es:Nat}{x i:Opd}:wpOps E (⟨dst,Y,.bT es x i⟩::r) s K=bB (s.eval x) λa=>bB ((s.eval i).bind asN) λi=>bB (aX es a i) λv=>wpOps E r (s.put dst v) K:=by
 rw[sN (o:=(s.eval x).bind λa=>((s.eval i).bind asN).bind λi=>aX es a i)]
 ·cases s.eval x with
  |none=>rfl
  |some a=>cases (s.eval i).bind asN<;>rfl
 ·simp only[aL];cases s.eval x with
  |none=>rfl
  |some a=>cases (s.eval i).bind asN with
   |none=>grind
   |some j=>
    simp[aX]
    grind
 ·exact U177
def jQ(x:AV)(i:Nat):Option AV:=match x with
 |.val (.string b)=>(b.data.toList[i]?).map λc=>.val (.int .u8 c.toNat)
 |_=>Y
theorem aRD{x i:Opd}:wpOps E (⟨dst,Y,.bj x i⟩::r) s K=bB (s.eval x) λa=>bB ((s.eval i).bind asN) λi=>bB (jQ a i) λv=>wpOps E r (s.put dst v) K:=by
 rw[sN (o:=(s.eval x).bind λa=>((s.eval i).bind asN).bind λi=>jQ a i)]
 ·cases s.eval x with
  |none=>rfl
  |some a=>cases (s.eval i).bind asN<;>rfl
 ·simp only[aL];cases s.eval x with
  |none=>rfl
  |some a=>cases (s.eval i).bind asN with
   |none=>grind
   |some j=>
    simp only[jn,jQ]
    grind
 ·exact U177
def eE(x:AV)(lo hi:Option Nat):Option AV:=match x with
 |.val (.string b)=>(sliceB b.size b.size lo hi Y).map λ(l,h,_)=>.val (.string (b.extract l h))
 |_=>Y
theorem aCM{x:Opd}{lo hi:Option Opd}:wpOps E (⟨dst,Y,.fC x lo hi⟩::r) s K=bB (s.eval x) λa=>bB (cm s lo) λlo=>bB (cm s hi) λhi=>bB (eE a lo hi) λv=>wpOps E r (s.put dst v) K:=by
 rw[sN (o:=(s.eval x).bind λa=>(cm s lo).bind λlo=>(cm s hi).bind λhi=>eE a lo hi)]
 ·cases s.eval x with
  |none=>rfl
  |some a=>cases cm s lo with
   |none=>rfl
   |some lo=>cases cm s hi<;>rfl
 ·simp only[aL];cases s.eval x with
  |none=>rfl
  |some a=>cases cm s lo with
   |none=>grind
   |some lo=>cases cm s hi with
    |none=>grind
    |some hi=>
     simp[eE]
     grind
 ·exact U177
def iD(i:Nat)(x:AV):Option AV:=match x with
 |.tup vs=>vs[i]?
 |_=>Y
theorem aMO{i:Nat}{x:Opd}:wpOps E (⟨dst,Y,.extract i x⟩::r) s K=bB (s.eval x) λa=>bB (iD i a) λv=>wpOps E r (s.put dst v) K:=by
 rw[sN (o:=(s.eval x).bind (iD i))]
 ·cases s.eval x<;>rfl
 ·exact U25
 ·exact U177
def oL(x:AV):Option AV:=match x with
 |.val (.slice _ 0 _)=>Z (.val (.int .i64 0))
 |.imm _ n _=>Z (.val (.int .i64 n))
 |.own _ _ n _ _=>Z (.val (.int .i64 n))
 |_=>Y
theorem bJK{x:Opd}:wpOps E (⟨dst,Y,.fI x⟩::r) s K=bB (s.eval x) λa=>bB (oL a) λv=>wpOps E r (s.put dst v) K:=by
 rw[sN (o:=(s.eval x).bind oL)]
 ·cases s.eval x<;>rfl
 ·simp only[aL];cases s.eval x with
  |none=>rfl
  |some a=>
   simp[oL]
   grind
 ·exact U177
def mA(x:AV):Option AV:=match x with
 |.val (.string b)=>Z (.val (.int .i64 b.size))
 |_=>Y
theorem aRC{x:Opd}:wpOps E (⟨dst,Y,.b7 x⟩::r) s K=bB (s.eval x) λa=>bB (mA a) λv=>wpOps E r (s.put dst v) K:=by
 rw[sN (o:=(s.eval x).bind mA)]
 ·cases s.eval x<;>rfl
 ·simp only[aL];cases s.eval x with
  |none=>rfl
  |some a=>cases a<;>first|rfl|(rename_i v;cases v<;>rfl)
 ·exact U177
def maxV(l:List AV):Option AV:=match l with
 |.val (.int k a)::r=>(fe J k a r).map λm=>.val (.int k m)
 |_=>Y
theorem bJI{l:List Opd}:wpOps E (⟨dst,Y,.maxI l⟩::r) s K=bB (aT s l) λl=>bB (maxV l) λv=>wpOps E r (s.put dst v) K:=by
 rw[sN (o:=(aT s l).bind maxV)]
 ·cases aT s l<;>rfl
 ·simp only[aL];cases aT s l with
  |none=>rfl
  |some l=>
   simp[maxV];cases l with
   |nil=>rfl
   |cons a t=>
    cases a<;>try rfl
    rename_i v;cases v<;>try rfl
    rename_i k a;show(fe J k a t).bind (λm=>Z (AV.val (.int k m),s))=Option.map _ (Option.map _ (fe J k a t));generalize fe J k a t=o;cases o<;>rfl
 ·exact U177
theorem aRB{f:Fn}{a b:List Opd}:wpOps E (⟨dst,Y,.fy f a b⟩::r) s K=bB (aT s a) λa=>bB (aT s b) λb=>wpOps E r (s.put dst (.fn f a b)) K:=by
 rw[sN (o:=(aT s a).bind λa=>(aT s b).map λb=>.fn f a b)]
 ·cases aT s a with
  |none=>rfl
  |some a=>cases aT s b<;>rfl
 ·simp only[aL];cases aT s a with
  |none=>rfl
  |some a=>cases aT s b<;>rfl
 ·exact U177
theorem bJL{f:Nat}{l:List Opd}:wpOps E (⟨dst,Y,.call f l⟩::r) s K=bB (aT s l) λl=>fu E (.f f) l s.h λv h=>wpOps E r ((s.toH h).put dst v) K:=U1
theorem aZY{a b:Nat}(h:b<=a):ir a b=U:=by
 cases e:ir a b with
 |false=>rfl
 |true=>exact absurd (j6 e:a<b) om
theorem aRE{es bytes:Nat}{sl x:Opd}:wpOps E (⟨dst,Y,.append es bytes sl x⟩::r) s K=bB (bN s es bytes sl x) λ(v,s')=>wpOps E r ({s' with round:=s.round}.put dst v) K:=U1
theorem aBI:aT s []=Z []:=rfl
variable {Q:Ex->St->Prop}
def seqK(E:Env)(b:aF)(Q:Ex->St->Prop)(e:Ex)(s:St):Prop:=match e with
 |.normal=>wp E b s Q
 |e=>Q e s
def blockK(id:Nat)(Q:Ex->St->Prop)(e:Ex)(s:St):Prop:=match e with
 |.exit i=>Q (bif ig i id then .normal else .exit i) s
 |e=>Q e s
theorem bOB:wp E .skip s Q=Q .normal s:=rfl
theorem bSS:wp E .ret s Q=Q .ret s:=rfl
theorem bOC{i:Nat}:wp E (.exit i) s Q=Q (.exit i) s:=rfl
theorem aZW{ops:List aW}:wp E (.region ops) s Q=wpOps E ops s (Q .normal):=rfl
theorem bSR{a b:aF}:wp E (.seq a b) s Q=wp E a s (seqK E b Q):=rfl
theorem bGQ{id:Nat}{b:aF}:wp E (.block id b) s Q=wp E b s (blockK id Q):=rfl
def boolV:AV->Option Bool
 |.val (.bool x)=>Z x
 |_=>Y
theorem bOD{c:Opd}{a b:aF}:wp E (.cond c a b) s Q=bB ((s.eval c).bind boolV) λx=>ifP x (wp E a s Q) (wp E b s Q):=by
 rw[wp];cases s.eval c with
 |none=>rfl
 |some v=>
  cases v<;>try rfl
  rename_i v;cases v<;>try rfl
  rename_i x;exact propext (aII (b:=x)).symm
theorem aUH{b:aF}:seqK E b Q .normal s=wp E b s Q:=rfl
theorem bRW{b:aF}:seqK E b Q .ret s=Q .ret s:=rfl
theorem bLB{b:aF}{i:Nat}:seqK E b Q (.exit i) s=Q (.exit i) s:=rfl
theorem bAC{id:Nat}:blockK id Q .normal s=Q .normal s:=rfl
theorem bSU{id:Nat}:blockK id Q .ret s=Q .ret s:=rfl
theorem bOE{id i:Nat}:blockK id Q (.exit i) s=Q (bif ig i id then .normal else .exit i) s:=rfl
def loopK(E:Env)(l:aF)(Q:Ex->St->Prop)(e:Ex)(s:St):Prop:=match e with
 |.normal=>Run E l s Q
 |e=>Q e s
theorem az{l b:aF}(hl:l=.loop b)(h:wp E b s (loopK E l Q)):Run E l s Q:=by
 subst hl;refine Run.loop ((rU _ _ _ h).mono λe s' k=>?_);cases e<;>exact k
theorem aUF{l:aF}:loopK E l Q .normal s=Run E l s Q:=rfl
theorem bRV{l:aF}:loopK E l Q .ret s=Q .ret s:=rfl
theorem bKY{l:aF}{i:Nat}:loopK E l Q (.exit i) s=Q (.exit i) s:=rfl
theorem aIA(k:IntKind):(k==k)=J:=by grind
theorem bPX{P:Program}{t:TypeId}{g:Bool}{k:IntKind}{a b:Int}:dM P .lss t g (.val (.int k a)) (.val (.int k b))=Z (.val (.bool (decide (a<b)))):=by simp[dM,fR]
theorem bPY{P:Program}{t:TypeId}{g:Bool}{k:IntKind}{a b:Int}:dM P .leq t g (.val (.int k a)) (.val (.int k b))=Z (.val (.bool (decide (a<=b)))):=by simp[dM,fR]
theorem bPZ{P:Program}{t:TypeId}{g:Bool}{k:IntKind}{a b:Int}:dM P .gtr t g (.val (.int k a)) (.val (.int k b))=Z (.val (.bool (decide (b<a)))):=by simp[dM,fR]
theorem bQA{P:Program}{t:TypeId}{g:Bool}{k:IntKind}{a b:Int}:dM P .geq t g (.val (.int k a)) (.val (.int k b))=Z (.val (.bool (decide (b<=a)))):=by simp[dM,fR]
theorem bQB{P:Program}{t:TypeId}{g:Bool}{k:IntKind}{a b:Int}:dM P .eql t g (.val (.int k a)) (.val (.int k b))=Z (.val (.bool (decide (a=b)))):=by simp only[dM,fR,aIA,cond_true]<;>rfl
theorem bPT{P:Program}{t:TypeId}{g:Bool}{k:IntKind}{a b:Int}:dM P .neq t g (.val (.int k a)) (.val (.int k b))=Z (.val (.bool (!decide (a=b)))):=by simp only[dM,fR,aIA,cond_true]<;>rfl
theorem bQC{P:Program}{t:TypeId}{g:Bool}{k:IntKind}{a b:Int}:dM P .add t g (.val (.int k a)) (.val (.int k b))=Z (.val (.int k (k.wrap (a+b)))):=by simp[dM,fR]
theorem bPR{P:Program}{t:TypeId}{g:Bool}{k:IntKind}{a b:Int}:dM P .sub t g (.val (.int k a)) (.val (.int k b))=Z (.val (.int k (k.wrap (a-b)))):=by simp[dM,fR]
theorem bPV{P:Program}{t:TypeId}{g:Bool}{k:IntKind}{a b:Int}:dM P .mul t g (.val (.int k a)) (.val (.int k b))=Z (.val (.int k (k.wrap (a*b)))):=by simp[dM,fR]
theorem Nh{P:Program}{t:TypeId}{g:Bool}{k:IntKind}{a b:Int}(h:b≠0):dM P .quo t g (.val (.int k a)) (.val (.int k b))=Z (.val (.int k (k.wrap (a.tdiv b)))):=by
 have:(b==0)=U:=Gr;simp only[dM,fR,aIA,cond_true,this,cond_false]
def aP(a b:ByteArray):Bool:=dZ a.data.toList b.data.toList
theorem bJO{P:Program}{t:TypeId}{g:Bool}{a b:ByteArray}:dM P .eql t g (.val (.string a)) (.val (.string b))=Z (.val (.bool (aP a b))):=by rfl
theorem bJM{P:Program}{t:TypeId}{g:Bool}{a b:ByteArray}:dM P .neq t g (.val (.string a)) (.val (.string b))=Z (.val (.bool (!aP a b))):=by rfl
theorem bPS{P:Program}{b:Bool}:unV P .not (.val (.bool b))=Z (.val (.bool (!b))):=by rfl
theorem bJP{b:Bool}{x y:AV}:pickV (Z (.val (.bool b))) (Z x) (Z y)=Z (bif b then x else y):=by cases b<;>rfl
theorem bKW{k:IntKind}{i:Nat}:asN (.val (.int k (Nat.cast i)))=Z i:=rfl
theorem bLH{off b o:Nat}:bu off (.ptr b o)=Z (.ptr b (o+off)):=rfl
def cfB(o:Option Blk)(off:Nat):Option (List AV):=match o with
 |some (.cells cs _)=>bif ii off cs.length then Z (cs.drop off) else Y
 |_=>Y
theorem bNY{G:Nat->Option (List AV)}{h:AH}{b off:Nat}:bI G h (.ptr b off)=cfB (h.get b) off:=rfl
theorem bGM{G:Nat->Option (List AV)}{h:AH}{cs:List AV}:bI G h (.bD cs)=Z cs:=rfl
theorem xG:AH.empty.next=0:=rfl
theorem tG{h:AH}{x:Blk}:(h.alloc x).next=h.next+1:=rfl
theorem bKO{h:AH}{b:Nat}{x:Option Blk}:(h.put b x).next=h.next:=rfl
theorem bPU{P:Program}{n:Int}:unV P .neg (.val (.int .i64 n))=Z (.val (.int .i64 (IntKind.i64.wrap (0-n)))):=rfl
theorem bPW{a b:Nat}:maxV [.val (.int .i64 (a:Int)),.val (.int .i64 (b:Int))]=Z (.val (.int .i64 ((max a b:Nat):Int))):=by
 have h:(IntKind.i64==IntKind.i64)=J:=rfl;have k:max (a:Int) (b:Int)=((max a b:Nat):Int):=om
 simp_all [maxV,fe]
theorem x_0{a:AV}{l:List AV}:iD 0 (.tup (a::l))=Z a:=rfl
theorem x_1{a b:AV}{l:List AV}:iD 1 (.tup (a::b::l))=Z b:=rfl
theorem x_2{a b c:AV}{l:List AV}:iD 2 (.tup (a::b::c::l))=Z c:=rfl
theorem sC{l:List AV}{i:Nat}{v:AV}{h:AH}{r:Option Nat}(hv:(bg l 0 .nil).get i=Z v):St.eval {tm:=bg l 0 .nil,h,defers:=[],round:=r} (.t i)=Z v:=hv
theorem bQQ{G:Nat->Option (List AV)}:ay G s []=Z []:=rfl
theorem bKK{G:Nat->Option (List AV)}{t:Nat}{n:Option Nat}{l:List ARes}:ay G s (.cell t n::l)=(s.eval (.t t)).bind λv=>(bI G s.h v).bind λcs=>(takeN n cs).bind λv=>(ay G s l).map λl=>v::l:=by
 have h:s.eval (.t t)=s.tm.get t:=rfl;rw[h];simp[ay];cases s.tm.get t with
 |none=>rfl
 |some v=>
  simp;cases hc:bI G s.h v with
  |none=>rfl
  |some cs=>
   simp;cases ay G s l with
   |none=>simp
   |some l=>
    show Option.map (λx=>x::l) (takeN n cs)=_;cases takeN n cs<;>rfl
def aj(v:AV):Prop:=(∀h n,ar h (n+1) v=Z v)/\∀h n,freeze (n+1) v h=h
def Tree(v:AV):Prop:=(∀h n,ar h (n+2) v=Z v)/\∀h n,freeze (n+2) v h=h
theorem aj.val(v:Value):aj (.val v):=⟨λ_ _=>rfl,λ_ _=>rfl⟩
theorem aj.imm(cs:List AV)(n:Nat)(c:Option Nat):aj (.imm cs n c):=⟨λ_ _=>rfl,λ_ _=>rfl⟩
theorem aj.tree{v:AV}(h:aj v):Tree v:=⟨λa n=>h.1 a (n+1),λa n=>h.2 a (n+1)⟩
theorem Tree.val(v:Value):Tree (.val v):=(aj.val v).tree
theorem wG{h:AH}{n:Nat}:∀{l:List AV},(∀v∈l,aj v)->l.mapM (ar h (n+1))=Z l
 | [],_=>rfl
 |v::l,k=>by
  rw[List.mapM_cons,(k v ip).1,wG λx hx=>k x (iy _ hx)];rfl
theorem uY{n:Nat}:∀{l:List AV} {h:AH},(∀v∈l,aj v)->l.foldl (λh c=>freeze (n+1) c h) h=h
 | [],_,_=>rfl
 |v::l,h,k=>by
  rw[B6,(k v ip).2];exact uY λx hx=>k x (iy _ hx)
theorem Tree.agg{l:List AV}(k:∀v∈l,aj v):Tree (.agg l):=
 ⟨λh n=>(show(l.mapM (ar h (n+1))).map AV.agg=_ by rw[wG k];rfl),λh n=>(show l.foldl (λh c=>freeze (n+1) c h) h=h from uY k)⟩
theorem Tree.tup{l:List AV}(k:∀v∈l,aj v):Tree (.tup l):=
 ⟨λh n=>(show(l.mapM (ar h (n+1))).map AV.tup=_ by rw[wG k];rfl),λh n=>(show l.foldl (λh c=>freeze (n+1) c h) h=h from uY k)⟩
theorem Tree.two(a b:Value):Tree (.tup [.val a,.val b]):=Tree.tup λv hv=>by
 simp[List.mem_nil_iff] at hv;rcases hv with rfl|rfl<;>exact aj.val _
theorem s9{h:AH}:∀{l:List AV},(∀v∈l,Tree v)->cG h l=Z l
 | [],_=>rfl
 |v::l,k=>by
  have h1:ar h aU v=Z v:=(k v ip).1 h 999999998;simp only[cG,h1,s9 λx hx=>k x (iy _ hx)]
theorem sm:∀{l:List AV} {h:AH},(∀v∈l,Tree v)->l.foldl (λh v=>freeze aU v h) h=h
 | [],_,_=>rfl
 |v::l,h,k=>by
  have h1:freeze aU v h=h:=(k v ip).2 h 999999998;rw[B6,h1];exact sm λx hx=>k x (iy _ hx)
theorem eK{g:Nat}{l:List AV}{r:AV}(hs:E.shared.get g=Y)(hk:E.known g l=Y)(hl:∀v∈l,Tree v)(hr:dg r=J)(ht:Tree r)(a:Ans E g l r)(h:AH):aE E (.f g) l h r h:=
 aZT hs hk (s9 hl) (sm hl) hr (λhc=>ht.1 _ 999999998) a
theorem qr{p:AV->Prop}{a:AV}(h:p a):∀v∈[a],p v:=λv hv=>by
 grind
theorem sE{p:AV->Prop}{a b:AV}(h:p a)(k:p b):∀v∈[a,b],p v:=λv hv=>by
 grind
theorem yy{p:AV->Prop}{a b c:AV}(h:p a)(k:p b)(m:p c):∀v∈[a,b,c],p v:=λv hv=>by
 grind
end Go.AM
namespace Go.AM
variable {E:Env}{s:St}{K:St->Prop}{r:List aW}{d:Nat}{dst:Option Nat}{Q:Ex->St->Prop}
def fM(E:Env)(r:List aW)(s:St)(dst:Option Nat)(K:St->Prop)(o:Option AV):Prop:=bB o λv=>wpOps E r (s.put dst v) K
def stepH(E:Env)(r:List aW)(s:St)(dst:Option Nat)(K:St->Prop)(o:Option (AV×AH)):Prop:=bB o λ(v,h)=>wpOps E r ((s.toH h).put dst v) K
def stepS(E:Env)(r:List aW)(s:St)(K:St->Prop)(o:Option AH):Prop:=bB o λh=>wpOps E r (s.toH h) K
theorem aCY{v:AV}:fM E r s dst K (Z v)=wpOps E r (s.put dst v) K:=rfl
theorem aCZ{v:AV}{h:AH}:stepH E r s dst K (Z (v,h))=wpOps E r ((s.toH h).put dst v) K:=rfl
theorem Hf{h:AH}:stepS E r s K (Z h)=wpOps E r (s.toH h) K:=rfl
def guardK(E:Env)(dst:Option Nat)(op:AOp)(r:List aW)(s:St)(K:St->Prop)(o:Option Bool):Prop:=match o with
 |some J=>wpOps E (⟨dst,Y,op⟩::r) s K
 |some U=>wpOps E r (s.put dst bJ) K
 |none=>False
theorem aUN{op:AOp}:guardK E dst op r s K (Z J)=wpOps E (⟨dst,Y,op⟩::r) s K:=rfl
theorem aUO{op:AOp}:guardK E dst op r s K (Z U)=wpOps E r (s.put dst bJ) K:=rfl
theorem s_g{t:Nat}{b:Bool}{op:AOp}:wpOps E (⟨dst,Z (t,b),op⟩::r) s K=guardK E dst op r s K (bO (s.eval (.t t)) b):=by
 rw[bAX];cases bO (s.eval (.t t)) b with
 |none=>rfl
 |some g=>cases g<;>rfl
def condK(E:Env)(a b:aF)(s:St)(Q:Ex->St->Prop)(o:Option AV):Prop:=match o with
 |some (.val (.bool J))=>wp E a s Q
 |some (.val (.bool U))=>wp E b s Q
 |_=>False
theorem bGJ{a b:aF}:condK E a b s Q (Z (.val (.bool J)))=wp E a s Q:=rfl
theorem bGK{a b:aF}:condK E a b s Q (Z (.val (.bool U)))=wp E b s Q:=rfl
theorem bKH{c:Opd}{a b:aF}:wp E (.cond c a b) s Q=condK E a b s Q (s.eval c):=by
 rw[bOD];cases s.eval c with
 |none=>rfl
 |some v=>
  cases v<;>try rfl
  rename_i v;cases v<;>try rfl
  rename_i x;cases x<;>rfl
theorem bVV{x:Opd}:wpOps E (⟨dst,Y,.mv x⟩::r) s K=fM E r s dst K (s.eval x):=bVS
theorem bKC{c a b:Opd}:wpOps E (⟨dst,Y,.pick c a b⟩::r) s K=fM E r s dst K (pickV (s.eval c) (s.eval a) (s.eval b)):=bJH
def boxO(h:AH):Option (List AV)->Option (AV×AH)
 |some l=>Z (.ptr h.next 0,h.alloc (.cells l J))
 |none=>Y
theorem aQF{h:AH}{l:List AV}:boxO h (Z l)=Z (.ptr h.next 0,h.alloc (.cells l J)):=rfl
theorem bQN{x:Opd}:wpOps E (⟨dst,Y,.box x⟩::r) s K=stepH E r s dst K (boxO s.h ((s.eval x).bind AV.cells)):=by
 rw[bPP];cases (s.eval x).bind AV.cells<;>rfl
def aggO:Option (List AV)->Option AV
 |some l=>Z (.agg l)
 |none=>Y
theorem aQK{l:List AV}:aggO (Z l)=Z (.agg l):=rfl
theorem bBZ{z:List AV}{ps:List (Nat×Nat×Opd)}:wpOps E (⟨dst,Y,.build z ps⟩::r) s K=fM E r s dst K (aggO (fill s z ps)):=by
 rw[bBK];cases fill s z ps<;>rfl
def ownO(h:AH)(es n:Nat):Option (List AV)->Option (AV×AH)
 |some l=>Z (.own h.next 0 n es (Z n),h.alloc (.cells l J))
 |none=>Y
theorem aNO{h:AH}{es n:Nat}{l:List AV}:ownO h es n (Z l)=Z (.own h.next 0 n es (Z n),h.alloc (.cells l J)):=rfl
theorem Rp{es n:Nat}{z:List AV}{ps:List (Nat×Nat×Opd)}:wpOps E (⟨dst,Y,.buildSlice es n z ps⟩::r) s K=stepH E r s dst K (ownO s.h es n (fill s z ps)):=by
 rw[Rc];cases fill s z ps<;>rfl
theorem bKE{n:Option Nat}{x:Opd}:wpOps E (⟨dst,Y,.load n x⟩::r) s K=fM E r s dst K (((s.eval x).bind (bI E.aY s.h)).bind (takeN n)):=by
 rw[bJJ];cases s.eval x with
 |none=>rfl
 |some v=>
  rw[lB,jn];cases bI E.aY s.h v<;>rfl
def storeO(h:AH)(n:Nat):Option AV->Option (List AV)->Option AH
 |some a,Z l=>eu h n a l
 |_,_=>Y
theorem Dk{h:AH}{n:Nat}{a:AV}{l:List AV}:storeO h n (Z a) (Z l)=eu h n a l:=rfl
theorem aHQ{n:Nat}{a x:Opd}:wpOps E (⟨Y,Y,.store n a x⟩::r) s K=stepS E r s K (storeO s.h n (s.eval a) ((s.eval x).bind AV.cells)):=by
 rw[bBJ];cases s.eval a with
 |none=>rfl
 |some a=>cases (s.eval x).bind AV.cells<;>rfl
def binO(P:Program)(op:BinOp)(t:TypeId)(g:Bool):Option AV->Option AV->Option AV
 |some a,Z b=>dM P op t g a b
 |_,_=>Y
theorem aQH{P:Program}{op:BinOp}{t:TypeId}{g:Bool}{a b:AV}:binO P op t g (Z a) (Z b)=dM P op t g a b:=rfl
theorem bQO{op:BinOp}{t:TypeId}{g:Bool}{x y:Opd}:wpOps E (⟨dst,Y,.bin op t g x y⟩::r) s K=fM E r s dst K (binO E.P op t g (s.eval x) (s.eval y)):=by
 rw[bPQ];cases s.eval x with
 |none=>rfl
 |some a=>cases s.eval y<;>rfl
theorem bVU{op:UnOp}{x:Opd}:wpOps E (⟨dst,Y,.un op x⟩::r) s K=fM E r s dst K ((s.eval x).bind (unV E.P op)):=by
 rw[bVR];cases s.eval x<;>rfl
theorem Xu{off:Nat}{x:Opd}:wpOps E (⟨dst,Y,.fieldAddr off x⟩::r) s K=fM E r s dst K ((s.eval x).bind (bu off)):=by
 rw[Wx];cases s.eval x<;>rfl
def idxO(es:Nat):Option AV->Option Nat->Option AV
 |some a,Z i=>aX es a i
 |_,_=>Y
theorem aOW{es i:Nat}{a:AV}:idxO es (Z a) (Z i)=aX es a i:=rfl
theorem aDH{es:Nat}{x i:Opd}:wpOps E (⟨dst,Y,.bT es x i⟩::r) s K=fM E r s dst K (idxO es (s.eval x) ((s.eval i).bind asN)):=by
 rw[aCN];cases s.eval x with
 |none=>rfl
 |some a=>cases (s.eval i).bind asN<;>rfl
def idxSO:Option AV->Option Nat->Option AV
 |some a,Z i=>jQ a i
 |_,_=>Y
theorem aEP{i:Nat}{a:AV}:idxSO (Z a) (Z i)=jQ a i:=rfl
theorem aSN{x i:Opd}:wpOps E (⟨dst,Y,.bj x i⟩::r) s K=fM E r s dst K (idxSO (s.eval x) ((s.eval i).bind asN)):=by
 rw[aRD];cases s.eval x with
 |none=>rfl
 |some a=>cases (s.eval i).bind asN<;>rfl
def sliceO:Option AV->Option (Option Nat)->Option (Option Nat)->Option AV
 |some a,Z lo,Z hi=>eE a lo hi
 |_,_,_=>Y
theorem Xq{a:AV}{lo hi:Option Nat}:sliceO (Z a) (Z lo) (Z hi)=eE a lo hi:=rfl
theorem aDG{x:Opd}{lo hi:Option Opd}:wpOps E (⟨dst,Y,.fC x lo hi⟩::r) s K=fM E r s dst K (sliceO (s.eval x) (cm s lo) (cm s hi)):=by
 rw[aCM];cases s.eval x with
 |none=>rfl
 |some a=>cases cm s lo with
  |none=>rfl
  |some lo=>cases cm s hi<;>rfl
theorem aMZ{i:Nat}{x:Opd}:wpOps E (⟨dst,Y,.extract i x⟩::r) s K=fM E r s dst K ((s.eval x).bind (iD i)):=by
 rw[aMO];cases s.eval x<;>rfl
theorem bKF{x:Opd}:wpOps E (⟨dst,Y,.fI x⟩::r) s K=fM E r s dst K ((s.eval x).bind oL):=by
 rw[bJK];cases s.eval x<;>rfl
theorem aSM{x:Opd}:wpOps E (⟨dst,Y,.b7 x⟩::r) s K=fM E r s dst K ((s.eval x).bind mA):=by
 rw[aRC];cases s.eval x<;>rfl
theorem bKD{l:List Opd}:wpOps E (⟨dst,Y,.maxI l⟩::r) s K=fM E r s dst K ((aT s l).bind maxV):=by
 rw[bJI];cases aT s l<;>rfl
def fnO(f:Fn):Option (List AV)->Option (List AV)->Option AV
 |some a,Z b=>Z (.fn f a b)
 |_,_=>Y
theorem aUW{f:Fn}{a b:List AV}:fnO f (Z a) (Z b)=Z (.fn f a b):=rfl
theorem aSL{f:Fn}{a b:List Opd}:wpOps E (⟨dst,Y,.fy f a b⟩::r) s K=fM E r s dst K (fnO f (aT s a) (aT s b)):=by
 rw[aRB];cases aT s a with
 |none=>rfl
 |some a=>cases aT s b<;>rfl
def bo(E:Env)(f:Nat)(r:List aW)(s:St)(dst:Option Nat)(K:St->Prop)(o:Option (List AV)):Prop:=bB o λl=>fu E (.f f) l s.h λv h=>wpOps E r ((s.toH h).put dst v) K
theorem bKI{f:Nat}{l:List Opd}:wpOps E (⟨dst,Y,.call f l⟩::r) s K=bo E f r s dst K (aT s l):=bJL
theorem ac{f:Nat}{l:List AV}{v:AV}(h:∀h,aE E (.f f) l h v h):bo E f r s dst K (Z l)=wpOps E r (s.put dst v) K:=by
 show fu E (.f f) l s.h _=_;exact propext (Ld (h s.h))
theorem aZV{f:Nat}{l:List AV}{v:AV}{h':AH}(h:aE E (.f f) l s.h v h'):bo E f r s dst K (Z l)=wpOps E r ((s.toH h').put dst v) K:=by
 show fu E (.f f) l s.h _=_
 grind [Ld]
def mQ:Option AV->Option (List AV)->Option (List AV)
 |some a,Z l=>Z (a::l)
 |_,_=>Y
theorem aGX{a:AV}{l:List AV}:mQ (Z a) (Z l)=Z (a::l):=rfl
theorem bTE{x:Opd}{l:List Opd}:aT s (x::l)=mQ (s.eval x) (aT s l):=by
 simp[aT];cases s.eval x with
 |none=>rfl
 |some v=>cases aT s l<;>rfl
theorem bCD{G:Nat->Option (List AV)}{t:Nat}{l:List ARes}:ay G s (.tmp t::l)=mQ (s.eval (.t t)) (ay G s l):=by
 rfl
theorem aSR{G:Nat->Option (List AV)}{t:Nat}{n:Option Nat}{l:List ARes}:ay G s (.cell t n::l)=mQ (((s.eval (.t t)).bind (bI G s.h)).bind (takeN n)) (ay G s l):=by
 rw[bKK];cases s.eval (.t t) with
 |none=>rfl
 |some v=>
  simp;cases bI G s.h v with
  |none=>rfl
  |some cs=>
   simp;cases takeN n cs with
   |none=>rfl
   |some x=>cases ay G s l<;>rfl
theorem n_0{k:IntKind}:asN (.val (.int k 0))=Z 0:=rfl
theorem n_1{k:IntKind}:asN (.val (.int k 1))=Z 1:=rfl
end Go.AM
namespace Go.AM
variable {E:Env}
theorem Yt{h:AH}{b k es:Nat}{cap:Option Nat}{cs:List AV}{rw:Bool}(hb:h.get b=Z (.cells cs rw))(hl:cs.length=k*es)(hv:∀v∈cs,aj v):
  ar (freeze aU (.own b 0 k es cap) h) aU (.own b 0 k es cap)=Z (.imm cs k cap):=by
 have e1:freeze aU (.own b 0 k es cap) h=h.put b (Z (.cells cs U)):=by
  show(match h.get b with
   |some (.cells cs _)=>((cs.drop 0).take (k*es)).foldl (λh c=>freeze 999999999 c h) (h.put b (Z (.cells cs U)))
   |_=>h)=_
  simp_all [A5,uY]
 rw[e1];have hg:=U178;rw[show aU=999999999+1 from rfl,ar.eq_def];simp only[hg];have h1:=U179;rw[h1,cond_true,A9]
 grind [wG]
theorem aBY{g:Nat}{l:List AV}{b k es:Nat}{cap:Option Nat}{cs:List AV}{rw:Bool}{hc:AH}(hs:E.shared.get g=Y)(hk:E.known g l=Y)(hl:∀v∈l,Tree v)
  (a:Ev λn=>bh E (exec E n) g l .empty=Z (.own b 0 k es cap,hc)) (hb:hc.get b=Z (.cells cs rw)) (hn:cs.length=k*es) (hv:∀v∈cs,aj v) (h:AH):aE E (.f g) l h (.imm cs k cap) h:=by
 refine a.mono λn p=>?_
 have hz:=U180;simp only[bY,fD,s9 hl,Yt hb hn hv, *];rfl
end Go.AM
namespace Go.AM
variable {E:Env}{s:St}{K:St->Prop}{r:List aW}{d:Nat}{dst:Option Nat}
def Row(lo:Nat)(h:AH)(v:AV)(cs:List AV):Prop:=(v=.val (.slice Y 0 0)/\cs=[])\/∃b,lo<=b/\b<h.next/\cs≠ []/\v=.own b 0 cs.length 1 Y/\h.get b=Z (.cells cs J)
def oJ(h:AH)(v e:AV):AH:=match v with
 |.own b _ _ _ _=>match h.get b with
  |some (.cells cs _)=>((h.alloc (.cells [e] J)).put b Y).alloc (.cells (cs++[e]) J)
  |_=>h
 |_=>(h.alloc (.cells [e] J)).alloc (.cells [e] J)
theorem aNJ{lo:Nat}{h:AH}{v:AV}{cs:List AV}{e:AV}(hr:Row lo h v cs):(oJ h v e).next=h.next+2:=by
 rcases hr with⟨rfl,rfl⟩|⟨b,_,_,_,rfl,hg⟩<;>simp_all [oJ]
theorem Ym{lo:Nat}{h:AH}{v:AV}{cs:List AV}{e:AV}(hr:Row lo h v cs)(hl:lo<=h.next):Row lo (oJ h v e) (.own (h.next+1) 0 (cs.length+1) 1 Y) (cs++[e]):=by
 refine .inr ⟨h.next+1,om,by grind [aNJ],Sp,Sp,?_⟩
 rcases hr with⟨rfl,rfl⟩|⟨c,h1,h2,_,rfl,hg⟩<;>simp_all [oJ,AH.aS]
theorem Row.to{lo:Nat}{h h':AH}{v:AV}{cs:List AV}(hr:Row lo h v cs)(hn:h.next<=h'.next)(hg:∀b,b<h.next->h'.get b=h.get b):Row lo h' v cs:=by
 rcases hr with⟨rfl,rfl⟩|⟨c,h1,h2,h3,rfl,h4⟩
 ·exact .inl ⟨rfl,rfl⟩
 ·exact .inr ⟨c,h1,om,h3,rfl,Gr⟩
theorem tX{es bytes:Nat}{sl x:Opd}:wpOps E (⟨dst,Y,.append es bytes sl x⟩::r) s K=bB (bN s es bytes sl x) λ(v,s')=>wpOps E r ({s' with round:=s.round}.put dst v) K:=aRE
theorem aLY{lo bytes d1 a:Nat}{h0:AH}{e v:AV}{cs:List AV}(hr:Row lo h0 v cs)(hl:cW (cs.length+1) bytes=J)(h1:s.h=h0.alloc (.cells [e] J))(h2:s.eval (.t a)=Z v)(h3:s.eval (.t d1)=Z (.own h0.next 0 1 1 (Z 1))):
  wpOps E (⟨dst,Y,.append 1 bytes (.t a) (.t d1)⟩::r) s K=wpOps E r ((s.toH (oJ h0 v e)).put dst (.own (h0.next+1) 0 (cs.length+1) 1 Y)) K:=by
 have hg:s.h.get h0.next=Z (.cells [e] J):=by rw[h1,AH.aS,if_pos rfl]
 have he:au s.h 1 (.own h0.next 0 1 1 (Z 1))=Z ([e],1):=by
  simp only[au,hg];rfl
 rw[h1] at he;have hb:ig 1 0=U:=rfl;have hn:(h0.alloc (.cells [e] J)).next=h0.next+1:=rfl
 suffices hs:bN s 1 bytes (.t a) (.t d1)=Z (.own (h0.next+1) 0 (cs.length+1) 1 Y,s.toH (oJ h0 v e)) by
  rw[tX,hs];rfl
 rcases hr with⟨rfl,rfl⟩|⟨c,g1,g2,g3,rfl,g4⟩
 ·simp at hl;simp only[bN,h1,h2,h3,he,hb,cond_false,hl,cond_true,oJ];rfl
 ·have gc:(h0.alloc (.cells [e] J)).get c=Z (.cells cs J):=by rw[AH.aS,if_neg om,g4]
  have b1:ig 1 1=J:=rfl;have b2:ii (0+cs.length*1) cs.length=J:=Sp;have b3:ig (0+cs.length*1) cs.length=J:=Sp;have b4:ir (0+cs.length*1) cs.length=U:=aZY om;simp only[bN,h1,h2,h3,he,hb,cond_false,gc,b1,b2,hl,ja,Bool.false_and,cond_true,b3,b4,oJ,g4,A9];rfl
def sliceSO(h:AH)(es:Nat):Option AV->Option (Option Nat)->Option (Option Nat)->Option (Option Nat)->Option AV
 |some v,Z lo,Z hi,Z mx=>(fW es v lo hi mx).or (fv h es v lo hi mx)
 |_,_,_,_=>Y
theorem Rj{h:AH}{es:Nat}{v:AV}{lo hi mx:Option Nat}:sliceSO h es (Z v) (Z lo) (Z hi) (Z mx)=(fW es v lo hi mx).or (fv h es v lo hi mx):=rfl
theorem bCU{α:Type}{a:α}{b:Option α}:(Z a).or b=Z a:=rfl
theorem aSK{es:Nat}{x:Opd}{lo hi mx:Option Opd}:wpOps E (⟨dst,Y,.dE es x lo hi mx⟩::r) s K=fM E r s dst K (sliceSO s.h es (s.eval x) (cm s lo) (cm s hi) (cm s mx)):=by
 rw[sN (o:=sliceSO s.h es (s.eval x) (cm s lo) (cm s hi) (cm s mx))]
 ·rfl
 ·simp[aL];cases s.eval x with
  |none=>rfl
  |some v=>cases cm s lo with
   |none=>rfl
   |some lo=>cases cm s hi with
    |none=>rfl
    |some hi=>cases cm s mx with
     |none=>rfl
     |some mx=>exact vr
 ·exact U177
theorem bKQ:cm s Y=Z Y:=rfl
def optM:Option AV->Option (Option Nat)
 |some v=>(asN v).map Z
 |none=>Y
theorem bKP{x:Opd}:cm s (Z x)=optM (s.eval x):=by
 rfl
theorem aNR{v:AV}:optM (Z v)=(asN v).map Z:=rfl
def fillO:Option AV->Option (List AV)
 |some v=>match v.cells with
  |some l=>bif ig l.length 1 then Z l else Y
  |none=>Y
 |none=>Y
theorem Ow{v:Value}:fillO (Z (.val v))=Z [.val v]:=rfl
theorem aAF{x:Opd}{z:AV}:fill s [z] [(0,1,x)]=fillO (s.eval x):=by
 simp only[fill,fillO];cases s.eval x with
 |none=>rfl
 |some v=>
  show(match v.cells with|some l=>bif ig l.length 1&&ii (0+1) [z].length then Z (putAt [z] 0 l) else Y|none=>Y)=(match v.cells with|some l=>bif ig l.length 1 then Z l else Y|none=>Y);generalize v.cells=o;cases o with
  |none=>rfl
  |some l=>
   have h1:ii (0+1) [z].length=J:=rfl;simp only[h1,Bool.and_true];cases hb:ig l.length 1<;>simp_all [putAt]
theorem aMW{b:ByteArray}{i j:Nat}(h:i<=j)(k:j<=b.size):eE (.val (.string b)) (Z i) (Z j)=Z (.val (.string (b.extract i j))):=by
 have h1:ii b.size b.size=J:=Sp;have h2:ii j b.size=J:=Sa;have h3:ii i j=J:=Sa;simp only[eE,sliceB,Ae,jt,h1,h2,h3,Be,Bool.true_or,ja,cond_true,Ab]
theorem aMX{b:ByteArray}{i:Nat}(h:i<=b.size):eE (.val (.string b)) (Z i) Y=Z (.val (.string (b.extract i b.size))):=by
 have h1:ii b.size b.size=J:=Sp;have h2:ii i b.size=J:=Sa;simp only[eE,sliceB,Ae,jt,h1,h2,Be,Bool.true_or,ja,cond_true,Ab]
def strs(l:List ByteArray):List AV:=l.map λb=>.val (.string b)
theorem yh(l:List ByteArray):(strs l).length=l.length:=List.length_map _
theorem Xg(l:List ByteArray)(b:ByteArray):strs l++[.val (.string b)]=strs (l++[b]):=by grind [strs]
theorem aRZ{l r:List ByteArray}{b:ByteArray}{i:Nat}{cap:Option Nat}(h:l.drop i=b::r):aX 1 (.imm (strs l) l.length cap) i=Z (.bD (.val (.string b)::strs r)):=by
 have hi:i<l.length:=by
  grind [List.drop_eq_nil_of_le]
 have a1:ir i l.length=J:=Sa;have a2:ii i (strs l).length=J:=Nat.ble_eq.mpr (by grind [yh])
 have a3:(strs l).drop i=.val (.string b)::strs r:=by
  rw[strs,<-List.map_drop,h];rfl
 simp only[aX,a1,a2,ja,cond_true,Nat.mul_one,a3]
theorem bBP{v:AV}{l:List AV}:takeN Y (v::l)=Z v:=rfl
theorem bDI{cs:List AV}{n:Nat}{cap:Option Nat}:oL (.imm cs n cap)=Z (.val (.int .i64 (n:Nat))):=rfl
theorem aRX{l:List ByteArray}{cap:Option Nat}(h:1<=l.length)(hc:cap=Y):fW 1 (.imm (strs l) l.length cap) (Z 1) Y Y=Z (.imm (strs (l.drop 1)) (l.drop 1).length Y):=by
 subst hc;have a1:ii l.length l.length=J:=Sp;have a2:ii 1 l.length=J:=Sa;have a3:((strs l).drop (1*1)).take ((l.length-1)*1)=strs (l.drop 1):=by
  grind [strs,List.map_drop,A5]
 simp only[fW,sliceB,Ae,jt,a1,a2,Be,Bool.true_or,ja,cond_true,a3,List.length_drop]
theorem Nm(l:List ByteArray):∀v∈strs l,aj v:=λv hv=>by
 obtain⟨b,_,rfl⟩:=List.mem_map.1 hv;exact U181
end Go.AM
namespace Go.AM
variable {E:Env}{s:St}{K:St->Prop}
def b6(E:Env)(ops:List DOp)(done:List ck)(s:St)(K:St->Prop):Prop:=∃s',Ev (λn=>ke E (bY E (exec E n)) ops done s=Z s')/\K s'
theorem xH{done:List ck}(h:K s):b6 E [] done s K:=⟨s,Ev.of λ_=>rfl,h⟩
theorem Xv{ops:List DOp}{Q:Ex->St->Prop}(h:b6 E ops [] s (Q .normal))(hn:cJ ops=Y:=by rfl):Run E (.draw ops) s Q:=by
 obtain⟨s',x,y⟩:=h;exact⟨_,_,(x.mono λn p=>by grind [exec,gS,Bv]:Ev λn=>exec E (n+1) (.draw ops) s=Z (.normal,s')).step,y⟩
theorem Bt{ops pre suf:List DOp}{Q:Ex->St->Prop}(hl:cJ ops=Z (pre,suf))(h:b6 E pre [] s λs1=>wpOps E (suf.map (·.o)) s1 (Q .normal)):Run E (.draw ops) s Q:=by
 obtain⟨s',x,y⟩:=h;obtain⟨s2,x2,y2⟩:=vU _ _ _ y;exact⟨_,_,((x.and x2).mono λn ⟨p,q⟩=>by grind [exec,gS,Bv]:Ev λn=>exec E (n+1) (.draw ops) s=Z (.normal,s2)).step,y2⟩
theorem aNC{ops pre:List DOp}{d:DOp}{Q:Ex->St->Prop}(hl:cJ ops=Z (pre,[d]))(h:b6 E pre [] s λs1=>wpOps E [d.o] s1 (Q .normal)):Run E (.draw ops) s Q:=Bt hl h
def rN(r:ck):Prop:=r.D=[]/\r.lo=r.hi
theorem Yk{r:ck}(h:rN r)(l:List Nat):eT r l=U:=by
 obtain⟨F,D,lo,hi⟩:=r;obtain⟨h1,h2⟩:=h;simp only at h1 h2;subst h1;subst h2;unfold eT;rw[List.any_eq_false];intro x _;have:(ii lo x&&ir x lo)=U:=by
  cases a:ii lo x with
  |false=>rfl
  |true=>
   cases b:ir x lo with
   |false=>rfl
   |true=>
    have h1:=j6 a;have h2:x<lo:=Sa;omega
 simp[b9]
theorem Hv{done:List ck}{b:ck}(hq:∀x∈done,rN x)(hb:rN b):∀{l:List Nat},(∀i∈l,i<done.length)->fk done b l=J
 | [],_=>rfl
 |i::r,h=>by
  have hi:=h i ip;have ha:rN done[i]:=Gr;simp[fk,List.getElem?_eq_getElem hi,eS,Yk ha,hb.1];exact Hv hq hb λj hj=>h j (iy _ hj)
theorem Cv{d:DOp}{r:List DOp}{done:List ck}{v:AV}{l:List Nat}(hq:∀x∈done,rN x)(hf:∀i∈d.free,i<done.length)
  (hs:Ev λn=>bC E (bY E (exec E n)) d (dv done d.free) s=Z (v,⟨l,[],s.h.next,s.h.next⟩,s.h))
  (k:b6 E r (done++[⟨l,[],s.h.next,s.h.next⟩]) (s.put d.o.dst v) K):b6 E (d::r) done s K:=by
 obtain⟨s',x,y⟩:=k;refine⟨s',(hs.and x).mono λn ⟨a,b⟩=>?_,y⟩;have hfree:fk done ⟨l,[],s.h.next,s.h.next⟩ d.free=J:=Hv hq ⟨rfl,rfl⟩ hf;exact U100
theorem yK{h:AH}{l:List Nat}:dw h [] (aJ h l)=h:=by
 simp[dw,aJ,cx,eD]
def seen(s:St)(reads l:List Nat):St:={tm:=aK s.tm reads,h:=aJ s.h l,defers:=[],round:=s.round}
theorem vf{α:Type}:∀{t:Tr α} {x:α},x∈t.ag->∃k,t.get k=Z x
 |.nil,x,h=>by grind [Tr.ag]
 |.nd l v r,x,h=>by
  simp[Tr.ag] at h;rcases h with h|h|h
  ·cases v with
   |none=>cases h
   |some y=>
    rw[List.mem_singleton.1 h];exact⟨0,rfl⟩
  ·obtain⟨k,hk⟩:=vf h;refine⟨2*k+1,?_⟩;have h1:ig (2*k+1) 0=U:=rfl;have h2:(2*k+1)%2=1:=om;have h3:(2*k+1)/2=k:=om
   simp_all [Tr.get]
  ·obtain⟨k,hk⟩:=vf h;refine⟨2*k+2,?_⟩;have h1:ig (2*k+2) 0=U:=rfl;have h2:(2*k+2)%2=0:=om;have h3:(2*k+2)/2-1=k:=om;have h4:ig 0 1=U:=rfl
   simp_all [Tr.get]
theorem aAD:∀{l:List AV},(∀x∈l,ids x=[])->aQ l=[]
 | [],_=>rfl
 |a::r,h=>by
  simp[aQ,h a ip];exact aAD λx hx=>h x (iy _ hx)
end Go.AM
namespace Go.AM
variable {E:Env}{s:St}{K:St->Prop}{r:List DOp}{done:List ck}
theorem bHL{l F:List Nat}{t:Nat}(h:t∈l):(seen s l F).tm.get t=s.tm.get t:=by
 simp_all [seen,sD]
theorem Ry{h:AH}{b:Nat}:(aJ h [b]).get b=h.get b:=by
 simp[aJ,gL,AH.get,Tr.aO]
end Go.AM
namespace Go.AM
variable {E:Env}{s:St}{K:St->Prop}
def lN(h:AH)(v:AV):Bool:=(ids v).all λb=>ir b h.next&&match h.get b with
 |some (.cells cs _)=>below h.next (aQ cs)
 |_=>U
def bp(h:AH):Option AV->Bool
 |some v=>lN h v
 |none=>J
def dG:Option AV->Bool
 |some v=>(ids v).isEmpty
 |none=>J
def dH(l:List Nat):Opd->Bool
 |.t i=>b9 l i
 |.c v=>(ids v).isEmpty
def optIn(l:List Nat):Option Opd->Bool
 |none=>J
 |some x=>dH l x
def bU(l:List Nat):AOp->Bool
 |.mv x|.cE x|.un _ x|.conv _ x|.bP x|.fieldAddr _ x|.extract _ x|.fI x|.b7 x=>dH l x
 |.load _ (.t i)=>b9 l i
 |.pick a b c=>dH l a&&dH l b&&dH l c
 |.bin _ _ _ x y|.bT _ x y|.bj x y=>dH l x&&dH l y
 |.build _ ps=>ps.all λp=>dH l p.2.2
 |.dE _ x a b c=>dH l x&&optIn l a&&optIn l b&&optIn l c
 |_=>U
def fF(l:List Nat):Option (Nat×Bool)->Bool
 |none=>J
 |some (i,_)=>b9 l i
def calmD(d:DOp):Bool:=fF d.reads d.o.guard&&match d.o.op with
 |.call _ l=>l.all (dH d.reads)
 |op=>bU d.reads op
def ff:Nat->List DOp->Bool
 |_,[]=>J
 |i,d::r=>d.free.all (λj=>ir j i)&&calmD d&&ff (i+1) r
def iC(E:Env):List DOp->St->(St->Prop)->Prop
 | [],s,K=>K s
 |⟨⟨dst,g,op⟩,rd,_⟩::r,s,K=>(rd.all λt=>bp s.h (s.eval (.t t)))=J/\dY s g
   (match op with
   |.call f l=>(rd.all λt=>dG (s.eval (.t t)))=J/\bB (aT s l) λl=>∃v,(∀h,aE E (.f f) l h v h)/\iC E r (s.put dst v) K
   |op=>wpOps E [⟨dst,Y,op⟩] s λs'=>iC E r s' K)
   (iC E r (s.put dst bJ) K)
theorem sM:∀{l:List Nat} {i:Nat},b9 l i=J->i∈l
 |a::r,i,h=>by
  simp_all [b9]
theorem seen_eval{l F:List Nat}{x:Opd}(h:dH l x=J):(seen s l F).eval x=s.eval x:=by
 cases x with
 |c v=>rfl
 |t i=>exact bHL (sM h)
theorem Hk{l F:List Nat}{x:Option Opd}(h:optIn l x=J):cm (seen s l F) x=cm s x:=by
 cases x with
 |none=>rfl
 |some x=>simp only[cm,seen_eval h]
theorem yj{l F:List Nat}:∀{xs:List Opd},xs.all (dH l)=J->aT (seen s l F) xs=aT s xs
 | [],_=>rfl
 |x::r,h=>by
  rw[j9,im] at h;simp only[aT,seen_eval h.1,yj h.2]
theorem vX{l F:List Nat}:∀{ps:List (Nat×Nat×Opd)} {z:List AV},(ps.all λp=>dH l p.2.2)=J->fill (seen s l F) z ps=fill s z ps
 | [],_,_=>rfl
 |(a,b,x)::r,z,h=>by
  simp only[j9,im] at h;simp[fill,seen_eval h.1];cases s.eval x with
  |none=>rfl
  |some v=>
   simp only;cases v.cells with
   |none=>rfl
   |some c=>
    simp only;cases (ig c.length b&&ii (a+b) z.length) with
    |false=>rfl
    |true=>exact vX h.2
theorem Xs{l F:List Nat}{g:Option (Nat×Bool)}(h:fF l g=J):aw (seen s l F) g=aw s g:=by
 cases g with
 |none=>rfl
 |some p=>
  obtain⟨i,b⟩:=p;have:=bHL (s:=s) (F:=F) (sM h)
  grind [aw]
theorem vG{α:Type}{x:α}:∀{t:Tr α} {k:Nat},t.get k=Z x->x∈t.ag
 |.nil,k,h=>by cases h
 |.nd l v r,k,h=>by
  simp[Tr.ag];simp[Tr.get] at h;cases hb:ig k 0 with
  |true=>
   grind
  |false=>
   rw[hb] at h;simp at h;cases hc:ig (k%2) 1 with
   |true=>
    rw[hc] at h;exact .inr (.inl (vG h))
   |false=>
    rw[hc] at h;exact .inr (.inr (vG h))
theorem xX{l:List AV}{v:AV}(h:v∈l):∀b∈ids v,b∈aQ l:=by
 induction l with
 |nil=>cases h
 |cons a r ih=>
  intro b hb;simp[aQ]
  grind
theorem Th{l:List AV}{b:Nat}(h:b∈aQ l):∃v∈l,b∈ids v:=by
 induction l<;>grind [aQ]
theorem mi{h:AH}{b:Nat}:∀{l:List Nat},b∈l->(aJ h l).get b=h.get b
 |a::r,hb=>by
  simp[aJ,gL,AH.get,Tr.aO]
  by_cases e:b=a
  ·grind
  ·rw[if_neg e];exact mi (h:=h) (List.mem_of_ne_of_mem e hb)
def dF:AOp->Bool
 |.load .. |.bP _|.fI _|.b7 _|.conv .. |.bj .. |.dE .. =>J
 |_=>U
def bf(op:AOp)(vs:List Nat):List Nat:=bif dF op then vs else []
theorem aPF{l vs:List Nat}{op:AOp}{s':St}(h:bU l op=J):jL s' vs op=bf op vs:=U0
theorem Xa{l:List Nat}{op:AOp}{s':St}(h:bU l op=J):cZ s' op=[]:=U0
theorem Dg{l:List Nat}{op:AOp}(h:bU l op=J):dm op=U:=by
 cases op<;>first|rfl|grind [bU]
theorem aGY{l:List Nat}{i:Nat}{v:AV}{G:Nat->Option (List AV)}(hi:i∈l)(hv:s.eval (.t i)=Z v):bI G (aJ s.h (aQ (aK s.tm l).ag)) v=bI G s.h v:=by
 have hp:(aK s.tm l).get i=Z v:=by rw[sD,if_pos hi];exact hv
 have hm:v∈(aK s.tm l).ag:=vG hp;cases v with
 |ptr b off=>
  grind [xX,ids,bI,mi]
 |val x=>
  cases x with
  |pointer p=>
   cases p with
   |none=>rfl
   |some a=>
    obtain⟨g,o,sp⟩:=a;cases sp<;>rfl
  |_=>rfl
 |_=>rfl
theorem aGU{l:List Nat}{x:Opd}{v:AV}{es:Nat}(hi:dH l x=J)(hv:s.eval x=Z v):au (aJ s.h (aQ (aK s.tm l).ag)) es v=au s.h es v:=by
 cases v with
 |own b off n es' cap=>
  have:b∈aQ (aK s.tm l).ag:=by
   cases x with
   |c w=>
    cases hv
    grind [dH,ids]
   |t i=>
    have hp:(aK s.tm l).get i=Z (.own b off n es' cap):=by rw[sD,if_pos (sM hi)];exact hv
    exact xX (vG hp) b (by grind [ids])
  grind [au,mi]
 |val x=>
  exact U101
 |_=>rfl
theorem aDD{l:List Nat}{x:Opd}{v:AV}{es:Nat}{lo hi mx:Option Nat}(hi':dH l x=J)(hv:s.eval x=Z v):fv (aJ s.h (aQ (aK s.tm l).ag)) es v lo hi mx=fv s.h es v lo hi mx:=by
 cases v with
 |own b off n es' cap=>
  have:b∈aQ (aK s.tm l).ag:=by
   cases x with
   |c w=>
    cases hv
    grind [dH,ids]
   |t i=>
    have hp:(aK s.tm l).get i=Z (.own b off n es' cap):=by rw[sD,if_pos (sM hi')];exact hv
    exact xX (vG hp) b (by grind [ids])
  cases cap with
  |some c=>rfl
  |none=>
   cases hi with
   |none=>rfl
   |some k=>
    cases mx<;>grind [fv,mi]
 |_=>rfl
def nY(E:Env):AV->Option AV
 |.val (.pointer Y)|.val .nilIface|.val .nilFunc|.val (.func ..)=>Y
 |.fn (.method name) (.ifc t v::a) b=>match E.iG t name with
  |some _=>Z (.fn (.method name) (.ifc t v::a) b)
  |none=>Y
 |.fn (.method _) _ _=>Y
 |.yld _=>Y
 |v=>Z v
theorem Zg{x:Opd}{call:Cle->List AV->AH->Option (AV×AH)}:aL E call s (.cE x)=(s.eval x).bind λv=>(nY E v).map λw=>(w,s):=by
 grind [aL,nY]
def strB(h:AH):AV->Option AV
 |.val (.slice Y 0 0)=>Z (.val (.string ⟨#[]⟩))
 |.val _=>Y
 |v=>match au h 1 v with
  |some (cs,_)=>(bytesOf cs).map λb=>.val (.string b)
  |none=>Y
theorem aHM{x:Opd}{call:Cle->List AV->AH->Option (AV×AH)}:aL E call s (.bP x)=(s.eval x).bind λv=>(strB s.h v).map λw=>(w,s):=by
 have key:∀v:AV,(match au s.h 1 v with|some (cs,_)=>(bytesOf cs).bind λb=>Z ((.val (.string b):AV),s)|none=>Y)=(match au s.h 1 v with|some (cs,_)=>(bytesOf cs).map λb=>(.val (.string b):AV)|none=>Y).map λw=>(w,s):=by
  intro v;cases au s.h 1 v with
  |none=>rfl
  |some p=>
   obtain⟨cs,n⟩:=p;simp only;cases bytesOf cs<;>rfl
 simp[aL];cases s.eval x with
 |none=>rfl
 |some v=>
  simp;have k:=key v;cases v with
  |val y=>
   cases y with
   |slice p a b=>
    cases p with
    |some p=>rfl
    |none=>cases a<;>cases b<;>rfl
   |_=>rfl
  |_=>exact k
theorem xL{l:List Nat}{op:AOp}{v:AV}{s1:St}(hc:bU l op=J)(h:aL E cQ s op=Z (v,s1)):
  s1=s/\aL E cQ (seen s l (bf op (aQ (aK s.tm l).ag))) op=Z (v,seen s l (bf op (aQ (aK s.tm l).ag))):=by
 cases op with
 |mv x=>
  simp only[bU] at hc;simp[aL,seen_eval hc] at h⊢
  cases he:s.eval x<;>grind
 |pick a b c=>
  simp[bU] at hc;simp[aL,seen_eval hc.1.1,seen_eval hc.1.2,seen_eval hc.2] at h⊢
  split at h
  ·cases he:s.eval b<;>grind
  ·cases he:s.eval c<;>grind
  ·cases h
 |build z ps=>
  simp only[bU] at hc;simp[aL,vX hc] at h⊢
  cases he:fill s z ps<;>grind
 |load n x=>
  cases x with
  |c w=>grind [bU]
  |t i=>
   simp only[bU] at hc;have hev:(seen s l (bf (.load n (.t i)) (aQ (aK s.tm l).ag))).eval (.t i)=s.eval (.t i):=seen_eval hc;simp[aL,hev] at h⊢
   cases he:s.eval (.t i) with
   |none=>grind
   |some w=>
    rw[he] at h;have hcs:bI E.aY (seen s l (bf (.load n (.t i)) (aQ (aK s.tm l).ag))).h w=bI E.aY s.h w:=aGY (sM hc) he;simp[hcs];simp only at h;cases hx:(bI E.aY s.h w).bind (takeN n)<;>grind
 |cE x=>
  simp only[bU] at hc;simp[Zg,seen_eval hc] at h⊢
  cases he:s.eval x with
  |none=>grind
  |some w=>
   rw[he] at h;rw[jn] at h⊢
   cases hn:nY E w<;>grind
 |bin op t g x y=>
  simp[bU] at hc;simp[aL,seen_eval hc.1,seen_eval hc.2] at h⊢
  split at h
  ·rename_i a b ha hb;cases he:dM E.P op t g a b<;>grind
  ·cases h
 |un op x=>
  simp only[bU] at hc;simp[aL,seen_eval hc] at h⊢
  split at h
  ·rename_i a ha;cases he:(bK E.P (Op.unary op a)).bind ew<;>grind
  ·cases h
 |conv k x=>
  simp only[bU] at hc;have hev:(seen s l (bf (.conv k x) (aQ (aK s.tm l).ag))).eval x=s.eval x:=seen_eval hc;simp[aL,hev] at h⊢
  split at h<;>grind
 |bP x=>
  simp only[bU] at hc;have hev:(seen s l (bf (.bP x) (aQ (aK s.tm l).ag))).eval x=s.eval x:=seen_eval hc;simp[aHM,hev] at h⊢
  cases he:s.eval x with
  |none=>grind
  |some w=>
   rw[he] at h;have hcs:strB (seen s l (bf (.bP x) (aQ (aK s.tm l).ag))).h w=strB s.h w:=by
    have:=aGU (es:=1) hc he;unfold strB;split<;>first|rfl|skip
    have e2:au (seen s l (bf (.bP x) (aQ (aK s.tm l).ag))).h 1 w=au s.h 1 w:=this;rw[e2]
   simp only[jn,hcs] at h⊢
   cases hn:strB s.h w<;>grind
 |dE es x lo hi mx=>
  simp[bU] at hc;have h1:(seen s l (bf (.dE es x lo hi mx) (aQ (aK s.tm l).ag))).eval x=s.eval x:=seen_eval hc.1.1.1;have h2:cm (seen s l (bf (.dE es x lo hi mx) (aQ (aK s.tm l).ag))) lo=cm s lo:=Hk hc.1.1.2;have h3:cm (seen s l (bf (.dE es x lo hi mx) (aQ (aK s.tm l).ag))) hi=cm s hi:=Hk hc.1.2;have h4:cm (seen s l (bf (.dE es x lo hi mx) (aQ (aK s.tm l).ag))) mx=cm s mx:=Hk hc.2;simp[aL, *] at h⊢
  split at h
  ·rename_i w a b c e1 e2 e3 e4;have hw:fv (seen s l (bf (.dE es x lo hi mx) (aQ (aK s.tm l).ag))).h es w a b c=fv s.h es w a b c:=aDD hc.1.1.1 e1;cases he:(fW es w a b c).or (fv s.h es w a b c)<;>grind
  ·cases h
 |fieldAddr off x=>
  simp only[bU] at hc;simp[aL,seen_eval hc] at h⊢
  split at h<;>grind
 |bT es x i=>
  simp[bU] at hc;simp[aL,seen_eval hc.1,seen_eval hc.2] at h⊢
  split at h<;>grind
 |bj x i=>
  simp[bU] at hc;have h1:(seen s l (bf (.bj x i) (aQ (aK s.tm l).ag))).eval x=s.eval x:=seen_eval hc.1;have h2:(seen s l (bf (.bj x i) (aQ (aK s.tm l).ag))).eval i=s.eval i:=seen_eval hc.2;simp only[aL, *] at h⊢
  split at h
  ·rename_i b j he hj;cases hb:b.data.toList[j]? <;>grind
  ·cases h
 |extract i x=>
  simp only[bU] at hc;simp[aL,seen_eval hc] at h⊢
  split at h
  ·rename_i vs he;cases hb:vs[i]? <;>grind
  ·cases h
 |fI x=>
  grind [bU,seen_eval,aL]
 |b7 x=>
  simp only[bU] at hc;have h1:(seen s l (bf (.b7 x) (aQ (aK s.tm l).ag))).eval x=s.eval x:=seen_eval hc;simp[aL,h1] at h⊢
  split at h<;>grind
 |_=>simp only[bU,Bool.false_eq_true] at hc
theorem aTU{h:AH}{l:List Nat}{tm:Tr AV}(hn:(l.all λt=>bp h (tm.get t))=J):below h.next (aQ (aK tm l).ag)=J/\fG h (aQ (aK tm l).ag)=J:=by
 have key:∀b∈aQ (aK tm l).ag,ir b h.next=J/\∃cs rw,h.get b=Z (.cells cs rw)/\below h.next (aQ cs)=J:=by
  intro b hb;obtain⟨v,hv,hbv⟩:=Th hb;obtain⟨k,hk⟩:=vf hv;rw[sD] at hk;split at hk
  ·rename_i hkl;have:=j3.1 hn k hkl;rw[hk] at this;have:=j3.1 this b hbv
   grind
  grind
 constructor
 ·exact j3.2 λb hb=>(key b hb).1
 ·refine j3.2 λb hb=>?_
  grind [hE]
theorem Nw{l:List Nat}{tm:Tr AV}(hn:(l.all λt=>dG (tm.get t))=J):aQ (aK tm l).ag=[]:=by
 refine aAD λv hv=>?_
 obtain⟨k,hk⟩:=vf hv;rw[sD] at hk;split at hk
 ·rename_i hkl;have:=j3.1 hn k hkl;rw[hk] at this;exact List.isEmpty_iff.1 this
 grind
theorem Cx{d:DOp}{near:List Nat}{v:AV}(hc:bU d.reads d.o.op=J)(hg:fF d.reads d.o.guard=J)(hw:aw s d.o.guard=Z J)
  (hn:(d.reads.all λt=>bp s.h (s.tm.get t))=J) (ho:aL E cQ s d.o.op=Z (v,s)):
  Ev λn=>bC E (bY E (exec E n)) d near s=Z (v,⟨bf d.o.op (aQ (aK s.tm d.reads).ag),[],s.h.next,s.h.next⟩,s.h):=by
 refine Ev.of λn=>?_
 obtain⟨n1,n2⟩:=aTU hn;exact U152
theorem Qr{d:DOp}{near:List Nat}{v:AV}{f:Nat}{xs:List Opd}{l:List AV}(hop:d.o.op=.call f xs)(hx:xs.all (dH d.reads)=J)(hg:fF d.reads d.o.guard=J)(hw:aw s d.o.guard=Z J)
  (hn:(d.reads.all λt=>dG (s.tm.get t))=J) (he:aT s xs=Z l) (hr:∀h,aE E (.f f) l h v h):
  Ev λn=>bC E (bY E (exec E n)) d near s=Z (v,⟨[],[],s.h.next,s.h.next⟩,s.h):=by
 have hv:=Nw hn;refine(hr (aJ s.h [])).mono λn p=>?_
 have hw':aw {tm:=aK s.tm d.reads,h:=s.h,defers:=[],round:=s.round} d.o.guard=Z J:=by
  exact U102
 have he':aT {tm:=aK s.tm d.reads,h:=aJ s.h [],defers:=[],round:=s.round} xs=Z l:=by
  rw[<-he];exact yj (s:=s) (F:=[]) hx
 have hb:ii s.h.next s.h.next=J:=Sp;have hm:=yK (h:=s.h) (l:=[]);have hfo:jL {tm:=aK s.tm d.reads,h:=s.h,defers:=[],round:=s.round} [] (.call f xs)=[]:=rfl;simp only[bC,below,fG,List.all_nil,ja,cond_true,aL,jn,dm,List.filter_nil,List.isEmpty_nil, *];simp only[aJ,hb,ja,cond_true]
theorem Bs{d:DOp}{near:List Nat}(hg:fF d.reads d.o.guard=J)(hw:aw s d.o.guard=Z U):
  Ev λn=>bC E (bY E (exec E n)) d near s=Z (bJ,⟨[],[],s.h.next,s.h.next⟩,s.h):=by
 refine Ev.of λn=>?_
 have hw':aw {tm:=aK s.tm d.reads,h:=s.h,defers:=[],round:=s.round} d.o.guard=Z U:=by
  exact U102
 grind [bC]
theorem Cy:∀(ops:List DOp) (done:List ck) (s:St),ff done.length ops=J->(∀x∈done,rN x)->iC E ops s K->b6 E ops done s K
 | [],done,s,_,_,h=>xH h
 |⟨⟨dst,g,op⟩,rd,fr⟩::r,done,s,hc,hq,h=>by
  simp only[ff,im] at hc;obtain⟨⟨hfr,hcd⟩,hcr⟩:=hc;have hf:=U182;have nx:∀(rec:ck) (s':St),rN rec->iC E r s' K->b6 E r (done++[rec]) s' K:=λrec s' hqr hw=>
   Cy r (done++[rec]) s' Gr (λx hx=>by
    grind) hw
  simp only[iC] at h;obtain⟨hnice,h⟩:=h;simp[calmD] at hcd;obtain⟨hg,hop⟩:=hcd;rw[dY] at h;cases hw:aw s g with
  |none=>rw[hw] at h;exact h.elim
  |some b=>
   rw[hw] at h;rw[lB] at h;cases b with
   |false=>exact Cv (d:=⟨⟨dst,g,op⟩,rd,fr⟩) hq hf (Bs hg hw) (nx _ _ ⟨rfl,rfl⟩ (h.2 rfl))
   |true=>
    have h1:=h.1 rfl;clear h;split at h1
    ·rename_i f xs;obtain⟨hp,h1⟩:=h1;cases he:aT s xs with
     |none=>rw[he] at h1;exact h1.elim
     |some l=>
      rw[he] at h1;obtain⟨v,hr,hk⟩:=h1;exact Cv (d:=⟨⟨dst,g,.call f xs⟩,rd,fr⟩) hq hf (Qr rfl hop hg hw hp he hr) (nx _ _ ⟨rfl,rfl⟩ hk)
    ·rename_i hne;have hop':bU rd op=J:=by
      grind
     have hwo:wpOp E op s=λK=>bB (aL E cQ s op) λ(v,s')=>K v s':=by
      funext K
      cases op<;>first|rfl|grind [bU]
     simp only[wpOps,aw,lB,forall_const,hwo] at h1;have h1:=h1.1;cases hr:aL E cQ s op with
     |none=>rw[hr] at h1;exact h1.elim
     |some vs=>
      obtain⟨v,s1⟩:=vs;rw[hr] at h1;have hs:=(xL hop' hr).1;subst hs;exact Cv (d:=⟨⟨dst,g,op⟩,rd,fr⟩) hq hf (Cx (d:=⟨⟨dst,g,op⟩,rd,fr⟩) hop' hg hw hnice hr) (nx _ _ ⟨rfl,rfl⟩ h1)
theorem Gy{α:Type}{o:Option α}{K K':α->Prop}(h:bB o K)(k:∀a,K a->K' a):bB o K':=by
 cases o with
 |none=>exact h
 |some a=>exact k a h
theorem aMM{op:AOp}{K K':AV->St->Prop}(k:∀v s,K v s->K' v s)(h:wpOp E op s K):wpOp E op s K':=by
 have ct:∀(c:Cle) (l:List AV),fu E c l s.h (λv h=>K v (s.toH h))->fu E c l s.h λv h=>K' v (s.toH h):=λc l ⟨v,h',x,y⟩=>⟨v,h',x,k _ _ y⟩;cases op<;>grind [wpOp,Gy]
theorem uI{K K':St->Prop}(k:∀s,K s->K' s):∀(l:List aW) (s:St),wpOps E l s K->wpOps E l s K'
 | [],s,h=>k s h
 |o::r,s,h=>by
  simp[wpOps] at h⊢
  exact Gy h λg q=>⟨λe=>aMM (λv s' z=>uI k r _ z) (q.1 e),λe=>uI k r _ (q.2 e)⟩
theorem zJ{g:Option (Nat×Bool)}{A B A' B':Prop}(h:dY s g A B)(ha:A->A')(hb:B->B'):dY s g A' B':=by
 unfold dY at h⊢
 cases hw:aw s g with
 |none=>rw[hw] at h;exact h.elim
 |some b=>
  grind [lB]
theorem wX{suf:List DOp}:∀(pre:List DOp) (s:St),ff 0 (pre++suf)=J\/True->iC E (pre++suf) s K->iC E pre s (λs1=>iC E suf s1 K)
 | [],s,_,h=>h
 |⟨⟨dst,g,op⟩,rd,fr⟩::r,s,_,h=>by
  simp only[jj,iC] at h⊢
  refine⟨h.1,zJ h.2 (λh1=>?_) (λh1=>wX r _ (.inr trivial) h1)⟩;split at h1
  ·rename_i f l _;refine⟨h1.1,?_⟩;have h2:=h1.2;cases he:aT s l with
   |none=>rw[he] at h2;exact h2.elim
   |some l'=>
    rw[he] at h2;simp[lB] at h2⊢
    obtain⟨v,hr,hk⟩:=h2;exact⟨v,hr,wX r _ (.inr trivial) hk⟩
  ·exact uI (λs1 q=>wX r _ (.inr trivial) q) _ _ h1
theorem yT{suf:List DOp}:∀(pre:List DOp) (n:Nat),ff n (pre++suf)=J->ff n pre=J
 | [],n,_=>rfl
 |x::r,n,h=>by
  simp only[jj,ff,im] at h⊢
  exact⟨h.1,yT r (n+1) h.2⟩
theorem aIG{d:DOp}(h:iC E [d] s K):wpOps E [d.o] s K:=by
 obtain⟨⟨dst,g,op⟩,rd,fr⟩:=d;simp only[iC] at h;have h:=h.2;unfold dY at h;simp[wpOps];cases hw:aw s g with
 |none=>rw[hw] at h;exact h.elim
 |some b=>
  rw[hw] at h;simp only[lB] at h⊢
  refine⟨λe=>?_,λe=>h.2 e⟩;have h1:=h.1 e;split at h1
  ·rename_i f l _;have h2:=h1.2;simp[wpOp];cases he:aT s l with
   |none=>rw[he] at h2;exact h2.elim
   |some l'=>
    rw[he] at h2;simp[lB] at h2⊢
    obtain⟨v,hr,hk⟩:=h2;exact⟨v,s.h,hr s.h,hk⟩
  simp_all [wpOps,aw,lB]
theorem Zo{K:St->Prop}:∀(suf:List DOp) (s:St),iC E suf s K->wpOps E (suf.map (·.o)) s K
 | [],s,h=>h
 |d::r,s,h=>by
  have h1:iC E [d] s (λs1=>iC E r s1 K):=by simp_all [wX]
  have h2:=uI (λs1 q=>Zo r s1 q) _ _ (aIG h1);exact h2
theorem yo{ops:List DOp}{Q:Ex->St->Prop}(hc:ff 0 ops=J)(h:iC E ops s (Q .normal)):Run E (.draw ops) s Q:=by
 cases hl:cJ ops with
 |none=>grind [Xv,Cy]
 |some pd=>
  obtain⟨pre,suf⟩:=pd;obtain⟨e,_⟩:=vK hl;subst e;obtain⟨s',x,y⟩:=Cy (E:=E) pre [] s (yT pre 0 hc) (λx hx=>by cases hx) (wX pre s (.inr trivial) h)
  exact Bt hl ⟨s',x,Zo suf s' y⟩
end Go.AM
namespace Go.AM
abbrev vI(n:Int):AV:=.val (.int .i64 n)
abbrev Vb(b:Bool):AV:=.val (.bool b)
abbrev vS(x:ByteArray):AV:=.val (.string x)
end Go.AM
