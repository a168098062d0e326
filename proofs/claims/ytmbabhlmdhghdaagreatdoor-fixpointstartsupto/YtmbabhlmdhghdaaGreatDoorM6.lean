/- XAmI -/
import Derived.Test.YtmbabhlmdhghdaaGreatDoorM5
set_option linter.all false
open Option renaming some->Z, none->Y
open Bool renaming true->J, false->U
namespace Go.AM
open Go
structure BoxO where
 f:Env->(Cle->List AV->AH->Option (AV×AH))->St->Option (AV×St)
def opBox(op:AOp):BoxO:=match op with
 |.mv x=>⟨λE call s=>r_mv s x⟩
 |.pick c a b=>⟨λE call s=>r_pick s c a b⟩
 |.alloc z=>⟨λE call s=>r_alloc s z⟩
 |.box x=>⟨λE call s=>r_box s x⟩
 |.build z parts=>⟨λE call s=>r_build s z parts⟩
 |.buildSlice es n z parts=>⟨λE call s=>mP s es n z parts⟩
 |.load n x=>⟨λE call s=>r_load E s n x⟩
 |.store n a x=>⟨λE call s=>r_store s n a x⟩
 |.cE x=>⟨λE call s=>r_nilck E s x⟩
 |.bin op t g x y=>⟨λE call s=>r_bin E s op t g x y⟩
 |.un op x=>⟨λE call s=>r_un E s op x⟩
 |.conv k x=>⟨λE call s=>r_conv s k x⟩
 |.bP x=>⟨λE call s=>mX s x⟩
 |.gZ x=>⟨λE call s=>mn s x⟩
 |.qx x=>⟨λE call s=>r_convId s x⟩
 |.mR x=>⟨λE call s=>r_convStr s x⟩
 |.jK t x=>⟨λE call s=>r_mkIface s t x⟩
 |.fy fn a b=>⟨λE call s=>r_mkFunc s fn a b⟩
 |.rI=>⟨λE call s=>r_mkMap s⟩
 |.cP es bytes z l c=>⟨λE call s=>r_mkSlice s es bytes z l c⟩
 |.dE es x lo hi mx=>⟨λE call s=>r_sliceS s es x lo hi mx⟩
 |.nu es len x lo hi=>⟨λE call s=>r_sliceA s es len x lo hi⟩
 |.fC x lo hi=>⟨λE call s=>qV s x lo hi⟩
 |.fieldAddr off x=>⟨λE call s=>kW s off x⟩
 |.field off n x=>⟨λE call s=>r_field s off n x⟩
 |.bT es x i=>⟨λE call s=>lZ s es x i⟩
 |.kX len es x i=>⟨λE call s=>qN s len es x i⟩
 |.idxA len es n x i=>⟨λE call s=>r_idxA s len es n x i⟩
 |.bj x i=>⟨λE call s=>r_idxStr s x i⟩
 |.lookup d z x k ok=>⟨λE call s=>r_lookup s d z x k ok⟩
 |.jO d m k x=>⟨λE call s=>r_mapUpd s d m k x⟩
 |.kR d m k=>⟨λE call s=>r_mapDel s d m k⟩
 |.mS x=>⟨λE call s=>qT s x⟩
 |.kn x=>⟨λE call s=>r_nextStr s x⟩
 |.rangeMap x=>⟨λE call s=>qI s x⟩
 |.gv x=>⟨λE call s=>r_nextMap s x⟩
 |.lY x=>⟨λE call s=>r_curMap s x⟩
 |.kg t z ok x=>⟨λE call s=>r_tassert s t z ok x⟩
 |.extract i x=>⟨λE call s=>nK s i x⟩
 |.call f args=>⟨λE call s=>r_call call s f args⟩
 |.dR x args=>⟨λE call s=>r_callv E call s x args⟩
 |.invoke x name args=>⟨λE call s=>r_invoke E call s x name args⟩
 |.append es bytes sl x=>⟨λE call s=>r_append s es bytes sl x⟩
 |.copy es d x=>⟨λE call s=>r_copy s es d x⟩
 |.fI x=>⟨λE call s=>r_lenS s x⟩
 |.b7 x=>⟨λE call s=>pT s x⟩
 |.qj x=>⟨λE call s=>r_lenMap s x⟩
 |.lenK n=>⟨λE call s=>r_lenK s n⟩
 |.capS x=>⟨λE call s=>r_capS s x⟩
 |.minI args=>⟨λE call s=>r_minI s args⟩
 |.maxI args=>⟨λE call s=>r_maxI s args⟩
 |.lS es z x=>⟨λE call s=>r_clearS s es z x⟩
 |.recover=>⟨λE call s=>r_recover s⟩
 |.defer x args=>⟨λE call s=>r_defer call s x args⟩
 |.fO e x n=>⟨λE call s=>oF s e x n⟩
 |.gK x=>⟨λE call s=>oK s x⟩
 |.lT z t=>⟨λE call s=>r_allocT s z t⟩
 |.qE t x=>⟨λE call s=>r_bconv E s t x⟩
 |.qp f x=>⟨λE call s=>r_callx E s f x⟩
 |.appT e sl x=>⟨λE call s=>r_appT s e sl x⟩
 |.bad u0=>⟨λE call s=>r_bad s u0⟩
theorem Zb(E:Env)(call:Cle->List AV->AH->Option (AV×AH))(s:St)(op:AOp):(opBox op).f E call s=runOpF E call s op:=by
 cases op<;>rfl
structure BoxF where
 f:St->List Nat->List Nat
 t:St->List Nat
 c:Bool
 m:Bool
def gW(op:AOp):BoxF:=match op with
 |.store _ a _=>⟨λs _=>kL s a,λs=>kL s a,U,U⟩
 |.jO _ m _ _=>⟨λs _=>kL s m,λs=>kL s m,U,U⟩
 |.mv _|.pick .. |.bin .. |.un .. |.fieldAddr .. |.bT .. |.extract .. =>⟨λ_ _=>[],λ_=>[],U,J⟩
 |.load .. |.fI .. |.b7 .. =>⟨λ_ vs=>vs,λ_=>[],U,J⟩
 |.alloc _|.box _|.build .. |.buildSlice .. |.jK .. |.fy .. |.rI|.cP .. |.field .. |.cE _=>⟨λ_ _=>[],λ_=>[],U,U⟩
 |.call .. |.dR .. |.invoke .. =>⟨λs vs=>bif vs.isEmpty then [] else kU s.h (reach s.h 1000000000 vs []),λ_=>[],J,U⟩
 |op=>⟨λs vs=>jL s vs op,λs=>cZ s op,dm op,U⟩
theorem Qv{x:Option AV}{s s1:St}{v:AV}(h:x.bind (λv=>Z (v,s))=Z (v,s1)):s1=s:=by
 cases x<;>grind
theorem aPX{b:Bool}{w:AV}{s s1:St}{v:AV}(h:(bif b then Z (w,s) else Y)=Z (v,s1)):s1=s:=by
 grind
theorem aTP {E : Env} {call : Cle -> List AV -> AH -> Option (AV × AH)} {s s1 : St} {op : AOp} {v : AV} (hm : (gW op).m = J) (h : (opBox op).f E call s = Z (v, s1)) : s1 = s /\ (gW op).c = U /\ ∀ s, (gW op).t s = [] := by
  cases op <;> first
    | (cases hm; done)
    | (refine ⟨?_, rfl, λ_ => rfl⟩
       first
        | exact Qv h
        | (simp only [opBox, r_pick, r_bin, r_un, kW, lZ, nK, r_load, r_lenS, pT] at h
           repeat' split at h
           all_goals first
            | exact Qv h
            | exact aPX h
            | (cases h; rfl)
            | cases h))
theorem aTQ(s:St)(vs:List Nat)(op:AOp):(gW op).f s vs=jL s vs op:=by cases op<;>rfl
theorem Yz(s:St)(op:AOp):(gW op).t s=cZ s op:=by cases op<;>rfl
theorem Za(op:AOp):(gW op).c=dm op:=by cases op<;>rfl
def jP(E:Env)(call:Cle->List AV->AH->Option (AV×AH)):List aW->St->Option St
 | [],s=>Z s
 |o::r,s=>match aw s o.guard with
  |some J=>goOps E call o.dst s.round (λs=>jP E call r s) ((opBox o.op).f E call s)
  |some U=>jP E call r {s with tm:=putDst s.tm o.dst bJ}
  |none=>Y
theorem yD(E:Env)(call:Cle->List AV->AH->Option (AV×AH)):∀(l:List aW) (s:St),jP E call l s=fT E call l s
 | [],_=>rfl
 |o::r,s=>by
  have ih:(λs=>jP E call r s)=λs=>fT E call r s:=funext λs=>yD E call r s
  grind [jP,fT,Zb]
def nV(E:Env)(call:Cle->List AV->AH->Option (AV×AH))(d:DOp)(near:List Nat)(s:St):Option (AV×ck×AH):=
 let rt:=aK s.tm d.reads
 let st:St:={tm:=rt,h:=s.h,defers:=[],round:=s.round}
 match aw st d.o.guard with
 |some J=>
  let vs:=aQ rt.ag
  let l:=(gW d.o.op).f st vs
  bif below s.h.next vs&&fG s.h l then
   match (opBox d.o.op).f E call {st with h:=aJ s.h l} with
   |some (v,s1)=>
    bif (gW d.o.op).m then Z (v,⟨l,[],s.h.next,s.h.next⟩,s.h) else
    let D:=bif (gW d.o.op).c then l.filter λb=> !(b9 (vs++near) b&&eqB (s.h.get b) (s1.h.get b)) else(gW d.o.op).t {st with h:=aJ s.h l}
    bif (s1.defers.isEmpty&&Nat.ble s.h.next s1.h.next)&&below s.h.next D then
     Z (v,⟨l,D,s.h.next,s1.h.next⟩,dw s.h D s1.h) else Y
   |none=>Y
  else Y
 |some U=>Z (bJ,⟨[],[],s.h.next,s.h.next⟩,s.h)
 |none=>Y
theorem Rg(E:Env)(call:Cle->List AV->AH->Option (AV×AH))(d:DOp)(near:List Nat)(s:St):nV E call d near s=fb E call d near s:=by
 simp only[nV,fb,aTQ];cases aw {tm:=aK s.tm d.reads,h:=s.h,defers:=[],round:=s.round} d.o.guard with
 |none=>rfl
 |some b=>
  cases b with
  |false=>rfl
  |true=>
   simp only;cases below s.h.next (aQ (aK s.tm d.reads).ag)&&fG s.h (jL {tm:=aK s.tm d.reads,h:=s.h,defers:=[],round:=s.round} (aQ (aK s.tm d.reads).ag) d.o.op) with
   |false=>rfl
   |true=>
    simp only[cond_true];rw[<-Zb];cases hx:(opBox d.o.op).f E call {tm:=aK s.tm d.reads,h:=aJ s.h (jL {tm:=aK s.tm d.reads,h:=s.h,defers:=[],round:=s.round} (aQ (aK s.tm d.reads).ag) d.o.op),defers:=[],round:=s.round} with
    |none=>rfl
    |some p=>
     obtain⟨v,s1⟩:=p;simp only;cases hm:(gW d.o.op).m with
     |false=>
      simp[Yz,Za]
     |true=>
      obtain⟨rfl,hc,ht⟩:=aTP hm hx;rw[Za] at hc;have ht':∀s,cZ s d.o.op=[]:=by simp_all [Yz]
      have hb:Nat.ble s.h.next (aJ s.h (jL {tm:=aK s.tm d.reads,h:=s.h,defers:=[],round:=s.round} (aQ (aK s.tm d.reads).ag) d.o.op)).next=J:=Nat.ble_eq.mpr (Nat.le_refl _);simp only[cond_true,cond_false,List.isEmpty_nil,Bool.and_self,below,List.all_nil, *];simp[dw,aJ,cx,eD]
def kY(E:Env)(call:Cle->List AV->AH->Option (AV×AH)):List DOp->List cC->Nat->List (Nat×cC)->St->Option St
 | [],_,_,_,s=>Z s
 |d::r,done,n,N,s=>match nV E call d (dv (done.map (·.r)) d.free) s with
  |some (v,rec,h)=>
   let b:cC:=⟨rec,loadAt {tm:=aK s.tm d.reads,h:=s.h,defers:=[],round:=s.round} d.o.op,s.h,h⟩
   bif freeH done n N b d.free then
    kY E call r (done++[b]) (n+1) (bif mG b.r then N else(n,b)::N) {s with tm:=putDst s.tm d.o.dst v,h} else Y
  |none=>Y
theorem Do(E:Env)(call:Cle->List AV->AH->Option (AV×AH)):∀(l:List DOp) (done:List cC) (n:Nat) (N:List (Nat×cC)) (s:St),kY E call l done n N s=gT E call l done n N s
 | [],_,_,_,_=>rfl
 |d::r,done,n,N,s=>by
  rw[kY,gT,Rg];cases fb E call d (dv (done.map (·.r)) d.free) s with
  |none=>rfl
  |some p=>
   obtain⟨v,rec,h⟩:=p;simp only;rw[Do E call r]
def nj(E:Env)(call:Cle->List AV->AH->Option (AV×AH))(ops:List DOp)(s:St):Option St:=
 match cJ ops with
 |some (pre,suf)=>match kY E call pre [] 0 [] s with
  |some s1=>jP E call (suf.map (·.o)) s1
  |none=>Y
 |none=>kY E call ops [] 0 [] s
theorem Rr(E:Env)(call:Cle->List AV->AH->Option (AV×AH))(ops:List DOp)(s:St):nj E call ops s=jJ E call ops s:=by
 grind [nj,jJ,Do,yD]
structure BoxC where
 f:Env->(aF->St->Option (Ex×St))->St->Option (Ex×St)
def codeBox(c:aF):BoxC:=match c with
  |.skip=>⟨λE ih s=>Z (.normal,s)⟩
  |.ret=>⟨λE ih s=>Z (.ret,s)⟩
  |.exit id=>⟨λE ih s=>Z (.exit id,s)⟩
  |.region ops=>⟨λE ih s=>(jP E (bY E (ih)) ops s).map λs=>(.normal,s)⟩
  |.draw ops=>⟨λE ih s=>(nj E (bY E (ih)) ops s).map λs=>(.normal,s)⟩
  |.seq a b=>⟨λE ih s=>match ih a s with
   |some (.normal,s)=>ih b s
   |r=>r⟩
  |.cond c a b=>⟨λE ih s=>match s.eval c with
   |some (.val (.bool J))=>ih a s
   |some (.val (.bool U))=>ih b s
   |_=>Y⟩
  |.block id b=>⟨λE ih s=>match ih b s with
   |some (.exit i,s)=>Z (bif Nat.beq i id then .normal else .exit i,s)
   |r=>r⟩
  |.loop b=>⟨λE ih s=>match ih b s with
   |some (.normal,s)=>ih (.loop b) s
   |r=>r⟩
  |.range g ps asg body M=>⟨λE ih s=>
   match s.eval g with
   |some (.fn (.func f) a b)=>
    let sd:Option (AH×List ADef):=match s.round with
     |none=>Z (s.h.alloc (.dfr J),.mark s.h.next::s.defers)
     |some q=>match s.h.get q with
      |some (.loop ..)=>Z (s.h,s.defers)
      |_=>Y
    match sd with
    |none=>Y
    |some (h1,df)=>
     match bY E (ih) (.f f) (a++(.yld h1.next::b)) (h1.alloc (.loop s.tm ps asg body M .ready)) with
     |some (_,h3)=>match h3.get h1.next with
      |some (.loop tm3 ps3 asg3 body3 M3 st)=>
       let s':St:={s with h:=h3.put h1.next (Z (.loop tm3 ps3 asg3 body3 M3 .gone)),defers:=df}
       match st with
       |.ready=>Z (.normal,s')
       |.done e=>Z (e,s')
       |_=>Y
      |_=>Y
     |none=>Y
   |_=>Y⟩
  |.bad _=>⟨λE ih s=>Y⟩
noncomputable def execK (E:Env) (n:Nat):aF->St->Option (Ex×St):=
 Nat.rec (motive:=λ_=>aF->St->Option (Ex×St)) (λ_ _=>Y) (λ_ ih c s=>(codeBox c).f E ih s) n
theorem aZB(E:Env):∀(n:Nat) (c:aF) (s:St),execK E n c s=fp E n c s
 |0,_,_=>rfl
 |n+1,c,s=>by
  have ih:=U175;show(codeBox c).f E (execK E n) s=_;rw[ih];cases c<;>simp only[codeBox,fp,yD,Rr]<;>rfl
noncomputable def aM (E:Env) (n f:Nat) (l:List AV):Option AV:=
 match bh E (execK E n) f l .empty with
 |some (r,hc)=>ar (freeze aU r hc) aU r
 |none=>Y
theorem Yn(E:Env)(n f:Nat)(l:List AV):aM E n f l=lG E n f l:=by
 have:=U175;rw[<-Yo,aM,qJ,this];rfl
end Go.AM
