/- XAmI -/
import Derived.Test.YtkmoeaplhnabcaaGreatDoorM5

set_option linter.all false
namespace Go.AM
open Go
structure BoxO where
 f:Env→(Cle→List AV→AH→Option (AV×AH))→St→Option (AV×St)
def opBox(op:AOp):BoxO:=match op with
 |.mv x=>⟨fun E call s=>r_mv s x⟩
 |.pick c a b=>⟨fun E call s=>r_pick s c a b⟩
 |.alloc z=>⟨fun E call s=>r_alloc s z⟩
 |.box x=>⟨fun E call s=>r_box s x⟩
 |.build z parts=>⟨fun E call s=>r_build s z parts⟩
 |.buildSlice es n z parts=>⟨fun E call s=>r_buildSlice s es n z parts⟩
 |.load n x=>⟨fun E call s=>r_load E s n x⟩
 |.store n a x=>⟨fun E call s=>r_store s n a x⟩
 |.nilck x=>⟨fun E call s=>r_nilck E s x⟩
 |.bin op t g x y=>⟨fun E call s=>r_bin E s op t g x y⟩
 |.un op x=>⟨fun E call s=>r_un E s op x⟩
 |.conv k x=>⟨fun E call s=>r_conv s k x⟩
 |.strOfBytes x=>⟨fun E call s=>r_strOfBytes s x⟩
 |.bytesOfStr x=>⟨fun E call s=>r_bytesOfStr s x⟩
 |.convId x=>⟨fun E call s=>r_convId s x⟩
 |.convStr x=>⟨fun E call s=>r_convStr s x⟩
 |.mkIface t x=>⟨fun E call s=>r_mkIface s t x⟩
 |.mkFunc fn a b=>⟨fun E call s=>r_mkFunc s fn a b⟩
 |.mkMap=>⟨fun E call s=>r_mkMap s⟩
 |.mkSlice es bytes z l c=>⟨fun E call s=>r_mkSlice s es bytes z l c⟩
 |.sliceS es x lo hi mx=>⟨fun E call s=>r_sliceS s es x lo hi mx⟩
 |.sliceA es len x lo hi=>⟨fun E call s=>r_sliceA s es len x lo hi⟩
 |.sliceStr x lo hi=>⟨fun E call s=>r_sliceStr s x lo hi⟩
 |.fieldAddr off x=>⟨fun E call s=>r_fieldAddr s off x⟩
 |.field off n x=>⟨fun E call s=>r_field s off n x⟩
 |.idxAddrS es x i=>⟨fun E call s=>r_idxAddrS s es x i⟩
 |.idxAddrA len es x i=>⟨fun E call s=>r_idxAddrA s len es x i⟩
 |.idxA len es n x i=>⟨fun E call s=>r_idxA s len es n x i⟩
 |.idxStr x i=>⟨fun E call s=>r_idxStr s x i⟩
 |.lookup d z x k ok=>⟨fun E call s=>r_lookup s d z x k ok⟩
 |.mapUpd d m k x=>⟨fun E call s=>r_mapUpd s d m k x⟩
 |.rangeStr x=>⟨fun E call s=>r_rangeStr s x⟩
 |.nextStr x=>⟨fun E call s=>r_nextStr s x⟩
 |.rangeMap x=>⟨fun E call s=>r_rangeMap s x⟩
 |.nextMap x=>⟨fun E call s=>r_nextMap s x⟩
 |.curMap x=>⟨fun E call s=>r_curMap s x⟩
 |.tassert t z ok x=>⟨fun E call s=>r_tassert s t z ok x⟩
 |.extract i x=>⟨fun E call s=>r_extract s i x⟩
 |.call f args=>⟨fun E call s=>r_call call s f args⟩
 |.callv x args=>⟨fun E call s=>r_callv E call s x args⟩
 |.invoke x name args=>⟨fun E call s=>r_invoke E call s x name args⟩
 |.append es bytes sl x=>⟨fun E call s=>r_append s es bytes sl x⟩
 |.copy es d x=>⟨fun E call s=>r_copy s es d x⟩
 |.lenS x=>⟨fun E call s=>r_lenS s x⟩
 |.lenStr x=>⟨fun E call s=>r_lenStr s x⟩
 |.lenMap x=>⟨fun E call s=>r_lenMap s x⟩
 |.lenK n=>⟨fun E call s=>r_lenK s n⟩
 |.capS x=>⟨fun E call s=>r_capS s x⟩
 |.minI args=>⟨fun E call s=>r_minI s args⟩
 |.maxI args=>⟨fun E call s=>r_maxI s args⟩
 |.clearS es z x=>⟨fun E call s=>r_clearS s es z x⟩
 |.recover=>⟨fun E call s=>r_recover s⟩
 |.defer x args=>⟨fun E call s=>r_defer call s x args⟩
 |.unsafeStr e x n=>⟨fun E call s=>r_unsafeStr s e x n⟩
 |.sliceData x=>⟨fun E call s=>r_sliceData s x⟩
 |.allocT z t=>⟨fun E call s=>r_allocT s z t⟩
 |.bconv t x=>⟨fun E call s=>r_bconv E s t x⟩
 |.callx f x=>⟨fun E call s=>r_callx E s f x⟩
 |.appT e sl x=>⟨fun E call s=>r_appT s e sl x⟩
 |.bad u0=>⟨fun E call s=>r_bad s u0⟩
theorem rJ(E:Env)(call:Cle→List AV→AH→Option (AV×AH))(s:St)(op:AOp):(opBox op).f E call s=runOpF E call s op:=by
 cases op<;>rfl
structure BoxF where
 f:St→List Nat→List Nat
 t:St→List Nat
 c:Bool
 m:Bool
def opFoot(op:AOp):BoxF:=match op with
 |.store _ a _=>⟨fun s _=>idsO s a,fun s=>idsO s a,false,false⟩
 |.mapUpd _ m _ _=>⟨fun s _=>idsO s m,fun s=>idsO s m,false,false⟩
 |.mv _|.pick .. |.bin .. |.un .. |.fieldAddr .. |.idxAddrS .. |.extract .. =>⟨fun _ _=>[],fun _=>[],false,true⟩
 |.load .. |.lenS .. |.lenStr .. =>⟨fun _ vs=>vs,fun _=>[],false,true⟩
 |.alloc _|.box _|.build .. |.buildSlice .. |.mkIface .. |.mkFunc .. |.mkMap|.mkSlice .. |.field .. |.nilck _=>⟨fun _ _=>[],fun _=>[],false,false⟩
 |.call .. |.callv .. |.invoke .. =>⟨fun s vs=>bif vs.isEmpty then [] else withTags s.h (reach s.h 100000 vs []),fun _=>[],true,false⟩
 |op=>⟨fun s vs=>foot s vs op,fun s=>turned s op,isCall op,false⟩
theorem oS{x:Option AV}{s s1:St}{v:AV}(h:x.bind (fun v=>some (v,s))=some (v,s1)):s1=s:=by
 cases x with
 |none=>cases h
 |some a=>cases h;rfl
theorem xb{b:Bool}{w:AV}{s s1:St}{v:AV}(h:(bif b then some (w,s) else none)=some (v,s1)):s1=s:=by
 cases b with
 |false=>cases h
 |true=>cases h;rfl
theorem yi {E : Env} {call : Cle → List AV → AH → Option (AV × AH)} {s s1 : St} {op : AOp} {v : AV} (hm : (opFoot op).m = true) (h : (opBox op).f E call s = some (v, s1)) : s1 = s ∧ (opFoot op).c = false ∧ ∀ s, (opFoot op).t s = [] := by
  cases op <;> first
    | (cases hm; done)
    | (refine ⟨?_, rfl, fun _ => rfl⟩
       first
        | exact oS h
        | (simp only [opBox, r_pick, r_bin, r_un, r_fieldAddr, r_idxAddrS, r_extract, r_load, r_lenS, r_lenStr] at h
           repeat' split at h
           all_goals first
            | exact oS h
            | exact xb h
            | (cases h; rfl)
            | cases h))
theorem yj(s:St)(vs:List Nat)(op:AOp):(opFoot op).f s vs=foot s vs op:=by cases op<;>rfl
theorem rH(s:St)(op:AOp):(opFoot op).t s=turned s op:=by cases op<;>rfl
theorem rI(op:AOp):(opFoot op).c=isCall op:=by cases op<;>rfl
def runOpsK(E:Env)(call:Cle→List AV→AH→Option (AV×AH)):List AOper→St→Option St
 | [],s=>some s
 |o::r,s=>match wantedA s o.guard with
  |some true=>goOps E call o.dst s.round (fun s=>runOpsK E call r s) ((opBox o.op).f E call s)
  |some false=>runOpsK E call r {s with tm:=putDst s.tm o.dst undefA}
  |none=>none
theorem d7(E:Env)(call:Cle→List AV→AH→Option (AV×AH)):∀(l:List AOper) (s:St),runOpsK E call l s=runOpsF E call l s
 | [],_=>rfl
 |o::r,s=>by
  have ih:(fun s=>runOpsK E call r s)=fun s=>runOpsF E call r s:=funext fun s=>d7 E call r s;rw[runOpsK,runOpsF,ih,rJ];cases wantedA s o.guard with
  |none=>rfl
  |some b=>
   cases b with
   |true=>rfl
   |false=>exact d7 E call r _
def stepDrawK(E:Env)(call:Cle→List AV→AH→Option (AV×AH))(d:DOp)(near:List Nat)(s:St):Option (AV×DRec×AH):=
 let rt:=pickTm s.tm d.reads
 let st:St:={tm:=rt,h:=s.h,defers:=[],round:=s.round}
 match wantedA st d.o.guard with
 |some true=>
  let vs:=idsL rt.vals
  let l:=(opFoot d.o.op).f st vs
  bif below s.h.next vs&&knownH s.h l then
   match (opBox d.o.op).f E call {st with h:=restrictH s.h l} with
   |some (v,s1)=>
    bif (opFoot d.o.op).m then some (v,⟨l,[],s.h.next,s.h.next⟩,s.h) else
    let D:=bif (opFoot d.o.op).c then l.filter fun b=> !(memN (vs++near) b&&eqB (s.h.get b) (s1.h.get b)) else(opFoot d.o.op).t {st with h:=restrictH s.h l}
    bif (s1.defers.isEmpty&&Nat.ble s.h.next s1.h.next)&&below s.h.next D then
     some (v,⟨l,D,s.h.next,s1.h.next⟩,mergeH s.h D s1.h) else none
   |none=>none
  else none
 |some false=>some (undefA,⟨[],[],s.h.next,s.h.next⟩,s.h)
 |none=>none
theorem oe(E:Env)(call:Cle→List AV→AH→Option (AV×AH))(d:DOp)(near:List Nat)(s:St):stepDrawK E call d near s=stepDrawF E call d near s:=by
 simp only[stepDrawK,stepDrawF,yj];cases wantedA {tm:=pickTm s.tm d.reads,h:=s.h,defers:=[],round:=s.round} d.o.guard with
 |none=>rfl
 |some b=>
  cases b with
  |false=>rfl
  |true=>
   simp only;cases below s.h.next (idsL (pickTm s.tm d.reads).vals)&&knownH s.h (foot {tm:=pickTm s.tm d.reads,h:=s.h,defers:=[],round:=s.round} (idsL (pickTm s.tm d.reads).vals) d.o.op) with
   |false=>rfl
   |true=>
    simp only[cond_true];rw[←rJ];cases hx:(opBox d.o.op).f E call {tm:=pickTm s.tm d.reads,h:=restrictH s.h (foot {tm:=pickTm s.tm d.reads,h:=s.h,defers:=[],round:=s.round} (idsL (pickTm s.tm d.reads).vals) d.o.op),defers:=[],round:=s.round} with
    |none=>rfl
    |some p=>
     obtain⟨v,s1⟩:=p;simp only;cases hm:(opFoot d.o.op).m with
     |false=>
      simp only[cond_false,rH,rI]
     |true=>
      obtain⟨rfl,hc,ht⟩:=yi hm hx;rw[rI] at hc;have ht':∀s,turned s d.o.op=[]:=fun s=>by rw[←rH];exact ht s
      have hb:Nat.ble s.h.next (restrictH s.h (foot {tm:=pickTm s.tm d.reads,h:=s.h,defers:=[],round:=s.round} (idsL (pickTm s.tm d.reads).vals) d.o.op)).next=true:=Nat.ble_eq.mpr (Nat.le_refl _);simp only[cond_true,hc,cond_false,ht',hb,List.isEmpty_nil,Bool.and_self,below,List.all_nil];have hmg:∀l,mergeH s.h [] (restrictH s.h l)=s.h:=fun l=>by simp only[mergeH,restrictH,Nat.sub_self,copyNew,copyOld]
      rw[hmg];rfl
def runDrawK(E:Env)(call:Cle→List AV→AH→Option (AV×AH)):List DOp→List CRec→Nat→List (Nat×CRec)→St→Option St
 | [],_,_,_,s=>some s
 |d::r,done,n,N,s=>match stepDrawK E call d (nearOf (done.map (·.r)) d.free) s with
  |some (v,rec,h)=>
   let b:CRec:=⟨rec,loadAt {tm:=pickTm s.tm d.reads,h:=s.h,defers:=[],round:=s.round} d.o.op,s.h,h⟩
   bif freeH done n N b d.free then
    runDrawK E call r (done++[b]) (n+1) (bif calmR b.r then N else(n,b)::N) {s with tm:=putDst s.tm d.o.dst v,h} else none
  |none=>none
theorem jT(E:Env)(call:Cle→List AV→AH→Option (AV×AH)):∀(l:List DOp) (done:List CRec) (n:Nat) (N:List (Nat×CRec)) (s:St),runDrawK E call l done n N s=runDrawH E call l done n N s
 | [],_,_,_,_=>rfl
 |d::r,done,n,N,s=>by
  rw[runDrawK,runDrawH,oe];cases stepDrawF E call d (nearOf (done.map (·.r)) d.free) s with
  |none=>rfl
  |some p=>
   obtain⟨v,rec,h⟩:=p;simp only;rw[jT E call r]
def runDrawXK(E:Env)(call:Cle→List AV→AH→Option (AV×AH))(ops:List DOp)(s:St):Option St:=
 match lastSeq ops with
 |some (pre,d)=>match runDrawK E call pre [] 0 [] s with
  |some s1=>runOpsK E call [d.o] s1
  |none=>none
 |none=>runDrawK E call ops [] 0 [] s
theorem ox(E:Env)(call:Cle→List AV→AH→Option (AV×AH))(ops:List DOp)(s:St):runDrawXK E call ops s=runDrawXH E call ops s:=by
 simp only[runDrawXK,runDrawXH,jT,d7];rfl
structure BoxC where
 f:Env→(ACode→St→Option (Ex×St))→St→Option (Ex×St)
def codeBox(c:ACode):BoxC:=match c with
  |.skip=>⟨fun E ih s=>some (.normal,s)⟩
  |.ret=>⟨fun E ih s=>some (.ret,s)⟩
  |.exit id=>⟨fun E ih s=>some (.exit id,s)⟩
  |.region ops=>⟨fun E ih s=>(runOpsK E (aZ E (ih)) ops s).map fun s=>(.normal,s)⟩
  |.draw ops=>⟨fun E ih s=>(runDrawXK E (aZ E (ih)) ops s).map fun s=>(.normal,s)⟩
  |.seq a b=>⟨fun E ih s=>match ih a s with
   |some (.normal,s)=>ih b s
   |r=>r⟩
  |.cond c a b=>⟨fun E ih s=>match s.eval c with
   |some (.val (.bool true))=>ih a s
   |some (.val (.bool false))=>ih b s
   |_=>none⟩
  |.block id b=>⟨fun E ih s=>match ih b s with
   |some (.exit i,s)=>some (bif Nat.beq i id then .normal else .exit i,s)
   |r=>r⟩
  |.loop b=>⟨fun E ih s=>match ih b s with
   |some (.normal,s)=>ih (.loop b) s
   |r=>r⟩
  |.range g ps asg body M=>⟨fun E ih s=>
   match s.eval g with
   |some (.fn (.func f) a b)=>
    let sd:Option (AH×List ADef):=match s.round with
     |none=>some (s.h.alloc (.dfr true),.mark s.h.next::s.defers)
     |some q=>match s.h.get q with
      |some (.loop ..)=>some (s.h,s.defers)
      |_=>none
    match sd with
    |none=>none
    |some (h1,df)=>
     match aZ E (ih) (.f f) (a++(.yld h1.next::b)) (h1.alloc (.loop s.tm ps asg body M .ready)) with
     |some (_,h3)=>match h3.get h1.next with
      |some (.loop tm3 ps3 asg3 body3 M3 st)=>
       let s':St:={s with h:=h3.put h1.next (some (.loop tm3 ps3 asg3 body3 M3 .gone)),defers:=df}
       match st with
       |.ready=>some (.normal,s')
       |.done e=>some (e,s')
       |_=>none
      |_=>none
     |none=>none
   |_=>none⟩
  |.bad _=>⟨fun E ih s=>none⟩
noncomputable def execK (E:Env) (n:Nat):ACode→St→Option (Ex×St):=
 Nat.rec (motive:=fun _=>ACode→St→Option (Ex×St)) (fun _ _=>none) (fun _ ih c s=>(codeBox c).f E ih s) n
theorem sg(E:Env):∀(n:Nat) (c:ACode) (s:St),execK E n c s=execH E n c s
 |0,_,_=>rfl
 |n+1,c,s=>by
  have ih:execK E n=execH E n:=funext fun c=>funext fun s=>sg E n c s;show(codeBox c).f E (execK E n) s=_;rw[ih];cases c<;>simp only[codeBox,execH,d7,ox]<;>rfl
noncomputable def pureRunK (E:Env) (n f:Nat) (l:List AV):Option AV:=
 match enterA E (execK E n) f l .empty with
 |some (r,hc)=>toTree (freeze deepest r hc) deepest r
 |none=>none
theorem qo(E:Env)(n f:Nat)(l:List AV):pureRunK E n f l=pureRun E n f l:=by
 have:execK E n=execH E n:=funext fun c=>funext fun s=>sg E n c s;rw[←qp,pureRunK,pureRunH,this];rfl
end Go.AM
