/- ZLawrH -/
import Derived.Test.YtkhblipgiijoiaaGreatDoorU0
import Derived.Test.YtkhblipgiijoiaaGreatDoorA1
import Derived.Test.YtkhblipgiijoiaaGreatDoorQ7
import Derived.Test.YtkhblipgiijoiaaGreatDoorQ9
import Derived.Test.YtkhblipgiijoiaaGreatDoorO2
import Derived.OpenShut

set_option linter.all false
open Go.Proofs.Tryz renaming prog → i7
namespace Go.Proofs.YtkhblipgiijoiaaGreatDoor
open Go Go.AM Go.ChangeShapes Go.WideShapes Go.ChangeAt Go.RowKit
set_option maxRecDepth 100000
theorem Gk [KR](ok:EnvOk i7 E1){W:World}{f:Nat}{l:List AV}{h':AH}(ev:Ev fun n=>enterA E1 (exec E1 n) f l .empty=some (vB true,h'))(vals:List Value)(hl:RelL (snapW W) nof l vals)(hg:∀q cs,globCells q=some cs→RelC (snapW W) cs q 0):
  CallsIn Fence.wide 0 i7 f vals.toArray W fun e w'=>e=.returned (.bool true)∧Go.RowKit.Below W.heap.size W w':=by
 obtain⟨n,hn⟩:=ev.one;refine CallsIn.mono (jG (w6 ok n) hn (t:=vB true) rfl (S2:=snapW W) (fun _ _ _ h=>h) hg hl) fun e w' he=>?_
 obtain⟨x,rfl,S3,hr,hbl,_⟩:=he;rw[Rel] at hr;rw[hr.1];exact⟨rfl,hbl⟩
@[reducible] def krNone : KR := ⟨fun _ => none⟩
open Classical in
noncomputable def oneK (a:List AV) (r:AV) (l:List AV):Option AV:=if l=a then some r else none
theorem Rb(a:List AV)(r:AV):oneK a r a=some r:=if_pos rfl
theorem Ra{a l:List AV}{r t:AV}(h:oneK a r l=some t):l=a∧t=r:=by
 unfold oneK at h;split at h
 ·rename_i e;cases h;exact⟨e,rfl⟩
 ·cases h
@[reducible] noncomputable def krOne (a : List AV) (r : AV) : KR := ⟨oneK a r⟩
theorem Ir{W:World}{a:Hn}(ha:HnB a)(x:ByteArray)(vals:List Value)(hl:RelL (snapW W) nof [.agg a.cells,vS x] vals)(hg:∀q cs,globCells q=some cs→RelC (snapW W) cs q 0):
  CallsIn Fence.wide 0 i7 3 vals.toArray W fun e w'=>e=.returned (.bool true)∧Go.RowKit.Below W.heap.size W w':=by
 have ok0: @EnvOk i7 (@E1 krNone):= @aFE krNone fun l r h=>by cases h
 rcases Classical.em (HnT a) with hT|hT
 ·obtain⟨L,hL,_⟩:= @kQ krNone a hT x;have hf:= @Hr krNone ok0 a hT x L hL;have ok: @EnvOk i7 (@E1 (krOne [.agg a.cells,vS x] (nmV L))):= @aFE (krOne [.agg a.cells,vS x] (nmV L)) fun l r h=>by
   obtain⟨rfl,rfl⟩:=Ra h;exact hf
  obtain⟨h',ev⟩:= @aMX (krOne [.agg a.cells,vS x] (nmV L)) a ha x fun _ _=>⟨L,hL,Rb _ _⟩;exact @Gk (krOne [.agg a.cells,vS x] (nmV L)) ok W 3 _ h' ev vals hl hg
 ·obtain⟨h',ev⟩:= @aMX krNone a ha x fun _ h=>absurd h hT;exact @Gk krNone ok0 W 3 _ h' ev vals hl hg
theorem own:ownKnob i7.godebug=none:=by kernel_rfl
theorem aBE:laidOutB i7=true:=by kernel_rfl
theorem aLY:mapsRowed i7=true:=by kernel_rfl
theorem full:∀t e,t<i7.types.size→i7.underlying t=some (.slice e)→0<i7.cellsOf e:=slices_full_of i7 kr
theorem Zk:26<i7.types.size:=of_decide_eq_true kr
theorem aGC:9<i7.types.size:=of_decide_eq_true kr
section
variable {H:Type}
theorem aFL{H:Type}{enc:TypeId×Value→H}{W W':World}{t:TypeId}{v:Value}{d:DataW H}{p:List MemPlace}(ht:t<i7.types.size)(h:DataW.Trod enc i7 W 0 (fun _=>true) true t v d p)(hlt:∀x∈p,x.block<W.heap.size)(hb:Below W.heap.size W W'):
  DataW.Trod enc i7 W' 0 (fun b=>decide (b<W.heap.size)) true t v d p:=by
 obtain⟨n,hn⟩:=h;have hs:∀x∈p,W.sameAt W' x:=fun x hx=>by
  have hl:=hlt x hx;cases x with
  |cell b off=>exact hb.cell (p:=⟨b,off,none⟩) hl
  |map b=>exact hb.block b hl
 have h2:DataW.Trod enc i7 W' 0 (fun _=>true) true t v d p:=⟨n,DataW.trod_carry n _ _ _ hn hs⟩;exact h2.respare (kids_rows aBE aLY) full ht fun x hx=>decide_eq_true (hlt x hx)
theorem Vi{W:World}{base:Nat}{v:Value}{d:DataW H}{p:List MemPlace}{enc:TypeId×Value→H}(hv:Value.okWide i7 W .any base 26 v)(h:DataW.Trod enc i7 W 0 (fun _=>true) true 26 v d p)(hb:Rows.uptoBulk d≤1048576):∃a:Hn,HnB a∧Rel (snapW W) nof (.agg a.cells) v:=by
 obtain⟨cs,rfl⟩:∃cs:Array Value,v=.agg cs:=by
  unfold Value.okWide at hv;rw[Tryz.underlying26] at hv;obtain⟨cs,h,_⟩:=hv;exact⟨cs,h⟩
 obtain⟨fuel,hf⟩:=h;have hcs:(Value.agg cs).cells.toList=cs.toList:=rfl;rw[hcs] at hf;obtain⟨a,hp,ho,ha⟩:=aBM fuel _ _ hf (Nat.le_trans (p8 d) hb);refine⟨a,ha,?_⟩;rw[Rel];exact⟨cs.toList,by rw[Array.toArray_toList],ho,hp⟩
theorem Zg{W:World}{base:Nat}{v:Value}{d:DataW H}{p:List MemPlace}{enc:TypeId×Value→H}(hv:Value.okWide i7 W .any base 9 v):∃x:ByteArray,Rel (snapW W) nof (vS x) v:=by
 unfold Value.okWide at hv;rw[Tryz.underlying9] at hv;simp only at hv;unfold Cell.okWide at hv;rw[Tryz.underlying9] at hv;unfold Cell.ok at hv;rw[Tryz.underlying9] at hv;cases v<;>first|exact hv.elim|skip
 rename_i x;refine⟨x,?_⟩;rw[Rel];exact⟨rfl,rfl⟩
theorem Si(H:Type)(enc:TypeId×Value→H)(W:World)(base:Nat)(args:Array Value)(ds gs:List (DataW H))(before:List MemPlace)
  (hval:∀(j:Nat) t v,Tryz.f3.params[j]? =some t→args[j]? =some v→Value.okWide i7 W .any base t v)
  (hW:DataW.Whole enc i7 Tryz.f3.params.toList Rows.hornChecksSpec.vars false W args.toList ds gs before) (hk:Rows.uptoSmall H (ds++gs)=true) (hL:laidMetH i7 Rows.hornChecksUptoRow.laid W):
  Calls i7 3 args W fun e W'=>∃v,e=.returned v∧Rows.hornChecksSpec.post enc i7 Tryz.f3 false true false false W args v W':=by
 have hW':=hW;have hlt:=hW.lt;obtain⟨p,q,hA0,hV,rfl,hfz,hnd⟩:=hW;have hA:DataW.TrodAll enc i7 W 0 (fun _=>true) true Tryz.f3.params.toList args.toList ds p:=hA0;rw[Tryz.params3] at hA hval;obtain⟨v0,vs0,d0,ds0,p0,q0,hargs,rfl,rfl,h0,r0⟩:=trodAll_cons hA;obtain⟨v1,vs1,d1,ds1,p1,q1,rfl,rfl,rfl,h1,r1⟩:=trodAll_cons r0;obtain⟨rfl,rfl,rfl⟩:=trodAll_nil r1;obtain rfl:args= #[v0,v1]:=by cases args;simp_all
 obtain⟨rfl,rfl⟩:=trodVars_none hV;have hbulk:Rows.uptoBulkAll [d0,d1]≤1048576:=of_decide_eq_true hk;simp only[Rows.uptoBulkAll] at hbulk;obtain⟨a,ha,hr0⟩:=Vi (hval 0 26 v0 rfl rfl) h0 om;obtain⟨x,hr1⟩:=Zg (d:=d1) (p:=p1) (enc:=enc) (hval 1 9 v1 rfl rfl);have hl:RelL (snapW W) nof [.agg a.cells,vS x] [v0,v1]:=by
  simp only[RelL];exact⟨_,_,rfl,hr0,_,_,rfl,hr1,rfl⟩
 refine((Ir ha x [v0,v1] hl (Rl hL)).calls fun _ d hd=>by cases hd).mono fun e W' ⟨he,hbl⟩=>?_
 refine⟨_,he,[d0,d1],[],_,[],p0++(p1++[]),[],hW',?_,?_,rfl,hbl.frame _,fun h=>by cases h⟩
 ·exact trodAll_cons_mk (shut_bool Tryz.underlying4 _) trodAll_mk0
 ·exact trodAll_cons_mk (aFL Zk h0 (fun x hx=>hlt x (by simp[hx])) hbl) (trodAll_cons_mk (aFL aGC h1 (fun x hx=>hlt x (by simp[hx])) hbl) trodAll_mk0)
theorem aGS(os:Os){H:Type}(enc:TypeId×Value→H):∃places,DataW.whole enc i7 ((laidWorld os).forCall (fun _ _=>0) ⟨#[], #[.agg #[.slice none 0 0,.slice none 0 0,.slice none 0 0],.string ⟨#[]⟩],[]⟩).memory Tryz.f3.params.toList Rows.hornChecksSpec.vars false (#[.agg #[.slice none 0 0,.slice none 0 0,.slice none 0 0],.string ⟨#[]⟩]:Array Value).toList 8=some ([.agg [.nil,.nil,.nil],.lit (.string [])],[],places):=
 ⟨[],kr⟩
theorem Dv(os:Os)(started:os.Started)(H:Type)(enc:TypeId×Value→H)(F:Stop.Interp):
  ReturnsInHanded {} Tryz.checked os 3 .any ((Rows.OpenSpec.upto Rows.hornChecksSpec).preRow enc i7 Tryz.f3 Rows.hornChecksUptoRow.domain false Rows.hornChecksUptoRow.laid) (((Rows.OpenSpec.upto Rows.hornChecksSpec).at F).post enc i7 Tryz.f3 false true false false):=by
 obtain⟨places,hx⟩:=aGS os enc;refine returnsInHanded_of_row (C:=Tryz.checked) (s:=Rows.OpenSpec.upto Rows.hornChecksSpec) own started kr Tryz.func3
  (witness_row_atRef (enc:=enc) (C:=Tryz.checked) false (laidWorld os) #[.agg #[.slice none 0 0,.slice none 0 0,.slice none 0 0],.string ⟨#[]⟩] rfl kr kr kr
   (OpenSpec.preRow_of_cond 8 hx kr (fun k hk=>by cases hk;kernel_rfl) kr (Vb os _))) ?_
 intro W base args ds gs before hval hW _ hcond _ hL _ _;exact Si H enc W base args ds gs before hval hW (hcond _ rfl) hL
end
end Go.Proofs.YtkhblipgiijoiaaGreatDoor
