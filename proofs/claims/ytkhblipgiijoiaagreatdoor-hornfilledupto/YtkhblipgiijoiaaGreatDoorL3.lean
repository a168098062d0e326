/- A part of the proof about filled horn systems: ZLawr. -/
import Derived.Test.YtkhblipgiijoiaaGreatDoorU0
import Derived.Test.YtkhblipgiijoiaaGreatDoorA1
import Derived.Test.YtkhblipgiijoiaaGreatDoorL2
import Derived.Test.YtkhblipgiijoiaaGreatDoorO2
import Derived.OpenShut

set_option linter.all false
namespace Go.Proofs.YtkhblipgiijoiaaGreatDoor
open Go Go.AM Go.ChangeShapes Go.WideShapes Go.ChangeAt Go.RowKit
set_option maxRecDepth 100000
theorem calls_of{W:World}{f:Nat}{l:List AV}{h':AH}(ev:Ev fun n=>enterA E1 (exec E1 n) f l .empty=some (.val (.bool true),h'))(vals:List Value)(hl:RelL (snapW W) nof l vals)(hg:∀q cs,globCells q=some cs→RelC (snapW W) cs q 0):
  CallsIn Fence.wide 0 Tryz.prog f vals.toArray W fun e w'=>e=.returned (.bool true)∧Go.RowKit.Below W.heap.size W w':=by
 obtain⟨n,hn⟩:=ev.one
 refine CallsIn.mono (iN (tO e1_ok n) hn (t:=.val (.bool true)) rfl (S2:=snapW W) (fun _ _ _ h=>h) hg hl) fun e w' he=>?_
 obtain⟨x,rfl,S3,hr,hbl,_⟩:=he
 rw[Rel] at hr
 rw[hr.1]
 exact⟨rfl,hbl⟩
theorem zO{W:World}{a:Hn}(ha:HnB a){w:Vl So}(hw:w.l.length<2^28)(hp:∀x∈w.l,x.p.wt≤2^22)(vals:List Value)(hl:RelL (snapW W) nof [.agg a.cells,w.A So.cells] vals)(hg:∀q cs,globCells q=some cs→RelC (snapW W) cs q 0):
  CallsIn Fence.wide 0 Tryz.prog 4 vals.toArray W fun e w'=>e=.returned (.bool true)∧Go.RowKit.Below W.heap.size W w':=by
 obtain⟨h',ev⟩:=law4 a ha w hw hp
 exact calls_of ev vals hl hg
theorem own:ownKnob Tryz.prog.godebug=none:=by kernel_rfl
theorem laidOut:laidOutB Tryz.prog=true:=by kernel_rfl
theorem rowed:mapsRowed Tryz.prog=true:=by kernel_rfl
theorem full:∀t e,t<Tryz.prog.types.size→Tryz.prog.underlying t=some (.slice e)→0<Tryz.prog.cellsOf e:=slices_full_of Tryz.prog kr
theorem small26:26<Tryz.prog.types.size:=of_decide_eq_true kr
theorem small39:39<Tryz.prog.types.size:=of_decide_eq_true kr
section
variable {H:Type}
theorem again{H:Type}{enc:TypeId×Value→H}{W W':World}{t:TypeId}{v:Value}{d:DataW H}{p:List MemPlace}(ht:t<Tryz.prog.types.size)(h:DataW.Trod enc Tryz.prog W 0 (fun _=>true) true t v d p)(hlt:∀x∈p,x.block<W.heap.size)(hb:Below W.heap.size W W'):
  DataW.Trod enc Tryz.prog W' 0 (fun b=>decide (b<W.heap.size)) true t v d p:=by
 obtain⟨n,hn⟩:=h
 have hs:∀x∈p,W.sameAt W' x:=fun x hx=>by
  have hl:=hlt x hx
  cases x with
  |cell b off=>exact hb.cell (p:=⟨b,off,none⟩) hl
  |map b=>exact hb.block b hl
 have h2:DataW.Trod enc Tryz.prog W' 0 (fun _=>true) true t v d p:=⟨n,DataW.trod_carry n _ _ _ hn hs⟩
 exact h2.respare (kids_rows laidOut rowed) full ht fun x hx=>decide_eq_true (hlt x hx)
theorem horn_arg{W:World}{base:Nat}{v:Value}{d:DataW H}{p:List MemPlace}{enc:TypeId×Value→H}(hv:Value.okWide Tryz.prog W .any base 26 v)(h:DataW.Trod enc Tryz.prog W 0 (fun _=>true) true 26 v d p)(hb:Rows.uptoBulk d≤1048576):∃a:Hn,HnB a∧Rel (snapW W) nof (.agg a.cells) v:=by
 obtain⟨cs,rfl⟩:∃cs:Array Value,v=.agg cs:=by
  unfold Value.okWide at hv
  rw[Tryz.underlying26] at hv
  obtain⟨cs,h,_⟩:=hv
  exact⟨cs,h⟩
 obtain⟨fuel,hf⟩:=h
 have hcs:(Value.agg cs).cells.toList=cs.toList:=rfl
 rw[hcs] at hf
 obtain⟨a,hp,ho,ha⟩:=hn_open fuel _ _ hf (Nat.le_trans (js d) hb)
 refine⟨a,ha,?_⟩
 rw[Rel]
 exact⟨cs.toList,by rw[Array.toArray_toList],ho,hp⟩
theorem sols_arg{W:World}{base:Nat}{v:Value}{d:DataW H}{p:List MemPlace}{enc:TypeId×Value→H}(hv:Value.okWide Tryz.prog W .any base 39 v)(h:DataW.Trod enc Tryz.prog W 0 (fun _=>true) true 39 v d p)(hb:Rows.uptoBulk d≤1048576):∃w:Vl So,Rel (snapW W) nof (w.A So.cells) v∧w.l.length<2^28∧∀s∈w.l,s.p.wt≤2^22:=by
 obtain⟨fuel,hf⟩:=h
 have hc:v.cells.toList=[v]:=by
  unfold Value.okWide at hv
  rw[und39] at hv
  simp only at hv
  unfold Cell.okWide at hv
  rw[und39] at hv
  unfold Cell.ok at hv
  rw[und39] at hv
  cases v<;>first|rfl|exact hv.elim
 rw[hc] at hf
 exact sols_open fuel v _ hf (Nat.le_trans (js d) hb)
theorem contract4(H:Type)(enc:TypeId×Value→H)(W:World)(base:Nat)(args:Array Value)(ds gs:List (DataW H))(before:List MemPlace)
  (hval:∀(j:Nat) t v,Tryz.f4.params[j]? =some t→args[j]? =some v→Value.okWide Tryz.prog W .any base t v)
  (hW:DataW.Whole enc Tryz.prog Tryz.f4.params.toList Rows.hornFilledSpec.vars false W args.toList ds gs before) (hk:Rows.uptoSmall H (ds++gs)=true) (hL:laidMetH Tryz.prog Rows.hornFilledUptoRow.laid W):
  Calls Tryz.prog 4 args W fun e W'=>∃v,e=.returned v∧Rows.hornFilledSpec.post enc Tryz.prog Tryz.f4 false true false false W args v W':=by
 have hW':=hW
 have hlt:=hW.lt
 obtain⟨p,q,hA0,hV,rfl,hfz,hnd⟩:=hW
 have hA:DataW.TrodAll enc Tryz.prog W 0 (fun _=>true) true Tryz.f4.params.toList args.toList ds p:=hA0
 rw[Tryz.params4] at hA hval
 obtain⟨v0,vs0,d0,ds0,p0,q0,hargs,rfl,rfl,h0,r0⟩:=trodAll_cons hA
 obtain⟨v1,vs1,d1,ds1,p1,q1,rfl,rfl,rfl,h1,r1⟩:=trodAll_cons r0
 obtain⟨rfl,rfl,rfl⟩:=trodAll_nil r1
 obtain rfl:args= #[v0,v1]:=by cases args;simp_all
 obtain⟨rfl,rfl⟩:=trodVars_none hV
 have hbulk:Rows.uptoBulkAll [d0,d1]≤1048576:=of_decide_eq_true hk
 simp only[Rows.uptoBulkAll] at hbulk
 obtain⟨a,ha,hr0⟩:=horn_arg (hval 0 26 v0 rfl rfl) h0 om
 obtain⟨w,hr1,w1,w2⟩:=sols_arg (hval 1 39 v1 rfl rfl) h1 om
 have hl:RelL (snapW W) nof [.agg a.cells,w.A So.cells] [v0,v1]:=by
  simp only[RelL]
  exact⟨_,_,rfl,hr0,_,_,rfl,hr1,rfl⟩
 refine((zO ha w1 w2 [v0,v1] hl (globs_rel hL)).calls fun _ d hd=>by cases hd).mono fun e W' ⟨he,hbl⟩=>?_
 refine⟨_,he,[d0,d1],[],_,[],p0++(p1++[]),[],hW',?_,?_,rfl,hbl.frame _,fun h=>by cases h⟩
 ·exact trodAll_cons_mk (shut_bool Tryz.underlying4 _) trodAll_mk0
 ·exact trodAll_cons_mk (again small26 h0 (fun x hx=>hlt x (by simp[hx])) hbl) (trodAll_cons_mk (again small39 h1 (fun x hx=>hlt x (by simp[hx])) hbl) trodAll_mk0)
theorem reads4(os:Os){H:Type}(enc:TypeId×Value→H):∃places,DataW.whole enc Tryz.prog ((laidWorld os).forCall (fun _ _=>0) ⟨#[], #[.agg #[.slice none 0 0,.slice none 0 0,.slice none 0 0],.slice none 0 0],[]⟩).memory Tryz.f4.params.toList Rows.hornFilledSpec.vars false (#[.agg #[.slice none 0 0,.slice none 0 0,.slice none 0 0],.slice none 0 0]:Array Value).toList 8=some ([.agg [.nil,.nil,.nil],.nil],[],places):=
 ⟨[],kr⟩
theorem xG(os:Os)(started:os.Started)(H:Type)(enc:TypeId×Value→H)(F:Stop.Interp):
  ReturnsInHanded {} Tryz.checked os 4 .any ((Rows.OpenSpec.upto Rows.hornFilledSpec).preRow enc Tryz.prog Tryz.f4 Rows.hornFilledUptoRow.domain false Rows.hornFilledUptoRow.laid) (((Rows.OpenSpec.upto Rows.hornFilledSpec).at F).post enc Tryz.prog Tryz.f4 false true false false):=by
 obtain⟨places,hx⟩:=reads4 os enc
 refine returnsInHanded_of_row (C:=Tryz.checked) (s:=Rows.OpenSpec.upto Rows.hornFilledSpec) own started kr Tryz.func4
  (witness_row_atRef (enc:=enc) (C:=Tryz.checked) false (laidWorld os) #[.agg #[.slice none 0 0,.slice none 0 0,.slice none 0 0],.slice none 0 0] rfl kr kr kr
   (OpenSpec.preRow_of_cond 8 hx kr (fun k hk=>by cases hk;kernel_rfl) kr (laid_met os _))) ?_
 intro W base args ds gs before hval hW _ hcond _ hL _ _
 exact contract4 H enc W base args ds gs before hval hW (hcond _ rfl) hL
end
end Go.Proofs.YtkhblipgiijoiaaGreatDoor
