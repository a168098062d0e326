/- TLawrO -/
import Derived.Test.YtkmoeaplhnabcaaGreatDoorU0
import Derived.Test.YtkmoeaplhnabcaaGreatDoorA1
import Derived.Test.YtkmoeaplhnabcaaGreatDoorO2
import Derived.Test.YtkmoeaplhnabcaaGreatDoorO3
import Derived.OpenShut

set_option linter.all false
open Go.Proofs.Tryz renaming prog → i3
namespace Go.Proofs.YtkmoeaplhnabcaaGreatDoor
open Go Go.AM Go.ChangeShapes Go.WideShapes Go.ChangeAt Go.RowKit
set_option maxRecDepth 100000
theorem Dw [KR](ok:EnvOk i3 E1){W:World}{f:Nat}{l:List AV}{h':AH}(ev:Ev fun n=>enterA E1 (exec E1 n) f l .empty=some (vB true,h'))(vals:List Value)(hl:RelL (snapW W) nof l vals)(hg:∀q cs,globCells q=some cs→RelC (snapW W) cs q 0):
  CallsIn Fence.wide 0 i3 f vals.toArray W fun e w'=>e=.returned (.bool true)∧Go.RowKit.Below W.heap.size W w':=by
 obtain⟨n,hn⟩:=ev.one;refine CallsIn.mono (fV (oO ok n) hn (t:=vB true) rfl (S2:=snapW W) (fun _ _ _ h=>h) hg hl) fun e w' he=>?_
 obtain⟨x,rfl,S3,hr,hbl,_⟩:=he;rw[Rel] at hr;rw[hr.1];exact⟨rfl,hbl⟩
theorem xJ{W:World}{m:Md}(hw:dsW m.ds.l≤2^23)(hN:m.ds.l.length<2^30)(vals:List Value)(hl:RelL (snapW W) nof [.agg m.cells] vals)(hg:∀q cs,globCells q=some cs→RelC (snapW W) cs q 0):
  CallsIn Fence.wide 0 i3 4 vals.toArray W fun e w'=>e=.returned (.bool true)∧Go.RowKit.Below W.heap.size W w':=by
 obtain⟨kr,ok,h',ev⟩:=ws Ej hw hN;exact @Dw kr (@qE kr ok) W 4 _ h' ev vals hl hg
section
variable {H:Type}
theorem Tp{H:Type}{enc:TypeId×Value→H}{W W':World}{t:TypeId}{v:Value}{d:DataW H}{p:List MemPlace}(ht:t<i3.types.size)(h:DataW.Trod enc i3 W 0 (fun _=>true) true t v d p)(hlt:∀x∈p,x.block<W.heap.size)(hb:Below W.heap.size W W'):
  DataW.Trod enc i3 W' 0 (fun b=>decide (b<W.heap.size)) true t v d p:=by
 obtain⟨n,hn⟩:=h;have hs:∀x∈p,W.sameAt W' x:=fun x hx=>by
  have hl:=hlt x hx;cases x with
  |cell b off=>exact hb.cell (p:=⟨b,off,none⟩) hl
  |map b=>exact hb.block b hl
 have h2:DataW.Trod enc i3 W' 0 (fun _=>true) true t v d p:=⟨n,DataW.trod_carry n _ _ _ hn hs⟩;exact h2.respare (kids_rows Gw Qb) full ht fun x hx=>decide_eq_true (hlt x hx)
theorem Kv{W:World}{base:Nat}{v:Value}{d:DataW H}{p:List MemPlace}{enc:TypeId×Value→H}(hv:Value.okWide i3 W .any base 29 v)(h:DataW.Trod enc i3 W 0 (fun _=>true) true 29 v d p)(hb:Rows.uptoBulk d≤1048576):∃m:Md,dsW m.ds.l≤2^23∧m.ds.l.length<2^30∧Rel (snapW W) nof (.agg m.cells) v:=by
 obtain⟨cs,rfl⟩:∃cs:Array Value,v=.agg cs:=by
  unfold Value.okWide at hv;rw[Tryz.underlying29] at hv;obtain⟨cs,h,_⟩:=hv;exact⟨cs,h⟩
 obtain⟨fuel,hf⟩:=h;have hcs:(Value.agg cs).cells.toList=cs.toList:=rfl;rw[hcs] at hf;obtain⟨m,hp,ho,ha⟩:=Gt fuel _ _ hf;have hb:=Nat.le_trans (kj d) hb;have ha1:dsW m.ds.l≤bulkD d:=ha.1;have ha2:m.ds.l.length≤bulkD d:=ha.2;refine⟨m,om,om,?_⟩;rw[Rel];exact⟨cs.toList,by rw[Array.toArray_toList],ho,hp⟩
theorem xa(H:Type)(enc:TypeId×Value→H)(W:World)(base:Nat)(args:Array Value)(ds gs:List (DataW H))(before:List MemPlace)
  (hval:∀(j:Nat) t v,Tryz.f4.params[j]? =some t→args[j]? =some v→Value.okWide i3 W .any base t v)
  (hW:DataW.Whole enc i3 Tryz.f4.params.toList Rows.totalOrderSpec.vars false W args.toList ds gs before) (hk:Rows.uptoSmall H (ds++gs)=true) (hL:laidMetH i3 Rows.totalOrderUptoRow.laid W):
  Calls i3 4 args W fun e W'=>∃v,e=.returned v∧Rows.totalOrderSpec.post enc i3 Tryz.f4 false true false false W args v W':=by
 have hW':=hW;have hlt:=hW.lt;obtain⟨p,q,hA0,hV,rfl,hfz,hnd⟩:=hW;have hA:DataW.TrodAll enc i3 W 0 (fun _=>true) true Tryz.f4.params.toList args.toList ds p:=hA0;rw[Tryz.params4] at hA hval;obtain⟨v0,vs0,d0,ds0,p0,q0,hargs,rfl,rfl,h0,r0⟩:=trodAll_cons hA;obtain⟨rfl,rfl,rfl⟩:=trodAll_nil r0;obtain rfl:args= #[v0]:=by cases args;simp_all
 obtain⟨rfl,rfl⟩:=trodVars_none hV;have hbulk:Rows.uptoBulkAll [d0]≤1048576:=of_decide_eq_true hk;simp only[Rows.uptoBulkAll] at hbulk;obtain⟨m,hw,hN,hr0⟩:=Kv (hval 0 29 v0 rfl rfl) h0 om;have hl:RelL (snapW W) nof [.agg m.cells] [v0]:=au hr0 iG;refine((xJ hw hN [v0] hl (zK hL kr kr)).calls fun _ d hd=>by cases hd).mono fun e W' ⟨he,hbl⟩=>?_
 refine⟨_,he,[d0],[],_,[],p0++[],[],hW',?_,?_,rfl,hbl.frame _,fun h=>by cases h⟩
 ·exact trodAll_cons_mk (shut_bool Tryz.underlying4 _) trodAll_mk0
 ·exact trodAll_cons_mk (Tp Ff h0 (fun x hx=>hlt x (by simp[hx])) hbl) trodAll_mk0
theorem Ke(os:Os){H:Type}(enc:TypeId×Value→H):∃places,DataW.whole enc i3 ((laidWorld os).forCall (fun _ _=>0) ⟨#[], #[.agg #[.slice none 0 0,.slice none 0 0,.slice none 0 0,.slice none 0 0,.slice none 0 0,.slice none 0 0]],[]⟩).memory Tryz.f4.params.toList Rows.totalOrderSpec.vars false (#[.agg #[.slice none 0 0,.slice none 0 0,.slice none 0 0,.slice none 0 0,.slice none 0 0,.slice none 0 0]]:Array Value).toList 8=some ([.agg [.nil,.nil,.nil,.nil,.nil,.nil]],[],places):=
 ⟨[],kr⟩
theorem rT(os:Os)(started:os.Started)(H:Type)(enc:TypeId×Value→H)(F:Stop.Interp):
  ReturnsInHanded {} Tryz.checked os 4 .any ((Rows.OpenSpec.upto Rows.totalOrderSpec).preRow enc i3 Tryz.f4 Rows.totalOrderUptoRow.domain false Rows.totalOrderUptoRow.laid) (((Rows.OpenSpec.upto Rows.totalOrderSpec).at F).post enc i3 Tryz.f4 false true false false):=by
 obtain⟨places,hx⟩:=Ke os enc;refine returnsInHanded_of_row (C:=Tryz.checked) (s:=Rows.OpenSpec.upto Rows.totalOrderSpec) own started kr Tryz.func4
  (witness_row_atRef (enc:=enc) (C:=Tryz.checked) false (laidWorld os) #[.agg #[.slice none 0 0,.slice none 0 0,.slice none 0 0,.slice none 0 0,.slice none 0 0,.slice none 0 0]] rfl kr kr kr
   (OpenSpec.preRow_of_cond 8 hx kr (fun k hk=>by cases hk;kernel_rfl) kr (yz os _))) ?_
 intro W base args ds gs before hval hW _ hcond _ hL _ _;exact xa H enc W base args ds gs before hval hW (hcond _ rfl) hL
end
end Go.Proofs.YtkmoeaplhnabcaaGreatDoor
