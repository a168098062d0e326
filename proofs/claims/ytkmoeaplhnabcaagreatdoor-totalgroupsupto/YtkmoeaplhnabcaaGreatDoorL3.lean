/- TLawrG -/
import Derived.Test.YtkmoeaplhnabcaaGreatDoorU0
import Derived.Test.YtkmoeaplhnabcaaGreatDoorA1
import Derived.Test.YtkmoeaplhnabcaaGreatDoorO2
import Derived.Test.YtkmoeaplhnabcaaGreatDoorO3
import Derived.OpenShut

set_option linter.all false
open Go.Proofs.Tryz renaming prog → i3
namespace Go.Proofs.YtkmoeaplhnabcaaGreatDoor
open Go Go.AM Go.ChangeShapes Go.WideShapes Go.ChangeAt Go.RowKit
set_option maxRecDepth 100000
theorem Ie [KR](ok:EnvOk i3 E1){W:World}{f:Nat}{l:List AV}{h':AH}(ev:Ev fun n=>enterA E1 (exec E1 n) f l .empty=some (vB true,h'))(vals:List Value)(hl:RelL (snapW W) nof l vals)(hg:∀q cs,globCells q=some cs→RelC (snapW W) cs q 0):
  CallsIn Fence.wide 0 i3 f vals.toArray W fun e w'=>e=.returned (.bool true)∧Go.RowKit.Below W.heap.size W w':=by
 obtain⟨n,hn⟩:=ev.one;refine CallsIn.mono (fo (pV ok n) hn (t:=vB true) rfl (S2:=snapW W) (fun _ _ _ h=>h) hg hl) fun e w' he=>?_
 obtain⟨x,rfl,S3,hr,hbl,_⟩:=he;rw[Rel] at hr;rw[hr.1];exact⟨rfl,hbl⟩
theorem yt{W:World}{m:Md}(hw:dsW m.ds.l≤2^23)(hN:m.ds.l.length<2^30)(x:ByteArray)(hx:x.size<2^60)(vals:List Value)(hl:RelL (snapW W) nof [.agg m.cells,vS x] vals)(hg:∀q cs,globCells q=some cs→RelC (snapW W) cs q 0):
  CallsIn Fence.wide 0 i3 3 vals.toArray W fun e w'=>e=.returned (.bool true)∧Go.RowKit.Below W.heap.size W w':=by
 obtain⟨kr,ok,h',ev⟩:=vg Is hw hN x hx;exact @Ie kr (@rj kr ok) W 3 _ h' ev vals hl hg
section
variable {H:Type}
theorem Nl{H:Type}{enc:TypeId×Value→H}{W W':World}{t:TypeId}{v:Value}{d:DataW H}{p:List MemPlace}(ht:t<i3.types.size)(h:DataW.Trod enc i3 W 0 (fun _=>true) true t v d p)(hlt:∀x∈p,x.block<W.heap.size)(hb:Below W.heap.size W W'):
  DataW.Trod enc i3 W' 0 (fun b=>decide (b<W.heap.size)) true t v d p:=by
 obtain⟨n,hn⟩:=h;have hs:∀x∈p,W.sameAt W' x:=fun x hx=>by
  have hl:=hlt x hx;cases x with
  |cell b off=>exact hb.cell (p:=⟨b,off,none⟩) hl
  |map b=>exact hb.block b hl
 have h2:DataW.Trod enc i3 W' 0 (fun _=>true) true t v d p:=⟨n,DataW.trod_carry n _ _ _ hn hs⟩;exact h2.respare (kids_rows Kw Us) full ht fun x hx=>decide_eq_true (hlt x hx)
theorem Pl{W:World}{base:Nat}{v:Value}{d:DataW H}{p:List MemPlace}{enc:TypeId×Value→H}(hv:Value.okWide i3 W .any base 29 v)(h:DataW.Trod enc i3 W 0 (fun _=>true) true 29 v d p)(hb:Rows.uptoBulk d≤1048576):∃m:Md,dsW m.ds.l≤2^23∧m.ds.l.length<2^30∧Rel (snapW W) nof (.agg m.cells) v:=by
 obtain⟨cs,rfl⟩:∃cs:Array Value,v=.agg cs:=by
  unfold Value.okWide at hv;rw[Tryz.underlying29] at hv;obtain⟨cs,h,_⟩:=hv;exact⟨cs,h⟩
 obtain⟨fuel,hf⟩:=h;have hcs:(Value.agg cs).cells.toList=cs.toList:=rfl;rw[hcs] at hf;obtain⟨m,hp,ho,ha⟩:=Ku fuel _ _ hf;have hb:=Nat.le_trans (iZ d) hb;have ha1:dsW m.ds.l≤bulkD d:=ha.1;have ha2:m.ds.l.length≤bulkD d:=ha.2;refine⟨m,om,om,?_⟩;rw[Rel];exact⟨cs.toList,by rw[Array.toArray_toList],ho,hp⟩
theorem Du{W:World}{base:Nat}{v:Value}{d:DataW H}{p:List MemPlace}{enc:TypeId×Value→H}(h:DataW.Trod enc i3 W 0 (fun _=>true) true 9 v d p)(hv:Value.okWide i3 W .any base 9 v)(hb:Rows.uptoBulk d≤1048576):∃x:ByteArray,x.size<2^60∧Rel (snapW W) nof (vS x) v:=by
 unfold Value.okWide at hv;rw[Tryz.underlying9] at hv;simp only at hv;unfold Cell.okWide at hv;rw[Tryz.underlying9] at hv;unfold Cell.ok at hv;rw[Tryz.underlying9] at hv;cases v<;>first|exact hv.elim|skip
 rename_i x;refine⟨x,?_,?_⟩
 ·obtain⟨fuel,hf⟩:=h;obtain⟨s,e,e2,_⟩:=DataW.trod_string sJ hf;have e:[Value.string x]=[Value.string s]:=e;injection e with e _;injection e with e;subst e;cases e2
  have hb:=Nat.le_trans (iZ _) hb;have es:x.data.toList.length=x.size:=rfl;simp only[bulkD] at hb;omega
 ·rw[Rel];exact⟨rfl,rfl⟩
theorem zH(H:Type)(enc:TypeId×Value→H)(W:World)(base:Nat)(args:Array Value)(ds gs:List (DataW H))(before:List MemPlace)
  (hval:∀(j:Nat) t v,Tryz.f3.params[j]? =some t→args[j]? =some v→Value.okWide i3 W .any base t v)
  (hW:DataW.Whole enc i3 Tryz.f3.params.toList Rows.totalGroupsSpec.vars false W args.toList ds gs before) (hk:Rows.uptoSmall H (ds++gs)=true) (hL:laidMetH i3 Rows.totalGroupsUptoRow.laid W):
  Calls i3 3 args W fun e W'=>∃v,e=.returned v∧Rows.totalGroupsSpec.post enc i3 Tryz.f3 false true false false W args v W':=by
 have hW':=hW;have hlt:=hW.lt;obtain⟨p,q,hA0,hV,rfl,hfz,hnd⟩:=hW;have hA:DataW.TrodAll enc i3 W 0 (fun _=>true) true Tryz.f3.params.toList args.toList ds p:=hA0;rw[Tryz.params3] at hA hval;obtain⟨v0,vs0,d0,ds0,p0,q0,hargs,rfl,rfl,h0,r0⟩:=trodAll_cons hA;obtain⟨v1,vs1,d1,ds1,p1,q1,rfl,rfl,rfl,h1,r1⟩:=trodAll_cons r0;obtain⟨rfl,rfl,rfl⟩:=trodAll_nil r1;obtain rfl:args= #[v0,v1]:=by cases args;simp_all
 obtain⟨rfl,rfl⟩:=trodVars_none hV;have hbulk:Rows.uptoBulkAll [d0,d1]≤1048576:=of_decide_eq_true hk;simp only[Rows.uptoBulkAll] at hbulk;obtain⟨m,hw,hN,hr0⟩:=Pl (hval 0 29 v0 rfl rfl) h0 om;obtain⟨x,hx,hr1⟩:=Du h1 (hval 1 9 v1 rfl rfl) om;have hl:RelL (snapW W) nof [.agg m.cells,vS x] [v0,v1]:=ar hr0 (ar hr1 jH);refine((yt hw hN x hx [v0,v1] hl (Er hL kr kr)).calls fun _ d hd=>by cases hd).mono fun e W' ⟨he,hbl⟩=>?_
 refine⟨_,he,[d0,d1],[],_,[],p0++(p1++[]),[],hW',?_,?_,rfl,hbl.frame _,fun h=>by cases h⟩
 ·exact trodAll_cons_mk (shut_bool Tryz.underlying4 _) trodAll_mk0
 ·exact trodAll_cons_mk (Nl Jj h0 (fun x hx=>hlt x (by simp[hx])) hbl) (trodAll_cons_mk (Nl Og h1 (fun x hx=>hlt x (by simp[hx])) hbl) trodAll_mk0)
theorem Ot(os:Os){H:Type}(enc:TypeId×Value→H):∃places,DataW.whole enc i3 ((laidWorld os).forCall (fun _ _=>0) ⟨#[], #[.agg #[.slice none 0 0,.slice none 0 0,.slice none 0 0,.slice none 0 0,.slice none 0 0,.slice none 0 0],.string ⟨#[]⟩],[]⟩).memory Tryz.f3.params.toList Rows.totalGroupsSpec.vars false (#[.agg #[.slice none 0 0,.slice none 0 0,.slice none 0 0,.slice none 0 0,.slice none 0 0,.slice none 0 0],.string ⟨#[]⟩]:Array Value).toList 8=some ([.agg [.nil,.nil,.nil,.nil,.nil,.nil],.lit (.string [])],[],places):=
 ⟨[],kr⟩
theorem tK(os:Os)(started:os.Started)(H:Type)(enc:TypeId×Value→H)(F:Stop.Interp):
  ReturnsInHanded {} Tryz.checked os 3 .any ((Rows.OpenSpec.upto Rows.totalGroupsSpec).preRow enc i3 Tryz.f3 Rows.totalGroupsUptoRow.domain false Rows.totalGroupsUptoRow.laid) (((Rows.OpenSpec.upto Rows.totalGroupsSpec).at F).post enc i3 Tryz.f3 false true false false):=by
 obtain⟨places,hx⟩:=Ot os enc;refine returnsInHanded_of_row (C:=Tryz.checked) (s:=Rows.OpenSpec.upto Rows.totalGroupsSpec) own started kr Tryz.func3
  (witness_row_atRef (enc:=enc) (C:=Tryz.checked) false (laidWorld os) #[.agg #[.slice none 0 0,.slice none 0 0,.slice none 0 0,.slice none 0 0,.slice none 0 0,.slice none 0 0],.string ⟨#[]⟩] rfl kr kr kr
   (OpenSpec.preRow_of_cond 8 hx kr (fun k hk=>by cases hk;kernel_rfl) kr (Ed os _))) ?_
 intro W base args ds gs before hval hW _ hcond _ hL _ _;exact zH H enc W base args ds gs before hval hW (hcond _ rfl) hL
end
end Go.Proofs.YtkmoeaplhnabcaaGreatDoor
