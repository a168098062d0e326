/- VLawr -/
import Derived.Test.YtmbabhlmdhghdaaGreatDoorO2
import Derived.OpenShut
set_option linter.all false
open Prod.mk renaming injEq->pI
open Option renaming some->Z, none->Y
open Bool renaming true->J, false->U
open Go.Proofs.Tryz renaming prog->ib
namespace Go.Proofs.YtmbabhlmdhghdaaGreatDoor
open Go Go.AM Go.ChangeShapes Go.WideShapes Go.ChangeAt Go.RowKit
set_option maxRecDepth 100000
theorem bSJ:lM ib E1:=
 ⟨rfl,⟨λt name g h=>Cu.iG.m t name g (show findM t name E0.mth=Z g from h),λg x w h=>Cu.iG.x1 g x w (show E0.noEscF=Z g from h),λg e n w h=>Cu.iG.x2 g e n w (show E0.mkNZF=Z (g,e) from h)⟩,λg n h=>Cu.idle g n (show E0.idle.get g=Z n from h),λg l r h=>by
  have:=Ci (show lookT [(5,[],Vb J)] g l=Z r from h);rw[List.mem_singleton,pI,pI] at this;obtain⟨rfl,rfl,rfl⟩:=this;exact(show oG ib E0.aY 5 [] (Vb J) from bAD),Cu.mixed⟩
theorem aZS{W:World}{f:Nat}{l:List AV}{h':AH}(ev:Ev λn=>bh E1 (exec E1 n) f l .empty=Z (Vb J,h'))(ag:List Value)(hl:aZ (fN W) nof l ag)(hg:∀q cs,jD q=Z cs->cD (fN W) cs q 0):
  CallsIn Fence.wide 0 ib f ag.toArray W λe w'=>e=.returned (.bool J)/\Go.RowKit.Below W.heap.size W w':=by
 obtain⟨n,hn⟩:=ev.one;refine CallsIn.mono (yH (Qm bSJ n) hn (t:=Vb J) rfl (S2:=fN W) (λ_ _ _ h=>h) hg hl) λe w' he=>?_
 obtain⟨x,rfl,S3,hr,hbl,_⟩:=he;rw[Rel] at hr;rw[hr.1];exact⟨rfl,hbl⟩
theorem live:Live:=λh=>by
 have hk:E1.known 5 []=Z (Vb J):=kr;have hs:E1.shared.get 5=Y:=kr;refine Ev.of λn=>?_
 simp only[bY,fD,hs,List.foldl_nil,cG,hk];rfl
theorem aOQ{W:World}{a:Hn}(ha:HnB a){w:Vl Qu}(hw:w.l.length<2^28)(hp:∀q∈w.l,q.bd.nodes<2^28)(ag:List Value)(hl:aZ (fN W) nof [.agg a.cells,w.A Qu.cells] ag)(hg:∀q cs,jD q=Z cs->cD (fN W) cs q 0):
  CallsIn Fence.wide 0 ib 3 ag.toArray W λe w'=>e=.returned (.bool J)/\Go.RowKit.Below W.heap.size W w':=by
 obtain⟨h',ev⟩:=bVX (ha.raw hw hp) live;exact aZS ev ag hl hg
theorem own:ownKnob ib.godebug=Y:=kr
theorem bDP:laidOutB ib=J:=kr
theorem bQP:mapsRowed ib=J:=kr
theorem full:∀t e,t<ib.types.size->ib.underlying t=Z (.slice e)->0<ib.cellsOf e:=slices_full_of ib kr
theorem bBU:26<ib.types.size:=of_decide_eq_true kr
theorem bBT:27<ib.types.size:=of_decide_eq_true kr
section
variable {H:Type}
theorem bIP{H:Type}{enc:TypeId×Value->H}{W W':World}{t:TypeId}{v:Value}{d:DataW H}{p:List MemPlace}(ht:t<ib.types.size)(h:DataW.Trod enc ib W 0 (λ_=>J) J t v d p)(hlt:∀x∈p,x.block<W.heap.size)(hb:Below W.heap.size W W'):
  DataW.Trod enc ib W' 0 (λb=>decide (b<W.heap.size)) J t v d p:=by
 obtain⟨n,hn⟩:=h;have hs:∀x∈p,W.sameAt W' x:=λx hx=>by
  have hl:=hlt x hx;cases x with
  |cell b off=>exact hb.cell (p:=⟨b,off,Y⟩) hl
  |map b=>exact hb.block b hl
 have h2:DataW.Trod enc ib W' 0 (λ_=>J) J t v d p:=⟨n,DataW.trod_carry n _ _ _ hn hs⟩;exact h2.respare (kids_rows bDP bQP) full ht λx hx=>decide_eq_true (hlt x hx)
theorem aUL{W:World}{base:Nat}{v:Value}{d:DataW H}{p:List MemPlace}{enc:TypeId×Value->H}(hv:Value.okWide ib W .any base 26 v)(h:DataW.Trod enc ib W 0 (λ_=>J) J 26 v d p)(hb:Rows.uptoBulk d<=1048576):∃a:Hn,HnB a/\Rel (fN W) nof (.agg a.cells) v:=by
 obtain⟨cs,rfl⟩:∃cs:Array Value,v=.agg cs:=by
  unfold Value.okWide at hv;rw[Tryz.underlying26] at hv;obtain⟨cs,h,_⟩:=hv;exact⟨cs,h⟩
 obtain⟨fuel,hf⟩:=h;have hcs:(Value.agg cs).cells.toList=cs.toList:=rfl;rw[hcs] at hf;obtain⟨a,hp,ho,ha⟩:=bEA fuel _ _ hf (Nat.le_trans (zu d) hb);refine⟨a,ha,?_⟩;rw[Rel];exact⟨cs.toList,by rw[Array.toArray_toList],ho,hp⟩
theorem aNH{W:World}{base:Nat}{v:Value}{d:DataW H}{p:List MemPlace}{enc:TypeId×Value->H}(hv:Value.okWide ib W .any base 27 v)(h:DataW.Trod enc ib W 0 (λ_=>J) J 27 v d p)(hb:Rows.uptoBulk d<=1048576):∃w:Vl Qu,Rel (fN W) nof (w.A Qu.cells) v/\w.l.length<2^28/\∀q∈w.l,q.bd.nodes<2^28:=by
 obtain⟨fuel,hf⟩:=h;have hc:v.cells.toList=[v]:=by
  unfold Value.okWide at hv;rw[aHJ] at hv;simp only at hv;unfold Cell.okWide at hv;rw[aHJ] at hv;unfold Cell.ok at hv;rw[aHJ] at hv;cases v<;>first|rfl|exact hv.elim
 rw[hc] at hf;exact aDP fuel v _ hf (Nat.le_trans (zu d) hb)
theorem aPW(H:Type)(enc:TypeId×Value->H)(W:World)(base:Nat)(args:Array Value)(ds gs:List (DataW H))(before:List MemPlace)
  (hval:∀(j:Nat) t v,Tryz.f3.params[j]? =Z t->args[j]? =Z v->Value.okWide ib W .any base t v)
  (hW:DataW.Whole enc ib Tryz.f3.params.toList Rows.fixpointStartsSpec.vars U W args.toList ds gs before) (hk:Rows.uptoSmall H (ds++gs)=J) (hL:laidMetH ib Rows.fixpointStartsUptoRow.laid W):
  Calls ib 3 args W λe W'=>∃v,e=.returned v/\Rows.fixpointStartsSpec.post enc ib Tryz.f3 U J U U W args v W':=by
 have hW':=hW;have hlt:=hW.lt;obtain⟨p,q,hA0,hV,rfl,hfz,hnd⟩:=hW;have hA:DataW.TrodAll enc ib W 0 (λ_=>J) J Tryz.f3.params.toList args.toList ds p:=hA0;rw[Tryz.params3] at hA hval;obtain⟨v0,vs0,d0,ds0,p0,q0,hargs,rfl,rfl,h0,r0⟩:=trodAll_cons hA;obtain⟨v1,vs1,d1,ds1,p1,q1,rfl,rfl,rfl,h1,r1⟩:=trodAll_cons r0;obtain⟨rfl,rfl,rfl⟩:=trodAll_nil r1;obtain rfl:args= #[v0,v1]:=by cases args;simp_all
 obtain⟨rfl,rfl⟩:=trodVars_none hV;have hbulk:Rows.uptoBulkAll [d0,d1]<=1048576:=of_decide_eq_true hk;simp only[Rows.uptoBulkAll] at hbulk;obtain⟨a,ha,hr0⟩:=aUL (hval 0 26 v0 rfl rfl) h0 om;obtain⟨w,hr1,w1,w2⟩:=aNH (hval 1 27 v1 rfl rfl) h1 om;have hl:aZ (fN W) nof [.agg a.cells,w.A Qu.cells] [v0,v1]:=by
  simp only[aZ];exact⟨_,_,rfl,hr0,_,_,rfl,hr1,rfl⟩
 refine((aOQ ha w1 w2 [v0,v1] hl (aPD hL)).calls λ_ d hd=>by cases hd).mono λe W' ⟨he,hbl⟩=>?_
 refine⟨_,he,[d0,d1],[],_,[],p0++(p1++[]),[],hW',?_,?_,rfl,hbl.frame _,λh=>by cases h⟩
 ·exact trodAll_cons_mk (shut_bool Tryz.underlying4 _) trodAll_mk0
 ·exact trodAll_cons_mk (bIP bBU h0 (λx hx=>hlt x (by simp[hx])) hbl) (trodAll_cons_mk (bIP bBT h1 (λx hx=>hlt x (by simp[hx])) hbl) trodAll_mk0)
theorem bKJ(os:Os){H:Type}(enc:TypeId×Value->H):∃places,DataW.whole enc ib ((eF os).forCall (λ_ _=>0) ⟨#[], #[.agg #[.slice Y 0 0,.slice Y 0 0,.slice Y 0 0],.slice Y 0 0],[]⟩).memory Tryz.f3.params.toList Rows.fixpointStartsSpec.vars U (#[.agg #[.slice Y 0 0,.slice Y 0 0,.slice Y 0 0],.slice Y 0 0]:Array Value).toList 8=Z ([.agg [.nil,.nil,.nil],.nil],[],places):=
 ⟨[],kr⟩
theorem Zm(os:Os)(started:os.Started)(H:Type)(enc:TypeId×Value->H)(F:Stop.Interp):
  ReturnsInHanded {} Tryz.checked os 3 .any ((Rows.OpenSpec.upto Rows.fixpointStartsSpec).preRow enc ib Tryz.f3 Rows.fixpointStartsUptoRow.domain U Rows.fixpointStartsUptoRow.laid) (((Rows.OpenSpec.upto Rows.fixpointStartsSpec).at F).post enc ib Tryz.f3 U J U U):=by
 obtain⟨places,hx⟩:=bKJ os enc;refine returnsInHanded_of_row (C:=Tryz.checked) (s:=Rows.OpenSpec.upto Rows.fixpointStartsSpec) own started kr Tryz.func3
  (witness_row_atRef (enc:=enc) (C:=Tryz.checked) U (eF os) #[.agg #[.slice Y 0 0,.slice Y 0 0,.slice Y 0 0],.slice Y 0 0] rfl kr kr kr
   (OpenSpec.preRow_of_cond 8 hx kr (λk hk=>by cases hk;kernel_rfl) kr (aUE os _))) ?_
 intro W base args ds gs before hval hW _ hcond _ hL _ _;exact aPW H enc W base args ds gs before hval hW (hcond _ rfl) hL
end
end Go.Proofs.YtmbabhlmdhghdaaGreatDoor
