/-
  PROVED: THE CARD OF 'liquidchecklaw50.TotalGroups' IN ITS SECOND FORM ('Rows.TotalGroupsUptoCardSaid'): called with any module and any name, the law returns true, and the arguments read afterwards as they read before.
  CONDITIONS: what is read (the arguments) holds at most 1048576 values and letters, each counted each time it is reached; the listed package variables hold what the program's text lays (tied, fact by fact, in the text T2).
-/
import Derived.Test.YtkmoeaplhnabcaaGreatDoorL3
import Derived.Test.YtkmoeaplhnabcaaGreatDoorF1
import Derived.Test.YtkmoeaplhnabcaaGreatDoorCards
import Derived.Test.YtkmoeaplhnabcaaGreatDoorT2

set_option linter.all false
namespace Go.Proofs.YtkmoeaplhnabcaaGreatDoor
open Go
set_option maxRecDepth 100000
set_option maxHeartbeats 0
theorem vU:Tryz.pinned.checked.prog.funcNamed Rows.totalGroupsUptoRow.func=some 3:=by kernel_rfl
theorem Wk:Tryz.f3.isInstance Tryz.pinned.checked.prog Rows.totalGroupsUptoRow.origin Rows.totalGroupsUptoRow.targs:=of_decide_eq_true (by kernel_rfl)
theorem Sx:Tryz.f3.isWrapper Tryz.pinned.checked.prog Rows.totalGroupsUptoRow.wrapper Rows.totalGroupsUptoRow.mainSum:=by
 unfold Func.isWrapper
 first
  |(rw[if_pos (by decide+kernel)];kernel_rfl)
  |(rw[if_neg (by decide+kernel)];exact⟨rfl,rfl⟩)
theorem zk:Rows.TotalGroupsUptoSaid:=
 OpenClaim.holds_of_cond 3 Tryz.f3 rfl rfl rfl rfl rfl rfl rfl ⟨rfl,rfl,rfl,rfl,rfl⟩ rfl rfl rfl rfl rfl vU Tryz.func3 Mc Wk Sx
  (fun os started H enc _ F=>by rw[OpenClaim.pre_eq_preRow];exact tK os started H enc F)
theorem plain(f:FuncId)(fn:Func)(hf:Tryz.pinned.checked.prog.funcNamed Rows.totalGroupsUptoRow.func=some f)(hfn:Tryz.pinned.checked.prog.funcs[f]? =some fn):
  true=Tryz.pinned.checked.prog.looks []∧∀(j:Nat) t,fn.params[j]? =some t→Tryz.pinned.checked.prog.wantsStandIn t=false:=by
 obtain rfl:f=3:=Option.some.inj (vU.symm.trans hf)|>.symm
 obtain rfl:fn=Tryz.f3:=(Option.some.inj (Tryz.func3.symm.trans hfn)).symm
 refine⟨by kernel_rfl,fun j t ht=>?_⟩
 rw[Tryz.params3] at ht
 have hm:=Array.mem_of_getElem? ht
 simp only[List.mem_toArray,List.mem_cons,List.mem_nil_iff,or_false] at hm
 rcases hm with rfl|rfl
 ·exact(show Tryz.prog.wantsStandIn 29=false by kernel_rfl)
 ·exact(show Tryz.prog.wantsStandIn 9=false by kernel_rfl)
theorem yn:Tryz.prog.funcs.toList.all (fun f=> !f.goes)=true:=by kernel_rfl
theorem Eo(fn:Func)(h:fn∈Tryz.prog.funcs.toList):fn.goes=false:=by
 have:=List.all_eq_true.1 yn fn h
 simpa using this
theorem Pt(P:Program)(hall:∀fn∈P.funcs.toList,fn.goes=false)(f:FuncId):P.goes f=false:=by
 have h1:∀g:FuncId,(P.funcs[g]?).any Func.goes=false:=fun g=>by
  cases hg:P.funcs[g]? with
  |none=>rfl
  |some fn=>exact hall fn (Array.mem_toList_iff.2 (Array.mem_of_getElem? hg))
 have h2:P.funcs.any Func.goes=false:=by
  rw[Array.any_eq_false]
  intro i hi
  rw[hall _ (Array.mem_toList_iff.2 (Array.getElem_mem hi))]
  decide
 unfold Program.goes
 rw[h2,Bool.and_false,Bool.or_false,List.any_eq_false]
 intro g _
 rw[h1 g]
 decide
theorem Lf(P:Program)(c:OpenClaim)(f:FuncId)(hf:P.funcNamed c.func=some f)(hs:c.start=.entering)(h:P.goes f=false):false=c.goesBy P:=by
 unfold OpenClaim.goesBy Program.goesAt Program.goesFrom
 rw[hf,hs]
 simp only[Option.any_some,h,Bool.or_false]
theorem Jt:Tryz.pinned.checked.prog=Tryz.prog:=by kernel_rfl
theorem Wm:false=Rows.totalGroupsUptoRow.goesBy Tryz.pinned.checked.prog:=
 Lf _ _ 3 vU rfl (Pt _ (fun fn h=>by rw[Jt] at h;exact Eo fn h) 3)
theorem Nm:Rows.totalGroupsUptoRow.wfByText (Rows.OpenSpec.upto Rows.totalGroupsSpec)=true:=by kernel_rfl
theorem Vw:Tryz.pinned.checked.prog.mainIs=some (true,"d4338fdbcc6555569c8dcf049e2323abdb5bffc61593af1f8b8274242fa9767c".toList):=by kernel_rfl
theorem totalGroups_card:Rows.TotalGroupsUptoCardSaid:=
 Claim7.holds_tied_plain_at .later [] _ _ _ _ zk (fun _ h=>by cases h) Nm (fun _ h=>by cases h) totalGroupsUpto_row_tie rfl ⟨rfl,rfl⟩ Vw rfl plain Wm
end Go.Proofs.YtkmoeaplhnabcaaGreatDoor
