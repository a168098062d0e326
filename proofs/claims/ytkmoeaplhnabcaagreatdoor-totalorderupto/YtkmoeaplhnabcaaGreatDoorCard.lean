/-
  PROVED: THE CARD OF 'liquidchecklaw50.TotalOrder' IN ITS SECOND FORM ('Rows.TotalOrderUptoCardSaid'): called with any module, the law returns true, and the argument reads afterwards as it read before.
  CONDITIONS: what is read (the argument) holds at most 1048576 values and letters, each counted each time it is reached; the listed package variables hold what the program's text lays (tied, fact by fact, in the text T2).
-/
import Derived.Test.YtkmoeaplhnabcaaGreatDoorL3
import Derived.Test.YtkmoeaplhnabcaaGreatDoorF1
import Derived.Test.YtkmoeaplhnabcaaGreatDoorCards
import Derived.Test.YtkmoeaplhnabcaaGreatDoorT2

set_option linter.all false
namespace Go.Proofs.YtkmoeaplhnabcaaGreatDoor
open Go
set_option maxRecDepth 100000
set_option maxHeartbeats 0
theorem tu:Tryz.pinned.checked.prog.funcNamed Rows.totalOrderUptoRow.func=some 4:=by kernel_rfl
theorem Rt:Tryz.f4.isInstance Tryz.pinned.checked.prog Rows.totalOrderUptoRow.origin Rows.totalOrderUptoRow.targs:=of_decide_eq_true (by kernel_rfl)
theorem Oe:Tryz.f4.isWrapper Tryz.pinned.checked.prog Rows.totalOrderUptoRow.wrapper Rows.totalOrderUptoRow.mainSum:=by
 unfold Func.isWrapper
 first
  |(rw[if_pos (by decide+kernel)];kernel_rfl)
  |(rw[if_neg (by decide+kernel)];exact⟨rfl,rfl⟩)
theorem yC:Rows.TotalOrderUptoSaid:=
 OpenClaim.holds_of_cond 4 Tryz.f4 rfl rfl rfl rfl rfl rfl rfl ⟨rfl,rfl,rfl,rfl,rfl⟩ rfl rfl rfl rfl rfl tu Tryz.func4 Hw Rt Oe
  (fun os started H enc _ F=>by rw[OpenClaim.pre_eq_preRow];exact rT os started H enc F)
theorem plain(f:FuncId)(fn:Func)(hf:Tryz.pinned.checked.prog.funcNamed Rows.totalOrderUptoRow.func=some f)(hfn:Tryz.pinned.checked.prog.funcs[f]? =some fn):
  true=Tryz.pinned.checked.prog.looks []∧∀(j:Nat) t,fn.params[j]? =some t→Tryz.pinned.checked.prog.wantsStandIn t=false:=by
 obtain rfl:f=4:=Option.some.inj (tu.symm.trans hf)|>.symm
 obtain rfl:fn=Tryz.f4:=(Option.some.inj (Tryz.func4.symm.trans hfn)).symm
 refine⟨by kernel_rfl,fun j t ht=>?_⟩
 rw[Tryz.params4] at ht
 have hm:=Array.mem_of_getElem? ht
 simp only[List.mem_toArray,List.mem_cons,List.mem_nil_iff,or_false] at hm
 subst hm
 exact(show Tryz.prog.wantsStandIn 29=false by kernel_rfl)
theorem xE:Tryz.prog.funcs.toList.all (fun f=> !f.goes)=true:=by kernel_rfl
theorem zI(fn:Func)(h:fn∈Tryz.prog.funcs.toList):fn.goes=false:=by
 have:=List.all_eq_true.1 xE fn h
 simpa using this
theorem Lf(P:Program)(hall:∀fn∈P.funcs.toList,fn.goes=false)(f:FuncId):P.goes f=false:=by
 have h1:∀g:FuncId,(P.funcs[g]?).any Func.goes=false:=fun g=>by
  cases hg:P.funcs[g]? with
  |none=>rfl
  |some fn=>exact hall fn (Array.mem_toList_iff.2 (Array.mem_of_getElem? hg))
 have h2:P.funcs.any Func.goes=false:=by
  rw[Array.any_eq_false]
  intro i hi
  rw[hall _ (Array.mem_toList_iff.2 (Array.getElem_mem hi))]
  decide
 unfold Program.goes
 rw[h2,Bool.and_false,Bool.or_false,List.any_eq_false]
 intro g _
 rw[h1 g]
 decide
theorem Hb(P:Program)(c:OpenClaim)(f:FuncId)(hf:P.funcNamed c.func=some f)(hs:c.start=.entering)(h:P.goes f=false):false=c.goesBy P:=by
 unfold OpenClaim.goesBy Program.goesAt Program.goesFrom
 rw[hf,hs]
 simp only[Option.any_some,h,Bool.or_false]
theorem Fq:Tryz.pinned.checked.prog=Tryz.prog:=by kernel_rfl
theorem Ru:false=Rows.totalOrderUptoRow.goesBy Tryz.pinned.checked.prog:=
 Hb _ _ 4 tu rfl (Lf _ (fun fn h=>by rw[Fq] at h;exact zI fn h) 4)
theorem Jb:Rows.totalOrderUptoRow.wfByText (Rows.OpenSpec.upto Rows.totalOrderSpec)=true:=by kernel_rfl
theorem Rf:Tryz.pinned.checked.prog.mainIs=some (true,"d4338fdbcc6555569c8dcf049e2323abdb5bffc61593af1f8b8274242fa9767c".toList):=by kernel_rfl
theorem totalOrder_card:Rows.TotalOrderUptoCardSaid:=
 Claim7.holds_tied_plain_at .later [] _ _ _ _ yC (fun _ h=>by cases h) Jb (fun _ h=>by cases h) totalOrderUpto_row_tie rfl ⟨rfl,rfl⟩ Rf rfl plain Ru
end Go.Proofs.YtkmoeaplhnabcaaGreatDoor
