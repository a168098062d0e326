/-
  PROVED: THE CARD OF 'liquidchecklaw44.HornChecks' IN ITS SECOND FORM ('Rows.HornChecksUptoCardSaid'): called with any horn system and any name, the law returns true, and the arguments read afterwards as they read before.
  CONDITIONS: what is read (the arguments) holds at most 1048576 values and letters, each counted each time it is reached; the listed package variables hold what the program's text lays (tied in the given text Tie).
-/
import Derived.Test.YtkhblipgiijoiaaGreatDoorL3
import Derived.Test.YtkhblipgiijoiaaGreatDoorF1
import Derived.Test.YtkhblipgiijoiaaGreatDoorCards
import Derived.Test.YtkhblipgiijoiaaGreatDoorTie

set_option linter.all false
namespace Go.Proofs.YtkhblipgiijoiaaGreatDoor
open Go
set_option maxRecDepth 100000
set_option maxHeartbeats 0
theorem Im:Tryz.pinned.checked.prog.funcNamed Rows.hornChecksUptoRow.func=some 3:=by kernel_rfl
theorem aNB:Tryz.f3.isInstance Tryz.pinned.checked.prog Rows.hornChecksUptoRow.origin Rows.hornChecksUptoRow.targs:=of_decide_eq_true (by kernel_rfl)
theorem aKY:Tryz.f3.isWrapper Tryz.pinned.checked.prog Rows.hornChecksUptoRow.wrapper Rows.hornChecksUptoRow.mainSum:=by
 unfold Func.isWrapper
 first
  |(rw[if_pos (by decide+kernel)];kernel_rfl)
  |(rw[if_neg (by decide+kernel)];exact⟨rfl,rfl⟩)
theorem Tt:Rows.HornChecksUptoSaid:=
 OpenClaim.holds_of_cond 3 Tryz.f3 rfl rfl rfl rfl rfl rfl rfl ⟨rfl,rfl,rfl,rfl,rfl⟩ rfl rfl rfl rfl rfl Im Tryz.func3 aEC aNB aKY
  (fun os started H enc _ F=>by rw[OpenClaim.pre_eq_preRow];exact Dv os started H enc F)
theorem plain(f:FuncId)(fn:Func)(hf:Tryz.pinned.checked.prog.funcNamed Rows.hornChecksUptoRow.func=some f)(hfn:Tryz.pinned.checked.prog.funcs[f]? =some fn):
  true=Tryz.pinned.checked.prog.looks []∧∀(j:Nat) t,fn.params[j]? =some t→Tryz.pinned.checked.prog.wantsStandIn t=false:=by
 obtain rfl:f=3:=Option.some.inj (Im.symm.trans hf)|>.symm
 obtain rfl:fn=Tryz.f3:=(Option.some.inj (Tryz.func3.symm.trans hfn)).symm
 refine⟨by kernel_rfl,fun j t ht=>?_⟩
 rw[Tryz.params3] at ht
 have hm:=Array.mem_of_getElem? ht
 simp only[List.mem_toArray,List.mem_cons,List.mem_nil_iff,or_false] at hm
 rcases hm with rfl|rfl
 ·exact(show Tryz.prog.wantsStandIn 26=false by kernel_rfl)
 ·exact(show Tryz.prog.wantsStandIn 9=false by kernel_rfl)
theorem Rd:Tryz.prog.funcs.toList.all (fun f=> !f.goes)=true:=by kernel_rfl
theorem Vm(fn:Func)(h:fn∈Tryz.prog.funcs.toList):fn.goes=false:=by
 have:=List.all_eq_true.1 Rd fn h
 simpa using this
theorem aHO(P:Program)(hall:∀fn∈P.funcs.toList,fn.goes=false)(f:FuncId):P.goes f=false:=by
 have h1:∀g:FuncId,(P.funcs[g]?).any Func.goes=false:=fun g=>by
  cases hg:P.funcs[g]? with
  |none=>rfl
  |some fn=>exact hall fn (Array.mem_toList_iff.2 (Array.mem_of_getElem? hg))
 have h2:P.funcs.any Func.goes=false:=by
  rw[Array.any_eq_false]
  intro i hi
  rw[hall _ (Array.mem_toList_iff.2 (Array.getElem_mem hi))]
  decide
 unfold Program.goes
 rw[h2,Bool.and_false,Bool.or_false,List.any_eq_false]
 intro g _
 rw[h1 g]
 decide
theorem aBN(P:Program)(c:OpenClaim)(f:FuncId)(hf:P.funcNamed c.func=some f)(hs:c.start=.entering)(h:P.goes f=false):false=c.goesBy P:=by
 unfold OpenClaim.goesBy Program.goesAt Program.goesFrom
 rw[hf,hs]
 simp only[Option.any_some,h,Bool.or_false]
theorem Zz:Tryz.pinned.checked.prog=Tryz.prog:=by kernel_rfl
theorem aND:false=Rows.hornChecksUptoRow.goesBy Tryz.pinned.checked.prog:=
 aBN _ _ 3 Im rfl (aHO _ (fun fn h=>by rw[Zz] at h;exact Vm fn h) 3)
theorem aFM:Rows.hornChecksUptoRow.wfByText (Rows.OpenSpec.upto Rows.hornChecksSpec)=true:=by kernel_rfl
theorem aMW:Tryz.pinned.checked.prog.mainIs=some (true,"348626ef4b9d190d6a422795fa3757d33700747a4cdde3f49ebde42e07528e96".toList):=by kernel_rfl
theorem hornChecks_card:Rows.HornChecksUptoCardSaid:=
 Claim7.holds_tied_plain_at .later [] _ _ _ _ Tt (fun _ h=>by cases h) aFM (fun _ h=>by cases h) hornChecksUpto_row_tie rfl ⟨rfl,rfl⟩ aMW rfl plain aND
end Go.Proofs.YtkhblipgiijoiaaGreatDoor
