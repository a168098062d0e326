/-
  PROVED: THE CARD OF 'liquidchecklaw44.HornFilled' IN ITS SECOND FORM ('Rows.HornFilledUptoCardSaid'): called with any horn system and any solutions, the law returns true, and the arguments read afterwards as they read before.
  CONDITIONS: what is read (the arguments) holds at most 1048576 values and letters, each counted each time it is reached; the listed package variables hold what the program's text lays (tied in the given text Tie).
-/
import Derived.Test.YtkhblipgiijoiaaGreatDoorL3
import Derived.Test.YtkhblipgiijoiaaGreatDoorF1
import Derived.Test.YtkhblipgiijoiaaGreatDoorCards
import Derived.Test.YtkhblipgiijoiaaGreatDoorTie

set_option linter.all false
namespace Go.Proofs.YtkhblipgiijoiaaGreatDoor
open Go
set_option maxRecDepth 100000
set_option maxHeartbeats 0
theorem zK:Tryz.pinned.checked.prog.funcNamed Rows.hornFilledUptoRow.func=some 4:=by kernel_rfl
theorem inst4:Tryz.f4.isInstance Tryz.pinned.checked.prog Rows.hornFilledUptoRow.origin Rows.hornFilledUptoRow.targs:=of_decide_eq_true (by kernel_rfl)
theorem wrap4:Tryz.f4.isWrapper Tryz.pinned.checked.prog Rows.hornFilledUptoRow.wrapper Rows.hornFilledUptoRow.mainSum:=by
 unfold Func.isWrapper
 first
  |(rw[if_pos (by decide+kernel)];kernel_rfl)
  |(rw[if_neg (by decide+kernel)];exact⟨rfl,rfl⟩)
theorem saidUpto:Rows.HornFilledUptoSaid:=
 OpenClaim.holds_of_cond 4 Tryz.f4 rfl rfl rfl rfl rfl rfl rfl ⟨rfl,rfl,rfl,rfl,rfl⟩ rfl rfl rfl rfl rfl zK Tryz.func4 closed inst4 wrap4
  (fun os started H enc _ F=>by rw[OpenClaim.pre_eq_preRow];exact xG os started H enc F)
theorem plain(f:FuncId)(fn:Func)(hf:Tryz.pinned.checked.prog.funcNamed Rows.hornFilledUptoRow.func=some f)(hfn:Tryz.pinned.checked.prog.funcs[f]? =some fn):
  true=Tryz.pinned.checked.prog.looks []∧∀(j:Nat) t,fn.params[j]? =some t→Tryz.pinned.checked.prog.wantsStandIn t=false:=by
 obtain rfl:f=4:=Option.some.inj (zK.symm.trans hf)|>.symm
 obtain rfl:fn=Tryz.f4:=(Option.some.inj (Tryz.func4.symm.trans hfn)).symm
 refine⟨by kernel_rfl,fun j t ht=>?_⟩
 rw[Tryz.params4] at ht
 have hm:=Array.mem_of_getElem? ht
 simp only[List.mem_toArray,List.mem_cons,List.mem_nil_iff,or_false] at hm
 rcases hm with rfl|rfl
 ·exact(show Tryz.prog.wantsStandIn 26=false by kernel_rfl)
 ·exact(show Tryz.prog.wantsStandIn 39=false by kernel_rfl)
theorem none_goes:Tryz.prog.funcs.toList.all (fun f=> !f.goes)=true:=by kernel_rfl
theorem goes_not(fn:Func)(h:fn∈Tryz.prog.funcs.toList):fn.goes=false:=by
 have:=List.all_eq_true.1 none_goes fn h
 simpa using this
theorem goes_f(P:Program)(hall:∀fn∈P.funcs.toList,fn.goes=false)(f:FuncId):P.goes f=false:=by
 have h1:∀g:FuncId,(P.funcs[g]?).any Func.goes=false:=fun g=>by
  cases hg:P.funcs[g]? with
  |none=>rfl
  |some fn=>exact hall fn (Array.mem_toList_iff.2 (Array.mem_of_getElem? hg))
 have h2:P.funcs.any Func.goes=false:=by
  rw[Array.any_eq_false]
  intro i hi
  rw[hall _ (Array.mem_toList_iff.2 (Array.getElem_mem hi))]
  decide
 unfold Program.goes
 rw[h2,Bool.and_false,Bool.or_false,List.any_eq_false]
 intro g _
 rw[h1 g]
 decide
theorem goes_by(P:Program)(c:OpenClaim)(f:FuncId)(hf:P.funcNamed c.func=some f)(hs:c.start=.entering)(h:P.goes f=false):false=c.goesBy P:=by
 unfold OpenClaim.goesBy Program.goesAt Program.goesFrom
 rw[hf,hs]
 simp only[Option.any_some,h,Bool.or_false]
theorem prog_eq:Tryz.pinned.checked.prog=Tryz.prog:=by kernel_rfl
theorem goes4:false=Rows.hornFilledUptoRow.goesBy Tryz.pinned.checked.prog:=
 goes_by _ _ 4 zK rfl (goes_f _ (fun fn h=>by rw[prog_eq] at h;exact goes_not fn h) 4)
theorem wfText:Rows.hornFilledUptoRow.wfByText (Rows.OpenSpec.upto Rows.hornFilledSpec)=true:=by kernel_rfl
theorem main4:Tryz.pinned.checked.prog.mainIs=some (true,"348626ef4b9d190d6a422795fa3757d33700747a4cdde3f49ebde42e07528e96".toList):=by kernel_rfl
theorem hornFilled_card:Rows.HornFilledUptoCardSaid:=
 Claim7.holds_tied_plain_at .later [] _ _ _ _ saidUpto (fun _ h=>by cases h) wfText (fun _ h=>by cases h) hornFilledUpto_row_tie rfl ⟨rfl,rfl⟩ main4 rfl plain goes4
end Go.Proofs.YtkhblipgiijoiaaGreatDoor
