/-
  PROVED: THE CARD OF 'liquidchecklaw46.FixpointStarts' IN ITS SECOND FORM ('Rows.FixpointStartsUptoCardSaid'): called with any set of clauses and any qualifiers, the law returns true, and the arguments read afterwards as they read before.
  CONDITIONS: what is read (the arguments) holds at most 1048576 values and letters, each counted each time it is reached; the listed package variables hold what the program's text lays (tied in the given text Tie); otherwise the row's own.
-/
import Derived.Test.YtmbabhlmdhghdaaGreatDoorL3
import Derived.Test.YtmbabhlmdhghdaaGreatDoorF1
import Derived.Test.YtmbabhlmdhghdaaGreatDoorCards
import Derived.Test.YtmbabhlmdhghdaaGreatDoorTie
set_option linter.all false
namespace Go.Proofs.YtmbabhlmdhghdaaGreatDoor
open Go
set_option maxRecDepth 100000
set_option maxHeartbeats 0
theorem aED:Tryz.pinned.checked.prog.funcNamed Rows.fixpointStartsUptoRow.func=some 3:=by kernel_rfl
theorem bRX:Tryz.f3.isInstance Tryz.pinned.checked.prog Rows.fixpointStartsUptoRow.origin Rows.fixpointStartsUptoRow.targs:=of_decide_eq_true (by kernel_rfl)
theorem bOZ:Tryz.f3.isWrapper Tryz.pinned.checked.prog Rows.fixpointStartsUptoRow.wrapper Rows.fixpointStartsUptoRow.mainSum:=by
 unfold Func.isWrapper
 first
  |(rw[if_pos (by decide+kernel)];kernel_rfl)
  |(rw[if_neg (by decide+kernel)];exact⟨rfl,rfl⟩)
theorem aSJ:Rows.FixpointStartsUptoSaid:=
 OpenClaim.holds_of_cond 3 Tryz.f3 rfl rfl rfl rfl rfl rfl rfl ⟨rfl,rfl,rfl,rfl,rfl⟩ rfl rfl rfl rfl rfl aED Tryz.func3 closed bRX bOZ
  (λos started H enc _ F=>by rw[OpenClaim.pre_eq_preRow];exact Zm os started H enc F)
theorem plain(f:FuncId)(fn:Func)(hf:Tryz.pinned.checked.prog.funcNamed Rows.fixpointStartsUptoRow.func=some f)(hfn:Tryz.pinned.checked.prog.funcs[f]? =some fn):
  true=Tryz.pinned.checked.prog.looks []/\∀(j:Nat) t,fn.params[j]? =some t->Tryz.pinned.checked.prog.wantsStandIn t=false:=by
 obtain rfl:f=3:=Option.some.inj (aED.symm.trans hf)|>.symm
 obtain rfl:fn=Tryz.f3:=(Option.some.inj (Tryz.func3.symm.trans hfn)).symm
 refine⟨by kernel_rfl,λj t ht=>?_⟩
 rw[Tryz.params3] at ht
 have hm:=Array.mem_of_getElem? ht
 simp only[List.mem_toArray,List.mem_cons,List.mem_nil_iff,or_false] at hm
 rcases hm with rfl|rfl
 ·exact(show Tryz.prog.wantsStandIn 26=false by kernel_rfl)
 ·exact(show Tryz.prog.wantsStandIn 27=false by kernel_rfl)
theorem aOC:Tryz.prog.funcs.toList.all (λf=> !f.goes)=true:=by kernel_rfl
theorem aUP(fn:Func)(h:fn∈Tryz.prog.funcs.toList):fn.goes=false:=by
 have:=List.all_eq_true.1 aOC fn h
 simpa using this
theorem bLF(P:Program)(hall:∀fn∈P.funcs.toList,fn.goes=false)(f:FuncId):P.goes f=false:=by
 have h1:∀g:FuncId,(P.funcs[g]?).any Func.goes=false:=λg=>by
  cases hg:P.funcs[g]? with
  |none=>rfl
  |some fn=>exact hall fn (Array.mem_toList_iff.2 (Array.mem_of_getElem? hg))
 have h2:P.funcs.any Func.goes=false:=by
  rw[Array.any_eq_false]
  intro i hi
  rw[hall _ (Array.mem_toList_iff.2 (Array.getElem_mem hi))]
  decide
 unfold Program.goes
 rw[h2,Bool.and_false,Bool.or_false,List.any_eq_false]
 intro g _
 rw[h1 g]
 decide
theorem bEB(P:Program)(c:OpenClaim)(f:FuncId)(hf:P.funcNamed c.func=some f)(hs:c.start=.entering)(h:P.goes f=false):false=c.goesBy P:=by
 unfold OpenClaim.goesBy Program.goesAt Program.goesFrom
 rw[hf,hs]
 simp only[Option.any_some,h,Bool.or_false]
theorem bCM:Tryz.pinned.checked.prog=Tryz.prog:=by kernel_rfl
theorem bRY:false=Rows.fixpointStartsUptoRow.goesBy Tryz.pinned.checked.prog:=
 bEB _ _ 3 aED rfl (bLF _ (λfn h=>by rw[bCM] at h;exact aUP fn h) 3)
theorem bJG:Rows.fixpointStartsUptoRow.wfByText (Rows.OpenSpec.upto Rows.fixpointStartsSpec)=true:=by kernel_rfl
theorem bRT:Tryz.pinned.checked.prog.mainIs=some (true,"089f460423ae8f908a72b568a9c53cae3805e701ce78de46cf002cc52976d32a".toList):=by kernel_rfl
theorem fixpointStarts_card:Rows.FixpointStartsUptoCardSaid:=
 Claim7.holds_tied_plain_at .later [] _ _ _ _ aSJ (λ_ h=>by cases h) bJG (λ_ h=>by cases h) fixpointStartsUpto_row_tie rfl ⟨rfl,rfl⟩ bRT rfl plain bRY
end Go.Proofs.YtmbabhlmdhghdaaGreatDoor
