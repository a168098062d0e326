/- A part of the proofs about certificates: YLawr YFi. -/
import Derived.Test.YtijpnlmmaoecgaaGreatDoorQL1
import Derived.Test.YtijpnlmmaoecgaaGreatDoorQO1
import Derived.Test.YtijpnlmmaoecgaaGreatDoorQO2
import Derived.Test.YtijpnlmmaoecgaaGreatDoorQK1
import Derived.OpenShut

set_option linter.all false

namespace Go.Proofs.YtijpnlmmaoecgaaGreatDoor
open Go Go.AM Go.ChangeShapes Go.WideShapes Go.ChangeAt Go.RowKit
set_option maxRecDepth 100000
section
variable {H : Type}
theorem again {H : Type} {enc : TypeId × Value → H} {W W' : World} {t : TypeId} {v : Value} {d : DataW H} {p : List MemPlace} (ht : t < Tryz.prog.types.size) (h : DataW.Trod enc Tryz.prog W 0 (fun _ => true) true t v d p) (hlt : ∀ x ∈ p, x.block < W.heap.size) (hb : Below W.heap.size W W') :
  DataW.Trod enc Tryz.prog W' 0 (fun b => decide (b < W.heap.size)) true t v d p := by
 obtain ⟨n, hn⟩ := h
 have hs : ∀ x ∈ p, W.sameAt W' x := fun x hx => by
  have hl := hlt x hx
  cases x with
  | cell b off => exact hb.cell (p := ⟨b, off, none⟩) hl
  | map b => exact hb.block b hl
 have h2 : DataW.Trod enc Tryz.prog W' 0 (fun _ => true) true t v d p := ⟨n, DataW.trod_carry n _ _ _ hn hs⟩
 exact h2.respare (kids_rows laidOut rowed) full ht fun x hx => decide_eq_true (hlt x hx)
theorem cert_arg {W : World} {base : Nat} {v : Value} {d : DataW H} {p : List MemPlace} {enc : TypeId × Value → H} (hv : Value.okWide Tryz.prog W .any base 27 v) (h : DataW.Trod enc Tryz.prog W 0 (fun _ => true) true 27 v d p) (hb : Rows.uptoBulk d ≤ 1048576) : ∃ c : Ce, fitCe c ∧ Rel (snapW W) nof (.agg c.cells) v := by
 obtain ⟨cs, rfl⟩ : ∃ cs : Array Value, v = .agg cs := by
  unfold Value.okWide at hv
  rw [Tryz.underlying27] at hv
  obtain ⟨cs, h, _⟩ := hv
  exact ⟨cs, h⟩
 obtain ⟨fuel, hf⟩ := h
 have hcs : (Value.agg cs).cells.toList = cs.toList := rfl
 rw [hcs] at hf
 obtain ⟨c, hp, ho, hc⟩ := ce_open fuel _ _ hf (Nat.le_trans (bulk_eq d) hb)
 refine ⟨c, hc, ?_⟩
 rw [Rel]
 exact ⟨cs.toList, by rw [Array.toArray_toList], ho, hp⟩
end
end Go.Proofs.YtijpnlmmaoecgaaGreatDoor

namespace Go.Proofs.YtijpnlmmaoecgaaGreatDoor
open Go Go.AM Go.ChangeShapes Go.WideShapes Go.ChangeAt Go.RowKit
set_option maxRecDepth 100000
theorem law6_calls {W : World} {c : Ce} (hc : fitCe c) (vals : List Value) (hl : RelL (snapW W) nof [.agg c.cells] vals) (hg : ∀ q cs, globCells q = some cs → RelC (snapW W) cs q 0) :
  CallsIn Fence.wide 0 Tryz.prog 6 vals.toArray W fun e w' => e = .returned (.bool true) ∧ Go.RowKit.Below W.heap.size W w' := by
 obtain ⟨h', ev⟩ := law6 c hc
 exact calls_of ev vals hl hg
theorem contract6 (H : Type) (enc : TypeId × Value → H) (W : World) (base : Nat) (args : Array Value) (ds gs : List (DataW H)) (before : List MemPlace)
  (hval : ∀ (j : Nat) t v, Tryz.f6.params[j]? = some t → args[j]? = some v → Value.okWide Tryz.prog W .any base t v)
  (hW : DataW.Whole enc Tryz.prog Tryz.f6.params.toList Rows.certifyBytesSpec.vars false W args.toList ds gs before) (hk : Rows.uptoSmall H (ds ++ gs) = true) (hL : laidMetH Tryz.prog Rows.certifyBytesUptoRow.laid W) :
  Calls Tryz.prog 6 args W fun e W' => ∃ v, e = .returned v ∧ Rows.certifyBytesSpec.post enc Tryz.prog Tryz.f6 false true false false W args v W' := by
 have hW' := hW
 have hlt := hW.lt
 obtain ⟨p, q, hA0, hV, rfl, hfz, hnd⟩ := hW
 have hA : DataW.TrodAll enc Tryz.prog W 0 (fun _ => true) true Tryz.f6.params.toList args.toList ds p := hA0
 rw [Tryz.params6] at hA hval
 obtain ⟨v0, vs0, d0, ds0, p0, q0, hargs, rfl, rfl, h0, r0⟩ := trodAll_cons hA
 obtain ⟨rfl, rfl, rfl⟩ := trodAll_nil r0
 obtain rfl : args = #[v0] := by cases args; simp_all
 obtain ⟨rfl, rfl⟩ := trodVars_none hV
 have hbulk : Rows.uptoBulkAll [d0] ≤ 1048576 := of_decide_eq_true hk
 simp only [Rows.uptoBulkAll] at hbulk
 obtain ⟨c, hc, hr0⟩ := cert_arg (hval 0 27 v0 rfl rfl) h0 (by omega)
 have hl : RelL (snapW W) nof [.agg c.cells] [v0] := by
  simp only [RelL]
  exact ⟨_, _, rfl, hr0, rfl⟩
 refine ((law6_calls hc [v0] hl (globs_rel hL)).calls fun _ d hd => by cases hd).mono fun e W' ⟨he, hbl⟩ => ?_
 refine ⟨_, he, [d0], [], _, [], p0 ++ [], [], hW', ?_, ?_, rfl, hbl.frame _, fun h => by cases h⟩
 ·exact trodAll_cons_mk (shut_bool Tryz.underlying4 _) trodAll_mk0
 ·exact trodAll_cons_mk (again small27 h0 (fun x hx => hlt x (by simp [hx])) hbl) trodAll_mk0
theorem reads6 (os : Os) {H : Type} (enc : TypeId × Value → H) : ∃ places, DataW.whole enc Tryz.prog ((laidWorld os).forCall (fun _ _ => 0) ⟨#[], #[.agg #[.string ⟨#[]⟩, .int .i64 0, .slice none 0 0, .slice none 0 0]], []⟩).memory Tryz.f6.params.toList Rows.certifyBytesSpec.vars false (#[.agg #[.string ⟨#[]⟩, .int .i64 0, .slice none 0 0, .slice none 0 0]] : Array Value).toList 8 = some ([.agg [.lit (.string []), .lit (.int .i64 0), .nil, .nil]], [], places) :=
 ⟨[], by kernel_rfl⟩
theorem liftedUpto6 (os : Os) (started : os.Started) (H : Type) (enc : TypeId × Value → H) (F : Stop.Interp) :
  ReturnsInHanded {} Tryz.checked os 6 .any ((Rows.OpenSpec.upto Rows.certifyBytesSpec).preRow enc Tryz.prog Tryz.f6 Rows.certifyBytesUptoRow.domain false Rows.certifyBytesUptoRow.laid) (((Rows.OpenSpec.upto Rows.certifyBytesSpec).at F).post enc Tryz.prog Tryz.f6 false true false false) := by
 obtain ⟨places, hx⟩ := reads6 os enc
 refine returnsInHanded_of_row (C := Tryz.checked) (s := Rows.OpenSpec.upto Rows.certifyBytesSpec) own started (by kernel_rfl) Tryz.func6
  (witness_row_atRef (enc := enc) (C := Tryz.checked) false (laidWorld os) #[.agg #[.string ⟨#[]⟩, .int .i64 0, .slice none 0 0, .slice none 0 0]] rfl (by kernel_rfl) (by kernel_rfl) (by kernel_rfl)
   (OpenSpec.preRow_of_cond 8 hx (by kernel_rfl) (fun k hk => by cases hk; kernel_rfl) (by kernel_rfl) (laid_met os _))) ?_
 intro W base args ds gs before hval hW _ hcond _ hL _ _
 exact contract6 H enc W base args ds gs before hval hW (hcond _ rfl) hL
end Go.Proofs.YtijpnlmmaoecgaaGreatDoor
