/- A part of the proofs about certificates: YLawr YEc. -/
import Derived.Test.YtijpnlmmaoecgaaGreatDoorQL1
import Derived.Test.YtijpnlmmaoecgaaGreatDoorQO1
import Derived.Test.YtijpnlmmaoecgaaGreatDoorQO2
import Derived.Test.YtijpnlmmaoecgaaGreatDoorQK1
import Derived.OpenShut

set_option linter.all false

namespace Go.Proofs.YtijpnlmmaoecgaaGreatDoor
open Go Go.AM Go.ChangeShapes Go.WideShapes Go.ChangeAt Go.RowKit
set_option maxRecDepth 100000
section
variable {H : Type}
theorem again {H : Type} {enc : TypeId × Value → H} {W W' : World} {t : TypeId} {v : Value} {d : DataW H} {p : List MemPlace} (ht : t < Tryz.prog.types.size) (h : DataW.Trod enc Tryz.prog W 0 (fun _ => true) true t v d p) (hlt : ∀ x ∈ p, x.block < W.heap.size) (hb : Below W.heap.size W W') :
  DataW.Trod enc Tryz.prog W' 0 (fun b => decide (b < W.heap.size)) true t v d p := by
 obtain ⟨n, hn⟩ := h
 have hs : ∀ x ∈ p, W.sameAt W' x := fun x hx => by
  have hl := hlt x hx
  cases x with
  | cell b off => exact hb.cell (p := ⟨b, off, none⟩) hl
  | map b => exact hb.block b hl
 have h2 : DataW.Trod enc Tryz.prog W' 0 (fun _ => true) true t v d p := ⟨n, DataW.trod_carry n _ _ _ hn hs⟩
 exact h2.respare (kids_rows laidOut rowed) full ht fun x hx => decide_eq_true (hlt x hx)
theorem bytes_arg {W : World} {base : Nat} {v : Value} {d : DataW H} {p : List MemPlace} {enc : TypeId × Value → H} (hv : Value.okWide Tryz.prog W .any base 22 v) (h : DataW.Trod enc Tryz.prog W 0 (fun _ => true) true 22 v d p) : ∃ (l : List UInt8) (nl : Option (Option Addr × Nat)) (cap : Option Nat), Rel (snapW W) nof (kidsA (bytesA l) l.length nl cap) v := by
 obtain ⟨fuel, hf⟩ := h
 have hc : v.cells.toList = [v] := by
  unfold Value.okWide at hv
  rw [und22] at hv
  simp only at hv
  unfold Cell.okWide at hv
  rw [und22] at hv
  unfold Cell.ok at hv
  rw [und22] at hv
  cases v <;> first | rfl | exact hv.elim
 rw [hc] at hf
 obtain ⟨l, nl, cap, hr, _⟩ := bytes_open fuel v _ hf
 exact ⟨l, nl, cap, hr⟩
end
end Go.Proofs.YtijpnlmmaoecgaaGreatDoor

namespace Go.Proofs.YtijpnlmmaoecgaaGreatDoor
open Go Go.AM Go.ChangeShapes Go.WideShapes Go.ChangeAt Go.RowKit
set_option maxRecDepth 100000
theorem law3_calls {W : World} {b : List UInt8} {nl : Option (Option Addr × Nat)} {cap : Option Nat} (vals : List Value) (hl : RelL (snapW W) nof [kidsA (bytesA b) b.length nl cap] vals) (hg : ∀ q cs, globCells q = some cs → RelC (snapW W) cs q 0) :
  CallsIn Fence.wide 0 Tryz.prog 3 vals.toArray W fun e w' => e = .returned (.bool true) ∧ Go.RowKit.Below W.heap.size W w' := by
 obtain ⟨h', ev⟩ := law3 b nl cap
 exact calls_of ev vals hl hg
theorem contract3 (H : Type) (enc : TypeId × Value → H) (W : World) (base : Nat) (args : Array Value) (ds gs : List (DataW H)) (before : List MemPlace)
  (hval : ∀ (j : Nat) t v, Tryz.f3.params[j]? = some t → args[j]? = some v → Value.okWide Tryz.prog W .any base t v)
  (hW : DataW.Whole enc Tryz.prog Tryz.f3.params.toList Rows.certifyDecodesSpec.vars false W args.toList ds gs before) (hk : Rows.uptoSmall H (ds ++ gs) = true) (hL : laidMetH Tryz.prog Rows.certifyDecodesUptoRow.laid W) :
  Calls Tryz.prog 3 args W fun e W' => ∃ v, e = .returned v ∧ Rows.certifyDecodesSpec.post enc Tryz.prog Tryz.f3 false true false false W args v W' := by
 have hW' := hW
 have hlt := hW.lt
 obtain ⟨p, q, hA0, hV, rfl, hfz, hnd⟩ := hW
 have hA : DataW.TrodAll enc Tryz.prog W 0 (fun _ => true) true Tryz.f3.params.toList args.toList ds p := hA0
 rw [Tryz.params3] at hA hval
 obtain ⟨v0, vs0, d0, ds0, p0, q0, hargs, rfl, rfl, h0, r0⟩ := trodAll_cons hA
 obtain ⟨rfl, rfl, rfl⟩ := trodAll_nil r0
 obtain rfl : args = #[v0] := by cases args; simp_all
 obtain ⟨rfl, rfl⟩ := trodVars_none hV
 obtain ⟨l, nl, cap, hr0⟩ := bytes_arg (hval 0 22 v0 rfl rfl) h0
 have hl : RelL (snapW W) nof [kidsA (bytesA l) l.length nl cap] [v0] := by
  simp only [RelL]
  exact ⟨_, _, rfl, hr0, rfl⟩
 refine ((law3_calls [v0] hl (globs_rel hL)).calls fun _ d hd => by cases hd).mono fun e W' ⟨he, hbl⟩ => ?_
 refine ⟨_, he, [d0], [], _, [], p0 ++ [], [], hW', ?_, ?_, rfl, hbl.frame _, fun h => by cases h⟩
 ·exact trodAll_cons_mk (shut_bool Tryz.underlying4 _) trodAll_mk0
 ·exact trodAll_cons_mk (again small22 h0 (fun x hx => hlt x (by simp [hx])) hbl) trodAll_mk0
theorem reads3 (os : Os) {H : Type} (enc : TypeId × Value → H) : ∃ places, DataW.whole enc Tryz.prog ((laidWorld os).forCall (fun _ _ => 0) ⟨#[], #[.slice none 0 0], []⟩).memory Tryz.f3.params.toList Rows.certifyDecodesSpec.vars false (#[.slice none 0 0] : Array Value).toList 8 = some ([.nil], [], places) :=
 ⟨[], by kernel_rfl⟩
theorem liftedUpto3 (os : Os) (started : os.Started) (H : Type) (enc : TypeId × Value → H) (F : Stop.Interp) :
  ReturnsInHanded {} Tryz.checked os 3 .any ((Rows.OpenSpec.upto Rows.certifyDecodesSpec).preRow enc Tryz.prog Tryz.f3 Rows.certifyDecodesUptoRow.domain false Rows.certifyDecodesUptoRow.laid) (((Rows.OpenSpec.upto Rows.certifyDecodesSpec).at F).post enc Tryz.prog Tryz.f3 false true false false) := by
 obtain ⟨places, hx⟩ := reads3 os enc
 refine returnsInHanded_of_row (C := Tryz.checked) (s := Rows.OpenSpec.upto Rows.certifyDecodesSpec) own started (by kernel_rfl) Tryz.func3
  (witness_row_atRef (enc := enc) (C := Tryz.checked) false (laidWorld os) #[.slice none 0 0] rfl (by kernel_rfl) (by kernel_rfl) (by kernel_rfl)
   (OpenSpec.preRow_of_cond 8 hx (by kernel_rfl) (fun k hk => by cases hk; kernel_rfl) (by kernel_rfl) (laid_met os _))) ?_
 intro W base args ds gs before hval hW _ hcond _ hL _ _
 exact contract3 H enc W base args ds gs before hval hW (hcond _ rfl) hL
end Go.Proofs.YtijpnlmmaoecgaaGreatDoor
