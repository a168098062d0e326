/- A part of the proofs about certificates: YLawr. -/
import Derived.Test.YtijpnlmmaoecgaaGreatDoorO1
import Derived.Test.YtijpnlmmaoecgaaGreatDoorO2
import Derived.Test.YtijpnlmmaoecgaaGreatDoorK1
import Derived.OpenShut

set_option linter.all false

/- The law's row and its card. -/
namespace Go.Proofs.YtijpnlmmaoecgaaGreatDoor
open Go Go.AM Go.ChangeShapes Go.WideShapes Go.ChangeAt Go.RowKit
set_option linter.all false
set_option maxRecDepth 100000

section
variable {H : Type}

/-- An argument reads again behind a call that turned nothing of old. -/
theorem again {H : Type} {enc : TypeId × Value → H} {W W' : World} {t : TypeId} {v : Value} {d : DataW H} {p : List MemPlace} (ht : t < Tryz.prog.types.size) (h : DataW.Trod enc Tryz.prog W 0 (fun _ => true) true t v d p) (hlt : ∀ x ∈ p, x.block < W.heap.size) (hb : Below W.heap.size W W') :
    DataW.Trod enc Tryz.prog W' 0 (fun b => decide (b < W.heap.size)) true t v d p := by
  obtain ⟨n, hn⟩ := h
  have hs : ∀ x ∈ p, W.sameAt W' x := fun x hx => by
    have hl := hlt x hx
    cases x with
    | cell b off => exact hb.cell (p := ⟨b, off, none⟩) hl
    | map b => exact hb.block b hl
  have h2 : DataW.Trod enc Tryz.prog W' 0 (fun _ => true) true t v d p := ⟨n, DataW.trod_carry n _ _ _ hn hs⟩
  exact h2.respare (kids_rows laidOut rowed) full ht fun x hx => decide_eq_true (hlt x hx)

theorem cert_arg {W : World} {base : Nat} {v : Value} {d : DataW H} {p : List MemPlace} {enc : TypeId × Value → H} (hv : Value.okWide Tryz.prog W .any base 27 v) (h : DataW.Trod enc Tryz.prog W 0 (fun _ => true) true 27 v d p) (hb : Rows.uptoBulk d ≤ 1048576) : ∃ c : Ce, fitCe c ∧ Rel (snapW W) nof (.agg c.cells) v := by
  obtain ⟨cs, rfl⟩ : ∃ cs : Array Value, v = .agg cs := by
    unfold Value.okWide at hv
    rw [Tryz.underlying27] at hv
    obtain ⟨cs, h, _⟩ := hv
    exact ⟨cs, h⟩
  obtain ⟨fuel, hf⟩ := h
  have hcs : (Value.agg cs).cells.toList = cs.toList := rfl
  rw [hcs] at hf
  obtain ⟨c, hp, ho, hc⟩ := ce_open fuel _ _ hf (Nat.le_trans (bulk_eq d) hb)
  refine ⟨c, hc, ?_⟩
  rw [Rel]
  exact ⟨cs.toList, by rw [Array.toArray_toList], ho, hp⟩

theorem bytes_arg {W : World} {base : Nat} {v : Value} {d : DataW H} {p : List MemPlace} {enc : TypeId × Value → H} (hv : Value.okWide Tryz.prog W .any base 22 v) (h : DataW.Trod enc Tryz.prog W 0 (fun _ => true) true 22 v d p) : ∃ (l : List UInt8) (nl : Option (Option Addr × Nat)) (cap : Option Nat), Rel (snapW W) nof (kidsA (bytesA l) l.length nl cap) v := by
  obtain ⟨fuel, hf⟩ := h
  have hc : v.cells.toList = [v] := by
    unfold Value.okWide at hv
    rw [und22] at hv
    simp only at hv
    unfold Cell.okWide at hv
    rw [und22] at hv
    unfold Cell.ok at hv
    rw [und22] at hv
    cases v <;> first | rfl | exact hv.elim
  rw [hc] at hf
  obtain ⟨l, nl, cap, hr, _⟩ := bytes_open fuel v _ hf
  exact ⟨l, nl, cap, hr⟩

theorem u16_arg {W : World} {base : Nat} {v : Value} {d : DataW H} {p : List MemPlace} {enc : TypeId × Value → H} (hv : Value.okWide Tryz.prog W .any base 36 v) (h : DataW.Trod enc Tryz.prog W 0 (fun _ => true) true 36 v d p) : ∃ k : Nat, k < 65536 ∧ Rel (snapW W) nof (.val (.int .u16 (k : Nat))) v := by
  obtain ⟨fuel, hf⟩ := h
  obtain ⟨n, e, _, w⟩ := DataW.trod_int und36 hf
  obtain ⟨k, rfl, hk⟩ := u16_of w
  refine ⟨k, hk, ?_⟩
  unfold Value.okWide at hv
  rw [und36] at hv
  simp only at hv
  unfold Cell.okWide at hv
  rw [und36] at hv
  unfold Cell.ok at hv
  rw [und36] at hv
  cases v <;> first | exact hv.elim | skip
  rename_i k' n'
  cases e
  rw [Rel]
  exact ⟨rfl, rfl⟩

theorem u8_arg {W : World} {base : Nat} {v : Value} {d : DataW H} {p : List MemPlace} {enc : TypeId × Value → H} (hv : Value.okWide Tryz.prog W .any base 5 v) (h : DataW.Trod enc Tryz.prog W 0 (fun _ => true) true 5 v d p) : ∃ k : Nat, k < 256 ∧ Rel (snapW W) nof (.val (.int .u8 (k : Nat))) v := by
  obtain ⟨fuel, hf⟩ := h
  obtain ⟨n, e, _, w⟩ := DataW.trod_int und5 hf
  obtain ⟨b, rfl⟩ := byteD_of w
  refine ⟨b.toNat, b.toNat_lt, ?_⟩
  unfold Value.okWide at hv
  rw [und5] at hv
  simp only at hv
  unfold Cell.okWide at hv
  rw [und5] at hv
  unfold Cell.ok at hv
  rw [und5] at hv
  cases v <;> first | exact hv.elim | skip
  rename_i k' n'
  cases e
  rw [Rel]
  exact ⟨rfl, rfl⟩

theorem contract4 (H : Type) (enc : TypeId × Value → H) (W : World) (base : Nat) (args : Array Value) (ds gs : List (DataW H)) (before : List MemPlace)
    (hval : ∀ (j : Nat) t v, Tryz.f4.params[j]? = some t → args[j]? = some v → Value.okWide Tryz.prog W .any base t v)
    (hW : DataW.Whole enc Tryz.prog Tryz.f4.params.toList Rows.certifyRoundTripSpec.vars false W args.toList ds gs before) (hk : Rows.uptoSmall H (ds ++ gs) = true) (hL : laidMetH Tryz.prog Rows.certifyRoundTripUptoRow.laid W) :
    Calls Tryz.prog 4 args W fun e W' => ∃ v, e = .returned v ∧ Rows.certifyRoundTripSpec.post enc Tryz.prog Tryz.f4 false true false false W args v W' := by
  have hW' := hW
  have hlt := hW.lt
  obtain ⟨p, q, hA0, hV, rfl, hfz, hnd⟩ := hW
  have hA : DataW.TrodAll enc Tryz.prog W 0 (fun _ => true) true Tryz.f4.params.toList args.toList ds p := hA0
  rw [Tryz.params4] at hA hval
  obtain ⟨v0, vs0, d0, ds0, p0, q0, hargs, rfl, rfl, h0, r0⟩ := trodAll_cons hA
  obtain ⟨v1, vs1, d1, ds1, p1, q1, rfl, rfl, rfl, h1, r1⟩ := trodAll_cons r0
  obtain ⟨rfl, rfl, rfl⟩ := trodAll_nil r1
  obtain rfl : args = #[v0, v1] := by cases args; simp_all
  obtain ⟨rfl, rfl⟩ := trodVars_none hV
  have hbulk : Rows.uptoBulkAll [d0, d1] ≤ 1048576 := of_decide_eq_true hk
  simp only [Rows.uptoBulkAll] at hbulk
  obtain ⟨c, hc, hr0⟩ := cert_arg (hval 0 27 v0 rfl rfl) h0 (by omega)
  obtain ⟨l, nl, cap, hr1⟩ := bytes_arg (hval 1 22 v1 rfl rfl) h1
  have hl : RelL (snapW W) nof [.agg c.cells, kidsA (bytesA l) l.length nl cap] [v0, v1] := by
    simp only [RelL]
    exact ⟨_, _, rfl, hr0, _, _, rfl, hr1, rfl⟩
  refine ((law4_calls hc [v0, v1] hl (globs_rel hL)).calls fun _ d hd => by cases hd).mono fun e W' ⟨he, hbl⟩ => ?_
  refine ⟨_, he, [d0, d1], [], _, [], p0 ++ (p1 ++ []), [], hW', ?_, ?_, rfl, hbl.frame _, fun h => by cases h⟩
  · exact trodAll_cons_mk (shut_bool Tryz.underlying4 _) trodAll_mk0
  · exact trodAll_cons_mk (again small27 h0 (fun x hx => hlt x (by simp [hx])) hbl) (trodAll_cons_mk (again small22 h1 (fun x hx => hlt x (by simp [hx])) hbl) trodAll_mk0)

theorem contract5 (H : Type) (enc : TypeId × Value → H) (W : World) (base : Nat) (args : Array Value) (ds gs : List (DataW H)) (before : List MemPlace)
    (hval : ∀ (j : Nat) t v, Tryz.f5.params[j]? = some t → args[j]? = some v → Value.okWide Tryz.prog W .any base t v)
    (hW : DataW.Whole enc Tryz.prog Tryz.f5.params.toList Rows.certifyDamageSpec.vars false W args.toList ds gs before) (hk : Rows.uptoSmall H (ds ++ gs) = true) (hL : laidMetH Tryz.prog Rows.certifyDamageUptoRow.laid W) :
    Calls Tryz.prog 5 args W fun e W' => ∃ v, e = .returned v ∧ Rows.certifyDamageSpec.post enc Tryz.prog Tryz.f5 false true false false W args v W' := by
  have hW' := hW
  have hlt := hW.lt
  obtain ⟨p, q, hA0, hV, rfl, hfz, hnd⟩ := hW
  have hA : DataW.TrodAll enc Tryz.prog W 0 (fun _ => true) true Tryz.f5.params.toList args.toList ds p := hA0
  rw [Tryz.params5] at hA hval
  obtain ⟨v0, vs0, d0, ds0, p0, q0, hargs, rfl, rfl, h0, r0⟩ := trodAll_cons hA
  obtain ⟨v1, vs1, d1, ds1, p1, q1, rfl, rfl, rfl, h1, r1⟩ := trodAll_cons r0
  obtain ⟨v2, vs2, d2, ds2, p2, q2, rfl, rfl, rfl, h2, r2⟩ := trodAll_cons r1
  obtain ⟨rfl, rfl, rfl⟩ := trodAll_nil r2
  obtain rfl : args = #[v0, v1, v2] := by cases args; simp_all
  obtain ⟨rfl, rfl⟩ := trodVars_none hV
  have hbulk : Rows.uptoBulkAll [d0, d1, d2] ≤ 1048576 := of_decide_eq_true hk
  simp only [Rows.uptoBulkAll] at hbulk
  obtain ⟨c, hc, hr0⟩ := cert_arg (hval 0 27 v0 rfl rfl) h0 (by omega)
  obtain ⟨k, hk1, hr1⟩ := u16_arg (hval 1 36 v1 rfl rfl) h1
  obtain ⟨y, hy, hr2⟩ := u8_arg (hval 2 5 v2 rfl rfl) h2
  have hl : RelL (snapW W) nof [.agg c.cells, .val (.int .u16 (k : Nat)), .val (.int .u8 (y : Nat))] [v0, v1, v2] := by
    simp only [RelL]
    exact ⟨_, _, rfl, hr0, _, _, rfl, hr1, _, _, rfl, hr2, rfl⟩
  refine ((law5_calls hc hk1 hy [v0, v1, v2] hl (globs_rel hL)).calls fun _ d hd => by cases hd).mono fun e W' ⟨he, hbl⟩ => ?_
  refine ⟨_, he, [d0, d1, d2], [], _, [], p0 ++ (p1 ++ (p2 ++ [])), [], hW', ?_, ?_, rfl, hbl.frame _, fun h => by cases h⟩
  · exact trodAll_cons_mk (shut_bool Tryz.underlying4 _) trodAll_mk0
  · exact trodAll_cons_mk (again small27 h0 (fun x hx => hlt x (by simp [hx])) hbl) (trodAll_cons_mk (again small36 h1 (fun x hx => hlt x (by simp [hx])) hbl) (trodAll_cons_mk (again small5 h2 (fun x hx => hlt x (by simp [hx])) hbl) trodAll_mk0))

theorem reads4 (os : Os) {H : Type} (enc : TypeId × Value → H) : ∃ places, DataW.whole enc Tryz.prog ((laidWorld os).forCall (fun _ _ => 0) ⟨#[], #[.agg #[.string ⟨#[]⟩, .int .i64 0, .slice none 0 0, .slice none 0 0], .slice none 0 0], []⟩).memory Tryz.f4.params.toList Rows.certifyRoundTripSpec.vars false (#[.agg #[.string ⟨#[]⟩, .int .i64 0, .slice none 0 0, .slice none 0 0], .slice none 0 0] : Array Value).toList 8 = some ([.agg [.lit (.string []), .lit (.int .i64 0), .nil, .nil], .nil], [], places) :=
  ⟨[], by kernel_rfl⟩

theorem liftedUpto4 (os : Os) (started : os.Started) (H : Type) (enc : TypeId × Value → H) (F : Stop.Interp) :
    ReturnsInHanded {} Tryz.checked os 4 .any ((Rows.OpenSpec.upto Rows.certifyRoundTripSpec).preRow enc Tryz.prog Tryz.f4 Rows.certifyRoundTripUptoRow.domain false Rows.certifyRoundTripUptoRow.laid) (((Rows.OpenSpec.upto Rows.certifyRoundTripSpec).at F).post enc Tryz.prog Tryz.f4 false true false false) := by
  obtain ⟨places, hx⟩ := reads4 os enc
  refine returnsInHanded_of_row (C := Tryz.checked) (s := Rows.OpenSpec.upto Rows.certifyRoundTripSpec) own started (by kernel_rfl) Tryz.func4
    (witness_row_atRef (enc := enc) (C := Tryz.checked) false (laidWorld os) #[.agg #[.string ⟨#[]⟩, .int .i64 0, .slice none 0 0, .slice none 0 0], .slice none 0 0] rfl (by kernel_rfl) (by kernel_rfl) (by kernel_rfl)
      (OpenSpec.preRow_of_cond 8 hx (by kernel_rfl) (fun k hk => by cases hk; kernel_rfl) (by kernel_rfl) (laid_met os _))) ?_
  intro W base args ds gs before hval hW _ hcond _ hL _ _
  exact contract4 H enc W base args ds gs before hval hW (hcond _ rfl) hL

theorem reads5 (os : Os) {H : Type} (enc : TypeId × Value → H) : ∃ places, DataW.whole enc Tryz.prog ((laidWorld os).forCall (fun _ _ => 0) ⟨#[], #[.agg #[.string ⟨#[]⟩, .int .i64 0, .slice none 0 0, .slice none 0 0], .int .u16 0, .int .u8 0], []⟩).memory Tryz.f5.params.toList Rows.certifyDamageSpec.vars false (#[.agg #[.string ⟨#[]⟩, .int .i64 0, .slice none 0 0, .slice none 0 0], .int .u16 0, .int .u8 0] : Array Value).toList 8 = some ([.agg [.lit (.string []), .lit (.int .i64 0), .nil, .nil], .lit (.int .u16 0), .lit (.int .u8 0)], [], places) :=
  ⟨[], by kernel_rfl⟩

theorem liftedUpto5 (os : Os) (started : os.Started) (H : Type) (enc : TypeId × Value → H) (F : Stop.Interp) :
    ReturnsInHanded {} Tryz.checked os 5 .any ((Rows.OpenSpec.upto Rows.certifyDamageSpec).preRow enc Tryz.prog Tryz.f5 Rows.certifyDamageUptoRow.domain false Rows.certifyDamageUptoRow.laid) (((Rows.OpenSpec.upto Rows.certifyDamageSpec).at F).post enc Tryz.prog Tryz.f5 false true false false) := by
  obtain ⟨places, hx⟩ := reads5 os enc
  refine returnsInHanded_of_row (C := Tryz.checked) (s := Rows.OpenSpec.upto Rows.certifyDamageSpec) own started (by kernel_rfl) Tryz.func5
    (witness_row_atRef (enc := enc) (C := Tryz.checked) false (laidWorld os) #[.agg #[.string ⟨#[]⟩, .int .i64 0, .slice none 0 0, .slice none 0 0], .int .u16 0, .int .u8 0] rfl (by kernel_rfl) (by kernel_rfl) (by kernel_rfl)
      (OpenSpec.preRow_of_cond 8 hx (by kernel_rfl) (fun k hk => by cases hk; kernel_rfl) (by kernel_rfl) (laid_met os _))) ?_
  intro W base args ds gs before hval hW _ hcond _ hL _ _
  exact contract5 H enc W base args ds gs before hval hW (hcond _ rfl) hL

end
end Go.Proofs.YtijpnlmmaoecgaaGreatDoor
