/- A part of the proof of the law RewriteGrounds: XAlive XLaw. -/
import Derived.Test.YtbolilekjpoicaaGreatDoorE2
import Derived.Test.YtbolilekjpoicaaGreatDoorE3
import Derived.Test.YtbolilekjpoicaaGreatDoorV1
import Derived.Test.YtbolilekjpoicaaGreatDoorO2
import Derived.Test.YtbolilekjpoicaaGreatDoorCards
import Derived.Test.YtbolilekjpoicaaGreatDoorTie
import Derived.OpenShut

set_option linter.all false

/- What alive() answers: the facts, joined. -/
namespace Go.Proofs.YtbolilekjpoicaaGreatDoor
open Go Go.AM
set_option linter.all false

theorem k0 : ∀ x ∈ (70, a0, r0) :: tab0, KFact Tryz.prog E0.globs x.1 x.2.1 x.2.2 :=
  tab_step env_ok (t := tab0) (fun x hx => by cases hx) c0
theorem k1 : ∀ x ∈ (201, a1, r1) :: tab1, KFact Tryz.prog E0.globs x.1 x.2.1 x.2.2 :=
  tab_step env_ok (t := tab1) k0 c1
theorem k2 : ∀ x ∈ (119, a2, r2) :: tab2, KFact Tryz.prog E0.globs x.1 x.2.1 x.2.2 :=
  tab_step env_ok (t := tab2) k1 c2
theorem k3 : ∀ x ∈ (9, a3, r3) :: tab3, KFact Tryz.prog E0.globs x.1 x.2.1 x.2.2 :=
  tab_step env_ok (t := tab3) k2 c3
theorem k4 : ∀ x ∈ (76, a4, r4) :: tab4, KFact Tryz.prog E0.globs x.1 x.2.1 x.2.2 :=
  tab_step env_ok (t := tab4) k3 c4
theorem k5 : ∀ x ∈ (64, a5, r5) :: tab5, KFact Tryz.prog E0.globs x.1 x.2.1 x.2.2 :=
  tab_step env_ok (t := tab5) k4 c5
theorem k6 : ∀ x ∈ (23, a6, r6) :: tab6, KFact Tryz.prog E0.globs x.1 x.2.1 x.2.2 :=
  tab_step env_ok (t := tab6) k5 c6
theorem k7 : ∀ x ∈ (18, a7, r7) :: tab7, KFact Tryz.prog E0.globs x.1 x.2.1 x.2.2 :=
  tab_step env_ok (t := tab7) k6 c7
theorem k8 : ∀ x ∈ (32, a8, r8) :: tab8, KFact Tryz.prog E0.globs x.1 x.2.1 x.2.2 :=
  tab_step env_ok (t := tab8) k7 c8
theorem k9 : ∀ x ∈ (183, a9, r9) :: tab9, KFact Tryz.prog E0.globs x.1 x.2.1 x.2.2 :=
  tab_step env_ok (t := tab9) k8 c9
theorem k10 : ∀ x ∈ (89, a10, r10) :: tab10, KFact Tryz.prog E0.globs x.1 x.2.1 x.2.2 :=
  tab_step env_ok (t := tab10) k9 c10
theorem k11 : ∀ x ∈ (49, a11, r11) :: tab11, KFact Tryz.prog E0.globs x.1 x.2.1 x.2.2 :=
  tab_step env_ok (t := tab11) k10 c11
theorem k12 : ∀ x ∈ (32, a12, r12) :: tab12, KFact Tryz.prog E0.globs x.1 x.2.1 x.2.2 :=
  tab_step env_ok (t := tab12) k11 c12
theorem k13 : ∀ x ∈ (89, a13, r13) :: tab13, KFact Tryz.prog E0.globs x.1 x.2.1 x.2.2 :=
  tab_step env_ok (t := tab13) k12 c13
theorem k14 : ∀ x ∈ (424, a14, r14) :: tab14, KFact Tryz.prog E0.globs x.1 x.2.1 x.2.2 :=
  tab_step env_ok (t := tab14) k13 c14
theorem k15 : ∀ x ∈ (218, a15, r15) :: tab15, KFact Tryz.prog E0.globs x.1 x.2.1 x.2.2 :=
  tab_step env_ok (t := tab15) k14 c15
theorem k16 : ∀ x ∈ (87, a16, r16) :: tab16, KFact Tryz.prog E0.globs x.1 x.2.1 x.2.2 :=
  tab_step env_ok (t := tab16) k15 c16
theorem k17 : ∀ x ∈ (49, a17, r17) :: tab17, KFact Tryz.prog E0.globs x.1 x.2.1 x.2.2 :=
  tab_step env_ok (t := tab17) k16 c17
theorem k18 : ∀ x ∈ (5, a18, r18) :: tab18, KFact Tryz.prog E0.globs x.1 x.2.1 x.2.2 :=
  tab_step env_ok (t := tab18) k17 c18

theorem alive_fact : KFact Tryz.prog E0.globs 5 [] (.val (.bool true)) := k18 (5, a18, r18) List.mem_cons_self
theorem e1_ok : EnvOk Tryz.prog E1 := env_ok.tab fun x hx => by
  rw [List.mem_singleton.1 hx]
  exact alive_fact

/-- The law, called on cells that hold a predicate. -/
theorem law_calls {W : World} (p : Pr) (hb : p.nodes < 2 ^ 61) (vals : List Value) (hl : RelL (fun b o => W.cell? ⟨b, o, none⟩) nof [p.av] vals) (hg : ∀ q cs, globCells q = some cs → RelC (fun b o => W.cell? ⟨b, o, none⟩) cs q 0) :
    CallsIn Fence.wide 0 Tryz.prog 3 vals.toArray W fun e w' => e = .returned (.bool true) ∧ Go.RowKit.Below W.heap.size W w' := by
  obtain ⟨hc, ev⟩ := law_ans p hb
  obtain ⟨n, hn⟩ := ev.one
  refine CallsIn.mono (pure_sound (enter_all e1_ok n) hn (t := .val (.bool true)) rfl (S2 := fun b o => W.cell? ⟨b, o, none⟩) (fun _ _ _ h => h) hg hl) fun e w' he => ?_
  obtain ⟨x, rfl, S3, hr, hbl, _⟩ := he
  rw [Rel] at hr
  rw [hr.1]
  exact ⟨rfl, hbl⟩

end Go.Proofs.YtbolilekjpoicaaGreatDoor

/- The law's row and its card. -/
namespace Go.Proofs.YtbolilekjpoicaaGreatDoor
open Go Go.AM Go.ChangeShapes Go.WideShapes Go.ChangeAt Go.RowKit
set_option linter.all false
set_option maxRecDepth 100000

theorem own : ownKnob Tryz.prog.godebug = none := by kernel_rfl
theorem laidOut : laidOutB Tryz.prog = true := by kernel_rfl
theorem rowed : mapsRowed Tryz.prog = true := by kernel_rfl
theorem full : ∀ t e, t < Tryz.prog.types.size → Tryz.prog.underlying t = some (.slice e) → 0 < Tryz.prog.cellsOf e := slices_full_of Tryz.prog (by kernel_rfl)
theorem small25 : 25 < Tryz.prog.types.size := of_decide_eq_true (by kernel_rfl)

/-- An argument reads again behind a call that turned nothing of old. -/
theorem again {H : Type} {enc : TypeId × Value → H} {W W' : World} {v : Value} {d : DataW H} {p : List MemPlace} (h : DataW.Trod enc Tryz.prog W 0 (fun _ => true) true 25 v d p) (hlt : ∀ x ∈ p, x.block < W.heap.size) (hb : Below W.heap.size W W') :
    DataW.Trod enc Tryz.prog W' 0 (fun b => decide (b < W.heap.size)) true 25 v d p := by
  obtain ⟨n, hn⟩ := h
  have hs : ∀ x ∈ p, W.sameAt W' x := fun x hx => by
    have hl := hlt x hx
    cases x with
    | cell b off => exact hb.cell (p := ⟨b, off, none⟩) hl
    | map b => exact hb.block b hl
  have h2 : DataW.Trod enc Tryz.prog W' 0 (fun _ => true) true 25 v d p := ⟨n, DataW.trod_carry n _ _ _ hn hs⟩
  exact h2.respare (kids_rows laidOut rowed) full small25 fun x hx => decide_eq_true (hlt x hx)

theorem contract (H : Type) (enc : TypeId × Value → H) (W : World) (base : Nat) (args : Array Value) (ds gs : List (DataW H)) (before : List MemPlace)
    (hval : ∀ (j : Nat) t v, Tryz.f3.params[j]? = some t → args[j]? = some v → Value.okWide Tryz.prog W .any base t v)
    (hW : DataW.Whole enc Tryz.prog Tryz.f3.params.toList Rows.rewriteGroundsSpec.vars false W args.toList ds gs before) (hk : Rows.uptoSmall H (ds ++ gs) = true) (hL : laidMetH Tryz.prog Rows.rewriteGroundsUptoRow.laid W) :
    Calls Tryz.prog 3 args W fun e W' => ∃ v, e = .returned v ∧ Rows.rewriteGroundsSpec.post enc Tryz.prog Tryz.f3 false true false false W args v W' := by
  have hW' := hW
  have hlt := hW.lt
  obtain ⟨p, q, hA0, hV, rfl, hfz, hnd⟩ := hW
  have hA : DataW.TrodAll enc Tryz.prog W 0 (fun _ => true) true Tryz.f3.params.toList args.toList ds p := hA0
  rw [Tryz.params3] at hA hval
  obtain ⟨v0, vs0, d0, ds0, p0, q0, hargs, rfl, rfl, h0, r0⟩ := trodAll_cons hA
  obtain ⟨rfl, rfl, rfl⟩ := trodAll_nil r0
  obtain rfl : args = #[v0] := by cases args; simp_all
  obtain ⟨rfl, rfl⟩ := trodVars_none hV
  have hv0 := hval 0 25 v0 rfl rfl
  obtain ⟨cs, rfl⟩ : ∃ cs : Array Value, v0 = .agg cs := by
    unfold Value.okWide at hv0
    rw [Tryz.underlying25] at hv0
    obtain ⟨cs, h, _⟩ := hv0
    exact ⟨cs, h⟩
  have hopen := h0
  obtain ⟨fuel, hf⟩ := hopen
  obtain ⟨p, hp, ho, hn⟩ := pr_open fuel _ _ hf
  have hcs : (Value.agg cs).cells.toList = cs.toList := rfl
  rw [hcs] at hp ho
  have hbulk : Rows.uptoBulkAll [d0] ≤ 1048576 := of_decide_eq_true hk
  have hb : p.nodes < 2 ^ 61 := by
    simp only [Rows.uptoBulkAll] at hbulk
    have hn : p.nodes ≤ Rows.uptoBulk d0 := hn
    omega
  have hl : RelL (snapW W) nof [p.av] [Value.agg cs] := by
    simp only [RelL]
    refine ⟨_, _, rfl, ?_, rfl⟩
    rw [Pr.av, Rel]
    exact ⟨cs.toList, by rw [Array.toArray_toList], ho, hp⟩
  refine ((law_calls p hb [Value.agg cs] hl (globs_rel hL)).calls fun _ d hd => by cases hd).mono fun e W' ⟨he, hbl⟩ => ?_
  refine ⟨_, he, [d0], [], _, [], p0 ++ [], [], hW', ?_, ?_, rfl, hbl.frame _, fun h => by cases h⟩
  · exact trodAll_cons_mk (shut_bool Tryz.underlying4 _) trodAll_mk0
  · exact trodAll_cons_mk (again h0 (fun x hx => hlt x (by simp [hx])) hbl) trodAll_mk0

theorem reads (os : Os) {H : Type} (enc : TypeId × Value → H) : ∃ places, DataW.whole enc Tryz.prog ((laidWorld os).forCall (fun _ _ => 0) ⟨#[], #[.agg #[.int .i64 0, .string ⟨#[]⟩, .int .i64 0, .slice none 0 0]], []⟩).memory Tryz.f3.params.toList Rows.rewriteGroundsSpec.vars false #[Value.agg #[.int .i64 0, .string ⟨#[]⟩, .int .i64 0, .slice none 0 0]].toList 8 = some ([.agg [.lit (.int .i64 0), .lit (.string []), .lit (.int .i64 0), .nil]], [], places) :=
  ⟨[], by kernel_rfl⟩

theorem liftedUpto (os : Os) (started : os.Started) (H : Type) (enc : TypeId × Value → H) (F : Stop.Interp) :
    ReturnsInHanded {} Tryz.checked os 3 .any ((Rows.OpenSpec.upto Rows.rewriteGroundsSpec).preRow enc Tryz.prog Tryz.f3 Rows.rewriteGroundsUptoRow.domain false Rows.rewriteGroundsUptoRow.laid) (((Rows.OpenSpec.upto Rows.rewriteGroundsSpec).at F).post enc Tryz.prog Tryz.f3 false true false false) := by
  obtain ⟨places, hx⟩ := reads os enc
  refine returnsInHanded_of_row (C := Tryz.checked) (s := Rows.OpenSpec.upto Rows.rewriteGroundsSpec) own started (by kernel_rfl) Tryz.func3
    (witness_row_atRef (enc := enc) (C := Tryz.checked) false (laidWorld os) #[.agg #[.int .i64 0, .string ⟨#[]⟩, .int .i64 0, .slice none 0 0]] rfl (by kernel_rfl) (by kernel_rfl) (by kernel_rfl)
      (OpenSpec.preRow_of_cond 8 hx (by kernel_rfl) (fun k hk => by cases hk; kernel_rfl) (by kernel_rfl) (laid_met os _))) ?_
  intro W base args ds gs before hval hW _ hcond _ hL _ _
  exact contract H enc W base args ds gs before hval hW (hcond _ rfl) hL

end Go.Proofs.YtbolilekjpoicaaGreatDoor
