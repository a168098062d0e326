/- A part of the proof of the law RewriteGrounds: XOpen XLaid. -/
import Derived.Test.YtbolilekjpoicaaGreatDoorM3
import Derived.Test.YtbolilekjpoicaaGreatDoorC1
import Derived.Test.YtbolilekjpoicaaGreatDoorRows
import Derived.ProofKit
import Derived.ChangeArms
import Derived.ReadAgain
import Derived.LaidSub
import Derived.MakeChecks
import Derived.Lib.LaidTab

set_option linter.all false

/- An argument that came in, as a tree of cells. -/
namespace Go.Proofs.YtbolilekjpoicaaGreatDoor
open Go Go.AM Go.WideShapes
set_option linter.all false
set_option maxRecDepth 10000

/-- What a world's cells hold. -/
def snapW (W : World) : Snap := fun b o => W.cell? ⟨b, o, none⟩

theorem relC_append {S : Snap} : ∀ {xs ys : List AV} {b off : Nat}, RelC S xs b off → RelC S ys b (off + xs.length) → RelC S (xs ++ ys) b off
  | [], ys, b, off, _, k => by simpa only [List.nil_append, List.length_nil, Nat.add_zero] using k
  | x :: xs, ys, b, off, h, k => by
    simp only [RelC] at h
    simp only [List.cons_append, RelC]
    exact ⟨h.1, relC_append h.2 (by rw [List.length_cons] at k; rw [show off + 1 + xs.length = off + (xs.length + 1) by omega]; exact k)⟩

theorem relC_of {S : Snap} {b : Nat} : ∀ {cs : List AV} {vs : List Value} {off : Nat}, RelL S nof cs vs → vs.all (·.oneCell') = true → (∀ i v, vs[i]? = some v → S b (off + i) = some v) → RelC S cs b off
  | [], _, _, _, _, _ => by simp only [RelC]
  | c :: cs, vs, off, h, ho, k => by
    simp only [RelL] at h
    obtain ⟨y, ys, rfl, h1, h2⟩ := h
    simp only [List.all_cons, Bool.and_eq_true] at ho
    simp only [RelC]
    refine ⟨⟨y, k 0 y rfl, ho.1, h1⟩, relC_of h2 ho.2 fun i v hv => ?_⟩
    have := k (i + 1) v hv
    rw [show off + 1 + i = off + (i + 1) by omega]
    exact this

theorem rel_val {S : Snap} {f : Emb} {v : Value} (ho : v.oneCell' = true) : Rel S f (.val v) v := by
  rw [Rel]
  exact ⟨rfl, ho⟩

theorem cells25 : Tryz.prog.cellsOf 25 = 4 := by kernel_rfl
theorem cells22 : Tryz.prog.cellsOf 22 = 1 := by kernel_rfl
theorem cells9 : Tryz.prog.cellsOf 9 = 1 := by kernel_rfl
theorem cells3 : Tryz.prog.cellsOf 3 = 1 := by kernel_rfl
theorem cells23 : Tryz.prog.cellsOf 23 = 1 := by kernel_rfl
theorem under23 : Tryz.prog.underlying 23 = some (.slice 25) := by kernel_rfl

section
variable {H : Type} {enc : TypeId × Value → H} {W : World}

/-- Cells that hold a predicate, of so many nodes at most. -/
def HoldsPr (W : World) (cs : List Value) (m : Nat) : Prop := ∃ p : Pr, RelL (snapW W) nof p.cells cs ∧ cs.all (·.oneCell') = true ∧ p.nodes ≤ m

theorem kids_open {b off : Nat} : ∀ (ds : List (DataW H)) (j : Nat), (∀ i d, ds[i]? = some d → ∃ cs, W.cells? 0 ((⟨b, off, none⟩ : Addr).add ((j + i) * 4)) 4 = some cs ∧ HoldsPr W cs (Rows.uptoBulk d)) →
    ∃ ks : List Pr, ks.length = ds.length ∧ RelC (snapW W) (Pr.cellsL ks) b (off + j * 4) ∧ Pr.nodesL ks ≤ Rows.uptoBulkAll ds
  | [], j, _ => ⟨[], rfl, by simp only [Pr.cellsL, RelC], by simp only [Pr.nodesL, Rows.uptoBulkAll]; omega⟩
  | d :: ds, j, h => by
    obtain ⟨cs, hc, p, hp, ho, hn⟩ := h 0 d rfl
    obtain ⟨ks, h1, h2, h3⟩ := kids_open ds (j + 1) fun i d' hd => by
      have := h (i + 1) d' hd
      rw [show j + 1 + i = j + (i + 1) by omega]
      exact this
    obtain ⟨_, hl, hcell⟩ := World.cells?_some hc
    refine ⟨p :: ks, by simp only [List.length_cons, h1], ?_, ?_⟩
    · simp only [Pr.cellsL]
      refine relC_append (relC_of hp ho fun i v hv => ?_) ?_
      · have hi : i < 4 := by
          rcases Nat.lt_or_ge i cs.length with x | x
          · omega
          · rw [List.getElem?_eq_none x] at hv; cases hv
        have := hcell i hi
        rw [hv, add_plain, add_plain] at this
        simpa only [snapW, Nat.add_zero] using this
      · rw [p.len, show off + j * 4 + 4 = off + (j + 1) * 4 by omega]
        exact h2
    · simp only [Pr.nodesL, Rows.uptoBulkAll]
      omega

theorem pr_open : ∀ (fuel : Nat) (cs : List Value) (x : DataW H × List MemPlace), DataW.trod enc Tryz.prog W 0 (fun _ => true) true fuel 25 cs = some x → HoldsPr W cs (Rows.uptoBulk x.1) := by
  intro fuel
  induction fuel using Nat.strongRecOn with
  | _ fuel ih =>
  intro cs x h
  obtain ⟨xs, n, rfl, rfl, hl, hlen, hf⟩ := DataW.trod_struct Tryz.underlying25 h
  rw [cells25] at hl
  match cs, hl with
  | [a, b, c, e], _ =>
  match xs, hlen with
  | [x0, x1, x2, x3], _ =>
  have h0 := hf 0 _ rfl
  have h1 := hf 1 _ rfl
  have h2 := hf 2 _ rfl
  have h3 := hf 3 _ rfl
  change DataW.trod enc Tryz.prog W 0 (fun _ => true) true n 22 (([a, b, c, e].drop 0).take (Tryz.prog.cellsOf 22)) = some x0 at h0
  rw [cells22] at h0
  change DataW.trod enc Tryz.prog W 0 (fun _ => true) true n 22 [a] = some x0 at h0
  change DataW.trod enc Tryz.prog W 0 (fun _ => true) true n 9 (([a, b, c, e].drop 1).take (Tryz.prog.cellsOf 9)) = some x1 at h1
  rw [cells9] at h1
  change DataW.trod enc Tryz.prog W 0 (fun _ => true) true n 9 [b] = some x1 at h1
  change DataW.trod enc Tryz.prog W 0 (fun _ => true) true n 3 (([a, b, c, e].drop 2).take (Tryz.prog.cellsOf 3)) = some x2 at h2
  rw [cells3] at h2
  change DataW.trod enc Tryz.prog W 0 (fun _ => true) true n 3 [c] = some x2 at h2
  change DataW.trod enc Tryz.prog W 0 (fun _ => true) true n 23 (([a, b, c, e].drop 3).take (Tryz.prog.cellsOf 23)) = some x3 at h3
  rw [cells23] at h3
  change DataW.trod enc Tryz.prog W 0 (fun _ => true) true n 23 [e] = some x3 at h3
  obtain ⟨k0, e0, rfl, _⟩ := DataW.trod_int Tryz.underlying22 h0
  obtain ⟨s1, e1, rfl, _⟩ := DataW.trod_string Tryz.underlying9 h1
  obtain ⟨k2, e2, rfl, _⟩ := DataW.trod_int Tryz.underlying3 h2
  cases e0; cases e1; cases e2
  have fin : ∀ (ks : List Pr) (nl : Option (Option Addr × Nat)) (cap : Option Nat), Rel (snapW W) nof (kidsA (Pr.cellsL ks) ks.length nl cap) e → e.oneCell' = true → 1 + Pr.nodesL ks ≤ Rows.uptoBulk x3.1 + 1 →
      HoldsPr W [.int .i64 k0, .string s1, .int .i64 k2, e] (Rows.uptoBulk (.agg ([(.lit (.int .i64 k0), []), (.lit (.string s1.data.toList), []), (.lit (.int .i64 k2), []), x3].map (fun q : DataW H × List MemPlace => q.1)))) := by
    intro ks nl cap hr ho hn
    refine ⟨.mk k0 s1 k2 ks nl cap, ?_, ?_, ?_⟩
    · simp only [Pr.cells, RelL]
      exact ⟨_, _, rfl, rel_val rfl, _, _, rfl, rel_val rfl, _, _, rfl, rel_val rfl, _, _, rfl, hr, rfl⟩
    · show (true && (true && (true && (e.oneCell' && true)))) = true
      rw [ho]
      rfl
    · simp only [Pr.nodes, List.map_cons, List.map_nil, Rows.uptoBulk, Rows.uptoBulkAll]
      omega
  rcases DataW.trod_slice under23 h3 with ⟨e3, rfl⟩ | ⟨a, len, cap, elems, rest, m, rfl, e3, rfl, _, hlc, _, hel, hget, _⟩
  · cases e3
    exact fin [] (some (none, 0)) none (rel_val rfl) rfl (by simp only [Pr.nodesL, Rows.uptoBulk]; omega)
  · cases e3
    cases len with
    | zero =>
      exact fin [] (some (some a, cap)) none (rel_val rfl) rfl (by simp only [Pr.nodesL]; omega)
    | succ len =>
      have hall : ∀ i, i < len + 1 → ∃ cs y, W.cells? 0 (a.add (i * 4)) 4 = some cs ∧ DataW.trod enc Tryz.prog W 0 (fun _ => true) true m 25 cs = some y ∧ elems[i]? = some y := fun i hi => by
        have hg := hget i hi
        rw [cells25] at hg
        have hi' : i < elems.length := by omega
        rw [List.getElem?_eq_getElem hi'] at hg
        obtain ⟨cs, q1, q2⟩ := Option.bind_eq_some_iff.1 hg
        exact ⟨cs, _, q1, q2, List.getElem?_eq_getElem hi'⟩
      obtain ⟨b, off, spot⟩ := a
      have hspot : spot = none := by
        obtain ⟨cs, y, q1, _⟩ := hall 0 (by omega)
        obtain ⟨_, hl, hcell⟩ := World.cells?_some q1
        have := hcell 0 (by omega)
        match cs, hl with
        | c0 :: _, _ =>
          have hs := World.cell?_spot this
          simpa [Addr.add] using hs
      subst hspot
      obtain ⟨ks, g1, g2, g3⟩ := kids_open (W := W) (b := b) (off := off) (elems.map (·.1)) 0 fun i d hd => by
        rw [List.getElem?_map] at hd
        obtain ⟨y, hy, rfl⟩ := Option.map_eq_some_iff.1 hd
        have hi : i < elems.length := by
          rcases Nat.lt_or_ge i elems.length with z | z
          · exact z
          · rw [List.getElem?_eq_none z] at hy; cases hy
        obtain ⟨cs, y', q1, q2, q3⟩ := hall i (by omega)
        rw [hy] at q3
        cases q3
        rw [Nat.zero_add]
        exact ⟨cs, q1, ih m (by omega) cs y q2⟩
      rw [List.length_map] at g1
      refine fin ks none none ?_ rfl ?_
      · simp only [kidsA, Option.isSome_none, Bool.false_and, cond_false, Rel]
        refine ⟨b, off, cap, ?_, by omega, fun k hk => (by cases hk), ?_⟩
        · rw [g1, hel]
        · simpa only [Nat.zero_mul, Nat.add_zero] using g2
      · simp only [Rows.uptoBulk]
        omega
end

end Go.Proofs.YtbolilekjpoicaaGreatDoor

/- The listed variables, as the machine's. -/
namespace Go.Proofs.YtbolilekjpoicaaGreatDoor
open Go Go.AM Go.WideShapes
set_option linter.all false
set_option maxRecDepth 10000

theorem cells_of_texts {H : Type} {enc : TypeId × Value → H} {P : Program} {w : World} {base : Nat} {sp : Nat → Bool} {held : Bool} {fuel : Nat} {t e : TypeId} {n : Nat} {cs : List Value} {l : List (List UInt8)} {p : List MemPlace}
    (ht : P.underlying t = some (.array n e)) (he : P.underlying e = some .string) (hce : P.cellsOf e = 1) (hct : P.cellsOf t = n)
    (h : DataW.trod enc P w base sp held fuel t cs = some (.agg (l.map fun b => .lit (.string b)), p)) : cs = l.map fun b => Value.string ⟨b.toArray⟩ := by
  cases fuel with
  | zero => simp [DataW.trod] at h
  | succ fuel =>
    simp only [DataW.trod, ht, hce, hct, Nat.mul_one] at h
    split at h
    · rename_i hl
      obtain ⟨xs, hm, hx⟩ := Option.map_eq_some_iff.1 h
      have hxs : xs.map (·.1) = l.map fun b => (DataW.lit (.string b) : DataW H) := by
        have := congrArg Prod.fst hx
        simpa using this
      have hxl : xs.length = n := by simpa using Lib.mapM_length hm
      have hzl : l.length = n := by
        have := congrArg List.length hxs
        simp at this
        omega
      apply List.ext_getElem?
      intro i
      by_cases hi : i < n
      · obtain ⟨b, hb, hf⟩ := Lib.mapM_at hm i i (by simp [hi])
        obtain ⟨z, hc, rfl, _⟩ := DataW.trod_string he hf
        have h1 : cs[i]? = some (.string z) := by
          have := congrArg (·[0]?) hc
          simpa [List.getElem?_take, List.getElem?_drop] using this
        have h2 : (xs.map (·.1))[i]? = some (DataW.lit (.string z.data.toList) : DataW H) := by simp [hb]
        rw [hxs] at h2
        simp only [List.getElem?_map, Option.map_eq_some_iff, DataW.lit.injEq, Lit.string.injEq] at h2
        obtain ⟨z', hz', rfl⟩ := h2
        simp [h1, hz']
      · rw [List.getElem?_eq_none (by omega), List.getElem?_eq_none (by simp; omega)]
    · cases h

def unval : AV → Value
  | .val v => v
  | _ => .bool false
def textOf : AV → List UInt8
  | .val (.string b) => b.data.toList
  | _ => []
def numOf : AV → Int
  | .val (.int _ n) => n
  | _ => 0

theorem relL_vals {S : Snap} {f : Emb} : ∀ {vs : List Value}, vs.all (·.oneCell') = true → RelL S f (vs.map AV.val) vs
  | [], _ => by simp only [List.map_nil, RelL]
  | v :: vs, h => by
    simp only [List.all_cons, Bool.and_eq_true] at h
    simp only [List.map_cons, RelL]
    exact ⟨v, vs, rfl, rel_val h.1, relL_vals h.2⟩

theorem kw_vals : keywordCells = (keywordCells.map unval).map AV.val := by kernel_rfl
theorem kw_one : (keywordCells.map unval).all (·.oneCell') = true := by kernel_rfl
theorem kw_texts : (keywordCells.map textOf).map (fun b => Value.string ⟨b.toArray⟩) = keywordCells.map unval := by kernel_rfl
theorem kw_laid : Rows.laid_liquidcheck_names_keywords = (.agg ((keywordCells.map textOf).map fun b => .lit (.string b)) : DataW Unit) := by kernel_rfl
theorem p10_vals : pow10Cells = (pow10Cells.map unval).map AV.val := by kernel_rfl
theorem p10_one : (pow10Cells.map unval).all (·.oneCell') = true := by kernel_rfl
theorem p10_nums : (pow10Cells.map numOf).map (fun z => Value.int .u64 z) = pow10Cells.map unval := by kernel_rfl
theorem p10_laid : Rows.laid_internal_strconv_uint64pow10 = (Lib.tabData .u64 (pow10Cells.map numOf) : DataW Unit) := by kernel_rfl

theorem kw_glob : Tryz.prog.globalNamed "liquidcheck/names.keywords" = some 0 := by kernel_rfl
theorem p10_glob : Tryz.prog.globalNamed "internal/strconv.uint64pow10" = some 2 := by kernel_rfl

theorem one_of_laid {W : World} {l : List (String × DataW Unit)} {name : String} {d : DataW Unit} (h : laidMetH Tryz.prog l W) (hf : l.filter (fun x => x.1 == name) = [(name, d)]) (hn : d.handleName?.isNone = true) :
    laidMet Tryz.prog [(name, d)] W := by
  have h1 := h.filter fun x => x.1 == name
  rw [hf] at h1
  rw [MakeChecks.laidMetH_plain] at h1
  · exact h1
  · simp only [List.all_cons, List.all_nil, hn, Bool.and_self]

theorem cells_rel {W : World} {name : String} {g : Nat} {cs : List AV} (hg : Tryz.prog.globalNamed name = some g) (hv : W.var? Tryz.prog name = some (cs.map unval).toArray) (h1 : cs = (cs.map unval).map AV.val) (h2 : (cs.map unval).all (·.oneCell') = true) :
    RelC (snapW W) cs g 0 := by
  rw [h1]
  refine relC_of (relL_vals h2) h2 fun i v hi => ?_
  have := World.var?_cell hg hv i
  rw [show (cs.map unval).toArray[i]? = (cs.map unval)[i]? by simp, hi] at this
  simpa only [snapW, Nat.zero_add] using this

theorem keywords_rel {W : World} (h : laidMetH Tryz.prog Rows.rewriteGroundsUptoRow.laid W) : RelC (snapW W) keywordCells 0 0 := by
  have h1 := one_of_laid (name := "liquidcheck/names.keywords") (d := Rows.laid_liquidcheck_names_keywords) h (by kernel_rfl) (by kernel_rfl)
  rw [kw_laid] at h1
  obtain ⟨ps, ⟨g', t', cs, fuel, p, q, hg', ht', hvar, hd, _, _⟩, _⟩ := h1
  obtain rfl := Option.some.inj (kw_glob.symm.trans hg')
  have q1 : (Tryz.prog.globals[0]?).map (·.type) = some 320 := by kernel_rfl
  have q2 : Tryz.prog.underlying 320 = some (.array 42 9) := by kernel_rfl
  have q3 : Tryz.prog.underlying 9 = some .string := by kernel_rfl
  have q4 : Tryz.prog.cellsOf 9 = 1 := by kernel_rfl
  have q5 : Tryz.prog.cellsOf 320 = 42 := by kernel_rfl
  obtain rfl := Option.some.inj (q1.symm.trans ht')
  have hcs := cells_of_texts q2 q3 q4 q5 hd
  rw [kw_texts] at hcs
  refine cells_rel kw_glob ?_ kw_vals kw_one
  rw [hvar, ← hcs]

theorem pow10_rel {W : World} (h : laidMetH Tryz.prog Rows.rewriteGroundsUptoRow.laid W) : RelC (snapW W) pow10Cells 2 0 := by
  have h1 := one_of_laid (name := "internal/strconv.uint64pow10") (d := Rows.laid_internal_strconv_uint64pow10) h (by kernel_rfl) (by kernel_rfl)
  rw [p10_laid] at h1
  have q1 : (Tryz.prog.globals[2]?).map (·.type) = some 368 := by kernel_rfl
  obtain ⟨e, q2, q3, q4⟩ : ∃ e, Tryz.prog.underlying 368 = some (.array 20 e) ∧ Tryz.prog.underlying e = some (.int .u64) ∧ Tryz.prog.cellsOf e = 1 := ⟨326, by kernel_rfl, by kernel_rfl, by kernel_rfl⟩
  have q5 : Tryz.prog.cellsOf 368 = 20 := by kernel_rfl
  have ht := Lib.tabIs_of_head p10_glob q1 q2 q3 q4 q5 h1
  unfold Lib.TabIs at ht
  rw [p10_nums] at ht
  exact cells_rel p10_glob ht p10_vals p10_one

theorem globs_rel {W : World} (h : laidMetH Tryz.prog Rows.rewriteGroundsUptoRow.laid W) : ∀ q cs, globCells q = some cs → RelC (snapW W) cs q 0 := by
  intro q cs hq
  unfold globCells at hq
  split at hq
  · cases hq; exact keywords_rel h
  · cases hq; exact pow10_rel h
  · cases hq

end Go.Proofs.YtbolilekjpoicaaGreatDoor
