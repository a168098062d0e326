/- A part of the proofs about certificates: YLaid YWit. -/
import Derived.Test.YtijpnlmmaoecgaaGreatDoorQE1
import Derived.Test.YtijpnlmmaoecgaaGreatDoorQO1
import Derived.Test.YtijpnlmmaoecgaaGreatDoorRows
import Derived.LaidSub
import Derived.MakeChecks
import Derived.Lib.LaidTab
import Derived.Deep.DeepWitnessRowRef
import Derived.Lib.LaidIn
import Derived.Great.LaidInts

set_option linter.all false

namespace Go.Proofs.YtijpnlmmaoecgaaGreatDoor
open Go Go.AM Go.WideShapes
set_option maxRecDepth 10000
mutual
theorem bulk_eq {H : Type} : ∀ d : DataW H, bulkD d ≤ Rows.uptoBulk d
 | .lit l => by cases l <;> simp [bulkD, Rows.uptoBulk]
 | .nil => by simp [bulkD, Rows.uptoBulk]
 | .ptr d => by have := bulk_eq d; simp only [bulkD, Rows.uptoBulk]; omega
 | .slice e s => by have := bulkL_eq e; have := bulkL_eq s; simp only [bulkD, Rows.uptoBulk]; omega
 | .agg p => by have := bulkL_eq p; simp only [bulkD, Rows.uptoBulk]; omega
 | .iface _ d => by have := bulk_eq d; simp only [bulkD, Rows.uptoBulk]; omega
 | .map _ => by simp only [bulkD, Rows.uptoBulk]; omega
 | .held _ => by simp only [bulkD, Rows.uptoBulk]; omega
theorem bulkL_eq {H : Type} : ∀ l : List (DataW H), bulkL l ≤ Rows.uptoBulkAll l
 | [] => by simp [bulkL, Rows.uptoBulkAll]
 | d :: r => by have := bulk_eq d; have := bulkL_eq r; simp only [bulkL, Rows.uptoBulkAll]; omega
end
theorem cells_of_texts {H : Type} {enc : TypeId × Value → H} {P : Program} {w : World} {base : Nat} {sp : Nat → Bool} {held : Bool} {fuel : Nat} {t e : TypeId} {n : Nat} {cs : List Value} {l : List (List UInt8)} {p : List MemPlace}
  (ht : P.underlying t = some (.array n e)) (he : P.underlying e = some .string) (hce : P.cellsOf e = 1) (hct : P.cellsOf t = n)
  (h : DataW.trod enc P w base sp held fuel t cs = some (.agg (l.map fun b => .lit (.string b)), p)) : cs = l.map fun b => Value.string ⟨b.toArray⟩ := by
 cases fuel with
 | zero => simp [DataW.trod] at h
 | succ fuel =>
  simp only [DataW.trod, ht, hce, hct, Nat.mul_one] at h
  split at h
  ·rename_i hl
   obtain ⟨xs, hm, hx⟩ := Option.map_eq_some_iff.1 h
   have hxs : xs.map (·.1) = l.map fun b => (DataW.lit (.string b) : DataW H) := by
    have := congrArg Prod.fst hx
    simpa using this
   have hxl : xs.length = n := by simpa using Lib.mapM_length hm
   have hzl : l.length = n := by
    have := congrArg List.length hxs
    simp at this
    omega
   apply List.ext_getElem?
   intro i
   by_cases hi : i < n
   ·obtain ⟨b, hb, hf⟩ := Lib.mapM_at hm i i (by simp [hi])
    obtain ⟨z, hc, rfl, _⟩ := DataW.trod_string he hf
    have h1 : cs[i]? = some (.string z) := by
     have := congrArg (·[0]?) hc
     simpa [List.getElem?_take, List.getElem?_drop] using this
    have h2 : (xs.map (·.1))[i]? = some (DataW.lit (.string z.data.toList) : DataW H) := by simp [hb]
    rw [hxs] at h2
    simp only [List.getElem?_map, Option.map_eq_some_iff, DataW.lit.injEq, Lit.string.injEq] at h2
    obtain ⟨z', hz', rfl⟩ := h2
    simp [h1, hz']
   ·rw [List.getElem?_eq_none (by omega), List.getElem?_eq_none (by simp; omega)]
  ·cases h
def unval : AV → Value
 | .val v => v
 | _ => .bool false
def textOf : AV → List UInt8
 | .val (.string b) => b.data.toList
 | _ => []
def numOf : AV → Int
 | .val (.int _ n) => n
 | _ => 0
theorem relL_vals {S : Snap} {f : Emb} : ∀ {vs : List Value}, vs.all (·.oneCell') = true → RelL S f (vs.map AV.val) vs
 | [], _ => by simp only [List.map_nil, RelL]
 | v :: vs, h => by
  simp only [List.all_cons, Bool.and_eq_true] at h
  simp only [List.map_cons, RelL]
  exact ⟨v, vs, rfl, rel_val h.1, relL_vals h.2⟩
theorem kw_vals : keywordCells = (keywordCells.map unval).map AV.val := by kernel_rfl
theorem kw_one : (keywordCells.map unval).all (·.oneCell') = true := by kernel_rfl
theorem kw_texts : (keywordCells.map textOf).map (fun b => Value.string ⟨b.toArray⟩) = keywordCells.map unval := by kernel_rfl
theorem kw_laid : Rows.laid_liquidcheck_names_keywords = (.agg ((keywordCells.map textOf).map fun b => .lit (.string b)) : DataW Unit) := by kernel_rfl
theorem p10_vals : pow10Cells = (pow10Cells.map unval).map AV.val := by kernel_rfl
theorem p10_one : (pow10Cells.map unval).all (·.oneCell') = true := by kernel_rfl
theorem p10_nums : (pow10Cells.map numOf).map (fun z => Value.int .u64 z) = pow10Cells.map unval := by kernel_rfl
theorem p10_laid : Rows.laid_internal_strconv_uint64pow10 = (Lib.tabData .u64 (pow10Cells.map numOf) : DataW Unit) := by kernel_rfl
theorem kw_glob : Tryz.prog.globalNamed "liquidcheck/names.keywords" = some 4 := by kernel_rfl
theorem p10_glob : Tryz.prog.globalNamed "internal/strconv.uint64pow10" = some 2 := by kernel_rfl
theorem one_of_laid {W : World} {l : List (String × DataW Unit)} {name : String} {d : DataW Unit} (h : laidMetH Tryz.prog l W) (hf : l.filter (fun x => x.1 == name) = [(name, d)]) (hn : d.handleName?.isNone = true) :
  laidMet Tryz.prog [(name, d)] W := by
 have h1 := h.filter fun x => x.1 == name
 rw [hf] at h1
 rw [MakeChecks.laidMetH_plain] at h1
 ·exact h1
 ·simp only [List.all_cons, List.all_nil, hn, Bool.and_self]
theorem cells_rel {W : World} {name : String} {g : Nat} {cs : List AV} (hg : Tryz.prog.globalNamed name = some g) (hv : W.var? Tryz.prog name = some (cs.map unval).toArray) (h1 : cs = (cs.map unval).map AV.val) (h2 : (cs.map unval).all (·.oneCell') = true) :
  RelC (snapW W) cs g 0 := by
 rw [h1]
 refine relC_of (relL_vals h2) h2 fun i v hi => ?_
 have := World.var?_cell hg hv i
 rw [show (cs.map unval).toArray[i]? = (cs.map unval)[i]? by simp, hi] at this
 simpa only [snapW, Nat.zero_add] using this
theorem keywords_rel {W : World} (h : laidMetH Tryz.prog Rows.certifyRoundTripUptoRow.laid W) : RelC (snapW W) keywordCells 4 0 := by
 have h1 := one_of_laid (name := "liquidcheck/names.keywords") (d := Rows.laid_liquidcheck_names_keywords) h (by kernel_rfl) (by kernel_rfl)
 rw [kw_laid] at h1
 obtain ⟨ps, ⟨g', t', cs, fuel, p, q, hg', ht', hvar, hd, _, _⟩, _⟩ := h1
 obtain rfl := Option.some.inj (kw_glob.symm.trans hg')
 have q1 : (Tryz.prog.globals[4]?).map (·.type) = some 676 := by kernel_rfl
 have q2 : Tryz.prog.underlying 676 = some (.array 42 9) := by kernel_rfl
 have q3 : Tryz.prog.underlying 9 = some .string := by kernel_rfl
 have q4 : Tryz.prog.cellsOf 9 = 1 := by kernel_rfl
 have q5 : Tryz.prog.cellsOf 676 = 42 := by kernel_rfl
 obtain rfl := Option.some.inj (q1.symm.trans ht')
 have hcs := cells_of_texts q2 q3 q4 q5 hd
 rw [kw_texts] at hcs
 refine cells_rel kw_glob ?_ kw_vals kw_one
 rw [hvar, ← hcs]
theorem pow10_rel {W : World} (h : laidMetH Tryz.prog Rows.certifyRoundTripUptoRow.laid W) : RelC (snapW W) pow10Cells 2 0 := by
 have h1 := one_of_laid (name := "internal/strconv.uint64pow10") (d := Rows.laid_internal_strconv_uint64pow10) h (by kernel_rfl) (by kernel_rfl)
 rw [p10_laid] at h1
 have q1 : (Tryz.prog.globals[2]?).map (·.type) = some 656 := by kernel_rfl
 obtain ⟨e, q2, q3, q4⟩ : ∃ e, Tryz.prog.underlying 656 = some (.array 20 e) ∧ Tryz.prog.underlying e = some (.int .u64) ∧ Tryz.prog.cellsOf e = 1 := ⟨141, by kernel_rfl, by kernel_rfl, by kernel_rfl⟩
 have q5 : Tryz.prog.cellsOf 656 = 20 := by kernel_rfl
 have ht := Lib.tabIs_of_head p10_glob q1 q2 q3 q4 q5 h1
 unfold Lib.TabIs at ht
 rw [p10_nums] at ht
 exact cells_rel p10_glob ht p10_vals p10_one
theorem globs_rel {W : World} (h : laidMetH Tryz.prog Rows.certifyRoundTripUptoRow.laid W) : ∀ q cs, globCells q = some cs → RelC (snapW W) cs q 0 := by
 intro q cs hq
 unfold globCells at hq
 split at hq
 ·cases hq; exact pow10_rel h
 ·cases hq; exact keywords_rel h
 ·cases hq
end Go.Proofs.YtijpnlmmaoecgaaGreatDoor

namespace Go.Proofs.YtijpnlmmaoecgaaGreatDoor
open Go Go.AM Go.Great
set_option maxRecDepth 1000000
def zi (l : List Nat) : List Int := l.map fun (n : Nat) => (n : Int)
theorem zi_numbers (k : IntKind) : ∀ l : List Nat, Pinned.numbers k l = (zi l).map fun n => (.lit (.int k n) : DataW Unit)
 | [] => rfl
 | a :: r => by
  have := zi_numbers k r
  simp only [Pinned.numbers, zi, List.map_cons, List.map_map] at this ⊢
  rfl
theorem fits (k : IntKind) (zs : List Int) (h : (zs.all fun n => (Lit.int k n).wf) = true) : ∀ n ∈ zs, (Lit.int k n).wf = true := fun n hn => List.all_eq_true.1 h n hn
def accCells : Array Value := #[.int .u8 128, .int .u8 191, .int .u8 160, .int .u8 191, .int .u8 128, .int .u8 159, .int .u8 144, .int .u8 191, .int .u8 128, .int .u8 143, .int .u8 0, .int .u8 0, .int .u8 0, .int .u8 0, .int .u8 0, .int .u8 0, .int .u8 0, .int .u8 0, .int .u8 0, .int .u8 0, .int .u8 0, .int .u8 0, .int .u8 0, .int .u8 0, .int .u8 0, .int .u8 0, .int .u8 0, .int .u8 0, .int .u8 0, .int .u8 0, .int .u8 0, .int .u8 0]
def z32 : List Int := [0, 1, 28, 2, 29, 14, 24, 3, 30, 22, 20, 15, 25, 17, 4, 8, 31, 27, 13, 23, 21, 19, 16, 7, 26, 12, 18, 6, 11, 5, 10, 9]
def z64 : List Int := [0, 1, 56, 2, 57, 49, 28, 3, 61, 58, 42, 50, 38, 29, 17, 4, 62, 47, 59, 36, 45, 43, 51, 22, 53, 39, 33, 30, 24, 18, 12, 5, 63, 55, 48, 27, 60, 41, 37, 16, 46, 35, 44, 21, 52, 32, 23, 11, 54, 26, 40, 15, 34, 20, 31, 10, 25, 14, 19, 9, 13, 8, 7, 6]
noncomputable def laidWorld (os : Os) : World :=
 let N := (World.settled Tryz.prog os).heap.size
 let w0 := World.holding Tryz.prog os ⟨#[
  .cells ((zi Pinned.isGraphicZ).map (Value.int .u16)).toArray 36, .cells ((zi Pinned.isNotPrint16Z).map (Value.int .u16)).toArray 36, .cells ((zi Pinned.isNotPrint32Z).map (Value.int .u16)).toArray 36, .cells ((zi Pinned.isPrint16Z).map (Value.int .u16)).toArray 36, .cells ((zi Pinned.isPrint32Z).map (Value.int .u32)).toArray 149,
  .cells #[.string ⟨#[118, 97, 108, 117, 101, 32, 111, 117, 116, 32, 111, 102, 32, 114, 97, 110, 103, 101]⟩] 662, .cells #[.string ⟨#[105, 110, 118, 97, 108, 105, 100, 32, 115, 121, 110, 116, 97, 120]⟩] 662], #[], []⟩
 let put (h : Array Obj) (g : Nat) (cs : Array Value) : Array Obj := h.modify g fun
  | .cells _ t frozen => .cells cs t frozen
  | o => o
 let h0 := put (put w0.heap 1 #[.iface 660 (.pointer (some ⟨N + 5, 0, none⟩))]) 0 #[.iface 660 (.pointer (some ⟨N + 6, 0, none⟩))]
 let h1 := put (put (put h0 2 (pow10Cells.map unval).toArray) 5 (z32.map (Value.int .u8)).toArray) 6 (z64.map (Value.int .u8)).toArray
 let h2 := put (put (put h1 7 ((zi Pinned.utf8FirstZ).map (Value.int .u8)).toArray) 8 accCells) 4 (keywordCells.map unval).toArray
 let h3 := put h2 13 #[.slice (some ⟨N, 0, none⟩) (zi Pinned.isGraphicZ).length (zi Pinned.isGraphicZ).length]
 let h4 := put h3 10 #[.slice (some ⟨N + 1, 0, none⟩) (zi Pinned.isNotPrint16Z).length (zi Pinned.isNotPrint16Z).length]
 let h5 := put h4 12 #[.slice (some ⟨N + 2, 0, none⟩) (zi Pinned.isNotPrint32Z).length (zi Pinned.isNotPrint32Z).length]
 let h6 := put h5 9 #[.slice (some ⟨N + 3, 0, none⟩) (zi Pinned.isPrint16Z).length (zi Pinned.isPrint16Z).length]
 let h7 := put h6 11 #[.slice (some ⟨N + 4, 0, none⟩) (zi Pinned.isPrint32Z).length (zi Pinned.isPrint32Z).length]
 { w0 with heap := h7 }
noncomputable abbrev N0 : Nat := (World.settled Tryz.prog default).heap.size
abbrev intsD (k : IntKind) (zs : List Int) : DataW Unit := .slice (zs.map fun n => .lit (.int k n)) []
theorem piece0 (os : Os) (args : Array Value) : LaidIn Tryz.prog ((laidWorld os).forCall (fun _ _ => 0) ⟨#[], args, []⟩).memory (Rows.certifyRoundTripUptoRow.laid.take 4) [2, 5, 6, 4] :=
 LaidIn.of_run [2, 5, 6, 4] 10 (by kernel_rfl) (by kernel_rfl) (by kernel_rfl) (by kernel_rfl)
theorem pieceE (os : Os) (args : Array Value) : LaidIn Tryz.prog ((laidWorld os).forCall (fun _ _ => 0) ⟨#[], args, []⟩).memory (Rows.certifyRoundTripUptoRow.laid.drop 11) [0, N0 + 6, 1, N0 + 5] :=
 LaidIn.of_run [0, N0 + 6, 1, N0 + 5] 10 (by kernel_rfl) (by kernel_rfl) (by kernel_rfl) (by kernel_rfl)
theorem piece8 (os : Os) (args : Array Value) : LaidIn Tryz.prog ((laidWorld os).forCall (fun _ _ => 0) ⟨#[], args, []⟩).memory [("unicode/utf8.acceptRanges", Rows.laid_unicode_utf8_acceptRanges)] [8] :=
 LaidIn.of_run [8] 10 (by kernel_rfl) (by kernel_rfl) (by kernel_rfl) (by kernel_rfl)
theorem piece13 (os : Os) (args : Array Value) : LaidIn Tryz.prog ((laidWorld os).forCall (fun _ _ => 0) ⟨#[], args, []⟩).memory [("strconv.isGraphic", intsD .u16 (zi Pinned.isGraphicZ))] [13, N0 + 0] :=
 laidIn_ints (name := "strconv.isGraphic") (g := 13) (R := N0 + 0) (t := 694) (e := 36) (tg := 694) (k := .u16) (zs := zi Pinned.isGraphicZ) (by kernel_rfl) (by kernel_rfl) (by kernel_rfl) (by kernel_rfl) (by kernel_rfl) (Nat.le_of_ble_eq_true (by kernel_rfl)) (fits _ _ (by kernel_rfl)) (by kernel_rfl) (by kernel_rfl) (Nat.ne_of_beq_eq_false (by kernel_rfl))
theorem piece10 (os : Os) (args : Array Value) : LaidIn Tryz.prog ((laidWorld os).forCall (fun _ _ => 0) ⟨#[], args, []⟩).memory [("strconv.isNotPrint16", intsD .u16 (zi Pinned.isNotPrint16Z))] [10, N0 + 1] :=
 laidIn_ints (name := "strconv.isNotPrint16") (g := 10) (R := N0 + 1) (t := 694) (e := 36) (tg := 694) (k := .u16) (zs := zi Pinned.isNotPrint16Z) (by kernel_rfl) (by kernel_rfl) (by kernel_rfl) (by kernel_rfl) (by kernel_rfl) (Nat.le_of_ble_eq_true (by kernel_rfl)) (fits _ _ (by kernel_rfl)) (by kernel_rfl) (by kernel_rfl) (Nat.ne_of_beq_eq_false (by kernel_rfl))
theorem piece12 (os : Os) (args : Array Value) : LaidIn Tryz.prog ((laidWorld os).forCall (fun _ _ => 0) ⟨#[], args, []⟩).memory [("strconv.isNotPrint32", intsD .u16 (zi Pinned.isNotPrint32Z))] [12, N0 + 2] :=
 laidIn_ints (name := "strconv.isNotPrint32") (g := 12) (R := N0 + 2) (t := 694) (e := 36) (tg := 694) (k := .u16) (zs := zi Pinned.isNotPrint32Z) (by kernel_rfl) (by kernel_rfl) (by kernel_rfl) (by kernel_rfl) (by kernel_rfl) (Nat.le_of_ble_eq_true (by kernel_rfl)) (fits _ _ (by kernel_rfl)) (by kernel_rfl) (by kernel_rfl) (Nat.ne_of_beq_eq_false (by kernel_rfl))
theorem piece9 (os : Os) (args : Array Value) : LaidIn Tryz.prog ((laidWorld os).forCall (fun _ _ => 0) ⟨#[], args, []⟩).memory [("strconv.isPrint16", intsD .u16 (zi Pinned.isPrint16Z))] [9, N0 + 3] :=
 laidIn_ints (name := "strconv.isPrint16") (g := 9) (R := N0 + 3) (t := 694) (e := 36) (tg := 694) (k := .u16) (zs := zi Pinned.isPrint16Z) (by kernel_rfl) (by kernel_rfl) (by kernel_rfl) (by kernel_rfl) (by kernel_rfl) (Nat.le_of_ble_eq_true (by kernel_rfl)) (fits _ _ (by kernel_rfl)) (by kernel_rfl) (by kernel_rfl) (Nat.ne_of_beq_eq_false (by kernel_rfl))
theorem piece11 (os : Os) (args : Array Value) : LaidIn Tryz.prog ((laidWorld os).forCall (fun _ _ => 0) ⟨#[], args, []⟩).memory [("strconv.isPrint32", intsD .u32 (zi Pinned.isPrint32Z))] [11, N0 + 4] :=
 laidIn_ints (name := "strconv.isPrint32") (g := 11) (R := N0 + 4) (t := 696) (e := 149) (tg := 696) (k := .u32) (zs := zi Pinned.isPrint32Z) (by kernel_rfl) (by kernel_rfl) (by kernel_rfl) (by kernel_rfl) (by kernel_rfl) (Nat.le_of_ble_eq_true (by kernel_rfl)) (fits _ _ (by kernel_rfl)) (by kernel_rfl) (by kernel_rfl) (Nat.ne_of_beq_eq_false (by kernel_rfl))
theorem piece7 (os : Os) (args : Array Value) : LaidIn Tryz.prog ((laidWorld os).forCall (fun _ _ => 0) ⟨#[], args, []⟩).memory [("unicode/utf8.first", Rows.laid_unicode_utf8_first)] [7] :=
 LaidIn.of_run [7] 10 (by kernel_rfl) (by kernel_rfl) (by kernel_rfl) (by kernel_rfl)
theorem laid_parts : Rows.certifyRoundTripUptoRow.laid = Rows.certifyRoundTripUptoRow.laid.take 4 ++ ([("unicode/utf8.first", Rows.laid_unicode_utf8_first)] ++ ([("unicode/utf8.acceptRanges", Rows.laid_unicode_utf8_acceptRanges)] ++ ([("strconv.isPrint16", intsD .u16 (zi Pinned.isPrint16Z))] ++ ([("strconv.isNotPrint16", intsD .u16 (zi Pinned.isNotPrint16Z))] ++
  ([("strconv.isPrint32", intsD .u32 (zi Pinned.isPrint32Z))] ++ ([("strconv.isNotPrint32", intsD .u16 (zi Pinned.isNotPrint32Z))] ++ ([("strconv.isGraphic", intsD .u16 (zi Pinned.isGraphicZ))] ++ Rows.certifyRoundTripUptoRow.laid.drop 11))))))) := by
 simp only [intsD, ← zi_numbers]
 rfl
theorem laid_met (os : Os) (args : Array Value) : laidMet Tryz.prog Rows.certifyRoundTripUptoRow.laid ((laidWorld os).forCall (fun _ _ => 0) ⟨#[], args, []⟩).memory := by
 rw [laid_parts]
 exact ((piece0 os args).append ((piece7 os args).append ((piece8 os args).append ((piece9 os args).append ((piece10 os args).append ((piece11 os args).append ((piece12 os args).append ((piece13 os args).append (pieceE os args) (by kernel_rfl)) (by kernel_rfl)) (by kernel_rfl)) (by kernel_rfl)) (by kernel_rfl)) (by kernel_rfl)) (by kernel_rfl)) (by kernel_rfl)).met
end Go.Proofs.YtijpnlmmaoecgaaGreatDoor
