/- A part of the proofs about certificates: YClosed. -/
import Derived.Test.YtijpnlmmaoecgaaGreatDoorQO2
import Derived.OpenShut

set_option linter.all false

namespace Go.Proofs.YtijpnlmmaoecgaaGreatDoor
open Go Go.AM Go.ChangeShapes Go.WideShapes Go.ChangeAt Go.RowKit
set_option maxRecDepth 100000
set_option maxHeartbeats 0
theorem own : ownKnob Tryz.prog.godebug = none := by kernel_rfl
theorem types_size : Tryz.prog.types.size = 758 := by kernel_rfl
theorem fine0 : (List.range 38).all (fun i => rowFine Tryz.prog (0 + i)) = true := by kernel_rfl
theorem fine1 : (List.range 38).all (fun i => rowFine Tryz.prog (38 + i)) = true := by kernel_rfl
theorem fine2 : (List.range 38).all (fun i => rowFine Tryz.prog (76 + i)) = true := by kernel_rfl
theorem fine3 : (List.range 38).all (fun i => rowFine Tryz.prog (114 + i)) = true := by kernel_rfl
theorem fine4 : (List.range 38).all (fun i => rowFine Tryz.prog (152 + i)) = true := by kernel_rfl
theorem fine5 : (List.range 38).all (fun i => rowFine Tryz.prog (190 + i)) = true := by kernel_rfl
theorem fine6 : (List.range 38).all (fun i => rowFine Tryz.prog (228 + i)) = true := by kernel_rfl
theorem fine7 : (List.range 38).all (fun i => rowFine Tryz.prog (266 + i)) = true := by kernel_rfl
theorem fine8 : (List.range 38).all (fun i => rowFine Tryz.prog (304 + i)) = true := by kernel_rfl
theorem fine9 : (List.range 38).all (fun i => rowFine Tryz.prog (342 + i)) = true := by kernel_rfl
theorem fine10 : (List.range 38).all (fun i => rowFine Tryz.prog (380 + i)) = true := by kernel_rfl
theorem fine11 : (List.range 38).all (fun i => rowFine Tryz.prog (418 + i)) = true := by kernel_rfl
theorem fine12 : (List.range 38).all (fun i => rowFine Tryz.prog (456 + i)) = true := by kernel_rfl
theorem fine13 : (List.range 38).all (fun i => rowFine Tryz.prog (494 + i)) = true := by kernel_rfl
theorem fine14 : (List.range 38).all (fun i => rowFine Tryz.prog (532 + i)) = true := by kernel_rfl
theorem fine15 : (List.range 38).all (fun i => rowFine Tryz.prog (570 + i)) = true := by kernel_rfl
theorem fine16 : (List.range 38).all (fun i => rowFine Tryz.prog (608 + i)) = true := by kernel_rfl
theorem fine17 : (List.range 38).all (fun i => rowFine Tryz.prog (646 + i)) = true := by kernel_rfl
theorem fine18 : (List.range 38).all (fun i => rowFine Tryz.prog (684 + i)) = true := by kernel_rfl
theorem fine19 : (List.range 36).all (fun i => rowFine Tryz.prog (722 + i)) = true := by kernel_rfl
theorem globs_in : Tryz.prog.globals.all (fun g => decide (g.type < Tryz.prog.types.size)) = true := by kernel_rfl
theorem params_in : Tryz.prog.funcs.all (fun f => f.params.all fun t => decide (t < Tryz.prog.types.size)) = true := by kernel_rfl
theorem of_chunk {f : Nat → Bool} {a k t : Nat} (h : (List.range k).all (fun i => f (a + i)) = true) (h1 : a ≤ t) (h2 : t < a + k) : f t = true := by
 have := List.all_eq_true.1 h (t - a) (List.mem_range.2 (by omega))
 rwa [show a + (t - a) = t by omega] at this
theorem fine_all (t : Nat) (h : t < 758) : rowFine Tryz.prog t = true := by
 rcases Nat.lt_or_ge t 38 with h0 | h0
 ·exact of_chunk fine0 (by omega) (by omega)
 rcases Nat.lt_or_ge t 76 with h1 | h1
 ·exact of_chunk fine1 (by omega) (by omega)
 rcases Nat.lt_or_ge t 114 with h2 | h2
 ·exact of_chunk fine2 (by omega) (by omega)
 rcases Nat.lt_or_ge t 152 with h3 | h3
 ·exact of_chunk fine3 (by omega) (by omega)
 rcases Nat.lt_or_ge t 190 with h4 | h4
 ·exact of_chunk fine4 (by omega) (by omega)
 rcases Nat.lt_or_ge t 228 with h5 | h5
 ·exact of_chunk fine5 (by omega) (by omega)
 rcases Nat.lt_or_ge t 266 with h6 | h6
 ·exact of_chunk fine6 (by omega) (by omega)
 rcases Nat.lt_or_ge t 304 with h7 | h7
 ·exact of_chunk fine7 (by omega) (by omega)
 rcases Nat.lt_or_ge t 342 with h8 | h8
 ·exact of_chunk fine8 (by omega) (by omega)
 rcases Nat.lt_or_ge t 380 with h9 | h9
 ·exact of_chunk fine9 (by omega) (by omega)
 rcases Nat.lt_or_ge t 418 with h10 | h10
 ·exact of_chunk fine10 (by omega) (by omega)
 rcases Nat.lt_or_ge t 456 with h11 | h11
 ·exact of_chunk fine11 (by omega) (by omega)
 rcases Nat.lt_or_ge t 494 with h12 | h12
 ·exact of_chunk fine12 (by omega) (by omega)
 rcases Nat.lt_or_ge t 532 with h13 | h13
 ·exact of_chunk fine13 (by omega) (by omega)
 rcases Nat.lt_or_ge t 570 with h14 | h14
 ·exact of_chunk fine14 (by omega) (by omega)
 rcases Nat.lt_or_ge t 608 with h15 | h15
 ·exact of_chunk fine15 (by omega) (by omega)
 rcases Nat.lt_or_ge t 646 with h16 | h16
 ·exact of_chunk fine16 (by omega) (by omega)
 rcases Nat.lt_or_ge t 684 with h17 | h17
 ·exact of_chunk fine17 (by omega) (by omega)
 rcases Nat.lt_or_ge t 722 with h18 | h18
 ·exact of_chunk fine18 (by omega) (by omega)
 exact of_chunk fine19 (by omega) (by omega)
theorem laidOut : laidOutB Tryz.prog = true := by
 unfold laidOutB
 rw [globs_in, params_in, Bool.and_true, Bool.and_true]
 refine List.all_eq_true.2 fun t ht => fine_all t ?_
 have := List.mem_range.1 ht
 rwa [types_size] at this
theorem rowed : mapsRowed Tryz.prog = true := by kernel_rfl
theorem full : ∀ t e, t < Tryz.prog.types.size → Tryz.prog.underlying t = some (.slice e) → 0 < Tryz.prog.cellsOf e := slices_full_of Tryz.prog (by kernel_rfl)
theorem small27 : 27 < Tryz.prog.types.size := by rw [types_size]; decide
end Go.Proofs.YtijpnlmmaoecgaaGreatDoor
