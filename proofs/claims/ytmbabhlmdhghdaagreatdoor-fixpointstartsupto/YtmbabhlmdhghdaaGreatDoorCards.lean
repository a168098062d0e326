/-
  DERIVED. GIVEN WITH THE SEED: THE CARDS: each row of YtmbabhlmdhghdaaGreatDoorRows.lean that lists a variable, with what it lists TIED to the program's text (the seventh form; the later family's looks); each row that meets fmt, with fmt's text TOLD by the authors' own Lean function (tested against real Go, not proved from fmt's source: count such statements apart). THE CARD IS WHAT COUNTS. Prove the row's statement (the work); the ties are given (YtmbabhlmdhghdaaGreatDoorTie.lean); close each card by the builder's one call (the guide's Derived/Test/ToyasCard.lean, 'card_holds'). Laid BY PROGRAM, IN A SANDBOX (cutbox-door.mjs). By AI agents, Wed Nov 11 2026. No macro, syntax, notation, axiom, sorry.
-/
import Derived.Test.YtmbabhlmdhghdaaGreatDoorRows
import GoSem.ClaimSeven
namespace Go.Proofs.YtmbabhlmdhghdaaGreatDoor
namespace Rows

/-- THE TIED CARD OF 'liquidchecklaw46.FixpointStarts'. -/
def fixpointStartsCard : Claim7 := { stood := { row := fixpointStartsRow, standIns := [], harness := (true, "089f460423ae8f908a72b568a9c53cae3805e701ce78de46cf002cc52976d32a"), looks := true }, kinds := [], alts := [], laidByText := true, laidKinds := [.data, .data, .data, .data, .sentinel, .sentinel, .data, .pinned, .pinned, .pinned, .pinned, .pinned, .pinned], laidTests := true, laidLooks := .later }
def FixpointStartsCardSaid : Prop := Claim7.holds Tryz.pinned (.plain (OpenSpec.ofChange fixpointStartsSpec)) fixpointStartsCard

/-- THE SECOND FORM's CARD OF 'liquidchecklaw46.FixpointStarts'. -/
def fixpointStartsUptoCard : Claim7 := { stood := { row := fixpointStartsUptoRow, standIns := [], harness := (true, "089f460423ae8f908a72b568a9c53cae3805e701ce78de46cf002cc52976d32a"), looks := true }, kinds := [], alts := [], laidByText := true, laidKinds := [.data, .data, .data, .data, .sentinel, .sentinel, .data, .pinned, .pinned, .pinned, .pinned, .pinned, .pinned], laidTests := true, laidLooks := .later }
def FixpointStartsUptoCardSaid : Prop := Claim7.holds Tryz.pinned (.plain (OpenSpec.upto fixpointStartsSpec)) fixpointStartsUptoCard
end Rows
end Go.Proofs.YtmbabhlmdhghdaaGreatDoor
