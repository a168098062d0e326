/-
  DERIVED. GIVEN WITH THE SEED: THE CARDS: each row of YtkhblipgiijoiaaGreatDoorRows.lean that lists a variable, with what it lists TIED to the program's text (the seventh form; the later family's looks); each row that meets fmt, with fmt's text TOLD by the authors' own Lean function (tested against real Go, not proved from fmt's source: count such statements apart). THE CARD IS WHAT COUNTS. Prove the row's statement (the work); the ties are given (YtkhblipgiijoiaaGreatDoorTie.lean); close each card by the builder's one call (the guide's Derived/Test/ToyasCard.lean, 'card_holds'). Laid BY PROGRAM, IN A SANDBOX (cutbox-door.mjs). By AI agents, Wed Nov 11 2026. No macro, syntax, notation, axiom, sorry.
-/
import Derived.Test.YtkhblipgiijoiaaGreatDoorRows
import GoSem.ClaimSeven
namespace Go.Proofs.YtkhblipgiijoiaaGreatDoor
namespace Rows

/-- THE TIED CARD OF 'liquidchecklaw44.HornChecks'. -/
def hornChecksCard : Claim7 := { stood := { row := hornChecksRow, standIns := [], harness := (true, "348626ef4b9d190d6a422795fa3757d33700747a4cdde3f49ebde42e07528e96"), looks := true }, kinds := [], alts := [], laidByText := true, laidKinds := [.data, .data, .data, .data, .sentinel, .sentinel, .data, .pinned, .pinned, .pinned, .pinned, .pinned, .pinned], laidTests := true, laidLooks := .later }
def HornChecksCardSaid : Prop := Claim7.holds Tryz.pinned (.plain (OpenSpec.ofChange hornChecksSpec)) hornChecksCard

/-- THE TIED CARD OF 'liquidchecklaw44.HornFilled'. -/
def hornFilledCard : Claim7 := { stood := { row := hornFilledRow, standIns := [], harness := (true, "348626ef4b9d190d6a422795fa3757d33700747a4cdde3f49ebde42e07528e96"), looks := true }, kinds := [], alts := [], laidByText := true, laidKinds := [.data, .data, .data, .data, .sentinel, .sentinel, .data, .pinned, .pinned, .pinned, .pinned, .pinned, .pinned], laidTests := true, laidLooks := .later }
def HornFilledCardSaid : Prop := Claim7.holds Tryz.pinned (.plain (OpenSpec.ofChange hornFilledSpec)) hornFilledCard

/-- THE SECOND FORM's CARD OF 'liquidchecklaw44.HornChecks'. -/
def hornChecksUptoCard : Claim7 := { stood := { row := hornChecksUptoRow, standIns := [], harness := (true, "348626ef4b9d190d6a422795fa3757d33700747a4cdde3f49ebde42e07528e96"), looks := true }, kinds := [], alts := [], laidByText := true, laidKinds := [.data, .data, .data, .data, .sentinel, .sentinel, .data, .pinned, .pinned, .pinned, .pinned, .pinned, .pinned], laidTests := true, laidLooks := .later }
def HornChecksUptoCardSaid : Prop := Claim7.holds Tryz.pinned (.plain (OpenSpec.upto hornChecksSpec)) hornChecksUptoCard

/-- THE SECOND FORM's CARD OF 'liquidchecklaw44.HornFilled'. -/
def hornFilledUptoCard : Claim7 := { stood := { row := hornFilledUptoRow, standIns := [], harness := (true, "348626ef4b9d190d6a422795fa3757d33700747a4cdde3f49ebde42e07528e96"), looks := true }, kinds := [], alts := [], laidByText := true, laidKinds := [.data, .data, .data, .data, .sentinel, .sentinel, .data, .pinned, .pinned, .pinned, .pinned, .pinned, .pinned], laidTests := true, laidLooks := .later }
def HornFilledUptoCardSaid : Prop := Claim7.holds Tryz.pinned (.plain (OpenSpec.upto hornFilledSpec)) hornFilledUptoCard
end Rows
end Go.Proofs.YtkhblipgiijoiaaGreatDoor
