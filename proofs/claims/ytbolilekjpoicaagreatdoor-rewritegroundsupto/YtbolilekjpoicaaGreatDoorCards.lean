/-
  DERIVED. GIVEN WITH THE SEED: THE CARDS: each row of YtbolilekjpoicaaGreatDoorRows.lean that lists a variable, with what it lists TIED to the program's text (the seventh form; the later family's looks); each row that meets fmt, with fmt's text TOLD by the authors' own Lean function (tested against real Go, not proved from fmt's source: count such statements apart). THE CARD IS WHAT COUNTS. Prove the row's statement (the work); the ties are given (YtbolilekjpoicaaGreatDoorTie.lean); close each card by the builder's one call (the guide's Derived/Test/ToyasCard.lean, 'card_holds'). Laid BY PROGRAM, IN A SANDBOX (cutbox-door.mjs). By AI agents, Wed Nov 11 2026. No macro, syntax, notation, axiom, sorry.
-/
import Derived.Test.YtbolilekjpoicaaGreatDoorRows
import GoSem.ClaimSeven
namespace Go.Proofs.YtbolilekjpoicaaGreatDoor
namespace Rows

/-- THE TIED CARD OF 'liquidchecklaw43.RewriteGrounds'. -/
def rewriteGroundsCard : Claim7 := { stood := { row := rewriteGroundsRow, standIns := [], harness := (true, "94951113743e7c947bbd3d83d5a6c422e922cad7723dbd242d5608e014c9d50d"), looks := true }, kinds := [], alts := [], laidByText := true, laidKinds := [.data, .data, .data, .data, .sentinel, .sentinel, .data, .pinned, .pinned, .pinned, .pinned, .pinned, .pinned], laidTests := true, laidLooks := .later }
def RewriteGroundsCardSaid : Prop := Claim7.holds Tryz.pinned (.plain (OpenSpec.ofChange rewriteGroundsSpec)) rewriteGroundsCard

/-- THE SECOND FORM's CARD OF 'liquidchecklaw43.RewriteGrounds'. -/
def rewriteGroundsUptoCard : Claim7 := { stood := { row := rewriteGroundsUptoRow, standIns := [], harness := (true, "94951113743e7c947bbd3d83d5a6c422e922cad7723dbd242d5608e014c9d50d"), looks := true }, kinds := [], alts := [], laidByText := true, laidKinds := [.data, .data, .data, .data, .sentinel, .sentinel, .data, .pinned, .pinned, .pinned, .pinned, .pinned, .pinned], laidTests := true, laidLooks := .later }
def RewriteGroundsUptoCardSaid : Prop := Claim7.holds Tryz.pinned (.plain (OpenSpec.upto rewriteGroundsSpec)) rewriteGroundsUptoCard
end Rows
end Go.Proofs.YtbolilekjpoicaaGreatDoor
