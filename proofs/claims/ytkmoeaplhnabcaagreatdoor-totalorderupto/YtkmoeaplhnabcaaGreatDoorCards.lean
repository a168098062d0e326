/-
  DERIVED. GIVEN WITH THE SEED: THE CARDS: each row of YtkmoeaplhnabcaaGreatDoorRows.lean that lists a variable, with what it lists TIED to the program's text (the seventh form; the later family's looks); each row that meets fmt, with fmt's text TOLD by the authors' own Lean function (tested against real Go, not proved from fmt's source: count such statements apart). THE CARD IS WHAT COUNTS. Prove the row's statement (the work); the ties are given (YtkmoeaplhnabcaaGreatDoorTie.lean); close each card by the builder's one call (the guide's Derived/Test/ToyasCard.lean, 'card_holds'). Laid BY PROGRAM, IN A SANDBOX (cutbox-door.mjs). By AI agents, Wed Nov 11 2026. No macro, syntax, notation, axiom, sorry.
-/
import Derived.Test.YtkmoeaplhnabcaaGreatDoorRows
import GoSem.ClaimSeven
namespace Go.Proofs.YtkmoeaplhnabcaaGreatDoor
namespace Rows

/-- THE TIED CARD OF 'liquidchecklaw50.TotalGroups'. -/
def totalGroupsCard : Claim7 := { stood := { row := totalGroupsRow, standIns := [], harness := (true, "d4338fdbcc6555569c8dcf049e2323abdb5bffc61593af1f8b8274242fa9767c"), looks := true }, kinds := [], alts := [], laidByText := true, laidKinds := [.data, .data, .data, .data, .pinned, .data, .pinned, .pinned, .pinned, .pinned, .pinned, .sentinel, .sentinel], laidTests := true, laidLooks := .later }
def TotalGroupsCardSaid : Prop := Claim7.holds Tryz.pinned (.plain (OpenSpec.ofChange totalGroupsSpec)) totalGroupsCard

/-- THE TIED CARD OF 'liquidchecklaw50.TotalOrder'. -/
def totalOrderCard : Claim7 := { stood := { row := totalOrderRow, standIns := [], harness := (true, "d4338fdbcc6555569c8dcf049e2323abdb5bffc61593af1f8b8274242fa9767c"), looks := true }, kinds := [], alts := [], laidByText := true, laidKinds := [.data, .data, .data, .data, .pinned, .data, .pinned, .pinned, .pinned, .pinned, .pinned, .sentinel, .sentinel], laidTests := true, laidLooks := .later }
def TotalOrderCardSaid : Prop := Claim7.holds Tryz.pinned (.plain (OpenSpec.ofChange totalOrderSpec)) totalOrderCard

/-- THE SECOND FORM's CARD OF 'liquidchecklaw50.TotalGroups'. -/
def totalGroupsUptoCard : Claim7 := { stood := { row := totalGroupsUptoRow, standIns := [], harness := (true, "d4338fdbcc6555569c8dcf049e2323abdb5bffc61593af1f8b8274242fa9767c"), looks := true }, kinds := [], alts := [], laidByText := true, laidKinds := [.data, .data, .data, .data, .pinned, .data, .pinned, .pinned, .pinned, .pinned, .pinned, .sentinel, .sentinel], laidTests := true, laidLooks := .later }
def TotalGroupsUptoCardSaid : Prop := Claim7.holds Tryz.pinned (.plain (OpenSpec.upto totalGroupsSpec)) totalGroupsUptoCard

/-- THE SECOND FORM's CARD OF 'liquidchecklaw50.TotalOrder'. -/
def totalOrderUptoCard : Claim7 := { stood := { row := totalOrderUptoRow, standIns := [], harness := (true, "d4338fdbcc6555569c8dcf049e2323abdb5bffc61593af1f8b8274242fa9767c"), looks := true }, kinds := [], alts := [], laidByText := true, laidKinds := [.data, .data, .data, .data, .pinned, .data, .pinned, .pinned, .pinned, .pinned, .pinned, .sentinel, .sentinel], laidTests := true, laidLooks := .later }
def TotalOrderUptoCardSaid : Prop := Claim7.holds Tryz.pinned (.plain (OpenSpec.upto totalOrderSpec)) totalOrderUptoCard
end Rows
end Go.Proofs.YtkmoeaplhnabcaaGreatDoor
