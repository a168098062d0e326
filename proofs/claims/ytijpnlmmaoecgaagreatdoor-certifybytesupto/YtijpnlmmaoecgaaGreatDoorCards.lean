/-
  DERIVED. GIVEN WITH THE SEED: THE CARDS: each row of YtijpnlmmaoecgaaGreatDoorRows.lean that lists a variable, with what it lists TIED to the program's text (the seventh form; the later family's looks); each row that meets fmt, with fmt's text TOLD by the authors' own Lean function (tested against real Go, not proved from fmt's source: count such statements apart). THE CARD IS WHAT COUNTS. Prove the row's statement (the work); the ties are given (YtijpnlmmaoecgaaGreatDoorTie.lean); close each card by the builder's one call (the guide's Derived/Test/ToyasCard.lean, 'card_holds'). Laid BY PROGRAM, IN A SANDBOX (cutbox-door.mjs). By AI agents, Wed Nov 11 2026. No macro, syntax, notation, axiom, sorry.
-/
import Derived.Test.YtijpnlmmaoecgaaGreatDoorRows
import GoSem.ClaimSeven
namespace Go.Proofs.YtijpnlmmaoecgaaGreatDoor
namespace Rows

/-- THE TIED CARD OF 'liquidchecklaw55.CertifyDecodes'. -/
def certifyDecodesCard : Claim7 := { stood := { row := certifyDecodesRow, standIns := [], harness := (true, "77d2c37746ca4c556601784abe9c39892f8c8e4db3b075e5cc1d0a0ac4290da1"), looks := true }, kinds := [], alts := [], laidByText := true, laidKinds := [.data, .data, .data, .data, .pinned, .data, .pinned, .pinned, .pinned, .pinned, .pinned, .sentinel, .sentinel], laidTests := true, laidLooks := .later }
def CertifyDecodesCardSaid : Prop := Claim7.holds Tryz.pinned (.plain (OpenSpec.ofChange certifyDecodesSpec)) certifyDecodesCard

/-- THE TIED CARD OF 'liquidchecklaw55.CertifyRoundTrip'. -/
def certifyRoundTripCard : Claim7 := { stood := { row := certifyRoundTripRow, standIns := [], harness := (true, "77d2c37746ca4c556601784abe9c39892f8c8e4db3b075e5cc1d0a0ac4290da1"), looks := true }, kinds := [], alts := [], laidByText := true, laidKinds := [.data, .data, .data, .data, .pinned, .data, .pinned, .pinned, .pinned, .pinned, .pinned, .sentinel, .sentinel], laidTests := true, laidLooks := .later }
def CertifyRoundTripCardSaid : Prop := Claim7.holds Tryz.pinned (.plain (OpenSpec.ofChange certifyRoundTripSpec)) certifyRoundTripCard

/-- THE TIED CARD OF 'liquidchecklaw55.CertifyDamage'. -/
def certifyDamageCard : Claim7 := { stood := { row := certifyDamageRow, standIns := [], harness := (true, "77d2c37746ca4c556601784abe9c39892f8c8e4db3b075e5cc1d0a0ac4290da1"), looks := true }, kinds := [], alts := [], laidByText := true, laidKinds := [.data, .data, .data, .data, .pinned, .data, .pinned, .pinned, .pinned, .pinned, .pinned, .sentinel, .sentinel], laidTests := true, laidLooks := .later }
def CertifyDamageCardSaid : Prop := Claim7.holds Tryz.pinned (.plain (OpenSpec.ofChange certifyDamageSpec)) certifyDamageCard

/-- THE TIED CARD OF 'liquidchecklaw55.CertifyBytes'. -/
def certifyBytesCard : Claim7 := { stood := { row := certifyBytesRow, standIns := [], harness := (true, "77d2c37746ca4c556601784abe9c39892f8c8e4db3b075e5cc1d0a0ac4290da1"), looks := true }, kinds := [], alts := [], laidByText := true, laidKinds := [.data, .data, .data, .data, .pinned, .data, .pinned, .pinned, .pinned, .pinned, .pinned, .sentinel, .sentinel], laidTests := true, laidLooks := .later }
def CertifyBytesCardSaid : Prop := Claim7.holds Tryz.pinned (.plain (OpenSpec.ofChange certifyBytesSpec)) certifyBytesCard

/-- THE SECOND FORM's CARD OF 'liquidchecklaw55.CertifyDecodes'. -/
def certifyDecodesUptoCard : Claim7 := { stood := { row := certifyDecodesUptoRow, standIns := [], harness := (true, "77d2c37746ca4c556601784abe9c39892f8c8e4db3b075e5cc1d0a0ac4290da1"), looks := true }, kinds := [], alts := [], laidByText := true, laidKinds := [.data, .data, .data, .data, .pinned, .data, .pinned, .pinned, .pinned, .pinned, .pinned, .sentinel, .sentinel], laidTests := true, laidLooks := .later }
def CertifyDecodesUptoCardSaid : Prop := Claim7.holds Tryz.pinned (.plain (OpenSpec.upto certifyDecodesSpec)) certifyDecodesUptoCard

/-- THE SECOND FORM's CARD OF 'liquidchecklaw55.CertifyRoundTrip'. -/
def certifyRoundTripUptoCard : Claim7 := { stood := { row := certifyRoundTripUptoRow, standIns := [], harness := (true, "77d2c37746ca4c556601784abe9c39892f8c8e4db3b075e5cc1d0a0ac4290da1"), looks := true }, kinds := [], alts := [], laidByText := true, laidKinds := [.data, .data, .data, .data, .pinned, .data, .pinned, .pinned, .pinned, .pinned, .pinned, .sentinel, .sentinel], laidTests := true, laidLooks := .later }
def CertifyRoundTripUptoCardSaid : Prop := Claim7.holds Tryz.pinned (.plain (OpenSpec.upto certifyRoundTripSpec)) certifyRoundTripUptoCard

/-- THE SECOND FORM's CARD OF 'liquidchecklaw55.CertifyDamage'. -/
def certifyDamageUptoCard : Claim7 := { stood := { row := certifyDamageUptoRow, standIns := [], harness := (true, "77d2c37746ca4c556601784abe9c39892f8c8e4db3b075e5cc1d0a0ac4290da1"), looks := true }, kinds := [], alts := [], laidByText := true, laidKinds := [.data, .data, .data, .data, .pinned, .data, .pinned, .pinned, .pinned, .pinned, .pinned, .sentinel, .sentinel], laidTests := true, laidLooks := .later }
def CertifyDamageUptoCardSaid : Prop := Claim7.holds Tryz.pinned (.plain (OpenSpec.upto certifyDamageSpec)) certifyDamageUptoCard

/-- THE SECOND FORM's CARD OF 'liquidchecklaw55.CertifyBytes'. -/
def certifyBytesUptoCard : Claim7 := { stood := { row := certifyBytesUptoRow, standIns := [], harness := (true, "77d2c37746ca4c556601784abe9c39892f8c8e4db3b075e5cc1d0a0ac4290da1"), looks := true }, kinds := [], alts := [], laidByText := true, laidKinds := [.data, .data, .data, .data, .pinned, .data, .pinned, .pinned, .pinned, .pinned, .pinned, .sentinel, .sentinel], laidTests := true, laidLooks := .later }
def CertifyBytesUptoCardSaid : Prop := Claim7.holds Tryz.pinned (.plain (OpenSpec.upto certifyBytesSpec)) certifyBytesUptoCard
end Rows
end Go.Proofs.YtijpnlmmaoecgaaGreatDoor
