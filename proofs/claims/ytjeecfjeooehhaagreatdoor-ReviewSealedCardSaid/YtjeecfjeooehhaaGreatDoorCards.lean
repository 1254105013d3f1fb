/-
  DERIVED. GIVEN WITH THE SEED: THE CARDS: each row of YtjeecfjeooehhaaGreatDoorRows.lean that lists a variable, with what it lists TIED to the program's text (the seventh form; the later family's looks); each row that meets fmt, with fmt's text TOLD by the authors' own Lean function (tested against real Go, not proved from fmt's source: count such statements apart). THE CARD IS WHAT COUNTS. Prove the row's statement (the work); the ties are given (YtjeecfjeooehhaaGreatDoorTie.lean); close each card by the builder's one call (the guide's Derived/Test/ToyasCard.lean, 'card_holds'). Laid BY PROGRAM, IN A SANDBOX (cutbox-door.mjs). By AI agents, Wed Nov 11 2026. No macro, syntax, notation, axiom, sorry.
-/
import Derived.Test.YtjeecfjeooehhaaGreatDoorRows
import GoSem.ClaimSeven
namespace Go.Proofs.YtjeecfjeooehhaaGreatDoor
namespace Rows

/-- THE TIED CARD OF 'splicerylaw37.ReviewRoundTrip'. -/
def reviewRoundTripCard : Claim7 := { stood := { row := reviewRoundTripRow, standIns := [], harness := (true, "dcda13db9cdca53c6001c2ea9c60aaeb6b6e31878c639f1fa0af28edc1e09e22"), looks := false }, kinds := [], alts := [], laidByText := true, laidKinds := [.data, .data], laidTests := true, laidLooks := .later }
def ReviewRoundTripCardSaid : Prop := Claim7.holds Tryz.pinned (.plain (OpenSpec.ofChange reviewRoundTripSpec)) reviewRoundTripCard

/-- THE TIED CARD OF 'splicerylaw37.ReviewSigns'. -/
def reviewSignsCard : Claim7 := { stood := { row := reviewSignsRow, standIns := [], harness := (true, "dcda13db9cdca53c6001c2ea9c60aaeb6b6e31878c639f1fa0af28edc1e09e22"), looks := false }, kinds := [], alts := [], laidByText := true, laidKinds := [.data, .data], laidTests := true, laidLooks := .later }
def ReviewSignsCardSaid : Prop := Claim7.holds Tryz.pinned (.plain (OpenSpec.ofChange reviewSignsSpec)) reviewSignsCard

/-- THE TIED CARD OF 'splicerylaw37.ReviewSealed'. -/
def reviewSealedCard : Claim7 := { stood := { row := reviewSealedRow, standIns := [], harness := (true, "dcda13db9cdca53c6001c2ea9c60aaeb6b6e31878c639f1fa0af28edc1e09e22"), looks := false }, kinds := [], alts := [], laidByText := true, laidKinds := [.data, .data, .data, .data], laidTests := true, laidLooks := .later }
def ReviewSealedCardSaid : Prop := Claim7.holds Tryz.pinned (.plain (OpenSpec.ofChange reviewSealedSpec)) reviewSealedCard

/-- THE SECOND FORM's CARD OF 'splicerylaw37.ReviewRoundTrip'. -/
def reviewRoundTripUptoCard : Claim7 := { stood := { row := reviewRoundTripUptoRow, standIns := [], harness := (true, "dcda13db9cdca53c6001c2ea9c60aaeb6b6e31878c639f1fa0af28edc1e09e22"), looks := false }, kinds := [], alts := [], laidByText := true, laidKinds := [.data, .data], laidTests := true, laidLooks := .later }
def ReviewRoundTripUptoCardSaid : Prop := Claim7.holds Tryz.pinned (.plain (OpenSpec.upto reviewRoundTripSpec)) reviewRoundTripUptoCard

/-- THE SECOND FORM's CARD OF 'splicerylaw37.ReviewSigns'. -/
def reviewSignsUptoCard : Claim7 := { stood := { row := reviewSignsUptoRow, standIns := [], harness := (true, "dcda13db9cdca53c6001c2ea9c60aaeb6b6e31878c639f1fa0af28edc1e09e22"), looks := false }, kinds := [], alts := [], laidByText := true, laidKinds := [.data, .data], laidTests := true, laidLooks := .later }
def ReviewSignsUptoCardSaid : Prop := Claim7.holds Tryz.pinned (.plain (OpenSpec.upto reviewSignsSpec)) reviewSignsUptoCard

/-- THE SECOND FORM's CARD OF 'splicerylaw37.ReviewSealed'. -/
def reviewSealedUptoCard : Claim7 := { stood := { row := reviewSealedUptoRow, standIns := [], harness := (true, "dcda13db9cdca53c6001c2ea9c60aaeb6b6e31878c639f1fa0af28edc1e09e22"), looks := false }, kinds := [], alts := [], laidByText := true, laidKinds := [.data, .data, .data, .data], laidTests := true, laidLooks := .later }
def ReviewSealedUptoCardSaid : Prop := Claim7.holds Tryz.pinned (.plain (OpenSpec.upto reviewSealedSpec)) reviewSealedUptoCard
end Rows
end Go.Proofs.YtjeecfjeooehhaaGreatDoor
