/-
  DERIVED. GIVEN WITH THE SEED: THE CARDS: each row of YtkjckmdiolgmcaaDoorRows.lean that lists a variable, with what it lists TIED to the program's text (the seventh form; the later family's looks); each row that meets fmt, with fmt's text TOLD by the authors' own Lean function (tested against real Go, not proved from fmt's source: count such statements apart). THE CARD IS WHAT COUNTS. Prove the row's statement (the work); the ties are given (YtkjckmdiolgmcaaDoorTie.lean); close each card by the builder's one call (the guide's Derived/Test/ToyasCard.lean, 'card_holds'). Laid BY PROGRAM, IN A SANDBOX (cutbox-door.mjs). By AI agents, Wed Nov 11 2026. No macro, syntax, notation, axiom, sorry.
-/
import Derived.Test.YtkjckmdiolgmcaaDoorRows
import GoSem.ClaimSeven
namespace Go.Proofs.YtkjckmdiolgmcaaDoor
namespace Rows

/-- THE TIED CARD OF 'splicerylaw03.SignDigitsMatchSpec'. -/
def signDigitsMatchSpecCard : Claim7 := { stood := { row := signDigitsMatchSpecRow, standIns := [], harness := (true, "d1eae4a12ad9ee44a19104ad95a02bbe27162312a1553bcc4e598ed42c8a161e"), looks := false }, kinds := [], alts := [], laidByText := true, laidKinds := [.data], laidTests := true, laidLooks := .later }
def SignDigitsMatchSpecCardSaid : Prop := Claim7.holds Tryd.pinned (.plain (OpenSpec.ofChange signDigitsMatchSpecSpec)) signDigitsMatchSpecCard

/-- THE TIED CARD OF 'splicerylaw03.SignIsAccepted'. -/
def signIsAcceptedCard : Claim7 := { stood := { row := signIsAcceptedRow, standIns := [], harness := (true, "d1eae4a12ad9ee44a19104ad95a02bbe27162312a1553bcc4e598ed42c8a161e"), looks := false }, kinds := [], alts := [], laidByText := true, laidKinds := [.data], laidTests := true, laidLooks := .later }
def SignIsAcceptedCardSaid : Prop := Claim7.holds Tryd.pinned (.plain (OpenSpec.ofChange signIsAcceptedSpec)) signIsAcceptedCard

/-- THE TIED CARD OF 'splicerylaw03.SignDigitsCross'. -/
def signDigitsCrossCard : Claim7 := { stood := { row := signDigitsCrossRow, standIns := [], harness := (true, "d1eae4a12ad9ee44a19104ad95a02bbe27162312a1553bcc4e598ed42c8a161e"), looks := false }, kinds := [], alts := [], laidByText := true, laidKinds := [.data], laidTests := true, laidLooks := .later }
def SignDigitsCrossCardSaid : Prop := Claim7.holds Tryd.pinned (.plain (OpenSpec.ofChange signDigitsCrossSpec)) signDigitsCrossCard

/-- THE SECOND FORM's CARD OF 'splicerylaw03.SignDigitsMatchSpec'. -/
def signDigitsMatchSpecUptoCard : Claim7 := { stood := { row := signDigitsMatchSpecUptoRow, standIns := [], harness := (true, "d1eae4a12ad9ee44a19104ad95a02bbe27162312a1553bcc4e598ed42c8a161e"), looks := false }, kinds := [], alts := [], laidByText := true, laidKinds := [.data], laidTests := true, laidLooks := .later }
def SignDigitsMatchSpecUptoCardSaid : Prop := Claim7.holds Tryd.pinned (.plain (OpenSpec.upto signDigitsMatchSpecSpec)) signDigitsMatchSpecUptoCard

/-- THE SECOND FORM's CARD OF 'splicerylaw03.SignIsAccepted'. -/
def signIsAcceptedUptoCard : Claim7 := { stood := { row := signIsAcceptedUptoRow, standIns := [], harness := (true, "d1eae4a12ad9ee44a19104ad95a02bbe27162312a1553bcc4e598ed42c8a161e"), looks := false }, kinds := [], alts := [], laidByText := true, laidKinds := [.data], laidTests := true, laidLooks := .later }
def SignIsAcceptedUptoCardSaid : Prop := Claim7.holds Tryd.pinned (.plain (OpenSpec.upto signIsAcceptedSpec)) signIsAcceptedUptoCard

/-- THE SECOND FORM's CARD OF 'splicerylaw03.SignDigitsCross'. -/
def signDigitsCrossUptoCard : Claim7 := { stood := { row := signDigitsCrossUptoRow, standIns := [], harness := (true, "d1eae4a12ad9ee44a19104ad95a02bbe27162312a1553bcc4e598ed42c8a161e"), looks := false }, kinds := [], alts := [], laidByText := true, laidKinds := [.data], laidTests := true, laidLooks := .later }
def SignDigitsCrossUptoCardSaid : Prop := Claim7.holds Tryd.pinned (.plain (OpenSpec.upto signDigitsCrossSpec)) signDigitsCrossUptoCard
end Rows
end Go.Proofs.YtkjckmdiolgmcaaDoor
