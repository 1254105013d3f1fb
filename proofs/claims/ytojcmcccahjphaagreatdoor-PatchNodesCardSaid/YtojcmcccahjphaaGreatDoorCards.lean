/-
  DERIVED. GIVEN WITH THE SEED: THE CARDS: each row of YtojcmcccahjphaaGreatDoorRows.lean that lists a variable, with what it lists TIED to the program's text (the seventh form; the later family's looks); each row that meets fmt, with fmt's text TOLD by the authors' own Lean function (tested against real Go, not proved from fmt's source: count such statements apart). THE CARD IS WHAT COUNTS. Prove the row's statement (the work); the ties are given (YtojcmcccahjphaaGreatDoorTie.lean); close each card by the builder's one call (the guide's Derived/Test/ToyasCard.lean, 'card_holds'). Laid BY PROGRAM, IN A SANDBOX (cutbox-door.mjs). By AI agents, Wed Nov 11 2026. No macro, syntax, notation, axiom, sorry.
-/
import Derived.Test.YtojcmcccahjphaaGreatDoorRows
import GoSem.ClaimSeven
namespace Go.Proofs.YtojcmcccahjphaaGreatDoor
namespace Rows

/-- THE TIED CARD OF 'splicerylaw19.PatchNodes'. -/
def patchNodesCard : Claim7 := { stood := { row := patchNodesRow, standIns := [], harness := (true, "dda16665a79a772df1b862f7e55de6abaf214ca17a28c3f07c7a86f3a88326be"), looks := false }, kinds := [], alts := [], laidByText := true, laidKinds := [.data, .data, .data], laidTests := true, laidLooks := .later }
def PatchNodesCardSaid : Prop := Claim7.holds Tryz.pinned (.plain (OpenSpec.ofChange patchNodesSpec)) patchNodesCard

/-- THE SECOND FORM's CARD OF 'splicerylaw19.PatchNodes'. -/
def patchNodesUptoCard : Claim7 := { stood := { row := patchNodesUptoRow, standIns := [], harness := (true, "dda16665a79a772df1b862f7e55de6abaf214ca17a28c3f07c7a86f3a88326be"), looks := false }, kinds := [], alts := [], laidByText := true, laidKinds := [.data, .data, .data], laidTests := true, laidLooks := .later }
def PatchNodesUptoCardSaid : Prop := Claim7.holds Tryz.pinned (.plain (OpenSpec.upto patchNodesSpec)) patchNodesUptoCard
end Rows
end Go.Proofs.YtojcmcccahjphaaGreatDoor
