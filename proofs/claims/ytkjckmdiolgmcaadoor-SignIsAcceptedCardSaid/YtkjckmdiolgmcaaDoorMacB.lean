/- The walks of the reference's padKey and Mac. No condition. -/
import Derived.Test.YtkjckmdiolgmcaaDoorMacA
set_option linter.unusedSimpArgs false
set_option linter.unusedVariables false
namespace Go.Proofs.YtkjckmdiolgmcaaDoor
open Go.RowKit
/-- The key that is laid out. -/
def keyL (key : ByteArray) : List Int := if 64 < key.size then sha (bys key) else bys key
theorem keyL_byt (key : ByteArray) : Byt (keyL key) := by unfold keyL; split; exact sha_byt _; exact bys_byt _
theorem keyL_length (key : ByteArray) : (keyL key).length ≤ 64 := by
  unfold keyL; split
  · rw [sha_length]; omega
  · rw [bys_length]; omega
/-- The authentication code. -/
def macI (key text : ByteArray) : List Int := sha (padX (keyL key) 54 ++ bys text)
def macL (key text : ByteArray) : List Int := sha (padX (keyL key) 92 ++ macI key text)
end Go.Proofs.YtkjckmdiolgmcaaDoor
