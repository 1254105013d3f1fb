/- The reference's Digits: the same list. Conditions: a digest of 16 bytes. -/
import Derived.Test.YtjeecfjeooehhaaGreatDoorM25
import Derived.Test.YtjeecfjeooehhaaGreatDoorM22
import Derived.Test.YtjeecfjeooehhaaGreatDoorM3
set_option linter.unusedSimpArgs false
set_option linter.unusedVariables false
set_option maxHeartbeats 16000000
set_option maxRecDepth 100000
namespace Go.Proofs.YtjeecfjeooehhaaGreatDoor
open Go.RowKit
open Lib (hid)
section
end
end Go.Proofs.YtjeecfjeooehhaaGreatDoor