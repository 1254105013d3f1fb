/- The reference's Sign. Conditions: a seed of 32 bytes, a height up to 6, an index in range, a message of at most 1000000 bytes; the table of constants is laid. -/
import Derived.Test.YtjeecfjeooehhaaGreatDoorM27
import Derived.Test.YtjeecfjeooehhaaGreatDoorM26
import Derived.Test.YtjeecfjeooehhaaGreatDoorM28
set_option linter.unusedSimpArgs false
set_option linter.unusedVariables false
set_option maxHeartbeats 16000000
set_option maxRecDepth 100000
namespace Go.Proofs.YtjeecfjeooehhaaGreatDoor
open Go.RowKit
open Lib (hid)
section
attribute [local go_sem ↓] wp_at_zero wp_at_succ
def DigC (W:World)(g:Nat)(D:List Int):Prop:=∀t,t<68→W.cell? ⟨g,t,none⟩=some (.int .i64 (dgN D t:Int))
end
end Go.Proofs.YtjeecfjeooehhaaGreatDoor