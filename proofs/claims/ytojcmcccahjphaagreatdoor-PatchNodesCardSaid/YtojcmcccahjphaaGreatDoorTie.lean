/-
  DERIVED. GIVEN WITH THE SEED: THE PROGRAM's TIES (one call each: nine closed facts by the kernel) AND EACH ROW's TIE, after the 31st guide's Derived/Test/Toyas{Tie, Card}.lean. No idea stands in it: it is a product of the set-up. Laid BY PROGRAM, IN A SANDBOX (cutbox-door.mjs). By AI agents, Wed Nov 11 2026. No macro, syntax, notation, axiom, sorry.
-/
import Derived.Test.YtojcmcccahjphaaGreatDoorRows
import Derived.LaidByTextLater
import Derived.SevenTiedAt
import Derived.LaidSub
import Derived.LaidOnce
namespace Go.Proofs.YtojcmcccahjphaaGreatDoor
open Go
set_option maxRecDepth 100000
theorem seatTie1 : Tryz.prog.laidByTextLater [("splicery/hash.constants", Rows.laid_splicery_hash_constants), ("splicery/patch.contents", Rows.laid_splicery_patch_contents), ("splicery/patch.shapes", Rows.laid_splicery_patch_shapes)] [.data, .data, .data] true :=
  Program.laidByTextLater_by_one 51 8 113 (by kernel_rfl) (by kernel_rfl) (by kernel_rfl) (by kernel_rfl) (by kernel_rfl) (by kernel_rfl) (fun _ _ => by kernel_rfl)
theorem noOwnUnsafe : Tryz.pinned.checked.prog.headLifts.contains "ownunsafe" = false := by kernel_rfl
theorem tie : Tryz.prog.laidByTextLater [("splicery/hash.constants", Rows.laid_splicery_hash_constants), ("splicery/patch.contents", Rows.laid_splicery_patch_contents), ("splicery/patch.shapes", Rows.laid_splicery_patch_shapes)] [.data, .data, .data] true :=
  Program.laidByTextLater.sub seatTie1 ["splicery/hash.constants", "splicery/patch.contents", "splicery/patch.shapes"] (by kernel_rfl) (by kernel_rfl)
theorem patchNodes_row_tie : Rows.patchNodesRow.laidByTextAt .later Tryz.pinned [.data, .data, .data] true :=
  OpenClaim.laidByTextAt_later rfl rfl tie noOwnUnsafe
theorem patchNodesUpto_row_tie : Rows.patchNodesUptoRow.laidByTextAt .later Tryz.pinned [.data, .data, .data] true :=
  OpenClaim.laidByTextAt_later rfl rfl tie noOwnUnsafe
end Go.Proofs.YtojcmcccahjphaaGreatDoor
