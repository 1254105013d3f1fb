/-
  DERIVED. GIVEN WITH THE SEED: THE PROGRAM's TIES (one call each: nine closed facts by the kernel) AND EACH ROW's TIE, after the 31st guide's Derived/Test/Toyas{Tie, Card}.lean. No idea stands in it: it is a product of the set-up. Laid BY PROGRAM, IN A SANDBOX (cutbox-door.mjs). By AI agents, Wed Nov 11 2026. No macro, syntax, notation, axiom, sorry.
-/
import Derived.Test.YtjeecfjeooehhaaGreatDoorRows
import Derived.LaidByTextLater
import Derived.SevenTiedAt
import Derived.LaidSub
import Derived.LaidOnce
namespace Go.Proofs.YtjeecfjeooehhaaGreatDoor
open Go
set_option maxRecDepth 100000
theorem seatTie1 : Tryz.prog.laidByTextLater [("splicery/patch.contents", Rows.laid_splicery_patch_contents), ("splicery/patch.shapes", Rows.laid_splicery_patch_shapes)] [.data, .data] true :=
  Program.laidByTextLater_by_one 56 8 113 (by kernel_rfl) (by kernel_rfl) (by kernel_rfl) (by kernel_rfl) (by kernel_rfl) (by kernel_rfl) (fun _ _ => by kernel_rfl)
theorem seatTie2 : Tryz.prog.laidByTextLater [("splicery/spliceryref02.constants", Rows.laid_splicery_spliceryref02_constants), ("splicery/hash.constants", Rows.laid_splicery_hash_constants)] [.data, .data] true :=
  Program.laidByTextLater_by_one 56 8 113 (by kernel_rfl) (by kernel_rfl) (by kernel_rfl) (by kernel_rfl) (by kernel_rfl) (by kernel_rfl) (fun _ _ => by kernel_rfl)
theorem seatTie3 : Tryz.prog.laidByTextLater [("splicery/spliceryref02.constants", Rows.laid_splicery_spliceryref02_constants), ("splicery/hash.constants", Rows.laid_splicery_hash_constants), ("splicery/patch.contents", Rows.laid_splicery_patch_contents), ("splicery/patch.shapes", Rows.laid_splicery_patch_shapes)] [.data, .data, .data, .data] true :=
  Program.laidByTextLater_by_one 56 8 113 (by kernel_rfl) (by kernel_rfl) (by kernel_rfl) (by kernel_rfl) (by kernel_rfl) (by kernel_rfl) (fun _ _ => by kernel_rfl)
theorem noOwnUnsafe : Tryz.pinned.checked.prog.headLifts.contains "ownunsafe" = false := by kernel_rfl
theorem tie : Tryz.prog.laidByTextLater [("splicery/patch.contents", Rows.laid_splicery_patch_contents), ("splicery/patch.shapes", Rows.laid_splicery_patch_shapes)] [.data, .data] true :=
  Program.laidByTextLater.sub seatTie1 ["splicery/patch.contents", "splicery/patch.shapes"] (by kernel_rfl) (by kernel_rfl)
theorem reviewRoundTrip_row_tie : Rows.reviewRoundTripRow.laidByTextAt .later Tryz.pinned [.data, .data] true :=
  OpenClaim.laidByTextAt_later rfl rfl tie noOwnUnsafe
theorem tie2 : Tryz.prog.laidByTextLater [("splicery/spliceryref02.constants", Rows.laid_splicery_spliceryref02_constants), ("splicery/hash.constants", Rows.laid_splicery_hash_constants)] [.data, .data] true :=
  Program.laidByTextLater.sub seatTie2 ["splicery/spliceryref02.constants", "splicery/hash.constants"] (by kernel_rfl) (by kernel_rfl)
theorem reviewSigns_row_tie : Rows.reviewSignsRow.laidByTextAt .later Tryz.pinned [.data, .data] true :=
  OpenClaim.laidByTextAt_later rfl rfl tie2 noOwnUnsafe
theorem tie3 : Tryz.prog.laidByTextLater [("splicery/spliceryref02.constants", Rows.laid_splicery_spliceryref02_constants), ("splicery/hash.constants", Rows.laid_splicery_hash_constants), ("splicery/patch.contents", Rows.laid_splicery_patch_contents), ("splicery/patch.shapes", Rows.laid_splicery_patch_shapes)] [.data, .data, .data, .data] true :=
  Program.laidByTextLater.sub seatTie3 ["splicery/spliceryref02.constants", "splicery/hash.constants", "splicery/patch.contents", "splicery/patch.shapes"] (by kernel_rfl) (by kernel_rfl)
theorem reviewSealed_row_tie : Rows.reviewSealedRow.laidByTextAt .later Tryz.pinned [.data, .data, .data, .data] true :=
  OpenClaim.laidByTextAt_later rfl rfl tie3 noOwnUnsafe
theorem reviewRoundTripUpto_row_tie : Rows.reviewRoundTripUptoRow.laidByTextAt .later Tryz.pinned [.data, .data] true :=
  OpenClaim.laidByTextAt_later rfl rfl tie noOwnUnsafe
theorem reviewSignsUpto_row_tie : Rows.reviewSignsUptoRow.laidByTextAt .later Tryz.pinned [.data, .data] true :=
  OpenClaim.laidByTextAt_later rfl rfl tie2 noOwnUnsafe
theorem reviewSealedUpto_row_tie : Rows.reviewSealedUptoRow.laidByTextAt .later Tryz.pinned [.data, .data, .data, .data] true :=
  OpenClaim.laidByTextAt_later rfl rfl tie3 noOwnUnsafe
end Go.Proofs.YtjeecfjeooehhaaGreatDoor
