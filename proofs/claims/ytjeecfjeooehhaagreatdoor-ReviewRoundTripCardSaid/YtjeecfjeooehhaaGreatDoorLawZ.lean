/- What the laws of this seat share. No condition. -/
import Derived.Test.YtjeecfjeooehhaaGreatDoorLaw
import Derived.Test.YtjeecfjeooehhaaGreatDoorCards
import Derived.Test.YtjeecfjeooehhaaGreatDoorTie
import Derived.Deep.DeepHandedRow
set_option linter.unusedSimpArgs false
set_option linter.unusedVariables false
namespace Go.Proofs.YtjeecfjeooehhaaGreatDoor
open Go.RowKit Go.WideShapes Go.ChangeShapes
theorem cellsint : Tryz.prog.cellsOf 3 = 1 := by kernel_rfl
theorem wf_i64' {x : Int} (h : (Lit.int .i64 x).wf = true) : -9223372036854775808 ≤ x ∧ x ≤ 9223372036854775807 := by
  simp [Lit.wf, IntKind.min, IntKind.max, IntKind.bits, IntKind.signed] at h
  omega
theorem own : ownKnob Tryz.prog.godebug = none := by kernel_rfl
theorem laidOut : laidOutB Tryz.prog = true := by kernel_rfl
theorem byt_wf {l : List Int} (h : ∀ x ∈ l, (Lit.int .u8 x).wf = true) : Byt l := fun x hx => by
  have := h x hx
  simp [Lit.wf, IntKind.min, IntKind.max, IntKind.bits, IntKind.signed] at this
  omega
theorem cellsu8 : Tryz.prog.cellsOf 5 = 1 := by kernel_rfl
end Go.Proofs.YtjeecfjeooehhaaGreatDoor
