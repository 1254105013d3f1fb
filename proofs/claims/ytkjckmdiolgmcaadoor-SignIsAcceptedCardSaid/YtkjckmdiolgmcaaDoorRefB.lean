/- The walk of the reference's Sum: it hands back SHA-256. No condition. -/
import Derived.Test.YtkjckmdiolgmcaaDoorRefA
set_option linter.unusedSimpArgs false
set_option linter.unusedVariables false
namespace Go.Proofs.YtkjckmdiolgmcaaDoor
open Go.RowKit
theorem not_eq (e : Int) : bits .xor .u32 e 4294967295 = not32 e := by
  show IntKind.u32.wrap ((BitVec.ofInt 32 e ^^^ BitVec.ofInt 32 4294967295).toNat : Int) = IntKind.u32.wrap ((BitVec.ofInt 32 IntKind.u32.max ^^^ BitVec.ofInt 32 e).toNat : Int)
  rw [BitVec.xor_comm]
  rfl
theorem pad_mult (n : Nat) : (n + (padOf n).length) % 64 = 0 := by
  simp [padOf, be64]; omega
theorem pad_pos (n : Nat) : 0 < n + (padOf n).length := by simp [padOf]; omega
theorem cell_set_far {w : World} {p q : Addr} (u : Value) (h : q.block ≠ p.block) : (w.setCell p u).cell? q = w.cell? q :=
  World.cell?_of_block (heap_setCell_other w p q.block u h)
end Go.Proofs.YtkjckmdiolgmcaaDoor
