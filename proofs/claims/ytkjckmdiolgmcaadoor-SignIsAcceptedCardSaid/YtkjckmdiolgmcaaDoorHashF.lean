/- The walks of the reference's Short and Of. No condition. -/
import Derived.Test.YtkjckmdiolgmcaaDoorHashE
set_option linter.unusedSimpArgs false
set_option linter.unusedVariables false
namespace Go.Proofs.YtkjckmdiolgmcaaDoor
open Go.RowKit
theorem KTab.below {w w' : World} (h : KTab w) (hb : Below w.heap.size w w') : KTab w' := Tab.below h hb (Tab.lt h)
theorem KTab.drew {w : World} (h : KTab w) : KTab w.drew := h
theorem KTab.alloc {w : World} (h : KTab w) (o : Obj) : KTab (w.alloc o) := Tab.alloc h o
theorem info_16u8 : (Tryd.prog.info? 23).map (·.size) = some 16 := by kernel_rfl
theorem u8s_all (l : List Int) : (u8s l).toArray.all (·.oneCell') = true := Array.all_eq_true'.2 (fun v hv => u8s_one l v (by simpa using hv))
theorem zero16_len : (u8s (List.replicate 16 0)).toArray.size = 16 := rfl
theorem zero16_run (W : World) : (zeroValue 23).run Tryd.prog W = .ok (.agg (u8s (List.replicate 16 0)).toArray) W := by kernel_rfl
theorem build16_run (W : World) : (Instr.build 23 #[]).run Tryd.prog W = .ok (.agg (u8s (List.replicate 16 0)).toArray) W := by kernel_rfl
/-- The first 16 of l laid over zeros, one by one. -/
def upTo (l : List Int) (t : Nat) : List Int := l.take t ++ List.replicate (16 - t) 0
theorem upTo_set (l : List Int) (t : Nat) (h : t < 16) (hl : 16 ≤ l.length) : (u8s (upTo l t)).set t (.int .u8 (l.getD t 0)) = u8s (upTo l (t + 1)) := by
  have hx : l[t]? = some (l.getD t 0) := by simp [List.getD_eq_getElem?_getD, List.getElem?_eq_getElem (show t < l.length by omega)]
  have h16 : 16 - t = 16 - (t + 1) + 1 := by omega
  unfold upTo u8s
  rw [List.take_add_one, hx, h16, List.replicate_succ, ← List.map_set, List.set_append_right _ _ (by simp; omega)]
  simp [Nat.min_eq_left (show t ≤ l.length by omega)]
end Go.Proofs.YtkjckmdiolgmcaaDoor
