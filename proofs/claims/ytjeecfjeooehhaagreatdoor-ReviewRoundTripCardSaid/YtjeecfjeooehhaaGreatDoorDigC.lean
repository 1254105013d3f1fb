/- The walks of the reference's GetDigests and SameDigests. No condition beyond a bound on the length. -/
import Derived.Test.YtjeecfjeooehhaaGreatDoorDigB
import Derived.Test.YtjeecfjeooehhaaGreatDoorEqA
import Derived.Deep.RegionHeld3
set_option linter.unusedSimpArgs false
set_option linter.unusedVariables false
namespace Go.Proofs.YtjeecfjeooehhaaGreatDoor
open Go.RowKit
def updD (l : List Int) (t : Nat) : List Int := l.take t ++ List.replicate (16 - t) 0
theorem updD_set (l : List Int) (t : Nat) (h : t < 16) (hl : l.length = 16) : (u8s (updD l t)).set t (.int .u8 (l.getD t 0)) = u8s (updD l (t + 1)) := by
  unfold updD u8s
  rw [List.map_append, List.set_append_right _ _ (by simp; omega)]
  rw [take_snoc' l t (by omega), List.map_append, List.map_append, List.append_assoc]
  congr 1
  have e : 16 - t = (16 - (t + 1)) + 1 := by omega
  rw [e, List.replicate_succ, List.map_cons]
  simp [Nat.min_eq_left (show t ≤ l.length by omega)]
theorem updD_len (l : List Int) (t : Nat) (h : t ≤ 16) (hl : l.length = 16) : (updD l t).length = 16 := by unfold updD; simp; omega
theorem updD_full (l : List Int) (hl : l.length = 16) : updD l 16 = l := by unfold updD; rw [List.take_of_length_le (by omega)]; simp
theorem grown_setj (w : World) (g j : Nat) (u : Value) : w.grownBy (w.setCell ⟨g, j, none⟩ u) (some g) :=
  ⟨rfl, rfl, rfl, by simp [World.setCell], fun k _ hk => Below.heap_setCell _ _ _ _ (fun h => hk (by rw [h]))⟩
end Go.Proofs.YtjeecfjeooehhaaGreatDoor
