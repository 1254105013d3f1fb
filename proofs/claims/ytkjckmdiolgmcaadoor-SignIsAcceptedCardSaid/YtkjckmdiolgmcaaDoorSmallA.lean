/- The walks of the reference's Bytes32 and Text, of Few and Joined. No condition. -/
import Derived.Test.YtkjckmdiolgmcaaDoorRefB
set_option linter.unusedSimpArgs false
set_option linter.unusedVariables false
namespace Go.Proofs.YtkjckmdiolgmcaaDoor
open Go.RowKit
theorem take_u8s (l : List Int) (t : Nat) (h : t < l.length) : u8s (l.take t) ++ [.int .u8 (l.getD t 0)] = u8s (l.take (t + 1)) := by
  have : l[t]? = some (l.getD t 0) := by simp [List.getD_eq_getElem?_getD, List.getElem?_eq_getElem h]
  rw [List.take_add_one, this]
  simp only [u8s, List.map_append, Option.toList_some, List.map_cons, List.map_nil]
def strs (l : List ByteArray) : List Value := l.map Value.string
theorem strs_get (l : List ByteArray) (j : Nat) (h : j < l.length) : (strs l)[j]? = some (.string (l.getD j ByteArray.empty)) := by
  simp [strs, List.getElem?_map, List.getD_eq_getElem?_getD, List.getElem?_eq_getElem h]
/-- At most 12 strings of at most 400 bytes. -/
def fewB (l : List ByteArray) : Bool := decide (l.length ≤ 12) && l.all fun s => decide (s.size ≤ 400)
theorem fewB_iff (l : List ByteArray) : fewB l = true ↔ l.length ≤ 12 ∧ ∀ s ∈ l, s.size ≤ 400 := by simp [fewB]
/-- Strings one behind the other. -/
def catS : List ByteArray → List Int
  | [] => []
  | s :: r => bys s ++ catS r
theorem catS_append (a b : List ByteArray) : catS (a ++ b) = catS a ++ catS b := by
  induction a with
  | nil => rfl
  | cons s r ih => simp [catS, ih]
theorem catS_take (l : List ByteArray) (t : Nat) (h : t < l.length) : catS (l.take (t + 1)) = catS (l.take t) ++ bys (l.getD t ByteArray.empty) := by
  have : l[t]? = some (l.getD t ByteArray.empty) := by simp [List.getD_eq_getElem?_getD, List.getElem?_eq_getElem h]
  rw [List.take_add_one, this, catS_append]
  simp [catS]
theorem catS_take_le (l : List ByteArray) (t : Nat) : (catS (l.take t)).length ≤ (catS l).length := by
  conv => rhs; rw [← List.take_append_drop t l, catS_append, List.length_append]
  omega
theorem catS_byt (l : List ByteArray) : Byt (catS l) := by
  induction l with
  | nil => exact Byt.nil
  | cons s r ih => exact (bys_byt s).app ih
end Go.Proofs.YtkjckmdiolgmcaaDoor
