/- The walks of the reference's Input, Short, Of. No condition. -/
import Derived.Test.YtkjckmdiolgmcaaDoorGB
import Derived.Test.YtkjckmdiolgmcaaDoorSmallA
set_option linter.unusedSimpArgs false
set_option linter.unusedVariables false
namespace Go.Proofs.YtkjckmdiolgmcaaDoor
open Go.RowKit
/-- The encodings of strings, one behind the other. -/
def encs : List ByteArray → List Int
  | [] => []
  | s :: r => encB s ++ encs r
theorem encs_append (a b : List ByteArray) : encs (a ++ b) = encs a ++ encs b := by
  induction a with
  | nil => rfl
  | cons s r ih => simp [encs, ih]
theorem encs_take (l : List ByteArray) (t : Nat) (h : t < l.length) : encs (l.take (t + 1)) = encs (l.take t) ++ encB (l.getD t ByteArray.empty) := by
  have : l[t]? = some (l.getD t ByteArray.empty) := by simp [List.getD_eq_getElem?_getD, List.getElem?_eq_getElem h]
  rw [List.take_add_one, this, encs_append]
  simp [encs]
theorem encs_take_le (l : List ByteArray) (t : Nat) : (encs (l.take t)).length ≤ (encs l).length := by
  conv => rhs; rw [← List.take_append_drop t l, encs_append, List.length_append]
  omega
theorem encs_few (l : List ByteArray) (h : ∀ s ∈ l, s.size ≤ 400) : (encs l).length ≤ 409 * l.length := by
  induction l with
  | nil => simp [encs]
  | cons s r ih =>
    have h1 := h s (List.mem_cons_self ..)
    have h2 := ih fun x hx => h x (List.mem_cons_of_mem _ hx)
    have h3 := blen_le (mag s.size) (mag_lt8 s.size (by omega) (by omega))
    simp only [encs, List.length_append, encB_length, List.length_cons]
    omega
theorem encs_byt (l : List ByteArray) (h : (encs l).length ≤ 1000000000000) : Byt (encs l) := by
  induction l with
  | nil => exact Byt.nil
  | cons s r ih =>
    have h3 := encB_length s
    simp only [encs, List.length_append] at h ⊢
    exact (encB_byt s (by omega)).app (ih (by omega))
/-- What Of hashes. -/
def inputB (tag : Int) (l : List ByteArray) : List Int := tag % 256 :: encs l
theorem inputB_byt (tag : Int) (l : List ByteArray) (h : (encs l).length ≤ 1000000000000) : Byt (inputB tag l) := by
  intro x hx
  rcases List.mem_cons.1 hx with rfl | hx
  · omega
  · exact encs_byt l h x hx
end Go.Proofs.YtkjckmdiolgmcaaDoor
