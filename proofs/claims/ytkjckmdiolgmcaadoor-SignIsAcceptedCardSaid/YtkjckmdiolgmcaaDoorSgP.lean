/- Plain law: chains go on from where they were left. No program. -/
import Derived.Test.YtkjckmdiolgmcaaDoorSgE
set_option linter.unusedSimpArgs false
set_option linter.unusedVariables false
namespace Go.Proofs.YtkjckmdiolgmcaaDoor
open Go.RowKit
theorem advD_comp (i c : Int) (f n : Nat) (v : List Int) : ∀ m, advD i c f (n + m) v = advD i c (f + n) m (advD i c f n v)
  | 0 => rfl
  | m + 1 => by
    show advD i c f ((n + m) + 1) v = _
    unfold advD
    rw [← advD_comp i c f n v m, Nat.add_assoc]
/-- A signature's chain, gone on to the top, is the public chain. -/
theorem end_top (seed : ByteArray) (k : Int) (X : List Int) (f : Nat → Nat) (c : Nat) (hf : f c ≤ 3) (h : valD X c = advD k (c : Int) 0 (f c) (startD seed k (c : Int))) : endD k X f c = topD seed k (c : Int) := by
  unfold endD topD
  rw [h]
  have e := advD_comp k (c : Int) 0 (f c) (startD seed k (c : Int)) (3 - f c)
  rw [show f c + (3 - f c) = 3 by omega, Nat.zero_add] at e
  exact e.symm
/-- Places of a signature that is written one digest after the other. -/
theorem valD_flat (val : Nat → List Int) (n c : Nat) (rest : List Int) (hv : ∀ j, j < n → Dig (val j)) (hc : c < n) : valD (flatD val n ++ rest) c = val c := by
  induction n with
  | zero => omega
  | succ n ih =>
    have hl := flatD_len val (t := n) (fun j hj => hv j (by omega))
    rw [flatD_succ, List.append_assoc]
    by_cases h : c < n
    · have h2 := ih (fun j hj => hv j (by omega)) h
      unfold valD at h2 ⊢
      rw [List.drop_append_of_le_length (by omega), List.take_append_of_le_length (by rw [List.length_drop]; omega)] at h2 ⊢
      exact h2
    · obtain rfl : c = n := by omega
      have hd := (hv c (by omega)).l
      unfold valD
      rw [← hl, List.drop_left, List.take_append_of_le_length (by omega), List.take_of_length_le (by omega)]
end Go.Proofs.YtkjckmdiolgmcaaDoor
