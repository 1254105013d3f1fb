/- Plain law: the digits of two different digests cross. No program. -/
import Derived.Test.YtkjckmdiolgmcaaDoorSgDig
set_option linter.unusedSimpArgs false
set_option linter.unusedVariables false
namespace Go.Proofs.YtkjckmdiolgmcaaDoor
theorem digL_len (d : List Int) : (digL d).length = 68 := by simp [digL, clist]
theorem digL_at (d : List Int) {j : Nat} (h : j < 68) : (digL d).getD j 0 = ccell d 4 j := by
  unfold digL clist
  rw [List.getD_eq_getElem?_getD, List.getElem?_map, List.getElem?_range h]; rfl
theorem ccell_lo (d : List Int) {j : Nat} (h : j < 64) : ccell d 4 j = dg d j := by unfold ccell; rw [if_pos h]
theorem ccell_hi (d : List Int) {j : Nat} (h : j < 4) : ccell d 4 (67 - j) = dsum d 64 / 4 ^ j % 4 := by
  unfold ccell; rw [if_neg (by omega), if_pos (by omega), show 67 - (67 - j) = j by omega]
theorem digL_bd (d : List Int) {j : Nat} (h : j < 68) : 0 ≤ (digL d).getD j 0 ∧ (digL d).getD j 0 ≤ 3 := by
  rw [digL_at d h]
  by_cases h1 : j < 64
  · rw [ccell_lo d h1]; exact dg_bd d j
  · have := ccell_hi d (j := 67 - j) (by omega)
    rw [show 67 - (67 - j) = j by omega] at this
    rw [this]
    omega
theorem dg_byte (d : List Int) (q : Nat) (h0 : 0 ≤ d.getD q 0) (h1 : d.getD q 0 ≤ 255) : d.getD q 0 = 64 * dg d (4 * q) + 16 * dg d (4 * q + 1) + 4 * dg d (4 * q + 2) + dg d (4 * q + 3) := by
  unfold dg
  rw [show 4 * q / 4 = q by omega, show (4 * q + 1) / 4 = q by omega, show (4 * q + 2) / 4 = q by omega, show (4 * q + 3) / 4 = q by omega, show 4 * q % 4 = 0 by omega, show (4 * q + 1) % 4 = 1 by omega, show (4 * q + 2) % 4 = 2 by omega, show (4 * q + 3) % 4 = 3 by omega]
  generalize d.getD q 0 = x at *
  show x = 64 * (x / 64 % 4) + 16 * (x / 16 % 4) + 4 * (x / 4 % 4) + x / 1 % 4
  omega
theorem dg_inj {d e : List Int} (hd : d.length = 16) (he : e.length = 16) (bd : Byt d) (be : Byt e) (h : ∀ i, i < 64 → dg d i = dg e i) : d = e := by
  refine List.ext_getElem? (fun q => ?_)
  by_cases hq : q < 16
  · have h1 := dg_byte d q (bd.at_ q).1 (bd.at_ q).2
    have h2 := dg_byte e q (be.at_ q).1 (be.at_ q).2
    rw [h (4 * q) (by omega), h (4 * q + 1) (by omega), h (4 * q + 2) (by omega), h (4 * q + 3) (by omega), ← h2] at h1
    rw [List.getD_eq_getElem?_getD, List.getD_eq_getElem?_getD, List.getElem?_eq_getElem (by omega), List.getElem?_eq_getElem (by omega)] at h1
    rw [List.getElem?_eq_getElem (by omega), List.getElem?_eq_getElem (by omega)]
    exact congrArg some h1
  · rw [List.getElem?_eq_none (by omega), List.getElem?_eq_none (by omega)]
theorem dsum_le {d e : List Int} : ∀ {t : Nat}, (∀ i, i < t → dg e i ≤ dg d i) → dsum d t ≤ dsum e t
  | 0, _ => Int.le_refl _
  | t + 1, h => by
    have h1 := dsum_le (fun i hi => h i (by omega) : ∀ i, i < t → dg e i ≤ dg d i)
    have h2 := h t (by omega)
    unfold dsum
    omega
theorem dsum_lt {d e : List Int} : ∀ {t : Nat}, (∀ i, i < t → dg e i ≤ dg d i) → (∃ i, i < t ∧ dg e i < dg d i) → dsum d t < dsum e t
  | 0, _, ⟨i, hi, _⟩ => absurd hi (by omega)
  | t + 1, h, ⟨i, hi, hs⟩ => by
    have h1 := dsum_le (fun i hi => h i (by omega) : ∀ i, i < t → dg e i ≤ dg d i)
    have h2 := h t (by omega)
    unfold dsum
    by_cases hit : i = t
    · subst hit; omega
    · have h3 := dsum_lt (fun i hi => h i (by omega) : ∀ i, i < t → dg e i ≤ dg d i) ⟨i, by omega, hs⟩
      omega
theorem base4 {s r : Int} (h0 : 0 ≤ s) (h1 : r ≤ 255) (h : s < r) : ∃ j : Nat, j < 4 ∧ s / 4 ^ j % 4 < r / 4 ^ j % 4 := by
  by_cases a3 : s / 64 % 4 < r / 64 % 4
  · exact ⟨3, by omega, a3⟩
  by_cases a2 : s / 16 % 4 < r / 16 % 4
  · exact ⟨2, by omega, a2⟩
  by_cases a1 : s / 4 % 4 < r / 4 % 4
  · exact ⟨1, by omega, a1⟩
  · refine ⟨0, by omega, ?_⟩
    show s / 1 % 4 < r / 1 % 4
    rw [Int.ediv_one, Int.ediv_one]
    have e1 : s = 64 * (s / 64 % 4) + 16 * (s / 16 % 4) + 4 * (s / 4 % 4) + s % 4 := by omega
    have e2 : r = 64 * (r / 64 % 4) + 16 * (r / 16 % 4) + 4 * (r / 4 % 4) + r % 4 := by omega
    have b1 : 0 ≤ s % 4 ∧ s % 4 < 4 := by omega
    have b2 : 0 ≤ r % 4 ∧ r % 4 < 4 := by omega
    generalize s / 64 % 4 = a at *
    generalize s / 16 % 4 = b at *
    generalize s / 4 % 4 = c at *
    generalize s % 4 = f at *
    generalize r / 64 % 4 = a' at *
    generalize r / 16 % 4 = b' at *
    generalize r / 4 % 4 = c' at *
    generalize r % 4 = f' at *
    omega
/-- Some digit is less. -/
theorem dig_less {d e : List Int} (hd : d.length = 16) (he : e.length = 16) (bd : Byt d) (be : Byt e) (h : d ≠ e) : ∃ i, i < 68 ∧ (digL d).getD i 0 < (digL e).getD i 0 := by
  by_cases hl : ∃ i, i < 64 ∧ dg d i < dg e i
  · obtain ⟨i, hi, hlt⟩ := hl
    refine ⟨i, by omega, ?_⟩
    rw [digL_at d (by omega), digL_at e (by omega), ccell_lo d hi, ccell_lo e hi]
    exact hlt
  · have hge : ∀ i, i < 64 → dg e i ≤ dg d i := fun i hi => Int.not_lt.1 (fun hlt => hl ⟨i, hi, hlt⟩)
    have hne : ∃ i, i < 64 ∧ dg e i < dg d i := Classical.byContradiction (fun hn => h (dg_inj hd he bd be (fun i hi => Int.le_antisymm (Int.not_lt.1 (fun hlt => hn ⟨i, hi, hlt⟩)) (hge i hi))))
    have hs := dsum_lt hge hne
    obtain ⟨j, hj, hlt⟩ := base4 (dsum_bd d 64).1 (by have := (dsum_bd e 64).2; omega) hs
    refine ⟨67 - j, by omega, ?_⟩
    rw [digL_at d (by omega), digL_at e (by omega), ccell_hi d hj, ccell_hi e hj]
    exact hlt
end Go.Proofs.YtkjckmdiolgmcaaDoor
