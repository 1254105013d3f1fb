/- The reviews that numbers make are valid (plain). Condition: none. -/
import Derived.Test.YtjeecfjeooehhaaGreatDoorRvI
set_option linter.unusedSimpArgs false
set_option linter.unusedVariables false
namespace Go.Proofs.YtjeecfjeooehhaaGreatDoor
def ltR (a b : Rid) : Prop := a.s < b.s ∨ a.s = b.s ∧ (a.q < b.q ∨ a.q = b.q ∧ a.i < b.i)
theorem lessB_iff (a b : Rid) : lessB a b = true ↔ ltR a b := by
  unfold lessB ltR
  split
  · rw [decide_eq_true_iff]; omega
  · split
    · rw [decide_eq_true_iff]; omega
    · rw [decide_eq_true_iff]; omega
theorem lessB_not (a b : Rid) : lessB a b = false ↔ ¬ ltR a b := by
  rw [← lessB_iff, Bool.not_eq_true]
theorem ltR_trans {a b c : Rid} (h1 : ltR a b) (h2 : ltR b c) : ltR a c := by unfold ltR at *; omega
theorem ltR_total {a b : Rid} (h : ¬ ltR a b) (hne : a ≠ b) : ltR b a := by
  obtain ⟨s, q, i⟩ := a
  obtain ⟨s', q', i'⟩ := b
  unfold ltR at *
  dsimp only at *
  have : ¬ (s = s' ∧ q = q' ∧ i = i') := fun ⟨h1, h2, h3⟩ => hne (by rw [h1, h2, h3])
  omega
/-- In order, and each valid. -/
def GoodR (L : List Rid) : Prop := L.Pairwise ltR ∧ ∀ x ∈ L, idB x = true
theorem GoodR.nil : GoodR [] := ⟨List.Pairwise.nil, fun x hx => by cases hx⟩
theorem posR_le (L : List Rid) (x : Rid) : posR L x ≤ L.length := List.findIdx_le_length
theorem GoodR.ins {L : List Rid} (h : GoodR L) {x : Rid} (hx : idB x = true) : GoodR (insR L x) := by
  unfold insR
  split
  · exact h
  · rename_i hne
    have hlow : ∀ y ∈ L.take (posR L x), ltR y x := fun y hy => by
      obtain ⟨j, hj, rfl⟩ := List.getElem_of_mem hy
      rw [List.length_take] at hj
      rw [List.getElem_take]
      have h1 := List.not_of_lt_findIdx (p := fun y => !lessB y x) (xs := L) (i := j) (by unfold posR at hj; omega)
      rw [← lessB_iff]
      simpa using h1
    have hhigh : ∀ y ∈ L.drop (posR L x), ltR x y := fun y hy => by
      have hlt : posR L x < L.length := by
        rcases Nat.lt_or_ge (posR L x) L.length with h1 | h1
        · exact h1
        · rw [List.drop_of_length_le h1] at hy; cases hy
      have h0 : ¬ ltR L[posR L x] x := by
        have := List.findIdx_getElem (p := fun y => !lessB y x) (xs := L) (w := hlt)
        rw [← lessB_not]
        have h2 : (!lessB L[posR L x] x) = true := this
        simpa using h2
      have hn0 : L[posR L x] ≠ x := fun e => hne (by rw [List.getElem?_eq_getElem hlt, e])
      have h1 : ltR x L[posR L x] := ltR_total h0 hn0
      rw [List.drop_eq_getElem_cons hlt] at hy
      rcases List.mem_cons.1 hy with rfl | hy
      · exact h1
      · have hp := h.1
        rw [← List.take_append_drop (posR L x) L, List.pairwise_append, List.drop_eq_getElem_cons hlt, List.pairwise_cons] at hp
        exact ltR_trans h1 (hp.2.1.1 y hy)
    refine ⟨?_, fun y hy => ?_⟩
    · have hp := h.1
      rw [← List.take_append_drop (posR L x) L, List.pairwise_append] at hp
      rw [List.pairwise_append, List.pairwise_cons]
      refine ⟨hp.1, ⟨hhigh, hp.2.1⟩, fun y hy z hz => ?_⟩
      rcases List.mem_cons.1 hz with rfl | hz
      · exact hlow y hy
      · exact hp.2.2 y hy z hz
    · rcases List.mem_append.1 hy with hy | hy
      · exact h.2 y (List.mem_of_mem_take hy)
      · rcases List.mem_cons.1 hy with rfl | hy
        · exact hx
        · exact h.2 y (List.mem_of_mem_drop hy)
theorem GoodR.okB {L : List Rid} (h : GoodR L) : okB L = true := by
  refine okB_of (fun j hj => ?_)
  unfold goodB
  have e1 : L.getD j rid0 = L[j] := by rw [List.getD_eq_getElem?_getD, List.getElem?_eq_getElem hj]; rfl
  rw [e1, h.2 _ (List.getElem_mem _), Bool.true_and]
  by_cases h0 : j = 0
  · rw [decide_eq_true h0]; rfl
  · have e2 : L.getD (j - 1) rid0 = L[j - 1] := by rw [List.getD_eq_getElem?_getD, List.getElem?_eq_getElem (by omega)]; rfl
    rw [e2, (lessB_iff _ _).2 (List.pairwise_iff_getElem.1 h.1 (j - 1) j (by omega) hj (by omega)), Bool.or_true]
theorem idOf_ok (l : List Int) (k : Nat) : idB (idOf l k) = true := by
  rw [idB_iff]
  unfold idOf
  have h1 := atI_bd l (6 + k) 2 (by decide)
  have h2 := atI_bd l (7 + k) 2 (by decide)
  have h3 := atI_bd l (8 + k) 4 (by decide)
  dsimp only
  omega
theorem opsTo_good (l : List Int) : ∀ k, GoodR (opsTo l k)
  | 0 => GoodR.nil
  | k + 1 => (opsTo_good l k).ins (idOf_ok l k)
theorem revOf_valid (l : List Int) : validE (revOf l) = 0 := by
  have h0 := atI_bd l 0 3 (by decide)
  have h1 := atI_bd l 1 4 (by decide)
  have h2 := atI_bd l 2 9 (by decide)
  have h5 := atI_bd l 5 4 (by decide)
  have hl := opsTo_len l (1 + (atI l 5 4).toNat)
  have hpos : 0 < (opsTo l (1 + (atI l 5 4).toNat)).length := by
    rw [Nat.add_comm]
    exact (insR_len _ _).2
  unfold validE
  have hr : (rnumB (revOf l).shop (revOf l).seq && winB (revOf l).day 1 1048576) = true := by
    unfold rnumB winB revOf revTo
    simp only [Bool.and_eq_true, decide_eq_true_eq]
    omega
  rw [hr, if_neg (by decide), if_neg (by show ¬ 32 < (opsTo l (1 + (atI l 5 4).toNat)).length; omega), if_neg (by show ¬ (opsTo l (1 + (atI l 5 4).toNat)).length = 0; omega), if_pos (show okB (revOf l).ops = true from (opsTo_good l _).okB)]
theorem revOf_many (l : List Int) : (revOf l).ops.length ≤ 4 := by
  have h5 := atI_bd l 5 4 (by decide)
  have hl := opsTo_len l (1 + (atI l 5 4).toNat)
  show (opsTo l (1 + (atI l 5 4).toNat)).length ≤ 4
  omega
end Go.Proofs.YtjeecfjeooehhaaGreatDoor
