/- Decoding counts, texts and lists, in plain lists. No condition. -/
import Derived.Test.YtkgmoklifkojhaaDecSpecB
namespace Go.Proofs.Ytkgmoklifkojhaa
open Go.RowKit
theorem getI_cases (l : List Int) (hb : Byt l) : (∃ er, getI l = (0, 0, er) ∧ (er = 2 ∨ er = 3)) ∨
    (∃ (n : Int) (k : Nat), getI l = (n, (k : Int), 0) ∧ 1 ≤ k ∧ k ≤ 9 ∧ k ≤ l.length ∧ -9223372036854775808 ≤ n ∧ n ≤ 9223372036854775807 ∧ encInt n = l.take k) := by
  unfold getI
  by_cases h0 : l.length = 0
  · rw [if_pos h0]; exact Or.inl ⟨3, rfl, Or.inr rfl⟩
  · rw [if_neg h0]
    by_cases h8 : 8 < cntB l
    · rw [if_pos h8]; exact Or.inl ⟨2, rfl, Or.inl rfl⟩
    · rw [if_neg h8]
      by_cases hn : l.length ≤ cntB l
      · rw [if_pos hn]; exact Or.inl ⟨3, rfl, Or.inr rfl⟩
      · rw [if_neg hn]
        by_cases hd : 0 < cntB l ∧ flB (ngB l) (l.getD 1 0) = 0
        · rw [if_pos hd]; exact Or.inl ⟨2, rfl, Or.inl rfl⟩
        · rw [if_neg hd]
          by_cases hv : 9223372036854775808 ≤ valB l (cntB l)
          · rw [if_pos hv]; exact Or.inl ⟨2, rfl, Or.inl rfl⟩
          · rw [if_neg hv]
            have hbd := numB_bd l (by omega)
            exact Or.inr ⟨_, cntB l + 1, by simp, by omega, by omega, by omega, hbd.1, hbd.2, enc_take l hb (by omega) (by omega) hd⟩
/-- A count whose elements have at least s bytes. -/
def cntI (l : List Int) (s : Nat) : Int × Int × Int :=
  if (getI l).2.2 ≠ 0 then (0, 0, (getI l).2.2)
  else if (getI l).1 < 0 then (0, 0, 2)
  else if ((l.length : Int) - (getI l).2.1) / s < (getI l).1 then (0, 0, 3)
  else ((getI l).1, (getI l).2.1, 0)
theorem cntI_cases (l : List Int) (hb : Byt l) (s : Nat) (hs : 1 ≤ s) : (∃ er, cntI l s = (0, 0, er) ∧ (er = 2 ∨ er = 3)) ∨
    (∃ (n k : Nat), cntI l s = ((n : Int), (k : Int), 0) ∧ 1 ≤ k ∧ k ≤ 9 ∧ k + n * s ≤ l.length ∧ (n : Int) ≤ 9223372036854775807 ∧ encInt n = l.take k) := by
  unfold cntI
  rcases getI_cases l hb with ⟨er, hg, he⟩ | ⟨n, k, hg, h1, h9, hk, hn0, hn1, henc⟩
  · rw [hg]
    rw [if_pos (by rcases he with rfl | rfl <;> simp)]
    exact Or.inl ⟨er, rfl, he⟩
  · rw [hg]
    simp only [ne_eq, not_true_eq_false, if_false]
    by_cases hneg : n < 0
    · rw [if_pos hneg]; exact Or.inl ⟨2, rfl, Or.inl rfl⟩
    · rw [if_neg hneg]
      by_cases hq : ((l.length : Int) - k) / s < n
      · rw [if_pos hq]; exact Or.inl ⟨3, rfl, Or.inr rfl⟩
      · rw [if_neg hq]
        obtain ⟨m, rfl⟩ := Int.eq_ofNat_of_zero_le (show 0 ≤ n by omega)
        refine Or.inr ⟨m, k, rfl, h1, h9, ?_, hn1, henc⟩
        have h2 : (m : Int) * s ≤ (l.length : Int) - k := by
          have := (Int.le_ediv_iff_mul_le (show (0 : Int) < s by omega)).1 (Int.not_lt.1 hq)
          exact this
        have h3 : ((m * s : Nat) : Int) ≤ (l.length : Int) - k := by rw [Int.natCast_mul]; exact h2
        omega
/-- A text. -/
def decS (l : List Int) : ByteArray × Int × Int :=
  if (cntI l 1).2.2 ≠ 0 then (ByteArray.empty, 0, (cntI l 1).2.2)
  else (strOf ((l.drop (cntI l 1).2.1.toNat).take (cntI l 1).1.toNat), (cntI l 1).2.1 + (cntI l 1).1, 0)
theorem decS_cases (l : List Int) (hb : Byt l) : (∃ er, decS l = (ByteArray.empty, 0, er) ∧ (er = 2 ∨ er = 3)) ∨
    (∃ (s : ByteArray) (k u : Nat), decS l = (s, (u : Int), 0) ∧ cntI l 1 = ((s.size : Int), (k : Int), 0) ∧ s = strOf ((l.drop k).take s.size) ∧ u = k + s.size ∧ 1 ≤ u ∧ 1 ≤ k ∧ k ≤ 9 ∧ u ≤ l.length ∧ encInt s.size ++ bys s = l.take u) := by
  unfold decS
  rcases cntI_cases l hb 1 (Nat.le_refl _) with ⟨er, hg, he⟩ | ⟨n, k, hg, h1, h9, hk, hn, henc⟩
  · rw [hg]
    rw [if_pos (by rcases he with rfl | rfl <;> simp)]
    exact Or.inl ⟨er, rfl, he⟩
  · rw [hg]
    simp only [ne_eq, not_true_eq_false, if_false, Int.toNat_natCast]
    right
    have hz : (strOf ((l.drop k).take n)).size = n := by rw [strOf_size, List.length_take, List.length_drop]; omega
    refine ⟨strOf ((l.drop k).take n), k, k + n, by simp, by rw [hz], by rw [hz], by rw [hz], by omega, h1, h9, by omega, ?_⟩
    rw [hz, bys_strOf _ ((hb.drop _).take _), henc, List.take_add]
/-- m values, one behind the other. -/
def decMany {α : Type} (one : List Int → α × Int × Int) : Nat → List Int → Int × List α × Nat
  | 0, _ => (0, [], 0)
  | m + 1, l =>
    if (one l).2.2 ≠ 0 then ((one l).2.2, [], 0)
    else ((decMany one m (l.drop (one l).2.1.toNat)).1, (one l).1 :: (decMany one m (l.drop (one l).2.1.toNat)).2.1, (one l).2.1.toNat + (decMany one m (l.drop (one l).2.1.toNat)).2.2)
/-- A counted list. -/
def decList {α : Type} (one : List Int → α × Int × Int) (l : List Int) : List α × Int × Int :=
  if (cntI l 1).2.2 ≠ 0 then ([], 0, (cntI l 1).2.2)
  else if (decMany one (cntI l 1).1.toNat (l.drop (cntI l 1).2.1.toNat)).1 ≠ 0 then ([], 0, (decMany one (cntI l 1).1.toNat (l.drop (cntI l 1).2.1.toNat)).1)
  else ((decMany one (cntI l 1).1.toNat (l.drop (cntI l 1).2.1.toNat)).2.1, (cntI l 1).2.1 + ((decMany one (cntI l 1).1.toNat (l.drop (cntI l 1).2.1.toNat)).2.2 : Int), 0)
/-- What has been decoded so far, joined with what is still to come. -/
def joinD {α : Type} (xs : List α) (d : Nat) (r : Int × List α × Nat) : Int × List α × Nat := (r.1, xs ++ r.2.1, d + r.2.2)
theorem joinD_step {α : Type} (one : List Int → α × Int × Int) (m : Nat) (l : List Int) (xs : List α) (d u : Nat) (x : α) (h : one l = (x, (u : Int), 0)) :
    joinD xs d (decMany one (m + 1) l) = joinD (xs ++ [x]) (d + u) (decMany one m (l.drop u)) := by
  simp only [decMany, h, ne_eq, not_true_eq_false, if_false, Int.toNat_natCast, joinD, List.append_assoc, List.singleton_append, Nat.add_assoc]
theorem joinD_err {α : Type} (one : List Int → α × Int × Int) (m : Nat) (l : List Int) (xs : List α) (d : Nat) (er : Int) (he : er ≠ 0) (h : (one l).2.2 = er) : (joinD xs d (decMany one (m + 1) l)).1 = er := by
  simp only [decMany, h, if_pos he, joinD]
/-- The digests of a list: n of 16 bytes each. -/
def cutD (l : List Int) (n : Nat) : List (List Int) := (List.range n).map fun i => (l.drop (16 * i)).take 16
def decD (l : List Int) : List (List Int) × Int × Int :=
  if (cntI l 16).2.2 ≠ 0 then ([], 0, (cntI l 16).2.2)
  else (cutD (l.drop (cntI l 16).2.1.toNat) (cntI l 16).1.toNat, (cntI l 16).2.1 + 16 * (cntI l 16).1, 0)
end Go.Proofs.Ytkgmoklifkojhaa
