/- What has been decoded is the encoding of the bytes consumed, in plain lists. No condition. -/
import Derived.Test.YtkgmoklifkojhaaRoundSpec
namespace Go.Proofs.Ytkgmoklifkojhaa
open Go.RowKit
theorem decMany_canon {α : Type} (one : List Int → α × Int × Int) (f : α → List Int) (Q : α → Prop) (L : Nat)
    (hone : ∀ l, Byt l → l.length ≤ L → (one l).2.2 ≠ 0 ∨ ∃ (x : α) (u : Nat), one l = (x, (u : Int), 0) ∧ u ≤ l.length ∧ f x = l.take u ∧ Q x) : ∀ (m : Nat) (l : List Int), Byt l → l.length ≤ L →
    (decMany one m l).1 ≠ 0 ∨ ∃ (xs : List α) (u : Nat), decMany one m l = (0, xs, u) ∧ xs.length = m ∧ u ≤ l.length ∧ xs.flatMap f = l.take u ∧ ∀ x ∈ xs, Q x
  | 0, l, _, _ => Or.inr ⟨[], 0, rfl, rfl, Nat.zero_le _, by simp, fun x h => by cases h⟩
  | m + 1, l, hb, hL => by
    rcases hone l hb hL with he | ⟨x, u, hx, hu, hf, hq⟩
    · left
      rw [decMany, if_pos he]; exact he
    · rw [decMany, hx]
      simp only [ne_eq, not_true_eq_false, if_false, Int.toNat_natCast]
      rcases decMany_canon one f Q L hone m (l.drop u) (hb.drop u) (by rw [List.length_drop]; omega) with he | ⟨xs, v, hr, hm, hv, hfl, hqs⟩
      · exact Or.inl he
      · rw [hr]
        rw [List.length_drop] at hv
        refine Or.inr ⟨x :: xs, u + v, rfl, by simp [hm], by omega, by rw [List.flatMap_cons, hf, hfl, List.take_add], fun y hy => ?_⟩
        rcases List.mem_cons.1 hy with rfl | hy
        · exact hq
        · exact hqs y hy
theorem decList_canon {α : Type} (one : List Int → α × Int × Int) (f : α → List Int) (Q : α → Prop) (l : List Int) (hb : Byt l)
    (hone : ∀ r, Byt r → r.length ≤ l.length → (one r).2.2 ≠ 0 ∨ ∃ (x : α) (u : Nat), one r = (x, (u : Int), 0) ∧ u ≤ r.length ∧ f x = r.take u ∧ Q x) :
    (∃ er, decList one l = ([], 0, er) ∧ er ≠ 0) ∨ ∃ (xs : List α) (u : Nat), decList one l = (xs, (u : Int), 0) ∧ u ≤ l.length ∧ encInt (xs.length : Int) ++ xs.flatMap f = l.take u ∧ ∀ x ∈ xs, Q x := by
  unfold decList
  rcases cntI_cases l hb 1 (Nat.le_refl _) with ⟨er, hg, he⟩ | ⟨n, k, hg, _, _, hk, _, henc⟩
  · rw [hg, if_pos (by rcases he with rfl | rfl <;> simp)]
    exact Or.inl ⟨er, rfl, by rcases he with rfl | rfl <;> simp⟩
  · rw [hg]
    simp only [ne_eq, not_true_eq_false, if_false, Int.toNat_natCast]
    rcases decMany_canon one f Q l.length hone n (l.drop k) (hb.drop k) (by rw [List.length_drop]; omega) with he | ⟨xs, v, hr, hm, hv, hfl, hqs⟩
    · rw [if_pos he]; exact Or.inl ⟨_, rfl, he⟩
    · rw [hr]
      rw [List.length_drop] at hv
      simp only [not_true_eq_false, if_false]
      exact Or.inr ⟨xs, k + v, by simp, by omega, by rw [hm, henc, hfl, List.take_add], hqs⟩
theorem cutD_join (l : List Int) : ∀ n, (cutD l n).flatMap (fun d => d) = l.take (16 * n)
  | 0 => by simp [cutD]
  | n + 1 => by
    have ih := cutD_join l n
    unfold cutD at ih ⊢
    rw [List.range_succ, List.map_append, List.flatMap_append, ih, show 16 * (n + 1) = 16 * n + 16 by omega, List.take_add]
    simp
theorem decD_canon (l : List Int) (hb : Byt l) : (∃ er, decD l = ([], 0, er) ∧ er ≠ 0) ∨ ∃ (ds : List (List Int)) (u : Nat), decD l = (ds, (u : Int), 0) ∧ u ≤ l.length ∧ encInt (ds.length : Int) ++ ds.flatMap (fun d => d) = l.take u := by
  unfold decD
  rcases cntI_cases l hb 16 (by decide) with ⟨er, hg, he⟩ | ⟨n, k, hg, _, _, hk, _, henc⟩
  · rw [hg, if_pos (by rcases he with rfl | rfl <;> simp)]
    exact Or.inl ⟨er, rfl, by rcases he with rfl | rfl <;> simp⟩
  · rw [hg]
    simp only [ne_eq, not_true_eq_false, if_false, Int.toNat_natCast]
    have hlen : (cutD (l.drop k) n).length = n := by simp [cutD]
    exact Or.inr ⟨cutD (l.drop k) n, k + 16 * n, by simp, by omega, by rw [hlen, henc, cutD_join, List.take_add]⟩
theorem oneI_canon (r : List Int) (hb : Byt r) : (getI r).2.2 ≠ 0 ∨ ∃ (x : Int) (u : Nat), getI r = (x, (u : Int), 0) ∧ u ≤ r.length ∧ encInt x = r.take u ∧ -9223372036854775808 ≤ x ∧ x ≤ 9223372036854775807 := by
  rcases getI_cases r hb with ⟨er, hg, he⟩ | ⟨n, k, hg, _, _, hk, h0, h1, henc⟩
  · left; rw [hg]; rcases he with rfl | rfl <;> simp
  · exact Or.inr ⟨n, k, hg, hk, henc, h0, h1⟩
theorem oneS_canon (r : List Int) (hb : Byt r) : (decS r).2.2 ≠ 0 ∨ ∃ (x : ByteArray) (u : Nat), decS r = (x, (u : Int), 0) ∧ u ≤ r.length ∧ encInt (x.size : Int) ++ bys x = r.take u ∧ x.size ≤ r.length := by
  rcases decS_cases r hb with ⟨er, hg, he⟩ | ⟨s, k, u, hg, _, _, hu, _, _, _, hl, henc⟩
  · left; rw [hg]; rcases he with rfl | rfl <;> simp
  · exact Or.inr ⟨s, u, hg, hl, henc, by omega⟩
end Go.Proofs.Ytkgmoklifkojhaa
