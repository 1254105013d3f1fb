/- Every proper beginning of an encoding asks for more, in plain lists. No condition. -/
import Derived.Test.YtadepaaemjnfgaaRoundSpec
namespace Go.Proofs.Ytadepaaemjnfgaa
open Go.RowKit
theorem getI_trunc (n : Int) (r : List Int) (i : Nat) (h0 : -9223372036854775808 ≤ n) (h1 : n ≤ 9223372036854775807) (hi : i < (encInt n).length) : getI ((encInt n ++ r).take i) = (0, 0, 3) := by
  have h8 := blen_le (mag n) (mag_lt8 n h0 h1)
  rw [List.take_append_of_le_length (by omega)]
  unfold getI
  have hl : ((encInt n).take i).length = i := by rw [List.length_take]; omega
  rw [hl]
  rcases Nat.eq_zero_or_pos i with rfl | hp
  · rw [if_pos rfl]
  · obtain ⟨j, rfl⟩ : ∃ j, i = j + 1 := ⟨i - 1, by omega⟩
    have hc : cntB ((encInt n).take (j + 1)) = blen (mag n) := by
      unfold encInt
      rw [List.take_succ_cons]
      exact (headB_flB n _ h0 h1).2
    rw [encInt_length] at hi
    rw [hc, if_neg (by omega), if_neg (by omega), if_pos (by omega)]
theorem cntI_trunc1 (n : Int) (r : List Int) (i s : Nat) (h0 : -9223372036854775808 ≤ n) (h1 : n ≤ 9223372036854775807) (hi : i < (encInt n).length) : cntI ((encInt n ++ r).take i) s = (0, 0, 3) := by
  unfold cntI
  rw [getI_trunc n r i h0 h1 hi]
  rw [if_pos (by decide)]
theorem cntI_trunc2 (m : Nat) (r : List Int) (i s : Nat) (hm : (m : Int) ≤ 9223372036854775807) (hs : 1 ≤ s) (hi : (encInt (m : Int)).length ≤ i) (hi2 : i ≤ (encInt (m : Int) ++ r).length) (hq : i - (encInt (m : Int)).length < m * s) : cntI ((encInt (m : Int) ++ r).take i) s = (0, 0, 3) := by
  have hl : ((encInt (m : Int) ++ r).take i).length = i := by rw [List.length_take]; omega
  unfold cntI
  rw [hl]
  rw [List.take_append, List.take_of_length_le hi, getI_enc (m : Int) _ (by omega) hm]
  simp only [ne_eq, not_true_eq_false, if_false]
  rw [if_neg (by omega), if_pos]
  refine Int.ediv_lt_of_lt_mul (show (0 : Int) < s by omega) ?_
  have h2 : ((m * s : Nat) : Int) = (m : Int) * s := Int.natCast_mul _ _
  omega
theorem decS_trunc (s : ByteArray) (i : Nat) (h : (s.size : Int) ≤ 9223372036854775807) (hi : i < (encInt (s.size : Int) ++ bys s).length) : decS ((encInt (s.size : Int) ++ bys s).take i) = (ByteArray.empty, 0, 3) := by
  have hc : cntI ((encInt (s.size : Int) ++ bys s).take i) 1 = (0, 0, 3) := by
    rcases Nat.lt_or_ge i (encInt (s.size : Int)).length with hlt | hge
    · exact cntI_trunc1 _ _ i 1 (by omega) h hlt
    · refine cntI_trunc2 s.size _ i 1 h (Nat.le_refl _) hge (Nat.le_of_lt hi) ?_
      rw [List.length_append, bys_length] at hi
      omega
  unfold decS
  rw [hc, if_pos (by decide)]
theorem decD_trunc (ds : List (List Int)) (i : Nat) (h : ∀ d ∈ ds, d.length = 16) (hn : (ds.length : Int) ≤ 9223372036854775807) (hi : i < (encInt (ds.length : Int) ++ ds.flatMap (fun d => d)).length) : decD ((encInt (ds.length : Int) ++ ds.flatMap (fun d => d)).take i) = ([], 0, 3) := by
  have hl : (ds.flatMap (fun d => d)).length = ds.length * 16 := by
    clear hn hi
    induction ds with
    | nil => rfl
    | cons d ds ih =>
      rw [List.flatMap_cons, List.length_append, ih (fun x hx => h x (List.mem_cons_of_mem _ hx)), h d (List.mem_cons_self ..), List.length_cons]
      omega
  have hc : cntI ((encInt (ds.length : Int) ++ ds.flatMap (fun d => d)).take i) 16 = (0, 0, 3) := by
    rcases Nat.lt_or_ge i (encInt (ds.length : Int)).length with hlt | hge
    · exact cntI_trunc1 _ _ i 16 (by omega) hn hlt
    · refine cntI_trunc2 ds.length _ i 16 hn (by decide) hge (Nat.le_of_lt hi) ?_
      rw [List.length_append, hl] at hi
      omega
  unfold decD
  rw [hc, if_pos (by decide)]
theorem decMany_trunc {α : Type} (one : List Int → α × Int × Int) (f : α → List Int) : ∀ (xs : List α) (i : Nat), (∀ x ∈ xs, ∀ r, one (f x ++ r) = (x, ((f x).length : Int), 0)) → (∀ x ∈ xs, ∀ j, j < (f x).length → (one ((f x).take j)).2.2 = 3) → i < (xs.flatMap f).length → (decMany one xs.length ((xs.flatMap f).take i)).1 = 3
  | [], i, _, _, hi => by simp at hi
  | x :: xs, i, h, ht, hi => by
    rw [List.flatMap_cons] at hi ⊢
    rw [List.length_cons, decMany]
    rcases Nat.lt_or_ge i (f x).length with hlt | hge
    · rw [List.take_append_of_le_length (by omega), ht x (List.mem_cons_self ..) i hlt, if_pos (by decide)]
    · rw [List.take_append, List.take_of_length_le hge, h x (List.mem_cons_self ..)]
      simp only [ne_eq, not_true_eq_false, if_false, Int.toNat_natCast, List.drop_left]
      refine decMany_trunc one f xs (i - (f x).length) (fun y hy => h y (List.mem_cons_of_mem _ hy)) (fun y hy => ht y (List.mem_cons_of_mem _ hy)) ?_
      rw [List.length_append] at hi
      omega
theorem decList_trunc {α : Type} (one : List Int → α × Int × Int) (f : α → List Int) (xs : List α) (i : Nat) (hx : ∀ x ∈ xs, ∀ r, one (f x ++ r) = (x, ((f x).length : Int), 0)) (ht : ∀ x ∈ xs, ∀ j, j < (f x).length → (one ((f x).take j)).2.2 = 3)
    (hn : (xs.length : Int) ≤ 9223372036854775807) (hi : i < (encInt (xs.length : Int) ++ xs.flatMap f).length) : decList one ((encInt (xs.length : Int) ++ xs.flatMap f).take i) = ([], 0, 3) := by
  unfold decList
  rcases Nat.lt_or_ge i (encInt (xs.length : Int)).length with hlt | hge
  · rw [cntI_trunc1 _ _ i 1 (by omega) hn hlt, if_pos (by decide)]
  · rcases Nat.lt_or_ge (i - (encInt (xs.length : Int)).length) (xs.length * 1) with hq | hq
    · rw [cntI_trunc2 xs.length _ i 1 hn (Nat.le_refl _) hge (Nat.le_of_lt hi) hq, if_pos (by decide)]
    · rw [List.take_append, List.take_of_length_le hge, cntI_enc xs.length 1 _ hn (Nat.le_refl _) (by rw [List.length_take]; rw [List.length_append] at hi; omega)]
      simp only [ne_eq, not_true_eq_false, if_false, Int.toNat_natCast, List.drop_left]
      rw [decMany_trunc one f xs _ hx ht (by rw [List.length_append] at hi; omega), if_pos (by decide)]
end Go.Proofs.Ytadepaaemjnfgaa
