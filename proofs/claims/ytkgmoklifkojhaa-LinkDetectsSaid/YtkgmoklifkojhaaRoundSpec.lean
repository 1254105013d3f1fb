/- Decoding what has been encoded, in plain lists: round trip, truncation, order. No condition. -/
import Derived.Test.YtkgmoklifkojhaaListSpec
namespace Go.Proofs.Ytkgmoklifkojhaa
open Go.RowKit
theorem headB_flB (n : Int) (r : List Int) (h0 : -9223372036854775808 ≤ n) (h1 : n ≤ 9223372036854775807) : ngB (headB n :: r) = decide (n < 0) ∧ cntB (headB n :: r) = blen (mag n) := by
  have h8 := blen_le (mag n) (mag_lt8 n h0 h1)
  have hng : ngB (headB n :: r) = decide (n < 0) := by
    unfold ngB headB flipB
    by_cases hn : n < 0
    · simp only [hn, if_true, decide_true]
      simp only [List.getD_cons_zero]
      rw [decide_eq_true]; omega
    · simp only [hn, if_false, decide_false]
      simp only [List.getD_cons_zero]
      rw [decide_eq_false]; omega
  refine ⟨hng, ?_⟩
  unfold cntB
  rw [hng]
  unfold flB headB flipB
  by_cases hn : n < 0
  · simp only [hn, decide_true, if_true, List.getD_cons_zero]; omega
  · simp only [hn, decide_false, Bool.false_eq_true, if_false, List.getD_cons_zero]; omega
theorem flB_dec (n x : Int) : flB (decide (n < 0)) (flipB n x) = x := by
  unfold flB flipB
  by_cases hn : n < 0
  · simp only [hn, decide_true, if_true]; omega
  · simp only [hn, decide_false, Bool.false_eq_true, if_false]
theorem tail_get (n : Int) (k j i : Nat) (r : List Int) (h : i < j) : (headB n :: (tailTo n k j ++ r)).getD (i + 1) 0 = flipB n (digit (mag n) (k - 1 - i)) := by
  rw [List.getD_cons_succ, List.getD_eq_getElem?_getD, List.getElem?_append_left (by rw [tailTo_length]; exact h)]
  unfold tailTo
  rw [List.getElem?_map, List.getElem?_range h]
  rfl
/-- The first j digits make the number without its low digits. -/
theorem valB_enc (n : Int) (r : List Int) (h0 : -9223372036854775808 ≤ n) (h1 : n ≤ 9223372036854775807) : ∀ j, j ≤ blen (mag n) → valB (encInt n ++ r) j = mag n / 256 ^ (blen (mag n) - j)
  | 0, _ => by
    have hs := (blen_spec (mag n) (Nat.lt_trans (mag_lt8 n h0 h1) (by decide))).1
    rw [Nat.sub_zero, Nat.div_eq_of_lt hs]; rfl
  | j + 1, hj => by
    have ih := valB_enc n r h0 h1 j (by omega)
    have hng : ngB (encInt n ++ r) = decide (n < 0) := (headB_flB n _ h0 h1).1
    have hget : (encInt n ++ r).getD (j + 1) 0 = flipB n (digit (mag n) (blen (mag n) - 1 - j)) := tail_get n _ _ j r (by omega)
    rw [valB, ih, hng, hget, flB_dec]
    unfold digit
    rw [Int.toNat_natCast]
    obtain ⟨q, hq⟩ : ∃ q, blen (mag n) - j = q + 1 := ⟨blen (mag n) - j - 1, by omega⟩
    rw [show blen (mag n) - 1 - j = q by omega, show blen (mag n) - (j + 1) = q by omega, hq, Nat.pow_succ, ← Nat.div_div_eq_div_mul]
    omega
/-- ROUND TRIP. -/
theorem getI_enc (n : Int) (r : List Int) (h0 : -9223372036854775808 ≤ n) (h1 : n ≤ 9223372036854775807) : getI (encInt n ++ r) = (n, ((encInt n).length : Int), 0) := by
  have h8 := blen_le (mag n) (mag_lt8 n h0 h1)
  obtain ⟨hng, hcn⟩ : ngB (encInt n ++ r) = decide (n < 0) ∧ cntB (encInt n ++ r) = blen (mag n) := headB_flB n _ h0 h1
  have hv := valB_enc n r h0 h1 (blen (mag n)) (Nat.le_refl _)
  rw [Nat.sub_self, Nat.pow_zero, Nat.div_one] at hv
  have hlt := mag_lt n h0 h1
  unfold getI
  rw [hcn, if_neg (by simp [encInt]), if_neg (by omega), if_neg (by rw [List.length_append, encInt_length]; omega)]
  have hd : ¬ (0 < blen (mag n) ∧ flB (ngB (encInt n ++ r)) ((encInt n ++ r).getD 1 0) = 0) := by
    rintro ⟨hp, hz⟩
    have hget : (encInt n ++ r).getD (0 + 1) 0 = flipB n (digit (mag n) (blen (mag n) - 1 - 0)) := tail_get n _ _ 0 r hp
    rw [Nat.zero_add, Nat.sub_zero] at hget
    rw [hng, hget, flB_dec] at hz
    unfold digit at hz
    have hs := blen_spec (mag n) (Nat.lt_trans (mag_lt8 n h0 h1) (by decide))
    rcases hs.2 with h | h
    · omega
    · obtain ⟨q, hq⟩ : ∃ q, blen (mag n) = q + 1 := ⟨blen (mag n) - 1, by omega⟩
      rw [hq, Nat.add_sub_cancel] at h hz
      rw [hq] at hs
      have h2 := hs.1
      rw [Nat.pow_succ] at h2
      have h3 : mag n / 256 ^ q < 256 := Nat.div_lt_of_lt_mul (by rw [Nat.mul_comm]; omega)
      have h4 : 0 < mag n / 256 ^ q := Nat.div_pos h (Nat.pow_pos (by decide))
      omega
  rw [if_neg hd, hv, if_neg (by omega), encInt_length]
  have hnum : numB (encInt n ++ r) = n := by
    unfold numB
    rw [hng, hcn, hv]
    unfold mag
    by_cases hn : n < 0
    · simp only [hn, decide_true, if_true]; omega
    · simp only [hn, decide_false, Bool.false_eq_true, if_false]; omega
  rw [hnum]
  simp
theorem enc_nat_len (m : Nat) (h : (m : Int) ≤ 9223372036854775807) : 1 ≤ (encInt (m : Int)).length ∧ (encInt (m : Int)).length ≤ 9 := by
  rw [encInt_length]
  have := blen_le (mag m) (mag_lt8 m (by omega) h)
  omega
theorem cntI_enc (m s : Nat) (r : List Int) (hm : (m : Int) ≤ 9223372036854775807) (hs : 1 ≤ s) (hr : m * s ≤ r.length) : cntI (encInt (m : Int) ++ r) s = ((m : Int), ((encInt (m : Int)).length : Int), 0) := by
  unfold cntI
  rw [getI_enc (m : Int) r (by omega) hm]
  simp only [ne_eq, not_true_eq_false, if_false]
  rw [if_neg (by omega), if_neg]
  refine Int.not_lt.2 ((Int.le_ediv_iff_mul_le (show (0 : Int) < s by omega)).2 ?_)
  have h2 : ((m * s : Nat) : Int) = (m : Int) * s := Int.natCast_mul _ _
  rw [List.length_append]
  omega
theorem decS_enc (s : ByteArray) (r : List Int) (h : (s.size : Int) ≤ 9223372036854775807) : decS (encInt (s.size : Int) ++ bys s ++ r) = (s, ((encInt (s.size : Int) ++ bys s).length : Int), 0) := by
  unfold decS
  rw [List.append_assoc, cntI_enc s.size 1 _ h (Nat.le_refl _) (by rw [List.length_append, bys_length]; omega)]
  simp only [ne_eq, not_true_eq_false, if_false, Int.toNat_natCast]
  rw [List.drop_left, List.take_append_of_le_length (by rw [bys_length]; exact Nat.le_refl _), List.take_of_length_le (by rw [bys_length]; exact Nat.le_refl _), strOf_bys, List.length_append, bys_length]
  simp
theorem decMany_enc {α : Type} (one : List Int → α × Int × Int) (f : α → List Int) (r : List Int) : ∀ (xs : List α), (∀ x ∈ xs, ∀ r, one (f x ++ r) = (x, ((f x).length : Int), 0)) → decMany one xs.length (xs.flatMap f ++ r) = (0, xs, (xs.flatMap f).length)
  | [], _ => by simp [decMany]
  | x :: xs, h => by
    have ih := decMany_enc one f r xs (fun y hy => h y (List.mem_cons_of_mem _ hy))
    have hx := h x (List.mem_cons_self ..) (xs.flatMap f ++ r)
    rw [List.flatMap_cons, List.append_assoc, List.length_cons, decMany, hx]
    simp only [ne_eq, not_true_eq_false, if_false, Int.toNat_natCast, List.drop_left, ih, List.length_append]
theorem flat_len {α : Type} (f : α → List Int) : ∀ (xs : List α), (∀ x ∈ xs, 1 ≤ (f x).length) → xs.length ≤ (xs.flatMap f).length
  | [], _ => by simp
  | x :: xs, h => by
    have ih := flat_len f xs (fun y hy => h y (List.mem_cons_of_mem _ hy))
    have hx := h x (List.mem_cons_self ..)
    rw [List.flatMap_cons, List.length_append, List.length_cons]
    omega
theorem decList_enc {α : Type} (one : List Int → α × Int × Int) (f : α → List Int) (xs : List α) (r : List Int) (hx : ∀ x ∈ xs, ∀ r, one (f x ++ r) = (x, ((f x).length : Int), 0)) (h1 : ∀ x ∈ xs, 1 ≤ (f x).length) (hn : (xs.length : Int) ≤ 9223372036854775807) :
    decList one (encInt (xs.length : Int) ++ xs.flatMap f ++ r) = (xs, ((encInt (xs.length : Int) ++ xs.flatMap f).length : Int), 0) := by
  unfold decList
  rw [List.append_assoc, cntI_enc xs.length 1 _ hn (Nat.le_refl _) (by rw [List.length_append]; have := flat_len f xs h1; omega)]
  simp only [ne_eq, not_true_eq_false, if_false, Int.toNat_natCast, List.drop_left]
  rw [decMany_enc one f r xs hx]
  simp [List.length_append]
theorem cutD_flat (r : List Int) : ∀ (ds : List (List Int)), (∀ d ∈ ds, d.length = 16) → cutD (ds.flatMap (fun d => d) ++ r) ds.length = ds
  | [], _ => rfl
  | d :: ds, h => by
    have hd := h d (List.mem_cons_self ..)
    have ih := cutD_flat r ds (fun x hx => h x (List.mem_cons_of_mem _ hx))
    unfold cutD at ih ⊢
    rw [List.length_cons, List.range_succ_eq_map, List.map_cons, List.map_map, List.flatMap_cons, List.append_assoc]
    congr 1
    · rw [Nat.mul_zero, List.drop_zero, List.take_append_of_le_length (by omega), List.take_of_length_le (by omega)]
    · conv => rhs; rw [← ih]
      refine List.map_congr_left fun i _ => ?_
      simp only [Function.comp]
      rw [show 16 * (i + 1) = d.length + 16 * i by omega, List.drop_length_add_append]
theorem decD_enc (ds : List (List Int)) (r : List Int) (h : ∀ d ∈ ds, d.length = 16) (hn : (ds.length : Int) ≤ 9223372036854775807) :
    decD (encInt (ds.length : Int) ++ ds.flatMap (fun d => d) ++ r) = (ds, ((encInt (ds.length : Int)).length : Int) + 16 * ds.length, 0) := by
  have hl : (ds.flatMap (fun d => d)).length = ds.length * 16 := by
    clear hn
    induction ds with
    | nil => rfl
    | cons d ds ih =>
      rw [List.flatMap_cons, List.length_append, ih (fun x hx => h x (List.mem_cons_of_mem _ hx)), h d (List.mem_cons_self ..), List.length_cons]
      omega
  unfold decD
  rw [List.append_assoc, cntI_enc ds.length 16 _ hn (by decide) (by rw [List.length_append, hl]; omega)]
  simp only [ne_eq, not_true_eq_false, if_false, Int.toNat_natCast, List.drop_left]
  rw [cutD_flat r ds h]
end Go.Proofs.Ytkgmoklifkojhaa
