/- Decoding an integer, in plain lists: the bytes that are accepted are the encoding of what is answered. No condition. -/
import Derived.Test.YtkgmoklifkojhaaDecSpec
namespace Go.Proofs.Ytkgmoklifkojhaa
open Go.RowKit
theorem flB_flB (neg : Bool) (x : Int) : flB neg (flB neg x) = x := by unfold flB; cases neg <;> simp; omega
theorem numB_neg (l : List Int) : (numB l < 0) ↔ ngB l = true := by
  unfold numB
  cases ngB l <;> simp <;> omega
theorem mag_numB (l : List Int) : mag (numB l) = valB l (cntB l) := by
  unfold mag
  by_cases h : ngB l = true
  · rw [if_pos ((numB_neg l).2 h)]; unfold numB; rw [h]; simp; omega
  · rw [if_neg (fun hh => h ((numB_neg l).1 hh))]; unfold numB; rw [if_neg h]; omega
theorem flipB_numB (l : List Int) (x : Int) : flipB (numB l) x = flB (ngB l) x := by
  unfold flipB flB
  by_cases h : ngB l = true
  · rw [if_pos ((numB_neg l).2 h), if_pos h]
  · rw [if_neg (fun hh => h ((numB_neg l).1 hh)), if_neg h]
theorem numB_bd (l : List Int) (h : valB l (cntB l) < 9223372036854775808) : -9223372036854775808 ≤ numB l ∧ numB l ≤ 9223372036854775807 := by
  unfold numB; split <;> omega
/-- The first digit's weight. -/
theorem valB_ge (l : List Int) (d : Nat) (hd : d = (flB (ngB l) (l.getD 1 0)).toNat) : ∀ j, d * 256 ^ j ≤ valB l (j + 1)
  | 0 => by unfold valB; simp [valB, hd]
  | j + 1 => by
    have ih := valB_ge l d hd j
    rw [valB, Nat.pow_succ, ← Nat.mul_assoc]
    omega
theorem valB_lt0 (l : List Int) (hb : Byt l) (hd : flB (ngB l) (l.getD 1 0) = 0) : ∀ j, valB l (j + 1) < 256 ^ j
  | 0 => by
    show 256 * valB l 0 + (flB (ngB l) (l.getD 1 0)).toNat < 1
    rw [hd]; simp [valB]
  | j + 1 => by
    have ih := valB_lt0 l hb hd j
    have hbj := hb.at_ (j + 1 + 1)
    have := flB_bd (ngB l) _ hbj.1 hbj.2
    rw [valB, Nat.pow_succ]
    omega
theorem valB_mono (l : List Int) (j : Nat) : ∀ k, 0 < valB l j → valB l j * 256 ^ k ≤ valB l (j + k)
  | 0, _ => by simp
  | k + 1, h => by
    have ih := valB_mono l j k h
    rw [← Nat.add_assoc, valB, Nat.pow_succ, ← Nat.mul_assoc]
    omega
theorem valB_digit (l : List Int) (hb : Byt l) : ∀ (K i : Nat), i < K → valB l K / 256 ^ (K - 1 - i) % 256 = (flB (ngB l) (l.getD (i + 1) 0)).toNat
  | 0, i, h => by omega
  | K + 1, i, h => by
    have hbj := hb.at_ (K + 1)
    have hf := flB_bd (ngB l) _ hbj.1 hbj.2
    by_cases hi : i = K
    · subst hi
      rw [show i + 1 - 1 - i = 0 by omega, Nat.pow_zero, Nat.div_one, valB]
      omega
    · have ih := valB_digit l hb K i (by omega)
      rw [show K + 1 - 1 - i = (K - 1 - i) + 1 by omega, Nat.pow_succ, Nat.mul_comm, ← Nat.div_div_eq_div_mul, valB]
      rw [show (256 * valB l K + (flB (ngB l) (l.getD (K + 1) 0)).toNat) / 256 = valB l K by omega]
      exact ih
theorem blen_valB (l : List Int) (hb : Byt l) (h8 : cntB l ≤ 8) (hd : ¬ (0 < cntB l ∧ flB (ngB l) (l.getD 1 0) = 0)) : blen (valB l (cntB l)) = cntB l := by
  have hlt := valB_lt l hb (cntB l)
  refine (blen_unique _ _ (Nat.lt_of_lt_of_le hlt (Nat.pow_le_pow_right (by decide) (by omega))) hlt ?_).symm
  rcases Nat.eq_zero_or_pos (cntB l) with h0 | h0
  · exact Or.inl h0
  · right
    obtain ⟨j, hj⟩ : ∃ j, cntB l = j + 1 := ⟨cntB l - 1, by omega⟩
    have hge := valB_ge l _ rfl j
    have hb1 := hb.at_ 1
    have hf := flB_bd (ngB l) _ hb1.1 hb1.2
    have hne : flB (ngB l) (l.getD 1 0) ≠ 0 := fun h => hd ⟨h0, h⟩
    rw [hj, Nat.add_sub_cancel]
    refine Nat.le_trans ?_ hge
    have : 1 ≤ (flB (ngB l) (l.getD 1 0)).toNat := by omega
    exact Nat.le_mul_of_pos_left _ this
theorem enc_take (l : List Int) (hb : Byt l) (h8 : cntB l ≤ 8) (hn : cntB l < l.length) (hd : ¬ (0 < cntB l ∧ flB (ngB l) (l.getD 1 0) = 0)) : encInt (numB l) = l.take (cntB l + 1) := by
  have hbl := blen_valB l hb h8 hd
  unfold encInt
  rw [mag_numB, hbl]
  refine List.ext_getElem? fun i => ?_
  rw [List.getElem?_take]
  by_cases hi : i < cntB l + 1
  · rw [if_pos hi, List.getElem?_eq_getElem (show i < l.length by omega)]
    cases i with
    | zero =>
      rw [List.getElem?_cons_zero]
      unfold headB
      rw [mag_numB, hbl, flipB_numB, ← (head_flB l hb).1, flB_flB, List.getD_eq_getElem?_getD, List.getElem?_eq_getElem (show 0 < l.length by omega)]
      rfl
    | succ i =>
      rw [List.getElem?_cons_succ]
      unfold tailTo
      rw [List.getElem?_map, List.getElem?_range (show i < cntB l by omega), Option.map_some, flipB_numB, mag_numB]
      unfold digit
      have hbi := hb.at_ (i + 1)
      have hf := flB_bd (ngB l) _ hbi.1 hbi.2
      rw [valB_digit l hb (cntB l) i (by omega), Int.toNat_of_nonneg hf.1, flB_flB, List.getD_eq_getElem?_getD, List.getElem?_eq_getElem (show i + 1 < l.length by omega)]
      rfl
  · rw [if_neg hi, List.getElem?_eq_none]
    rw [List.length_cons, tailTo_length]
    omega
theorem enc_not_take (l : List Int) (hb : Byt l) (hn : cntB l < l.length) (hd : 0 < cntB l ∧ flB (ngB l) (l.getD 1 0) = 0) : encInt (numB l) ≠ l.take (cntB l + 1) := by
  intro h
  have h2 := congrArg List.length h
  rw [encInt_length, List.length_take, mag_numB] at h2
  obtain ⟨j, hj⟩ : ∃ j, cntB l = j + 1 := ⟨cntB l - 1, by omega⟩
  have hlt := valB_lt0 l hb hd.2 j
  rw [← hj] at hlt
  by_cases h9 : valB l (cntB l) < 256 ^ 9
  · have hs := blen_spec _ h9
    rcases hs.2 with h0 | h0
    · omega
    · have h3 : 256 ^ (blen (valB l (cntB l)) - 1) < 256 ^ j := Nat.lt_of_le_of_lt h0 hlt
      have h4 := (Nat.pow_lt_pow_iff_right (by decide : 1 < 256)).1 h3
      omega
  · have : blen (valB l (cntB l)) ≤ 9 := by
      unfold blen
      have hbl : ∀ (f m : Nat), blenF f m ≤ f := by
        intro f
        induction f with
        | zero => intro m; simp [blenF]
        | succ f ih => intro m; unfold blenF; split; omega; have := ih (m / 256); omega
      exact hbl 9 _
    have h5 : 256 ^ 9 < 256 ^ j := by omega
    have h6 := (Nat.pow_lt_pow_iff_right (by decide : 1 < 256)).1 h5
    omega
/-- Too great a number on the way is too great at the end. -/
theorem getI_big (l : List Int) (j : Nat) (h0 : l.length ≠ 0) (h8 : ¬ 8 < cntB l) (hn : ¬ l.length ≤ cntB l) (hj : j < cntB l) (hv : 36028797018963967 < valB l j) : getI l = (0, 0, 2) := by
  have hm := valB_mono l j (cntB l - j) (by omega)
  rw [show j + (cntB l - j) = cntB l by omega] at hm
  have h1 : 256 ^ 1 ≤ 256 ^ (cntB l - j) := Nat.pow_le_pow_right (by decide) (by omega)
  have h2 : valB l j * 256 ^ 1 ≤ valB l j * 256 ^ (cntB l - j) := Nat.mul_le_mul_left _ h1
  unfold getI
  rw [if_neg h0, if_neg h8, if_neg hn]
  split
  · rfl
  · rw [if_pos (by omega)]
end Go.Proofs.Ytkgmoklifkojhaa
