/- The encoding of an integer as a list of bytes. No condition. -/
import Derived.Test.YtkgmoklifkojhaaApp
namespace Go.Proofs.Ytkgmoklifkojhaa
open Go.RowKit
/-- How many bytes a number has. -/
def blenF : Nat → Nat → Nat
  | 0, _ => 0
  | f + 1, m => if m = 0 then 0 else blenF f (m / 256) + 1
def blen (m : Nat) : Nat := blenF 9 m
theorem blenF_spec : ∀ (f m : Nat), m < 256 ^ f → m < 256 ^ blenF f m ∧ (blenF f m = 0 ∨ 256 ^ (blenF f m - 1) ≤ m)
  | 0, m, h => ⟨h, Or.inl rfl⟩
  | f + 1, m, h => by
    unfold blenF
    by_cases h0 : m = 0
    · simp [h0]
    · rw [if_neg h0]
      have hd : m / 256 < 256 ^ f := by
        rw [Nat.div_lt_iff_lt_mul (by decide)]
        rw [Nat.pow_succ] at h
        exact h
      obtain ⟨h1, h2⟩ := blenF_spec f (m / 256) hd
      refine ⟨?_, Or.inr ?_⟩
      · rw [Nat.pow_succ]
        have := Nat.lt_mul_of_div_lt h1 (by decide)
        omega
      · rw [Nat.add_sub_cancel]
        rcases h2 with h2 | h2
        · rw [h2]; simp; omega
        · rcases Nat.eq_zero_or_pos (blenF f (m / 256)) with hz | hz
          · rw [hz]; simp; omega
          · obtain ⟨b, hb⟩ : ∃ b, blenF f (m / 256) = b + 1 := ⟨_, (Nat.sub_add_cancel hz).symm⟩
            rw [hb, Nat.add_sub_cancel] at h2
            rw [hb, Nat.pow_succ]
            have := Nat.mul_le_of_le_div 256 _ _ h2
            exact this
theorem blen_spec (m : Nat) (h : m < 256 ^ 9) : m < 256 ^ blen m ∧ (blen m = 0 ∨ 256 ^ (blen m - 1) ≤ m) := blenF_spec 9 m h
theorem blen_unique (m k : Nat) (h : m < 256 ^ 9) (h1 : m < 256 ^ k) (h2 : k = 0 ∨ 256 ^ (k - 1) ≤ m) : k = blen m := by
  obtain ⟨h3, h4⟩ := blen_spec m h
  rcases Nat.lt_trichotomy k (blen m) with hlt | he | hgt
  · rcases h4 with h4 | h4
    · omega
    · have : 256 ^ k ≤ 256 ^ (blen m - 1) := Nat.pow_le_pow_right (by decide) (by omega)
      omega
  · exact he
  · rcases h2 with h2 | h2
    · omega
    · have : 256 ^ blen m ≤ 256 ^ (k - 1) := Nat.pow_le_pow_right (by decide) (by omega)
      omega
theorem blen_le (m : Nat) (h : m < 256 ^ 8) : blen m ≤ 8 := by
  obtain ⟨_, h4⟩ := blen_spec m (Nat.lt_trans h (by decide))
  rcases h4 with h4 | h4
  · omega
  · rcases Nat.lt_or_ge 8 (blen m) with hh | hh
    · have : 256 ^ 8 ≤ 256 ^ (blen m - 1) := Nat.pow_le_pow_right (by decide) (by omega)
      omega
    · exact hh
/-- What is encoded of an integer. -/
def mag (n : Int) : Nat := if n < 0 then (-1 - n).toNat else n.toNat
theorem mag_lt (n : Int) (h0 : -9223372036854775808 ≤ n) (h1 : n ≤ 9223372036854775807) : mag n < 9223372036854775808 := by unfold mag; split <;> omega
theorem mag_lt8 (n : Int) (h0 : -9223372036854775808 ≤ n) (h1 : n ≤ 9223372036854775807) : mag n < 256 ^ 8 := Nat.lt_trans (mag_lt n h0 h1) (by decide)
def flipB (n x : Int) : Int := if n < 0 then 255 - x else x
def flipV (n : Int) : Int := if n < 0 then 255 else 0
def digit (m i : Nat) : Int := ((m / 256 ^ i % 256 : Nat) : Int)
def headB (n : Int) : Int := flipB n (128 + (blen (mag n) : Int))
/-- The first j bytes behind the first one, of k. -/
def tailTo (n : Int) (k j : Nat) : List Int := (List.range j).map fun i => flipB n (digit (mag n) (k - 1 - i))
def encInt (n : Int) : List Int := headB n :: tailTo n (blen (mag n)) (blen (mag n))
theorem tailTo_length (n : Int) (k j : Nat) : (tailTo n k j).length = j := by simp [tailTo]
theorem encInt_length (n : Int) : (encInt n).length = blen (mag n) + 1 := by simp [encInt, tailTo_length]
theorem tailTo_succ (n : Int) (k j : Nat) : tailTo n k (j + 1) = tailTo n k j ++ [flipB n (digit (mag n) (k - 1 - j))] := by
  simp [tailTo, List.range_succ]
theorem flipB_byt (n x : Int) (h0 : 0 ≤ x) (h1 : x ≤ 255) : 0 ≤ flipB n x ∧ flipB n x ≤ 255 := by unfold flipB; split <;> omega
theorem digit_bd (m i : Nat) : 0 ≤ digit m i ∧ digit m i ≤ 255 := by
  unfold digit
  have := Nat.mod_lt (m / 256 ^ i) (show 0 < 256 by decide)
  omega
theorem encInt_byt (n : Int) (h0 : -9223372036854775808 ≤ n) (h1 : n ≤ 9223372036854775807) : Byt (encInt n) := by
  intro x hx
  rcases List.mem_cons.1 hx with rfl | hx
  · have := blen_le (mag n) (mag_lt8 n h0 h1)
    exact flipB_byt n _ (by omega) (by omega)
  · obtain ⟨i, _, rfl⟩ := List.mem_map.1 hx
    exact flipB_byt n _ (digit_bd _ _).1 (digit_bd _ _).2
/-- Exclusive or with the flip. -/
theorem xor_flip (n x : Int) (h0 : 0 ≤ x) (h1 : x ≤ 255) : bits .xor .u8 x (flipV n) = flipB n x := by
  obtain ⟨a, rfl⟩ := Int.eq_ofNat_of_zero_le h0
  have ha : a < 256 := by omega
  unfold flipV flipB
  split
  · have := (by decide +kernel : ∀ a : Fin 256, bits .xor .u8 (a.val : Int) 255 = 255 - (a.val : Int)) ⟨a, ha⟩
    exact this
  · have := (by decide +kernel : ∀ a : Fin 256, bits .xor .u8 (a.val : Int) 0 = (a.val : Int)) ⟨a, ha⟩
    exact this
/-- '^uint64(n)' of a negative n. -/
theorem not_u64 (n : Int) (h0 : -9223372036854775808 ≤ n) (h : n < 0) : bits .xor .u64 IntKind.u64.max (IntKind.u64.wrap n) = (mag n : Int) := by
  have hw : IntKind.u64.wrap n = n + 18446744073709551616 := by
    simp [IntKind.wrap, IntKind.bits, IntKind.signed]; omega
  rw [hw]
  obtain ⟨a, ha⟩ := Int.eq_ofNat_of_zero_le (show 0 ≤ n + 18446744073709551616 by omega)
  rw [ha]
  show IntKind.u64.wrap ((BitVec.ofInt 64 IntKind.u64.max ^^^ BitVec.ofInt 64 (a : Int)).toNat : Int) = _
  have hm : BitVec.ofInt 64 IntKind.u64.max = BitVec.allOnes 64 := by decide
  have hx : (BitVec.ofInt 64 (a : Int)).toNat = a := ofInt_u64 a (by omega)
  rw [hm, ← BitVec.not_def, BitVec.toNat_not, hx]
  rw [IntWalk.u64_in _ (by omega)]
  unfold mag
  rw [if_pos h]
  omega
theorem pow_cast (i : Nat) : (2 : Int) ^ (8 * i) = ((256 ^ i : Nat) : Int) := by
  have : (2 : Nat) ^ (8 * i) = 256 ^ i := by rw [Nat.pow_mul]
  rw [← this]
  simp
theorem shr_cast (m i : Nat) : (m : Int) / 2 ^ (8 * i) = ((m / 256 ^ i : Nat) : Int) := by
  rw [pow_cast]
  rfl
theorem shr_digit (m i : Nat) : ((m : Int) / 2 ^ (8 * i)) % 256 = digit m i := by
  unfold digit
  rw [shr_cast]
  rfl
end Go.Proofs.Ytkgmoklifkojhaa
