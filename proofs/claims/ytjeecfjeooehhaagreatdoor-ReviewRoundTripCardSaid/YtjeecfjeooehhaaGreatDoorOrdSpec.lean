/- The order of the encodings of integers, in plain lists and as strings. No condition. -/
import Derived.Test.YtjeecfjeooehhaaGreatDoorGA
set_option linter.unusedSimpArgs false
set_option linter.unusedVariables false
namespace Go.Proofs.YtjeecfjeooehhaaGreatDoor
open Go.RowKit
theorem encInt_inj {m n : Int} (h0 : -9223372036854775808 ≤ m) (h1 : m ≤ 9223372036854775807) (h2 : -9223372036854775808 ≤ n) (h3 : n ≤ 9223372036854775807) (h : encInt m = encInt n) : m = n := by
  have a := getI_enc m [] h0 h1
  have b := getI_enc n [] h2 h3
  rw [h, b] at a
  simp only [Prod.mk.injEq] at a
  exact a.1.symm
/-- Less, byte by byte. -/
def lexI : List Int → List Int → Bool
  | _, [] => false
  | [], _ :: _ => true
  | a :: x, b :: y => decide (a < b) || (decide (a = b) && lexI x y)
/-- The number that bytes make, the first one the greatest. -/
def numL : List Int → Int
  | [] => 0
  | a :: x => a * 256 ^ x.length + numL x
theorem numL_bd : ∀ (l : List Int), Byt l → 0 ≤ numL l ∧ numL l < 256 ^ l.length
  | [], _ => by simp [numL]
  | a :: x, h => by
    have ih := numL_bd x (fun y hy => h y (List.mem_cons_of_mem _ hy))
    have ha := h a (List.mem_cons_self ..)
    have hp : (0 : Int) < 256 ^ x.length := Int.pow_pos (by decide)
    have e : (256 : Int) ^ (x.length + 1) = 256 ^ x.length * 256 := Int.pow_succ ..
    rw [numL, List.length_cons, e]
    generalize (256 : Int) ^ x.length = p at *
    have h1 : 0 ≤ a * p := Int.mul_nonneg ha.1 (by omega)
    have h2 : a * p ≤ 255 * p := Int.mul_le_mul_of_nonneg_right ha.2 (by omega)
    omega
theorem lexI_num : ∀ (x y : List Int), Byt x → Byt y → x.length = y.length → lexI x y = decide (numL x < numL y)
  | [], [], _, _, _ => by simp [lexI, numL]
  | [], _ :: _, _, _, h => by simp at h
  | _ :: _, [], _, _, h => by simp at h
  | a :: x, b :: y, hx, hy, h => by
    have hl : x.length = y.length := by simpa using h
    have hx' : Byt x := fun z hz => hx z (List.mem_cons_of_mem _ hz)
    have hy' : Byt y := fun z hz => hy z (List.mem_cons_of_mem _ hz)
    have ih := lexI_num x y hx' hy' hl
    have bx := numL_bd x hx'
    have bw := numL_bd y hy'
    rw [lexI, ih, numL, numL, ← hl]
    rw [← hl] at bw
    have hp : (0 : Int) < 256 ^ x.length := Int.pow_pos (by decide)
    generalize (256 : Int) ^ x.length = p at *
    rcases Int.lt_trichotomy a b with hab | hab | hab
    · have : (a + 1) * p ≤ b * p := Int.mul_le_mul_of_nonneg_right (by omega) (by omega)
      rw [Int.add_mul, Int.one_mul] at this
      rw [decide_eq_true hab, Bool.true_or, decide_eq_true]; omega
    · subst hab
      simp
    · have : (b + 1) * p ≤ a * p := Int.mul_le_mul_of_nonneg_right (by omega) (by omega)
      rw [Int.add_mul, Int.one_mul] at this
      rw [decide_eq_false (show ¬ a < b by omega), decide_eq_false (show ¬ a = b by omega), Bool.false_and, Bool.false_or, eq_comm, decide_eq_false]; omega
theorem tailTo_cons (n : Int) (k : Nat) : tailTo n (k + 1) (k + 1) = flipB n (digit (mag n) k) :: tailTo n k k := by
  unfold tailTo
  rw [List.range_succ_eq_map, List.map_cons, List.map_map]
  congr 1
  refine List.map_congr_left fun i _ => ?_
  simp only [Function.comp]
  rw [show k + 1 - 1 - (i + 1) = k - 1 - i by omega]
theorem numL_tail (n : Int) : ∀ k, numL (tailTo n k k) = if n < 0 then ((256 ^ k : Nat) : Int) - 1 - ((mag n % 256 ^ k : Nat) : Int) else ((mag n % 256 ^ k : Nat) : Int)
  | 0 => by simp [tailTo, numL, Nat.mod_one]
  | k + 1 => by
    rw [tailTo_cons, numL, tailTo_length, numL_tail n k, Nat.mod_pow_succ, Nat.pow_succ]
    have e : (256 : Int) ^ k = ((256 ^ k : Nat) : Int) := by simp
    rw [e]
    unfold flipB digit
    generalize 256 ^ k = p
    generalize mag n / p % 256 = d
    generalize mag n % p = r
    by_cases hn : n < 0
    · simp only [hn, if_true, Int.natCast_add, Int.natCast_mul, Int.sub_mul]
      have : (d : Int) * p = p * d := Int.mul_comm ..
      omega
    · simp only [hn, if_false, Int.natCast_add, Int.natCast_mul]
      have : (d : Int) * p = p * d := Int.mul_comm ..
      omega
theorem blen_mono {a b : Nat} (ha : a < 256 ^ 9) (hb : b < 256 ^ 9) (h : blen a < blen b) : a < b := by
  have h1 := (blen_spec a ha).1
  rcases (blen_spec b hb).2 with h2 | h2
  · omega
  · have h3 : 256 ^ blen a ≤ 256 ^ (blen b - 1) := Nat.pow_le_pow_right (by decide) (by omega)
    omega
/-- THE ORDER of the encodings is that of the integers. -/
theorem lex_enc (m n : Int) (h0 : -9223372036854775808 ≤ m) (h1 : m ≤ 9223372036854775807) (h2 : -9223372036854775808 ≤ n) (h3 : n ≤ 9223372036854775807) : lexI (encInt m) (encInt n) = decide (m < n) := by
  have lm := blen_le (mag m) (mag_lt8 m h0 h1)
  have ln := blen_le (mag n) (mag_lt8 n h2 h3)
  have gm : mag m < 256 ^ 9 := Nat.lt_trans (mag_lt8 m h0 h1) (by decide)
  have gn : mag n < 256 ^ 9 := Nat.lt_trans (mag_lt8 n h2 h3) (by decide)
  have mo := @blen_mono _ _ gm gn
  have om := @blen_mono _ _ gn gm
  have bm := encInt_byt m h0 h1
  have bn := encInt_byt n h2 h3
  have mm : mag m = if m < 0 then (-1 - m).toNat else m.toNat := rfl
  have mn : mag n = if n < 0 then (-1 - n).toNat else n.toNat := rfl
  have hm : headB m = if m < 0 then 127 - (blen (mag m) : Int) else 128 + blen (mag m) := by unfold headB flipB; split <;> omega
  have hn : headB n = if n < 0 then 127 - (blen (mag n) : Int) else 128 + blen (mag n) := by unfold headB flipB; split <;> omega
  unfold encInt at bm bn ⊢
  rw [lexI]
  rcases Int.lt_trichotomy (headB m) (headB n) with hab | hab | hab
  · rw [decide_eq_true hab, Bool.true_or, eq_comm, decide_eq_true]
    rw [hm, hn] at hab
    split at hab <;> split at hab <;> rename_i a b <;> simp only [a, b, if_true, if_false] at mm mn <;> omega
  · have hk : blen (mag m) = blen (mag n) ∧ (m < 0 ↔ n < 0) := by
      rw [hm, hn] at hab
      split at hab <;> split at hab <;> exact ⟨by omega, by omega⟩
    obtain ⟨hk, hs⟩ := hk
    rw [decide_eq_false (show ¬ headB m < headB n by omega), decide_eq_true hab, Bool.false_or, Bool.true_and, lexI_num _ _ (fun z hz => bm z (List.mem_cons_of_mem _ hz)) (fun z hz => bn z (List.mem_cons_of_mem _ hz)) (by rw [tailTo_length, tailTo_length, hk]),
      numL_tail, numL_tail, Nat.mod_eq_of_lt (blen_spec _ gm).1, Nat.mod_eq_of_lt (blen_spec _ gn).1, hk]
    congr 1
    generalize 256 ^ blen (mag n) = p
    by_cases hn0 : n < 0
    · have hm0 := hs.2 hn0
      simp only [hn0, hm0, if_true] at mm mn ⊢
      rw [eq_iff_iff]
      omega
    · have hm0 : ¬ m < 0 := fun h => hn0 (hs.1 h)
      simp only [hn0, hm0, if_false] at mm mn ⊢
      rw [eq_iff_iff]
      omega
  · rw [decide_eq_false (show ¬ headB m < headB n by omega), decide_eq_false (show ¬ headB m = headB n by omega), Bool.false_and, Bool.false_or, eq_comm, decide_eq_false]
    rw [hm, hn] at hab
    split at hab <;> split at hab <;> rename_i a b <;> simp only [a, b, if_true, if_false] at mm mn <;> omega
theorem lex_bytes : ∀ (x y : List UInt8), Op.bytesLess x y = lexI (x.map fun b => (b.toNat : Int)) (y.map fun b => (b.toNat : Int))
  | [], [] => rfl
  | _ :: _, [] => rfl
  | [], _ :: _ => rfl
  | a :: x, b :: y => by
    rw [Op.bytesLess, List.map_cons, List.map_cons, lexI, lex_bytes x y]
    congr 1
    · rw [decide_eq_decide, UInt8.lt_iff_toNat_lt]; omega
    · congr 1
      rw [Bool.eq_iff_iff]
      simp only [beq_iff_eq, decide_eq_true_eq]
      constructor
      · rintro rfl; rfl
      · intro h; exact UInt8.toNat_inj.1 (by omega)
theorem less_str (x y : List Int) (hx : Byt x) (hy : Byt y) : Op.bytesLess (strOf x).toList (strOf y).toList = lexI x y := by
  rw [ByteArray.toList_eq, ByteArray.toList_eq, lex_bytes]
  have a := bys_strOf x hx
  have b := bys_strOf y hy
  unfold bys at a b
  rw [a, b]
theorem eqs_str (x y : List Int) (hx : Byt x) (hy : Byt y) : ((strOf x).toList == (strOf y).toList) = decide (x = y) := by
  rw [ByteArray.toList_eq, ByteArray.toList_eq, Bool.eq_iff_iff]
  simp only [beq_iff_eq, decide_eq_true_eq]
  constructor
  · intro h
    have a := bys_strOf x hx
    have b := bys_strOf y hy
    unfold bys at a b
    rw [← a, ← b, h]
  · rintro rfl; rfl
theorem cut_str (x : List Int) (hx : Byt x) (k : Nat) : (strOf x).extract 0 k = strOf (x.take k) := by
  refine bys_inj ?_
  rw [bys_extract, bys_strOf _ hx, bys_strOf _ (hx.take k)]
  simp
/-- Neither encoding is a proper prefix of the other one. -/
theorem prefix_enc (m n : Int) (h0 : -9223372036854775808 ≤ m) (h1 : m ≤ 9223372036854775807) (h2 : -9223372036854775808 ≤ n) (h3 : n ≤ 9223372036854775807) (k : Nat) (hk : k = min (encInt m).length (encInt n).length) : decide ((encInt m).take k = (encInt n).take k) = decide (m = n) := by
  rw [decide_eq_decide]
  constructor
  · intro h
    have a := getI_enc m
    have key : ∀ x y : Int, -9223372036854775808 ≤ x → x ≤ 9223372036854775807 → -9223372036854775808 ≤ y → y ≤ 9223372036854775807 → (encInt x).length ≤ (encInt y).length → encInt x = (encInt y).take (encInt x).length → x = y := by
      intro x y a b c d hl he
      have e1 := getI_enc x ((encInt y).drop (encInt x).length) a b
      have e2 := getI_enc y [] c d
      have e3 : encInt x ++ (encInt y).drop (encInt x).length = encInt y := by
        conv => lhs; lhs; rw [he]
        exact List.take_append_drop ..
      rw [e3] at e1
      rw [List.append_nil, e1] at e2
      simp only [Prod.mk.injEq] at e2
      exact e2.1
    rcases Nat.le_total (encInt m).length (encInt n).length with hl | hl
    · rw [Nat.min_eq_left hl] at hk
      rw [hk, List.take_length] at h
      exact key m n h0 h1 h2 h3 hl h
    · rw [Nat.min_eq_right hl] at hk
      rw [hk, List.take_length] at h
      exact (key n m h2 h3 h0 h1 hl h.symm).symm
  · rintro rfl; rfl
end Go.Proofs.YtjeecfjeooehhaaGreatDoor
