/- Decoding an integer, in plain lists: what GetInt answers. No condition. -/
import Derived.Test.YtkgmoklifkojhaaWireSpec
import Derived.Test.YtkgmoklifkojhaaExt
namespace Go.Proofs.Ytkgmoklifkojhaa
open Go.RowKit
def flB (neg : Bool) (x : Int) : Int := if neg then 255 - x else x
/-- Does the first byte say that the number is negative? -/
def ngB (l : List Int) : Bool := decide (l.getD 0 0 < 128)
/-- How many bytes the first one announces. -/
def cntB (l : List Int) : Nat := (flB (ngB l) (l.getD 0 0) - 128).toNat
/-- The number that the j bytes behind the first one make. -/
def valB (l : List Int) : Nat → Nat
  | 0 => 0
  | j + 1 => 256 * valB l j + (flB (ngB l) (l.getD (j + 1) 0)).toNat
def numB (l : List Int) : Int := if ngB l then -1 - (valB l (cntB l) : Int) else (valB l (cntB l) : Int)
/-- The number, how many bytes it took, the error (0: none, 2: form, 3: more bytes are wanted). -/
def getI (l : List Int) : Int × Int × Int :=
  if l.length = 0 then (0, 0, 3)
  else if 8 < cntB l then (0, 0, 2)
  else if l.length ≤ cntB l then (0, 0, 3)
  else if 0 < cntB l ∧ flB (ngB l) (l.getD 1 0) = 0 then (0, 0, 2)
  else if 9223372036854775808 ≤ valB l (cntB l) then (0, 0, 2)
  else (numB l, (cntB l : Int) + 1, 0)
theorem flB_bd (neg : Bool) (x : Int) (h0 : 0 ≤ x) (h1 : x ≤ 255) : 0 ≤ flB neg x ∧ flB neg x ≤ 255 := by unfold flB; split <;> omega
theorem valB_lt (l : List Int) (h : Byt l) : ∀ j, valB l j < 256 ^ j
  | 0 => by simp [valB]
  | j + 1 => by
    have ih := valB_lt l h j
    have hb := h.at_ (j + 1)
    have := flB_bd (ngB l) _ hb.1 hb.2
    unfold valB
    rw [Nat.pow_succ]
    omega
theorem head_flB (l : List Int) (h : Byt l) : flB (ngB l) (l.getD 0 0) = 128 + (cntB l : Int) ∧ cntB l ≤ 127 := by
  have hb := h.at_ 0
  unfold cntB flB ngB
  by_cases hx : l.getD 0 0 < 128
  · simp only [hx, decide_true, if_true]; omega
  · simp only [hx, decide_false, Bool.false_eq_true, if_false]; omega
theorem xor_flB (l : List Int) (x : Int) (h0 : 0 ≤ x) (h1 : x ≤ 255) : bits .xor .u8 x (if ngB l then 255 else 0) = flB (ngB l) x := by
  have := xor_flip (if ngB l then -1 else 0) x h0 h1
  unfold flipV flipB at this
  unfold flB
  cases hn : ngB l <;> simpa [hn] using this
theorem u64_or_nat (a b : Nat) (ha : a < 18446744073709551616) (hb : b < 18446744073709551616) : bits .or .u64 (a : Int) (b : Int) = ((a ||| b : Nat) : Int) := by
  show IntKind.u64.wrap ((BitVec.ofInt 64 (a : Int) ||| BitVec.ofInt 64 (b : Int)).toNat : Int) = _
  rw [BitVec.toNat_or, ofInt_u64 a ha, ofInt_u64 b hb]
  have : a ||| b < 2 ^ 64 := Nat.or_lt_two_pow (by omega) (by omega)
  rw [IntWalk.u64_in _ (by omega)]
theorem or_join64 (a b : Nat) (ha : a < 72057594037927936) (hb : b ≤ 255) : bits .or .u64 (256 * (a : Int)) (b : Int) = ((256 * a + b : Nat) : Int) := by
  have e : (256 * (a : Int)) = ((256 * a : Nat) : Int) := by omega
  rw [e, u64_or_nat _ _ (by omega) (by omega)]
  congr 1
  have : 256 * a = a <<< 8 := by rw [Nat.shiftLeft_eq]; omega
  rw [this, ← Nat.shiftLeft_add_eq_or_of_lt (by omega : b < 2 ^ 8)]
theorem not_u64_nat (m : Nat) (h : m < 9223372036854775808) : wrap64 (bits .xor .u64 IntKind.u64.max (m : Int)) = -1 - (m : Int) := by
  have hm : BitVec.ofInt 64 IntKind.u64.max = BitVec.allOnes 64 := by decide
  have hx : (BitVec.ofInt 64 (m : Int)).toNat = m := ofInt_u64 m (by omega)
  have e : bits .xor .u64 IntKind.u64.max (m : Int) = 18446744073709551615 - (m : Int) := by
    show IntKind.u64.wrap ((BitVec.ofInt 64 IntKind.u64.max ^^^ BitVec.ofInt 64 (m : Int)).toNat : Int) = _
    rw [hm, ← BitVec.not_def, BitVec.toNat_not, hx]
    rw [IntWalk.u64_in _ (by omega)]
    omega
  rw [e]
  unfold wrap64
  omega
end Go.Proofs.Ytkgmoklifkojhaa
