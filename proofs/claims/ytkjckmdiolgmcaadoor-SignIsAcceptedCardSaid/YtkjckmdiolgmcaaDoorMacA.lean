/- The walks of the closure in hash.Mac and of the reference's padKey. No condition. -/
import Derived.Test.YtkjckmdiolgmcaaDoorHashF
set_option linter.unusedSimpArgs false
set_option linter.unusedVariables false
namespace Go.Proofs.YtkjckmdiolgmcaaDoor
open Go.RowKit
/-- A key laid out, combined with a byte. -/
def padX (k : List Int) (x : Int) : List Int := (List.range 64).map fun i => bits .xor .u8 (k.getD i 0) x
theorem padX_length (k : List Int) (x : Int) : (padX k x).length = 64 := by simp [padX]
theorem padX_get (k : List Int) (x : Int) (i : Nat) (h : i < 64) : (padX k x).getD i 0 = bits .xor .u8 (k.getD i 0) x := by
  simp [padX, List.getD_eq_getElem?_getD, h]
theorem xor_u8_bd (x y : Int) : 0 ≤ bits .xor .u8 x y ∧ bits .xor .u8 x y ≤ 255 := by
  have h : ∀ m : Nat, 0 ≤ IntKind.u8.wrap (m : Int) ∧ IntKind.u8.wrap (m : Int) ≤ 255 := fun m => by
    simp [IntKind.wrap, IntKind.bits, IntKind.signed]; omega
  exact h _
theorem padX_byt (k : List Int) (x : Int) : Byt (padX k x) := by
  intro y hy
  obtain ⟨i, _, rfl⟩ := List.mem_map.1 hy
  exact xor_u8_bd _ _
/-- The first t combined, the others as they were (zeros behind the key). -/
def padTo (k : List Int) (x : Int) (t : Nat) : List Int := (padX k x).take t ++ ((List.range 64).map fun i => k.getD i 0).drop t
theorem padTo_length (k : List Int) (x : Int) (t : Nat) (h : t ≤ 64) : (padTo k x t).length = 64 := by simp [padTo, padX]; omega
theorem padTo_get (k : List Int) (x : Int) (t : Nat) (h : t < 64) : (padTo k x t).getD t 0 = k.getD t 0 := by
  unfold padTo
  rw [List.getD_eq_getElem?_getD, List.getElem?_append_right (by simp [padX_length]; exact Nat.min_le_left _ _)]
  simp [padX_length, Nat.min_eq_left (Nat.le_of_lt h), h]
theorem padTo_set (k : List Int) (x : Int) (t : Nat) (h : t < 64) : (u8s (padTo k x t)).set t (.int .u8 (bits .xor .u8 (k.getD t 0) x)) = u8s (padTo k x (t + 1)) := by
  unfold u8s
  rw [← List.map_set]
  congr 1
  refine List.ext_getElem? fun i => ?_
  have e := padX_get k x t h
  rw [List.getD_eq_getElem?_getD] at e
  rcases Nat.lt_trichotomy i t with hi | hi | hi
  · rw [List.getElem?_set_ne (by omega)]
    unfold padTo
    rw [List.getElem?_append_left (by simp [padX_length]; omega), List.getElem?_append_left (by simp [padX_length]; omega), List.getElem?_take_of_lt hi, List.getElem?_take_of_lt (by omega)]
  · subst hi
    rw [List.getElem?_set_self (by rw [padTo_length _ _ _ (by omega)]; exact h)]
    unfold padTo
    rw [List.getElem?_append_left (by simp [padX_length]; omega), List.getElem?_take_of_lt (by omega)]
    simp [padX, h]
  · rw [List.getElem?_set_ne (by omega)]
    unfold padTo
    rw [List.getElem?_append_right (by simp [padX_length]; omega), List.getElem?_append_right (by simp [padX_length]; omega)]
    simp only [List.length_take, padX_length, List.getElem?_drop]
    congr 1
    omega
theorem padTo_zero (k : List Int) (x : Int) (h : k.length ≤ 64) : laid (u8s (List.replicate 64 0)) 0 (u8s k) = u8s (padTo k x 0) := by
  unfold laid padTo u8s
  rw [List.take_zero, List.take_zero, List.nil_append, List.nil_append, List.drop_zero, Nat.zero_add, List.length_map, ← List.map_drop, ← List.map_append]
  congr 1
  refine List.ext_getElem? fun i => ?_
  rcases Nat.lt_or_ge i k.length with hi | hi
  · rw [List.getElem?_append_left hi]
    simp [List.getElem?_map, List.getElem?_range (show i < 64 by omega), List.getElem?_eq_getElem hi]
  · rw [List.getElem?_append_right hi]
    rw [List.getElem?_drop, show k.length + (i - k.length) = i by omega, List.getElem?_replicate]
    rcases Nat.lt_or_ge i 64 with h64 | h64
    · rw [if_pos h64]; simp [h64, List.getElem?_eq_none hi]
    · rw [if_neg (by omega)]; simp [h64]
theorem padTo_full (k : List Int) (x : Int) : padTo k x 64 = padX k x := by
  unfold padTo
  rw [List.take_of_length_le (by rw [padX_length]; omega), List.drop_of_length_le (by simp), List.append_nil]
theorem padX_take (k : List Int) (x : Int) (t : Nat) (h : t < 64) : u8s ((padX k x).take t) ++ [.int .u8 (bits .xor .u8 (k.getD t 0) x)] = u8s ((padX k x).take (t + 1)) := by
  have := take_u8s (padX k x) t (by rw [padX_length]; exact h)
  rwa [padX_get _ _ _ h] at this
theorem zero64_run (W : World) : (zeroValue 72).run Tryd.prog W = .ok (.agg (u8s (List.replicate 64 0)).toArray) W := by kernel_rfl
set_option maxHeartbeats 1000000 in
set_option maxRecDepth 100000 in
theorem mac1_any (key : ByteArray) (kb : Nat) (x : Int) (w : World) (hk : w.cell? ⟨kb, 0, none⟩ = some (.string key)) (hkb : kb < w.heap.size) (hlen : key.size ≤ 64) :
    Calls Tryd.prog 39 #[.int .u8 x, .pointer (some ⟨kb, 0, none⟩)] w fun e w' => e = .returned (.string (strOf (padX (bys key) x))) ∧ Below w.heap.size w w' := by
  have HP := Lib.hid (padTo_zero (bys key) x (by rw [bys_length]; exact hlen))
  go_enter Tryd.func39, Tryd.ntmps39
  go_upto_region 2 with (fail)
  obtain ⟨w0, hw0⟩ : ∃ w0, w0 = w.alloc (.cells (u8s (List.replicate 64 0)).toArray 72) := ⟨_, rfl⟩
  have hbl : Blk w0 w.heap.size 72 (u8s (List.replicate 64 0)) := by rw [hw0]; exact Blk.fresh _ _ _
  have hB0 : Below w.heap.size w w0 := by rw [hw0]; exact (Below.refl _ _).alloc (Nat.le_refl _) _
  have hz0 : w.heap.size < w0.heap.size := hbl.lt
  have hk0 := (hB0.cell (p := ⟨kb, 0, none⟩) hkb).trans hk
  change Code.wp _ _ _ _ (w.alloc (.cells (u8s (List.replicate 64 0)).toArray 72))
  rw [← hw0]
  clear hw0 hk
  have hmin : Nat.min key.size 64 = key.size := Nat.min_eq_left hlen
  have hcp := run_copy_str (P := Tryd.prog) w0.drew 43 9 3 5 w.heap.size 0 64 64 key (u8s (List.replicate 64 0)) 72 Tryd.underlying43 (by kernel_rfl) hbl.drew (by rw [hmin]; simpa [u8s] using hlen)
  rw [hmin, List.take_of_length_le (by rw [bys_length]; omega), HP.out] at hcp
  have hb1 : Blk (w0.drew.setRow w.heap.size (u8s (padTo (bys key) x 0)).toArray) w.heap.size 72 (u8s (padTo (bys key) x 0)) := hbl.drew.setRow _
  have hB1 : Below w.heap.size w (w0.drew.setRow w.heap.size (u8s (padTo (bys key) x 0)).toArray) := below_row hB0.drew (Nat.le_refl _) _
  generalize w0.drew.setRow w.heap.size (u8s (padTo (bys key) x 0)).toArray = w1 at *
  have HB1 := Lib.hid hb1; have HBB := Lib.hid hB1
  clear hmin hbl hB0 hb1 hB1
  have HSZ := Lib.hid hlen
  go_region_law (fail)
  go_wp2_with fail
  go_loopw [9] (fun i wr => ∃ t : Nat, t ≤ 64 ∧ i = .int .i64 t ∧ Blk wr w.heap.size 72 (u8s (padTo (bys key) x t)) ∧ Below w.heap.size w wr) (fun i _ => 64 - (intOf i).toNat)
  case atStart => exact ⟨0, by omega, rfl, HB1.out, HBB.out⟩
  case round =>
    clear hcp
    obtain ⟨t, ht, rfl, hb, hB⟩ := hrel
    have hz := hb.lt
    have HB := Lib.hid hb
    by_cases hlt : t < 64
    · have c0 := (hb.cell t).trans (u8s_get _ t (by rw [padTo_length _ _ _ ht]; exact hlt))
      rw [padTo_get _ _ _ hlt] at c0
      have fz := hb.frozen t
      have HS := Lib.hid (padTo_set (bys key) x t hlt)
      clear hb
      generalize (bys key).getD t 0 = y at *
      go_wp2_with fail
      go_roundw
      case rel =>
        refine ⟨t + 1, by omega, by go_num, ?_, hB.setCell (by simp) _⟩
        rw [← HS.out]
        exact HB.out.set t _
      case measure => simp [intOf]; omega
    · obtain rfl : t = 64 := by omega
      rw [padTo_full] at hb
      have hr : Rd wr wr.heap.size (some ⟨w.heap.size, 0, none⟩) 64 (u8s (padX (bys key) x)) := ⟨by rw [u8s_length, padX_length], fun _ => ⟨w.heap.size, 0, rfl, hz, fun j u hu => by rw [hb.cell, Nat.zero_add]; exact hu⟩⟩
      have hcv := run_toStr (P := Tryd.prog) Tryd.underlying43 Tryd.underlying5 Tryd.underlying9 hr 64 (fun h => by omega)
      clear hr hb
      go_wp2_with fail
      go_ret
      exact ⟨rfl, hB⟩
end Go.Proofs.YtkjckmdiolgmcaaDoor
