/- The walks of wire.Int and the reference's Int: both hand back encInt. No condition. -/
import Derived.Test.YtkgmoklifkojhaaProg
import Derived.Test.YtkgmoklifkojhaaWireSpec
import Derived.Deep.DeepCutAuto
import Derived.Deep.CutBlock
namespace Go.Proofs.Ytkgmoklifkojhaa
open Go.RowKit
theorem winfo_u8 : (Try.prog.info? 5).map (fun i => (i.zero, i.size, i.bytes)) = some (some (.int .u8 0), 1, 1) := by kernel_rfl
theorem wone_u8 (x : Int) : ∀ u ∈ [Value.int .u8 x], u.oneCell' = true := u8s_one [x]
set_option maxHeartbeats 800000 in
set_option maxRecDepth 100000 in
theorem wint_any (n : Int) (w : World) (h0 : -9223372036854775808 ≤ n) (h1 : n ≤ 9223372036854775807) :
    Calls Try.prog 43 #[.int .i64 n] w fun e w' => (∃ A c, e = .returned (.slice A (blen (mag n) + 1) c) ∧ w'.ownsRow w.heap.size 5 1 (.slice A (blen (mag n) + 1) c) (blen (mag n) + 1) (u8s (encInt n))) ∧ Below w.heap.size w w' := by
  obtain ⟨i0, hi, hz0, hz1, hz2⟩ := info_parts winfo_u8
  go_enter Try.func43, Try.ntmps43
  go_wp2_with fail
  go_step3
  go_upto_if 11 with (fail)
  go_cut [3, 4] (fun s3 s4 wx => s3 = .int .u64 (mag n : Int) ∧ s4 = .int .u8 (flipV n) ∧ w = wx)
  case first =>
    by_cases hn : n < 0
    · have hx := not_u64 n h0 hn
      have hf : flipV n = 255 := by unfold flipV; rw [if_pos hn]
      have HF := Lib.hid hf; clear hf
      go_wp2_with fail
      go_meet
      case rel => exact ⟨rfl, by rw [HF.out], rfl⟩
    · have hf : flipV n = 0 := by unfold flipV; rw [if_neg hn]
      have hm : (mag n : Int) = n := by unfold mag; rw [if_neg hn]; omega
      have HF := Lib.hid hf; have HM := Lib.hid hm; clear hf hm
      go_wp2_with fail
      go_meet
      case rel => exact ⟨by rw [HM.out, IntWalk.u64_in n (by omega)], by rw [HF.out], rfl⟩
  case rest =>
    obtain ⟨rfl, rfl, rfl⟩ := hcut
    have hM := mag_lt n h0 h1
    have hM8 := mag_lt8 n h0 h1
    have HXF : Hid (∀ x, 0 ≤ x → x ≤ 255 → bits .xor .u8 x (flipV n) = flipB n x) := Lib.hid (fun x a b => xor_flip n x a b)
    have HE : Hid (encInt n = headB n :: tailTo n (blen (mag n)) (blen (mag n))) := Lib.hid rfl
    have HH : Hid (headB n = flipB n (128 + (blen (mag n) : Int))) := Lib.hid rfl
    have HT : Hid (∀ k j, tailTo n k (j + 1) = tailTo n k j ++ [flipB n (digit (mag n) (k - 1 - j))]) := Lib.hid (tailTo_succ n)
    have HT0 : Hid (∀ k, tailTo n k 0 = []) := Lib.hid (fun _ => rfl)
    generalize hmg : mag n = M at *
    have HMG := Lib.hid hmg; clear hmg
    generalize flipV n = F at *
    go_wp2_with fail
    go_step3
    go_upto_block 0 with (fail)
    go_cut [5] (fun s5 wx => s5 = .int .i64 ((blen M : Nat) : Int) ∧ w = wx)
    case first =>
      go_wp2_with fail
      go_loop [5] (fun i => ∃ k : Nat, k ≤ 8 ∧ M < 256 ^ k ∧ i = .int .i64 k) (fun i => (intOf i).toNat)
      case atStart => exact ⟨8, by omega, hM8, rfl⟩
      case round =>
        obtain ⟨k, hk, hMk, rfl⟩ := hrel
        have HU : Hid (k = 0 ∨ 256 ^ (k - 1) ≤ M → k = blen M) := Lib.hid (fun h => blen_unique M k (Nat.lt_trans hM8 (by decide)) hMk h)
        clear hMk hM8
        rcases Nat.eq_zero_or_pos k with hk0 | hk0
        · subst hk0
          have HU2 := Lib.hid (HU.out (Or.inl rfl))
          go_wp2_with fail
          go_meet
          case rel => exact ⟨by rw [← HU2.out]; rfl, rfl⟩
        · obtain ⟨j, rfl⟩ : ∃ j, k = j + 1 := ⟨k - 1, by omega⟩
          have hsh := shr_cast M j
          by_cases hq : M < 256 ^ j
          · have hz : M / 256 ^ j = 0 := Nat.div_eq_of_lt hq
            rw [hz] at hsh
            have HQ := Lib.hid hq
            clear hz hq
            go_wp2_with fail
            go_round
            case rel => exact ⟨j, by omega, HQ.out, by go_num⟩
            case measure => simp [intOf]
          · have hz : 0 < M / 256 ^ j := Nat.div_pos (by omega) (Nat.pow_pos (by decide))
            have HU2 := Lib.hid (HU.out (Or.inr (by simpa using hq)))
            generalize M / 256 ^ j = q at *
            clear hq
            have hz2 : (0 : Int) < (q : Int) := by omega
            go_wp2_with fail
            go_meet
            case rel => exact ⟨by rw [← HU2.out]; rfl, rfl⟩
    case rest =>
      obtain ⟨rfl, rfl⟩ := hcut
      have hk8 := blen_le M hM8
      have HX0 := Lib.hid (HXF.out (128 + (blen M : Int)) (by omega) (by omega))
      have HD : Hid (∀ i, ((M : Int) / 2 ^ (8 * i)) % 256 = digit M i) := Lib.hid (shr_digit M)
      have HDB : Hid (∀ i, 0 ≤ digit M i ∧ digit M i ≤ 255) := Lib.hid (digit_bd M)
      generalize hkm : blen M = k at *
      have HKM := Lib.hid hkm; clear hkm
      clear hM8
      have hx0 := HX0.out
      go_wp2_with fail
      clear hx0
      go_loopw [7, 6] (fun v7 v6 wr => ∃ (j r : Nat) (A : Option Addr) (c : Nat), j + r = k ∧ v7 = .int .i64 ((r : Int) - 1) ∧ v6 = .slice A (j + 1) c ∧ wr.ownsRow w.heap.size 5 1 (.slice A (j + 1) c) (j + 1) (u8s (headB n :: tailTo n k j)) ∧ Below w.heap.size w wr)
        (fun v7 _ _ => (intOf v7 + 1).toNat)
      case atStart => exact ⟨0, k, _, _, by omega, rfl, rfl, by rw [HT0.out, HH.out]; exact own_lit w _ _ _ (u8s [flipB n (128 + (k : Int))]) _ 1 rfl rfl (Nat.le_refl _) rfl (by decide), (Below.refl _ _).alloc (Nat.le_refl _) _⟩
      case round =>
        obtain ⟨j, r, A, c, hjr, rfl, rfl, hown, hB⟩ := hrel
        have hs := hB.size
        rcases Nat.eq_zero_or_pos r with hr0 | hr0
        · subst hr0
          have hjk : j = k := by omega
          subst hjk
          go_wp2_with fail
          rw [Exit.noGoto_ret]
          go_ret
          rw [← HE.out] at hown
          exact ⟨⟨A, c, by rw [HMG.out, HKM.out]; rfl, by rw [HMG.out, HKM.out]; exact hown⟩, hB⟩
        · obtain ⟨r', rfl⟩ : ∃ j, r = j + 1 := ⟨r - 1, by omega⟩
          have hd := HD.out r'
          have hdb := HDB.out r'
          have hxj := HXF.out (digit M r') hdb.1 hdb.2
          have HTJ : Hid (tailTo n k (j + 1) = tailTo n k j ++ [flipB n (digit M r')]) := Lib.hid (by rw [HT.out, show k - 1 - j = r' from by omega])
          have HJR := Lib.hid hjr
          have hj9 : j < 8 := by omega
          have hr9 : r' < 8 := by omega
          clear hdb hjr
          go_wp2_with (at_builtin; refine wpList_app rfl (.tmp 36) (.tmp 44) 33 rfl w.heap.size 5 i0 (.int .u8 0) 1 1 Try.underlying33 hi hz0 hz1 hz2 rfl (by omega) A (j + 1) c _ rfl (hown.alloc _) (wr.heap.size + 1) _ 1 1 [.int .u8 (flipB n (digit M r'))] rfl (RdN.fresh [_] _ _ 1 1 rfl rfl rfl) (wone_u8 _) (by simp only [maxLen]; omega) (by omega) (by simp; omega) ?_; intro A4 c4 w4 hown4 hg4; have hb4 := below_app (hB.alloc (by omega) _) hg4 (hown.alloc _) (Nat.le_refl _) (by simp; omega))
          go_roundw
          case rel => exact ⟨j + 1, r', A4, c4, by have := HJR.out; omega, by go_num, rfl, by rw [HTJ.out, ← List.cons_append, u8s_append]; exact hown4, hb4⟩
          case measure => simp [intOf]
end Go.Proofs.Ytkgmoklifkojhaa
