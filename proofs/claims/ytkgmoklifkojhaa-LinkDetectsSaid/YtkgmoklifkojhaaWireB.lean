/- The walk of the reference's Int: it hands back encInt. No condition. -/
import Derived.Test.YtkgmoklifkojhaaWireA
import Derived.Deep.Onto
namespace Go.Proofs.Ytkgmoklifkojhaa
open Go.RowKit
/-- The j low digits, the lowest first. -/
def lowD (m j : Nat) : List Int := (List.range j).map (digit m)
theorem lowD_length (m j : Nat) : (lowD m j).length = j := by simp [lowD]
theorem lowD_succ (m j : Nat) : lowD m (j + 1) = lowD m j ++ [digit m j] := by simp [lowD, List.range_succ]
theorem lowD_get (m k i : Nat) (h : i < k) : (u8s (lowD m k))[i]? = some (.int .u8 (digit m i)) := by
  simp [u8s, lowD, h]
set_option maxHeartbeats 800000 in
set_option maxRecDepth 100000 in
theorem rint_any (n : Int) (w : World) (h0 : -9223372036854775808 ≤ n) (h1 : n ≤ 9223372036854775807) :
    Calls Try.prog 45 #[.int .i64 n] w fun e w' => (∃ A c, e = .returned (.slice A (blen (mag n) + 1) c) ∧ w'.ownsRow w.heap.size 5 1 (.slice A (blen (mag n) + 1) c) (blen (mag n) + 1) (u8s (encInt n))) ∧ Below w.heap.size w w' := by
  obtain ⟨i0, hi, hz0, hz1, hz2⟩ := info_parts winfo_u8
  have HE : Hid (encInt n = headB n :: tailTo n (blen (mag n)) (blen (mag n))) := Lib.hid rfl
  have HT : Hid (∀ k j, tailTo n k (j + 1) = tailTo n k j ++ [flipB n (digit (mag n) (k - 1 - j))]) := Lib.hid (tailTo_succ n)
  have HT0 : Hid (∀ k, tailTo n k 0 = []) := Lib.hid (fun _ => rfl)
  have hM := mag_lt n h0 h1
  have hM8 := mag_lt8 n h0 h1
  have HD : Hid (∀ i, ((((mag n) / 256 ^ i : Nat) : Int)) % 256 = digit (mag n) i) := Lib.hid (fun i => by unfold digit; omega)
  have HDB : Hid (∀ i, 0 ≤ digit (mag n) i ∧ digit (mag n) i ≤ 255) := Lib.hid (digit_bd (mag n))
  have HMM : Hid ((mag n : Int) = if n < 0 then -1 - n else n) := Lib.hid (by unfold mag; split <;> omega)
  generalize hmg : mag n = M at *
  have HMG := Lib.hid hmg; clear hmg
  go_enter Try.func45, Try.ntmps45
  go_upto_if 11 with (fail)
  go_cut [3] (fun s3 wx => s3 = .int .i64 (M : Int) ∧ w = wx)
  case first =>
    by_cases hn : n < 0
    · have HM := HMM.out; rw [if_pos hn] at HM
      have HM2 := Lib.hid HM; clear HM
      go_wp2_with fail
      go_meet
      case rel => exact ⟨by rw [HM2.out], rfl⟩
    · have HM := HMM.out; rw [if_neg hn] at HM
      have HM2 := Lib.hid HM; clear HM
      go_wp2_with fail
      go_meet
      case rel => exact ⟨by rw [HM2.out], rfl⟩
  case rest =>
    obtain ⟨rfl, rfl⟩ := hcut
    go_wp2_with fail
    go_loopw [3, 4] (fun v3 v4 wr => ∃ (j : Nat) (A : Option Addr) (c : Nat), j ≤ 8 ∧ v3 = .int .i64 ((M / 256 ^ j : Nat) : Int) ∧ (j = 0 ∨ 256 ^ (j - 1) ≤ M) ∧ v4 = .slice A j c ∧ wr.ownsRow w.heap.size 5 1 (.slice A j c) j (u8s (lowD M j)) ∧ Below w.heap.size w wr)
      (fun v3 _ _ => (intOf v3).toNat)
    case atStart => exact ⟨0, none, 0, by omega, by simp, Or.inl rfl, rfl, World.ownsRow_nil _ _ _ _, Below.refl _ _⟩
    case round =>
      obtain ⟨j, A, c, hj8, rfl, hlow, rfl, hown, hB⟩ := hrel
      have hs := hB.size
      by_cases hq : M / 256 ^ j = 0
      · have hbl : j = blen M := blen_unique M j (Nat.lt_trans hM8 (by decide)) (by
          rcases Nat.lt_or_ge M (256 ^ j) with h | h
          · exact h
          · have := Nat.div_pos h (Nat.pow_pos (by decide))
            omega) hlow
        rw [hq, show ((0 : Nat) : Int) = 0 from rfl]
        have HBL := Lib.hid hbl
        clear hq hlow hbl hM8
        obtain ⟨wd, rfl⟩ : ∃ x : World, x = wr := ⟨_, rfl⟩
        go_upto_if 27 with (fail)
        go_cut [6] (fun s6 wx => ∃ (B : Option Addr) (d : Nat), s6 = .slice B 1 d ∧ wx.ownsRow wd.heap.size 5 1 (.slice B 1 d) 1 (u8s [headB n]) ∧ Below wd.heap.size wd wx)
        case first =>
          have HHB : Hid (headB n = flipB n (128 + (blen M : Int))) := Lib.hid (by unfold headB; rw [HMG.out])
          by_cases hn : n < 0
          · have HF : Hid (headB n = 255 - (128 + (j : Int))) := Lib.hid (by rw [HHB.out, HBL.out]; unfold flipB; rw [if_pos hn])
            go_wp2_with (at_builtin; refine wpList_app rfl (.tmp 34) (.tmp 38) 33 rfl wd.heap.size 5 i0 (.int .u8 0) 1 1 Try.underlying33 hi hz0 hz1 hz2 rfl (by omega) none 0 0 [] rfl (World.ownsRow_nil _ _ _ _) (wd.heap.size + 1) _ 1 1 [.int .u8 (127 - (j : Int))] rfl (RdN.fresh [_] _ _ 1 1 rfl rfl rfl) (wone_u8 _) (by decide) (by decide) (by simp) ?_; intro A4 c4 w4 hown4 hg4; have hb4 := below_app ((Below.refl wd.heap.size wd).alloc (Nat.le_refl _) _) hg4 (World.ownsRow_nil _ wd.heap.size 5 1) (Nat.le_refl _) (by simp))
            go_meet
            case rel => exact ⟨A4, c4, rfl, by rw [HF.out, show (255 - (128 + (j : Int))) = 127 - (j : Int) from by omega]; exact hown4, hb4⟩
          · have HF : Hid (headB n = 128 + (j : Int)) := Lib.hid (by rw [HHB.out, HBL.out]; unfold flipB; rw [if_neg hn])
            go_wp2_with (at_builtin; refine wpList_app rfl (.tmp 28) (.tmp 32) 33 rfl wd.heap.size 5 i0 (.int .u8 0) 1 1 Try.underlying33 hi hz0 hz1 hz2 rfl (by omega) none 0 0 [] rfl (World.ownsRow_nil _ _ _ _) (wd.heap.size + 1) _ 1 1 [.int .u8 (128 + (j : Int))] rfl (RdN.fresh [_] _ _ 1 1 rfl rfl rfl) (wone_u8 _) (by decide) (by decide) (by simp) ?_; intro A4 c4 w4 hown4 hg4; have hb4 := below_app ((Below.refl wd.heap.size wd).alloc (Nat.le_refl _) _) hg4 (World.ownsRow_nil _ wd.heap.size 5 1) (Nat.le_refl _) (by simp))
            go_meet
            case rel => exact ⟨A4, c4, rfl, by rw [HF.out]; exact hown4, hb4⟩
        case rest =>
          obtain ⟨B, d, rfl, hown2, hB2⟩ := hcut
          have HRD := Lib.hid (Rd.of_own hown)
          have HB := Lib.hid hB
          clear hown hB
          go_wp2_with fail
          go_loopw [7, 6] (fun v7 v6 wr => ∃ (i r : Nat) (B : Option Addr) (d : Nat), i + r = j ∧ v7 = .int .i64 ((r : Int) - 1) ∧ v6 = .slice B (i + 1) d ∧ wr.ownsRow wd.heap.size 5 1 (.slice B (i + 1) d) (i + 1) (u8s (headB n :: tailTo n j i)) ∧ Below wd.heap.size wd wr)
            (fun v7 _ _ => (intOf v7 + 1).toNat)
          case atStart => exact ⟨0, j, _, _, by omega, rfl, rfl, by rw [HT0.out]; exact hown2, hB2⟩
          case round =>
            clear hown2 hB2
            obtain ⟨i, r, B, d, hir, rfl, rfl, hown, hB⟩ := hrel
            have hs2 := hB.size
            rcases Nat.eq_zero_or_pos r with hr0 | hr0
            · subst hr0
              have hij : i = j := by omega
              subst hij
              go_wp2_with fail
              go_ret
              rw [HBL.out, ← HE.out] at hown
              exact ⟨⟨B, d, by rw [HBL.out]; rfl, hown.mono hs⟩, HB.out.trans (hB.mono hs)⟩
            · obtain ⟨r', rfl⟩ : ∃ x, r = x + 1 := ⟨r - 1, by omega⟩
              obtain ⟨b, o, rfl, hb, hc⟩ := HRD.out.2 (by omega)
              have c0 := (hB.cell (p := ⟨b, o + r', none⟩) hb).trans (hc r' _ (lowD_get M j r' (by omega)))
              have HTJ : Hid (tailTo n j (i + 1) = tailTo n j i ++ [flipB n (digit M r')]) := Lib.hid (by rw [HT.out, show j - 1 - i = r' from by omega])
              have hdb := HDB.out r'
              have hrj : r' < j := by omega
              have HIR := Lib.hid hir
              have hi9 : i < 8 := by omega
              have hr9 : r' < 8 := by omega
              clear hir hc
              by_cases hn : n < 0
              · have HF : Hid (flipB n (digit M r') = 255 - digit M r') := Lib.hid (by unfold flipB; rw [if_pos hn])
                generalize digit M r' = x at *
                go_wp2_with (at_builtin; refine wpList_app rfl (.tmp 54) (.tmp 56) 33 rfl wd.heap.size 5 i0 (.int .u8 0) 1 1 Try.underlying33 hi hz0 hz1 hz2 rfl (by omega) B (i + 1) d _ rfl (hown.alloc _) (wr.heap.size + 1) _ 1 1 [.int .u8 (255 - x)] rfl (RdN.fresh [_] _ _ 1 1 rfl rfl rfl) (wone_u8 _) (by simp only [maxLen]; omega) (by omega) (by simp; omega) ?_; intro A4 c4 w4 hown4 hg4; have hb4 := below_app (hB.alloc (by omega) _) hg4 (hown.alloc _) (Nat.le_refl _) (by simp; omega))
                go_roundw
                case rel => exact ⟨i + 1, r', A4, c4, by have := HIR.out; omega, by go_num, rfl, by rw [HTJ.out, HF.out, ← List.cons_append, u8s_append]; exact hown4, hb4⟩
                case measure => simp [intOf]
              · have HF : Hid (flipB n (digit M r') = digit M r') := Lib.hid (by unfold flipB; rw [if_neg hn])
                generalize digit M r' = x at *
                go_wp2_with (at_builtin; refine wpList_app rfl (.tmp 54) (.tmp 56) 33 rfl wd.heap.size 5 i0 (.int .u8 0) 1 1 Try.underlying33 hi hz0 hz1 hz2 rfl (by omega) B (i + 1) d _ rfl (hown.alloc _) (wr.heap.size + 1) _ 1 1 [.int .u8 (x)] rfl (RdN.fresh [_] _ _ 1 1 rfl rfl rfl) (wone_u8 _) (by simp only [maxLen]; omega) (by omega) (by simp; omega) ?_; intro A4 c4 w4 hown4 hg4; have hb4 := below_app (hB.alloc (by omega) _) hg4 (hown.alloc _) (Nat.le_refl _) (by simp; omega))
                go_roundw
                case rel => exact ⟨i + 1, r', A4, c4, by have := HIR.out; omega, by go_num, rfl, by rw [HTJ.out, HF.out, ← List.cons_append, u8s_append]; exact hown4, hb4⟩
                case measure => simp [intOf]
      · have hpos : 0 < M / 256 ^ j := Nat.pos_of_ne_zero hq
        have hge : 256 ^ j ≤ M := by
          rcases Nat.lt_or_ge M (256 ^ j) with h | h
          · exact absurd (Nat.div_eq_of_lt h) hq
          · exact h
        have hj7 : j < 8 := by
          rcases Nat.lt_or_ge j 8 with h | h
          · exact h
          · have : 256 ^ 8 ≤ 256 ^ j := Nat.pow_le_pow_right (by decide) h
            omega
        have hsz : M / 256 ^ j ≤ 9223372036854775807 := Nat.le_trans (Nat.div_le_self _ _) (by omega)
        have HDJ := Lib.hid (HD.out j)
        have HQ2 : Hid (M / 256 ^ (j + 1) = M / 256 ^ j / 256) := Lib.hid (by rw [Nat.pow_succ, Nat.div_div_eq_div_mul])
        have HGE := Lib.hid hge
        clear hq hge hM8 hlow
        generalize M / 256 ^ j = q at *
        go_wp2_with (at_builtin; refine wpList_app rfl (.tmp 16) (.tmp 20) 33 rfl w.heap.size 5 i0 (.int .u8 0) 1 1 Try.underlying33 hi hz0 hz1 hz2 rfl (by omega) A j c _ rfl (hown.alloc _) (wr.heap.size + 1) _ 1 1 [.int .u8 ((q : Int) % 256)] rfl (RdN.fresh [_] _ _ 1 1 rfl rfl rfl) (wone_u8 _) (by simp only [maxLen]; omega) (by omega) (by simp; omega) ?_; intro A4 c4 w4 hown4 hg4; have hb4 := below_app (hB.alloc (by omega) _) hg4 (hown.alloc _) (Nat.le_refl _) (by simp; omega))
        go_roundw
        case rel => exact ⟨j + 1, A4, c4, by omega, by rw [HQ2.out]; go_num, Or.inr HGE.out, rfl, by rw [lowD_succ, u8s_append, ← HDJ.out]; exact hown4, hb4⟩
        case measure => simp [intOf]; omega
end Go.Proofs.Ytkgmoklifkojhaa
