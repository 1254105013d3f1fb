/- The walk of wire.GetInt. No condition. -/
import Derived.Test.YtkgmoklifkojhaaProg
import Derived.Test.YtkgmoklifkojhaaDecSpec
import Derived.Deep.DeepCutAuto
import Derived.Deep.CutBlock
namespace Go.Proofs.Ytkgmoklifkojhaa
open Go.RowKit
def tup3 (x : Int × Int × Int) : Value := .tuple #[.int .i64 x.1, .int .i64 x.2.1, .int .i64 x.2.2]
theorem rd_u8 {w : World} {B : Nat} {A : Option Addr} {n : Nat} {l : List Int} (h : Rd w B A n (u8s l)) (hn : 0 < n) : ∃ b o, A = some ⟨b, o, none⟩ ∧ b < B ∧ ∀ j, j < n → w.cell? ⟨b, o + j, none⟩ = some (.int .u8 (l.getD j 0)) := by
  obtain ⟨b, o, hA, hb, hc⟩ := h.2 hn
  have hl : l.length = n := by simpa [u8s] using h.1
  exact ⟨b, o, hA, hb, fun j hj => hc j _ (u8s_get l j (by omega))⟩
set_option maxHeartbeats 1000000 in
set_option maxRecDepth 100000 in
theorem gint_any (l : List Int) (A : Option Addr) (n c : Nat) (w : World) (hl : Rd w w.heap.size A n (u8s l)) (hby : Byt l) (_hnc : n ≤ c) (_hc : c ≤ 9223372036854775807) :
    Calls Try.prog 56 #[.slice A n c] w fun e w' => e = .returned (tup3 (getI l)) ∧ w = w' := by
  have hlen : l.length = n := by simpa [u8s] using hl.1
  rcases Nat.eq_zero_or_pos n with h0 | h0
  · have HG : Hid (getI l = (0, 0, 3)) := Lib.hid (by unfold getI; rw [if_pos (by omega)])
    subst h0
    clear hlen hl
    go_enter Try.func56, Try.ntmps56
    go_wp2_with fail
    go_ret3
    exact ⟨by rw [HG.out]; rfl, rfl⟩
  · obtain ⟨b, o, rfl, hb, hcell⟩ := rd_u8 hl h0
    obtain ⟨hh, hk127⟩ := head_flB l hby
    have hb0 := hby.at_ 0
    have c0 := hcell 0 h0
    rw [Nat.add_zero] at c0
    have HXF : Hid (∀ x, 0 ≤ x → x ≤ 255 → bits .xor .u8 x (if ngB l then 255 else 0) = flB (ngB l) x) := Lib.hid (fun x a b => xor_flB l x a b)
    have HH := Lib.hid hh
    have HL := Lib.hid hlen
    have HCELL := Lib.hid hcell
    have hx0 := HXF.out _ hb0.1 hb0.2
    rw [HH.out] at hx0
    have HX0 := Lib.hid hx0
    have HN : Hid (ngB l = decide (l.getD 0 0 < 128)) := Lib.hid rfl
    clear hl hlen hcell hh hx0
    obtain ⟨x0, hx0⟩ : ∃ x, x = l.getD 0 0 := ⟨_, rfl⟩
    rw [← hx0] at c0 hb0 HX0 HN
    obtain ⟨F, hF⟩ : ∃ F : Int, F = if ngB l then 255 else 0 := ⟨_, rfl⟩
    rw [← hF] at HX0 HXF
    have HF : Hid (F = if x0 < 128 then 255 else 0) := Lib.hid (by rw [hF, HN.out]; by_cases h : x0 < 128 <;> simp [h])
    have HFF := Lib.hid hF
    have HXX := Lib.hid hx0
    clear hx0 hF
    obtain ⟨K, hK⟩ : ∃ K, K = cntB l := ⟨_, rfl⟩
    rw [← hK] at HX0 hk127 HH
    have HK := Lib.hid hK
    clear hK
    go_enter Try.func56, Try.ntmps56
    go_upto_if 16 with (fail)
    go_cut [5] (fun s5 wx => s5 = .int .u8 F ∧ w = wx)
    case first =>
      by_cases hx : x0 < 128
      · have hf : F = 255 := by rw [HF.out, if_pos hx]
        have HF2 := Lib.hid hf; clear hf
        go_wp2_with fail
        go_meet
        case rel => exact ⟨by rw [HF2.out], rfl⟩
      · have hf : F = 0 := by rw [HF.out, if_neg hx]
        have HF2 := Lib.hid hf; clear hf
        go_wp2_with fail
        go_meet
        case rel => exact ⟨by rw [HF2.out], rfl⟩
    case rest =>
      obtain ⟨rfl, rfl⟩ := hcut
      have hxk := HX0.out
      have hkk : (128 : Int) + (K : Int) - 128 = (K : Int) := by omega
      by_cases h8 : 8 < K
      · have HG : Hid (getI l = (0, 0, 2)) := Lib.hid (by have := HL.out; have := HK.out; unfold getI; rw [if_neg (by omega), if_pos (by omega)])
        go_wp2_with fail
        go_ret3
        exact ⟨by rw [HG.out]; rfl, rfl⟩
      · by_cases hnk : n ≤ K
        · have HG : Hid (getI l = (0, 0, 3)) := Lib.hid (by have := HL.out; have := HK.out; unfold getI; rw [if_neg (by omega), if_neg (by omega), if_pos (by omega)])
          go_wp2_with fail
          go_ret3
          exact ⟨by rw [HG.out]; rfl, rfl⟩
        · by_cases hl2 : 0 < K ∧ flB (ngB l) (l.getD 1 0) = 0
          · have HG : Hid (getI l = (0, 0, 2)) := Lib.hid (by have := HL.out; have := HK.out; unfold getI; rw [if_neg (by omega), if_neg (by omega), if_neg (by omega), if_pos ⟨by omega, hl2.2⟩])
            have c1 := HCELL.out 1 (by omega)
            have hb1 := hby.at_ 1
            have hx1 := HXF.out _ hb1.1 hb1.2
            rw [hl2.2] at hx1
            obtain ⟨hk0, _⟩ := hl2
            generalize l.getD 1 0 = x1 at *
            go_wp2_with fail
            go_ret3
            exact ⟨by rw [HG.out]; rfl, rfl⟩
          · have HPOS : Hid (0 < K → (flB (ngB l) (l.getD 1 0) == 0) = false) := Lib.hid (fun hk => by
              have : ¬ flB (ngB l) (l.getD 1 0) = 0 := fun h => hl2 ⟨hk, h⟩
              simpa using this)
            clear hl2
            go_upto_block 0 with (fail)
            go_cut [] (fun wx => w = wx)
            case first =>
              rcases Nat.eq_zero_or_pos K with hk0 | hk0
              · subst hk0
                go_wp2_with fail
                go_meet
                case rel => rfl
              · have c1 := HCELL.out 1 (by omega)
                have hb1 := hby.at_ 1
                have hx1 := HXF.out _ hb1.1 hb1.2
                have hp := HPOS.out hk0
                generalize l.getD 1 0 = x1 at *
                go_wp2_with fail
                go_meet
                case rel => rfl
            case rest =>
              obtain rfl := hcut
              clear hkk hxk c0
              go_upto_region 14 with (fail)
              go_cut [43, 44, 45, 46, 47, 48] (fun s43 s44 s45 s46 s47 s48 wx => ∃ o2 c2 : Nat, s46 = .slice (some ⟨b, o2, none⟩) K c2 ∧ (0 < K → o2 = o + 1) ∧ s47 = .int .i64 K ∧ s48 = .int .i64 0 ∧ w = wx)
              case first =>
                by_cases hc1 : 1 = c
                · go_wp2_with fail
                  go_meet
                  case rel => exact ⟨_, _, rfl, fun h => by omega, rfl, rfl, rfl⟩
                · go_wp2_with fail
                  go_meet
                  case rel => exact ⟨_, _, rfl, fun _ => rfl, rfl, rfl, rfl⟩
              case rest =>
                obtain ⟨o2, c2, rfl, ho2, rfl, rfl, rfl⟩ := hcut
                have HO2 := Lib.hid ho2
                clear ho2
                go_wp2_with fail
                go_loop [48, 7] (fun v48 v7 => ∃ j : Nat, j ≤ K ∧ v48 = .int .i64 j ∧ v7 = .int .u64 (valB l j : Int)) (fun v48 _ => K - (intOf v48).toNat)
                case atStart => exact ⟨0, Nat.zero_le _, rfl, rfl⟩
                case round =>
                  obtain ⟨j, hj, rfl, rfl⟩ := hrel
                  by_cases hlt : j < K
                  · have h2 := HO2.out (by omega)
                    subst h2
                    have cj := HCELL.out (j + 1) (by omega)
                    rw [show o + (j + 1) = o + 1 + j by omega] at cj
                    have hbj := hby.at_ (j + 1)
                    have hxj := HXF.out _ hbj.1 hbj.2
                    have hfj := flB_bd (ngB l) _ hbj.1 hbj.2
                    have hv : valB l j < 72057594037927936 := Nat.lt_of_lt_of_le (valB_lt l hby j) (Nat.le_trans (Nat.pow_le_pow_right (by decide) (show j ≤ 7 by omega)) (by decide))
                    have HV : Hid (valB l (j + 1) = 256 * valB l j + (flB (ngB l) (l.getD (j + 1) 0)).toNat) := Lib.hid rfl
                    obtain ⟨y, hy⟩ := Int.eq_ofNat_of_zero_le hfj.1
                    rw [hy] at hxj hfj HV
                    generalize l.getD (j + 1) 0 = x at *
                    have HOJ := Lib.hid (or_join64 (valB l j) y hv (by omega))
                    have HY := Lib.hid hy
                    clear hy
                    generalize valB l j = V at *
                    go_wp2_with fail
                    go_round
                    case rel => exact ⟨j + 1, by omega, by go_num, by rw [HV.out, Int.mul_comm, HOJ.out]; rfl⟩
                    case measure => simp [intOf]; omega
                  · obtain rfl : j = K := by omega
                    have HGO : Hid (getI l = if 9223372036854775808 ≤ valB l j then (0, 0, 2) else (numB l, (j : Int) + 1, 0)) := Lib.hid (by
                      have h1 := HL.out
                      have h2 := HK.out
                      have h3 := HPOS.out
                      unfold getI
                      rw [← h2, if_neg (by omega), if_neg (by omega), if_neg (by omega), if_neg (fun h => by have h4 := h3 h.1; rw [h.2] at h4; cases h4)])
                    have HNB : Hid (numB l = if ngB l then -1 - (valB l j : Int) else (valB l j : Int)) := Lib.hid (by unfold numB; rw [← HK.out])
                    generalize valB l j = V at *
                    go_wp2_with fail
                    · have hq : 0 < (V : Int) / 9223372036854775808 := by assumption
                      go_ret3
                      refine ⟨?_, rfl⟩
                      rw [HGO.out, if_pos (by omega)]; rfl
                    · have hq : (V : Int) / 9223372036854775808 ≤ 0 := by assumption
                      have hf : 0 < F := by assumption
                      have hng : ngB l = true := by
                        have := HFF.out
                        cases hn : ngB l
                        · rw [hn] at this; simp at this; omega
                        · rfl
                      have hlt2 : V < 9223372036854775808 := by omega
                      have HW := Lib.hid (not_u64_nat V hlt2)
                      go_ret3
                      refine ⟨?_, rfl⟩
                      rw [HGO.out, if_neg (by omega), HNB.out, hng]
                      show _ = Ending.returned (.tuple #[.int .i64 (-1 - (V : Int)), .int .i64 ((j : Int) + 1), .int .i64 0])
                      rw [← HW.out]; rfl
                    · have hq : (V : Int) / 9223372036854775808 ≤ 0 := by assumption
                      have hf : F ≤ 0 := by assumption
                      have hng : ngB l = false := by
                        have := HFF.out
                        cases hn : ngB l
                        · rfl
                        · rw [hn] at this; simp at this; omega
                      go_ret3
                      refine ⟨?_, rfl⟩
                      rw [HGO.out, if_neg (by omega), HNB.out, hng]; rfl
end Go.Proofs.Ytkgmoklifkojhaa
