/- The walk of the reference's GetInt: the answer of GetInt. No condition. -/
import Derived.Test.YtkgmoklifkojhaaDecSpecB
import Derived.Test.YtkgmoklifkojhaaSameA
import Derived.Test.YtkgmoklifkojhaaWireB
import Derived.Deep.RegionWith
namespace Go.Proofs.Ytkgmoklifkojhaa
open Go.RowKit
attribute [local go_sem ↓] wp_at_zero wp_at_succ
set_option maxHeartbeats 2000000 in
set_option maxRecDepth 100000 in
theorem rgint_any (l : List Int) (A : Option Addr) (n c : Nat) (w : World) (hl : Rd w w.heap.size A n (u8s l)) (hby : Byt l) (hnc : n ≤ c) (_hc : c ≤ 9223372036854775807) :
    Calls Try.prog 55 #[.slice A n c] w fun e w' => e = .returned (tup3 (getI l)) ∧ Below w.heap.size w w' := by
  have hlen : l.length = n := by simpa [u8s] using hl.1
  rcases Nat.eq_zero_or_pos n with h0 | h0
  · have HG : Hid (getI l = (0, 0, 3)) := Lib.hid (by unfold getI; rw [if_pos (by omega)])
    subst h0
    clear hlen hl
    go_enter Try.func55, Try.ntmps55
    go_wp2_with fail
    go_ret3
    exact ⟨by rw [HG.out]; rfl, Below.refl _ _⟩
  · have HRD := Lib.hid hl
    obtain ⟨b, o, rfl, hb, hcell⟩ := rd_u8 hl h0
    obtain ⟨hh, hk127⟩ := head_flB l hby
    have hb0 := hby.at_ 0
    have c0 := hcell 0 h0
    rw [Nat.add_zero] at c0
    have HL := Lib.hid hlen
    have HCELL := Lib.hid hcell
    have HNG : Hid (ngB l = decide (l.getD 0 0 < 128)) := Lib.hid rfl
    have HKX : Hid ((cntB l : Int) = if l.getD 0 0 < 128 then 127 - l.getD 0 0 else l.getD 0 0 - 128) := Lib.hid (by
      have h1 := hh
      unfold flB ngB at h1
      by_cases hx : l.getD 0 0 < 128
      · simp only [hx, decide_true, if_true] at h1 ⊢; omega
      · simp only [hx, decide_false, Bool.false_eq_true, if_false] at h1 ⊢; omega)
    clear hl hlen hcell hh
    obtain ⟨x0, hx0⟩ : ∃ x, x = l.getD 0 0 := ⟨_, rfl⟩
    rw [← hx0] at c0 hb0 HNG HKX
    have HXX := Lib.hid hx0
    clear hx0
    obtain ⟨K, hK⟩ : ∃ K, K = cntB l := ⟨_, rfl⟩
    rw [← hK] at hk127 HKX
    have HK := Lib.hid hK
    clear hK
    by_cases h8 : 8 < K
    · have HG : Hid (getI l = (0, 0, 2)) := Lib.hid (by have := HL.out; have := HK.out; unfold getI; rw [if_neg (by omega), if_pos (by omega)])
      by_cases hx : x0 < 128
      · have h119 : x0 < 119 := by have := HKX.out; rw [if_pos hx] at this; omega
        go_enter Try.func55, Try.ntmps55
        go_wp2_with fail
        go_ret3
        exact ⟨by rw [HG.out]; rfl, Below.refl _ _⟩
      · have h136 : 136 < x0 := by have := HKX.out; rw [if_neg hx] at this; omega
        go_enter Try.func55, Try.ntmps55
        go_wp2_with fail
        go_ret3
        exact ⟨by rw [HG.out]; rfl, Below.refl _ _⟩
    · have hlo : 119 ≤ x0 := by
        have := HKX.out
        by_cases hx : x0 < 128
        · rw [if_pos hx] at this; omega
        · omega
      have hhi : x0 ≤ 136 := by
        have := HKX.out
        by_cases hx : x0 < 128
        · omega
        · rw [if_neg hx] at this; omega
      go_enter Try.func55, Try.ntmps55
      go_upto_if 27 with (fail)
      go_cut [6] (fun s6 wx => s6 = .int .i64 K ∧ w = wx)
      case first =>
        by_cases hx : x0 < 128
        · have hk : (127 : Int) - x0 = K := by have := HKX.out; rw [if_pos hx] at this; omega
          have HKK := Lib.hid hk; clear hk
          go_wp2_with fail
          go_meet
          case rel => exact ⟨by rw [← HKK.out], rfl⟩
        · have hk : x0 - (128 : Int) = K := by have := HKX.out; rw [if_neg hx] at this; omega
          have HKK := Lib.hid hk; clear hk
          go_wp2_with fail
          go_meet
          case rel => exact ⟨by rw [← HKK.out], rfl⟩
      case rest =>
        obtain ⟨rfl, rfl⟩ := hcut
        by_cases hnk : n ≤ K
        · have HG : Hid (getI l = (0, 0, 3)) := Lib.hid (by have := HL.out; have := HK.out; unfold getI; rw [if_neg (by omega), if_neg (by omega), if_pos (by omega)])
          go_wp2_with fail
          go_ret3
          exact ⟨by rw [HG.out]; rfl, Below.refl _ _⟩
        · go_wp2_with fail
          go_loop [8, 7, 9] (fun v8 v7 v9 => ∃ j : Nat, j ≤ K ∧ v8 = .int .i64 ((j : Int) + 1) ∧ v7 = .int .i64 (valB l j : Int) ∧ (valB l j : Int) ≤ 9223372036854775807) (fun v8 _ _ => K + 1 - (intOf v8).toNat)
          case atStart => exact ⟨0, Nat.zero_le _, rfl, rfl, by simp [valB]⟩
          case round =>
            obtain ⟨j, hj, rfl, rfl, hvl⟩ := hrel
            by_cases hlt : j < K
            · have cj := HCELL.out (j + 1) (by omega)
              have hbj := hby.at_ (j + 1)
              have hfj := flB_bd (ngB l) _ hbj.1 hbj.2
              have HV : Hid (valB l (j + 1) = 256 * valB l j + (flB (ngB l) (l.getD (j + 1) 0)).toNat) := Lib.hid rfl
              have HFL : Hid (flB (ngB l) (l.getD (j + 1) 0) = if x0 < 128 then 255 - l.getD (j + 1) 0 else l.getD (j + 1) 0) := Lib.hid (by rw [HNG.out]; unfold flB; by_cases hx : x0 < 128 <;> simp [hx])
              have HBG : Hid (36028797018963967 < valB l j → getI l = (0, 0, 2)) := Lib.hid (fun h => by
                have h1 := HL.out; have h2 := HK.out
                exact getI_big l j (by omega) (by omega) (by omega) (by omega) h)
              have HFJ := Lib.hid hfj
              clear hfj
              generalize l.getD (j + 1) 0 = x at *
              generalize valB l j = V at *
              by_cases hbig : 36028797018963967 < V
              · have HG := Lib.hid (HBG.out hbig)
                by_cases hx : x0 < 128
                all_goals
                  go_wp2_with fail
                  go_ret3
                  exact ⟨by rw [HG.out]; rfl, Below.refl _ _⟩
              · by_cases hx : x0 < 128
                · have HF2 : Hid (flB (ngB l) x = 255 - x) := Lib.hid (by rw [HFL.out, if_pos hx])
                  go_wp2_with fail
                  go_round
                  case rel => exact ⟨j + 1, by omega, by go_num, by rw [HV.out, HF2.out]; congr 1; omega, by rw [HV.out, HF2.out]; omega⟩
                  case measure => simp [intOf]; omega
                · have HF2 : Hid (flB (ngB l) x = x) := Lib.hid (by rw [HFL.out, if_neg hx])
                  go_wp2_with fail
                  go_round
                  case rel => exact ⟨j + 1, by omega, by go_num, by rw [HV.out, HF2.out]; congr 1; omega, by rw [HV.out, HF2.out]; omega⟩
                  case measure => simp [intOf]; omega
            · obtain rfl : j = K := by omega
              have HNB : Hid (numB l = if x0 < 128 then -1 - (valB l j : Int) else (valB l j : Int)) := Lib.hid (by
                unfold numB
                rw [← HK.out, HNG.out]
                by_cases hx : x0 < 128 <;> simp [hx])
              have HBD : Hid (-9223372036854775808 ≤ numB l ∧ numB l ≤ 9223372036854775807) := Lib.hid (numB_bd l (by rw [← HK.out]; omega))
              have HT : Hid ((l.take (j + 1)).length = j + 1) := Lib.hid (by rw [List.length_take, HL.out]; omega)
              have HGO : Hid (getI l = if 0 < j ∧ flB (ngB l) (l.getD 1 0) = 0 then (0, 0, 2) else (numB l, (j : Int) + 1, 0)) := Lib.hid (by
                have h1 := HL.out
                have h2 := HK.out
                unfold getI
                rw [← h2, if_neg (by omega), if_neg (by omega), if_neg (by omega)]
                split
                · rfl
                · rw [if_neg (by omega)])
              have HEQ : Hid (decide (encInt (numB l) = l.take (j + 1)) = decide (¬ (0 < j ∧ flB (ngB l) (l.getD 1 0) = 0))) := Lib.hid (by
                have h1 := HL.out
                have h2 := HK.out
                by_cases hd : 0 < j ∧ flB (ngB l) (l.getD 1 0) = 0
                · have := enc_not_take l hby (by omega) (by rw [← h2]; exact hd)
                  rw [← h2] at this
                  rw [decide_eq_false this, decide_eq_false (fun h => h hd)]
                · have := enc_take l hby (by omega) (by omega) (by rw [← h2]; exact hd)
                  rw [← h2] at this
                  rw [decide_eq_true this, decide_eq_true hd])
              have HR2 : Hid (Rd w w.heap.size (some ⟨b, o, none⟩) (j + 1) ((l.take (j + 1)).map (Value.int .u8))) := Lib.hid ⟨by rw [List.length_map]; exact HT.out, fun _ => ⟨b, o, rfl, hb, fun i u hu => by
                have hi : i < j + 1 := by
                  have := (List.getElem?_eq_some_iff.1 hu).1
                  rw [List.length_map, HT.out] at this
                  exact this
                rw [HCELL.out i (by omega), ← hu, List.getElem?_map, List.getElem?_take, if_pos hi, List.getD_eq_getElem?_getD, List.getElem?_eq_getElem (by rw [HL.out]; omega)]
                rfl⟩⟩
              obtain ⟨N, hN⟩ : ∃ N, N = numB l := ⟨_, rfl⟩
              rw [← hN] at HNB HBD HGO HEQ
              clear hN
              generalize valB l j = V at *
              obtain ⟨hbd0, hbd1⟩ := HBD.out
              have hml : blen (mag N) ≤ 8 := blen_le (mag N) (mag_lt8 N hbd0 hbd1)
              have HML := Lib.hid hml
              have hn10 : (blen (mag N) : Int) + 1 ≤ 9 := by omega
              clear hml
              by_cases hd : 0 < j ∧ flB (ngB l) (l.getD 1 0) = 0
              · have HG : Hid (getI l = (0, 0, 2)) := Lib.hid (by rw [HGO.out, if_pos hd])
                have HQ : Hid (decide (encInt N = l.take (j + 1)) = false) := Lib.hid (by rw [HEQ.out, decide_eq_false (fun h => h hd)])
                clear hd HEQ HGO
                by_cases hx : x0 < 128
                all_goals
                  have hne : N = if x0 < 128 then -1 - (V : Int) else (V : Int) := HNB.out
                  first | rw [if_pos hx] at hne | rw [if_neg hx] at hne
                  have HNE := Lib.hid hne
                  clear hne
                  have hs1 : (0 : Int) ≤ (j : Int) + 1 := by omega
                  have hs2 : (j : Int) + 1 ≤ (c : Int) := by omega
                  have hs3 : ((j : Int) + 1).toNat = j + 1 := by omega
                  have hs4 : IntKind.i64.wrap ((j : Int) + 1) = (j : Int) + 1 := IntWalk.i64_in _ (by omega)
                  go_upto_region 24 with (fail)
                  first | rw [← HNE.out] | skip
                  go_region_with (first
                    | (go_at_call 45; (with_reducible refine (rint_any N _ hbd0 hbd1).mono ?_); rintro e w1 ⟨⟨A1, c1, rfl, hown⟩, hB1⟩; have HB1 : Hid (Ext w w1) := Lib.hid ((Ext.refl w).drew.next hB1); have HRA : Hid (Rd w1 w1.heap.size A1 (blen (mag N) + 1) ((encInt N).map (Value.int .u8))) := Lib.hid (Rd.of_own hown); have HRB : Hid (Rd w1 w1.heap.size (some ⟨b, o, none⟩) (j + 1) ((l.take (j + 1)).map (Value.int .u8))) := Lib.hid ((HR2.out.below HB1.out).more (Below.size HB1.out)); have hz9 : blen (mag N) + 1 ≤ 9223372036854775807 := (by have := HML.out; omega); clear hown hB1)
                    | (go_at_call 29; (with_reducible refine (same_any (encInt N) (l.take (j + 1)) A1 (some ⟨b, o, none⟩) (blen (mag N) + 1) c1 (j + 1) c w1 HRA.out HRB.out hz9).mono ?_); rintro e w2 ⟨rfl, hd⟩; rw [HQ.out]; have HB2 : Hid (Ext w w2) := Lib.hid (HB1.out.next (hd.below _)); clear hd))
                  all_goals
                    go_wp2_with fail
                    go_ret3
                    exact ⟨by rw [HG.out]; rfl, HB2.out⟩
              · have HG : Hid (getI l = (N, (j : Int) + 1, 0)) := Lib.hid (by rw [HGO.out, if_neg hd])
                have HQ : Hid (decide (encInt N = l.take (j + 1)) = true) := Lib.hid (by rw [HEQ.out, decide_eq_true hd])
                clear hd HEQ HGO
                by_cases hx : x0 < 128
                all_goals
                  have hne : N = if x0 < 128 then -1 - (V : Int) else (V : Int) := HNB.out
                  first | rw [if_pos hx] at hne | rw [if_neg hx] at hne
                  have HNE := Lib.hid hne
                  clear hne
                  have hs1 : (0 : Int) ≤ (j : Int) + 1 := by omega
                  have hs2 : (j : Int) + 1 ≤ (c : Int) := by omega
                  have hs3 : ((j : Int) + 1).toNat = j + 1 := by omega
                  have hs4 : IntKind.i64.wrap ((j : Int) + 1) = (j : Int) + 1 := IntWalk.i64_in _ (by omega)
                  go_upto_region 24 with (fail)
                  first | rw [← HNE.out] | skip
                  go_region_with (first
                    | (go_at_call 45; (with_reducible refine (rint_any N _ hbd0 hbd1).mono ?_); rintro e w1 ⟨⟨A1, c1, rfl, hown⟩, hB1⟩; have HB1 : Hid (Ext w w1) := Lib.hid ((Ext.refl w).drew.next hB1); have HRA : Hid (Rd w1 w1.heap.size A1 (blen (mag N) + 1) ((encInt N).map (Value.int .u8))) := Lib.hid (Rd.of_own hown); have HRB : Hid (Rd w1 w1.heap.size (some ⟨b, o, none⟩) (j + 1) ((l.take (j + 1)).map (Value.int .u8))) := Lib.hid ((HR2.out.below HB1.out).more (Below.size HB1.out)); have hz9 : blen (mag N) + 1 ≤ 9223372036854775807 := (by have := HML.out; omega); clear hown hB1)
                    | (go_at_call 29; (with_reducible refine (same_any (encInt N) (l.take (j + 1)) A1 (some ⟨b, o, none⟩) (blen (mag N) + 1) c1 (j + 1) c w1 HRA.out HRB.out hz9).mono ?_); rintro e w2 ⟨rfl, hd⟩; rw [HQ.out]; have HB2 : Hid (Ext w w2) := Lib.hid (HB1.out.next (hd.below _)); clear hd))
                  all_goals
                    go_wp2_with fail
                    go_ret3
                    exact ⟨by rw [HG.out]; first | rfl | (rw [HNE.out]; rfl), HB2.out⟩
end Go.Proofs.Ytkgmoklifkojhaa
