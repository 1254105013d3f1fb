/- The walks of the reference's padKey and Mac. No condition. -/
import Derived.Test.YtheaniplpmkhlaaDoorMacA
namespace Go.Proofs.YtheaniplpmkhlaaDoor
open Go.RowKit
/-- The key that is laid out. -/
def keyL (key : ByteArray) : List Int := if 64 < key.size then sha (bys key) else bys key
theorem keyL_byt (key : ByteArray) : Byt (keyL key) := by unfold keyL; split; exact sha_byt _; exact bys_byt _
theorem keyL_length (key : ByteArray) : (keyL key).length ≤ 64 := by
  unfold keyL; split
  · rw [sha_length]; omega
  · rw [bys_length]; omega
/-- The authentication code. -/
def macI (key text : ByteArray) : List Int := sha (padX (keyL key) 54 ++ bys text)
def macL (key text : ByteArray) : List Int := sha (padX (keyL key) 92 ++ macI key text)
set_option maxHeartbeats 1000000 in
set_option maxRecDepth 100000 in
theorem padKey_any (key : ByteArray) (x : Int) (w : World) (hs : key.size ≤ 1000000000000) (hK : RTab w) :
    Calls Tryd.prog 32 #[.string key, .int .u8 x] w fun e w' => (∃ A c, e = .returned (.slice A 64 c) ∧ w'.ownsRow w.heap.size 5 1 (.slice A 64 c) 64 (u8s (padX (keyL key) x))) ∧ Below w.heap.size w w' := by
  obtain ⟨i0, hi, hz0, hz1, hz2⟩ := info_parts winfo_u8
  have HK := Lib.hid hK
  have HKL := Lib.hid (keyL_length key)
  have HKB := Lib.hid (keyL_byt key)
  clear hK
  go_enter Tryd.func32, Tryd.ntmps32
  go_upto_if 12 with (fail)
  go_cut [5] (fun s5 wx => s5 = .string (strOf (keyL key)) ∧ Below w.heap.size w wx)
  case first =>
    by_cases h64 : 64 < key.size
    · have HE : Hid (keyL key = sha (bys key)) := Lib.hid (by unfold keyL; rw [if_pos h64])
      obtain ⟨cb, wb, hcb, hRb, hBb⟩ := run_toBytes (P := Tryd.prog) w 9 22 5 key Tryd.underlying9 Tryd.underlying22 Tryd.underlying5
      have hzb := hBb.size
      go_wp2_with fail
      refine (rsum_any (bys key) (some ⟨w.heap.size, 0, none⟩) key.size cb wb hRb (bys_byt key) hs (HK.out.below hBb)).mono ?_
      rintro e w1 ⟨rfl, hB1⟩
      have hz1 := hB1.size
      clear hcb hRb
      go_wp2_with fail
      refine (bytes32_any (sha (bys key)) w1 (sha_length _)).mono ?_
      rintro e w2 ⟨rfl, hB2⟩
      go_wp2_with fail
      go_meet
      case rel => exact ⟨by rw [HE.out], (hBb.trans (hB1.mono hzb)).trans (hB2.mono (by omega))⟩
    · have HE : Hid (strOf (keyL key) = key) := Lib.hid (by unfold keyL; rw [if_neg h64, strOf_bys])
      go_wp2_with fail
      go_meet
      case rel => exact ⟨by rw [HE.out], Below.refl _ _⟩
  case rest =>
    obtain ⟨rfl, hB⟩ := hcut
    obtain ⟨wd, rfl⟩ : ∃ x : World, x = wc := ⟨_, rfl⟩
    have HA : Hid (∀ i (h : i < (strOf (keyL key)).size), ((strOf (keyL key))[i].toNat : Int) = (keyL key).getD i 0) := Lib.hid (fun i h => by rw [bys_get, bys_strOf _ HKB.out])
    have HN : Hid (∀ i, ¬ i < (strOf (keyL key)).size → (keyL key).getD i 0 = 0) := Lib.hid (fun i h => by
      rw [strOf_size] at h
      rw [List.getD_eq_getElem?_getD, List.getElem?_eq_none (by omega)]; rfl)
    have HT : Hid (∀ t, t < 64 → u8s ((padX (keyL key) x).take t) ++ [.int .u8 (bits .xor .u8 ((keyL key).getD t 0) x)] = u8s ((padX (keyL key) x).take (t + 1))) := Lib.hid (fun t h => padX_take _ _ t h)
    have hks : (strOf (keyL key)).size ≤ 64 := by rw [strOf_size]; exact HKL.out
    have HTF : Hid ((padX (keyL key) x).take 64 = padX (keyL key) x) := Lib.hid (List.take_of_length_le (by rw [padX_length]; omega))
    have HT0 : Hid (u8s ((padX (keyL key) x).take 0) = []) := Lib.hid (by simp [u8s])
    generalize strOf (keyL key) = ks at *
    go_wp2_with fail
    go_loopw [7, 6] (fun i s6 wr => ∃ (t : Nat) (A : Option Addr) (c : Nat), t ≤ 64 ∧ i = .int .i64 t ∧ s6 = .slice A t c ∧ wr.ownsRow w.heap.size 5 1 (.slice A t c) t (u8s ((padX (keyL key) x).take t)) ∧ Below w.heap.size w wr) (fun i _ _ => 64 - (intOf i).toNat)
    case atStart => exact ⟨0, none, 0, by omega, rfl, rfl, by rw [HT0.out]; exact World.ownsRow_nil _ _ _ _, hB⟩
    case round =>
      clear hB
      obtain ⟨t, A, c, ht, rfl, rfl, hown, hB⟩ := hrel
      have hsz := hB.size
      by_cases hlt : t < 64
      · have HT2 := Lib.hid (HT.out t hlt)
        by_cases hk : t < ks.size
        · have hx := HA.out t hk
          generalize (keyL key).getD t 0 = y at *
          go_wp2_with (at_builtin; refine wpList_app rfl (.tmp 28) (.tmp 32) 22 rfl w.heap.size 5 i0 (.int .u8 0) 1 1 Tryd.underlying22 hi hz0 hz1 hz2 rfl (by omega) A t c _ rfl (hown.alloc _) (wr.heap.size + 1) _ 1 1 [.int .u8 (bits .xor .u8 y x)] rfl (RdN.fresh [_] _ _ 1 1 rfl rfl rfl) (wone_u8 _) (by simp only [maxLen]; omega) (by omega) (by simp; omega) ?_; intro A4 c4 w4 hown4 hg4; have hb4 := below_app (hB.alloc (by omega) _) hg4 (hown.alloc _) (Nat.le_refl _) (by simp; omega))
          go_roundw
          case rel => exact ⟨t + 1, A4, c4, by omega, by go_num, rfl, by rw [← HT2.out]; exact hown4, hb4⟩
          case measure => simp [intOf]; omega
        · have hx := HN.out t hk
          rw [hx] at HT2
          clear hx
          go_wp2_with (at_builtin; refine wpList_app rfl (.tmp 28) (.tmp 32) 22 rfl w.heap.size 5 i0 (.int .u8 0) 1 1 Tryd.underlying22 hi hz0 hz1 hz2 rfl (by omega) A t c _ rfl (hown.alloc _) (wr.heap.size + 1) _ 1 1 [.int .u8 (bits .xor .u8 0 x)] rfl (RdN.fresh [_] _ _ 1 1 rfl rfl rfl) (wone_u8 _) (by simp only [maxLen]; omega) (by omega) (by simp; omega) ?_; intro A4 c4 w4 hown4 hg4; have hb4 := below_app (hB.alloc (by omega) _) hg4 (hown.alloc _) (Nat.le_refl _) (by simp; omega))
          go_roundw
          case rel => exact ⟨t + 1, A4, c4, by omega, by go_num, rfl, by rw [← HT2.out]; exact hown4, hb4⟩
          case measure => simp [intOf]; omega
      · obtain rfl : t = 64 := by omega
        rw [HTF.out] at hown
        go_wp2_with fail
        go_ret
        exact ⟨⟨A, c, rfl, hown⟩, hB⟩
set_option maxHeartbeats 1000000 in
set_option maxRecDepth 100000 in
theorem rmac_any (key text : ByteArray) (w : World) (hs : key.size ≤ 1000000000000) (ht : text.size ≤ 100000000000) (hK : RTab w) :
    Calls Tryd.prog 19 #[.string key, .string text] w fun e w' => e = .returned (.string (strOf (macL key text))) ∧ Below w.heap.size w w' := by
  obtain ⟨i0, hi, hz0, hz1, hz2⟩ := info_parts winfo_u8
  have HK := Lib.hid hK
  have HBI : Hid (Byt (padX (keyL key) 54 ++ bys text)) := Lib.hid ((padX_byt _ _).app (bys_byt _))
  have HBO : Hid (Byt (padX (keyL key) 92 ++ bys (strOf (macI key text)))) := Lib.hid ((padX_byt _ _).app (bys_byt _))
  have HLI : Hid ((strOf (macI key text)).size = 32) := Lib.hid (by rw [strOf_size]; exact sha_length _)
  have HML : Hid (sha (padX (keyL key) 92 ++ bys (strOf (macI key text))) = macL key text) := Lib.hid (by rw [bys_strOf _ (by unfold macI; exact sha_byt _)]; rfl)
  have HMI : Hid (sha (padX (keyL key) 54 ++ bys text) = macI key text) := Lib.hid rfl
  have HM32 : Hid ((macI key text).length = 32) := Lib.hid (sha_length _)
  have HL32 : Hid ((macL key text).length = 32) := Lib.hid (sha_length _)
  generalize hsi : strOf (macI key text) = si at *
  generalize hso : strOf (macL key text) = so at *
  generalize macI key text = MI at *
  generalize macL key text = ML at *
  have HSI := Lib.hid hsi
  have HSO := Lib.hid hso
  clear hsi hso
  obtain ⟨N, hN⟩ : ∃ N, N = 64 := ⟨_, rfl⟩
  have HPK : Hid (∀ (x : Int) (W : World), RTab W → Calls Tryd.prog 32 #[.string key, .int .u8 x] W fun e w' => (∃ A c, e = .returned (.slice A N c) ∧ w'.ownsRow W.heap.size 5 1 (.slice A N c) N (u8s (padX (keyL key) x))) ∧ Below W.heap.size W w') := Lib.hid (fun x W h => by rw [hN]; exact padKey_any key x W hs h)
  have hN1 : N ≤ 64 := by omega
  clear hK hN
  go_enter Tryd.func19, Tryd.ntmps19
  go_wp2_with (first
    | (go_at_call 32; with_reducible refine (HPK.out 54 _ HK.out).mono ?_; rintro e w1 ⟨⟨A1, c1, rfl, hown1⟩, hB1⟩; have hz1' := hB1.size)
    | (at_builtin; refine wpList_app_str rfl (.tmp 9) (.tmp 10) 22 9 rfl w.heap.size 5 i0 Tryd.underlying22 Tryd.underlying9 hi hz0 hz1 hz2 A1 N c1 _ rfl hown1 text rfl (by simp only [maxLen]; omega) (by omega) hz1' ?_; intro A2 c2 w2 hown2 hg2; have hb2 := below_app hB1 hg2 hown1 (Nat.le_refl _) hz1'; have hz2' := hb2.size; rw [← u8s_append] at hown2; clear hown1 hg2)
    | (go_at_call 32; with_reducible refine (HPK.out 92 _ (HK.out.below hb2)).mono ?_; rintro e w3 ⟨⟨A3, c3, rfl, hown3⟩, hB3⟩; have hz3' := hB3.size; have hown2' := own_below hown2 hB3; have hb3 := hb2.trans (hB3.mono hz2'); clear hown2)
    | (go_at_call 12; with_reducible refine (rsum_any _ A2 (N + text.size) c2 w3 (Rd.of_own hown2') HBI.out (by omega) (HK.out.below hb3)).mono ?_; rintro e w4 ⟨rfl, hB4⟩; have hz4' := hB4.size; rw [HMI.out]; have hown3' := own_below hown3 hB4; have hb4 := hb3.trans (hB4.mono (by omega)); clear hown3 hown2')
    | (go_at_call 20; with_reducible refine (bytes32_any MI w4 HM32.out).mono ?_; rintro e w5 ⟨rfl, hB5⟩; rw [HSI.out]; have hz5' := hB5.size; have hown5 := own_below hown3' hB5; have hb5 := hb4.trans (hB5.mono (by omega)); clear hown3')
    | (at_builtin; refine wpList_app_str rfl (.tmp 14) (.tmp 17) 22 9 rfl w.heap.size 5 i0 Tryd.underlying22 Tryd.underlying9 hi hz0 hz1 hz2 A3 N c3 _ rfl (hown5.mono hz2') si rfl (by rw [HLI.out]; simp only [maxLen]; omega) (by rw [HLI.out]; omega) (by omega) ?_; intro A6 c6 w6 hown6 hg6; have hb6 := below_app hb5 hg6 (hown5.mono hz2') (Nat.le_refl _) (by omega); have hz6' := hb6.size; rw [← u8s_append] at hown6; clear hown5 hg6)
    | (go_at_call 12; with_reducible refine (rsum_any _ A6 _ c6 w6 (Rd.of_own hown6) HBO.out (by rw [HLI.out]; omega) (HK.out.below hb6)).mono ?_; rintro e w7 ⟨rfl, hB7⟩; have hz7' := hB7.size; rw [HML.out]; have hb7 := hb6.trans (hB7.mono hz6'); clear hown6)
    | (go_at_call 20; with_reducible refine (bytes32_any ML w7 HL32.out).mono ?_; rintro e w8 ⟨rfl, hB8⟩; rw [HSO.out]; have hb8 := hb7.trans (hB8.mono (by omega))))
  all_goals go_ret
  all_goals exact ⟨rfl, hb8⟩
end Go.Proofs.YtheaniplpmkhlaaDoor
