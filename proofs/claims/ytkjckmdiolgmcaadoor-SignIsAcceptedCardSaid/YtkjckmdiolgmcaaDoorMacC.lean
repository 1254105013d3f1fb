/- The walk of hash.Mac. No condition. -/
import Derived.Test.YtkjckmdiolgmcaaDoorMacB
import Derived.Test.YtkjckmdiolgmcaaDoorGA
set_option linter.unusedSimpArgs false
set_option linter.unusedVariables false
namespace Go.Proofs.YtkjckmdiolgmcaaDoor
open Go.RowKit
theorem zero32_run (W : World) : (zeroValue 78).run Tryd.prog W = .ok (.agg (u8s (List.replicate 32 0)).toArray) W := by kernel_rfl
theorem keyL_len64 (key : ByteArray) : (strOf (keyL key)).size ≤ 64 := by rw [strOf_size]; exact keyL_length key
attribute [local go_sem ↓] wp_at_zero wp_at_succ
set_option maxHeartbeats 4000000 in
set_option maxRecDepth 100000 in
theorem mac_any (key text : ByteArray) (w : World) (hs : key.size ≤ 1000000000000) (ht : text.size ≤ 100000000000) (hK : KTab w) :
    Calls Tryd.prog 31 #[.string key, .string text] w fun e w' => e = .returned (.string (strOf (macL key text))) ∧ Below w.heap.size w w' := by
  have HK := Lib.hid hK
  have HKL := Lib.hid (keyL_len64 key)
  have HBK := Lib.hid (bys_strOf _ (keyL_byt key))
  have HML : Hid (sha (padX (keyL key) 92 ++ bys (strOf (macI key text))) = macL key text) := Lib.hid (by rw [bys_strOf _ (by unfold macI; exact sha_byt _)]; rfl)
  have HMI : Hid (sha (padX (keyL key) 54 ++ bys text) = macI key text) := Lib.hid rfl
  have HM32 : Hid ((macI key text).length = 32) := Lib.hid (sha_length _)
  have HL32 : Hid ((macL key text).length = 32) := Lib.hid (sha_length _)
  have HMB : Hid (Byt (macI key text)) := Lib.hid (sha_byt _)
  have HP1 := Lib.hid (padX_byt (keyL key) 54)
  have HP2 := Lib.hid (padX_byt (keyL key) 92)
  have HQ1 := Lib.hid (padX_length (keyL key) 54)
  have HQ2 := Lib.hid (padX_length (keyL key) 92)
  have HKEY : Hid (strOf (keyL key) = if 64 < key.size then strOf (sha (bys key)) else key) := Lib.hid (by unfold keyL; split; rfl; exact strOf_bys _)
  clear hK
  generalize hkk : strOf (keyL key) = kk at *
  generalize keyL key = kl at *
  generalize macI key text = MI at *
  generalize macL key text = ML at *
  have HKK := Lib.hid hkk
  clear hkk
  go_enter Tryd.func31, Tryd.ntmps31
  obtain ⟨w0, hw0⟩ : ∃ w0, w0 = w.alloc (.cells #[.string key] 9) := ⟨_, rfl⟩
  have hE0 : Ext w w0 := by rw [hw0]; exact (Ext.refl _).alloc _
  have hb0 : Blk w0 w.heap.size 9 [.string key] := by rw [hw0]; exact Blk.fresh _ _ _
  go_upto_if 11 with (fail)
  rw [← hw0]
  clear hw0
  go_cut [] (fun wx => Blk wx w.heap.size 9 [.string kk] ∧ Below w.heap.size w wx)
  case first =>
    have c0 := hb0.cell 0
    have f0 := hb0.frozen 0
    simp only [List.getElem?_cons_zero] at c0
    by_cases h64 : 64 < key.size
    · have HE : Hid (kk = strOf (sha (bys key))) := Lib.hid (by rw [HKEY.out, if_pos h64])
      have HE0 := Lib.hid hE0
      obtain ⟨cb, wb, hcb, hRb, hBb⟩ := run_toBytes (P := Tryd.prog) w0 9 43 5 key Tryd.underlying9 Tryd.underlying43 Tryd.underlying5
      have HBB := Lib.hid hBb
      have HRB := Lib.hid hRb
      have hz0 := hb0.lt
      have HB0 := Lib.hid hb0
      clear hE0 hBb hRb hb0
      obtain ⟨U, hU⟩ : ∃ U, U = u8s (sha (bys key)) := ⟨_, rfl⟩
      have HU := Lib.hid hU
      have HU1 : Hid (∀ v ∈ U, v.oneCell' = true) := Lib.hid (by rw [hU]; exact u8s_one _)
      have HL : Hid (U.length = 32) := Lib.hid (by rw [hU]; simp [u8s, sha_length])
      clear hU
      go_wp2_with (first
        | (go_at_call 38; (refine (sum_any (bys key) (some ⟨w0.heap.size, 0, none⟩) key.size cb wb HRB.out (bys_byt key) hs (HK.out.below (HE0.out.next HBB.out))).mono ?_); rintro e w1 ⟨rfl, hB1⟩; rw [← HU.out]; clear hcb; have hE1 := Lib.hid (((Ext.refl w0).next HBB.out).next hB1); have hz1 := hE1.out.size; clear hB1)
        | ((refine wpList_store_fresh rfl 78 (.tmp 5) (.tmp 14) rfl _ w1.heap.size rfl (u8s (List.replicate 32 0)) U 78 (by rfl) (by rfl) rfl (info_32u8.trans (congrArg some HL.out.symm)) HL.out.symm HU1.out ?_); intro w2 hw2 hE2 hz2; have hF2 := Lib.hid (hE1.out.next hE2); have hcv := run_toStr (P := Tryd.prog) Tryd.underlying43 Tryd.underlying5 Tryd.underlying9 (l := sha (bys key)) (by rw [← HU.out]; exact hw2.rd HL.out) 32 (fun h => by omega); rw [← HE.out] at hcv; have HW2 := Lib.hid hw2; have c2 := ((HB0.out.ext hF2.out).cell 0); have f2 := (HB0.out.ext hF2.out).frozen 0; clear hw2 hE2))
      go_meet
      case rel => exact ⟨(HB0.out.ext hF2.out).set 0 _, (HE0.out.next hF2.out).setCell (by simp) _⟩
    · have HE : Hid (kk = key) := Lib.hid (by rw [HKEY.out, if_neg h64])
      go_wp2_with fail
      go_meet
      case rel => exact ⟨by rw [HE.out]; exact hb0, hE0⟩
  case rest =>
    obtain ⟨hbk, hE⟩ := hcut
    obtain ⟨wb, rfl⟩ : ∃ x : World, x = wc := ⟨_, rfl⟩
    have HE : Hid (Ext w wb) := Lib.hid hE
    have HBB := Lib.hid hbk
    have HKB := Lib.hid (HK.out.below hE)
    have hk64 := HKL.out
    clear hE hbk hb0 hE0
    obtain ⟨s1, hs1⟩ : ∃ s, s = strOf (padX kl 54) := ⟨_, rfl⟩
    obtain ⟨s2, hs2⟩ : ∃ s, s = strOf (padX kl 92) := ⟨_, rfl⟩
    obtain ⟨s3, hs3⟩ : ∃ s, s = strOf MI := ⟨_, rfl⟩
    obtain ⟨s4, hs4⟩ : ∃ s, s = strOf ML := ⟨_, rfl⟩
    have HB1 : Hid (bys s1 = padX kl 54) := Lib.hid (by rw [hs1]; exact bys_strOf _ HP1.out)
    have HB2 : Hid (bys s2 = padX kl 92) := Lib.hid (by rw [hs2]; exact bys_strOf _ HP2.out)
    have HZ1 : s1.size ≤ 64 := by rw [hs1, strOf_size, HQ1.out]; omega
    have HZ2 : s2.size ≤ 64 := by rw [hs2, strOf_size, HQ2.out]; omega
    have HZ3 : s3.size ≤ 64 := by rw [hs3, strOf_size, HM32.out]; omega
    rw [← hs3] at HML
    have HS1 := Lib.hid hs1; have HS2 := Lib.hid hs2; have HS3 := Lib.hid hs3; have HS4 := Lib.hid hs4
    clear hs1 hs2 hs3 hs4
    obtain ⟨U, hU⟩ : ∃ U, U = u8s MI := ⟨_, rfl⟩
    have HU := Lib.hid hU
    have HUL : Hid (U.length = 32) := Lib.hid (by rw [hU, u8s_length, HM32.out])
    have HU1 : Hid (∀ v ∈ U, v.oneCell' = true) := Lib.hid (by rw [hU]; exact u8s_one _)
    obtain ⟨V, hV⟩ : ∃ V, V = u8s ML := ⟨_, rfl⟩
    have HV := Lib.hid hV
    have HVL : Hid (V.length = 32) := Lib.hid (by rw [hV, u8s_length, HL32.out])
    have HV1 : Hid (∀ v ∈ V, v.oneCell' = true) := Lib.hid (by rw [hV]; exact u8s_one _)
    clear hU hV
    obtain ⟨Z, hZ⟩ : ∃ Z, Z = u8s (List.replicate 32 0) := ⟨_, rfl⟩
    have hzr : ∀ W, (zeroValue 78).run Tryd.prog W = .ok (.agg Z.toArray) W := by rw [hZ]; exact zero32_run
    have HZL : Hid (Z.length = 32) := Lib.hid (by rw [hZ]; rfl)
    clear hZ
    have HA1 : Hid (([] : List Int).length + s1.size ≤ 4611686018427387904) := Lib.hid (by rw [List.length_nil]; omega)
    have HA2 : Hid ((padX kl 54).length + text.size ≤ 4611686018427387904) := Lib.hid (by rw [HQ1.out]; omega)
    have HA3 : Hid ((padX kl 54 ++ bys text).length ≤ 1000000000000) := Lib.hid (by rw [List.length_append, HQ1.out, bys_length]; omega)
    have HZS : Hid (IsStream initS [] (List.replicate 64 0)) := Lib.hid zero_stream
    go_upto_region 6 with (first
      | (go_at_call 32; (with_reducible refine (begin_any _).mono ?_); rintro e w1 ⟨rfl, hB1⟩; have hE1 := Lib.hid ((Ext.refl wb).next hB1); have hz1 := hE1.out.size; clear hB1)
      | (go_at_call 39; (with_reducible refine (mac1_any kk w.heap.size 54 w1 (HBB.out.ext hE1.out).one (HBB.out.ext hE1.out).lt hk64).mono ?_); rintro e w2 ⟨rfl, hB2⟩; rw [HBK.out, ← HS1.out]; have hE2 := Lib.hid (hE1.out.next hB2); clear hB2)
      | (go_at_call 33; (with_reducible refine (add_any initS [] (List.replicate 64 0) s1 w2 HZS.out HA1.out (HKB.out.below hE2.out)).mono ?_); rintro e w3 ⟨⟨cs, blk, rfl, hI⟩, hB3⟩; rw [List.nil_append, HB1.out] at hI; have HI := Lib.hid hI; have hE3 := Lib.hid (hE2.out.next hB3); clear hB3 hI)
      | (go_at_call 33; (with_reducible refine (add_any cs (padX kl 54) blk text w3 HI.out HA2.out (HKB.out.below hE3.out)).mono ?_); rintro e w4 ⟨⟨cs4, blk4, rfl, hI⟩, hB3⟩; have HI4 := Lib.hid hI; have hE4 := Lib.hid (hE3.out.next hB3); clear hB3 hI)
      | (go_at_call 35; (with_reducible refine (ssum_any cs4 _ blk4 w4 HI4.out HA3.out (HKB.out.below hE4.out)).mono ?_); rintro e w5 ⟨rfl, hB3⟩; rw [HMI.out, ← HU.out]; have hE5 := Lib.hid (hE4.out.next hB3); clear hB3)
      | ((refine wpList_store_fresh rfl 78 (.tmp 7) (.tmp 24) rfl _ w5.heap.size rfl Z U 78 (by rfl) (by rfl) rfl (info_32u8.trans (congrArg some HUL.out.symm)) (HZL.out.trans HUL.out.symm) HU1.out ?_); intro w6 hw6 hE6 hz6; have HE6 := Lib.hid (hE5.out.next hE6); have HW6 := Lib.hid hw6; clear hw6 hE6))
    clear hk64
    have HK6 := Lib.hid (HKB.out.below HE6.out)
    have HB6 := Lib.hid (HBB.out.ext HE6.out)
    obtain ⟨p7, hp7⟩ : ∃ p, p = w5.heap.size := ⟨_, rfl⟩
    rw [← hp7] at HW6 ⊢
    clear hp7
    have HEW : Hid (Ext w w6) := Lib.hid (HE.out.next HE6.out)
    have HCV : Hid (∀ W, Ext w6 W → (convert 43 9 (.slice (some ⟨p7, 0, none⟩) 32 32)).run Tryd.prog W = .ok (.string s3) W) := Lib.hid (fun W h => by
      rw [HS3.out]
      exact run_toStr (P := Tryd.prog) Tryd.underlying43 Tryd.underlying5 Tryd.underlying9 (l := MI) (by rw [← HU.out]; exact (HW6.out.ext h).rd HUL.out) 32 (fun h => by omega))
    have HA4 : Hid (([] : List Int).length + s2.size ≤ 4611686018427387904) := Lib.hid (by rw [List.length_nil]; omega)
    have HA5 : Hid ((padX kl 92).length + s3.size ≤ 4611686018427387904) := Lib.hid (by rw [HQ2.out]; omega)
    have HA6 : Hid ((padX kl 92 ++ bys s3).length ≤ 1000000000000) := Lib.hid (by rw [List.length_append, HQ2.out, bys_length]; omega)
    have hk64 := HKL.out
    have hvl := HVL.out
    have HE6d : Hid (Ext w6 w6.drew) := Lib.hid (Ext.refl w6).drew
    have hcv0 := HCV.out _ HE6d.out
    have hcv0' := fun o => HCV.out _ (((Ext.refl w6).alloc o).drew)
    have HFR : Hid (∀ W : World, Blk (W.alloc (.cells Z.toArray 78)) W.heap.size 78 Z) := Lib.hid (fun W => Blk.fresh W _ Z)
    go_region_with (first
      | (go_at_call 32; (with_reducible refine (begin_any _).mono ?_); rintro e w7 ⟨rfl, hB7⟩; have hE7 : Hid (Ext w6 w7) := Lib.hid (by first | exact HE6d.out.next hB7 | exact (HE6d.out.alloc _).next hB7); (first | (have hz8 : Hid (Blk w7 w6.heap.size 78 Z) := Lib.hid ((HFR.out w6.drew).below hB7 (HFR.out w6.drew).lt)) | skip); have hcv := HCV.out _ hE7.out; have hcv' := fun o => HCV.out _ (hE7.out.alloc o); clear hB7)
      | (go_at_call 39; (with_reducible refine (mac1_any kk w.heap.size 92 _ (by first | exact (HB6.out.ext hE7.out).one | exact (HB6.out.ext (hE7.out.alloc _)).one) (by first | exact (HB6.out.ext hE7.out).lt | exact (HB6.out.ext (hE7.out.alloc _)).lt) hk64).mono ?_); rintro e w8 ⟨rfl, hB8⟩; rw [HBK.out, ← HS2.out]; have hE8 : Hid (Ext w6 w8) := Lib.hid (by first | exact hE7.out.next hB8 | exact (hE7.out.alloc _).next hB8); (first | (have hz8 := Lib.hid (hz8.out.below hB8 hz8.out.lt)) | (have hz8 := Lib.hid ((HFR.out w7).below hB8 (HFR.out w7).lt)) | skip); have hcv := HCV.out _ hE8.out; have hcv' := fun o => HCV.out _ (hE8.out.alloc o); clear hB8)
      | (go_at_call 33; (with_reducible refine (add_any initS [] (List.replicate 64 0) s2 _ HZS.out HA4.out (by first | exact HK6.out.below hE8.out | exact HK6.out.below (hE8.out.alloc _))).mono ?_); rintro e w9 ⟨⟨cs9, blk9, rfl, hI⟩, hB9⟩; rw [List.nil_append, HB2.out] at hI; have HI9 := Lib.hid hI; have hE9 : Hid (Ext w6 w9) := Lib.hid (by first | exact hE8.out.next hB9 | exact (hE8.out.alloc _).next hB9); (first | (have hz8 := Lib.hid (hz8.out.below hB9 hz8.out.lt)) | (have hz8 := Lib.hid ((HFR.out w8).below hB9 (HFR.out w8).lt)) | skip); have hcv := HCV.out _ hE9.out; have hcv' := fun o => HCV.out _ (hE9.out.alloc o); clear hB9 hI)
      | (go_at_call 33; (with_reducible refine (add_any cs9 (padX kl 92) blk9 s3 _ HI9.out HA5.out (by first | exact HK6.out.below hE9.out | exact HK6.out.below (hE9.out.alloc _))).mono ?_); rintro e w10 ⟨⟨cs10, blk10, rfl, hI⟩, hB10⟩; have HI10 := Lib.hid hI; have hE10 : Hid (Ext w6 w10) := Lib.hid (by first | exact hE9.out.next hB10 | exact (hE9.out.alloc _).next hB10); (first | (have hz8 := Lib.hid (hz8.out.below hB10 hz8.out.lt)) | (have hz8 := Lib.hid ((HFR.out w9).below hB10 (HFR.out w9).lt)) | skip); clear hB10 hI)
      | (go_at_call 35; (with_reducible refine (ssum_any cs10 _ blk10 _ HI10.out HA6.out (by first | exact HK6.out.below hE10.out | exact HK6.out.below (hE10.out.alloc _))).mono ?_); rintro e w11 ⟨rfl, hB11⟩; rw [HML.out, ← HV.out]; have hE11 : Hid (Ext w6 w11) := Lib.hid (by first | exact hE10.out.next hB11 | exact (hE10.out.alloc _).next hB11); (first | (have hz8 := Lib.hid (hz8.out.below hB11 hz8.out.lt)) | (have hz8 := Lib.hid ((HFR.out w10).below hB11 (HFR.out w10).lt)) | (have hz8 := Lib.hid (HFR.out w11))); have hst := run_store_blk (P := Tryd.prog) hz8.out (HZL.out.trans HVL.out.symm) HV1.out; clear hB11))
    all_goals
      clear hst hcv0 hcv0'
      have HB12 := Lib.hid (hz8.out.setRow V)
      have hcv2 := run_toStr (P := Tryd.prog) Tryd.underlying43 Tryd.underlying5 Tryd.underlying9 (l := ML) (by rw [← HV.out]; exact HB12.out.rd HVL.out) 32 (fun h => by omega)
      rw [← HS4.out] at hcv2
      go_wp2_with fail
      go_ret
      refine ⟨by rw [HS4.out]; rfl, ?_⟩
      first
        | exact HEW.out.next (hE11.out.setRow (Nat.le_refl _) _)
        | exact HEW.out.next (hE11.out.setRow hE10.out.size _)
        | exact HEW.out.next (hE11.out.setRow hE9.out.size _)
        | exact HEW.out.next (hE11.out.setRow hE8.out.size _)
        | exact HEW.out.next (hE11.out.setRow hE7.out.size _)
        | exact HEW.out.next ((hE11.out.alloc _).setRow hE11.out.size _)
end Go.Proofs.YtkjckmdiolgmcaaDoor
