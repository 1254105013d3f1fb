/- HashOfSeparates: for all tags and lists of parts the law answers true and leaves its arguments as they were. Conditions: none beyond the row's own. -/
import Derived.Test.YtheaniplpmkhlaaDoorSepSpec
import Derived.Deep.CutBlock
import Derived.WideKeyPair
namespace Go.Proofs.YtheaniplpmkhlaaDoor
open Go.RowKit Go.WideShapes Go.ChangeShapes
theorem wp_load44 (dst : Option Tmp) (x : Operand) (ty : TypeId) (pos : String) (after) (guard) (a : Act) (w : World) (K : Act → World → Prop) (Q : Exit → Act → World → Prop) :
    Oper.wp Tryd.prog { dst := dst, op := Op.load 44 x, type := ty, pos := pos, after := after, guard := guard } a w K Q =
      match rowOf 16 w (a.eval x) with
      | some v => K (a.put dst v) w
      | none => wpBare Tryd.prog { dst := dst, op := Op.load 44 x, type := ty, pos := pos, after := after, guard := guard } a w K Q :=
  wp_load_of 44 16 Tryd.underlying44 rfl info_16u8 dst x ty pos after guard a w K Q
set_option maxHeartbeats 16000000 in
set_option maxRecDepth 100000 in
theorem walk_sep (t0 t1 : Int) (h0 : 0 ≤ t0 ∧ t0 ≤ 255) (h1 : 0 ≤ t1 ∧ t1 ≤ 255) (a : List ByteArray) (A : Option Addr) (n c : Nat) (b : List ByteArray) (B : Option Addr) (m d : Nat) (w : World) (ha : Rd w w.heap.size A n (strs a)) (hb : Rd w w.heap.size B m (strs b)) (hn : n ≤ 9223372036854775807) (hm : m ≤ 9223372036854775807) (hK : KTab w) :
    Calls Tryd.prog 8 #[.agg #[.int .u8 t0, .int .u8 t1], .slice A n c, .slice B m d] w fun e w' => e = .returned (.bool true) ∧ Below w.heap.size w w' := by
  have hla : a.length = n := by simpa [strs] using ha.1
  have hlb : b.length = m := by simpa [strs] using hb.1
  have HK := Lib.hid hK; have HA := Lib.hid ha; have HB := Lib.hid hb
  have HLA := Lib.hid hla; have HLB := Lib.hid hlb
  obtain ⟨h00, h01⟩ := h0
  obtain ⟨h10, h11⟩ := h1
  clear hK ha hb hla hlb
  by_cases hfa : fewB a = true
  · by_cases hfb : fewB b = true
    · have HFA := Lib.hid hfa; have HFB := Lib.hid hfb
      have HCA := Lib.hid (few_encs hfa); have HCB := Lib.hid (few_encs hfb)
      clear hfa hfb
      obtain ⟨X, hX⟩ : ∃ X, X = sha (inputB t0 a) := ⟨_, rfl⟩
      obtain ⟨Y, hY⟩ : ∃ Y, Y = sha (inputB t1 b) := ⟨_, rfl⟩
      have HX : Hid (sha (inputB t0 a) = X) := Lib.hid hX.symm
      have HY : Hid (sha (inputB t1 b) = Y) := Lib.hid hY.symm
      have HXL : Hid (X.length = 32) := Lib.hid (by rw [hX]; exact sha_length _)
      have HYL : Hid (Y.length = 32) := Lib.hid (by rw [hY]; exact sha_length _)
      have HXB : Hid (Byt X) := Lib.hid (by rw [hX]; exact sha_byt _)
      have HYB : Hid (Byt Y) := Lib.hid (by rw [hY]; exact sha_byt _)
      clear hX hY
      obtain ⟨U, hU⟩ : ∃ U, U = X.take 16 := ⟨_, rfl⟩
      obtain ⟨V, hV⟩ : ∃ V, V = Y.take 16 := ⟨_, rfl⟩
      have HU : Hid (X.take 16 = U) := Lib.hid hU.symm
      have HV : Hid (Y.take 16 = V) := Lib.hid hV.symm
      have HUL : Hid ((u8s U).length = 16) := Lib.hid (by rw [hU, u8s_length, List.length_take, HXL.out]; decide)
      have HVL : Hid ((u8s V).length = 16) := Lib.hid (by rw [hV, u8s_length, List.length_take, HYL.out]; decide)
      have HXL2 : Hid ((u8s X).length = 32) := Lib.hid (by rw [u8s_length, HXL.out])
      have HYL2 : Hid ((u8s Y).length = 32) := Lib.hid (by rw [u8s_length, HYL.out])
      have HEQ : Hid (∀ W, (Op.equalIn 10000 44 (.agg (u8s U).toArray) (.agg (u8s V).toArray)).run Tryd.prog W = .ok (decide (U = V)) W) := Lib.hid (fun W => by
        have hUb : Byt U := by rw [hU]; exact HXB.out.take _
        have hVb : Byt V := by rw [hV]; exact HYB.out.take _
        have hUl : U.length = 16 := by rw [hU, List.length_take, HXL.out]; decide
        have hVl : V.length = 16 := by rw [hV, List.length_take, HYL.out]; decide
        exact run_equalIn_u8s (P := Tryd.prog) W 9998 44 5 16 Tryd.underlying44 Tryd.underlying5 (fun _ => by kernel_rfl) U V hUb hVb hUl hVl)
      clear hU hV
      obtain ⟨p, hp⟩ : ∃ p, p = inputB t0 a := ⟨_, rfl⟩
      obtain ⟨q, hq⟩ : ∃ p, p = inputB t1 b := ⟨_, rfl⟩
      have HP : Hid (inputB t0 a = p) := Lib.hid hp.symm
      have HQ : Hid (inputB t1 b = q) := Lib.hid hq.symm
      have hpl : p.length ≤ 100000000001 := by rw [hp]; simp only [inputB, List.length_cons]; have := HCA.out; omega
      have hql : q.length ≤ 100000000001 := by rw [hq]; simp only [inputB, List.length_cons]; have := HCB.out; omega
      have HPB : Hid (Byt p) := Lib.hid (by rw [hp]; exact inputB_byt t0 a (by have := HCA.out; omega))
      have HQB : Hid (Byt q) := Lib.hid (by rw [hq]; exact inputB_byt t1 b (by have := HCB.out; omega))
      have HXP : Hid (sha p = X) := Lib.hid (by rw [hp]; exact HX.out)
      have HYQ : Hid (sha q = Y) := Lib.hid (by rw [hq]; exact HY.out)
      have HXU : Hid ((sha (inputB t0 a)).take 16 = U) := Lib.hid (by rw [HX.out]; exact HU.out)
      have HYV : Hid ((sha (inputB t1 b)).take 16 = V) := Lib.hid (by rw [HY.out]; exact HV.out)
      have HPQ2 : Hid (strOf p = strOf q → t0 = t1 ∧ a = b) := Lib.hid (fun h => by
        have h2 := strOf_inj HPB.out HQB.out h
        rw [hp, hq] at h2
        exact inputB_inj ⟨h00, h01⟩ ⟨h10, h11⟩ HFA.out HFB.out h2)
      clear hp hq
      obtain ⟨kp, hkp⟩ : ∃ k, k = p.length := ⟨_, rfl⟩
      obtain ⟨kq, hkq⟩ : ∃ k, k = q.length := ⟨_, rfl⟩
      rw [← hkp] at hpl
      rw [← hkq] at hql
      have HKP := Lib.hid hkp.symm; have HKQ := Lib.hid hkq.symm
      clear hkp hkq
      obtain ⟨Z16, hZ16⟩ : ∃ Z, Z = u8s (List.replicate 16 0) := ⟨_, rfl⟩
      have hzr16 : ∀ W, (zeroValue 44).run Tryd.prog W = .ok (.agg Z16.toArray) W := by rw [hZ16]; exact zero16_run
      have HZ16 : Hid (Z16.length = 16) := Lib.hid (by rw [hZ16]; rfl)
      clear hZ16
      obtain ⟨Z32, hZ32⟩ : ∃ Z, Z = u8s (List.replicate 32 0) := ⟨_, rfl⟩
      have hzr32 : ∀ W, (zeroValue 24).run Tryd.prog W = .ok (.agg Z32.toArray) W := by rw [hZ32]; exact zero32_run
      have HZ32 : Hid (Z32.length = 32) := Lib.hid (by rw [hZ32]; rfl)
      clear hZ32
      go_enter Tryd.func8, Tryd.ntmps8
      go_upto_region 1 with (fail)
      obtain ⟨w0, hw0⟩ : ∃ w0, w0 = w.alloc (.cells #[.int .u8 t0, .int .u8 t1] 48) := ⟨_, rfl⟩
      change Code.wp _ _ _ _ (w.alloc (.cells #[.int .u8 t0, .int .u8 t1] 48))
      rw [← hw0]
      obtain ⟨g, hg⟩ : ∃ g, g = w.heap.size := ⟨_, rfl⟩
      rw [← hg]
      have HW0 : Hid (Blk w0 g 48 [.int .u8 t0, .int .u8 t1]) := Lib.hid (by rw [hw0, hg]; exact Blk.fresh _ _ _)
      have E0 : Hid (Ext w w0) := Lib.hid (by rw [hw0]; exact (Ext.refl w).alloc _)
      clear hw0 hg
      have h3 : (t0 = t1 ∧ n = m) ∨ (t0 = t1 ∧ ¬ n = m) ∨ ¬ t0 = t1 := by omega
      go_upto_region 4 with (first
        | (go_at_call 10; (with_reducible refine (sanity_any w0 (HK.out.below E0.out)).mono ?_); rintro e w1 ⟨rfl, hB⟩; have E1 : Hid (Ext w w1) := Lib.hid (E0.out.next hB); have HW1 := Lib.hid (HW0.out.ext hB); have g0 := HW1.out.cell 0; have g1 := HW1.out.cell 1; simp only [List.getElem?_cons_zero, List.getElem?_cons_succ] at g0 g1; clear hB)
        | (go_at_call_of 13 (Value.slice A n c); (with_reducible refine (few_any a A n c w1 (HA.out.ext' E1.out) hn).mono ?_); rintro e w2 ⟨rfl, rfl⟩; rw [HFA.out])
        | (go_at_call_of 13 (Value.slice B m d); (with_reducible refine (few_any b B m d w1 (HB.out.ext' E1.out) hm).mono ?_); rintro e w2 ⟨rfl, rfl⟩; rw [HFB.out]))
      go_cut [8] (fun s8 wx => ∃ sm : Bool, s8 = .bool sm ∧ (sm = true → t0 = t1 ∧ n = m) ∧ (sm = false → ¬ (t0 = t1 ∧ a = b)) ∧ Ext w1 wx)
      case first =>
        rcases h3 with h3 | h3 | h3
        · go_wp2_with fail
          go_meet
          case rel => exact ⟨true, rfl, fun _ => h3, (fun h => by cases h), Ext.refl w1⟩
        · go_wp2_with fail
          go_meet
          case rel => exact ⟨false, (by simp; omega), (fun h => by cases h), (fun _ h => h3.2 (by rw [← HLA.out, ← HLB.out, h.2])), Ext.refl w1⟩
        · go_wp2_with fail
          go_meet
          case rel => exact ⟨false, rfl, (fun h => by cases h), (fun _ h => h3 h.1), Ext.refl w1⟩
      case rest =>
        obtain ⟨sm, rfl, hs1, hs2, hE1⟩ := hcut
        have HS1 := Lib.hid hs1; have HS2 := Lib.hid hs2; have HE1 := Lib.hid hE1
        obtain ⟨w2, rfl⟩ : ∃ x : World, x = wc := ⟨_, rfl⟩
        clear hs1 hs2 hE1 g0 g1
        go_upto_block 0 with fail
        go_cut [8] (fun s8 wx => ∃ sm : Bool, s8 = .bool sm ∧ (sm = true → t0 = t1 ∧ a = b) ∧ (sm = false → ¬ (t0 = t1 ∧ a = b)) ∧ Ext w1 wx)
        case first =>
          go_wp2_with fail
          go_loopw [8, 9] (fun s8 s9 wr => ∃ (t : Nat) (sm : Bool), t ≤ n ∧ s9 = .int .i64 t ∧ s8 = .bool sm ∧ (sm = true → t0 = t1 ∧ n = m ∧ a.take t = b.take t) ∧ (sm = false → ¬ (t0 = t1 ∧ a = b)) ∧ Ext w1 wr) (fun _ i _ => n - (intOf i).toNat)
          case atStart => exact ⟨0, sm, Nat.zero_le _, rfl, rfl, (fun h => ⟨(HS1.out h).1, (HS1.out h).2, rfl⟩), HS2.out, HE1.out⟩
          case round =>
            clear HS1 HS2 HE1
            obtain ⟨t, sm, ht, rfl, rfl, hs1, hs2, hE⟩ := hrel
            have HS1 := Lib.hid hs1; have HS2 := Lib.hid hs2; have HE := Lib.hid hE
            clear hs1 hs2 hE
            cases sm with
            | false =>
              go_wp2_with fail
              all_goals go_meet
              all_goals exact ⟨false, rfl, (fun h => by cases h), (fun _ => HS2.out trivial), HE.out⟩
            | true =>
              obtain ⟨k1, k2, k3⟩ := HS1.out rfl
              have HK3 := Lib.hid k3; have HK1 := Lib.hid k1; have HK2 := Lib.hid k2
              clear k1 k2 k3
              by_cases hlt : t < n
              · have hlt2 : t < m := by have := HK2.out; omega
                obtain ⟨ba, oa, rfl, hba, hca⟩ := HA.out.2 (by omega)
                obtain ⟨bb, ob, rfl, hbb, hcb⟩ := HB.out.2 (by omega)
                have c0 := ((E1.out.next HE.out).cell (p := ⟨ba, oa + t, none⟩) hba).trans (hca t _ (strs_get a t (by rw [HLA.out]; exact hlt)))
                have c1 := ((E1.out.next HE.out).cell (p := ⟨bb, ob + t, none⟩) hbb).trans (hcb t _ (strs_get b t (by rw [HLB.out]; exact hlt2)))
                have hT := take_eq_succ (a := a) (b := b) (t := t) ByteArray.empty (by rw [HLA.out]; exact hlt) (by rw [HLB.out]; exact hlt2)
                have HT := Lib.hid hT
                clear hca hcb hT
                generalize a.getD t ByteArray.empty = sa at *
                generalize b.getD t ByteArray.empty = sb at *
                go_upto_region 8 with fail
                go_quiet (fail)
                go_wp2_with fail
                refine ⟨⟨t + 1, _, by omega, by go_num, rfl, ?_, ?_, HE.out.drewN _⟩, by simp [intOf]; omega⟩
                · intro h
                  rw [toList_beq] at h
                  refine ⟨HK1.out, HK2.out, ?_⟩
                  have h4 := HT.out
                  rw [h, HK3.out] at h4
                  simpa using h4
                · intro h h5
                  rw [toList_beq] at h
                  have h4 := HT.out
                  rw [h, h5.2] at h4
                  simp at h4
              · obtain rfl : t = n := by omega
                go_wp2_with fail
                go_meet
                have k3 := HK3.out
                have k2 := HK2.out
                rw [List.take_of_length_le (by rw [HLA.out]; exact Nat.le_refl _), List.take_of_length_le (by rw [HLB.out]; omega)] at k3
                exact ⟨true, rfl, (fun _ => ⟨HK1.out, k3⟩), (fun h => by cases h), HE.out⟩
        case rest =>
          clear HS1 HS2
          obtain ⟨sm, rfl, hs1, hs2, hE⟩ := hcut
          have HS1 := Lib.hid hs1; have HS2 := Lib.hid hs2
          obtain ⟨w3, rfl⟩ : ∃ x : World, x = wc := ⟨_, rfl⟩
          have E3 : Hid (Ext w w3) := Lib.hid (E1.out.next hE)
          have HW3 := Lib.hid (HW1.out.ext hE)
          have g0 := HW3.out.cell 0; have g1 := HW3.out.cell 1
          simp only [List.getElem?_cons_zero, List.getElem?_cons_succ] at g0 g1
          clear hs1 hs2 hE HE1
          have hn9 : n ≤ 9223372036854775807 := hn
          go_upto_region 11 with (first
            | (go_at_call_of 23 (Value.slice A n c); (with_reducible refine (input_any t0 a A n c w3 (HA.out.ext' E3.out) hn HCA.out).mono ?_); rintro e w4 ⟨⟨A4, c4, rfl, ho⟩, hB⟩; have E4 : Hid (Ext w w4) := Lib.hid (E3.out.next hB); have HW4 := Lib.hid (HW3.out.ext hB); rw [HP.out, HKP.out] at ho ⊢; have R4 := Lib.hid (Rd.of_own ho); have g2 := HW4.out.cell 0; have g3 := HW4.out.cell 1; simp only [List.getElem?_cons_zero, List.getElem?_cons_succ] at g2 g3; clear hB ho)
            | (go_at_call_of 23 (Value.slice B m d); (with_reducible refine (input_any t1 b B m d w4 (HB.out.ext' E4.out) hm HCB.out).mono ?_); rintro e w5 ⟨⟨A5, c5, rfl, ho⟩, hB⟩; have E5 : Hid (Ext w w5) := Lib.hid (E4.out.next hB); have HW5 := Lib.hid (HW4.out.ext hB); rw [HQ.out, HKQ.out] at ho ⊢; have R5 := Lib.hid (Rd.of_own ho); have R45 := Lib.hid (R4.out.ext' hB); clear hB ho))
          clear g0 g1 g2 g3
          have g0 := HW5.out.cell 0; have g1 := HW5.out.cell 1
          simp only [List.getElem?_cons_zero, List.getElem?_cons_succ] at g0 g1
          cases sm with
          | true =>
            obtain ⟨k1, k2⟩ := HS1.out rfl
            have HPQ : Hid (strOf p = strOf q) := Lib.hid (by rw [← HP.out, ← HQ.out, k1, k2])
            clear k1 k2 g0 g1 hzr16 hzr32
            obtain ⟨S, hS⟩ : ∃ S, S = strOf p := ⟨_, rfl⟩
            have hcv1 := run_toStr (P := Tryd.prog) Tryd.underlying22 Tryd.underlying5 Tryd.underlying9 R45.out c4 (opt_cases A4 _)
            have hcv2 := run_toStr (P := Tryd.prog) Tryd.underlying22 Tryd.underlying5 Tryd.underlying9 R5.out c5 (opt_cases A5 _)
            rw [← HPQ.out, ← hS] at hcv2
            rw [← hS] at hcv1
            clear hS
            go_wp2_with fail
            go_ret
            exact ⟨rfl, E5.out⟩
          | false =>
            have hne := HS2.out rfl
            have hnp : ¬ strOf p = strOf q := fun h => hne (HPQ2.out h)
            have HNP := Lib.hid hnp
            clear hne hnp
            have L4_5 := R45; have L5_5 := R5
            have hkp2 : kp ≤ 1000000000000 := by omega
            have hkq2 : kq ≤ 1000000000000 := by omega
            go_upto_region 17 with (first
            | (go_at_call_of 21 (Value.slice A n c); (with_reducible refine (of_any t0 a A n c w5 (HA.out.ext' E5.out) hn HCA.out (HK.out.below E5.out)).mono ?_); rintro e w6 ⟨rfl, hB⟩; rw [HXU.out]; have E6 : Hid (Ext w w6) := Lib.hid (E5.out.next hB); have L4_6 := Lib.hid (L4_5.out.ext' hB); have L5_6 := Lib.hid (L5_5.out.ext' hB); have g2 := (HW5.out.ext hB).cell 0; have HW6 := Lib.hid (HW5.out.ext hB); clear hB)
            | ((refine wpList_store_fresh rfl 44 (.tmp 12) (.tmp 81) rfl _ w6.heap.size rfl Z16 (u8s U) 44 (by rfl) (by rfl) rfl (info_16u8.trans (congrArg some HUL.out.symm)) (HZ16.out.trans HUL.out.symm) (u8s_one U) ?_); intro w7 hw hE hz; have E7 : Hid (Ext w w7) := Lib.hid (E6.out.next hE); have D12 := Lib.hid hw; obtain ⟨p12, hp12⟩ : ∃ p, p = w6.heap.size := ⟨_, rfl⟩; rw [← hp12] at D12 ⊢; have L4_7 := Lib.hid (L4_6.out.ext' hE); have L5_7 := Lib.hid (L5_6.out.ext' hE); have HW7 := Lib.hid (HW6.out.ext hE); have g4 := HW7.out.cell 0; have g5 := HW7.out.cell 1; simp only [List.getElem?_cons_zero, List.getElem?_cons_succ] at g4 g5; clear hp12 hw hE hz)
            | (go_at_call_of 21 (Value.slice B m d); (with_reducible refine (of_any t1 b B m d w7 (HB.out.ext' E7.out) hm HCB.out (HK.out.below E7.out)).mono ?_); rintro e w8 ⟨rfl, hB⟩; rw [HYV.out]; have E8 : Hid (Ext w w8) := Lib.hid (E7.out.next hB); have L4_8 := Lib.hid (L4_7.out.ext' hB); have L5_8 := Lib.hid (L5_7.out.ext' hB); have D12_8 := Lib.hid (D12.out.ext hB); clear hB)
            | ((refine wpList_store_fresh rfl 44 (.tmp 13) (.tmp 86) rfl _ w8.heap.size rfl Z16 (u8s V) 44 (by rfl) (by rfl) rfl (info_16u8.trans (congrArg some HVL.out.symm)) (HZ16.out.trans HVL.out.symm) (u8s_one V) ?_); intro w9 hw hE hz; have E9 : Hid (Ext w w9) := Lib.hid (E8.out.next hE); have D13 := Lib.hid hw; obtain ⟨p13, hp13⟩ : ∃ p, p = w8.heap.size := ⟨_, rfl⟩; rw [← hp13] at D13 ⊢; have L4_9 := Lib.hid (L4_8.out.ext' hE); have L5_9 := Lib.hid (L5_8.out.ext' hE); have D12_9 := Lib.hid (D12_8.out.ext hE); clear hp13 hw hE hz)
            | (go_at_call_of 11 (Value.slice A4 kp c4); (with_reducible refine (sum_any p A4 kp c4 w9 L4_9.out HPB.out (by omega) (HK.out.below E9.out)).mono ?_); rintro e w10 ⟨rfl, hB⟩; rw [HXP.out]; have E10 : Hid (Ext w w10) := Lib.hid (E9.out.next hB); have L4_10 := Lib.hid (L4_9.out.ext' hB); have L5_10 := Lib.hid (L5_9.out.ext' hB); have D12_10 := Lib.hid (D12_9.out.ext hB); have D13_10 := Lib.hid (D13.out.ext hB); clear hB)
            | ((refine wpList_store_fresh rfl 24 (.tmp 14) (.tmp 88) rfl _ w10.heap.size rfl Z32 (u8s X) 24 (by rfl) (by rfl) rfl (info_32u8.trans (congrArg some HXL2.out.symm)) (HZ32.out.trans HXL2.out.symm) (u8s_one X) ?_); intro w11 hw hE hz; have E11 : Hid (Ext w w11) := Lib.hid (E10.out.next hE); have D14 := Lib.hid hw; obtain ⟨p14, hp14⟩ : ∃ p, p = w10.heap.size := ⟨_, rfl⟩; rw [← hp14] at D14 ⊢; have L4_11 := Lib.hid (L4_10.out.ext' hE); have L5_11 := Lib.hid (L5_10.out.ext' hE); have D12_11 := Lib.hid (D12_10.out.ext hE); have D13_11 := Lib.hid (D13_10.out.ext hE); clear hp14 hw hE hz)
            | (go_at_call_of 11 (Value.slice A5 kq c5); (with_reducible refine (sum_any q A5 kq c5 w11 L5_11.out HQB.out (by omega) (HK.out.below E11.out)).mono ?_); rintro e w12 ⟨rfl, hB⟩; rw [HYQ.out]; have E12 : Hid (Ext w w12) := Lib.hid (E11.out.next hB); have L4_12 := Lib.hid (L4_11.out.ext' hB); have L5_12 := Lib.hid (L5_11.out.ext' hB); have D12_12 := Lib.hid (D12_11.out.ext hB); have D13_12 := Lib.hid (D13_11.out.ext hB); have D14_12 := Lib.hid (D14.out.ext hB); clear hB)
            | ((refine wpList_store_fresh rfl 24 (.tmp 15) (.tmp 90) rfl _ w12.heap.size rfl Z32 (u8s Y) 24 (by rfl) (by rfl) rfl (info_32u8.trans (congrArg some HYL2.out.symm)) (HZ32.out.trans HYL2.out.symm) (u8s_one Y) ?_); intro w13 hw hE hz; have E13 : Hid (Ext w w13) := Lib.hid (E12.out.next hE); have D15 := Lib.hid hw; obtain ⟨p15, hp15⟩ : ∃ p, p = w12.heap.size := ⟨_, rfl⟩; rw [← hp15] at D15 ⊢; have L4_13 := Lib.hid (L4_12.out.ext' hE); have L5_13 := Lib.hid (L5_12.out.ext' hE); have D12_13 := Lib.hid (D12_12.out.ext hE); have D13_13 := Lib.hid (D13_12.out.ext hE); have D14_13 := Lib.hid (D14_12.out.ext hE); clear hp15 hw hE hz))
            clear hzr16 hzr32
            have HX32 := HXL.out; have HY32 := HYL.out
            go_wp2_with fail
            go_loopw [16, 17] (fun s16 s17 wr => ∃ (t : Nat) (cl : Bool), t ≤ 16 ∧ s17 = .int .i64 t ∧ s16 = .bool cl ∧ cl = decide (X.take t = Y.take t) ∧ Ext w13 wr) (fun _ i _ => 16 - (intOf i).toNat)
            case atStart => exact ⟨0, true, by omega, rfl, rfl, by simp, Ext.refl w13⟩
            case round =>
              obtain ⟨t, cl, ht, rfl, rfl, hcl, hE⟩ := hrel
              have HE := Lib.hid hE; have HCL := Lib.hid hcl
              clear hE hcl
              by_cases hlt : t < 16
              · have c0 := (D14_13.out.ext HE.out).cell t
                have c1 := (D15.out.ext HE.out).cell t
                rw [u8s_get _ _ (by omega)] at c0 c1
                have hT := take_eq_succ (a := X) (b := Y) (t := t) 0 (by omega) (by omega)
                have HT := Lib.hid hT
                clear hT HX32 HY32
                generalize X.getD t 0 = xa at *
                generalize Y.getD t 0 = ya at *
                cases cl with
                | true =>
                  go_upto_region 21 with fail
                  go_quiet (fail)
                  go_wp2_with fail
                  refine ⟨⟨t + 1, _, by omega, by go_num, rfl, ?_, HE.out.drewN _⟩, by simp [intOf]; omega⟩
                  rw [HT.out, ← HCL.out, Bool.true_and, Bool.eq_iff_iff]
                  simp
                | false =>
                  go_upto_region 21 with fail
                  go_quiet (fail)
                  go_wp2_with fail
                  refine ⟨⟨t + 1, _, by omega, by go_num, rfl, ?_, HE.out.drewN _⟩, by simp [intOf]; omega⟩
                  rw [HT.out, ← HCL.out, Bool.false_and]
              · obtain rfl : t = 16 := by omega
                have hcv1 := run_toStr (P := Tryd.prog) Tryd.underlying22 Tryd.underlying5 Tryd.underlying9 (L4_13.out.ext' HE.out) c4 (opt_cases A4 _)
                have hcv2 := run_toStr (P := Tryd.prog) Tryd.underlying22 Tryd.underlying5 Tryd.underlying9 (L5_13.out.ext' HE.out) c5 (opt_cases A5 _)
                have hq := HEQ.out
                have hcl := HCL.out
                rw [HU.out, HV.out] at hcl
                have hbe : ((strOf p).toList == (strOf q).toList) = false := by rw [toList_beq, decide_eq_false HNP.out]
                generalize strOf p = S at *
                generalize strOf q = T at *
                have D12E := Lib.hid (D12_13.out.ext HE.out); have D13E := Lib.hid (D13_13.out.ext HE.out)
                go_wp2_with (first
                  | (refine wpList_load_want (by rfl) 44 (.tmp 12) (by rfl) p12 (by rfl) D12E.out Tryd.underlying44 rfl (info_16u8.trans (congrArg some HUL.out.symm)) ?_)
                  | (refine wpList_load_want (by rfl) 44 (.tmp 13) (by rfl) p13 (by rfl) D13E.out Tryd.underlying44 rfl (info_16u8.trans (congrArg some HVL.out.symm)) ?_))
                go_ret
                exact ⟨rfl, E13.out.next HE.out⟩
    · have HFA : Hid (fewB a = true) := Lib.hid hfa
      have HFB : Hid (fewB b = false) := Lib.hid (by simpa using hfb)
      clear hfa hfb
      go_enter Tryd.func8, Tryd.ntmps8
      go_upto_region 1 with (fail)
      obtain ⟨w0, hw0⟩ : ∃ w0, w0 = w.alloc (.cells #[.int .u8 t0, .int .u8 t1] 48) := ⟨_, rfl⟩
      change Code.wp _ _ _ _ (w.alloc (.cells #[.int .u8 t0, .int .u8 t1] 48))
      rw [← hw0]
      have E0 : Hid (Ext w w0) := Lib.hid (by rw [hw0]; exact (Ext.refl w).alloc _)
      clear hw0
      go_wp2_with (first
        | (go_at_call 10; (with_reducible refine (sanity_any w0 (HK.out.below E0.out)).mono ?_); rintro e w1 ⟨rfl, hB⟩; have E1 : Hid (Ext w w1) := Lib.hid (E0.out.next hB); clear hB)
        | (go_at_call_of 13 (Value.slice A n c); (with_reducible refine (few_any a A n c w1 (HA.out.ext' E1.out) hn).mono ?_); rintro e w2 ⟨rfl, rfl⟩; rw [HFA.out])
        | (go_at_call_of 13 (Value.slice B m d); (with_reducible refine (few_any b B m d w1 (HB.out.ext' E1.out) hm).mono ?_); rintro e w2 ⟨rfl, rfl⟩; rw [HFB.out]))
      go_ret
      exact ⟨rfl, E1.out⟩
  · have HFA : Hid (fewB a = false) := Lib.hid (by simpa using hfa)
    clear hfa
    go_enter Tryd.func8, Tryd.ntmps8
    go_upto_region 1 with (fail)
    obtain ⟨w0, hw0⟩ : ∃ w0, w0 = w.alloc (.cells #[.int .u8 t0, .int .u8 t1] 48) := ⟨_, rfl⟩
    change Code.wp _ _ _ _ (w.alloc (.cells #[.int .u8 t0, .int .u8 t1] 48))
    rw [← hw0]
    have E0 : Hid (Ext w w0) := Lib.hid (by rw [hw0]; exact (Ext.refl w).alloc _)
    clear hw0
    go_wp2_with (first
      | (go_at_call 10; (with_reducible refine (sanity_any w0 (HK.out.below E0.out)).mono ?_); rintro e w1 ⟨rfl, hB⟩; have E1 : Hid (Ext w w1) := Lib.hid (E0.out.next hB); clear hB)
      | (go_at_call_of 13 (Value.slice A n c); (with_reducible refine (few_any a A n c w1 (HA.out.ext' E1.out) hn).mono ?_); rintro e w2 ⟨rfl, rfl⟩; rw [HFA.out])
      | (go_at_call_of 13 (Value.slice B m d); (with_reducible refine (few_any b B m d w1 (HB.out.ext' E1.out) hm).mono ?_); rintro e w2 ⟨rfl, rfl⟩; rw [HFB.out]))
    go_ret
    exact ⟨rfl, E1.out⟩
theorem arr2 : WideMaps.ArrKey Tryd.prog 48 5 2 := ⟨Tryd.underlying48, by kernel_rfl, by kernel_rfl, by kernel_rfl⟩
namespace fnHashOfSeparates
theorem params_hashOfSeparates : (Tryd.f8.params.toList.all fun t => Tryd.prog.readableRec t && decide (t < Tryd.prog.types.size)) = true := by kernel_rfl
theorem contract (H : Type) (enc : TypeId × Value → H) (W : World) (base : Nat) (args : Array Value) (ds gs : List (DataW H)) (before : List MemPlace)
    (hval : ∀ (j : Nat) t v, Tryd.f8.params[j]? = some t → args[j]? = some v → Value.okWide Tryd.prog W .any base t v)
    (hW : DataW.Whole enc Tryd.prog Tryd.f8.params.toList Rows.hashOfSeparatesSpec.vars false W args.toList ds gs before) (hL : laidMetH Tryd.prog Rows.hashOfSeparatesRow.laid W) :
    Calls Tryd.prog 8 args W fun e W' => ∃ v, e = .returned v ∧ Rows.hashOfSeparatesSpec.post enc Tryd.prog Tryd.f8 false true false false W args v W' := by
  have hW' := hW
  obtain ⟨p, q, hA0, _, _, _, _⟩ := hW
  have hA : DataW.TrodAll enc Tryd.prog W 0 (fun _ => true) true Tryd.f8.params.toList args.toList ds p := hA0
  rw [Tryd.params8] at hA hval
  obtain ⟨v0, vs0, d0, ds0, p0, q0, hargs, e0d, e0p, h0, r0⟩ := trodAll_cons hA
  obtain ⟨v1, vs1, d1, ds1, p1, q1, e1, e1d, e1p, h1, r1⟩ := trodAll_cons r0
  obtain ⟨v2, vs2, d2, ds2, p2, q2, e2, e2d, e2p, h2, r2⟩ := trodAll_cons r1
  obtain ⟨en1, en2, en3⟩ := trodAll_nil r2
  obtain rfl : args = #[v0, v1, v2] := by cases args; simp_all
  clear hA hA0
  obtain ⟨t0, t1, rfl, _, _, ht0, ht1⟩ := WideMaps.open_pair arr2 Tryd.underlying5 (hval 0 _ v0 rfl rfl) h0
  have h00 : 0 ≤ t0 ∧ t0 ≤ 255 := by simp [Lit.wf, IntKind.min, IntKind.max, IntKind.bits, IntKind.signed] at ht0; omega
  have h01 : 0 ≤ t1 ∧ t1 ≤ 255 := by simp [Lit.wf, IntKind.min, IntKind.max, IntKind.bits, IntKind.signed] at ht1; omega
  obtain ⟨A, n, c, l, rfl, hR, hwf, hnc, hcm⟩ := open_strl Tryd.underlying27 Tryd.underlying9 cellsstr (hval 1 _ v1 rfl rfl) h1
  obtain ⟨B, m, d, k, rfl, hRb, hwfb, hmd, hdm⟩ := open_strl Tryd.underlying27 Tryd.underlying9 cellsstr (hval 2 _ v2 rfl rfl) h2
  have hn : n ≤ 9223372036854775807 := by unfold maxLen at hcm; omega
  have hm : m ≤ 9223372036854775807 := by unfold maxLen at hdm; omega
  refine (walk_sep t0 t1 h00 h01 l A n c k B m d W hR hRb hn hm (laid_k hL)).mono fun e W' ⟨he, hg⟩ => ⟨_, he, ?_⟩
  exact post_law hW' laidOut (params_ok params_hashOfSeparates) 4 rfl Tryd.underlying4 rfl (fun ds h => by
    rw [Tryd.params8] at h
    match ds, h with
    | [_, _, _], _ => rfl) hg
noncomputable def laidWorld (os : Os) : World :=
  { World.holding Tryd.prog os ⟨#[], #[], []⟩ with heap := ((World.holding Tryd.prog os ⟨#[], #[], []⟩).heap.modify 1 fun
      | .cells _ t frozen => .cells (u32s kc).toArray t frozen
      | o => o) }
theorem laid_met (os : Os) : laidMet Tryd.prog Rows.hashOfSeparatesRow.laid ((laidWorld os).forCall (fun _ _ => 0) ⟨#[], #[.agg #[.int .u8 0, .int .u8 0], .slice none 0 0, .slice none 0 0], []⟩).memory :=
  laidMet_of_run' 8 (by kernel_rfl) (by kernel_rfl)
theorem reads (os : Os) {H : Type} (enc : TypeId × Value → H) : ∃ places, DataW.whole enc Tryd.prog ((laidWorld os).forCall (fun _ _ => 0) ⟨#[], #[.agg #[.int .u8 0, .int .u8 0], .slice none 0 0, .slice none 0 0], []⟩).memory Tryd.f8.params.toList Rows.hashOfSeparatesSpec.vars false (#[.agg #[.int .u8 0, .int .u8 0], .slice none 0 0, .slice none 0 0] : Array Value).toList 8 = some ([.agg [.lit (.int .u8 0), .lit (.int .u8 0)], .nil, .nil], [], places) :=
  ⟨[], by kernel_rfl⟩
set_option maxRecDepth 100000 in
theorem lifted (os : Os) (started : os.Started) (H : Type) (enc : TypeId × Value → H) (F : Stop.Interp) :
    ReturnsInHanded {} Tryd.checked os 8 .any ((OpenSpec.ofChange Rows.hashOfSeparatesSpec).preRow enc Tryd.prog Tryd.f8 Rows.hashOfSeparatesRow.domain false Rows.hashOfSeparatesRow.laid) (((OpenSpec.ofChange Rows.hashOfSeparatesSpec).at F).post enc Tryd.prog Tryd.f8 false true false false) := by
  obtain ⟨places, hx⟩ := reads os enc
  refine returnsInHanded_of_row (C := Tryd.checked) (s := OpenSpec.ofChange Rows.hashOfSeparatesSpec) own started (by kernel_rfl) Tryd.func8
    (witness_row_at (enc := enc) (C := Tryd.checked) false (laidWorld os) #[.agg #[.int .u8 0, .int .u8 0], .slice none 0 0, .slice none 0 0] rfl (by kernel_rfl) (by kernel_rfl) (by kernel_rfl)
      (OpenSpec.preRow_of_cond 8 hx (by kernel_rfl) (fun k hk => by cases hk) (by kernel_rfl) (laid_met os))) ?_
  intro W base args ds gs before hval hW _ _ _ hL _ _
  exact contract H enc W base args ds gs before hval hW hL
theorem said : Rows.HashOfSeparatesSaid :=
  OpenClaim.holds_of_cond 8 Tryd.f8 rfl rfl rfl rfl rfl rfl rfl ⟨rfl, rfl, rfl, rfl, rfl⟩ rfl rfl rfl rfl rfl (by kernel_rfl) Tryd.func8 (by kernel_rfl)
    (of_decide_eq_true (by kernel_rfl)) (by unfold Func.isWrapper; first | (rw [if_pos (by decide +kernel)]; kernel_rfl) | (rw [if_neg (by decide +kernel)]; exact ⟨rfl, rfl⟩))
    (fun os started H enc _ F => by rw [OpenClaim.pre_eq_preRow]; exact lifted os started H enc F)
theorem plain (f : FuncId) (fn : Func) (hf : Tryd.pinned.checked.prog.funcNamed "splicery/splicerylaw02.HashOfSeparates" = some f) (hfn : Tryd.pinned.checked.prog.funcs[f]? = some fn) :
    false = Tryd.pinned.checked.prog.looks [] ∧ ∀ (j : Nat) t, fn.params[j]? = some t → Tryd.pinned.checked.prog.wantsStandIn t = false := by
  obtain rfl : f = 8 := Option.some.inj ((show Tryd.prog.funcNamed "splicery/splicerylaw02.HashOfSeparates" = some 8 by kernel_rfl).symm.trans hf) |>.symm
  obtain rfl : fn = Tryd.f8 := (Option.some.inj (Tryd.func8.symm.trans hfn)).symm
  refine ⟨by kernel_rfl, fun j t ht => ?_⟩
  rw [Tryd.params8] at ht
  have := Array.mem_of_getElem? ht
  simp only [List.mem_toArray, List.mem_cons, List.not_mem_nil, or_false] at this
  rcases this with rfl | rfl | rfl
  · exact (show Tryd.prog.wantsStandIn 48 = false by kernel_rfl)
  · exact (show Tryd.prog.wantsStandIn 27 = false by kernel_rfl)
  · exact (show Tryd.prog.wantsStandIn 27 = false by kernel_rfl)
theorem card : Rows.HashOfSeparatesCardSaid :=
  Claim7.holds_tied_plain_at .later [] _ _ _ _ said (fun _ h => by cases h) (by kernel_rfl) (fun _ h => by cases h) hashOfSeparates_row_tie rfl ⟨rfl, rfl⟩ (by kernel_rfl) rfl plain (by kernel_rfl)
end fnHashOfSeparates
#print axioms fnHashOfSeparates.card
end Go.Proofs.YtheaniplpmkhlaaDoor
