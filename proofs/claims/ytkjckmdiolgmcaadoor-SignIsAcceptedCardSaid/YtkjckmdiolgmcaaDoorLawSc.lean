/- SignIsAccepted: for every seed byte, height up to 2, index and message the law answers true and leaves its arguments as they were. Conditions: the table of constants is laid. -/
import Derived.Test.YtkjckmdiolgmcaaDoorLawSg
import Derived.Test.YtkjckmdiolgmcaaDoorSgK
import Derived.Laws.StructEq
set_option linter.unusedSimpArgs false
set_option linter.unusedVariables false
namespace Go.Proofs.YtkjckmdiolgmcaaDoor
open Go.RowKit Go.WideShapes Go.ChangeShapes
section
attribute [local go_sem ↓] wp_at_zero wp_at_succ
theorem strOf_app (a b : List Int) : strOf a ++ strOf b = strOf (a ++ b) := by
  apply ByteArray.ext
  simp [strOf]
theorem cut_last (L : List Int) (hB : Byt L) (y : Nat) : (strOf L).extract 0 y = strOf (L.take y) := by
  rw [← strOf_bys ((strOf L).extract 0 y), bys_extract, bys_strOf L hB]
  simp
theorem tmod3 (H : Int) (h0 : 0 ≤ H) (p : Nat) : H.tmod (p : Int) = ((H.toNat % p : Nat) : Int) := by
  rw [Int.tmod_eq_emod_of_nonneg h0]
  obtain ⟨n, rfl⟩ : ∃ n : Nat, H = (n : Int) := ⟨H.toNat, by omega⟩
  rw [Int.toNat_natCast]
  exact (Int.natCast_emod n p).symm
set_option maxHeartbeats 16000000 in
set_option maxRecDepth 100000 in
theorem walk_acc (c H I : Int) (msg : ByteArray) (w : World) (hc0 : 0 ≤ c) (hc1 : c ≤ 255) (hH0 : 0 ≤ H) (hH1 : H ≤ 255) (hI0 : 0 ≤ I) (hI1 : I ≤ 255) (hK : KTab w) :
    Calls Tryd.prog 4 #[.int .u8 c, .int .u8 H, .int .u8 I, .string msg] w fun e w' => e = .returned (.bool true) ∧ Ext w w' := by
  have HK := Lib.hid hK
  have HKW : Hid (∀ W, Ext w W → KTab W) := Lib.hid (fun W h => HK.out.below h)
  by_cases hm : msg.size ≤ 200
  · obtain ⟨h, hh⟩ : ∃ h, h = H.toNat % 3 := ⟨_, rfl⟩
    obtain ⟨p, hp⟩ : ∃ p, p = 2 ^ h := ⟨_, rfl⟩
    have hpp : p = 1 ∨ p = 2 ∨ p = 4 := by
      have h3 : h = 0 ∨ h = 1 ∨ h = 2 := by omega
      rcases h3 with e | e | e <;> rw [hp, e] <;> decide
    have hp4 : p ≤ 4 := by omega
    have hp1 : 1 ≤ p := by omega
    obtain ⟨i, hi⟩ : ∃ i, i = I.toNat % p := ⟨_, rfl⟩
    have hip : i < p := by rw [hi]; exact Nat.mod_lt _ (by omega)
    have hHm : H.tmod 3 = (h : Int) := by rw [hh]; exact tmod3 H hH0 3
    have hIm : I.tmod (p : Int) = (i : Int) := by rw [hi]; exact tmod3 I hI0 p
    have hp2 : (2 : Int) ^ h = (p : Int) := by rw [hp]; exact_mod_cast rfl
    have h2 : h ≤ 2 := by omega
    obtain ⟨S, hS⟩ : ∃ s, s = strOf (seedL c) := ⟨_, rfl⟩
    have hs32 : S.size = 32 := by rw [hS, strOf_size]; rfl
    obtain ⟨PB, hPB⟩ : ∃ p, p = nodeV S h 0 := ⟨_, rfl⟩
    have HPD : Hid (Dig PB) := Lib.hid (by rw [hPB]; exact nodeV_dig _ _ _)
    have HPL : Hid ((u8s PB).length = 16) := Lib.hid (by rw [u8s_len]; exact HPD.out.l)
    obtain ⟨X, hX⟩ : ∃ x, x = sigX S h i (sgM S h i msg) := ⟨_, rfl⟩
    have hXB : Byt X := by rw [hX]; exact sigX_byt _ _ _ _
    have hXL : X.length = (68 + h) * 16 := by rw [hX]; exact sigX_len _ _ _ _
    obtain ⟨SG, hSG⟩ : ∃ s, s = strOf (signL S h i msg) := ⟨_, rfl⟩
    have hSX : SG = strOf (encInt (i : Int) ++ X) := by rw [hSG, signL_X, hX]
    have hEB : Byt (encInt (i : Int)) := encInt_byt _ (by omega) (by omega)
    have hle := encInt_le9 (i : Int) (by omega) (by omega)
    obtain ⟨z, hz⟩ : ∃ z, z = SG.size := ⟨_, rfl⟩
    have hzl : z = (encInt (i : Int)).length + X.length := by rw [hz, hSX, strOf_size, List.length_append]
    have HSD : Hid (∀ W, Calls Tryd.prog 10 #[.int .u8 c] W fun e w' => e = .returned (.string S) ∧ Ext W w') := Lib.hid (fun W => by rw [hS]; exact seed_any c W hc0 hc1)
    have HPU : Hid (∀ W, KTab W → Calls Tryd.prog 9 #[.string S, .int .i64 (h : Int)] W fun e w' => e = .returned (.tuple #[.agg (u8s PB).toArray, .int .i64 0]) ∧ Ext W w') := Lib.hid (fun W hW => by rw [hPB]; exact public_any S h W hs32 (by omega) hW)
    have HSI : Hid (∀ W, KTab W → Calls Tryd.prog 11 #[.string S, .int .i64 (h : Int), .int .i64 (i : Int), .string msg] W fun e w' => e = .returned (.tuple #[.string SG, .int .i64 0]) ∧ Ext W w') := Lib.hid (fun W hW => by rw [hSG]; exact sign_any S msg h i p W hs32 (by omega) hp hip (by omega) hW)
    have HVM : Hid (∀ W, KTab W → Calls Tryd.prog 12 #[.agg (u8s PB).toArray, .int .i64 (h : Int), .string msg, .string SG] W fun e w' => e = .returned (.tuple #[.int .i64 (i : Int), .int .i64 0]) ∧ Ext W w') := Lib.hid (fun W hW => by
      refine (verify_gen PB h i p _ msg SG X W HPD.out (by omega) hp hip (by omega) hSX hXB hXL rfl hW).mono ?_
      rintro e w' ⟨⟨_, rfl⟩ | ⟨h, _⟩, hE⟩
      · exact ⟨rfl, hE⟩
      · exact absurd (by rw [hPB, hX]; exact accept S msg _ i (by rw [← hp]; exact hip)) h)
    have HVL : Hid (∀ W, KTab W → Calls Tryd.prog 12 #[.agg (u8s PB).toArray, .int .i64 (h : Int), .string msg, .string (SG ++ { data := #[120] })] W fun e w' => e = .returned (.tuple #[.int .i64 0, .int .i64 2]) ∧ Ext W w') := Lib.hid (fun W hW => by
      have e1 : SG ++ { data := #[120] } = strOf (encInt (i : Int) ++ (X ++ [120])) := by
        rw [hSX, ← List.append_assoc, ← strOf_app _ [120]]
        rfl
      exact verify_form PB h i p ((68 + h) * 16 + 1) msg _ (X ++ [120]) W HPD.out (by omega) hp hip (by omega) e1 (byt_app hXB (fun x hx => by simp at hx; omega)) (by rw [List.length_append, hXL]; rfl) (by omega) (by omega) hW)
    obtain ⟨y, hy⟩ : ∃ y, y = z - 1 := ⟨_, rfl⟩
    obtain ⟨SL, hSL⟩ : ∃ s, s = SG.extract 0 y := ⟨_, rfl⟩
    have HVS : Hid (∀ W, KTab W → Calls Tryd.prog 12 #[.agg (u8s PB).toArray, .int .i64 (h : Int), .string msg, .string SL] W fun e w' => e = .returned (.tuple #[.int .i64 0, .int .i64 2]) ∧ Ext W w') := Lib.hid (fun W hW => by
      have e1 : SL = strOf (encInt (i : Int) ++ X.take (X.length - 1)) := by
        rw [hSL, hSX, cut_last _ (byt_app hEB hXB), hy, hzl]
        congr 1
        rw [List.take_append, List.take_of_length_le (by omega)]
        congr 2
        omega
      exact verify_form PB h i p ((68 + h) * 16 - 1) msg _ (X.take (X.length - 1)) W HPD.out (by omega) hp hip (by omega) e1 (hXB.take _) (by rw [List.length_take, hXL]; omega) (by omega) (by omega) hW)
    have hsz : SG.size = z := hz.symm
    have hyz : ((z : Int) - 1).toNat = y := by omega
    have hz2 : 2 ≤ z := by omega
    have hz9 : z ≤ 10000 := by omega
    have hd200 : decide (200 < (msg.size : Int)) = false := decide_eq_false (by omega)
    have hdz : decide ((z : Int) < 2) = false := decide_eq_false (by omega)
    have hdz2 : decide (z < 2) = false := decide_eq_false (by omega)
    have hcut : SG.extract 0 y = SL := hSL.symm
    have hyl : y ≤ z := by omega
    have zz : ∀ W, (zeroValue 23).run Tryd.prog W = .ok (.agg (u8s (List.replicate 16 0)).toArray) W := fun W => by kernel_rfl
    obtain ⟨Z, hZ⟩ : ∃ Z, Z = u8s (List.replicate 16 0) := ⟨_, rfl⟩
    have HZL : Hid (Z.length = 16) := Lib.hid (by rw [hZ]; rfl)
    rw [← hZ] at zz
    clear hZ hSL hy hzl hz hle hEB hSX hSG hXL hXB hX hPB hs32 hS hi hpp hp hh hK
    go_enter Tryd.func4, Tryd.ntmps4
    go_upto_region 6 with (go_loud (first
      | (go_at_call 6; (with_reducible refine (sanity_any w HK.out).mono ?_); rintro e w1 ⟨rfl, hE1⟩; have E1 : Hid (Ext w w1) := Lib.hid hE1; clear hE1)))
    go_upto_region 9 with (go_loud (first
      | (go_at_call 10; (with_reducible refine (HSD.out w1).mono ?_); rintro e w2 ⟨rfl, hE2⟩; have E2 : Hid (Ext w w2) := Lib.hid (E1.out.next hE2); clear hE2)
      | (go_at_call 9; (with_reducible refine (HPU.out w2 (HKW.out w2 E2.out)).mono ?_); rintro e w3 ⟨rfl, hE3⟩; have E3 : Hid (Ext w w3) := Lib.hid (E2.out.next hE3); clear hE3)
      | ((refine wpList_store_fresh rfl 23 (.tmp 12) (.tmp 40) rfl _ w3.heap.size rfl Z (u8s PB) 23 (by rfl) (by rfl) rfl (dg_info.trans (congrArg some HPL.out.symm)) (HZL.out.trans HPL.out.symm) (u8s_one PB) ?_); intro w4 hw4 hE4 hz4; have E4 : Hid (Ext w w4) := Lib.hid (E3.out.next hE4); have B4 := Lib.hid hw4; clear hw4 hE4 hz4)
      | (go_at_call 10; (with_reducible refine (HSD.out w4).mono ?_); rintro e w5 ⟨rfl, hE5⟩; have E5 : Hid (Ext w w5) := Lib.hid (E4.out.next hE5); have B5 := Lib.hid (B4.out.ext hE5); clear hE5)
      | (go_at_call 11; (with_reducible refine (HSI.out w5 (HKW.out w5 E5.out)).mono ?_); rintro e w6 ⟨rfl, hE6⟩; have E6 : Hid (Ext w w6) := Lib.hid (E5.out.next hE6); have B6 := Lib.hid (B5.out.ext hE6); clear hE6)
      | (refine wpList_load_blk rfl 23 (.tmp 12) rfl w3.heap.size (by kernel_rfl) B6.out Tryd.underlying23 rfl (dg_info.trans (congrArg some HPL.out.symm)) ?_)
      | (go_at_call 12; (with_reducible refine (HVM.out w6 (HKW.out w6 E6.out)).mono ?_); rintro e w7 ⟨rfl, hE7⟩; have E7 : Hid (Ext w w7) := Lib.hid (E6.out.next hE7); have B7 := Lib.hid (B6.out.ext hE7); clear hE7)))
    go_upto_region 12 with (go_loud (first
      | (refine wpList_load_blk rfl 23 (.tmp 12) rfl w3.heap.size (by kernel_rfl) B7.out Tryd.underlying23 rfl (dg_info.trans (congrArg some HPL.out.symm)) ?_)
      | (go_at_call 12; (with_reducible refine (HVL.out w7 (HKW.out w7 E7.out)).mono ?_); rintro e w8 ⟨rfl, hE8⟩; have E8 : Hid (Ext w w8) := Lib.hid (E7.out.next hE8); have B8 := Lib.hid (B7.out.ext hE8); clear hE8)))
    clear hm hd200 hdz hdz2 hHm hIm hp2 hp1 hp4 hip h2
    refine wp_region_flowF 13 ?FW1 (fun us => ?_) (by kernel_rfl) (by kernel_rfl) (fun a b => Ext a b) Ext.refl (fun h1 h2 => h1.next h2) (fun i v W => match i with
      | 0 => v = .agg (u8s PB).toArray
      | 1 => v = .int .i64 (h : Int)
      | 2 => v = .string msg
      | 3 => v = .string SG
      | 4 => v = .string SG
      | 5 => v = .int .i64 (z : Int)
      | 6 => v = .int .i64 ((z : Int) - 1)
      | 7 => v = .string SL
      | 8 => v = .tuple #[.int .i64 0, .int .i64 2]
      | 9 => v = .tuple #[.int .i64 0, .int .i64 2]
      | 10 => v = .int .i64 0
      | 11 => v = .int .i64 2
      | 12 => v = .int .i64 0
      | _ => True) ?_ ?_
    case refine_1 =>
      simp only [List.take_succ_cons, List.take_zero, flowAct, Nat.zero_add, Nat.reduceAdd, Act.put, List.setIfInBounds_toArray, List.set_cons_succ, List.set_cons_zero]
      rfl
    · simp only [List.take_succ_cons, List.take_zero, flowStepsF]
      refine ⟨?_, ?_, ?_, ?_, ?_, ?_, ?_, ?_, ?_, ?_, ?_, ?_, ?_, trivial⟩
      · intro us W K hE hd hK
        have BW := Lib.hid (B8.out.ext (sg_undrew hE))
        dsimp only at hK ⊢
        have HK := Lib.hid hK; have HE := Lib.hid hE
        clear hK hd hE
        go_wp2_with (go_loud (refine wpList_load_blk rfl 23 (.tmp 12) rfl w3.heap.size (by kernel_rfl) BW.out Tryd.underlying23 rfl (dg_info.trans (congrArg some HPL.out.symm)) ?_))
        exact K_at (HK.out (.agg (u8s PB).toArray) W (fun _ _ => rfl) (Ext.refl W)) (by kernel_rfl)
      · intro us W K hE hd hK
        dsimp only at hK ⊢
        have HK := Lib.hid hK; have HE := Lib.hid hE
        clear hK hd hE
        go_wp2_with fail
        exact K_at (HK.out (.int .i64 (h : Int)) W (fun _ _ => rfl) (Ext.refl W)) (by kernel_rfl)
      · intro us W K hE hd hK
        dsimp only at hK ⊢
        have HK := Lib.hid hK; have HE := Lib.hid hE
        clear hK hd hE
        go_wp2_with fail
        exact K_at (HK.out (.string msg) W (fun _ _ => rfl) (Ext.refl W)) (by kernel_rfl)
      · intro us W K hE hd hK
        dsimp only at hK ⊢
        have HK := Lib.hid hK; have HE := Lib.hid hE
        clear hK hd hE
        go_wp2_with fail
        exact K_at (HK.out (.string SG) W (fun _ _ => rfl) (Ext.refl W)) (by kernel_rfl)
      · intro us W K hE hd hK
        dsimp only at hK ⊢
        have HK := Lib.hid hK; have HE := Lib.hid hE
        clear hK hd hE
        go_wp2_with fail
        exact K_at (HK.out (.string SG) W (fun _ _ => rfl) (Ext.refl W)) (by kernel_rfl)
      · intro us W K hE hd hK
        have d4 := hd 4 (by kernel_rfl)
        dsimp only at hK ⊢
        rw [d4] at hK ⊢
        have HK := Lib.hid hK; have HE := Lib.hid hE
        clear hK hd hE d4
        go_wp2_with fail
        exact K_at (HK.out (.int .i64 (z : Int)) W (fun _ _ => rfl) (Ext.refl W)) (by kernel_rfl)
      · intro us W K hE hd hK
        have d5 := hd 5 (by kernel_rfl)
        dsimp only at hK ⊢
        rw [d5] at hK ⊢
        have HK := Lib.hid hK; have HE := Lib.hid hE
        clear hK hd hE d5
        go_wp2_with fail
        exact K_at (HK.out (.int .i64 ((z : Int) - 1)) W (fun _ _ => rfl) (Ext.refl W)) (by kernel_rfl)
      · intro us W K hE hd hK
        have d3 := hd 3 (by kernel_rfl)
        have d6 := hd 6 (by kernel_rfl)
        dsimp only at hK ⊢
        rw [d3, d6] at hK ⊢
        have HK := Lib.hid hK; have HE := Lib.hid hE
        clear hK hd hE d3 d6
        go_wp2_with fail
        exact K_at (HK.out (.string SL) W (fun _ _ => rfl) (Ext.refl W)) (by kernel_rfl)
      · intro us W K hE hd hK
        have d0 := hd 0 (by kernel_rfl)
        have d1 := hd 1 (by kernel_rfl)
        have d2 := hd 2 (by kernel_rfl)
        have d7 := hd 7 (by kernel_rfl)
        have KW := Lib.hid (HKW.out W (E8.out.next (sg_undrew hE)))
        dsimp only at hK ⊢
        rw [d0, d1, d2, d7] at hK ⊢
        have HK := Lib.hid hK; have HE := Lib.hid hE
        clear hK hd hE d0 d1 d2 d7
        go_wp2_with (go_loud (go_at_call 12; (with_reducible refine (HVS.out W KW.out).mono ?_); rintro e w9 ⟨rfl, hB9⟩))
        exact K_at (HK.out (.tuple #[.int .i64 0, .int .i64 2]) w9 (fun _ _ => rfl) hB9) (by kernel_rfl)
      · intro us W K hE hd hK
        have d8 := hd 8 (by kernel_rfl)
        dsimp only at hK ⊢
        rw [d8] at hK ⊢
        have HK := Lib.hid hK; have HE := Lib.hid hE
        clear hK hd hE d8
        go_wp2_with fail
        exact K_at (HK.out (.tuple #[.int .i64 0, .int .i64 2]) W (fun _ _ => rfl) (Ext.refl W)) (by kernel_rfl)
      · intro us W K hE hd hK
        have d9 := hd 9 (by kernel_rfl)
        dsimp only at hK ⊢
        rw [d9] at hK ⊢
        have HK := Lib.hid hK; have HE := Lib.hid hE
        clear hK hd hE d9
        go_wp2_with fail
        exact K_at (HK.out (.int .i64 0) W (fun _ _ => rfl) (Ext.refl W)) (by kernel_rfl)
      · intro us W K hE hd hK
        have d9 := hd 9 (by kernel_rfl)
        dsimp only at hK ⊢
        rw [d9] at hK ⊢
        have HK := Lib.hid hK; have HE := Lib.hid hE
        clear hK hd hE d9
        go_wp2_with fail
        exact K_at (HK.out (.int .i64 2) W (fun _ _ => rfl) (Ext.refl W)) (by kernel_rfl)
      · intro us W K hE hd hK
        have d10 := hd 10 (by kernel_rfl)
        dsimp only at hK ⊢
        rw [d10] at hK ⊢
        have HK := Lib.hid hK; have HE := Lib.hid hE
        clear hK hd hE d10
        go_wp2_with fail
        exact K_at (HK.out (.int .i64 0) W (fun _ _ => rfl) (Ext.refl W)) (by kernel_rfl)
    · intro us W hE hd
      try dsimp only
      have d12 := hd 12 (by decide)
      have d11 := hd 11 (by decide)
      simp only [List.drop_succ_cons, List.drop_zero]
      rw [d12, d11]
      have EW := Lib.hid (E8.out.next (sg_undrew hE))
      clear hd hE d12 d11
      go_wp2_with fail
      go_ret
      exact ⟨rfl, EW.out⟩
  · have hm2 : ¬ (msg.size : Int) ≤ 200 := by omega
    go_enter Tryd.func4, Tryd.ntmps4
    go_wp2_with (go_loud (go_at_call 6; (with_reducible refine (sanity_any w HK.out).mono ?_); rintro e w1 ⟨rfl, hE1⟩))
    go_ret
    exact ⟨rfl, hE1⟩
end
namespace fnSignIsAccepted
theorem params_signIsAccepted : (Tryd.f4.params.toList.all fun t => Tryd.prog.readableRec t && decide (t < Tryd.prog.types.size)) = true := by kernel_rfl
theorem contract (H : Type) (enc : TypeId × Value → H) (W : World) (base : Nat) (args : Array Value) (ds gs : List (DataW H)) (before : List MemPlace)
    (hval : ∀ (j : Nat) t v, Tryd.f4.params[j]? = some t → args[j]? = some v → Value.okWide Tryd.prog W .any base t v)
    (hW : DataW.Whole enc Tryd.prog Tryd.f4.params.toList Rows.signIsAcceptedSpec.vars false W args.toList ds gs before) (hL : laidMetH Tryd.prog Rows.signIsAcceptedRow.laid W) :
    Calls Tryd.prog 4 args W fun e W' => ∃ v, e = .returned v ∧ Rows.signIsAcceptedSpec.post enc Tryd.prog Tryd.f4 false true false false W args v W' := by
  have hW' := hW
  obtain ⟨p, q, hA0, _, _, _, _⟩ := hW
  have hA : DataW.TrodAll enc Tryd.prog W 0 (fun _ => true) true Tryd.f4.params.toList args.toList ds p := hA0
  rw [Tryd.params4] at hA hval
  obtain ⟨v0, vs0, d0, ds0, p0, q0, hargs, e0d, e0p, h0, r0⟩ := trodAll_cons hA
  obtain ⟨v1, vs1, d1, ds1, p1, q1, e1, e1d, e1p, h1, r1⟩ := trodAll_cons r0
  obtain ⟨v2, vs2, d2, ds2, p2, q2, e2, e2d, e2p, h2, r2⟩ := trodAll_cons r1
  obtain ⟨v3, vs3, d3, ds3, p3, q3, e3, e3d, e3p, h3, r3⟩ := trodAll_cons r2
  obtain ⟨en1, en2, en3⟩ := trodAll_nil r3
  obtain rfl : args = #[v0, v1, v2, v3] := by cases args; simp_all
  clear hA hA0
  obtain ⟨c, rfl, _, _, hw0⟩ := open_int Tryd.underlying5 (hval 0 _ v0 rfl rfl) h0
  have hb0 : 0 ≤ c ∧ c ≤ 255 := by simp [Lit.wf, IntKind.min, IntKind.max, IntKind.bits, IntKind.signed] at hw0; omega
  obtain ⟨H1, rfl, _, _, hw1⟩ := open_int Tryd.underlying5 (hval 1 _ v1 rfl rfl) h1
  have hb1 : 0 ≤ H1 ∧ H1 ≤ 255 := by simp [Lit.wf, IntKind.min, IntKind.max, IntKind.bits, IntKind.signed] at hw1; omega
  obtain ⟨I, rfl, _, _, hw2⟩ := open_int Tryd.underlying5 (hval 2 _ v2 rfl rfl) h2
  have hb2 : 0 ≤ I ∧ I ≤ 255 := by simp [Lit.wf, IntKind.min, IntKind.max, IntKind.bits, IntKind.signed] at hw2; omega
  obtain ⟨msg, rfl, _, _, hms⟩ := ChangeMaps.open_string Tryd.underlying9 (hval 3 _ v3 rfl rfl) h3
  refine (walk_acc c H1 I msg W hb0.1 hb0.2 hb1.1 hb1.2 hb2.1 hb2.2 (laid_k hL)).mono fun e W' ⟨he, hg⟩ => ⟨_, he, ?_⟩
  exact post_law hW' laidOut (params_ok params_signIsAccepted) 4 rfl Tryd.underlying4 rfl (fun ds h => by
    rw [Tryd.params4] at h
    match ds, h with
    | [_, _, _, _], _ => rfl) hg
noncomputable def laidWorld (os : Os) : World :=
  { World.holding Tryd.prog os ⟨#[], #[], []⟩ with heap := ((World.holding Tryd.prog os ⟨#[], #[], []⟩).heap.modify 0 fun
      | .cells _ t frozen => .cells (u32s kc).toArray t frozen
      | o => o) }
theorem laid_met (os : Os) : laidMet Tryd.prog Rows.signIsAcceptedRow.laid ((laidWorld os).forCall (fun _ _ => 0) ⟨#[], #[.int .u8 0, .int .u8 0, .int .u8 0, .string ByteArray.empty], []⟩).memory :=
  laidMet_of_run' 8 (by kernel_rfl) (by kernel_rfl)
theorem reads (os : Os) {H : Type} (enc : TypeId × Value → H) : ∃ places, DataW.whole enc Tryd.prog ((laidWorld os).forCall (fun _ _ => 0) ⟨#[], #[.int .u8 0, .int .u8 0, .int .u8 0, .string ByteArray.empty], []⟩).memory Tryd.f4.params.toList Rows.signIsAcceptedSpec.vars false (#[.int .u8 0, .int .u8 0, .int .u8 0, .string ByteArray.empty] : Array Value).toList 8 = some ([.lit (.int .u8 0), .lit (.int .u8 0), .lit (.int .u8 0), .lit (.string [])], [], places) :=
  ⟨[], by kernel_rfl⟩
set_option maxRecDepth 100000 in
theorem lifted (os : Os) (started : os.Started) (H : Type) (enc : TypeId × Value → H) (F : Stop.Interp) :
    ReturnsInHanded {} Tryd.checked os 4 .any ((OpenSpec.ofChange Rows.signIsAcceptedSpec).preRow enc Tryd.prog Tryd.f4 Rows.signIsAcceptedRow.domain false Rows.signIsAcceptedRow.laid) (((OpenSpec.ofChange Rows.signIsAcceptedSpec).at F).post enc Tryd.prog Tryd.f4 false true false false) := by
  obtain ⟨places, hx⟩ := reads os enc
  refine returnsInHanded_of_row (C := Tryd.checked) (s := OpenSpec.ofChange Rows.signIsAcceptedSpec) own started (by kernel_rfl) Tryd.func4
    (witness_row_at (enc := enc) (C := Tryd.checked) false (laidWorld os) #[.int .u8 0, .int .u8 0, .int .u8 0, .string ByteArray.empty] rfl (by kernel_rfl) (by kernel_rfl) (by kernel_rfl)
      (OpenSpec.preRow_of_cond 8 hx (by kernel_rfl) (fun k hk => by cases hk) (by kernel_rfl) (laid_met os))) ?_
  intro W base args ds gs before hval hW _ _ _ hL _ _
  exact contract H enc W base args ds gs before hval hW hL
theorem said : Rows.SignIsAcceptedSaid :=
  OpenClaim.holds_of_cond 4 Tryd.f4 rfl rfl rfl rfl rfl rfl rfl ⟨rfl, rfl, rfl, rfl, rfl⟩ rfl rfl rfl rfl rfl (by kernel_rfl) Tryd.func4 (by kernel_rfl)
    (of_decide_eq_true (by kernel_rfl)) (by unfold Func.isWrapper; first | (rw [if_pos (by decide +kernel)]; kernel_rfl) | (rw [if_neg (by decide +kernel)]; exact ⟨rfl, rfl⟩))
    (fun os started H enc _ F => by rw [OpenClaim.pre_eq_preRow]; exact lifted os started H enc F)
theorem plain (f : FuncId) (fn : Func) (hf : Tryd.pinned.checked.prog.funcNamed "splicery/splicerylaw03.SignIsAccepted" = some f) (hfn : Tryd.pinned.checked.prog.funcs[f]? = some fn) :
    false = Tryd.pinned.checked.prog.looks [] ∧ ∀ (j : Nat) t, fn.params[j]? = some t → Tryd.pinned.checked.prog.wantsStandIn t = false := by
  obtain rfl : f = 4 := Option.some.inj ((show Tryd.prog.funcNamed "splicery/splicerylaw03.SignIsAccepted" = some 4 by kernel_rfl).symm.trans hf) |>.symm
  obtain rfl : fn = Tryd.f4 := (Option.some.inj (Tryd.func4.symm.trans hfn)).symm
  refine ⟨by kernel_rfl, fun j t ht => ?_⟩
  rw [Tryd.params4] at ht
  have := Array.mem_of_getElem? ht
  simp only [List.mem_toArray, List.mem_cons, List.not_mem_nil, or_false] at this
  rcases this with rfl | rfl | rfl | rfl
  · exact (show Tryd.prog.wantsStandIn 5 = false by kernel_rfl)
  · exact (show Tryd.prog.wantsStandIn 5 = false by kernel_rfl)
  · exact (show Tryd.prog.wantsStandIn 5 = false by kernel_rfl)
  · exact (show Tryd.prog.wantsStandIn 9 = false by kernel_rfl)
theorem card : Rows.SignIsAcceptedCardSaid :=
  Claim7.holds_tied_plain_at .later [] _ _ _ _ said (fun _ h => by cases h) (by kernel_rfl) (fun _ h => by cases h) signIsAccepted_row_tie rfl ⟨rfl, rfl⟩ (by kernel_rfl) rfl plain (by kernel_rfl)
end fnSignIsAccepted
#print axioms fnSignIsAccepted.card
end Go.Proofs.YtkjckmdiolgmcaaDoor
