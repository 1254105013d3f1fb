/- The sanity of sign's laws. No condition. -/
import Derived.Test.YtkjckmdiolgmcaaDoorSgG
import Derived.Test.YtkjckmdiolgmcaaDoorSgF
set_option linter.unusedSimpArgs false
set_option linter.unusedVariables false
namespace Go.Proofs.YtkjckmdiolgmcaaDoor
open Go.RowKit
attribute [local go_sem ↓] wp_at_zero wp_at_succ
set_option maxHeartbeats 2000000 in
set_option maxRecDepth 100000 in
theorem sign_spent (seed msg : ByteArray) (w : World) (hs : seed.size = 32) :
    Calls Tryd.prog 11 #[.string seed, .int .i64 1, .int .i64 2, .string msg] w fun e w' => e = .returned (.tuple #[.string ⟨#[]⟩, .int .i64 26]) ∧ w = w' := by
  have HVL : Hid (Calls Tryd.prog 14 #[.int .i64 1] w fun e w' => e = .returned (.bool true) ∧ w = w') := Lib.hid (valid_ok 1 w (by decide))
  go_enter Tryd.func11, Tryd.ntmps11
  go_wp2_with (go_loud (go_at_call 14; (with_reducible refine HVL.out.mono ?_); rintro e w3 ⟨rfl, rfl⟩))
  go_ret2
  exact ⟨rfl, rfl⟩
theorem seed5_size : seed5.size = 32 := by unfold seed5; rw [strOf_size]; rfl
theorem dig0_0 : (i64s (digL (List.replicate 16 0)))[0]? = some (.int .i64 0) := by kernel_rfl
theorem dig0_64 : (i64s (digL (List.replicate 16 0)))[64]? = some (.int .i64 3) := by kernel_rfl
theorem dig0_67 : (i64s (digL (List.replicate 16 0)))[67]? = some (.int .i64 0) := by kernel_rfl
theorem zero_dig : Dig (List.replicate 16 0) := ⟨rfl, fun x hx => by rw [List.mem_replicate] at hx; omega⟩
theorem seed5_cut : (seed5.extract 1 seed5.size).size = 31 := by rw [ByteArray.size_extract, seed5_size]; rfl
set_option maxHeartbeats 16000000 in
set_option maxRecDepth 100000 in
theorem sanity_any (w : World) (hK : KTab w) : Calls Tryd.prog 6 #[] w fun e w' => e = .returned (.bool true) ∧ Ext w w' := by
  have HK := Lib.hid hK
  have hs5 := seed5_size
  obtain ⟨S5, hS5⟩ : ∃ s, s = seed5 := ⟨_, rfl⟩
  rw [← hS5] at hs5
  have HS5 := Lib.hid hS5
  have HSZ : Hid (S5.size = 32) := Lib.hid hs5
  obtain ⟨PB, hPB⟩ : ∃ p, p = nodeV seed5 1 0 := ⟨_, rfl⟩
  have HPD : Hid (Dig PB) := Lib.hid (by rw [hPB]; exact nodeV_dig _ _ _)
  have HPL : Hid ((u8s PB).length = 16) := Lib.hid (by rw [u8s_len]; exact HPD.out.l)
  obtain ⟨SG, hSG⟩ : ∃ s, s = strOf (signL seed5 1 1 (sB [109])) := ⟨_, rfl⟩
  obtain ⟨X, hX⟩ : ∃ x, x = sigX seed5 1 1 (sgM seed5 1 1 (sB [109])) := ⟨_, rfl⟩
  have HXB : Hid (Byt X) := Lib.hid (by rw [hX]; exact sigX_byt _ _ _ _)
  have HXL : Hid (X.length = 1104) := Lib.hid (by rw [hX]; exact sigX_len _ _ _ _)
  have HSX : Hid (SG = strOf (encInt ((1 : Nat) : Int) ++ X)) := Lib.hid (by rw [hSG, signL_X, hX])
  have HSD : Hid (∀ W, Calls Tryd.prog 10 #[.int .u8 5] W fun e w' => e = .returned (.string S5) ∧ Ext W w') := Lib.hid (fun W => by rw [hS5]; exact seed_any 5 W (by decide) (by decide))
  have HPU : Hid (∀ W, KTab W → Calls Tryd.prog 9 #[.string S5, .int .i64 1] W fun e w' => e = .returned (.tuple #[.agg (u8s PB).toArray, .int .i64 0]) ∧ Ext W w') := Lib.hid (fun W hW => by rw [hPB, hS5]; exact public_any seed5 1 W seed5_size (by decide) hW)
  have HSI : Hid (∀ W, KTab W → Calls Tryd.prog 11 #[.string S5, .int .i64 1, .int .i64 1, .string { data := #[109] }] W fun e w' => e = .returned (.tuple #[.string SG, .int .i64 0]) ∧ Ext W w') := Lib.hid (fun W hW => by rw [hSG, hS5]; exact sign_any seed5 (sB [109]) 1 1 2 W seed5_size (by decide) (by decide) (by decide) (by decide) hW)
  have HVM : Hid (∀ W, KTab W → Calls Tryd.prog 12 #[.agg (u8s PB).toArray, .int .i64 1, .string { data := #[109] }, .string SG] W fun e w' => e = .returned (.tuple #[.int .i64 1, .int .i64 0]) ∧ Ext W w') := Lib.hid (fun W hW => by
    refine (verify_gen PB 1 1 2 1104 (sB [109]) SG X W HPD.out (by decide) (by decide) (by decide) (by decide) HSX.out HXB.out HXL.out (by decide) hW).mono ?_
    rintro e w' ⟨⟨_, rfl⟩ | ⟨h, _⟩, hE⟩
    · exact ⟨rfl, hE⟩
    · exact absurd (by rw [hPB, hX]; exact accept seed5 (sB [109]) 1 1 (by decide)) h)
  have HVN : Hid (∀ W, KTab W → Calls Tryd.prog 12 #[.agg (u8s PB).toArray, .int .i64 1, .string { data := #[110] }, .string SG] W fun e w' => e = .returned (.tuple #[.int .i64 0, .int .i64 10]) ∧ Ext W w') := Lib.hid (fun W hW => by
    refine (verify_gen PB 1 1 2 1104 (sB [110]) SG X W HPD.out (by decide) (by decide) (by decide) (by decide) HSX.out HXB.out HXL.out (by decide) hW).mono ?_
    rintro e w' ⟨⟨h, _⟩ | ⟨_, rfl⟩, hE⟩
    · rw [hPB, hX] at h
      exact absurd h wrong_root
    · exact ⟨rfl, hE⟩)
  have HSP : Hid (∀ W, Calls Tryd.prog 11 #[.string S5, .int .i64 1, .int .i64 2, .string { data := #[109] }] W fun e w' => e = .returned (.tuple #[.string ⟨#[]⟩, .int .i64 26]) ∧ W = w') := Lib.hid (fun W => sign_spent S5 _ W HSZ.out)
  obtain ⟨S6, hS6⟩ : ∃ s, s = S5.extract 1 S5.size := ⟨_, rfl⟩
  obtain ⟨Z, hZ⟩ : ∃ Z : List Int, Z = List.replicate 16 0 := ⟨_, rfl⟩
  have HZL : Hid ((u8s Z).length = 16) := Lib.hid (by rw [hZ]; rfl)
  have zz : ∀ W, (zeroValue 23).run Tryd.prog W = .ok (.agg (u8s Z).toArray) W := fun W => by rw [hZ]; kernel_rfl
  have HSH : Hid (∀ W, Calls Tryd.prog 9 #[.string S6, .int .i64 0] W fun e w' => e = .returned (.tuple #[.agg (u8s Z).toArray, .int .i64 1]) ∧ Ext W w') := Lib.hid (fun W => by
    rw [hZ]
    exact public_short S6 W 31 (by rw [hS6, hS5]; exact seed5_cut.symm) (by decide))
  have HDZ : Hid (∀ W, Calls Tryd.prog 7 #[.agg (u8s Z).toArray] W fun e w' => ∃ g, e = .returned (.slice (some ⟨g, 0, none⟩) 68 68) ∧ W.heap.size ≤ g ∧ Blk w' g 39 (i64s (digL Z)) ∧ Below W.heap.size W w') := Lib.hid (fun W => by
    rw [hZ]
    exact digits_any _ W zero_dig.l zero_dig.b)
  have HD0 : Hid ((i64s (digL Z))[0]? = some (.int .i64 0)) := Lib.hid (by rw [hZ]; exact dig0_0)
  have HD64 : Hid ((i64s (digL Z))[64]? = some (.int .i64 3)) := Lib.hid (by rw [hZ]; exact dig0_64)
  have HD67 : Hid ((i64s (digL Z))[67]? = some (.int .i64 0)) := Lib.hid (by rw [hZ]; exact dig0_67)
  obtain ⟨DA, hDA⟩ : ∃ d, d = digestD PB 1 (sB [109]) := ⟨_, rfl⟩
  obtain ⟨DB, hDB⟩ : ∃ d, d = digestD PB 0 (sB [109]) := ⟨_, rfl⟩
  have HDA : Hid (∀ W, KTab W → Calls Tryd.prog 13 #[.agg (u8s PB).toArray, .int .i64 1, .string { data := #[109] }] W fun e w' => e = .returned (.agg (u8s DA).toArray) ∧ Ext W w') := Lib.hid (fun W hW => by rw [hDA]; exact digest_any PB 1 (sB [109]) W HPD.out ⟨by decide, by decide⟩ (by decide) hW)
  have HDB : Hid (∀ W, KTab W → Calls Tryd.prog 13 #[.agg (u8s PB).toArray, .int .i64 0, .string { data := #[109] }] W fun e w' => e = .returned (.agg (u8s DB).toArray) ∧ Ext W w') := Lib.hid (fun W hW => by rw [hDB]; exact digest_any PB 0 (sB [109]) W HPD.out ⟨by decide, by decide⟩ (by decide) hW)
  have HNE : Hid (∀ W, (Op.equalIn 10000 23 (.agg (u8s DA).toArray) (.agg (u8s DB).toArray)).run Tryd.prog W = .ok false W) := Lib.hid (fun W => by
    rw [dig_equal DA DB (by rw [hDA]; exact ofD_dig _ _) (by rw [hDB]; exact ofD_dig _ _) W]
    congr 1
    rw [hDA, hDB, hPB]
    exact decide_eq_false dig_ne)
  have HKW : Hid (∀ W, Ext w W → KTab W) := Lib.hid (fun W h => HK.out.below h)
  have hcut : S5.extract 1 32 = S6 := by rw [hS6, HSZ.out]
  clear hS5 hPB hSG hX hS6 hZ hDA hDB hK
  go_enter Tryd.func6, Tryd.ntmps6
  go_upto_region 3 with (go_loud (first
    | (go_at_call 10; (with_reducible refine (HSD.out w).mono ?_); rintro e w1 ⟨rfl, hE1⟩; have E1 : Hid (Ext w w1) := Lib.hid hE1; clear hE1)
    | (go_at_call 9; (with_reducible refine (HPU.out w1 (HKW.out w1 E1.out)).mono ?_); rintro e w2 ⟨rfl, hE2⟩; have E2 : Hid (Ext w w2) := Lib.hid (E1.out.next hE2); clear hE2)
    | ((refine wpList_store_fresh rfl 23 (.tmp 2) (.tmp 19) rfl _ w2.heap.size rfl (u8s Z) (u8s PB) 23 (by rfl) (by rfl) rfl (dg_info.trans (congrArg some HPL.out.symm)) (HZL.out.trans HPL.out.symm) (u8s_one PB) ?_); intro w3 hw3 hE3 hz3; have E3 : Hid (Ext w w3) := Lib.hid (E2.out.next hE3); have B3 := Lib.hid hw3; clear hw3 hE3 hz3)))
  obtain ⟨pb, hpb⟩ : ∃ x, x = w2.heap.size := ⟨_, rfl⟩
  rw [← hpb] at B3 ⊢
  clear hpb
  go_upto_region 7 with (go_loud (first
    | (go_at_call 11; (with_reducible refine (HSI.out w3 (HKW.out w3 E3.out)).mono ?_); rintro e w4 ⟨rfl, hE4⟩; have E4 : Hid (Ext w w4) := Lib.hid (E3.out.next hE4); have B4 := Lib.hid (B3.out.ext hE4); clear hE4)
    | (refine wpList_load_blk rfl 23 (.tmp 2) rfl pb (by kernel_rfl) B5.out Tryd.underlying23 rfl (dg_info.trans (congrArg some HPL.out.symm)) ?_)
    | (refine wpList_load_blk rfl 23 (.tmp 2) rfl pb (by kernel_rfl) B4.out Tryd.underlying23 rfl (dg_info.trans (congrArg some HPL.out.symm)) ?_)
    | (go_at_call 12; (with_reducible refine (HVM.out w4 (HKW.out w4 E4.out)).mono ?_); rintro e w5 ⟨rfl, hE5⟩; have E5 : Hid (Ext w w5) := Lib.hid (E4.out.next hE5); have B5 := Lib.hid (B4.out.ext hE5); clear hE5)
    | (go_at_call 12; (with_reducible refine (HVN.out w5 (HKW.out w5 E5.out)).mono ?_); rintro e w6 ⟨rfl, hE6⟩; have E6 : Hid (Ext w w6) := Lib.hid (E5.out.next hE6); have B6 := Lib.hid (B5.out.ext hE6); clear hE6)
    | (go_at_call 11; (with_reducible refine (HSP.out w6).mono ?_); rintro e w7 ⟨rfl, rfl⟩)))
  go_upto_region 11 with (go_loud (first
    | (go_at_call 9; (with_reducible refine (HSH.out w6).mono ?_); rintro e w7 ⟨rfl, hE7⟩; have E7 : Hid (Ext w w7) := Lib.hid (E6.out.next hE7); have B7 := Lib.hid (B6.out.ext hE7); clear hE7)
    | ((refine wpList_store_fresh rfl 23 (.tmp 12) (.tmp 47) rfl _ w7.heap.size rfl (u8s Z) (u8s Z) 23 (by rfl) (by rfl) rfl (dg_info.trans (congrArg some HZL.out.symm)) rfl (u8s_one Z) ?_); intro w8 hw8 hE8 hz8; have E8 : Hid (Ext w w8) := Lib.hid (E7.out.next hE8); have B8 := Lib.hid (B7.out.ext hE8); clear hw8 hE8 hz8)
    | (go_at_call 7; (with_reducible refine (HDZ.out w8).mono ?_); rintro e w9 ⟨gd, rfl, hgd, hbd, hE9⟩; have E9 : Hid (Ext w w9) := Lib.hid (E8.out.next hE9); have BP := Lib.hid (B8.out.ext hE9); have BD := Lib.hid hbd; clear hgd hbd hE9)))
  refine wp_region_flowF 39 ?FW1 (fun us => ?_) (by kernel_rfl) (by kernel_rfl) (fun a b => Ext a b) Ext.refl (fun h1 h2 => h1.next h2) (fun i v W => match i with
    | 0 => v = .int .i64 1
    | 1 => v = .bool true
    | 2 => v = .bool true
    | 3 => v = .int .i64 10
    | 4 => v = .bool true
    | 5 => v = .bool true
    | 6 => v = .bool true
    | 7 => v = .int .i64 26
    | 8 => v = .bool true
    | 9 => v = .bool true
    | 10 => v = .bool true
    | 11 => v = .int .i64 1
    | 12 => v = .bool true
    | 13 => v = .bool true
    | 14 => v = .bool true
    | 15 => v = .slice (some ⟨gd, 0, none⟩) 68 68
    | 16 => v = .pointer (some ⟨gd, 0, none⟩)
    | 17 => v = .int .i64 0
    | 18 => v = .bool true
    | 19 => v = .bool true
    | 20 => v = .bool true
    | 21 => v = .slice (some ⟨gd, 0, none⟩) 68 68
    | 22 => v = .pointer (some ⟨gd, 64, none⟩)
    | 23 => v = .int .i64 3
    | 24 => v = .bool true
    | 25 => v = .bool true
    | 26 => v = .bool true
    | 27 => v = .slice (some ⟨gd, 0, none⟩) 68 68
    | 28 => v = .pointer (some ⟨gd, 67, none⟩)
    | 29 => v = .int .i64 0
    | 30 => v = .bool true
    | 31 => v = .bool true
    | 32 => v = .bool true
    | 33 => v = .agg (u8s PB).toArray
    | 34 => v = .agg (u8s DA).toArray
    | 35 => v = .agg (u8s PB).toArray
    | 36 => v = .agg (u8s DB).toArray
    | 37 => v = .bool true
    | 38 => v = .bool true
    | _ => True) ?_ ?_
  case refine_1 =>
    simp only [List.take_succ_cons, List.take_zero, flowAct, Nat.zero_add, Nat.reduceAdd, Act.put, List.setIfInBounds_toArray, List.set_cons_succ, List.set_cons_zero]
    rfl
  · simp only [List.take_succ_cons, List.take_zero, flowStepsF]
    refine ⟨?_, ?_, ?_, ?_, ?_, ?_, ?_, ?_, ?_, ?_, ?_, ?_, ?_, ?_, ?_, ?_, ?_, ?_, ?_, ?_, ?_, ?_, ?_, ?_, ?_, ?_, ?_, ?_, ?_, ?_, ?_, ?_, ?_, ?_, ?_, ?_, ?_, ?_, ?_, trivial⟩
    · intro us W K hE hd hK
      dsimp only at hK ⊢
      have HK := Lib.hid hK; have HE := Lib.hid hE
      clear hK hd hE
      go_wp2_with fail
      exact K_at (HK.out (.int .i64 1) W (fun _ _ => rfl) (Ext.refl W)) (by kernel_rfl)
    · intro us W K hE hd hK
      have d0 := hd 0 (by kernel_rfl)
      dsimp only at hK ⊢
      rw [d0] at hK ⊢
      have HK := Lib.hid hK; have HE := Lib.hid hE
      clear hK hd hE d0
      go_wp2_with fail
      exact K_at (HK.out (.bool true) W (fun _ _ => rfl) (Ext.refl W)) (by kernel_rfl)
    · intro us W K hE hd hK
      have d1 := hd 1 (by kernel_rfl)
      dsimp only at hK ⊢
      rw [d1] at hK ⊢
      have HK := Lib.hid hK; have HE := Lib.hid hE
      clear hK hd hE d1
      go_wp2_with fail
      exact K_at (HK.out (.bool true) W (fun _ _ => rfl) (Ext.refl W)) (by kernel_rfl)
    · intro us W K hE hd hK
      have d2 := hd 2 (by kernel_rfl)
      dsimp only at hK ⊢
      rw [d2] at hK ⊢
      have HK := Lib.hid hK; have HE := Lib.hid hE
      clear hK hd hE d2
      go_wp2_with fail
      exact K_at (HK.out (.int .i64 10) W (fun _ _ => rfl) (Ext.refl W)) (by kernel_rfl)
    · intro us W K hE hd hK
      have d2 := hd 2 (by kernel_rfl)
      have d3 := hd 3 (by kernel_rfl)
      dsimp only at hK ⊢
      rw [d2, d3] at hK ⊢
      have HK := Lib.hid hK; have HE := Lib.hid hE
      clear hK hd hE d2 d3
      go_wp2_with fail
      exact K_at (HK.out (.bool true) W (fun _ _ => rfl) (Ext.refl W)) (by kernel_rfl)
    · intro us W K hE hd hK
      have d2 := hd 2 (by kernel_rfl)
      have d4 := hd 4 (by kernel_rfl)
      dsimp only at hK ⊢
      rw [d2, d4] at hK ⊢
      have HK := Lib.hid hK; have HE := Lib.hid hE
      clear hK hd hE d2 d4
      go_wp2_with fail
      exact K_at (HK.out (.bool true) W (fun _ _ => rfl) (Ext.refl W)) (by kernel_rfl)
    · intro us W K hE hd hK
      have d5 := hd 5 (by kernel_rfl)
      dsimp only at hK ⊢
      rw [d5] at hK ⊢
      have HK := Lib.hid hK; have HE := Lib.hid hE
      clear hK hd hE d5
      go_wp2_with fail
      exact K_at (HK.out (.bool true) W (fun _ _ => rfl) (Ext.refl W)) (by kernel_rfl)
    · intro us W K hE hd hK
      have d6 := hd 6 (by kernel_rfl)
      dsimp only at hK ⊢
      rw [d6] at hK ⊢
      have HK := Lib.hid hK; have HE := Lib.hid hE
      clear hK hd hE d6
      go_wp2_with fail
      exact K_at (HK.out (.int .i64 26) W (fun _ _ => rfl) (Ext.refl W)) (by kernel_rfl)
    · intro us W K hE hd hK
      have d6 := hd 6 (by kernel_rfl)
      have d7 := hd 7 (by kernel_rfl)
      dsimp only at hK ⊢
      rw [d6, d7] at hK ⊢
      have HK := Lib.hid hK; have HE := Lib.hid hE
      clear hK hd hE d6 d7
      go_wp2_with fail
      exact K_at (HK.out (.bool true) W (fun _ _ => rfl) (Ext.refl W)) (by kernel_rfl)
    · intro us W K hE hd hK
      have d6 := hd 6 (by kernel_rfl)
      have d8 := hd 8 (by kernel_rfl)
      dsimp only at hK ⊢
      rw [d6, d8] at hK ⊢
      have HK := Lib.hid hK; have HE := Lib.hid hE
      clear hK hd hE d6 d8
      go_wp2_with fail
      exact K_at (HK.out (.bool true) W (fun _ _ => rfl) (Ext.refl W)) (by kernel_rfl)
    · intro us W K hE hd hK
      have d9 := hd 9 (by kernel_rfl)
      dsimp only at hK ⊢
      rw [d9] at hK ⊢
      have HK := Lib.hid hK; have HE := Lib.hid hE
      clear hK hd hE d9
      go_wp2_with fail
      exact K_at (HK.out (.bool true) W (fun _ _ => rfl) (Ext.refl W)) (by kernel_rfl)
    · intro us W K hE hd hK
      have d10 := hd 10 (by kernel_rfl)
      dsimp only at hK ⊢
      rw [d10] at hK ⊢
      have HK := Lib.hid hK; have HE := Lib.hid hE
      clear hK hd hE d10
      go_wp2_with fail
      exact K_at (HK.out (.int .i64 1) W (fun _ _ => rfl) (Ext.refl W)) (by kernel_rfl)
    · intro us W K hE hd hK
      have d10 := hd 10 (by kernel_rfl)
      have d11 := hd 11 (by kernel_rfl)
      dsimp only at hK ⊢
      rw [d10, d11] at hK ⊢
      have HK := Lib.hid hK; have HE := Lib.hid hE
      clear hK hd hE d10 d11
      go_wp2_with fail
      exact K_at (HK.out (.bool true) W (fun _ _ => rfl) (Ext.refl W)) (by kernel_rfl)
    · intro us W K hE hd hK
      have d10 := hd 10 (by kernel_rfl)
      have d12 := hd 12 (by kernel_rfl)
      dsimp only at hK ⊢
      rw [d10, d12] at hK ⊢
      have HK := Lib.hid hK; have HE := Lib.hid hE
      clear hK hd hE d10 d12
      go_wp2_with fail
      exact K_at (HK.out (.bool true) W (fun _ _ => rfl) (Ext.refl W)) (by kernel_rfl)
    · intro us W K hE hd hK
      have d13 := hd 13 (by kernel_rfl)
      dsimp only at hK ⊢
      rw [d13] at hK ⊢
      have HK := Lib.hid hK; have HE := Lib.hid hE
      clear hK hd hE d13
      go_wp2_with fail
      exact K_at (HK.out (.bool true) W (fun _ _ => rfl) (Ext.refl W)) (by kernel_rfl)
    · intro us W K hE hd hK
      have d14 := hd 14 (by kernel_rfl)
      dsimp only at hK ⊢
      rw [d14] at hK ⊢
      have HK := Lib.hid hK; have HE := Lib.hid hE
      clear hK hd hE d14
      go_wp2_with fail
      exact K_at (HK.out (.slice (some ⟨gd, 0, none⟩) 68 68) W (fun _ _ => rfl) (Ext.refl W)) (by kernel_rfl)
    · intro us W K hE hd hK
      have d14 := hd 14 (by kernel_rfl)
      have d15 := hd 15 (by kernel_rfl)
      dsimp only at hK ⊢
      rw [d14, d15] at hK ⊢
      have HK := Lib.hid hK; have HE := Lib.hid hE
      clear hK hd hE d14 d15
      go_wp2_with fail
      exact K_at (HK.out (.pointer (some ⟨gd, 0, none⟩)) W (fun _ _ => rfl) (Ext.refl W)) (by kernel_rfl)
    · intro us W K hE hd hK
      have d14 := hd 14 (by kernel_rfl)
      have d16 := hd 16 (by kernel_rfl)
      have xk := ((BD.out.ext (sg_undrew hE)).cell 0).trans HD0.out
      dsimp only at hK ⊢
      rw [d14, d16] at hK ⊢
      have HK := Lib.hid hK; have HE := Lib.hid hE
      clear hK hd hE d14 d16
      go_wp2_with fail
      exact K_at (HK.out (.int .i64 0) W (fun _ _ => rfl) (Ext.refl W)) (by kernel_rfl)
    · intro us W K hE hd hK
      have d14 := hd 14 (by kernel_rfl)
      have d17 := hd 17 (by kernel_rfl)
      dsimp only at hK ⊢
      rw [d14, d17] at hK ⊢
      have HK := Lib.hid hK; have HE := Lib.hid hE
      clear hK hd hE d14 d17
      go_wp2_with fail
      exact K_at (HK.out (.bool true) W (fun _ _ => rfl) (Ext.refl W)) (by kernel_rfl)
    · intro us W K hE hd hK
      have d14 := hd 14 (by kernel_rfl)
      have d18 := hd 18 (by kernel_rfl)
      dsimp only at hK ⊢
      rw [d14, d18] at hK ⊢
      have HK := Lib.hid hK; have HE := Lib.hid hE
      clear hK hd hE d14 d18
      go_wp2_with fail
      exact K_at (HK.out (.bool true) W (fun _ _ => rfl) (Ext.refl W)) (by kernel_rfl)
    · intro us W K hE hd hK
      have d19 := hd 19 (by kernel_rfl)
      dsimp only at hK ⊢
      rw [d19] at hK ⊢
      have HK := Lib.hid hK; have HE := Lib.hid hE
      clear hK hd hE d19
      go_wp2_with fail
      exact K_at (HK.out (.bool true) W (fun _ _ => rfl) (Ext.refl W)) (by kernel_rfl)
    · intro us W K hE hd hK
      have d20 := hd 20 (by kernel_rfl)
      dsimp only at hK ⊢
      rw [d20] at hK ⊢
      have HK := Lib.hid hK; have HE := Lib.hid hE
      clear hK hd hE d20
      go_wp2_with fail
      exact K_at (HK.out (.slice (some ⟨gd, 0, none⟩) 68 68) W (fun _ _ => rfl) (Ext.refl W)) (by kernel_rfl)
    · intro us W K hE hd hK
      have d20 := hd 20 (by kernel_rfl)
      have d21 := hd 21 (by kernel_rfl)
      dsimp only at hK ⊢
      rw [d20, d21] at hK ⊢
      have HK := Lib.hid hK; have HE := Lib.hid hE
      clear hK hd hE d20 d21
      go_wp2_with fail
      exact K_at (HK.out (.pointer (some ⟨gd, 64, none⟩)) W (fun _ _ => rfl) (Ext.refl W)) (by kernel_rfl)
    · intro us W K hE hd hK
      have d20 := hd 20 (by kernel_rfl)
      have d22 := hd 22 (by kernel_rfl)
      have xk := ((BD.out.ext (sg_undrew hE)).cell 64).trans HD64.out
      dsimp only at hK ⊢
      rw [d20, d22] at hK ⊢
      have HK := Lib.hid hK; have HE := Lib.hid hE
      clear hK hd hE d20 d22
      go_wp2_with fail
      exact K_at (HK.out (.int .i64 3) W (fun _ _ => rfl) (Ext.refl W)) (by kernel_rfl)
    · intro us W K hE hd hK
      have d20 := hd 20 (by kernel_rfl)
      have d23 := hd 23 (by kernel_rfl)
      dsimp only at hK ⊢
      rw [d20, d23] at hK ⊢
      have HK := Lib.hid hK; have HE := Lib.hid hE
      clear hK hd hE d20 d23
      go_wp2_with fail
      exact K_at (HK.out (.bool true) W (fun _ _ => rfl) (Ext.refl W)) (by kernel_rfl)
    · intro us W K hE hd hK
      have d20 := hd 20 (by kernel_rfl)
      have d24 := hd 24 (by kernel_rfl)
      dsimp only at hK ⊢
      rw [d20, d24] at hK ⊢
      have HK := Lib.hid hK; have HE := Lib.hid hE
      clear hK hd hE d20 d24
      go_wp2_with fail
      exact K_at (HK.out (.bool true) W (fun _ _ => rfl) (Ext.refl W)) (by kernel_rfl)
    · intro us W K hE hd hK
      have d25 := hd 25 (by kernel_rfl)
      dsimp only at hK ⊢
      rw [d25] at hK ⊢
      have HK := Lib.hid hK; have HE := Lib.hid hE
      clear hK hd hE d25
      go_wp2_with fail
      exact K_at (HK.out (.bool true) W (fun _ _ => rfl) (Ext.refl W)) (by kernel_rfl)
    · intro us W K hE hd hK
      have d26 := hd 26 (by kernel_rfl)
      dsimp only at hK ⊢
      rw [d26] at hK ⊢
      have HK := Lib.hid hK; have HE := Lib.hid hE
      clear hK hd hE d26
      go_wp2_with fail
      exact K_at (HK.out (.slice (some ⟨gd, 0, none⟩) 68 68) W (fun _ _ => rfl) (Ext.refl W)) (by kernel_rfl)
    · intro us W K hE hd hK
      have d26 := hd 26 (by kernel_rfl)
      have d27 := hd 27 (by kernel_rfl)
      dsimp only at hK ⊢
      rw [d26, d27] at hK ⊢
      have HK := Lib.hid hK; have HE := Lib.hid hE
      clear hK hd hE d26 d27
      go_wp2_with fail
      exact K_at (HK.out (.pointer (some ⟨gd, 67, none⟩)) W (fun _ _ => rfl) (Ext.refl W)) (by kernel_rfl)
    · intro us W K hE hd hK
      have d26 := hd 26 (by kernel_rfl)
      have d28 := hd 28 (by kernel_rfl)
      have xk := ((BD.out.ext (sg_undrew hE)).cell 67).trans HD67.out
      dsimp only at hK ⊢
      rw [d26, d28] at hK ⊢
      have HK := Lib.hid hK; have HE := Lib.hid hE
      clear hK hd hE d26 d28
      go_wp2_with fail
      exact K_at (HK.out (.int .i64 0) W (fun _ _ => rfl) (Ext.refl W)) (by kernel_rfl)
    · intro us W K hE hd hK
      have d26 := hd 26 (by kernel_rfl)
      have d29 := hd 29 (by kernel_rfl)
      dsimp only at hK ⊢
      rw [d26, d29] at hK ⊢
      have HK := Lib.hid hK; have HE := Lib.hid hE
      clear hK hd hE d26 d29
      go_wp2_with fail
      exact K_at (HK.out (.bool true) W (fun _ _ => rfl) (Ext.refl W)) (by kernel_rfl)
    · intro us W K hE hd hK
      have d26 := hd 26 (by kernel_rfl)
      have d30 := hd 30 (by kernel_rfl)
      dsimp only at hK ⊢
      rw [d26, d30] at hK ⊢
      have HK := Lib.hid hK; have HE := Lib.hid hE
      clear hK hd hE d26 d30
      go_wp2_with fail
      exact K_at (HK.out (.bool true) W (fun _ _ => rfl) (Ext.refl W)) (by kernel_rfl)
    · intro us W K hE hd hK
      have d31 := hd 31 (by kernel_rfl)
      dsimp only at hK ⊢
      rw [d31] at hK ⊢
      have HK := Lib.hid hK; have HE := Lib.hid hE
      clear hK hd hE d31
      go_wp2_with fail
      exact K_at (HK.out (.bool true) W (fun _ _ => rfl) (Ext.refl W)) (by kernel_rfl)
    · intro us W K hE hd hK
      have d32 := hd 32 (by kernel_rfl)
      have BPW := Lib.hid (BP.out.ext (sg_undrew hE))
      dsimp only at hK ⊢
      rw [d32] at hK ⊢
      have HK := Lib.hid hK; have HE := Lib.hid hE
      clear hK hd hE d32
      go_wp2_with (go_loud (refine wpList_load_want (by rfl) 23 (.tmp 2) rfl pb (by kernel_rfl) BPW.out Tryd.underlying23 rfl (dg_info.trans (congrArg some HPL.out.symm)) ?_))
      exact K_at (HK.out (.agg (u8s PB).toArray) W (fun _ _ => rfl) (Ext.refl W)) (by kernel_rfl)
    · intro us W K hE hd hK
      have d32 := hd 32 (by kernel_rfl)
      have d33 := hd 33 (by kernel_rfl)
      have KW := Lib.hid (HKW.out W (E9.out.next (sg_undrew hE)))
      dsimp only at hK ⊢
      rw [d32, d33] at hK ⊢
      have HK := Lib.hid hK; have HE := Lib.hid hE
      clear hK hd hE d32 d33
      go_wp2_with (go_loud (go_at_call 13; (with_reducible refine (HDA.out W KW.out).mono ?_); rintro e w6 ⟨rfl, hB6⟩))
      exact K_at (HK.out (.agg (u8s DA).toArray) w6 (fun _ _ => rfl) hB6) (by kernel_rfl)
    · intro us W K hE hd hK
      have d32 := hd 32 (by kernel_rfl)
      have BPW := Lib.hid (BP.out.ext (sg_undrew hE))
      dsimp only at hK ⊢
      rw [d32] at hK ⊢
      have HK := Lib.hid hK; have HE := Lib.hid hE
      clear hK hd hE d32
      go_wp2_with (go_loud (refine wpList_load_want (by rfl) 23 (.tmp 2) rfl pb (by kernel_rfl) BPW.out Tryd.underlying23 rfl (dg_info.trans (congrArg some HPL.out.symm)) ?_))
      exact K_at (HK.out (.agg (u8s PB).toArray) W (fun _ _ => rfl) (Ext.refl W)) (by kernel_rfl)
    · intro us W K hE hd hK
      have d32 := hd 32 (by kernel_rfl)
      have d35 := hd 35 (by kernel_rfl)
      have KW := Lib.hid (HKW.out W (E9.out.next (sg_undrew hE)))
      dsimp only at hK ⊢
      rw [d32, d35] at hK ⊢
      have HK := Lib.hid hK; have HE := Lib.hid hE
      clear hK hd hE d32 d35
      go_wp2_with (go_loud (go_at_call 13; (with_reducible refine (HDB.out W KW.out).mono ?_); rintro e w6 ⟨rfl, hB6⟩))
      exact K_at (HK.out (.agg (u8s DB).toArray) w6 (fun _ _ => rfl) hB6) (by kernel_rfl)
    · intro us W K hE hd hK
      have d32 := hd 32 (by kernel_rfl)
      have d34 := hd 34 (by kernel_rfl)
      have d36 := hd 36 (by kernel_rfl)
      have hq := HNE.out
      dsimp only at hK ⊢
      rw [d32, d34, d36] at hK ⊢
      have HK := Lib.hid hK; have HE := Lib.hid hE
      clear hK hd hE d32 d34 d36
      go_wp2_with fail
      exact K_at (HK.out (.bool true) W (fun _ _ => rfl) (Ext.refl W)) (by kernel_rfl)
    · intro us W K hE hd hK
      have d32 := hd 32 (by kernel_rfl)
      have d37 := hd 37 (by kernel_rfl)
      dsimp only at hK ⊢
      rw [d32, d37] at hK ⊢
      have HK := Lib.hid hK; have HE := Lib.hid hE
      clear hK hd hE d32 d37
      go_wp2_with fail
      exact K_at (HK.out (.bool true) W (fun _ _ => rfl) (Ext.refl W)) (by kernel_rfl)
  · intro us W hE hd
    try dsimp only
    have d38 := hd 38 (by decide)
    simp only [List.drop_succ_cons, List.drop_zero]
    rw [d38]
    have EW := Lib.hid (E9.out.next (sg_undrew hE))
    clear hd hE d38
    go_wp2_with fail
    go_ret
    exact ⟨rfl, EW.out⟩
end Go.Proofs.YtkjckmdiolgmcaaDoor
