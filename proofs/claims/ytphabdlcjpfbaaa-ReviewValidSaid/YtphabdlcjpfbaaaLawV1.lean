/- ReviewValid: for all numbers the law answers true and leaves its arguments as they were. No condition. -/
import Derived.Test.YtphabdlcjpfbaaaRvX
import Derived.Test.YtphabdlcjpfbaaaRvY
import Derived.Test.YtphabdlcjpfbaaaRvF
import Derived.Test.YtphabdlcjpfbaaaLaw
import Derived.Deep.DeepHandedRow
set_option linter.unusedSimpArgs false
set_option linter.unusedVariables false
namespace Go.Proofs.Ytphabdlcjpfbaaa
open Go.RowKit Go.WideShapes Go.ChangeShapes
theorem cellsint : Try.prog.cellsOf 3 = 1 := by kernel_rfl
theorem wf_i64' {x : Int} (h : (Lit.int .i64 x).wf = true) : -9223372036854775808 ≤ x ∧ x ≤ 9223372036854775807 := by
  simp [Lit.wf, IntKind.min, IntKind.max, IntKind.bits, IntKind.signed] at h
  omega
theorem tdiv9 {b : Int} (h0 : -9223372036854775808 ≤ b) (h1 : b ≤ 9223372036854775807) : -9223372036854775808 ≤ b.tdiv 9 ∧ b.tdiv 9 ≤ 9223372036854775807 := by
  rcases Int.le_total 0 b with h | h
  · rw [Int.tdiv_eq_ediv_of_nonneg h]; omega
  · have e : b.tdiv 9 = -((-b) / 9) := by rw [← Int.tdiv_eq_ediv_of_nonneg (by omega), Int.neg_tdiv, Int.neg_neg]
    rw [e]; omega
theorem own : ownKnob Try.prog.godebug = none := by kernel_rfl
theorem laidOut : laidOutB Try.prog = true := by kernel_rfl
section
attribute [local go_sem ↓] wp_at_zero wp_at_succ
set_option maxHeartbeats 16000000 in
set_option maxRecDepth 100000 in
theorem walk_rvalid (l : List Int) (A : Option Addr) (n c : Nat) (how b m : Int) (w : World) (hl : Rd w w.heap.size A n (l.map (Value.int .i64))) (hwf : ∀ x ∈ l, -9223372036854775808 ≤ x ∧ x ≤ 9223372036854775807) (hh : -9223372036854775808 ≤ how ∧ how ≤ 9223372036854775807) (hb : -9223372036854775808 ≤ b ∧ b ≤ 9223372036854775807) (hm : -9223372036854775808 ≤ m ∧ m ≤ 9223372036854775807) :
    Calls Try.prog 3 #[.slice A n c, .int .i64 how, .int .i64 b, .int .i64 m] w fun e w' => e = .returned (.bool true) ∧ Ext w w' := by
  have HRV := Lib.hid (review_any l A n c w hl hwf)
  clear hl hwf
  have hq9 := tdiv9 (b := how) hh.1 hh.2
  obtain ⟨hh0, hh1⟩ := hh
  have HH : Hid (-9223372036854775808 ≤ how ∧ how ≤ 9223372036854775807) := Lib.hid ⟨hh0, hh1⟩; have HB := Lib.hid hb; have HMM := Lib.hid hm; have HQ := Lib.hid hq9
  obtain ⟨r, hr⟩ : ∃ r, r = revOf l := ⟨_, rfl⟩
  have HVZ : Hid (validE r = 0) := Lib.hid (by rw [hr]; exact revOf_valid l)
  have HM4 : Hid (r.ops.length ≤ 4) := Lib.hid (by rw [hr]; exact revOf_many l)
  rw [← hr] at HRV
  obtain ⟨s1, hs1⟩ : ∃ s, s = spoil r how b := ⟨_, rfl⟩
  obtain ⟨s2, hs2⟩ : ∃ s, s = spoil s1 (how.tdiv 9) m := ⟨_, rfl⟩
  have HS1 := Lib.hid hs1; have HS2 := Lib.hid hs2
  clear hr hs1 hs2 hb hm hq9
  have zz : ∀ W, (zeroValue 27).run Try.prog W = .ok (.agg Z0.toArray) W := fun W => by kernel_rfl
  go_enter Try.func3, Try.ntmps3
  go_upto_region 4 with (first
    | (go_at_call 7; (with_reducible refine HRV.out.mono ?_); rintro e w1 ⟨⟨A1, n1, c1, rfl, hv1⟩, hE1⟩; have V1 := Lib.hid hv1; have EX := Lib.hid hE1; have L1 : Hid ((revC r A1 n1 c1).length = 22) := Lib.hid (revC_len _ _ _ _ hv1.mean); have HN1 : Hid (n1 ≤ 4) := Lib.hid (by have h1 := hv1.len; have h2 := HM4.out; omega); clear hv1 hE1)
    | (refine wpList_store_freshw rfl 27 (.tmp 9) (.tmp 13) rfl w1.heap.size rfl Z0 (revC r A1 n1 c1) 27 (by kernel_rfl) (by kernel_rfl) (info_rev.trans (congrArg some L1.out.symm)) (Eq.trans (b := 22) rfl L1.out.symm) (revC_one _ _ _ _) ?_; intro w2 hw2 hE2 hz2; have B9 := Lib.hid hw2; have V1 := Lib.hid (RevV.ext V1.out hE2); have EX := Lib.hid (EX.out.next hE2); clear hw2 hE2 hz2)
    | (refine wpList_load_blk rfl 27 (.tmp 9) rfl w1.heap.size (by kernel_rfl) B9.out Try.underlying27 rfl (info_rev.trans (congrArg some L1.out.symm)) ?_)
    | (go_at_call 8; (with_reducible refine (spoilt_any r how b A1 n1 c1 w2 V1.out (Nat.le_trans HN1.out (by decide)) HH.out.1 HH.out.2 HB.out.1 HB.out.2).mono ?_); rintro e w3 ⟨⟨A3, n3, c3, rfl, hv3, hn3⟩, hE3⟩; rw [← HS1.out] at hv3 ⊢; have V3 := Lib.hid hv3; have L3 : Hid ((revC s1 A3 n3 c3).length = 22) := Lib.hid (revC_len _ _ _ _ hv3.mean); have HN3 : Hid (n3 ≤ 38) := Lib.hid (by have h1 := HN1.out; omega); have B9 := Lib.hid (B9.out.ext hE3); have V1 := Lib.hid (RevV.ext V1.out hE3); have EX := Lib.hid (EX.out.next hE3); clear hv3 hE3 hn3)
    | (refine wpList_store_freshw rfl 27 (.tmp 10) (.tmp 17) rfl w3.heap.size rfl Z0 (revC s1 A3 n3 c3) 27 (by kernel_rfl) (by kernel_rfl) (info_rev.trans (congrArg some L3.out.symm)) (Eq.trans (b := 22) rfl L3.out.symm) (revC_one _ _ _ _) ?_; intro w4 hw4 hE4 hz4; have B10 := Lib.hid hw4; have V3 := Lib.hid (RevV.ext V3.out hE4); have B9 := Lib.hid (B9.out.ext hE4); have V1 := Lib.hid (RevV.ext V1.out hE4); have EX := Lib.hid (EX.out.next hE4); clear hw4 hE4 hz4)
    | (refine wpList_load_blk rfl 27 (.tmp 10) rfl w3.heap.size (by kernel_rfl) B10.out Try.underlying27 rfl (info_rev.trans (congrArg some L3.out.symm)) ?_)
    | (go_at_call 8; (with_reducible refine (spoilt_any s1 (how.tdiv 9) m A3 n3 c3 w4 V3.out (Nat.le_trans HN3.out (by decide)) HQ.out.1 HQ.out.2 HMM.out.1 HMM.out.2).mono ?_); rintro e w5 ⟨⟨A5, n5, c5, rfl, hv5, hn5⟩, hE5⟩; rw [← HS2.out] at hv5 ⊢; have V5 := Lib.hid hv5; have L5 : Hid ((revC s2 A5 n5 c5).length = 22) := Lib.hid (revC_len _ _ _ _ hv5.mean); have V3 := Lib.hid (RevV.ext V3.out hE5); have B10 := Lib.hid (B10.out.ext hE5); have B9 := Lib.hid (B9.out.ext hE5); have V1 := Lib.hid (RevV.ext V1.out hE5); have EX := Lib.hid (EX.out.next hE5); clear hv5 hE5 hn5)
    | (refine wpList_store_freshw rfl 27 (.tmp 11) (.tmp 22) rfl w5.heap.size rfl Z0 (revC s2 A5 n5 c5) 27 (by kernel_rfl) (by kernel_rfl) (info_rev.trans (congrArg some L5.out.symm)) (Eq.trans (b := 22) rfl L5.out.symm) (revC_one _ _ _ _) ?_; intro w6 hw6 hE6 hz6; have B11 := Lib.hid hw6; have V5 := Lib.hid (RevV.ext V5.out hE6); have V3 := Lib.hid (RevV.ext V3.out hE6); have B10 := Lib.hid (B10.out.ext hE6); have B9 := Lib.hid (B9.out.ext hE6); have V1 := Lib.hid (RevV.ext V1.out hE6); have EX := Lib.hid (EX.out.next hE6); clear hw6 hE6 hz6))
  obtain ⟨e1, he1⟩ : ∃ e, e = validE s1 := ⟨_, rfl⟩
  obtain ⟨e2, he2⟩ : ∃ e, e = validE s2 := ⟨_, rfl⟩
  have C0 : Hid (∀ W, Ext w6 W → Calls Try.prog 9 #[.agg (revC r A1 n1 c1).toArray] W fun e w' => e = .returned (.int .i64 0) ∧ Ext W w') := Lib.hid (fun W hW => by
    have h := valid_any r A1 n1 c1 W (RevV.ext V1.out hW)
    rw [HVZ.out] at h
    exact h)
  have C1 : Hid (∀ W, Ext w6 W → Calls Try.prog 9 #[.agg (revC s1 A3 n3 c3).toArray] W fun e w' => e = .returned (.int .i64 e1) ∧ Ext W w') := Lib.hid (fun W hW => by rw [he1]; exact valid_any s1 A3 n3 c3 W (RevV.ext V3.out hW))
  have C2 : Hid (∀ W, Ext w6 W → Calls Try.prog 10 #[.agg (revC s1 A3 n3 c3).toArray] W fun e w' => e = .returned (.int .i64 e1) ∧ Ext W w') := Lib.hid (fun W hW => by rw [he1]; exact rvalid_any s1 A3 n3 c3 W (RevV.ext V3.out hW))
  have C3 : Hid (∀ W, Ext w6 W → Calls Try.prog 9 #[.agg (revC s2 A5 n5 c5).toArray] W fun e w' => e = .returned (.int .i64 e2) ∧ Ext W w') := Lib.hid (fun W hW => by rw [he2]; exact valid_any s2 A5 n5 c5 W (RevV.ext V5.out hW))
  have C4 : Hid (∀ W, Ext w6 W → Calls Try.prog 10 #[.agg (revC s2 A5 n5 c5).toArray] W fun e w' => e = .returned (.int .i64 e2) ∧ Ext W w') := Lib.hid (fun W hW => by rw [he2]; exact rvalid_any s2 A5 n5 c5 W (RevV.ext V5.out hW))
  have CL : Hid (∀ W, Calls Try.prog 11 #[] W fun e w' => e = .returned (.bool true) ∧ Ext W w') := Lib.hid lives_any
  clear he1 he2 HRV HS1 HS2 HVZ HM4
  refine wp_region_flowF 20 ?FW1 (fun us => ?_) (by kernel_rfl) (by kernel_rfl) (fun a b => Ext a b) Ext.refl (fun h1 h2 => h1.next h2) (fun i v W => match i with
    | 0 => v = .agg (revC r A1 n1 c1).toArray
    | 1 => v = .int .i64 0
    | 2 => v = .bool true
    | 3 => v = .bool true
    | 4 => v = .agg (revC s1 A3 n3 c3).toArray
    | 5 => v = .int .i64 e1
    | 6 => v = .agg (revC s1 A3 n3 c3).toArray
    | 7 => v = .int .i64 e1
    | 8 => v = .bool true
    | 9 => v = .bool true
    | 10 => v = .bool true
    | 11 => v = .agg (revC s2 A5 n5 c5).toArray
    | 12 => v = .int .i64 e2
    | 13 => v = .agg (revC s2 A5 n5 c5).toArray
    | 14 => v = .int .i64 e2
    | 15 => v = .bool true
    | 16 => v = .bool true
    | 17 => v = .bool true
    | 18 => v = .bool true
    | 19 => v = .bool true
    | _ => True) ?_ ?_
  case refine_1 =>
    simp only [List.take_succ_cons, List.take_zero, flowAct, Nat.zero_add, Nat.reduceAdd, Act.put, List.setIfInBounds_toArray, List.set_cons_succ, List.set_cons_zero]
    rfl
  · simp only [List.take_succ_cons, List.take_zero, flowStepsF]
    refine ⟨?_, ?_, ?_, ?_, ?_, ?_, ?_, ?_, ?_, ?_, ?_, ?_, ?_, ?_, ?_, ?_, ?_, ?_, ?_, ?_, trivial⟩
    · intro us W K hE hd hK
      have BW9 := Lib.hid (B9.out.ext (sg_undrew hE))
      dsimp only at hK ⊢
      have HK := Lib.hid hK; have HE := Lib.hid hE
      clear hK hd hE
      go_wp2_with (go_loud (refine wpList_load_want (by rfl) 27 (.tmp 9) rfl w1.heap.size (by kernel_rfl) BW9.out Try.underlying27 rfl (info_rev.trans (congrArg some L1.out.symm)) ?_))
      exact K_at (HK.out (.agg (revC r A1 n1 c1).toArray) W (fun _ _ => rfl) (Ext.refl W)) (by kernel_rfl)
    · intro us W K hE hd hK
      have d0 := hd 0 (by kernel_rfl)
      dsimp only at hK ⊢
      rw [d0] at hK ⊢
      have HK := Lib.hid hK; have HE := Lib.hid hE
      clear hK hd hE d0
      go_wp2_with (go_loud (go_at_call 9; (with_reducible refine (C0.out W (sg_undrew HE.out)).mono ?_); rintro e w9 ⟨rfl, hB9⟩))
      exact K_at (HK.out (.int .i64 0) w9 (fun _ _ => rfl) hB9) (by kernel_rfl)
    · intro us W K hE hd hK
      have d1 := hd 1 (by kernel_rfl)
      dsimp only at hK ⊢
      rw [d1] at hK ⊢
      have HK := Lib.hid hK; have HE := Lib.hid hE
      clear hK hd hE d1
      go_wp2_with fail
      exact K_at (HK.out (.bool true) W (fun _ _ => rfl) (Ext.refl W)) (by kernel_rfl)
    · intro us W K hE hd hK
      have d2 := hd 2 (by kernel_rfl)
      dsimp only at hK ⊢
      rw [d2] at hK ⊢
      have HK := Lib.hid hK; have HE := Lib.hid hE
      clear hK hd hE d2
      go_wp2_with fail
      exact K_at (HK.out (.bool true) W (fun _ _ => rfl) (Ext.refl W)) (by kernel_rfl)
    · intro us W K hE hd hK
      have d3 := hd 3 (by kernel_rfl)
      have BW9 := Lib.hid (B10.out.ext (sg_undrew hE))
      dsimp only at hK ⊢
      rw [d3] at hK ⊢
      have HK := Lib.hid hK; have HE := Lib.hid hE
      clear hK hd hE d3
      go_wp2_with (go_loud (refine wpList_load_want (by rfl) 27 (.tmp 10) rfl w3.heap.size (by kernel_rfl) BW9.out Try.underlying27 rfl (info_rev.trans (congrArg some L3.out.symm)) ?_))
      exact K_at (HK.out (.agg (revC s1 A3 n3 c3).toArray) W (fun _ _ => rfl) (Ext.refl W)) (by kernel_rfl)
    · intro us W K hE hd hK
      have d3 := hd 3 (by kernel_rfl)
      have d4 := hd 4 (by kernel_rfl)
      dsimp only at hK ⊢
      rw [d3, d4] at hK ⊢
      have HK := Lib.hid hK; have HE := Lib.hid hE
      clear hK hd hE d3 d4
      go_wp2_with (go_loud (go_at_call 9; (with_reducible refine (C1.out W (sg_undrew HE.out)).mono ?_); rintro e w9 ⟨rfl, hB9⟩))
      exact K_at (HK.out (.int .i64 e1) w9 (fun _ _ => rfl) hB9) (by kernel_rfl)
    · intro us W K hE hd hK
      have d3 := hd 3 (by kernel_rfl)
      have BW9 := Lib.hid (B10.out.ext (sg_undrew hE))
      dsimp only at hK ⊢
      rw [d3] at hK ⊢
      have HK := Lib.hid hK; have HE := Lib.hid hE
      clear hK hd hE d3
      go_wp2_with (go_loud (refine wpList_load_want (by rfl) 27 (.tmp 10) rfl w3.heap.size (by kernel_rfl) BW9.out Try.underlying27 rfl (info_rev.trans (congrArg some L3.out.symm)) ?_))
      exact K_at (HK.out (.agg (revC s1 A3 n3 c3).toArray) W (fun _ _ => rfl) (Ext.refl W)) (by kernel_rfl)
    · intro us W K hE hd hK
      have d3 := hd 3 (by kernel_rfl)
      have d6 := hd 6 (by kernel_rfl)
      dsimp only at hK ⊢
      rw [d3, d6] at hK ⊢
      have HK := Lib.hid hK; have HE := Lib.hid hE
      clear hK hd hE d3 d6
      go_wp2_with (go_loud (go_at_call 10; (with_reducible refine (C2.out W (sg_undrew HE.out)).mono ?_); rintro e w9 ⟨rfl, hB9⟩))
      exact K_at (HK.out (.int .i64 e1) w9 (fun _ _ => rfl) hB9) (by kernel_rfl)
    · intro us W K hE hd hK
      have d3 := hd 3 (by kernel_rfl)
      have d5 := hd 5 (by kernel_rfl)
      have d7 := hd 7 (by kernel_rfl)
      dsimp only at hK ⊢
      rw [d3, d5, d7] at hK ⊢
      have HK := Lib.hid hK; have HE := Lib.hid hE
      clear hK hd hE d3 d5 d7
      go_wp2_with fail
      exact K_at (HK.out (.bool true) W (fun _ _ => rfl) (Ext.refl W)) (by kernel_rfl)
    · intro us W K hE hd hK
      have d3 := hd 3 (by kernel_rfl)
      have d8 := hd 8 (by kernel_rfl)
      dsimp only at hK ⊢
      rw [d3, d8] at hK ⊢
      have HK := Lib.hid hK; have HE := Lib.hid hE
      clear hK hd hE d3 d8
      go_wp2_with fail
      exact K_at (HK.out (.bool true) W (fun _ _ => rfl) (Ext.refl W)) (by kernel_rfl)
    · intro us W K hE hd hK
      have d9 := hd 9 (by kernel_rfl)
      dsimp only at hK ⊢
      rw [d9] at hK ⊢
      have HK := Lib.hid hK; have HE := Lib.hid hE
      clear hK hd hE d9
      go_wp2_with fail
      exact K_at (HK.out (.bool true) W (fun _ _ => rfl) (Ext.refl W)) (by kernel_rfl)
    · intro us W K hE hd hK
      have d10 := hd 10 (by kernel_rfl)
      have BW9 := Lib.hid (B11.out.ext (sg_undrew hE))
      dsimp only at hK ⊢
      rw [d10] at hK ⊢
      have HK := Lib.hid hK; have HE := Lib.hid hE
      clear hK hd hE d10
      go_wp2_with (go_loud (refine wpList_load_want (by rfl) 27 (.tmp 11) rfl w5.heap.size (by kernel_rfl) BW9.out Try.underlying27 rfl (info_rev.trans (congrArg some L5.out.symm)) ?_))
      exact K_at (HK.out (.agg (revC s2 A5 n5 c5).toArray) W (fun _ _ => rfl) (Ext.refl W)) (by kernel_rfl)
    · intro us W K hE hd hK
      have d10 := hd 10 (by kernel_rfl)
      have d11 := hd 11 (by kernel_rfl)
      dsimp only at hK ⊢
      rw [d10, d11] at hK ⊢
      have HK := Lib.hid hK; have HE := Lib.hid hE
      clear hK hd hE d10 d11
      go_wp2_with (go_loud (go_at_call 9; (with_reducible refine (C3.out W (sg_undrew HE.out)).mono ?_); rintro e w9 ⟨rfl, hB9⟩))
      exact K_at (HK.out (.int .i64 e2) w9 (fun _ _ => rfl) hB9) (by kernel_rfl)
    · intro us W K hE hd hK
      have d10 := hd 10 (by kernel_rfl)
      have BW9 := Lib.hid (B11.out.ext (sg_undrew hE))
      dsimp only at hK ⊢
      rw [d10] at hK ⊢
      have HK := Lib.hid hK; have HE := Lib.hid hE
      clear hK hd hE d10
      go_wp2_with (go_loud (refine wpList_load_want (by rfl) 27 (.tmp 11) rfl w5.heap.size (by kernel_rfl) BW9.out Try.underlying27 rfl (info_rev.trans (congrArg some L5.out.symm)) ?_))
      exact K_at (HK.out (.agg (revC s2 A5 n5 c5).toArray) W (fun _ _ => rfl) (Ext.refl W)) (by kernel_rfl)
    · intro us W K hE hd hK
      have d10 := hd 10 (by kernel_rfl)
      have d13 := hd 13 (by kernel_rfl)
      dsimp only at hK ⊢
      rw [d10, d13] at hK ⊢
      have HK := Lib.hid hK; have HE := Lib.hid hE
      clear hK hd hE d10 d13
      go_wp2_with (go_loud (go_at_call 10; (with_reducible refine (C4.out W (sg_undrew HE.out)).mono ?_); rintro e w9 ⟨rfl, hB9⟩))
      exact K_at (HK.out (.int .i64 e2) w9 (fun _ _ => rfl) hB9) (by kernel_rfl)
    · intro us W K hE hd hK
      have d10 := hd 10 (by kernel_rfl)
      have d12 := hd 12 (by kernel_rfl)
      have d14 := hd 14 (by kernel_rfl)
      dsimp only at hK ⊢
      rw [d10, d12, d14] at hK ⊢
      have HK := Lib.hid hK; have HE := Lib.hid hE
      clear hK hd hE d10 d12 d14
      go_wp2_with fail
      exact K_at (HK.out (.bool true) W (fun _ _ => rfl) (Ext.refl W)) (by kernel_rfl)
    · intro us W K hE hd hK
      have d10 := hd 10 (by kernel_rfl)
      have d15 := hd 15 (by kernel_rfl)
      dsimp only at hK ⊢
      rw [d10, d15] at hK ⊢
      have HK := Lib.hid hK; have HE := Lib.hid hE
      clear hK hd hE d10 d15
      go_wp2_with fail
      exact K_at (HK.out (.bool true) W (fun _ _ => rfl) (Ext.refl W)) (by kernel_rfl)
    · intro us W K hE hd hK
      have d16 := hd 16 (by kernel_rfl)
      dsimp only at hK ⊢
      rw [d16] at hK ⊢
      have HK := Lib.hid hK; have HE := Lib.hid hE
      clear hK hd hE d16
      go_wp2_with fail
      exact K_at (HK.out (.bool true) W (fun _ _ => rfl) (Ext.refl W)) (by kernel_rfl)
    · intro us W K hE hd hK
      have d17 := hd 17 (by kernel_rfl)
      dsimp only at hK ⊢
      rw [d17] at hK ⊢
      have HK := Lib.hid hK; have HE := Lib.hid hE
      clear hK hd hE d17
      go_wp2_with (go_loud (go_at_call 11; (with_reducible refine (CL.out W).mono ?_); rintro e w9 ⟨rfl, hB9⟩))
      exact K_at (HK.out (.bool true) w9 (fun _ _ => rfl) hB9) (by kernel_rfl)
    · intro us W K hE hd hK
      have d17 := hd 17 (by kernel_rfl)
      have d18 := hd 18 (by kernel_rfl)
      dsimp only at hK ⊢
      rw [d17, d18] at hK ⊢
      have HK := Lib.hid hK; have HE := Lib.hid hE
      clear hK hd hE d17 d18
      go_wp2_with fail
      exact K_at (HK.out (.bool true) W (fun _ _ => rfl) (Ext.refl W)) (by kernel_rfl)
  · intro us W hE hd
    try dsimp only
    have d19 := hd 19 (by decide)
    simp only [List.drop_succ_cons, List.drop_zero]
    rw [d19]
    have EW := Lib.hid (EX.out.next (sg_undrew hE))
    clear hd hE d19
    go_wp2_with fail
    go_ret
    exact ⟨rfl, EW.out⟩
end
namespace fnReviewValid
theorem params_reviewValid : (Try.f3.params.toList.all fun t => Try.prog.readableRec t && decide (t < Try.prog.types.size)) = true := by kernel_rfl
set_option maxRecDepth 100000 in
theorem contract (H : Type) (enc : TypeId × Value → H) (W : World) (base : Nat) (args : Array Value) (ds gs : List (DataW H)) (before : List MemPlace)
    (hval : ∀ (j : Nat) t v, Try.f3.params[j]? = some t → args[j]? = some v → Value.okWide Try.prog W .any base t v)
    (hW : DataW.Whole enc Try.prog Try.f3.params.toList Rows.reviewValidSpec.vars false W args.toList ds gs before) :
    Calls Try.prog 3 args W fun e W' => ∃ v, e = .returned v ∧ Rows.reviewValidSpec.post enc Try.prog Try.f3 false true false false W args v W' := by
  have hW' := hW
  obtain ⟨p, q, hA0, _, _, _, _⟩ := hW
  have hA : DataW.TrodAll enc Try.prog W 0 (fun _ => true) true Try.f3.params.toList args.toList ds p := hA0
  rw [Try.params3] at hA hval
  obtain ⟨v0, vs0, d0, ds0, p0, q0, hargs, e0d, e0p, h0, r0⟩ := trodAll_cons hA
  obtain ⟨v1, vs1, d1, ds1, p1, q1, e1, e1d, e1p, h1, r1⟩ := trodAll_cons r0
  obtain ⟨v2, vs2, d2, ds2, p2, q2, e2, e2d, e2p, h2, r2⟩ := trodAll_cons r1
  obtain ⟨v3, vs3, d3, ds3, p3, q3, e3, e3d, e3p, h3, r3⟩ := trodAll_cons r2
  obtain ⟨en1, en2, en3⟩ := trodAll_nil r3
  obtain rfl : args = #[v0, v1, v2, v3] := by cases args; simp_all
  clear hA hA0
  obtain ⟨A, n, c, l, rfl, hR, hwf, hnc, hc⟩ := open_u8s Try.underlying22 Try.underlying3 cellsint (hval 0 _ v0 rfl rfl) h0
  obtain ⟨x, rfl, _, _, hx⟩ := open_int Try.underlying3 (hval 1 _ v1 rfl rfl) h1
  obtain ⟨y, rfl, _, _, hy⟩ := open_int Try.underlying3 (hval 2 _ v2 rfl rfl) h2
  obtain ⟨z, rfl, _, _, hz⟩ := open_int Try.underlying3 (hval 3 _ v3 rfl rfl) h3
  refine (walk_rvalid l A n c x y z W hR (fun x hx => wf_i64' (hwf x hx)) (wf_i64' hx) (wf_i64' hy) (wf_i64' hz)).mono fun e W' ⟨he, hg⟩ => ⟨_, he, ?_⟩
  exact post_law hW' laidOut (params_ok params_reviewValid) 4 rfl Try.underlying4 rfl (fun ds h => by
    rw [Try.params3] at h
    match ds, h with
    | [_, _, _, _], _ => rfl) hg
noncomputable def laidWorld (os : Os) : World := World.holding Try.prog os ⟨#[], #[], []⟩
theorem reads (os : Os) {H : Type} (enc : TypeId × Value → H) : ∃ places, DataW.whole enc Try.prog ((laidWorld os).forCall (fun _ _ => 0) ⟨#[], #[.slice none 0 0, .int .i64 0, .int .i64 0, .int .i64 0], []⟩).memory Try.f3.params.toList Rows.reviewValidSpec.vars false (#[.slice none 0 0, .int .i64 0, .int .i64 0, .int .i64 0] : Array Value).toList 8 = some ([.nil, .lit (.int .i64 0), .lit (.int .i64 0), .lit (.int .i64 0)], [], places) :=
  ⟨[], by kernel_rfl⟩
set_option maxRecDepth 100000 in
theorem lifted (os : Os) (started : os.Started) (H : Type) (enc : TypeId × Value → H) (F : Stop.Interp) :
    ReturnsInHanded {} Try.checked os 3 .any ((OpenSpec.ofChange Rows.reviewValidSpec).preRow enc Try.prog Try.f3 Rows.reviewValidRow.domain false Rows.reviewValidRow.laid) (((OpenSpec.ofChange Rows.reviewValidSpec).at F).post enc Try.prog Try.f3 false true false false) := by
  obtain ⟨places, hx⟩ := reads os enc
  refine returnsInHanded_of_row (C := Try.checked) (s := OpenSpec.ofChange Rows.reviewValidSpec) own started (by kernel_rfl) Try.func3
    (witness_row_at (enc := enc) (C := Try.checked) false (laidWorld os) #[.slice none 0 0, .int .i64 0, .int .i64 0, .int .i64 0] rfl (by kernel_rfl) (by kernel_rfl) (by kernel_rfl)
      (OpenSpec.preRow_of_cond 8 hx (by kernel_rfl) (fun k hk => by cases hk) (by kernel_rfl) (laidMet_nil _ _))) ?_
  intro W base args ds gs before hval hW _ _ _ hL _ _
  exact contract H enc W base args ds gs before hval hW
theorem said : Rows.ReviewValidSaid :=
  OpenClaim.holds_of_cond 3 Try.f3 rfl rfl rfl rfl rfl rfl rfl ⟨rfl, rfl, rfl, rfl, rfl⟩ rfl rfl rfl rfl rfl (by kernel_rfl) Try.func3 (by kernel_rfl)
    (of_decide_eq_true (by kernel_rfl)) (by unfold Func.isWrapper; first | (rw [if_pos (by decide +kernel)]; kernel_rfl) | (rw [if_neg (by decide +kernel)]; exact ⟨rfl, rfl⟩))
    (fun os started H enc _ F => by rw [OpenClaim.pre_eq_preRow]; exact lifted os started H enc F)
end fnReviewValid
end Go.Proofs.Ytphabdlcjpfbaaa
