/- Encode of a review, and whether two reviews are the same. Conditions: as for encode. -/
import Derived.Test.YtjeecfjeooehhaaGreatDoorRvD
import Derived.Test.YtjeecfjeooehhaaGreatDoorRvE
import Derived.Test.YtjeecfjeooehhaaGreatDoorRvH
set_option linter.unusedSimpArgs false
set_option linter.unusedVariables false
namespace Go.Proofs.YtjeecfjeooehhaaGreatDoor
open Go.RowKit
attribute [local go_sem ↓] wp_at_zero wp_at_succ
/-- What Encode returns. -/
def encE (r : Rev) : Int := if validE r = 0 then (if 1200 < r.sl.size then 4 else 0) else validE r
def encX (r : Rev) : List Int := if encE r = 0 then encR r else []
/-- What is encoded keeps to its bounds. -/
theorem okB_id {L : List Rid} (h : okB L = true) {x : Rid} (hx : x ∈ L) : idB x = true := by
  obtain ⟨i, hi, rfl⟩ := List.getElem_of_mem hx
  have := List.all_eq_true.1 h i (List.mem_range.2 hi)
  unfold goodB at this
  rw [Bool.and_eq_true] at this
  have h2 := this.1
  rw [List.getD_eq_getElem?_getD, List.getElem?_eq_getElem hi] at h2
  exact h2
theorem validE_zero {r : Rev} (h : validE r = 0) : (0 ≤ r.shop ∧ r.shop ≤ 7 ∧ 1 ≤ r.seq ∧ r.seq ≤ 16 ∧ 1 ≤ r.day ∧ r.day ≤ 1048576) ∧ r.ops.length ≤ 32 ∧ 0 < r.ops.length ∧ okB r.ops = true := by
  unfold validE at h
  split at h
  · cases h
  · rename_i h1
    split at h
    · cases h
    · split at h
      · cases h
      · split at h
        · rename_i h2 h3 h4
          refine ⟨?_, by omega, by omega, h4⟩
          have h5 : (rnumB r.shop r.seq && winB r.day 1 1048576) = true := by
            cases hb : (rnumB r.shop r.seq && winB r.day 1 1048576) with
            | true => rfl
            | false => exact absurd hb h1
          unfold rnumB winB at h5
          simp only [Bool.and_eq_true, decide_eq_true_eq] at h5
          omega
        · cases h
theorem revW_of {r : Rev} (h : encE r = 0) : RevW r := by
  unfold encE at h
  split at h
  · rename_i hv
    split at h
    · cases h
    · rename_i hs
      obtain ⟨⟨a1, a2, a3, a4, a5, a6⟩, b1, b2, b3⟩ := validE_zero hv
      refine ⟨⟨by omega, by omega⟩, ⟨by omega, by omega⟩, ⟨by omega, by omega⟩, fun x hx => ?_, by omega, by omega⟩
      unfold opsI at hx
      obtain ⟨y, hy, hxy⟩ := List.mem_flatMap.1 hx
      have := (idB_iff y).1 (okB_id b3 hy)
      unfold opI at hxy
      simp only [List.mem_cons, List.not_mem_nil, or_false] at hxy
      rcases hxy with rfl | rfl | rfl <;> omega
  · rename_i hv
    exact absurd h hv
set_option maxHeartbeats 16000000 in
set_option maxRecDepth 100000 in
theorem encodeX_any (r : Rev) (A : Option Addr) (n c : Nat) (w : World) (hr : RevV w r A n c) : Calls Tryz.prog 8 #[.agg (revC r A n c).toArray] w fun e w' => (∃ A' c', e = .returned (.tuple #[.slice A' (encX r).length c', .int .i64 (encE r)]) ∧ w'.ownsRow w.heap.size 5 1 (.slice A' (encX r).length c') (encX r).length (u8s (encX r))) ∧ Ext w w' := by
  have HR := Lib.hid hr
  have HCK : Hid ((revC r A n c).length = 22) := Lib.hid (revC_len _ _ _ _ hr.mean)
  obtain ⟨V, hV⟩ : ∃ v, v = validE r := ⟨_, rfl⟩
  have HVV := Lib.hid hV
  clear hr hV
  go_enter Tryz.func8, Tryz.ntmps8
  go_upto_region 1 with fail
  obtain ⟨w1, hw1⟩ : ∃ x, x = w.alloc (.cells (revC r A n c).toArray 28) := ⟨_, rfl⟩
  change Code.wp _ _ _ _ (w.alloc (.cells (revC r A n c).toArray 28))
  rw [← hw1]
  have E1 : Hid (Ext w w1) := Lib.hid (by rw [hw1]; exact (Ext.refl w).alloc _)
  have BR : Hid (Blk w1 w.heap.size 28 (revC r A n c)) := Lib.hid (by rw [hw1]; exact Blk.fresh' _ _ _ _ _ rfl rfl)
  have HV1 : Hid (Calls Tryz.prog 23 #[.agg (revC r A n c).toArray] w1 fun e w' => e = .returned (.int .i64 V) ∧ Ext w1 w') := Lib.hid (by rw [HVV.out]; exact valid_any r A n c w1 (HR.out.ext E1.out))
  clear hw1
  by_cases hv0 : V = 0
  · subst hv0
    by_cases hs : 1200 < r.sl.size
    · have HE : Hid (encE r = 4) := Lib.hid (by unfold encE; rw [← HVV.out, if_pos rfl, if_pos hs])
      have HX : Hid (encX r = []) := Lib.hid (by unfold encX; rw [if_neg (by rw [HE.out]; decide)])
      have hs1 : decide (1200 < (r.sl.size : Int)) = true := decide_eq_true (by omega)
      go_wp2_with (go_loud (first
    | (refine wpList_load_blk rfl 28 (.tmp 1) rfl w.heap.size (by kernel_rfl) BR.out Tryz.underlying28 rfl (info_rev.trans (congrArg some HCK.out.symm)) ?_)
    | (go_at_call 23; (with_reducible refine (HV1.out).mono ?_); rintro e w2 ⟨rfl, hE2⟩; have X2 : Hid (Ext w w2) := Lib.hid (E1.out.next hE2); have BR := Lib.hid (BR.out.ext hE2); have VR2 := Lib.hid (HR.out.ext X2.out); have cc21 : w2.cell? ⟨w.heap.size, 21, none⟩ = some (.string r.sl) := (BR.out.cell 21).trans (revC_21 _ _ _ _ HR.out.mean); clear hE2)
    | (go_at_call 31; (with_reducible refine (encode_any r A n c w2 VR2.out HW.out).mono ?_); rintro e w3 ⟨⟨A3, c3, rfl, ho⟩, hE3⟩)))
      go_ret2
      exact ⟨⟨none, 0, by rw [HX.out, HE.out]; rfl, by rw [HX.out]; exact World.ownsRow_nil _ _ _ _⟩, X2.out⟩
    · have HE : Hid (encE r = 0) := Lib.hid (by unfold encE; rw [← HVV.out, if_pos rfl, if_neg hs])
      have HX : Hid (encX r = encR r) := Lib.hid (by unfold encX; rw [if_pos HE.out])
      have HW : Hid (RevW r) := Lib.hid (revW_of HE.out)
      have hs1 : decide (1200 < (r.sl.size : Int)) = false := decide_eq_false (by omega)
      go_wp2_with (go_loud (first
    | (refine wpList_load_blk rfl 28 (.tmp 1) rfl w.heap.size (by kernel_rfl) BR.out Tryz.underlying28 rfl (info_rev.trans (congrArg some HCK.out.symm)) ?_)
    | (go_at_call 23; (with_reducible refine (HV1.out).mono ?_); rintro e w2 ⟨rfl, hE2⟩; have X2 : Hid (Ext w w2) := Lib.hid (E1.out.next hE2); have BR := Lib.hid (BR.out.ext hE2); have VR2 := Lib.hid (HR.out.ext X2.out); have cc21 : w2.cell? ⟨w.heap.size, 21, none⟩ = some (.string r.sl) := (BR.out.cell 21).trans (revC_21 _ _ _ _ HR.out.mean); clear hE2)
    | (go_at_call 31; (with_reducible refine (encode_any r A n c w2 VR2.out HW.out).mono ?_); rintro e w3 ⟨⟨A3, c3, rfl, ho⟩, hE3⟩)))
      go_ret2
      exact ⟨⟨A3, c3, by rw [HX.out, HE.out]; rfl, by rw [HX.out]; exact own_lo ho X2.out.size⟩, X2.out.next hE3⟩
  · have HE : Hid (encE r = V) := Lib.hid (by unfold encE; rw [← HVV.out, if_neg hv0])
    have HX : Hid (encX r = []) := Lib.hid (by unfold encX; rw [if_neg (by rw [HE.out]; exact hv0)])
    have hne : (V == 0) = false := by rw [beq_eq_false_iff_ne]; exact hv0
    clear hv0
    go_wp2_with (go_loud (first
    | (refine wpList_load_blk rfl 28 (.tmp 1) rfl w.heap.size (by kernel_rfl) BR.out Tryz.underlying28 rfl (info_rev.trans (congrArg some HCK.out.symm)) ?_)
    | (go_at_call 23; (with_reducible refine (HV1.out).mono ?_); rintro e w2 ⟨rfl, hE2⟩; have X2 : Hid (Ext w w2) := Lib.hid (E1.out.next hE2); have BR := Lib.hid (BR.out.ext hE2); have VR2 := Lib.hid (HR.out.ext X2.out); have cc21 : w2.cell? ⟨w.heap.size, 21, none⟩ = some (.string r.sl) := (BR.out.cell 21).trans (revC_21 _ _ _ _ HR.out.mean); clear hE2)
    | (go_at_call 31; (with_reducible refine (encode_any r A n c w2 VR2.out HW.out).mono ?_); rintro e w3 ⟨⟨A3, c3, rfl, ho⟩, hE3⟩)))
    go_ret2
    exact ⟨⟨none, 0, by rw [HX.out, HE.out]; rfl, by rw [HX.out]; exact World.ownsRow_nil _ _ _ _⟩, X2.out⟩
theorem encR_le {w : World} {A : Option Addr} {n c : Nat} (r : Rev) (hr : RevV w r A n c) (hw : RevW r) : (encR r).length ≤ 1000030000 := by
  have hn : n ≤ 1000 := by rw [← hr.len]; exact hw.many
  have q1 := encL_le [r.shop, r.seq, r.day] (fun x hx => by
    simp only [List.mem_cons, List.not_mem_nil, or_false] at hx
    rcases hx with rfl | rfl | rfl
    · exact hw.shop
    · exact hw.seq
    · exact hw.day) (by simp)
  have q2 := encInt_le9 (wdI r.wd) (by unfold wdI; split <;> decide) (by unfold wdI; split <;> decide)
  have q3 := encL_le _ hw.ops (by rw [opsI_len, hr.len]; omega)
  have q4 : (encL idD [r.mean]).length ≤ 25 := by
    have h := encInt_le9 1 (by decide) (by decide)
    unfold encL idD
    simp only [List.length_append, List.flatMap_cons, List.flatMap_nil, List.length_nil, hr.mean, List.length_cons]
    have : (((0 + 1 : Nat) : Int)) = 1 := rfl
    rw [this]; omega
  have q5 : (encB r.sl).length ≤ 9 + r.sl.size := by
    have h := encInt_le9 (r.sl.size : Int) (by omega) (by have := hw.sls; omega)
    unfold encB
    rw [List.length_append, bys_length]; omega
  rw [opsI_len, hr.len] at q3
  simp only [List.length_cons, List.length_nil] at q1
  have := hw.sls
  unfold encR
  simp only [List.length_append]
  omega
set_option maxHeartbeats 16000000 in
set_option maxRecDepth 100000 in
theorem rsame_any (r s : Rev) (A B : Option Addr) (n c m d : Nat) (w : World) (hr : RevV w r A n c) (hw : RevW r) (hs : RevV w s B m d) (hx : RevW s) : Calls Tryz.prog 11 #[.agg (revC r A n c).toArray, .agg (revC s B m d).toArray] w fun e w' => e = .returned (.bool (decide (encR r = encR s))) ∧ Ext w w' := by
  have HR := Lib.hid hr; have HS := Lib.hid hs
  have HW := Lib.hid hw; have HX := Lib.hid hx
  have HCR : Hid ((revC r A n c).length = 22) := Lib.hid (revC_len _ _ _ _ hr.mean)
  have HCS : Hid ((revC s B m d).length = 22) := Lib.hid (revC_len _ _ _ _ hs.mean)
  obtain ⟨k1, hk1⟩ : ∃ k, k = (encR r).length := ⟨_, rfl⟩
  obtain ⟨k2, hk2⟩ : ∃ k, k = (encR s).length := ⟨_, rfl⟩
  have HB1 : Hid (∀ W, Ext w W → Calls Tryz.prog 35 #[.agg (revC r A n c).toArray] W fun e w' => (∃ A' c', e = .returned (.slice A' k1 c') ∧ Rd w' w'.heap.size A' k1 (u8s (encR r))) ∧ Ext W w') := Lib.hid (fun W hW => (bytes_any r A n c W (hr.ext hW) hw).mono (by
    rintro e w' ⟨⟨A', c', rfl, ho⟩, hE⟩
    rw [← hk1] at ho ⊢
    exact ⟨⟨A', c', rfl, Rd.of_own ho⟩, hE⟩))
  have HB2 : Hid (∀ W, Ext w W → Calls Tryz.prog 35 #[.agg (revC s B m d).toArray] W fun e w' => (∃ A' c', e = .returned (.slice A' k2 c') ∧ Rd w' w'.heap.size A' k2 (u8s (encR s))) ∧ Ext W w') := Lib.hid (fun W hW => (bytes_any s B m d W (hs.ext hW) hx).mono (by
    rintro e w' ⟨⟨A', c', rfl, ho⟩, hE⟩
    rw [← hk2] at ho ⊢
    exact ⟨⟨A', c', rfl, Rd.of_own ho⟩, hE⟩))
  have hkb : k1 ≤ 1000030000 := by rw [hk1]; exact encR_le r hr hw
  have HKB := Lib.hid hkb
  clear hr hw hs hx hk1 hk2 hkb
  go_enter Tryz.func11, Tryz.ntmps11
  go_upto_region 1 with fail
  obtain ⟨w1, hw1⟩ : ∃ x, x = (w.alloc (.cells (revC r A n c).toArray 28)).alloc (.cells (revC s B m d).toArray 28) := ⟨_, rfl⟩
  change Code.wp _ _ _ _ ((w.alloc (.cells (revC r A n c).toArray 28)).alloc (.cells (revC s B m d).toArray 28))
  rw [← hw1]
  have E1 : Hid (Ext w w1) := Lib.hid (by rw [hw1]; exact ((Ext.refl w).alloc _).alloc _)
  have BR : Hid (Blk w1 w.heap.size 28 (revC r A n c)) := Lib.hid (by rw [hw1]; exact (Blk.fresh' _ _ _ _ _ rfl rfl).alloc _)
  have BS : Hid (Blk w1 (w.heap.size + 1) 28 (revC s B m d)) := Lib.hid (by rw [hw1]; exact Blk.fresh' _ _ _ _ _ rfl (by simp))
  clear hw1
  refine wp_region_flowF 5 ?FW1 (fun us => ?_) (by kernel_rfl) (by kernel_rfl) (fun a b => Ext a b) Ext.refl (fun h1 h2 => h1.next h2) (fun i v W => match i with
    | 0 => v = .agg (revC r A n c).toArray
    | 1 => ∃ A3 c3, v = .slice A3 k1 c3 ∧ Rd W W.heap.size A3 k1 (u8s (encR r))
    | 2 => v = .agg (revC s B m d).toArray
    | 3 => ∃ A3 c3, v = .slice A3 k2 c3 ∧ Rd W W.heap.size A3 k2 (u8s (encR s))
    | 4 => v = .bool (decide (encR r = encR s))
    | _ => True) ?_ ?_
  case refine_1 =>
    simp only [List.take_succ_cons, List.take_zero, flowAct, Nat.zero_add, Nat.reduceAdd, Act.put, List.setIfInBounds_toArray, List.set_cons_succ, List.set_cons_zero]
    rfl
  · simp only [List.take_succ_cons, List.take_zero, flowStepsF]
    refine ⟨?_, ?_, ?_, ?_, ?_, trivial⟩
    · intro us W K hE hd hK
      have BW := Lib.hid (BR.out.ext (sg_undrew hE))
      dsimp only at hK ⊢
      have HK := Lib.hid hK; have HE := Lib.hid hE
      clear hK hd hE
      go_wp2_with (go_loud (refine wpList_load_want (by rfl) 28 (.tmp 2) rfl w.heap.size (by kernel_rfl) BW.out Tryz.underlying28 rfl (info_rev.trans (congrArg some HCR.out.symm)) ?_))
      exact K_at (HK.out (.agg (revC r A n c).toArray) W (fun _ _ => rfl) (Ext.refl W)) (by kernel_rfl)
    · intro us W K hE hd hK
      have d0 := hd 0 (by kernel_rfl)
      have EXW := Lib.hid (E1.out.next (sg_undrew hE))
      dsimp only at hK ⊢
      rw [d0] at hK ⊢
      have HK := Lib.hid hK; have HE := Lib.hid hE
      clear hK hd hE d0
      go_wp2_with (go_loud (go_at_call 35; (with_reducible refine (HB1.out W EXW.out).mono ?_); rintro e w7 ⟨⟨A3, c3, rfl, hq3⟩, hB7⟩))
      exact K_at (HK.out (.slice A3 k1 c3) w7 (fun W2 hW2 => ⟨A3, c3, rfl, hq3.ext' hW2⟩) hB7) (by kernel_rfl)
    · intro us W K hE hd hK
      have BW := Lib.hid (BS.out.ext (sg_undrew hE))
      dsimp only at hK ⊢
      have HK := Lib.hid hK; have HE := Lib.hid hE
      clear hK hd hE
      go_wp2_with (go_loud (refine wpList_load_want (by rfl) 28 (.tmp 3) rfl (w.heap.size + 1) (by kernel_rfl) BW.out Tryz.underlying28 rfl (info_rev.trans (congrArg some HCS.out.symm)) ?_))
      exact K_at (HK.out (.agg (revC s B m d).toArray) W (fun _ _ => rfl) (Ext.refl W)) (by kernel_rfl)
    · intro us W K hE hd hK
      have d2 := hd 2 (by kernel_rfl)
      have EXW := Lib.hid (E1.out.next (sg_undrew hE))
      dsimp only at hK ⊢
      rw [d2] at hK ⊢
      have HK := Lib.hid hK; have HE := Lib.hid hE
      clear hK hd hE d2
      go_wp2_with (go_loud (go_at_call 35; (with_reducible refine (HB2.out W EXW.out).mono ?_); rintro e w7 ⟨⟨A3, c3, rfl, hq3⟩, hB7⟩))
      exact K_at (HK.out (.slice A3 k2 c3) w7 (fun W2 hW2 => ⟨A3, c3, rfl, hq3.ext' hW2⟩) hB7) (by kernel_rfl)
    · intro us W K hE hd hK
      obtain ⟨P1, p1, d1, hq1⟩ := hd 1 (by kernel_rfl)
      obtain ⟨P3, p3, d3, hq3⟩ := hd 3 (by kernel_rfl)
      have HQ1 : Hid (Rd W W.heap.size P1 k1 ((encR r).map (Value.int .u8))) := Lib.hid hq1; have HQ3 : Hid (Rd W W.heap.size P3 k2 ((encR s).map (Value.int .u8))) := Lib.hid hq3
      clear hq1 hq3
      dsimp only at hK ⊢
      rw [d1, d3] at hK ⊢
      have HK := Lib.hid hK; have HE := Lib.hid hE
      clear hK hd hE d1 d3
      go_wp2_with (go_loud (go_at_call 34; (with_reducible refine (same_any (encR r) (encR s) P1 P3 k1 p1 k2 p3 W HQ1.out HQ3.out (Nat.le_trans HKB.out (by decide))).mono ?_); rintro e w7 ⟨rfl, hB7⟩))
      exact K_at (HK.out (.bool (decide (encR r = encR s))) w7 (fun _ _ => rfl) (Drew.below hB7 _)) (by kernel_rfl)
  · intro us W hE hd
    try dsimp only
    have d4 := hd 4 (by decide)
    simp only [List.drop_succ_cons, List.drop_zero]
    rw [d4]
    have EW := Lib.hid (E1.out.next (sg_undrew hE))
    clear hd hE d4
    go_wp2_with fail
    go_ret
    exact ⟨rfl, EW.out⟩
end Go.Proofs.YtjeecfjeooehhaaGreatDoor
