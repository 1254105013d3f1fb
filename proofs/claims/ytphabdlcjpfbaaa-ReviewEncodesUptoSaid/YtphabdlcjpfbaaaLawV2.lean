/- ReviewEncodes: for all numbers and strings up to a size the law answers true and leaves its arguments as they were. Condition: the bulk of '..UptoSaid'. -/
import Derived.Test.YtphabdlcjpfbaaaRvX
import Derived.Test.YtphabdlcjpfbaaaRwC
import Derived.Test.YtphabdlcjpfbaaaLaw
import Derived.Deep.DeepHandedRow
set_option linter.unusedSimpArgs false
set_option linter.unusedVariables false
namespace Go.Proofs.Ytphabdlcjpfbaaa
open Go.RowKit Go.WideShapes Go.ChangeShapes
theorem cellsint : Try.prog.cellsOf 3 = 1 := by kernel_rfl
theorem own : ownKnob Try.prog.godebug = none := by kernel_rfl
theorem laidOut : laidOutB Try.prog = true := by kernel_rfl
theorem wf_i64' {x : Int} (h : (Lit.int .i64 x).wf = true) : -9223372036854775808 ≤ x ∧ x ≤ 9223372036854775807 := by
  simp [Lit.wf, IntKind.min, IntKind.max, IntKind.bits, IntKind.signed] at h
  omega
theorem bulk_all {H : Type} (d : DataW H) (r : List (DataW H)) : Rows.uptoBulkAll (d :: r) = Rows.uptoBulk d + Rows.uptoBulkAll r := rfl
theorem rev0_W : RevW rev0 := ⟨⟨by decide, by decide⟩, ⟨by decide, by decide⟩, ⟨by decide, by decide⟩, fun x hx => (by cases hx), Nat.zero_le _, Nat.zero_le _⟩
theorem decF_W (rd : Option Rev) (l : List Int) : RevW ((decF rd l).getD rev0) := by
  unfold decF
  cases rd with
  | none => exact rev0_W
  | some r =>
    rw [Option.bind_some]
    by_cases h : encE r = 0 ∧ preB l (encR r) = true
    · rw [if_pos h]; exact revW_of h.1
    · rw [if_neg h]; exact rev0_W
section
attribute [local go_sem ↓] wp_at_zero wp_at_succ
set_option maxHeartbeats 16000000 in
set_option maxRecDepth 100000 in
theorem walk_renc (l : List Int) (A : Option Addr) (n c : Nat) (how b : Int) (raw : ByteArray) (w : World) (hl : Rd w w.heap.size A n (l.map (Value.int .i64))) (hwf : ∀ x ∈ l, -9223372036854775808 ≤ x ∧ x ≤ 9223372036854775807) (hh : -9223372036854775808 ≤ how ∧ how ≤ 9223372036854775807) (hb : -9223372036854775808 ≤ b ∧ b ≤ 9223372036854775807) (hraw : raw.size ≤ 1000000000000) :
    Calls Try.prog 4 #[.slice A n c, .int .i64 how, .int .i64 b, .string raw] w fun e w' => e = .returned (.bool true) ∧ Ext w w' := by
  have HRV := Lib.hid (review_any l A n c w hl hwf)
  clear hl hwf
  have HH := Lib.hid hh; have HB := Lib.hid hb
  obtain ⟨r0, hr⟩ : ∃ r, r = revOf l := ⟨_, rfl⟩
  have HVZ : Hid (validE r0 = 0) := Lib.hid (by rw [hr]; exact revOf_valid l)
  have HM4 : Hid (r0.ops.length ≤ 4) := Lib.hid (by rw [hr]; exact revOf_many l)
  rw [← hr] at HRV
  clear hr
  have zz : ∀ W, (zeroValue 27).run Try.prog W = .ok (.agg Z0.toArray) W := fun W => by kernel_rfl
  go_enter Try.func4, Try.ntmps4
  go_upto_region 3 with (go_loud (first
    | (go_at_call 7; (with_reducible refine HRV.out.mono ?_); rintro e w1 ⟨⟨A1, n1, c1, rfl, hv1⟩, hE1⟩; have V0 := Lib.hid hv1; have EX0 := Lib.hid hE1; have L1 : Hid ((revC r0 A1 n1 c1).length = 22) := Lib.hid (revC_len _ _ _ _ hv1.mean); have HN1 : Hid (n1 ≤ 4) := Lib.hid (by have h1 := hv1.len; have h2 := HM4.out; omega); clear hv1 hE1)
    | (refine wpList_store_freshw rfl 27 (.tmp 9) (.tmp 29) rfl w1.heap.size rfl Z0 (revC r0 A1 n1 c1) 27 (by kernel_rfl) (by kernel_rfl) (info_rev.trans (congrArg some L1.out.symm)) (Eq.trans (b := 22) rfl L1.out.symm) (revC_one _ _ _ _) ?_; intro w2 hw2 hE2 hz2; have B9 := Lib.hid hw2; have E12 := Lib.hid hE2; have c21 : w2.cell? ⟨w1.heap.size, 21, none⟩ = some (.string r0.sl) := (hw2.cell 21).trans (revC_21 _ _ _ _ V0.out.mean); have f21 := hw2.frozen 21; clear hw2 hE2 hz2)
    | (go_at_call 12; (with_reducible refine (short_any raw w2 (by omega)).mono ?_); rintro e w3 ⟨⟨sx, rfl, hsx⟩, rfl⟩; have HSX := Lib.hid hsx; clear hsx)))
  obtain ⟨r, hr⟩ : ∃ r, r = { r0 with sl := sx } := ⟨_, rfl⟩
  obtain ⟨w3, hw3⟩ : ∃ x, x = w2.setCell ⟨w1.heap.size, 21, none⟩ (.string sx) := ⟨_, rfl⟩
  change Code.wp _ _ _ _ (w2.setCell ⟨w1.heap.size, 21, none⟩ (.string sx))
  rw [← hw3]
  have E13 : Hid (Ext w1 w3) := Lib.hid (by rw [hw3]; exact E12.out.setCell (p := ⟨w1.heap.size, 21, none⟩) (Nat.le_refl _) _)
  have B9 : Hid (Blk w3 w1.heap.size 27 (revC r A1 n1 c1)) := Lib.hid (by
    have h := B9.out.set 21 (.string sx)
    rw [revC_set21 r0 A1 n1 c1 sx V0.out.mean] at h
    rw [hw3, hr]
    exact h)
  have V1 : Hid (RevV w3 r A1 n1 c1) := Lib.hid (by
    have h := RevV.ext V0.out E13.out
    rw [hr]
    exact ⟨h.row, h.le, h.cap, h.few, h.mean, h.mbyt⟩)
  have EX : Hid (Ext w w3) := Lib.hid (EX0.out.next E13.out)
  have HE0 : Hid (encE r = 0) := Lib.hid (by
    have h1 : validE r = 0 := by rw [hr]; exact HVZ.out
    have h2 : ¬ 1200 < r.sl.size := by rw [hr]; have := HSX.out; show ¬ 1200 < sx.size; omega
    unfold encE
    rw [if_pos h1, if_neg h2])
  have HRW : Hid (RevW r) := Lib.hid (revW_of HE0.out)
  obtain ⟨s1, hs1⟩ : ∃ s, s = spoil r how b := ⟨_, rfl⟩
  have HS1 := Lib.hid hs1
  have HSW : Hid (RevW s1) := Lib.hid (by rw [hs1]; exact spoil_W how HRW.out (by have h1 := V1.out.len; have h2 := HN1.out; omega) HB.out)
  have L1 : Hid ((revC r A1 n1 c1).length = 22) := Lib.hid (revC_len _ _ _ _ V1.out.mean)
  clear hr hs1 hw3 c21 f21 E13 E12 EX0 V0 HVZ HM4 HRV
  refine wp_region_flowF 6 ?FA (fun us => ?_) (by kernel_rfl) (by kernel_rfl) (fun a b => Ext a b) Ext.refl (fun h1 h2 => h1.next h2) (fun i v W => match i with
    | 0 => v = .agg (revC r A1 n1 c1).toArray
    | 1 => v = .agg (revC r A1 n1 c1).toArray
    | 2 => v = .int .i64 how
    | 3 => v = .int .i64 b
    | 4 => ∃ A3 n3 c3, v = .agg (revC s1 A3 n3 c3).toArray ∧ RevV W s1 A3 n3 c3 ∧ n3 ≤ 38
    | 5 => ∃ A3 n3 c3 g3, v = .slice (some ⟨g3, 0, none⟩) 2 2 ∧ Blk W g3 27 (revC r A1 n1 c1 ++ revC s1 A3 n3 c3) ∧ RevV W s1 A3 n3 c3 ∧ n3 ≤ 38
    | _ => True) ?_ ?_
  case refine_1 =>
    simp only [List.take_succ_cons, List.take_zero, flowAct, Nat.zero_add, Nat.reduceAdd, Act.put, List.setIfInBounds_toArray, List.set_cons_succ, List.set_cons_zero]
    rfl
  · simp only [List.take_succ_cons, List.take_zero, flowStepsF]
    refine ⟨?_, ?_, ?_, ?_, ?_, ?_, trivial⟩
    · intro us W K hE hd hK
      have BW9 := Lib.hid (B9.out.ext (sg_undrew hE))
      dsimp only at hK ⊢
      have HK := Lib.hid hK; have HE := Lib.hid hE
      clear hK hd hE
      go_wp2_with (go_loud (refine wpList_load_want (by rfl) 27 (.tmp 9) rfl w1.heap.size (by kernel_rfl) BW9.out Try.underlying27 rfl (info_rev.trans (congrArg some L1.out.symm)) ?_))
      exact K_at (HK.out (.agg (revC r A1 n1 c1).toArray) W (fun _ _ => rfl) (Ext.refl W)) (by kernel_rfl)
    · intro us W K hE hd hK
      have BW9 := Lib.hid (B9.out.ext (sg_undrew hE))
      dsimp only at hK ⊢
      have HK := Lib.hid hK; have HE := Lib.hid hE
      clear hK hd hE
      go_wp2_with (go_loud (refine wpList_load_want (by rfl) 27 (.tmp 9) rfl w1.heap.size (by kernel_rfl) BW9.out Try.underlying27 rfl (info_rev.trans (congrArg some L1.out.symm)) ?_))
      exact K_at (HK.out (.agg (revC r A1 n1 c1).toArray) W (fun _ _ => rfl) (Ext.refl W)) (by kernel_rfl)
    · intro us W K hE hd hK
      dsimp only at hK ⊢
      have HK := Lib.hid hK; have HE := Lib.hid hE
      clear hK hd hE
      go_wp2_with fail
      exact K_at (HK.out (.int .i64 how) W (fun _ _ => rfl) (Ext.refl W)) (by kernel_rfl)
    · intro us W K hE hd hK
      dsimp only at hK ⊢
      have HK := Lib.hid hK; have HE := Lib.hid hE
      clear hK hd hE
      go_wp2_with fail
      exact K_at (HK.out (.int .i64 b) W (fun _ _ => rfl) (Ext.refl W)) (by kernel_rfl)
    · intro us W K hE hd hK
      have d1 := hd 1 (by kernel_rfl)
      have d2 := hd 2 (by kernel_rfl)
      have d3 := hd 3 (by kernel_rfl)
      have VW := Lib.hid (RevV.ext V1.out (sg_undrew hE))
      dsimp only at hK ⊢
      rw [d1, d2, d3] at hK ⊢
      have HK := Lib.hid hK; have HE := Lib.hid hE
      clear hK hd hE d1 d2 d3
      go_wp2_with (go_loud (go_at_call 8; (with_reducible refine (spoilt_any r how b A1 n1 c1 W VW.out (Nat.le_trans HN1.out (by decide)) HH.out.1 HH.out.2 HB.out.1 HB.out.2).mono ?_); rintro e w9 ⟨⟨A3, n3, c3, rfl, hv3, hn3⟩, hB9⟩; rw [← HS1.out] at hv3 ⊢))
      exact K_at (HK.out (.agg (revC s1 A3 n3 c3).toArray) w9 (fun W2 h2 => ⟨A3, n3, c3, rfl, RevV.ext hv3 h2, by have h1 := HN1.out; omega⟩) hB9) (by kernel_rfl)
    · intro us W K hE hd hK
      have d0 := hd 0 (by kernel_rfl)
      obtain ⟨A3, n3, c3, d4, hv4, hn4⟩ := hd 4 (by kernel_rfl)
      have HV4 := Lib.hid hv4; have HN4 := Lib.hid hn4
      have L3 : Hid ((revC s1 A3 n3 c3).length = 22) := Lib.hid (revC_len _ _ _ _ hv4.mean)
      clear hv4 hn4
      dsimp only at hK ⊢
      rw [d0, d4] at hK ⊢
      have HK := Lib.hid hK; have HE := Lib.hid hE
      clear hK hd hE d0 d4
      go_wp2_with (go_loud (refine wpList_buildSlice_want (by rfl) 35 27 2 _ rfl _ (by kernel_rfl) Try.underlying35 _ (built2 (revC r A1 n1 c1) (revC s1 A3 n3 c3) L1.out L3.out) ?_))
      exact K_at (HK.out (.slice (some ⟨W.heap.size, 0, none⟩) 2 2) _ (fun W2 h2 => ⟨A3, n3, c3, _, rfl, (Blk.fresh W 27 (revC r A1 n1 c1 ++ revC s1 A3 n3 c3)).ext h2, RevV.ext HV4.out (((Ext.refl W).alloc _).next h2), HN4.out⟩) ((Ext.refl W).alloc _)) (by kernel_rfl)
  · intro us W hE hd
    try dsimp only
    obtain ⟨A3, n3, c3, g3, d5, hb5, hv5, hn5⟩ := hd 5 (by decide)
    simp only [List.drop_succ_cons, List.drop_zero]
    rw [d5]
    have EW := Lib.hid (sg_undrew hE)
    have V1 := Lib.hid (RevV.ext V1.out EW.out)
    have B9 := Lib.hid (B9.out.ext EW.out)
    have EX := Lib.hid (EX.out.next EW.out)
    have V3 := Lib.hid hv5
    have HN3 := Lib.hid hn5
    obtain ⟨w4, rfl⟩ : ∃ x : World, x = W := ⟨_, rfl⟩
    obtain ⟨X2, hX2⟩ : ∃ X : List RX, X = [⟨r, A1, n1, c1⟩, ⟨s1, A3, n3, c3⟩] := ⟨_, rfl⟩
    have HAT : Hid (∀ W, Ext w4 W → ∀ (k : Nat) x, X2[k]? = some x → W.rangeAt g3 (k * 22) (rxC x)) := Lib.hid (fun W hW k x hx j u hu => by
      have hL1 := L1.out
      have hB := hb5.ext hW
      have hju : j < 22 := by have := (List.getElem?_eq_some_iff.1 hu).1; rw [hX2] at hx; match k, hx with
        | 0, hx => simp only [List.getElem?_cons_zero, Option.some.injEq] at hx; rw [← hx] at this; exact Nat.lt_of_lt_of_eq this hL1
        | 1, hx => simp only [List.getElem?_cons_succ, List.getElem?_cons_zero, Option.some.injEq] at hx; rw [← hx] at this; exact Nat.lt_of_lt_of_eq this (revC_len _ _ _ _ V3.out.mean)
        | k + 2, hx => simp at hx
      rw [hX2] at hx
      refine (hB.cell (k * 22 + j)).trans ?_
      match k, hx with
      | 0, hx =>
        simp only [List.getElem?_cons_zero, Option.some.injEq] at hx
        rw [← hx] at hu
        rw [Nat.zero_mul, Nat.zero_add, List.getElem?_append_left (by omega)]
        exact hu
      | 1, hx =>
        simp only [List.getElem?_cons_succ, List.getElem?_cons_zero, Option.some.injEq] at hx
        rw [← hx] at hu
        rw [Nat.one_mul, List.getElem?_append_right (by omega), hL1, Nat.add_sub_cancel_left]
        exact hu
      | k + 2, hx => simp at hx)
    have HXV : Hid (∀ x ∈ X2, RXV w4 x ∧ RevW x.r) := Lib.hid (fun x hx => by rw [hX2] at hx; simp only [List.mem_cons, List.not_mem_nil, or_false] at hx; rcases hx with rfl | rfl; exact ⟨V1.out, HRW.out⟩; exact ⟨V3.out, HSW.out⟩)
    have HXL : Hid (X2.length = 2) := Lib.hid (by rw [hX2]; rfl)
    have HX1 : Hid (X2[1]? = some ⟨s1, A3, n3, c3⟩) := Lib.hid (by rw [hX2]; rfl)
    clear hd hE d5 hb5 hv5 hn5 hX2
    go_upto_region 4 with fail
    go_wp2_with fail
    go_loopw [11] (fun v wr => ∃ t : Nat, t ≤ 2 ∧ v = .int .i64 (t : Int) ∧ Ext w4 wr) (fun v _ => 2 - (intOf v).toNat)
    case atStart => exact ⟨0, by decide, rfl, Ext.refl _⟩
    case round =>
      obtain ⟨t, ht, rfl, hE⟩ := hrel
      have EO := Lib.hid hE
      clear hE
      obtain ⟨wo, rfl⟩ : ∃ x : World, x = wr := ⟨_, rfl⟩
      by_cases hlt : t < 2
      · obtain ⟨x, hx⟩ : ∃ x, X2[t]? = some x := ⟨_, List.getElem?_eq_getElem (by have := HXL.out; omega)⟩
        have HXT := Lib.hid hx
        have HVX := Lib.hid (HXV.out x (List.mem_of_getElem? hx))
        have HLX : Hid ((rxC x).length = 22) := Lib.hid (revC_len _ _ _ _ HVX.out.1.mean)
        obtain ⟨k1, hk1⟩ : ∃ k, k = (encX x.r).length := ⟨_, rfl⟩
        obtain ⟨e1, he1⟩ : ∃ e, e = encE x.r := ⟨_, rfl⟩
        have HC1 : Hid (∀ W, Ext w4 W → Calls Try.prog 13 #[.agg (rxC x).toArray] W fun e w' => (∃ A' c', e = .returned (.tuple #[.slice A' k1 c', .int .i64 e1]) ∧ Rd w' w'.heap.size A' k1 (u8s (encX x.r))) ∧ Ext W w') := Lib.hid (fun W hW => by
          rw [hk1, he1]
          exact (encodeX_any x.r x.A x.n x.c W (RevV.ext HVX.out.1 hW)).mono (by rintro e w' ⟨⟨A', c', h1, h2⟩, h3⟩; exact ⟨⟨A', c', h1, Rd.of_own h2⟩, h3⟩))
        have HC2 : Hid (∀ W, Ext w4 W → Calls Try.prog 14 #[.agg (rxC x).toArray] W fun e w' => (∃ A' c', e = .returned (.tuple #[.slice A' k1 c', .int .i64 e1]) ∧ Rd w' w'.heap.size A' k1 (u8s (encX x.r))) ∧ Ext W w') := Lib.hid (fun W hW => by
          rw [hk1, he1]
          exact (rencodeX_any x.r x.A x.n x.c W (RevV.ext HVX.out.1 hW)).mono (by rintro e w' ⟨⟨A', c', h1, h2⟩, h3⟩; exact ⟨⟨A', c', h1, Rd.of_own h2⟩, h3⟩))
        have HKL : Hid (k1 ≤ 1000030000) := Lib.hid (by
          rw [hk1]
          unfold encX
          split
          · exact encR_le x.r HVX.out.1 HVX.out.2
          · exact Nat.zero_le _)
        have HSM : Hid (∀ (A B : Option Addr) (c d : Nat) (W : World), Rd W W.heap.size A k1 (u8s (encX x.r)) → Rd W W.heap.size B k1 (u8s (encX x.r)) → Calls Try.prog 15 #[.slice A k1 c, .slice B k1 d] W fun e w' => e = .returned (.bool true) ∧ Ext W w') := Lib.hid (fun A B c d W h1 h2 =>
          (same_any (encX x.r) (encX x.r) A B k1 c k1 d W h1 h2 (by have := HKL.out; omega)).mono (by rintro e w' ⟨h3, h4⟩; rw [decide_eq_true rfl] at h3; exact ⟨h3, h4.below _⟩))
        clear hk1 he1 hx
        have HRA := Lib.hid (HAT.out wo EO.out t x HXT.out)
        go_wp2_with (go_loud (first
          | (refine wpList_midw (by rfl) 27 (.tmp 46) rfl g3 (t * 22) (by kernel_rfl) (rxC x) HRA.out Try.underlying27 rfl (info_rev.trans (congrArg some HLX.out.symm)) ?_)
          | (refine wpList_midw (by rfl) 27 (.tmp 54) rfl g3 (t * 22) (by kernel_rfl) (rxC x) HRB.out Try.underlying27 rfl (info_rev.trans (congrArg some HLX.out.symm)) ?_)
          | (go_at_call 13; (with_reducible refine (HC1.out wo EO.out).mono ?_); rintro e w5 ⟨⟨A5, c5, rfl, hr5⟩, hE5⟩; have R5 := Lib.hid hr5; have EO := Lib.hid (EO.out.next hE5); have HRB := Lib.hid (HAT.out w5 EO.out t x HXT.out); clear hr5 hE5)
          | (go_at_call 14; (with_reducible refine (HC2.out w5 EO.out).mono ?_); rintro e w6 ⟨⟨A6, c6, rfl, hr6⟩, hE6⟩; have R6 := Lib.hid hr6; have R5 := Lib.hid (R5.out.ext' hE6); have EO := Lib.hid (EO.out.next hE6); clear hr6 hE6)
          | (go_at_call 15; (with_reducible refine (HSM.out A5 A6 c5 c6 w6 R5.out R6.out).mono ?_); rintro e w7 ⟨rfl, hE7⟩; have EO := Lib.hid (EO.out.next hE7); clear hE7)))
        exact ⟨⟨t + 1, by omega, by go_num, EO.out⟩, by simp [intOf]; omega⟩
      · obtain rfl : t = 2 := by omega
        rw [show ((2 : Nat) : Int) = 2 from rfl]
        have B9 := Lib.hid (B9.out.ext EO.out)
        have EX := Lib.hid (EX.out.next EO.out)
        have V1 := Lib.hid (RevV.ext V1.out EO.out)
        obtain ⟨kb, hkb⟩ : ∃ k, k = (encR r).length := ⟨_, rfl⟩
        have hkb0 : 0 < kb := by rw [hkb]; exact encR_pos r
        have hkb1 : kb ≤ 1000030000 := by rw [hkb]; exact encR_le r V1.out HRW.out
        have HBR : Hid (Byt (encR r)) := Lib.hid (encR_byt HRW.out V1.out.mean V1.out.mbyt)
        obtain ⟨p, hp⟩ : ∃ p : Nat, p = (aroI b kb).toNat := ⟨_, rfl⟩
        have hpb := aroI_bd b kb (by omega)
        have hpk : p < kb := by omega
        have HAR : Hid (∀ W, Calls Try.prog 17 #[.int .i64 b, .int .i64 (kb : Int)] W fun e w' => e = .returned (.int .i64 (p : Int)) ∧ W = w') := Lib.hid (fun W => by
          rw [hp, Int.toNat_of_nonneg hpb.1]
          exact around_any b kb W HB.out.1 HB.out.2 (by omega) (by omega))
        have HKB := Lib.hid hkb
        clear hp hpb
        obtain ⟨v8, hv8⟩ : ∃ v, v = IntKind.u8.wrap how := ⟨_, rfl⟩
        have hv80 : 0 ≤ v8 ∧ v8 ≤ 255 := by rw [hv8]; unfold IntKind.wrap; simp [IntKind.bits, IntKind.signed]; omega
        have HV8 := Lib.hid hv8; have HV80 := Lib.hid hv80
        have HFEW : Hid (∀ (g c k : Nat) (W : World), 0 < k → k ≤ kb → kb ≤ c → c ≤ 9223372036854775807 → Rd W W.heap.size (some ⟨g, 0, none⟩) kb (u8s (encR r)) → Calls Try.prog 18 #[.slice (some ⟨g, 0, none⟩) kb c, .int .i64 (k : Int)] W fun e w' => (∃ g' c', e = .returned (.slice (some ⟨g', 0, none⟩) k c') ∧ (k ≤ c' ∧ c' ≤ 9223372036854775807) ∧ W.heap.size ≤ g' ∧ w'.ownsRow W.heap.size 5 1 (.slice (some ⟨g', 0, none⟩) k c') k (u8s ((encR r).take k))) ∧ Ext W w') := Lib.hid (fun g c k W h0 hk hnc hc hr => by
          refine (fewR_any (encR r) (some ⟨g, 0, none⟩) kb c k k W hr (by omega) hnc hc (by omega) (by omega)).mono ?_
          rintro e w' ⟨⟨A', c', h1, h2⟩, h3⟩
          obtain ⟨g', rfl, h4, _, _⟩ := own_at h2 h0
          have h5 := slice_cap h2
          unfold maxLen at h5
          exact ⟨⟨g', c', h1, h5, h4, h2⟩, h3⟩)
        have HTK : Hid ((encR r).take kb = encR r) := Lib.hid (by rw [hkb]; exact List.take_length)
        clear hkb hv8 hv80
        go_upto_region 13 with (go_loud (first
          | (refine wpList_load_blk rfl 27 (.tmp 9) rfl w1.heap.size (by kernel_rfl) B9.out Try.underlying27 rfl (info_rev.trans (congrArg some L1.out.symm)) ?_)
          | (go_at_call 16; (with_reducible refine (bytes_any r A1 n1 c1 wo V1.out HRW.out).mono ?_); rintro e w5 ⟨⟨A5, c16, rfl, ho5⟩, hE5⟩; rw [← HKB.out] at ho5 ⊢; obtain ⟨g16, rfl, hg16, hg16b, _⟩ := own_at ho5 hkb0; have hcc := slice_cap ho5; unfold maxLen at hcc; have hc16 : kb ≤ c16 := hcc.1; have hc16m : c16 ≤ 9223372036854775807 := hcc.2; have R16 : Hid (Rd w5 w5.heap.size (some ⟨g16, 0, none⟩) kb (u8s (encR r))) := Lib.hid (Rd.of_own ho5); have E45 := Lib.hid (EO.out.next hE5); have EX := Lib.hid (EX.out.next hE5); have V1 := Lib.hid (RevV.ext V1.out hE5); clear hcc ho5 hE5 hg16 hg16b)
          | (go_at_call 17; (with_reducible refine (HAR.out w5).mono ?_); rintro e w6 ⟨rfl, rfl⟩)))
        go_upto_region 14 with (go_loud (go_at_call 18; (with_reducible refine (HFEW.out g16 c16 kb w5 hkb0 (Nat.le_refl _) hc16 hc16m R16.out).mono ?_); rintro e w7 ⟨⟨g18, c18, rfl, ⟨hc18, hc18m⟩, hg18, ho18⟩, hE7⟩; rw [HTK.out] at ho18; have O18 := Lib.hid ho18; have HG18 := Lib.hid hg18; have E57 := Lib.hid hE7; clear ho18 hE7))
        obtain ⟨cx, fx⟩ := own_cell O18.out p hpk
        go_upto_region 15 with fail
        obtain ⟨w8, hw8⟩ : ∃ x, x = w7.setCell ⟨g18, p, none⟩ (.int .u8 (IntKind.u8.wrap how)) := ⟨_, rfl⟩
        change Code.wp _ _ _ _ (w7.setCell ⟨g18, p, none⟩ (.int .u8 (IntKind.u8.wrap how)))
        rw [← hw8]
        rw [← HV8.out] at hw8
        have O18 := Lib.hid (own_set O18.out p v8)
        rw [← hw8] at O18
        have E58 : Hid (Ext w5 w8) := Lib.hid (by rw [hw8]; exact Ext.setOwn E57.out HG18.out p _)
        have HBC : Hid (Byt ((encR r).set p v8)) := Lib.hid (byt_set HBR.out p HV80.out)
        have E48 := Lib.hid (E45.out.next E58.out)
        have EX := Lib.hid (EX.out.next E58.out)
        have R16 := Lib.hid (R16.out.ext' E58.out)
        have V1 := Lib.hid (RevV.ext V1.out E58.out)
        clear cx fx hw8 E57 E58 E45
        obtain ⟨A20, hA20⟩ : ∃ x, x = restA (some ⟨g16, 0, none⟩) c16 (p + 1) := ⟨_, rfl⟩
        obtain ⟨m20, hm20⟩ : ∃ x, x = kb - (p + 1) := ⟨_, rfl⟩
        obtain ⟨c20, hc20⟩ : ∃ x, x = c16 - (p + 1) := ⟨_, rfl⟩
        have HS20 : Hid (p + 1 ≤ kb ∧ A20 = restA (some ⟨g16, 0, none⟩) c16 (p + 1) ∧ m20 = kb - (p + 1) ∧ c20 = c16 - (p + 1)) := Lib.hid ⟨hpk, hA20, hm20, hc20⟩
        have R20 : Hid (Rd w8 w8.heap.size A20 m20 (u8s ((encR r).drop (p + 1)))) := Lib.hid (rd_restA R16.out hA20 hm20 hpk hc16)
        have hm20k : p + m20 ≤ kb := by omega
        clear hA20 hm20 hc20
        have HFP : Hid (∀ W, Ext w8 W → Calls Try.prog 18 #[.slice (some ⟨g16, 0, none⟩) kb c16, .int .i64 (p : Int)] W fun e w' => (∃ A' c', e = .returned (.slice A' p c') ∧ w'.ownsRow w8.heap.size 5 1 (.slice A' p c') p (u8s ((encR r).take p))) ∧ Ext W w') := Lib.hid (fun W hW => by
          refine (fewR_any (encR r) (some ⟨g16, 0, none⟩) kb c16 p p W (R16.out.ext' hW) (by omega) hc16 hc16m (by omega) (by omega)).mono ?_
          rintro e w' ⟨⟨A', c', h1, h2⟩, h3⟩
          exact ⟨⟨A', c', h1, own_base h2 hW.size⟩, h3⟩)
        refine wp_region_flowF 7 ?FB (fun us => ?_) (by kernel_rfl) (by kernel_rfl) (fun a b => Ext a b) Ext.refl (fun h1 h2 => h1.next h2) (fun i v W => match i with
          | 0 => v = .slice (some ⟨g16, 0, none⟩) kb c16
          | 1 => v = .int .i64 (p : Int)
          | 2 => ∃ A7 c7, v = .slice A7 p c7 ∧ W.ownsRow w8.heap.size 5 1 (.slice A7 p c7) p (u8s ((encR r).take p))
          | 3 => v = .slice (some ⟨g16, 0, none⟩) kb c16
          | 4 => v = .int .i64 (p : Int)
          | 5 => v = .int .i64 ((p : Int) + 1)
          | 6 => v = .slice A20 m20 c20
          | _ => True) ?_ ?_
        case refine_1 =>
          simp only [List.take_succ_cons, List.take_zero, flowAct, Nat.zero_add, Nat.reduceAdd, Act.put, List.setIfInBounds_toArray, List.set_cons_succ, List.set_cons_zero]
          rfl
        · simp only [List.take_succ_cons, List.take_zero, flowStepsF]
          refine ⟨?_, ?_, ?_, ?_, ?_, ?_, ?_, trivial⟩
          · intro us W K hE hd hK
            dsimp only at hK ⊢
            have HK := Lib.hid hK; have HE := Lib.hid hE
            clear hK hd hE
            go_wp2_with fail
            exact K_at (HK.out (.slice (some ⟨g16, 0, none⟩) kb c16) W (fun _ _ => rfl) (Ext.refl W)) (by kernel_rfl)
          · intro us W K hE hd hK
            dsimp only at hK ⊢
            have HK := Lib.hid hK; have HE := Lib.hid hE
            clear hK hd hE
            go_wp2_with fail
            exact K_at (HK.out (.int .i64 (p : Int)) W (fun _ _ => rfl) (Ext.refl W)) (by kernel_rfl)
          · intro us W K hE hd hK
            have d0 := hd 0 (by kernel_rfl)
            have d1 := hd 1 (by kernel_rfl)
            dsimp only at hK ⊢
            rw [d0, d1] at hK ⊢
            have HK := Lib.hid hK; have HE := Lib.hid hE
            clear hK hd hE d0 d1
            go_wp2_with (go_loud (go_at_call 18; (with_reducible refine (HFP.out W (sg_undrew HE.out)).mono ?_); rintro e w9 ⟨⟨A7, c7, rfl, ho7⟩, hB9⟩))
            exact K_at (HK.out (.slice A7 p c7) w9 (fun W2 h2 => ⟨A7, c7, rfl, (Kept.of_ext (F := fun _ => False) h2).own ho7 (fun _ _ h => h)⟩) hB9) (by kernel_rfl)
          · intro us W K hE hd hK
            dsimp only at hK ⊢
            have HK := Lib.hid hK; have HE := Lib.hid hE
            clear hK hd hE
            go_wp2_with fail
            exact K_at (HK.out (.slice (some ⟨g16, 0, none⟩) kb c16) W (fun _ _ => rfl) (Ext.refl W)) (by kernel_rfl)
          · intro us W K hE hd hK
            dsimp only at hK ⊢
            have HK := Lib.hid hK; have HE := Lib.hid hE
            clear hK hd hE
            go_wp2_with fail
            exact K_at (HK.out (.int .i64 (p : Int)) W (fun _ _ => rfl) (Ext.refl W)) (by kernel_rfl)
          · intro us W K hE hd hK
            have d4 := hd 4 (by kernel_rfl)
            dsimp only at hK ⊢
            rw [d4] at hK ⊢
            have HK := Lib.hid hK; have HE := Lib.hid hE
            clear hK hd hE d4
            go_wp2_with fail
            exact K_at (HK.out (.int .i64 ((p : Int) + 1)) W (fun _ _ => rfl) (Ext.refl W)) (by kernel_rfl)
          · intro us W K hE hd hK
            have d3 := hd 3 (by kernel_rfl)
            have d5 := hd 5 (by kernel_rfl)
            dsimp only at hK ⊢
            rw [d3, d5] at hK ⊢
            have HK := Lib.hid hK; have HE := Lib.hid hE
            clear hK hd hE d3 d5
            go_wp2_with (go_loud ((with_reducible refine wpList_slice_rest rfl 36 (.tmp 86) (.tmp 88) rfl elem_u8 elem_sz ?_ ?_ HS20.out.1 HS20.out.2.1 HS20.out.2.2.1 HS20.out.2.2.2 ?_); kernel_rfl; kernel_rfl))
            exact K_at (HK.out (.slice A20 m20 c20) W (fun _ _ => rfl) (Ext.refl W)) (by kernel_rfl)
        · intro us W hE hd
          try dsimp only
          obtain ⟨A7, c7, d2, ho7⟩ := hd 2 (by decide)
          have d6 := hd 6 (by decide)
          simp only [List.drop_succ_cons, List.drop_zero]
          rw [d2, d6]
          have EW : Hid (Ext w8 W) := Lib.hid (sg_undrew hE)
          have HO7 := Lib.hid ho7
          have RW20 := Lib.hid (R20.out.ext' EW.out)
          obtain ⟨i0, hi, hz0, hz1, hz2⟩ := info_parts winfo_u8
          clear hd hE d2 d6 ho7
          go_upto_region 16 with (go_loud (at_builtin; refine wpList_app rfl (.tmp 85) (.tmp 89) 36 rfl w8.heap.size 5 i0 (.int .u8 0) 1 1 Try.underlying36 hi hz0 hz1 hz2 rfl (by omega) A7 p c7 _ (by kernel_rfl) HO7.out W.heap.size A20 m20 c20 (u8s ((encR r).drop (p + 1))) (by kernel_rfl) (RdN.of_Rd RW20.out) (u8s_one _) (by simp only [maxLen]; omega) (by omega) EW.out.size ?_; intro A19 c19 w10 ho19 hg19; have O19 := Lib.hid ho19; have EW := Lib.hid (below_app EW.out hg19 HO7.out (Nat.le_refl _) EW.out.size); clear ho19 hg19))
          have EX := Lib.hid (EX.out.next EW.out)
          have E410 : Hid (Ext w4 w10) := Lib.hid (E48.out.next EW.out)
          have V3 := Lib.hid (RevV.ext V3.out E410.out)
          have R16 := Lib.hid (R16.out.ext' EW.out)
          have R18 : Hid (Rd w10 w10.heap.size (some ⟨g18, 0, none⟩) kb (u8s ((encR r).set p v8))) := Lib.hid ((Rd.of_own O18.out).ext' EW.out)
          have R19 : Hid (BRow w10 A19 (p + m20)) := Lib.hid ⟨(encR r).take p ++ (encR r).drop (p + 1), byt_app (HBR.out.take p) (HBR.out.drop _), by have h := Rd.of_own O19.out; simpa [u8s] using h⟩
          have hcc19 := slice_cap O19.out
          unfold maxLen at hcc19
          have HC19 := Lib.hid hcc19
          clear hcc19
          obtain ⟨sz, hsz⟩ : ∃ k, k = raw.size := ⟨_, rfl⟩
          have hszm : sz ≤ 1000000000000 := by omega
          have HCV : Hid (∀ W, ∃ c w', (convert 9 36 (.string raw)).run Try.prog W = .ok (.slice (some ⟨W.heap.size, 0, none⟩) sz c) w' ∧ (sz ≤ c ∧ c ≤ 9223372036854775807) ∧ BRow w' (some ⟨W.heap.size, 0, none⟩) sz ∧ Ext W w') := Lib.hid (fun W => by
            obtain ⟨c, w', h1, h2, h3, h4⟩ := run_toBytes2 W 9 36 5 raw Try.underlying9 Try.underlying36 Try.underlying5 hraw
            rw [hsz]
            exact ⟨c, w', h1, h2, ⟨_, byt_bys raw, h3⟩, h4⟩)
          clear hsz hraw
          obtain ⟨ks, hks⟩ : ∃ k, k = (encR s1).length := ⟨_, rfl⟩
          have hksm : ks ≤ 1000030000 := by rw [hks]; exact encR_le s1 V3.out HSW.out
          have HBYS : Hid (∀ W, Ext w10 W → Calls Try.prog 16 #[.agg (revC s1 A3 n3 c3).toArray] W fun e w' => (∃ A' c', e = .returned (.slice A' ks c') ∧ BRow w' A' ks ∧ ks ≤ c' ∧ c' ≤ 9223372036854775807) ∧ Ext W w') := Lib.hid (fun W hW => by
            refine (bytes_any s1 A3 n3 c3 W (RevV.ext V3.out hW) HSW.out).mono ?_
            rintro e w' ⟨⟨A', c', h1, h2⟩, h3⟩
            rw [← hks] at h1 h2
            have h5 := slice_cap h2
            unfold maxLen at h5
            exact ⟨⟨A', c', h1, ⟨_, encR_byt HSW.out V3.out.mean V3.out.mbyt, Rd.of_own h2⟩, h5⟩, h3⟩)
          clear hks
          have hvb0 : 0 ≤ IntKind.u8.wrap b ∧ IntKind.u8.wrap b ≤ 255 := by unfold IntKind.wrap; simp [IntKind.bits, IntKind.signed]; omega
          have HVB := Lib.hid hvb0
          clear hvb0
          have L3 : Hid ((revC s1 A3 n3 c3).length = 22) := Lib.hid (revC_len _ _ _ _ V3.out.mean)
          have HX22 : Hid (∀ W, Ext w10 W → W.rangeAt g3 22 (revC s1 A3 n3 c3)) := Lib.hid (fun W hW => by have h := HAT.out W (E410.out.next hW) 1 _ HX1.out; exact h)
          clear O18 O19 R20 EW E48 HFP
          refine wp_region_flowV 20 13 _ (fun i => i == 0 || i == 1 || i == 2 || i == 3 || i == 4 || i == 5 || i == 6 || i == 7 || i == 8 || i == 10 || i == 11 || i == 14 || i == 15 || i == 16 || i == 18 || i == 19) (fun i => i == 17) ?FC (fun us => ?_) (by kernel_rfl) (by kernel_rfl) (by kernel_rfl) rfl (fun a b : World => Kept (fun k => w10.heap.size ≤ k) a b ∧ BytK a b) (fun a b => Ext a b) Ext.refl (fun h => ⟨Kept.of_ext h, BytK.of_ext h⟩) (fun h1 h2 => ⟨h1.1.trans h2.1, BytK.next h1.2 h2.2⟩) (fun h1 h2 => h1.next h2) (fun i v W => match i with
            | 0 => v = .slice (some ⟨g16, 0, none⟩) kb c16
            | 1 => v = .slice (some ⟨g18, 0, none⟩) kb c18
            | 2 => v = .slice (some ⟨g16, 0, none⟩) kb c16
            | 3 => v = .int .i64 (p : Int)
            | 4 => v = .slice (some ⟨g16, 0, none⟩) p c16
            | 5 => v = .slice A19 (p + m20) c19
            | 6 => v = .slice (some ⟨g16, 0, none⟩) kb c16
            | 7 => v = .slice (some ⟨g16, 0, none⟩) kb c16
            | 8 => v = .int .i64 kb
            | 9 => ∃ g9 c9, v = .slice (some ⟨g9, 0, none⟩) kb c9 ∧ W.ownsRow w10.heap.size 5 1 (.slice (some ⟨g9, 0, none⟩) kb c9) kb (u8s (encR r))
            | 10 => v = .int .i64 b
            | 11 => v = .int .u8 (IntKind.u8.wrap b)
            | 12 => ∃ g8, v = .slice (some ⟨g8, 0, none⟩) 1 1 ∧ W.cell? ⟨g8, 0, none⟩ = some (.int .u8 (IntKind.u8.wrap b))
            | 13 => ∃ A13 c13, v = .slice A13 (kb + 1) c13 ∧ BRow W A13 (kb + 1) ∧ kb + 1 ≤ c13 ∧ c13 ≤ 9223372036854775807
            | 14 => v = .slice (some ⟨g3, 0, none⟩) 2 2
            | 15 => v = .pointer (some ⟨g3, 22, none⟩)
            | 16 => v = .agg (revC s1 A3 n3 c3).toArray
            | 17 => ∃ A17 c17, v = .slice A17 ks c17 ∧ BRow W A17 ks ∧ ks ≤ c17 ∧ c17 ≤ 9223372036854775807
            | 18 => v = .string raw
            | 19 => ∃ A21 c21, v = .slice A21 sz c21 ∧ BRow W A21 sz ∧ sz ≤ c21 ∧ c21 ≤ 9223372036854775807
            | _ => True) ?_ ?_
          case refine_1 =>
            simp only [List.take_succ_cons, List.take_zero, flowAct, Nat.zero_add, Nat.reduceAdd, Act.put, List.setIfInBounds_toArray, List.set_cons_succ, List.set_cons_zero]
            rfl
          · simp only [List.take_succ_cons, List.take_zero, flowStepsV]
            refine ⟨?_, ?_, ?_, ?_, ?_, ?_, ?_, ?_, ?_, ?_, ?_, ?_, ?_, ?_, ?_, ?_, ?_, ?_, ?_, ?_, trivial⟩
            · intro us W K hE1 hE2 hd hK
              simp only [Nat.reduceBEq, Bool.not_true, Bool.not_false, Bool.or_true, Bool.or_false, Bool.true_or, Bool.false_or, cond_true, cond_false] at hK ⊢
              have HK := Lib.hid hK; have HE1 := Lib.hid hE1
              clear hK hd hE1 hE2
              go_wp2_with fail
              exact K_at (HK.out (.slice (some ⟨g16, 0, none⟩) kb c16) W (fun _ _ => rfl) (Ext.refl W)) (by kernel_rfl)
            · intro us W K hE1 hE2 hd hK
              simp only [Nat.reduceBEq, Bool.not_true, Bool.not_false, Bool.or_true, Bool.or_false, Bool.true_or, Bool.false_or, cond_true, cond_false] at hK ⊢
              have HK := Lib.hid hK; have HE1 := Lib.hid hE1
              clear hK hd hE1 hE2
              go_wp2_with fail
              exact K_at (HK.out (.slice (some ⟨g18, 0, none⟩) kb c18) W (fun _ _ => rfl) (Ext.refl W)) (by kernel_rfl)
            · intro us W K hE1 hE2 hd hK
              simp only [Nat.reduceBEq, Bool.not_true, Bool.not_false, Bool.or_true, Bool.or_false, Bool.true_or, Bool.false_or, cond_true, cond_false] at hK ⊢
              have HK := Lib.hid hK; have HE1 := Lib.hid hE1
              clear hK hd hE1 hE2
              go_wp2_with fail
              exact K_at (HK.out (.slice (some ⟨g16, 0, none⟩) kb c16) W (fun _ _ => rfl) (Ext.refl W)) (by kernel_rfl)
            · intro us W K hE1 hE2 hd hK
              simp only [Nat.reduceBEq, Bool.not_true, Bool.not_false, Bool.or_true, Bool.or_false, Bool.true_or, Bool.false_or, cond_true, cond_false] at hK ⊢
              have HK := Lib.hid hK; have HE1 := Lib.hid hE1
              clear hK hd hE1 hE2
              go_wp2_with fail
              exact K_at (HK.out (.int .i64 (p : Int)) W (fun _ _ => rfl) (Ext.refl W)) (by kernel_rfl)
            · intro us W K hE1 hE2 hd hK
              have d2 := hd 2 (by kernel_rfl) (by kernel_rfl)
              have d3 := hd 3 (by kernel_rfl) (by kernel_rfl)
              simp only [Nat.reduceBEq, Bool.not_true, Bool.not_false, Bool.or_true, Bool.or_false, Bool.true_or, Bool.false_or, cond_true, cond_false] at hK ⊢
              rw [d2, d3] at hK ⊢
              have HK := Lib.hid hK; have HE1 := Lib.hid hE1
              clear hK hd hE1 hE2 d2 d3
              go_wp2_with fail
              exact K_at (HK.out (.slice (some ⟨g16, 0, none⟩) p c16) W (fun _ _ => rfl) (Ext.refl W)) (by kernel_rfl)
            · intro us W K hE1 hE2 hd hK
              simp only [Nat.reduceBEq, Bool.not_true, Bool.not_false, Bool.or_true, Bool.or_false, Bool.true_or, Bool.false_or, cond_true, cond_false] at hK ⊢
              have HK := Lib.hid hK; have HE1 := Lib.hid hE1
              clear hK hd hE1 hE2
              go_wp2_with fail
              exact K_at (HK.out (.slice A19 (p + m20) c19) W (fun _ _ => rfl) (Ext.refl W)) (by kernel_rfl)
            · intro us W K hE1 hE2 hd hK
              simp only [Nat.reduceBEq, Bool.not_true, Bool.not_false, Bool.or_true, Bool.or_false, Bool.true_or, Bool.false_or, cond_true, cond_false] at hK ⊢
              have HK := Lib.hid hK; have HE1 := Lib.hid hE1
              clear hK hd hE1 hE2
              go_wp2_with fail
              exact K_at (HK.out (.slice (some ⟨g16, 0, none⟩) kb c16) W (fun _ _ => rfl) (Ext.refl W)) (by kernel_rfl)
            · intro us W K hE1 hE2 hd hK
              simp only [Nat.reduceBEq, Bool.not_true, Bool.not_false, Bool.or_true, Bool.or_false, Bool.true_or, Bool.false_or, cond_true, cond_false] at hK ⊢
              have HK := Lib.hid hK; have HE1 := Lib.hid hE1
              clear hK hd hE1 hE2
              go_wp2_with fail
              exact K_at (HK.out (.slice (some ⟨g16, 0, none⟩) kb c16) W (fun _ _ => rfl) (Ext.refl W)) (by kernel_rfl)
            · intro us W K hE1 hE2 hd hK
              have d7 := hd 7 (by kernel_rfl) (by kernel_rfl)
              simp only [Nat.reduceBEq, Bool.not_true, Bool.not_false, Bool.or_true, Bool.or_false, Bool.true_or, Bool.false_or, cond_true, cond_false] at hK ⊢
              rw [d7] at hK ⊢
              have HK := Lib.hid hK; have HE1 := Lib.hid hE1
              clear hK hd hE1 hE2 d7
              go_wp2_with fail
              exact K_at (HK.out (.int .i64 kb) W (fun _ _ => rfl) (Ext.refl W)) (by kernel_rfl)
            · intro us W K hE1 hE2 hd hK
              have d6 := hd 6 (by kernel_rfl) (by kernel_rfl)
              have d8 := hd 8 (by kernel_rfl) (by kernel_rfl)
              have EXW : Hid (Ext w10 W) := Lib.hid (sg_undrew (hE1.1.ext (fun _ h => h)))
              have RW := Lib.hid (R16.out.ext' EXW.out)
              simp only [Nat.reduceBEq, Bool.not_true, Bool.not_false, Bool.or_true, Bool.or_false, Bool.true_or, Bool.false_or, cond_true, cond_false] at hK ⊢
              rw [d6, d8] at hK ⊢
              have HK := Lib.hid hK; have HE1 := Lib.hid hE1
              clear hK hd hE1 hE2 d6 d8
              go_wp2_with (go_loud (go_at_call 18; (with_reducible refine (HFEW.out g16 c16 kb W hkb0 (Nat.le_refl _) hc16 hc16m RW.out).mono ?_); rintro e w9 ⟨⟨g9, c9, rfl, _, _, ho9⟩, hB9⟩; rw [HTK.out] at ho9))
              exact K_at (HK.out (.slice (some ⟨g9, 0, none⟩) kb c9) w9 (fun W2 h2 => ⟨g9, c9, rfl, (Kept.of_ext (F := fun _ => False) h2).own (own_base ho9 EXW.out.size) (fun _ _ h => h)⟩) hB9) (by kernel_rfl)
            · intro us W K hE1 hE2 hd hK
              simp only [Nat.reduceBEq, Bool.not_true, Bool.not_false, Bool.or_true, Bool.or_false, Bool.true_or, Bool.false_or, cond_true, cond_false] at hK ⊢
              have HK := Lib.hid hK; have HE1 := Lib.hid hE1
              clear hK hd hE1 hE2
              go_wp2_with fail
              exact K_at (HK.out (.int .i64 b) W (fun _ _ => rfl) (Ext.refl W)) (by kernel_rfl)
            · intro us W K hE1 hE2 hd hK
              have d10 := hd 10 (by kernel_rfl) (by kernel_rfl)
              simp only [Nat.reduceBEq, Bool.not_true, Bool.not_false, Bool.or_true, Bool.or_false, Bool.true_or, Bool.false_or, cond_true, cond_false] at hK ⊢
              rw [d10] at hK ⊢
              have HK := Lib.hid hK; have HE1 := Lib.hid hE1
              clear hK hd hE1 hE2 d10
              go_wp2_with fail
              exact K_at (HK.out (.int .u8 (IntKind.u8.wrap b)) W (fun _ _ => rfl) (Ext.refl W)) (by kernel_rfl)
            · intro us W K hE1 hE2 hd hK
              have d11 := hd 11 (by kernel_rfl) (by kernel_rfl)
              simp only [Nat.reduceBEq, Bool.not_true, Bool.not_false, Bool.or_true, Bool.or_false, Bool.true_or, Bool.false_or, cond_true, cond_false] at hK ⊢
              rw [d11] at hK ⊢
              have HK := Lib.hid hK; have HE1 := Lib.hid hE1
              clear hK hd hE1 hE2 d11
              go_wp2_with fail
              exact K_at (HK.out (.slice (some ⟨W.heap.size, 0, none⟩) 1 1) (W.alloc (.cells #[.int .u8 (IntKind.u8.wrap b)] 5)) (fun W2 h2 => ⟨_, rfl, ((Blk.fresh W 5 [.int .u8 (IntKind.u8.wrap b)]).ext h2).cell 0⟩) ((Ext.refl W).alloc _)) (by kernel_rfl)
            · intro us W K hE1 hE2 hd hK
              have hE := hE2 (by kernel_rfl)
              obtain ⟨g9, c9, d9, ho9⟩ := hd 9 (by kernel_rfl) (by kernel_rfl)
              obtain ⟨g8, d12, hc8⟩ := hd 12 (by kernel_rfl) (by kernel_rfl)
              have EXW : Hid (Ext w10 W) := Lib.hid (sg_undrew (hE1.1.ext (fun _ h => h)))
              have HO9 := Lib.hid ho9; have HC8 := Lib.hid hc8
              clear ho9 hc8
              obtain ⟨i0, hi, hz0, hz1, hz2⟩ := info_parts winfo_u8
              simp only [Nat.reduceBEq, Bool.not_true, Bool.not_false, Bool.or_true, Bool.or_false, Bool.true_or, Bool.false_or, cond_true, cond_false] at hK ⊢
              rw [d9, d12] at hK ⊢
              have HK := Lib.hid hK; have HE1 := Lib.hid hE1
              have HE := Lib.hid hE
              clear hE
              clear hK hd hE1 hE2 d9 d12
              go_wp2_with (go_loud (at_builtin; refine wpList_appB rfl (.tmp 100) (.tmp 103) 36 rfl w10.heap.size 5 i0 (.int .u8 0) 1 Try.underlying36 hi hz0 hz1 hz2 rfl g9 kb c9 _ (by kernel_rfl) HO9.out g8 (IntKind.u8.wrap b) HVB.out.1 HVB.out.2 (by kernel_rfl) HC8.out (by simp only [maxLen]; omega) (by omega) EXW.out.size ?_; intro A13 c13 w13 ho13 hg13 hb13))
              exact K_at (HK.out (.slice A13 (kb + 1) c13) w13 (fun W2 h2 => ⟨A13, c13, rfl, BRow.ext ⟨encR r ++ [(IntKind.u8.wrap b)], byt_app HBR.out (fun x hx => by rw [List.mem_singleton] at hx; rw [hx]; exact HVB.out), by have h := Rd.of_own ho13; simpa [u8s] using h⟩ h2, by have h := slice_cap ho13; unfold maxLen at h; exact h⟩) ⟨Kept.of_grown hg13 (fun b hb _ => own_geq HO9.out hb), hb13⟩) (by kernel_rfl)
            · intro us W K hE1 hE2 hd hK
              simp only [Nat.reduceBEq, Bool.not_true, Bool.not_false, Bool.or_true, Bool.or_false, Bool.true_or, Bool.false_or, cond_true, cond_false] at hK ⊢
              have HK := Lib.hid hK; have HE1 := Lib.hid hE1
              clear hK hd hE1 hE2
              go_wp2_with fail
              exact K_at (HK.out (.slice (some ⟨g3, 0, none⟩) 2 2) W (fun _ _ => rfl) (Ext.refl W)) (by kernel_rfl)
            · intro us W K hE1 hE2 hd hK
              have d14 := hd 14 (by kernel_rfl) (by kernel_rfl)
              simp only [Nat.reduceBEq, Bool.not_true, Bool.not_false, Bool.or_true, Bool.or_false, Bool.true_or, Bool.false_or, cond_true, cond_false] at hK ⊢
              rw [d14] at hK ⊢
              have HK := Lib.hid hK; have HE1 := Lib.hid hE1
              clear hK hd hE1 hE2 d14
              go_wp2_with fail
              exact K_at (HK.out (.pointer (some ⟨g3, 22, none⟩)) W (fun _ _ => rfl) (Ext.refl W)) (by kernel_rfl)
            · intro us W K hE1 hE2 hd hK
              have d15 := hd 15 (by kernel_rfl) (by kernel_rfl)
              have EXW : Hid (Ext w10 W) := Lib.hid (sg_undrew (hE1.1.ext (fun _ h => h)))
              have HPW := Lib.hid (HX22.out W EXW.out)
              simp only [Nat.reduceBEq, Bool.not_true, Bool.not_false, Bool.or_true, Bool.or_false, Bool.true_or, Bool.false_or, cond_true, cond_false] at hK ⊢
              rw [d15] at hK ⊢
              have HK := Lib.hid hK; have HE1 := Lib.hid hE1
              clear hK hd hE1 hE2 d15
              go_wp2_with (go_loud (refine wpList_midw (by rfl) 27 (.tmp 106) rfl g3 22 (by kernel_rfl) (revC s1 A3 n3 c3) HPW.out Try.underlying27 rfl (info_rev.trans (congrArg some L3.out.symm)) ?_))
              exact K_at (HK.out (.agg (revC s1 A3 n3 c3).toArray) W (fun _ _ => rfl) (Ext.refl W)) (by kernel_rfl)
            · intro us W K hE1 hE2 hd hK
              have d16 := hd 16 (by kernel_rfl) (by kernel_rfl)
              have EXW : Hid (Ext w10 W) := Lib.hid (sg_undrew (hE1.1.ext (fun _ h => h)))
              simp only [Nat.reduceBEq, Bool.not_true, Bool.not_false, Bool.or_true, Bool.or_false, Bool.true_or, Bool.false_or, cond_true, cond_false] at hK ⊢
              rw [d16] at hK ⊢
              have HK := Lib.hid hK; have HE1 := Lib.hid hE1
              clear hK hd hE1 hE2 d16
              go_wp2_with (go_loud (go_at_call 16; (with_reducible refine (HBYS.out W EXW.out).mono ?_); rintro e w9 ⟨⟨A17, c17, rfl, hb17, hc17, hc17m⟩, hB9⟩))
              exact K_at (HK.out (.slice A17 ks c17) w9 (fun W2 h2 => ⟨A17, c17, rfl, hb17.ext h2, hc17, hc17m⟩) hB9) (by kernel_rfl)
            · intro us W K hE1 hE2 hd hK
              simp only [Nat.reduceBEq, Bool.not_true, Bool.not_false, Bool.or_true, Bool.or_false, Bool.true_or, Bool.false_or, cond_true, cond_false] at hK ⊢
              have HK := Lib.hid hK; have HE1 := Lib.hid hE1
              clear hK hd hE1 hE2
              go_wp2_with fail
              exact K_at (HK.out (.string raw) W (fun _ _ => rfl) (Ext.refl W)) (by kernel_rfl)
            · intro us W K hE1 hE2 hd hK
              have d18 := hd 18 (by kernel_rfl) (by kernel_rfl)
              obtain ⟨cq, wq, hq1, hq2, hq3, hq4⟩ := HCV.out W
              simp only [Nat.reduceBEq, Bool.not_true, Bool.not_false, Bool.or_true, Bool.or_false, Bool.true_or, Bool.false_or, cond_true, cond_false] at hK ⊢
              rw [d18] at hK ⊢
              have HK := Lib.hid hK; have HE1 := Lib.hid hE1
              clear hK hd hE1 hE2 d18
              go_wp2_with fail
              exact K_at (HK.out (.slice (some ⟨W.heap.size, 0, none⟩) sz cq) wq (fun W2 h2 => ⟨_, _, rfl, hq3.keep h2.2 h2.1.size, hq2.1, hq2.2⟩) hq4) (by kernel_rfl)
          · intro us W hE1 hd
            try dsimp only
            obtain ⟨A13, c13, d13, hb13, hc13, hc13m⟩ := hd 13 (by decide) (by decide)
            obtain ⟨A17, c17, d17, hb17, hc17, hc17m⟩ := hd 17 (by decide) (by decide)
            obtain ⟨A21, c21, d19, hb21, hc21, hc21m⟩ := hd 19 (by decide) (by decide)
            have d0 := hd 0 (by decide) (by decide); have d1 := hd 1 (by decide) (by decide); have d4 := hd 4 (by decide) (by decide); have d5 := hd 5 (by decide) (by decide)
            simp only [List.drop_succ_cons, List.drop_zero]
            rw [d0, d1, d4, d5, d13, d17, d19]
            have EXW : Hid (Ext w10 W) := Lib.hid (sg_undrew (hE1.1.ext (fun _ h => h)))
            have HB13 := Lib.hid hb13; have HB17 := Lib.hid hb17; have HB21 := Lib.hid hb21; have HQ13 := Lib.hid (And.intro hc13 hc13m); have HQ17 := Lib.hid (And.intro hc17 hc17m); have HQ21 := Lib.hid (And.intro hc21 hc21m)
            clear hd hE1 d0 d1 d4 d5 d13 d17 d19 hb13 hb17 hb21 hc13 hc13m hc17 hc17m hc21 hc21m
            go_upto_region 17 with fail
            obtain ⟨gT, hgT⟩ : ∃ x, x = W.heap.size := ⟨_, rfl⟩
            obtain ⟨T, hT⟩ : ∃ T : List (Option Addr × Nat × Nat), T = [(some ⟨g16, 0, none⟩, kb, c16), (some ⟨g18, 0, none⟩, kb, c18), (some ⟨g16, 0, none⟩, p, c16), (A19, p + m20, c19), (A13, kb + 1, c13), (A17, ks, c17), (A21, sz, c21), (none, 0, 0)] := ⟨_, rfl⟩
            obtain ⟨w11, hw11⟩ : ∃ x, x = W.alloc (.cells (T.map fun x => Value.slice x.1 x.2.1 x.2.2).toArray 36) := ⟨_, rfl⟩
            have EA : Hid (Ext W w11) := Lib.hid (by rw [hw11]; exact (Ext.refl W).alloc _)
            have BT : Hid (Blk w11 gT 36 (T.map fun x => Value.slice x.1 x.2.1 x.2.2)) := Lib.hid (by rw [hw11, hgT]; exact Blk.fresh W _ _)
            have hw11' : w11 = W.alloc (.cells #[.slice (some ⟨g16, 0, none⟩) kb c16, .slice (some ⟨g18, 0, none⟩) kb c18, .slice (some ⟨g16, 0, none⟩) p c16, .slice A19 (p + m20) c19, .slice A13 (kb + 1) c13, .slice A17 ks c17, .slice A21 sz c21, .slice none 0 0] 36) := by rw [hw11, hT]; rfl
            have E11 : Hid (Ext w10 w11) := Lib.hid (EXW.out.next EA.out)
            have HTX : Hid (∀ x ∈ T, BRow w11 x.1 x.2.1 ∧ x.2.1 ≤ x.2.2 ∧ x.2.2 ≤ 9223372036854775807 ∧ x.2.1 ≤ 1000000000000) := Lib.hid (fun x hx => by
              rw [hT] at hx
              simp only [List.mem_cons, List.not_mem_nil, or_false] at hx
              rcases hx with rfl | rfl | rfl | rfl | rfl | rfl | rfl | rfl
              · exact ⟨⟨_, HBR.out, R16.out.ext' E11.out⟩, hc16, hc16m, by show kb ≤ 1000000000000; omega⟩
              · exact ⟨⟨_, HBC.out, R18.out.ext' E11.out⟩, hc18, hc18m, by show kb ≤ 1000000000000; omega⟩
              · exact ⟨⟨_, HBR.out.take p, rd_take (R16.out.ext' E11.out) (Nat.le_of_lt hpk)⟩, by show p ≤ c16; omega, hc16m, by show p ≤ 1000000000000; omega⟩
              · exact ⟨R19.out.ext E11.out, HC19.out.1, HC19.out.2, by show p + m20 ≤ 1000000000000; omega⟩
              · exact ⟨HB13.out.ext EA.out, HQ13.out.1, HQ13.out.2, by show kb + 1 ≤ 1000000000000; omega⟩
              · exact ⟨HB17.out.ext EA.out, HQ17.out.1, HQ17.out.2, by show ks ≤ 1000000000000; omega⟩
              · exact ⟨HB21.out.ext EA.out, HQ21.out.1, HQ21.out.2, hszm⟩
              · exact ⟨⟨[], fun x hx => (by cases hx), ⟨rfl, fun h => absurd h (Nat.lt_irrefl _)⟩⟩, Nat.le_refl _, by decide, by decide⟩)
            have HTL : Hid (T.length = 8) := Lib.hid (by rw [hT]; rfl)
            have EX := Lib.hid (EX.out.next E11.out)
            have HLV : Hid (∀ W, Calls Try.prog 11 #[] W fun e w' => e = .returned (.bool true) ∧ Ext W w') := Lib.hid lives_any
            change Code.wp _ _ _ _ (W.alloc (.cells #[.slice (some ⟨g16, 0, none⟩) kb c16, .slice (some ⟨g18, 0, none⟩) kb c18, .slice (some ⟨g16, 0, none⟩) p c16, .slice A19 (p + m20) c19, .slice A13 (kb + 1) c13, .slice A17 ks c17, .slice A21 sz c21, .slice none 0 0] 36))
            rw [← hw11', ← hgT]
            clear hT hw11 hw11' hgT EA HB13 HB17 HB21 HQ13 HQ17 HQ21 R16 R18 R19 HBR HBC EXW
            go_wp2_with fail
            go_loopw [21] (fun v wr => ∃ t : Nat, t ≤ 8 ∧ v = .int .i64 (t : Int) ∧ Ext w11 wr) (fun v _ => 8 - (intOf v).toNat)
            case atStart => exact ⟨0, by decide, rfl, Ext.refl _⟩
            case round =>
              obtain ⟨t, ht, rfl, hE⟩ := hrel
              have EO := Lib.hid hE
              clear hE
              obtain ⟨wo, rfl⟩ : ∃ x : World, x = wr := ⟨_, rfl⟩
              by_cases hlt : t < 8
              · obtain ⟨⟨Ax, nx, cx⟩, hx⟩ : ∃ x, T[t]? = some x := ⟨_, List.getElem?_eq_getElem (by have := HTL.out; omega)⟩
                obtain ⟨⟨L, hLb, hLr⟩, hnx, hcx, hnm⟩ := HTX.out _ (List.mem_of_getElem? hx)
                dsimp only at hLr hnx hcx hnm
                have HXC : Hid (∀ W, Ext w11 W → W.cell? ⟨gT, t, none⟩ = some (.slice Ax nx cx)) := Lib.hid (fun W hW => ((BT.out.ext hW).cell t).trans (by rw [List.getElem?_map, hx]; rfl))
                obtain ⟨q, hq⟩ : ∃ q, q = (decF (readP L) L).getD rev0 := ⟨_, rfl⟩
                obtain ⟨dn, hdn⟩ : ∃ q, q = decN (decF (readP L) L) := ⟨_, rfl⟩
                obtain ⟨dc, hdc⟩ : ∃ q, q = decC (decF (readP L) L) := ⟨_, rfl⟩
                have HQW : Hid (RevW q) := Lib.hid (by rw [hq]; exact decF_W _ _)
                have HD1 : Hid (∀ W, Ext w11 W → Calls Try.prog 19 #[.slice Ax nx cx] W fun e w' => (∃ A' n' c', e = .returned (.tuple #[.agg (revC q A' n' c').toArray, .int .i64 dn, .int .i64 dc]) ∧ RevV w' q A' n' c') ∧ Ext W w') := Lib.hid (fun W hW => by
                  have h := decode_any (readP L) L Ax nx cx W (hLr.ext' hW) hLb hnx hcx hnm (fun W2 hW2 => read_any L Ax nx cx W2 (hLr.ext' (hW.next hW2)) hLb hnx hcx hnm)
                  rw [← hq, ← hdn, ← hdc] at h
                  exact h.mono (by rintro e w' ⟨⟨A', n', c', h1, h2, _⟩, h3⟩; exact ⟨⟨A', n', c', h1, h2⟩, h3⟩))
                have HD2 : Hid (∀ W, Ext w11 W → Calls Try.prog 20 #[.slice Ax nx cx] W fun e w' => (∃ A' n' c', e = .returned (.tuple #[.agg (revC q A' n' c').toArray, .int .i64 dn, .int .i64 dc]) ∧ RevV w' q A' n' c') ∧ Ext W w') := Lib.hid (fun W hW => by
                  have h := rdecode_any (readQ L) L Ax nx cx W (hLr.ext' hW) hLb hnx hcx hnm (fun W2 hW2 => rread_any L Ax nx cx W2 (hLr.ext' (hW.next hW2)) hLb hnx hcx hnm)
                  rw [decF_agree L hLb, ← hq, ← hdn, ← hdc] at h
                  exact h.mono (by rintro e w' ⟨⟨A', n', c', h1, h2, _⟩, h3⟩; exact ⟨⟨A', n', c', h1, h2⟩, h3⟩))
                have HSQ : Hid (∀ (A B : Option Addr) (n m c d : Nat) W, RevV W q A n c → RevV W q B m d → Calls Try.prog 21 #[.agg (revC q A n c).toArray, .agg (revC q B m d).toArray] W fun e w' => e = .returned (.bool true) ∧ Ext W w') := Lib.hid (fun A B n m c d W h1 h2 => by
                  have h := rsame_any q q A B n c m d W h1 HQW.out h2 HQW.out
                  rw [decide_eq_true rfl] at h
                  exact h)
                clear hq hdn hdc hLb hLr hx
                have cT := HXC.out wo EO.out
                go_wp2_with (go_loud (first
                  | (go_at_call 19; (with_reducible refine (HD1.out wo EO.out).mono ?_); rintro e w12 ⟨⟨A5, n5, c5, rfl, hv5⟩, hE5⟩; have V5 := Lib.hid hv5; have L5 : Hid ((revC q A5 n5 c5).length = 22) := Lib.hid (revC_len _ _ _ _ hv5.mean); have EO := Lib.hid (EO.out.next hE5); clear hv5 hE5)
                  | (refine wpList_store_freshw rfl 27 (.tmp 22) (.tmp 124) rfl w12.heap.size rfl Z0 (revC q A5 n5 c5) 27 (by kernel_rfl) (by kernel_rfl) (info_rev.trans (congrArg some L5.out.symm)) (Eq.trans (b := 22) rfl L5.out.symm) (revC_one _ _ _ _) ?_; intro w13 hw13 hE13 hz13; have B22 := Lib.hid hw13; have V5 := Lib.hid (RevV.ext V5.out hE13); have EO := Lib.hid (EO.out.next hE13); have cT2 := HXC.out w13 EO.out; clear hw13 hE13 hz13)
                  | (go_at_call 20; (with_reducible refine (HD2.out w13 EO.out).mono ?_); rintro e w14 ⟨⟨A6, n6, c6, rfl, hv6⟩, hE6⟩; have V6 := Lib.hid hv6; have L6 : Hid ((revC q A6 n6 c6).length = 22) := Lib.hid (revC_len _ _ _ _ hv6.mean); have EO := Lib.hid (EO.out.next hE6); have V5 := Lib.hid (RevV.ext V5.out hE6); have B22 := Lib.hid (B22.out.ext hE6); clear hv6 hE6)
                  | (refine wpList_store_freshw rfl 27 (.tmp 25) (.tmp 133) rfl w14.heap.size rfl Z0 (revC q A6 n6 c6) 27 (by kernel_rfl) (by kernel_rfl) (info_rev.trans (congrArg some L6.out.symm)) (Eq.trans (b := 22) rfl L6.out.symm) (revC_one _ _ _ _) ?_; intro w15 hw15 hE15 hz15; have B25 := Lib.hid hw15; have V5 := Lib.hid (RevV.ext V5.out hE15); have V6 := Lib.hid (RevV.ext V6.out hE15); have B22 := Lib.hid (B22.out.ext hE15); have EO := Lib.hid (EO.out.next hE15); clear hw15 hE15 hz15)
                  | (refine wpList_load_want (by rfl) 27 (.tmp 22) rfl w12.heap.size (by kernel_rfl) B22.out Try.underlying27 rfl (info_rev.trans (congrArg some L5.out.symm)) ?_)
                  | (refine wpList_load_want (by rfl) 27 (.tmp 25) rfl w14.heap.size (by kernel_rfl) B25.out Try.underlying27 rfl (info_rev.trans (congrArg some L6.out.symm)) ?_)
                  | (go_at_call 21; (with_reducible refine (HSQ.out A5 A6 n5 n6 c5 c6 w15 V5.out V6.out).mono ?_); rintro e w16 ⟨rfl, hE16⟩; have EO := Lib.hid (EO.out.next hE16); clear hE16)))
                exact ⟨⟨t + 1, by omega, by go_num, EO.out⟩, by simp [intOf]; omega⟩
              · obtain rfl : t = 8 := by omega
                rw [show ((8 : Nat) : Int) = 8 from rfl]
                go_wp2_with (go_loud (go_at_call 11; (with_reducible refine (HLV.out wo).mono ?_); rintro e w12 ⟨rfl, hE5⟩; have EO := Lib.hid (EO.out.next hE5); clear hE5))
                go_ret
                exact ⟨rfl, EX.out.next EO.out⟩
end
namespace fnReviewEncodes
theorem params_reviewEncodes : (Try.f4.params.toList.all fun t => Try.prog.readableRec t && decide (t < Try.prog.types.size)) = true := by kernel_rfl
set_option maxRecDepth 100000 in
theorem contract (H : Type) (enc : TypeId × Value → H) (W : World) (base : Nat) (args : Array Value) (ds gs : List (DataW H)) (before : List MemPlace)
    (hval : ∀ (j : Nat) t v, Try.f4.params[j]? = some t → args[j]? = some v → Value.okWide Try.prog W .any base t v)
    (hW : DataW.Whole enc Try.prog Try.f4.params.toList Rows.reviewEncodesSpec.vars false W args.toList ds gs before) (hk : Rows.uptoSmall H (ds ++ gs) = true) :
    Calls Try.prog 4 args W fun e W' => ∃ v, e = .returned v ∧ Rows.reviewEncodesSpec.post enc Try.prog Try.f4 false true false false W args v W' := by
  have hW' := hW
  obtain ⟨p, q, hA0, _, _, _, _⟩ := hW
  have hA : DataW.TrodAll enc Try.prog W 0 (fun _ => true) true Try.f4.params.toList args.toList ds p := hA0
  rw [Try.params4] at hA hval
  obtain ⟨v0, vs0, d0, ds0, p0, q0, hargs, e0d, e0p, h0, r0⟩ := trodAll_cons hA
  obtain ⟨v1, vs1, d1, ds1, p1, q1, e1, e1d, e1p, h1, r1⟩ := trodAll_cons r0
  obtain ⟨v2, vs2, d2, ds2, p2, q2, e2, e2d, e2p, h2, r2⟩ := trodAll_cons r1
  obtain ⟨v3, vs3, d3, ds3, p3, q3, e3, e3d, e3p, h3, r3⟩ := trodAll_cons r2
  obtain ⟨en1, en2, en3⟩ := trodAll_nil r3
  obtain rfl : args = #[v0, v1, v2, v3] := by cases args; simp_all
  clear hA hA0
  have hcond : Rows.uptoBulkAll (ds ++ gs) ≤ 1048576 := by
    have h := of_decide_eq_true hk
    exact h
  rw [e0d, e1d, e2d, e3d] at hcond
  simp only [List.cons_append, bulk_all] at hcond
  obtain ⟨A, n, c, l, rfl, hR, hwf, hnc, hc⟩ := open_u8s Try.underlying22 Try.underlying3 cellsint (hval 0 _ v0 rfl rfl) h0
  obtain ⟨x, rfl, _, _, hx⟩ := open_int Try.underlying3 (hval 1 _ v1 rfl rfl) h1
  obtain ⟨y, rfl, _, _, hy⟩ := open_int Try.underlying3 (hval 2 _ v2 rfl rfl) h2
  obtain ⟨s, rfl, hd3, _, _⟩ := ChangeMaps.open_string Try.underlying9 (hval 3 _ v3 rfl rfl) h3
  have hs1 : s.size + 1 = Rows.uptoBulk d3 := by
    have h3 : s.data.toList.length = s.size := by rw [Array.length_toList]; rfl
    rw [hd3, Rows.uptoBulk, h3]
  refine (walk_renc l A n c x y s W hR (fun x hx => wf_i64' (hwf x hx)) (wf_i64' hx) (wf_i64' hy) (by omega)).mono fun e W' ⟨he, hg⟩ => ⟨_, he, ?_⟩
  exact post_law hW' laidOut (params_ok params_reviewEncodes) 4 rfl Try.underlying4 rfl (fun ds h => by
    rw [Try.params4] at h
    match ds, h with
    | [_, _, _, _], _ => rfl) hg
noncomputable def laidWorld (os : Os) : World := World.holding Try.prog os ⟨#[], #[], []⟩
theorem reads (os : Os) {H : Type} (enc : TypeId × Value → H) : ∃ places, DataW.whole enc Try.prog ((laidWorld os).forCall (fun _ _ => 0) ⟨#[], #[.slice none 0 0, .int .i64 0, .int .i64 0, .string ByteArray.empty], []⟩).memory Try.f4.params.toList Rows.reviewEncodesSpec.vars false (#[.slice none 0 0, .int .i64 0, .int .i64 0, .string ByteArray.empty] : Array Value).toList 8 = some ([.nil, .lit (.int .i64 0), .lit (.int .i64 0), .lit (.string [])], [], places) :=
  ⟨[], by kernel_rfl⟩
set_option maxRecDepth 100000 in
theorem lifted (os : Os) (started : os.Started) (H : Type) (enc : TypeId × Value → H) (F : Stop.Interp) :
    ReturnsInHanded {} Try.checked os 4 .any ((Rows.OpenSpec.upto Rows.reviewEncodesSpec).preRow enc Try.prog Try.f4 Rows.reviewEncodesUptoRow.domain false Rows.reviewEncodesUptoRow.laid) (((Rows.OpenSpec.upto Rows.reviewEncodesSpec).at F).post enc Try.prog Try.f4 false true false false) := by
  obtain ⟨places, hx⟩ := reads os enc
  refine returnsInHanded_of_row (C := Try.checked) (s := Rows.OpenSpec.upto Rows.reviewEncodesSpec) own started (by kernel_rfl) Try.func4
    (witness_row_at (enc := enc) (C := Try.checked) false (laidWorld os) #[.slice none 0 0, .int .i64 0, .int .i64 0, .string ByteArray.empty] rfl (by kernel_rfl) (by kernel_rfl) (by kernel_rfl)
      (OpenSpec.preRow_of_cond 8 hx (by kernel_rfl) (fun k hk => by cases hk; kernel_rfl) (by kernel_rfl) (laidMet_nil _ _))) ?_
  intro W base args ds gs before hval hW _ hcond _ hL _ _
  exact contract H enc W base args ds gs before hval hW (hcond _ rfl)
theorem said : Rows.ReviewEncodesUptoSaid :=
  OpenClaim.holds_of_cond 4 Try.f4 rfl rfl rfl rfl rfl rfl rfl ⟨rfl, rfl, rfl, rfl, rfl⟩ rfl rfl rfl rfl rfl (by kernel_rfl) Try.func4 (by kernel_rfl)
    (of_decide_eq_true (by kernel_rfl)) (by unfold Func.isWrapper; first | (rw [if_pos (by decide +kernel)]; kernel_rfl) | (rw [if_neg (by decide +kernel)]; exact ⟨rfl, rfl⟩))
    (fun os started H enc _ F => by rw [OpenClaim.pre_eq_preRow]; exact lifted os started H enc F)
end fnReviewEncodes
end Go.Proofs.Ytphabdlcjpfbaaa
