/- The reference's Decode, and that the two decoders agree. Conditions: at most 10^12 bytes. -/
import Derived.Test.YtphabdlcjpfbaaaRvZ
set_option linter.unusedSimpArgs false
set_option linter.unusedVariables false
namespace Go.Proofs.Ytphabdlcjpfbaaa
open Go.RowKit
attribute [local go_sem ↓] wp_at_zero wp_at_succ
set_option maxHeartbeats 16000000 in
set_option maxRecDepth 100000 in
theorem rdecode_any (rd : Option Rev) (l : List Int) (A : Option Addr) (n c : Nat) (w : World) (hl : Rd w w.heap.size A n (u8s l)) (hby : Byt l) (hnc : n ≤ c) (hc : c ≤ 9223372036854775807) (hn : n ≤ 1000000000000) (hr : ∀ W, Ext w W → ReadsR rd 42 A n c W) :
    Calls Try.prog 20 #[.slice A n c] w fun e w' => (∃ A' n' c', e = .returned (.tuple #[.agg (revC ((decF rd l).getD rev0) A' n' c').toArray, .int .i64 (decN (decF rd l)), .int .i64 (decC (decF rd l))]) ∧ RevV w' ((decF rd l).getD rev0) A' n' c' ∧ ∀ a, A' = some a → w.heap.size ≤ a.block) ∧ Ext w w' := by
  have zz : ∀ W, (zeroValue 27).run Try.prog W = .ok (.agg Z0.toArray) W := fun W => by kernel_rfl
  have HR := Lib.hid hr
  have HL := Lib.hid hl
  have HBY := Lib.hid hby
  clear hr hl hby
  unfold ReadsR at HR
  cases rd with
  | none =>
    have HD : Hid (decF none l = none) := Lib.hid rfl
    dsimp only at HR
    go_enter Try.func20, Try.ntmps20
    go_upto_region 1 with fail
    obtain ⟨w1, hw1⟩ : ∃ x, x = w.alloc (.cells Z0.toArray 27) := ⟨_, rfl⟩
    change Code.wp _ _ _ _ (w.alloc (.cells Z0.toArray 27))
    rw [← hw1]
    have EX : Hid (Ext w w1) := Lib.hid (by rw [hw1]; exact (Ext.refl w).alloc _)
    have BZ : Hid (Blk w1 w.heap.size 27 Z0) := Lib.hid (by rw [hw1]; exact Blk.fresh' _ _ _ _ _ rfl rfl)
    clear hw1
    go_wp2_with (first
          | (go_at_call 42; (with_reducible refine (HR.out _ EX.out).mono ?_); rintro e w2 ⟨⟨ZZ, rfl, hZZ, hZ1⟩, hE2⟩; have HZZ := Lib.hid hZZ; have HZ1 := Lib.hid hZ1; have BZ := Lib.hid (BZ.out.ext hE2); have EX := Lib.hid (EX.out.next hE2); clear hE2; clear hZZ hZ1)
          | (refine wpList_store_freshw rfl 27 (.tmp 5) (.tmp 12) rfl w2.heap.size rfl Z0 ZZ 27 (by kernel_rfl) (by kernel_rfl) (info_rev.trans (congrArg some HZZ.out.symm)) (Eq.trans (b := 22) rfl HZZ.out.symm) HZ1.out ?_; intro w3 hw3 hE3 hz3; have B5 := Lib.hid hw3; have E23 := Lib.hid hE3; have BZ := Lib.hid (BZ.out.ext hE3); have EX := Lib.hid (EX.out.next hE3); clear hE3; clear hw3 hz3)
          | (refine wpList_build_eq (by rfl) 27 _ rfl _ (by kernel_rfl) Z0 build_rev0 ?_)
          | (refine wpList_store_blk rfl 27 (.tmp 2) (.tmp 16) rfl w.heap.size Z0 (by kernel_rfl) (by kernel_rfl) BZ.out info_rev rfl (revC_one rev0 none 0 0) ?_; intro w9 hw9 hb9; have E9 : Hid (Ext w w9) := Lib.hid (by rw [hw9.out]; exact EX.out.setRow (Nat.le_refl _) _)))
    refine bodyPost_ret (results_blk_bit3 Try.results20 _ _ w.heap.size 27 Z0 _ (by rfl) hb9 Try.underlying27 rfl info_rev) rfl ?_
    rw [HD.out]
    exact ⟨⟨none, 0, 0, rfl, rev0_V _, fun a h => by cases h⟩, E9.out⟩
  | some r =>
    dsimp only at HR
    have HEN : Hid (∀ W B2 n2 d2, RevV W r B2 n2 d2 → Calls Try.prog 14 #[.agg (revC r B2 n2 d2).toArray] W fun e w' => (∃ A' c', e = .returned (.tuple #[.slice A' (encX r).length c', .int .i64 (encE r)]) ∧ w'.ownsRow W.heap.size 5 1 (.slice A' (encX r).length c') (encX r).length (u8s (encX r))) ∧ Ext W w') := Lib.hid (fun W B2 n2 d2 hv => rencodeX_any r B2 n2 d2 W hv)
    obtain ⟨k, hk⟩ : ∃ k, k = (encX r).length := ⟨_, rfl⟩
    obtain ⟨v, hv⟩ : ∃ v, v = encE r := ⟨_, rfl⟩
    rw [← hk, ← hv] at HEN
    by_cases hv0 : v = 0
    · subst hv0
      have hX : encX r = encR r := by unfold encX; rw [if_pos hv.symm]
      have HRW := Lib.hid (revW_of hv.symm)
      rw [hX] at HEN hk
      have HKL := Lib.hid hk
      by_cases hp : preB l (encR r) = true
      · have HD : Hid (decF (some r) l = some r) := Lib.hid (by unfold decF; rw [Option.bind_some, if_pos ⟨hv.symm, hp⟩])
        have HDN : Hid (decN (some r) = (k : Int)) := Lib.hid (by unfold decN; rw [hk])
        have hkn : k ≤ n := Classical.byContradiction fun h => by
          have h1 := HL.out.1
          have h2 := preB_long (l := l) (p := encR r) (by rw [← hk]; simp only [u8s, List.length_map] at h1; omega)
          rw [h2] at hp
          cases hp
        have HPR : Hid (k ≤ n → ∀ W B d, Ext w W → Rd W W.heap.size B k (u8s (encR r)) → Calls Try.prog 15 #[.slice A k c, .slice B k d] W fun e w' => e = .returned (.bool true) ∧ Ext W w') := Lib.hid (fun hkn W B d hW hB => by
          have h := same_any (l.take k) (encR r) A B k c k d W (rd_take (HL.out.ext' hW) hkn) hB (by omega)
          rw [show decide (l.take k = encR r) = preB l (encR r) from by unfold preB; rw [← HKL.out], hp] at h
          exact h.mono fun e w' h => ⟨h.1, h.2.below _⟩)
        clear hk hv hX hp
        have hgt : ¬ (n : Int) < (k : Int) := by omega
        go_enter Try.func20, Try.ntmps20
        go_upto_region 1 with fail
        obtain ⟨w1, hw1⟩ : ∃ x, x = w.alloc (.cells Z0.toArray 27) := ⟨_, rfl⟩
        change Code.wp _ _ _ _ (w.alloc (.cells Z0.toArray 27))
        rw [← hw1]
        have EX : Hid (Ext w w1) := Lib.hid (by rw [hw1]; exact (Ext.refl w).alloc _)
        have BZ : Hid (Blk w1 w.heap.size 27 Z0) := Lib.hid (by rw [hw1]; exact Blk.fresh' _ _ _ _ _ rfl rfl)
        clear hw1
        go_wp2_with (first
              | (go_at_call 42; (with_reducible refine (HR.out _ EX.out).mono ?_); rintro e w2 ⟨⟨B2, n2, d2, rfl, hv2, hf2⟩, hE2⟩; have HV := Lib.hid hv2; have HF := Lib.hid hf2; have EX2 := EX; have HW1 := Lib.hid BZ.out.lt; have HL2 : Hid ((revC r B2 n2 d2).length = 22) := Lib.hid (revC_len _ _ _ _ hv2.mean); have BZ := Lib.hid (BZ.out.ext hE2); have EX := Lib.hid (EX.out.next hE2); clear hE2; clear hv2 hf2)
              | (refine wpList_store_freshw rfl 27 (.tmp 5) (.tmp 12) rfl w2.heap.size rfl Z0 (revC r B2 n2 d2) 27 (by kernel_rfl) (by kernel_rfl) (info_rev.trans (congrArg some HL2.out.symm)) (Eq.trans (b := 22) rfl HL2.out.symm) (revC_one r B2 n2 d2) ?_; intro w3 hw3 hE3 hz3; have B5 := Lib.hid hw3; have E23 := Lib.hid hE3; have BZ := Lib.hid (BZ.out.ext hE3); have EX := Lib.hid (EX.out.next hE3); clear hE3; clear hw3 hz3)
              | (refine wpList_load_blk rfl 27 (.tmp 5) rfl w2.heap.size (by kernel_rfl) B5.out Try.underlying27 rfl (info_rev.trans (congrArg some HL2.out.symm)) ?_)
              | (go_at_call 14; (with_reducible refine (HEN.out _ B2 n2 d2 (HV.out.ext E23.out)).mono ?_); rintro e w4 ⟨⟨B4, d4, rfl, ho4⟩, hE4⟩; have O4 := Lib.hid ho4; have B5 := Lib.hid (B5.out.ext hE4); have HV4 := Lib.hid ((HV.out.ext E23.out).ext hE4); have BZ := Lib.hid (BZ.out.ext hE4); have EX := Lib.hid (EX.out.next hE4); clear hE4; clear ho4)
              | (go_at_call 15; (with_reducible refine (HPR.out hkn _ B4 d4 EX.out (Rd.of_own O4.out)).mono ?_); rintro e w5 ⟨rfl, hE5⟩; have HV4 := Lib.hid (HV4.out.ext hE5); have B5 := Lib.hid (B5.out.ext hE5); have BZ := Lib.hid (BZ.out.ext hE5); have EX := Lib.hid (EX.out.next hE5); clear hE5)
              | (refine wpList_store_blk rfl 27 (.tmp 2) (.tmp 41) rfl w.heap.size (revC r B2 n2 d2) (by kernel_rfl) (by kernel_rfl) BZ.out (info_rev.trans (congrArg some HL2.out.symm)) (Eq.trans (b := 22) rfl HL2.out.symm) (revC_one r B2 n2 d2) ?_; intro w9 hw9 hb9; have E9 : Hid (Ext w w9) := Lib.hid (by rw [hw9.out]; exact EX.out.setRow (Nat.le_refl _) _)))
        refine bodyPost_ret (results_blk_bit3 Try.results20 _ _ w.heap.size 27 (revC r B2 n2 d2) _ (by rfl) hb9 Try.underlying27 rfl (info_rev.trans (congrArg some HL2.out.symm))) rfl ?_
        rw [HD.out]
        refine ⟨⟨B2, n2, d2, by rw [HDN.out]; rfl, ?_, fun a ha => Nat.le_trans EX2.out.size (HF.out a ha)⟩, E9.out⟩
        have hv4 := HV4.out
        have hf4 := HF.out
        have hw4 := HW1.out
        rw [hw9.out]
        exact ⟨rdn_setRow hv4.row (fun a ha => by have h1 := hf4 a ha; omega) _, hv4.le, hv4.cap, hv4.few, hv4.mean, hv4.mbyt⟩
      · have hp : preB l (encR r) = false := by
          cases h : preB l (encR r) with
          | false => rfl
          | true => exact absurd h hp
        have HD : Hid (decF (some r) l = none) := Lib.hid (by unfold decF; rw [Option.bind_some, if_neg (by rw [hp]; rintro ⟨_, h⟩; cases h)])
        have HPR : Hid (k ≤ n → ∀ W B d, Ext w W → Rd W W.heap.size B k (u8s (encR r)) → Calls Try.prog 15 #[.slice A k c, .slice B k d] W fun e w' => e = .returned (.bool false) ∧ Ext W w') := Lib.hid (fun hkn W B d hW hB => by
          have h := same_any (l.take k) (encR r) A B k c k d W (rd_take (HL.out.ext' hW) hkn) hB (by omega)
          rw [show decide (l.take k = encR r) = preB l (encR r) from by unfold preB; rw [← HKL.out], hp] at h
          exact h.mono fun e w' h => ⟨h.1, h.2.below _⟩)
        clear hk hv hX hp
        rcases Nat.lt_or_ge n k with hkn | hkn
        · have hgt : (n : Int) < (k : Int) := by omega
          go_enter Try.func20, Try.ntmps20
          go_upto_region 1 with fail
          obtain ⟨w1, hw1⟩ : ∃ x, x = w.alloc (.cells Z0.toArray 27) := ⟨_, rfl⟩
          change Code.wp _ _ _ _ (w.alloc (.cells Z0.toArray 27))
          rw [← hw1]
          have EX : Hid (Ext w w1) := Lib.hid (by rw [hw1]; exact (Ext.refl w).alloc _)
          have BZ : Hid (Blk w1 w.heap.size 27 Z0) := Lib.hid (by rw [hw1]; exact Blk.fresh' _ _ _ _ _ rfl rfl)
          clear hw1
          go_wp2_with (first
                | (go_at_call 42; (with_reducible refine (HR.out _ EX.out).mono ?_); rintro e w2 ⟨⟨B2, n2, d2, rfl, hv2, hf2⟩, hE2⟩; have HV := Lib.hid hv2; have HF := Lib.hid hf2; have EX2 := EX; have HW1 := Lib.hid BZ.out.lt; have HL2 : Hid ((revC r B2 n2 d2).length = 22) := Lib.hid (revC_len _ _ _ _ hv2.mean); have BZ := Lib.hid (BZ.out.ext hE2); have EX := Lib.hid (EX.out.next hE2); clear hE2; clear hv2 hf2)
                | (refine wpList_store_freshw rfl 27 (.tmp 5) (.tmp 12) rfl w2.heap.size rfl Z0 (revC r B2 n2 d2) 27 (by kernel_rfl) (by kernel_rfl) (info_rev.trans (congrArg some HL2.out.symm)) (Eq.trans (b := 22) rfl HL2.out.symm) (revC_one r B2 n2 d2) ?_; intro w3 hw3 hE3 hz3; have B5 := Lib.hid hw3; have E23 := Lib.hid hE3; have BZ := Lib.hid (BZ.out.ext hE3); have EX := Lib.hid (EX.out.next hE3); clear hE3; clear hw3 hz3)
                | (refine wpList_load_blk rfl 27 (.tmp 5) rfl w2.heap.size (by kernel_rfl) B5.out Try.underlying27 rfl (info_rev.trans (congrArg some HL2.out.symm)) ?_)
                | (go_at_call 14; (with_reducible refine (HEN.out _ B2 n2 d2 (HV.out.ext E23.out)).mono ?_); rintro e w4 ⟨⟨B4, d4, rfl, ho4⟩, hE4⟩; have O4 := Lib.hid ho4; have B5 := Lib.hid (B5.out.ext hE4); have HV4 := Lib.hid ((HV.out.ext E23.out).ext hE4); have BZ := Lib.hid (BZ.out.ext hE4); have EX := Lib.hid (EX.out.next hE4); clear hE4; clear ho4)
                | (go_at_call 15; (with_reducible refine (HPR.out hkn _ B4 d4 EX.out (Rd.of_own O4.out)).mono ?_); rintro e w5 ⟨rfl, hE5⟩; have HV4 := Lib.hid (HV4.out.ext hE5); have B5 := Lib.hid (B5.out.ext hE5); have BZ := Lib.hid (BZ.out.ext hE5); have EX := Lib.hid (EX.out.next hE5); clear hE5)
                | (refine wpList_build_eq (by rfl) 27 _ rfl _ (by kernel_rfl) Z0 build_rev0 ?_)
                | (refine wpList_store_blk rfl 27 (.tmp 2) (.tmp 40) rfl w.heap.size Z0 (by kernel_rfl) (by kernel_rfl) BZ.out info_rev rfl (revC_one rev0 none 0 0) ?_; intro w9 hw9 hb9; have E9 : Hid (Ext w w9) := Lib.hid (by rw [hw9.out]; exact EX.out.setRow (Nat.le_refl _) _)))
          refine bodyPost_ret (results_blk_bit3 Try.results20 _ _ w.heap.size 27 Z0 _ (by rfl) hb9 Try.underlying27 rfl info_rev) rfl ?_
          rw [HD.out]
          exact ⟨⟨none, 0, 0, rfl, rev0_V _, fun a h => by cases h⟩, E9.out⟩
        · have hgt : ¬ (n : Int) < (k : Int) := by omega
          go_enter Try.func20, Try.ntmps20
          go_upto_region 1 with fail
          obtain ⟨w1, hw1⟩ : ∃ x, x = w.alloc (.cells Z0.toArray 27) := ⟨_, rfl⟩
          change Code.wp _ _ _ _ (w.alloc (.cells Z0.toArray 27))
          rw [← hw1]
          have EX : Hid (Ext w w1) := Lib.hid (by rw [hw1]; exact (Ext.refl w).alloc _)
          have BZ : Hid (Blk w1 w.heap.size 27 Z0) := Lib.hid (by rw [hw1]; exact Blk.fresh' _ _ _ _ _ rfl rfl)
          clear hw1
          go_wp2_with (first
                | (go_at_call 42; (with_reducible refine (HR.out _ EX.out).mono ?_); rintro e w2 ⟨⟨B2, n2, d2, rfl, hv2, hf2⟩, hE2⟩; have HV := Lib.hid hv2; have HF := Lib.hid hf2; have EX2 := EX; have HW1 := Lib.hid BZ.out.lt; have HL2 : Hid ((revC r B2 n2 d2).length = 22) := Lib.hid (revC_len _ _ _ _ hv2.mean); have BZ := Lib.hid (BZ.out.ext hE2); have EX := Lib.hid (EX.out.next hE2); clear hE2; clear hv2 hf2)
                | (refine wpList_store_freshw rfl 27 (.tmp 5) (.tmp 12) rfl w2.heap.size rfl Z0 (revC r B2 n2 d2) 27 (by kernel_rfl) (by kernel_rfl) (info_rev.trans (congrArg some HL2.out.symm)) (Eq.trans (b := 22) rfl HL2.out.symm) (revC_one r B2 n2 d2) ?_; intro w3 hw3 hE3 hz3; have B5 := Lib.hid hw3; have E23 := Lib.hid hE3; have BZ := Lib.hid (BZ.out.ext hE3); have EX := Lib.hid (EX.out.next hE3); clear hE3; clear hw3 hz3)
                | (refine wpList_load_blk rfl 27 (.tmp 5) rfl w2.heap.size (by kernel_rfl) B5.out Try.underlying27 rfl (info_rev.trans (congrArg some HL2.out.symm)) ?_)
                | (go_at_call 14; (with_reducible refine (HEN.out _ B2 n2 d2 (HV.out.ext E23.out)).mono ?_); rintro e w4 ⟨⟨B4, d4, rfl, ho4⟩, hE4⟩; have O4 := Lib.hid ho4; have B5 := Lib.hid (B5.out.ext hE4); have HV4 := Lib.hid ((HV.out.ext E23.out).ext hE4); have BZ := Lib.hid (BZ.out.ext hE4); have EX := Lib.hid (EX.out.next hE4); clear hE4; clear ho4)
                | (go_at_call 15; (with_reducible refine (HPR.out hkn _ B4 d4 EX.out (Rd.of_own O4.out)).mono ?_); rintro e w5 ⟨rfl, hE5⟩; have HV4 := Lib.hid (HV4.out.ext hE5); have B5 := Lib.hid (B5.out.ext hE5); have BZ := Lib.hid (BZ.out.ext hE5); have EX := Lib.hid (EX.out.next hE5); clear hE5)
                | (refine wpList_build_eq (by rfl) 27 _ rfl _ (by kernel_rfl) Z0 build_rev0 ?_)
                | (refine wpList_store_blk rfl 27 (.tmp 2) (.tmp 40) rfl w.heap.size Z0 (by kernel_rfl) (by kernel_rfl) BZ.out info_rev rfl (revC_one rev0 none 0 0) ?_; intro w9 hw9 hb9; have E9 : Hid (Ext w w9) := Lib.hid (by rw [hw9.out]; exact EX.out.setRow (Nat.le_refl _) _)))
          refine bodyPost_ret (results_blk_bit3 Try.results20 _ _ w.heap.size 27 Z0 _ (by rfl) hb9 Try.underlying27 rfl info_rev) rfl ?_
          rw [HD.out]
          exact ⟨⟨none, 0, 0, rfl, rev0_V _, fun a h => by cases h⟩, E9.out⟩
    · have hne : (v == 0) = false := by simpa using hv0
      have HD : Hid (decF (some r) l = none) := Lib.hid (by unfold decF; rw [Option.bind_some, if_neg (by rw [← hv]; rintro ⟨h, _⟩; exact hv0 h)])
      clear hk hv
      go_enter Try.func20, Try.ntmps20
      go_upto_region 1 with fail
      obtain ⟨w1, hw1⟩ : ∃ x, x = w.alloc (.cells Z0.toArray 27) := ⟨_, rfl⟩
      change Code.wp _ _ _ _ (w.alloc (.cells Z0.toArray 27))
      rw [← hw1]
      have EX : Hid (Ext w w1) := Lib.hid (by rw [hw1]; exact (Ext.refl w).alloc _)
      have BZ : Hid (Blk w1 w.heap.size 27 Z0) := Lib.hid (by rw [hw1]; exact Blk.fresh' _ _ _ _ _ rfl rfl)
      clear hw1
      go_wp2_with (first
            | (go_at_call 42; (with_reducible refine (HR.out _ EX.out).mono ?_); rintro e w2 ⟨⟨B2, n2, d2, rfl, hv2, hf2⟩, hE2⟩; have HV := Lib.hid hv2; have HF := Lib.hid hf2; have EX2 := EX; have HW1 := Lib.hid BZ.out.lt; have HL2 : Hid ((revC r B2 n2 d2).length = 22) := Lib.hid (revC_len _ _ _ _ hv2.mean); have BZ := Lib.hid (BZ.out.ext hE2); have EX := Lib.hid (EX.out.next hE2); clear hE2; clear hv2 hf2)
            | (refine wpList_store_freshw rfl 27 (.tmp 5) (.tmp 12) rfl w2.heap.size rfl Z0 (revC r B2 n2 d2) 27 (by kernel_rfl) (by kernel_rfl) (info_rev.trans (congrArg some HL2.out.symm)) (Eq.trans (b := 22) rfl HL2.out.symm) (revC_one r B2 n2 d2) ?_; intro w3 hw3 hE3 hz3; have B5 := Lib.hid hw3; have E23 := Lib.hid hE3; have BZ := Lib.hid (BZ.out.ext hE3); have EX := Lib.hid (EX.out.next hE3); clear hE3; clear hw3 hz3)
            | (refine wpList_load_blk rfl 27 (.tmp 5) rfl w2.heap.size (by kernel_rfl) B5.out Try.underlying27 rfl (info_rev.trans (congrArg some HL2.out.symm)) ?_)
            | (go_at_call 14; (with_reducible refine (HEN.out _ B2 n2 d2 (HV.out.ext E23.out)).mono ?_); rintro e w4 ⟨⟨B4, d4, rfl, ho4⟩, hE4⟩; have O4 := Lib.hid ho4; have B5 := Lib.hid (B5.out.ext hE4); have HV4 := Lib.hid ((HV.out.ext E23.out).ext hE4); have BZ := Lib.hid (BZ.out.ext hE4); have EX := Lib.hid (EX.out.next hE4); clear hE4; clear ho4)
            | (refine wpList_build_eq (by rfl) 27 _ rfl _ (by kernel_rfl) Z0 build_rev0 ?_)
            | (refine wpList_store_blk rfl 27 (.tmp 2) (.tmp 40) rfl w.heap.size Z0 (by kernel_rfl) (by kernel_rfl) BZ.out info_rev rfl (revC_one rev0 none 0 0) ?_; intro w9 hw9 hb9; have E9 : Hid (Ext w w9) := Lib.hid (by rw [hw9.out]; exact EX.out.setRow (Nat.le_refl _) _)))
      refine bodyPost_ret (results_blk_bit3 Try.results20 _ _ w.heap.size 27 Z0 _ (by rfl) hb9 Try.underlying27 rfl info_rev) rfl ?_
      rw [HD.out]
      exact ⟨⟨none, 0, 0, rfl, rev0_V _, fun a h => by cases h⟩, E9.out⟩
/-- The encoding of a review that is found begins with what it was read from. -/
theorem decF_agree (l : List Int) (hb : Byt l) : decF (readQ l) l = decF (readP l) l := by
  unfold readQ readP
  by_cases h : bad1 l ∨ bad2 l ∨ bad3 l ∨ bad4 l ∨ bad5 l
  · rw [if_pos h, if_pos (by rcases h with h | h | h | h | h <;> simp [h])]
  · by_cases hq : bad2q l
    · rw [if_neg h, if_pos (by simp [hq])]
      have h1 : ¬ bad1 l := fun x => h (Or.inl x)
      have h2 : ¬ bad2 l := fun x => h (Or.inr (Or.inl x))
      symm
      unfold decF
      rw [Option.bind_some, Option.bind_none, if_neg]
      rintro ⟨_, hp⟩
      unfold preB at hp
      have hp := of_decide_eq_true hp
      -- the three numbers
      have hc1 : (cut1 l).2.2 = 0 ∧ (cut1 l).1.length = 3 := by
        unfold bad1 at h1
        exact ⟨Classical.byContradiction fun x => h1 (Or.inl x), Classical.byContradiction fun x => h1 (Or.inr x)⟩
      rcases cut1_cases l hb with ⟨hx, _⟩ | ⟨xs, u, hg, hu, henc, hwx⟩
      · exact absurd hc1.1 hx
      · have hxs : (cut1 l).1 = xs := by rw [hg]
        rw [hxs] at hc1
        obtain ⟨a, b, c, rfl⟩ : ∃ a b c, xs = [a, b, c] := by
          match xs, hc1.2 with
          | [a, b, c], _ => exact ⟨_, _, _, rfl⟩
        have hr1 : rest1 l = l.drop u := by unfold rest1; rw [hg]; rfl
        have hE : encR (revAt l) = l.take u ++ (encInt 0 ++ (encL encInt (opsI (ridsOf (cut3 l).1)) ++ (encL idD [(cut4 l).1.getD 0 []] ++ encB (cut5 l).1))) := by
          unfold encR revAt
          rw [hxs]
          simp only [List.getD_cons_zero, List.getD_cons_succ]
          rw [← henc]
          have hw : decide ((cut2 l).1 = 1) = false := by
            rw [decide_eq_false_iff_not]
            intro h3
            unfold bad2q at hq
            omega
          rw [hw]
          simp only [List.append_assoc]
          rfl
        obtain ⟨Y, hY⟩ : ∃ Y, Y = encL encInt (opsI (ridsOf (cut3 l).1)) ++ (encL idD [(cut4 l).1.getD 0 []] ++ encB (cut5 l).1) := ⟨_, rfl⟩
        rw [hE, ← hY] at hp
        have hl : l = l.take u ++ (encInt 0 ++ (Y ++ l.drop (l.take u ++ (encInt 0 ++ Y)).length)) := by
          conv => lhs; rw [← List.take_append_drop (l.take u ++ (encInt 0 ++ Y)).length l, hp]
          simp only [List.append_assoc]
        have hd : rest1 l = encInt 0 ++ (Y ++ l.drop (l.take u ++ (encInt 0 ++ Y)).length) := by
          rw [hr1]
          obtain ⟨T, hT⟩ : ∃ T, T = l.take u := ⟨_, rfl⟩
          obtain ⟨R, hR⟩ : ∃ R, R = encInt 0 ++ (Y ++ l.drop (l.take u ++ (encInt 0 ++ Y)).length) := ⟨_, rfl⟩
          rw [← hR, ← hT] at hl
          rw [← hR]
          have hTl : T.length = u := by rw [hT, List.length_take]; omega
          rw [hl, ← hTl, List.drop_left]
        have hz := getI_enc 0 (Y ++ l.drop (l.take u ++ (encInt 0 ++ Y)).length) (by decide) (by decide)
        unfold bad2q cut2 at hq
        rw [hd, hz] at hq
        dsimp only at hq
        omega
    · rw [if_neg h, if_neg (by rintro (h' | h' | h' | h' | h' | h') <;> simp_all)]
end Go.Proofs.Ytphabdlcjpfbaaa
