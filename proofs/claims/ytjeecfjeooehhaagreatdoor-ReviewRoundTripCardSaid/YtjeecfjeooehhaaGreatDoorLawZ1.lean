/- ReviewRoundTrip: for all arguments the law answers true and leaves them as they were. No condition (the tables are laid). -/
import Derived.Test.YtjeecfjeooehhaaGreatDoorRvX
import Derived.Test.YtjeecfjeooehhaaGreatDoorRwB
import Derived.Test.YtjeecfjeooehhaaGreatDoorRwJ
import Derived.Test.YtjeecfjeooehhaaGreatDoorRwL
import Derived.Test.YtjeecfjeooehhaaGreatDoorRxA
import Derived.Test.YtjeecfjeooehhaaGreatDoorLawZ
set_option linter.unusedSimpArgs false
set_option linter.unusedVariables false
namespace Go.Proofs.YtjeecfjeooehhaaGreatDoor
open Go.RowKit Go.WideShapes Go.ChangeShapes
theorem revOf_W (l : List Int) : RevW (revOf l) := revW_of (by unfold encE; rw [if_pos (revOf_valid l)]; rfl)
set_option maxRecDepth 100000 in
theorem shortN_any (s : ByteArray) (k : Nat) (hk : k ≤ 1000000) (w : World) (hs : s.size ≤ 9223372036854775807) : Calls Tryz.prog 7 #[.string s, .int .i64 (k : Int)] w fun e w' => (∃ t : ByteArray, e = .returned (.string t) ∧ t.size ≤ k) ∧ w = w' := by
  by_cases h : s.size ≤ k
  · have h1 : ¬ (k : Int) < (s.size : Int) := by omega
    go_enter Tryz.func7, Tryz.ntmps7
    go_wp2_with fail
    go_ret
    exact ⟨⟨s, rfl, h⟩, rfl⟩
  · have h1 : (k : Int) < (s.size : Int) := by omega
    go_enter Tryz.func7, Tryz.ntmps7
    go_wp2_with fail
    go_ret
    refine ⟨⟨_, rfl, ?_⟩, rfl⟩
    simp [ByteArray.size_extract]
    omega
theorem encR_pos' (r : Rev) : 0 < (encR r).length := by
  unfold encR encL
  simp only [List.length_append, encInt_length]
  omega
/-- A review's bytes begin with a list of three numbers. -/
theorem ints_no4 {r : Rev} (hw : RevW r) (m : List Int) : intsB (encR r ++ m) false 4 1 = true := by
  have c1 : (cut1 (encR r ++ m)).1 = [r.shop, r.seq, r.day] := by
    have e : encR r ++ m = encL encInt [r.shop, r.seq, r.day] ++ (encInt (wdI r.wd) ++ encL encInt (opsI r.ops) ++ encL idD [r.mean] ++ encB r.sl ++ m) := by
      unfold encR
      simp only [List.append_assoc]
    unfold cut1
    rw [e, encL_cut [r.shop, r.seq, r.day] _ (fun x hx => ?_) (by simp)]
    simp only [List.mem_cons, List.not_mem_nil, or_false] at hx
    rcases hx with rfl | rfl | rfl
    · exact hw.shop
    · exact hw.seq
    · exact hw.day
  unfold intsB
  rw [c1]
  simp
section
attribute [local go_sem ↓] wp_at_zero wp_at_succ
set_option maxHeartbeats 16000000 in
set_option maxRecDepth 100000 in
theorem walk_round (l more : List Int) (A B : Option Addr) (n c m d : Nat) (s : ByteArray) (cut : Int) (w : World) (hl : Rd w w.heap.size A n (l.map (Value.int .i64))) (hwf : ∀ x ∈ l, -9223372036854775808 ≤ x ∧ x ≤ 9223372036854775807) (hs : s.size ≤ 9223372036854775807) (hm : Rd w w.heap.size B m (u8s more)) (hby : Byt more) (hmd : m ≤ d) (hd : d ≤ 9223372036854775807) (hcut : -9223372036854775808 ≤ cut ∧ cut ≤ 9223372036854775807) :
    Calls Tryz.prog 3 #[.slice A n c, .string s, .slice B m d, .int .i64 cut] w fun e w' => e = .returned (.bool true) ∧ Ext w w' := by
  obtain ⟨i0, hi, hz0, hz1, hz2⟩ := info_parts winfo_u8
  have HRV := Lib.hid (review_far l A n c w hl hwf)
  have HSH : Hid (∀ W, Calls Tryz.prog 7 #[.string s, .int .i64 1200] W fun e w' => (∃ t : ByteArray, e = .returned (.string t) ∧ t.size ≤ 1200) ∧ W = w') := Lib.hid (fun W => shortN_any s 1200 (by decide) W hs)
  have hVV := revOf_valid l
  have hWW := revOf_W l
  have hMN := revOf_many l
  obtain ⟨r, hr⟩ : ∃ r, r = revOf l := ⟨_, rfl⟩
  rw [← hr] at HRV hVV hWW hMN
  have HVV := Lib.hid hVV; have HWW := Lib.hid hWW; have HMN := Lib.hid hMN
  obtain ⟨k2, hk2⟩ : ∃ k, k = min m 100 := ⟨_, rfl⟩
  have HF2 : Hid (∀ W, Ext w W → Calls Tryz.prog 9 #[.slice B m d, .int .i64 100] W fun e w' => (∃ A' c', e = .returned (.slice A' k2 c') ∧ w'.ownsRow W.heap.size 5 1 (.slice A' k2 c') k2 (u8s (more.take k2))) ∧ Ext W w') := Lib.hid (fun W hW => fewR_any more B m d 100 k2 W (hm.ext' hW) (by omega) hmd hd (by decide) hk2)
  have HM2 : Hid (Byt (more.take k2)) := Lib.hid (hby.take _)
  have hk100 : k2 ≤ 100 := by omega
  obtain ⟨mm, hmm⟩ : ∃ x, x = more.take k2 := ⟨_, rfl⟩
  have HCUT := Lib.hid hcut
  rw [← hmm] at HF2 HM2
  clear hl hwf hs hm hby hmd hd hr hVV hWW hMN hk2 hcut hmm
  have zz : ∀ W, (zeroValue 28).run Tryz.prog W = .ok (.agg Z0.toArray) W := fun W => by kernel_rfl
  have zp := zero_pat
  go_enter Tryz.func3, Tryz.ntmps3
  go_upto_region 2 with (first
    | (go_at_call 6; (with_reducible refine HRV.out.mono ?_); rintro e w1 ⟨⟨A1, n1, c1, rfl, hv1, hf1⟩, hE1⟩; have V1 := Lib.hid hv1; have E1 := Lib.hid hE1; have L1 : Hid ((revC r A1 n1 c1).length = 22) := Lib.hid (revC_len _ _ _ _ hv1.mean); clear hv1 hf1 hE1)
    | (refine wpList_store_freshw rfl 28 (.tmp 9) (.tmp 23) rfl w1.heap.size rfl Z0 (revC r A1 n1 c1) 28 (by kernel_rfl) (by kernel_rfl) (info_rev.trans (congrArg some L1.out.symm)) (Eq.trans (b := 22) rfl L1.out.symm) (revC_one _ _ _ _) ?_; intro w2 hw2 hE2 hz2; have B2 := Lib.hid hw2; have E12 := Lib.hid hE2; clear hw2 hE2 hz2))
  obtain ⟨g9, hg9⟩ : ∃ g, g = w1.heap.size := ⟨_, rfl⟩
  rw [← hg9] at B2 ⊢
  have HG9 := Lib.hid hg9
  clear hg9
  have c21 : w2.cell? ⟨g9, 21, none⟩ = some (.string r.sl) := (B2.out.cell 21).trans (revC_21 r A1 n1 c1 V1.out.mean)
  have f21 := B2.out.frozen 21
  go_upto_region 3 with (go_at_call 7; (with_reducible refine (HSH.out _).mono ?_); rintro e w9 ⟨⟨sl, rfl, hsl⟩, rfl⟩; have HSL := Lib.hid hsl; clear hsl)
  obtain ⟨w3, hw3⟩ : ∃ x, x = w2.setCell ⟨g9, 21, none⟩ (.string sl) := ⟨_, rfl⟩
  rw [← hw3]
  obtain ⟨r2, hr2⟩ : ∃ q : Rev, q = { r with sl := sl } := ⟨_, rfl⟩
  have B3 : Hid (Blk w3 g9 28 (revC r2 A1 n1 c1)) := Lib.hid (by
    rw [hw3, hr2]
    have h := B2.out.set 21 (.string sl)
    rw [revC_set21 r A1 n1 c1 sl V1.out.mean] at h
    exact h)
  have K23 : Hid (Kept (fun b => b = g9) w2 w3) := Lib.hid (by rw [hw3]; exact Kept.setCell (F := fun b => b = g9) (p := ⟨g9, 21, none⟩) w2 rfl _)
  have E3 : Hid (Ext w w3) := Lib.hid (ext_kept (E1.out.next E12.out) K23.out (fun b hb => by rw [hb, HG9.out]; exact E1.out.size))
  have V3 : Hid (∀ W, Ext w3 W → RevV W r2 A1 n1 c1) := Lib.hid (fun W hW => by
    have h1 : RXV w1 ⟨r, A1, n1, c1⟩ := V1.out
    have h3 : RXV w3 ⟨r, A1, n1, c1⟩ := RXV.kept (RXV.ext h1 E12.out) K23.out (fun a h0 hA e => by
      have h := RXV.in h1 h0 hA
      rw [e, HG9.out] at h
      exact Nat.lt_irrefl _ h)
    rw [hr2]
    exact (⟨h3.row, h3.le, h3.cap, h3.few, h3.mean, h3.mbyt⟩ : RevV w3 { r with sl := sl } A1 n1 c1).ext hW)
  have HEZ : Hid (encE r2 = 0) := Lib.hid (by
    have h1 : validE r2 = 0 := by rw [hr2]; exact HVV.out
    have h2 : ¬ 1200 < r2.sl.size := by rw [hr2]; have := HSL.out; show ¬ 1200 < sl.size; omega
    unfold encE
    rw [if_pos h1, if_neg h2])
  have HRW : Hid (RevW r2) := Lib.hid (revW_of HEZ.out)
  have HMEAN : Hid (r2.mean.length = 16 ∧ Byt r2.mean) := Lib.hid ⟨(V3.out w3 (Ext.refl _)).mean, (V3.out w3 (Ext.refl _)).mbyt⟩
  have L3 : Hid ((revC r2 A1 n1 c1).length = 22) := Lib.hid (revC_len _ _ _ _ HMEAN.out.1)
  have hELE := encR_le r2 (V3.out w3 (Ext.refl _)) HRW.out
  have hEPO := encR_pos' r2
  have HEBY : Hid (Byt (encR r2)) := Lib.hid (encR_byt HRW.out HMEAN.out.1 HMEAN.out.2)
  have HENC : Hid (Calls Tryz.prog 8 #[.agg (revC r2 A1 n1 c1).toArray] w3 fun e w' => (∃ A' c', e = .returned (.tuple #[.slice A' (encR r2).length c', .int .i64 0]) ∧ w'.ownsRow w3.heap.size 5 1 (.slice A' (encR r2).length c') (encR r2).length (u8s (encR r2))) ∧ Ext w3 w') := Lib.hid (by
    have h := encodeX_any r2 A1 n1 c1 w3 (V3.out w3 (Ext.refl _))
    have hX : encX r2 = encR r2 := by unfold encX; rw [if_pos HEZ.out]
    rw [hX, HEZ.out] at h
    exact h)
  -- the bytes
  have HDE : Hid (∀ mm : List Int, decF (readP (encR r2 ++ mm)) (encR r2 ++ mm) = some r2) := Lib.hid (dec_enc HEZ.out HMEAN.out.1)
  have HDS : Hid (∀ k, k < (encR r2).length → decF (readP ((encR r2).take k)) ((encR r2).take k) = none) := Lib.hid (dec_short HEZ.out HMEAN.out.1 HMEAN.out.2)
  have HPB : Hid (intsB (encR r2 ++ mm) false 4 1 = true) := Lib.hid (ints_no4 HRW.out mm)
  obtain ⟨X, hX⟩ : ∃ X, X = encR r2 := ⟨_, rfl⟩
  have HSAM : Hid (∀ W A4 n4 c4, Ext w3 W → RevV W r2 A4 n4 c4 → Calls Tryz.prog 11 #[.agg (revC r2 A4 n4 c4).toArray, .agg (revC r2 A1 n1 c1).toArray] W fun e w' => e = .returned (.bool true) ∧ Ext W w') := Lib.hid (fun W A4 n4 c4 hW hv => by
    have h := rsame_any r2 r2 A4 A1 n4 c4 n1 c1 W hv HRW.out (V3.out W hW) HRW.out
    rw [decide_eq_true rfl] at h
    exact h)
  rw [← hX] at hELE hEPO HEBY HENC HDE HDS HPB
  obtain ⟨nx, hnx⟩ : ∃ k, k = X.length := ⟨_, rfl⟩
  have HNX := Lib.hid hnx
  rw [← hnx] at hELE hEPO HENC HDS
  have hdec : ∀ (Y : List Int) (Ay : Option Addr) (ny cy : Nat) (W : World), Rd W W.heap.size Ay ny (u8s Y) → Byt Y → ny ≤ cy → cy ≤ 9223372036854775807 → ny ≤ 1000000000000 → Calls Tryz.prog 10 #[.slice Ay ny cy] W fun e w' => (∃ A' n' c', e = .returned (.tuple #[.agg (revC ((decF (readP Y) Y).getD rev0) A' n' c').toArray, .int .i64 (decN (decF (readP Y) Y)), .int .i64 (decC (decF (readP Y) Y))]) ∧ RevV w' ((decF (readP Y) Y).getD rev0) A' n' c' ∧ ∀ a, A' = some a → W.heap.size ≤ a.block) ∧ Ext W w' := fun Y Ay ny cy W h1 h2 h3 h4 h5 => decode_any (readP Y) Y Ay ny cy W h1 h2 h3 h4 h5 (fun W2 hW2 => read_any Y Ay ny cy W2 (h1.ext' hW2) h2 h3 h4 h5)
  have HD1 : Hid (∀ (Ay : Option Addr) (cy : Nat) (W : World), Rd W W.heap.size Ay (nx + k2) (u8s (X ++ mm)) → nx + k2 ≤ cy → cy ≤ 9223372036854775807 → Calls Tryz.prog 10 #[.slice Ay (nx + k2) cy] W fun e w' => (∃ A' n' c', e = .returned (.tuple #[.agg (revC r2 A' n' c').toArray, .int .i64 (nx : Int), .int .i64 0]) ∧ RevV w' r2 A' n' c') ∧ Ext W w') := Lib.hid (fun Ay cy W h1 h2 h3 => by
    have h := hdec (X ++ mm) Ay (nx + k2) cy W h1 (byt_app HEBY.out HM2.out) h2 h3 (by omega)
    rw [HDE.out mm] at h
    refine h.mono ?_
    rintro e w' ⟨⟨A', n', c', he, hv, _⟩, hE⟩
    refine ⟨⟨A', n', c', ?_, hv⟩, hE⟩
    rw [he]
    unfold decN decC
    dsimp only
    rw [← hX, ← hnx]
    rfl)
  have HD2 : Hid (∀ (k : Nat) (Ay : Option Addr) (cy : Nat) (W : World), k < nx → Rd W W.heap.size Ay k (u8s (X.take k)) → k ≤ cy → cy ≤ 9223372036854775807 → Calls Tryz.prog 10 #[.slice Ay k cy] W fun e w' => (∃ A' n' c', e = .returned (.tuple #[.agg (revC rev0 A' n' c').toArray, .int .i64 0, .int .i64 2])) ∧ Ext W w') := Lib.hid (fun k Ay cy W hk h1 h2 h3 => by
    have h := hdec (X.take k) Ay k cy W h1 (HEBY.out.take _) h2 h3 (by omega)
    rw [HDS.out k hk] at h
    refine h.mono ?_
    rintro e w' ⟨⟨A', n', c', he, hv, _⟩, hE⟩
    exact ⟨⟨A', n', c', he⟩, hE⟩)
  clear hr2 hw3 hX hnx hdec HDE HDS HVV HWW HMN HSL c21 f21 K23 B2 V1 E1 E12 L1 HG9 HRV HSH HEZ HRW HMEAN
  go_upto_region 4 with (first
    | (refine wpList_load_blk rfl 28 (.tmp 9) rfl g9 (by kernel_rfl) B3.out Tryz.underlying28 rfl (info_rev.trans (congrArg some L3.out.symm)) ?_)
    | (go_at_call 8; (with_reducible refine HENC.out.mono ?_); rintro e w4 ⟨⟨A10, c10, rfl, ho4⟩, hE4⟩; have HO4 := Lib.hid ho4; have E34 := Lib.hid hE4; clear ho4 hE4))
  obtain ⟨g10, hA10, hg10a, hg10b⟩ := own_nil HO4.out hEPO
  subst hA10
  have hcp4 := slice_cap HO4.out
  unfold maxLen at hcp4
  obtain ⟨hc10, hc10b⟩ := hcp4
  have HR10 : Hid (∀ W, Ext w4 W → Rd W W.heap.size (some ⟨g10, 0, none⟩) nx (u8s X)) := Lib.hid (fun W hW => (Rd.of_own HO4.out).ext' hW)
  have HF1 : Hid (∀ W, Ext w4 W → Calls Tryz.prog 9 #[.slice (some ⟨g10, 0, none⟩) nx c10, .int .i64 (nx : Int)] W fun e w' => (∃ A' c', e = .returned (.slice A' nx c') ∧ w'.ownsRow W.heap.size 5 1 (.slice A' nx c') nx (u8s X)) ∧ Ext W w') := Lib.hid (fun W hW => by
    have h := fewR_any X (some ⟨g10, 0, none⟩) nx c10 nx nx W (HR10.out W hW) (by omega) hc10 hc10b (by omega) (by omega)
    rw [List.take_of_length_le (by rw [← HNX.out]; exact Nat.le_refl _)] at h
    exact h)
  have E4 : Hid (Ext w w4) := Lib.hid (E3.out.next E34.out)
  clear HO4 hg10a hg10b HENC
  go_upto_region 5 with (first
    | (go_at_call 9; (with_reducible refine (HF1.out w4 (Ext.refl _)).mono ?_); rintro e w5 ⟨⟨A35, c35, rfl, ho5⟩, hE5⟩; have HO5 := Lib.hid ho5; have E45 := Lib.hid hE5; have E5 := Lib.hid (E4.out.next hE5); clear ho5 hE5)
    | (go_at_call 9; (with_reducible refine (HF2.out w5 E5.out).mono ?_); rintro e w6 ⟨⟨A37, c37, rfl, ho6⟩, hE6⟩; have HO6 := Lib.hid ho6; have E46 := Lib.hid (E45.out.next hE6); have HO56 : Hid (w6.ownsRow w4.heap.size 5 1 (.slice A35 nx c35) nx (u8s X)) := Lib.hid ((Kept.of_ext (F := fun _ => False) hE6).own HO5.out (fun _ _ h => h)); clear ho6 hE6)
    | (at_builtin; refine wpList_app rfl (.tmp 35) (.tmp 37) 23 rfl w4.heap.size 5 i0 (.int .u8 0) 1 1 Tryz.underlying23 hi hz0 hz1 hz2 rfl (by omega) A35 nx c35 (u8s X) (by kernel_rfl) HO56.out w6.heap.size A37 k2 c37 (u8s mm) (by kernel_rfl) (RdN.of_Rd (Rd.of_own HO6.out)) (u8s_one _) (by simp only [maxLen]; omega) (by omega) E46.out.size ?_; intro A12 c12 w7 ho7 hg7; have HO7 := Lib.hid ho7; have E47 : Hid (Ext w4 w7) := Lib.hid (below_app E46.out hg7 HO56.out (Nat.le_refl _) E46.out.size); clear ho7 hg7))
  have hcp7 := slice_cap HO7.out
  unfold maxLen at hcp7
  obtain ⟨hc12, hc12b⟩ := hcp7
  have HR12 : Hid (∀ W, Ext w7 W → Rd W W.heap.size A12 (nx + k2) (u8s (X ++ mm))) := Lib.hid (fun W hW => by
    have h := (Rd.of_own HO7.out).ext' hW
    unfold u8s at h ⊢
    rw [List.map_append]
    exact h)
  have HY12 : Hid (Byt (X ++ mm)) := Lib.hid (byt_app HEBY.out HM2.out)
  have HPD : Hid (∀ W, Ext w7 W → Calls Tryz.prog 13 #[.slice A12 (nx + k2) c12] W fun e w' => e = .returned (.tuple #[.agg P0.toArray, .int .i64 0, .int .i64 2]) ∧ Ext W w') := Lib.hid (fun W hW => pdecode_bad (X ++ mm) A12 (nx + k2) c12 W (HR12.out W hW) HY12.out hc12 hc12b (by omega) HPB.out)
  have HDX := Lib.hid (HD1.out A12 c12 w7 (HR12.out w7 (Ext.refl _)) hc12 hc12b)
  have E37 : Hid (Ext w3 w7) := Lib.hid (E34.out.next E47.out)
  have B7 := Lib.hid (B3.out.ext E37.out)
  have E7 : Hid (Ext w w7) := Lib.hid (E3.out.next E37.out)
  clear HO5 HO6 HO56 HO7 HF1 HF2 E46 E45 E5 E4
  go_upto_region 8 with (first
    | (go_at_call 10; (with_reducible refine HDX.out.mono ?_); rintro e w8 ⟨⟨A13, n13, c13, rfl, hv8⟩, hE8⟩; have V8 := Lib.hid hv8; have E78 := Lib.hid hE8; have L13 : Hid ((revC r2 A13 n13 c13).length = 22) := Lib.hid (revC_len _ _ _ _ hv8.mean); have B8 := Lib.hid (B7.out.ext hE8); clear hv8 hE8)
    | (refine wpList_store_freshw rfl 28 (.tmp 13) (.tmp 42) rfl w8.heap.size rfl Z0 (revC r2 A13 n13 c13) 28 (by kernel_rfl) (by kernel_rfl) (info_rev.trans (congrArg some L13.out.symm)) (Eq.trans (b := 22) rfl L13.out.symm) (revC_one _ _ _ _) ?_; intro w9 hw9 hE9 hz9; have B13 := Lib.hid hw9; have B9 := Lib.hid (B8.out.ext hE9); have V9 := Lib.hid (RevV.ext V8.out hE9); have E79 := Lib.hid (E78.out.next hE9); have hnx0 : ((nx : Int) == 0) = false := (by simp; omega); have hnxn : ((nx : Int) != (nx : Int)) = false := (by simp); have HSX := Lib.hid (HSAM.out w9 A13 n13 c13 (E37.out.next E79.out) V9.out); clear hw9 hE9 hz9)
    | (refine wpList_load_want (by rfl) 28 (.tmp 13) rfl w8.heap.size (by kernel_rfl) B13.out Tryz.underlying28 rfl (info_rev.trans (congrArg some L13.out.symm)) ?_)
    | (refine wpList_load_want (by rfl) 28 (.tmp 9) rfl g9 (by kernel_rfl) B9.out Tryz.underlying28 rfl (info_rev.trans (congrArg some L3.out.symm)) ?_)
    | (go_at_call 11; (with_reducible refine HSX.out.mono ?_); rintro e w10 ⟨rfl, hE10⟩; have E710 := Lib.hid (E79.out.next hE10); clear hE10))
  have hk := aroI_bd cut (nx : Int) (by omega)
  obtain ⟨k, hkk⟩ : ∃ k, k = (aroI cut nx).toNat := ⟨_, rfl⟩
  have HAR : Hid (∀ W, Calls Tryz.prog 12 #[.int .i64 cut, .int .i64 (nx : Int)] W fun e w' => e = .returned (.int .i64 (k : Int)) ∧ W = w') := Lib.hid (fun W => by rw [hkk, Int.toNat_of_nonneg hk.1]; exact around_any cut nx W HCUT.out.1 HCUT.out.2 (by omega) (by omega))
  have hkn : k < nx := by omega
  clear hk hkk
  have E410 : Hid (Ext w4 w10) := Lib.hid (E47.out.next E710.out)
  have HRK : Hid (Rd w10 w10.heap.size (some ⟨g10, 0, none⟩) k (u8s (X.take k))) := Lib.hid (rd_take (HR10.out w10 E410.out) (Nat.le_of_lt hkn))
  have hkc : k ≤ c10 := by omega
  have HDK := Lib.hid (HD2.out k (some ⟨g10, 0, none⟩) c10 w10 hkn HRK.out hkc hc10b)
  have R0L : Hid (∀ A n c, (revC rev0 A n c).length = 22) := Lib.hid (fun _ _ _ => rfl)
  have EA : Hid (Ext w7 w10) := E710
  go_wp2_with (first
    | (go_at_call 12; (with_reducible refine (HAR.out _).mono ?_); rintro e w12 ⟨rfl, rfl⟩)
    | (go_at_call 10; (with_reducible refine HDK.out.mono ?_); rintro e w11 ⟨⟨A16, n16, c16, rfl⟩, hE11⟩; have EA := Lib.hid (EA.out.next hE11); clear hE11)
    | (refine wpList_store_freshw rfl 28 (.tmp 16) (.tmp 75) rfl w11.heap.size rfl Z0 (revC rev0 A16 n16 c16) 28 (by kernel_rfl) (by kernel_rfl) (info_rev.trans (congrArg some (R0L.out _ _ _).symm)) (Eq.trans (b := 22) rfl (R0L.out _ _ _).symm) (revC_one _ _ _ _) ?_; intro w13 hw13 hE13 hz13; have EA := Lib.hid (EA.out.next hE13); clear hw13 hE13 hz13)
    | (go_at_call 13; (with_reducible refine (HPD.out w13 EA.out).mono ?_); rintro e w14 ⟨rfl, hE14⟩; have EA := Lib.hid (EA.out.next hE14); clear hE14)
    | (refine wpList_store_freshw rfl 42 (.tmp 19) (.tmp 81) rfl w14.heap.size rfl P0 P0 42 (by kernel_rfl) (by kernel_rfl) (info_pat.trans rfl) rfl (patC_one _ _ _ _ _ _ _ _ _ _ _) ?_; intro w15 hw15 hE15 hz15; have EA := Lib.hid (EA.out.next hE15); clear hw15 hE15 hz15)
    | (go_at_call 14; (with_reducible refine (lives_any _).mono ?_); rintro e w16 ⟨rfl, hE16⟩; have EA := Lib.hid (EA.out.next hE16); clear hE16))
  go_ret
  exact ⟨rfl, E7.out.next EA.out⟩
end
end Go.Proofs.YtjeecfjeooehhaaGreatDoor
