/- The tops of a one-time key's chains (the closure that leaf is given), and leaf over them. Conditions: digests of 16 bytes, indices of 64 bits. -/
import Derived.Test.YtkjckmdiolgmcaaDoorSgB
import Derived.Deep.DeepCutAuto
import Derived.Deep.CutBlock
set_option linter.unusedSimpArgs false
set_option linter.unusedVariables false
namespace Go.Proofs.YtkjckmdiolgmcaaDoor
open Go.RowKit
def topD (seed : ByteArray) (k c : Int) : List Int := advD k c 0 3 (startD seed k c)
theorem topD_dig (seed : ByteArray) (k c : Int) : Dig (topD seed k c) := advD_dig (startD_dig _ _ _) 3
set_option maxHeartbeats 4000000 in
set_option maxRecDepth 100000 in
theorem chain_any (seed : ByteArray) (k ch : Int) (kb sb : Nat) (w : World) (hs : seed.size ≤ 1000000) (hk : I64 k) (hc : I64 ch) (hK : KTab w) (h1 : w.cell? ⟨kb, 0, none⟩ = some (.int .i64 k)) (h2 : w.cell? ⟨sb, 0, none⟩ = some (.string seed)) (b1 : kb < w.heap.size) (b2 : sb < w.heap.size) :
    Calls Tryd.prog 28 #[.int .i64 ch, .pointer (some ⟨kb, 0, none⟩), .pointer (some ⟨sb, 0, none⟩)] w fun e w' => e = .returned (.agg (u8s (topD seed k ch)).toArray) ∧ Ext w w' := by
  have HK := Lib.hid hK; have H1 := Lib.hid h1; have H2 := Lib.hid h2
  have HST : Hid (∀ W, KTab W → Calls Tryd.prog 19 #[.string seed, .int .i64 k, .int .i64 ch] W fun e w' => e = .returned (.agg (u8s (startD seed k ch)).toArray) ∧ Ext W w') := Lib.hid (fun W hW => start_any seed k ch W hs hk hc hW)
  have HAD : Hid (∀ W, KTab W → Calls Tryd.prog 18 #[.int .i64 k, .int .i64 ch, .int .i64 0, .int .i64 3, .agg (u8s (startD seed k ch)).toArray] W fun e w' => e = .returned (.agg (u8s (topD seed k ch)).toArray) ∧ Ext W w') := Lib.hid (fun W hW => advance_any k ch 0 3 (startD seed k ch) W hk hc (by decide) (by decide) (startD_dig _ _ _) hW)
  have HTL : Hid ((topD seed k ch).length = 16) := Lib.hid (topD_dig _ _ _).l
  clear hK h1 h2
  generalize startD seed k ch = D1 at *
  generalize topD seed k ch = D2 at *
  go_enter Tryd.func28, Tryd.ntmps28
  go_upto_region 1 with fail
  obtain ⟨w3, hw3⟩ : ∃ x, x = w.alloc (.cells (u8s (List.replicate 16 0)).toArray 23) := ⟨_, rfl⟩
  change Code.wp _ _ _ _ (w.alloc (.cells (u8s (List.replicate 16 0)).toArray 23))
  rw [← hw3]
  have BZ : Hid (Blk w3 w.heap.size 23 (u8s (List.replicate 16 0))) := Lib.hid (by rw [hw3]; exact Blk.fresh' _ _ _ _ _ rfl rfl)
  have E3 : Hid (Ext w w3) := Lib.hid (by rw [hw3]; exact (Ext.refl w).alloc _)
  clear hw3
  refine wp_region_flowF 7 ?FW1 (fun us => ?_) (by kernel_rfl) (by kernel_rfl) (fun a b => Ext a b) Ext.refl (fun h1 h2 => h1.next h2) (fun i v W => match i with
    | 0 => v = .int .i64 k
    | 1 => v = .int .i64 ch
    | 2 => v = .string seed
    | 3 => v = .int .i64 k
    | 4 => v = .int .i64 ch
    | 5 => v = .agg (u8s D1).toArray
    | 6 => v = .agg (u8s D2).toArray
    | _ => True) ?_ ?_
  case refine_1 =>
    simp only [List.take_succ_cons, List.take_zero, flowAct, Nat.zero_add, Nat.reduceAdd, Act.put, List.setIfInBounds_toArray, List.set_cons_succ, List.set_cons_zero]
    rfl
  · simp only [List.take_succ_cons, List.take_zero, flowStepsF]
    refine ⟨?_, ?_, ?_, ?_, ?_, ?_, ?_, trivial⟩
    · intro us W K hE hd hK
      have xk := ((E3.out.next (sg_undrew hE)).cell (p := ⟨kb, 0, none⟩) b1).trans H1.out
      dsimp only at hK ⊢
      have HK := Lib.hid hK; have HE := Lib.hid hE
      clear hK hd hE
      go_wp2_with fail
      exact K_at (HK.out (.int .i64 k) W (fun _ _ => rfl) (Ext.refl W)) (by kernel_rfl)
    · intro us W K hE hd hK
      dsimp only at hK ⊢
      have HK := Lib.hid hK; have HE := Lib.hid hE
      clear hK hd hE
      go_wp2_with fail
      exact K_at (HK.out (.int .i64 ch) W (fun _ _ => rfl) (Ext.refl W)) (by kernel_rfl)
    · intro us W K hE hd hK
      have xs := ((E3.out.next (sg_undrew hE)).cell (p := ⟨sb, 0, none⟩) b2).trans H2.out
      dsimp only at hK ⊢
      have HK := Lib.hid hK; have HE := Lib.hid hE
      clear hK hd hE
      go_wp2_with fail
      exact K_at (HK.out (.string seed) W (fun _ _ => rfl) (Ext.refl W)) (by kernel_rfl)
    · intro us W K hE hd hK
      have xk := ((E3.out.next (sg_undrew hE)).cell (p := ⟨kb, 0, none⟩) b1).trans H1.out
      dsimp only at hK ⊢
      have HK := Lib.hid hK; have HE := Lib.hid hE
      clear hK hd hE
      go_wp2_with fail
      exact K_at (HK.out (.int .i64 k) W (fun _ _ => rfl) (Ext.refl W)) (by kernel_rfl)
    · intro us W K hE hd hK
      dsimp only at hK ⊢
      have HK := Lib.hid hK; have HE := Lib.hid hE
      clear hK hd hE
      go_wp2_with fail
      exact K_at (HK.out (.int .i64 ch) W (fun _ _ => rfl) (Ext.refl W)) (by kernel_rfl)
    · intro us W K hE hd hK
      have d2 := hd 2 (by kernel_rfl)
      have d3 := hd 3 (by kernel_rfl)
      have d4 := hd 4 (by kernel_rfl)
      have KW := Lib.hid (HK.out.below (E3.out.next (sg_undrew hE)))
      dsimp only at hK ⊢
      rw [d2, d3, d4] at hK ⊢
      have HK := Lib.hid hK; have HE := Lib.hid hE
      clear hK hd hE d2 d3 d4
      go_wp2_with (go_loud (go_at_call 19; (with_reducible refine (HST.out W KW.out).mono ?_); rintro e w6 ⟨rfl, hB6⟩))
      exact K_at (HK.out (.agg (u8s D1).toArray) w6 (fun _ _ => rfl) hB6) (by kernel_rfl)
    · intro us W K hE hd hK
      have d0 := hd 0 (by kernel_rfl)
      have d1 := hd 1 (by kernel_rfl)
      have d5 := hd 5 (by kernel_rfl)
      have KW := Lib.hid (HK.out.below (E3.out.next (sg_undrew hE)))
      dsimp only at hK ⊢
      rw [d0, d1, d5] at hK ⊢
      have HK := Lib.hid hK; have HE := Lib.hid hE
      clear hK hd hE d0 d1 d5
      go_wp2_with (go_loud (go_at_call 18; (with_reducible refine (HAD.out W KW.out).mono ?_); rintro e w6 ⟨rfl, hB6⟩))
      exact K_at (HK.out (.agg (u8s D2).toArray) w6 (fun _ _ => rfl) hB6) (by kernel_rfl)
  · intro us W hE hd
    try dsimp only
    have d6 := hd 6 (by decide)
    simp only [List.drop_succ_cons, List.drop_zero]
    rw [d6]
    have EW := Lib.hid (sg_undrew hE)
    have BZ2 := Lib.hid (BZ.out.ext EW.out)
    clear hd hE d6
    go_wp2_with (refine wpList_store_blk rfl 23 (.tmp 4) (.tmp 11) (by rfl) w.heap.size (u8s D2) rfl rfl BZ2.out (dg_info.trans (congrArg some (by rw [u8s_len, HTL.out]))) (by rw [u8s_len, u8s_len, HTL.out]; rfl) (u8s_one _) ?_; intro w9 hw9 hb9)
    exact bodyPost_ret (results_blk Tryd.results28 _ _ w.heap.size 23 (u8s D2) _ rfl hb9 Tryd.underlying23 rfl (dg_info.trans (congrArg some (by rw [u8s_len, HTL.out])))) rfl ⟨rfl, by rw [hw9.out]; exact (E3.out.next EW.out).setRow (Nat.le_refl _) _⟩
def flatD (val : Nat → List Int) (t : Nat) : List Int := (List.range t).flatMap val
def leafD (val : Nat → List Int) : List Int := ofD 1 [strOf (ofD 3 [strOf (flatD val 68)])]
theorem flatD_succ (val : Nat → List Int) (t : Nat) : flatD val (t + 1) = flatD val t ++ val t := by
  unfold flatD; rw [List.range_succ, List.flatMap_append]; simp
theorem flatD_len (val : Nat → List Int) {t : Nat} (h : ∀ j, j < t → Dig (val j)) : (flatD val t).length = 16 * t := by
  induction t with
  | zero => rfl
  | succ t ih => rw [flatD_succ, List.length_append, ih (fun j hj => h j (by omega)), (h t (by omega)).l]; omega
theorem flatD_byt (val : Nat → List Int) {t : Nat} (h : ∀ j, j < t → Dig (val j)) : Byt (flatD val t) := by
  induction t with
  | zero => exact fun x hx => by simp [flatD] at hx
  | succ t ih => rw [flatD_succ]; exact (ih (fun j hj => h j (by omega))).app (h t (by omega)).b
theorem rd_str1 (W : World) (s : ByteArray) : Rd (W.alloc (.cells #[.string s] 9)) (W.alloc (.cells #[.string s] 9)).heap.size (some ⟨W.heap.size, 0, none⟩) 1 (strs [s]) := (Blk.fresh W 9 [.string s]).rd rfl
set_option maxHeartbeats 8000000 in
set_option maxRecDepth 100000 in
theorem leaf28_any (val : Nat → List Int) (kb sb : Nat) (w : World) (hv : ∀ t, t < 68 → Dig (val t)) (hF : ∀ t : Nat, t < 68 → ∀ W, Ext w W → Calls Tryd.prog 28 #[.int .i64 (t : Int), .pointer (some ⟨kb, 0, none⟩), .pointer (some ⟨sb, 0, none⟩)] W fun e w' => e = .returned (.agg (u8s (val t)).toArray) ∧ Ext W w') (hK : KTab w) :
    Calls Tryd.prog 23 #[.func (.func 28) #[] #[.pointer (some ⟨kb, 0, none⟩), .pointer (some ⟨sb, 0, none⟩)]] w fun e w' => e = .returned (.agg (u8s (leafD val)).toArray) ∧ Ext w w' := by
  have HK := Lib.hid hK; have HF := Lib.hid hF; have HV := Lib.hid hv
  have zz : ∀ W, (zeroValue 23).run Tryd.prog W = .ok (.agg (u8s (List.replicate 16 0)).toArray) W := fun W => by kernel_rfl
  obtain ⟨Z, hZ⟩ : ∃ Z, Z = u8s (List.replicate 16 0) := ⟨_, rfl⟩
  have HZL : Hid (Z.length = 16) := Lib.hid (by rw [hZ]; rfl)
  rw [← hZ] at zz
  clear hK hF hv hZ
  go_enter Tryd.func23, Tryd.ntmps23
  go_upto_region 2 with fail
  obtain ⟨w3, hw3⟩ : ∃ x, x = (w.alloc (.cells Z.toArray 23)).alloc (.cells #[.pointer none, .slice none 0 0] 46) := ⟨_, rfl⟩
  change Code.wp _ _ _ _ ((w.alloc (.cells Z.toArray 23)).alloc (.cells #[.pointer none, .slice none 0 0] 46))
  rw [← hw3]
  have BZ : Hid (Blk w3 w.heap.size 23 Z) := Lib.hid (by rw [hw3]; exact (Blk.fresh' _ _ _ _ _ rfl rfl).alloc _)
  have BB : Hid (Bld w.heap.size w3 (w.heap.size + 1) (flatD val 0)) := Lib.hid (by rw [hw3]; have h := Bld.fresh w.heap.size (w.alloc (.cells Z.toArray 23)) (by simp); rw [World.size_alloc] at h; exact h)
  have E3 : Hid (Ext w w3) := Lib.hid (by rw [hw3]; exact ((Ext.refl w).alloc _).alloc _)
  clear hw3
  go_wp2_with fail
  go_loopw [7] (fun x wr => ∃ t : Nat, t ≤ 68 ∧ x = .int .i64 (t : Int) ∧ Bld w.heap.size wr (w.heap.size + 1) (flatD val t) ∧ Blk wr w.heap.size 23 Z ∧ Ext w wr) (fun x _ => 68 - (intOf x).toNat)
  case atStart => exact ⟨0, by omega, rfl, BB.out, BZ.out, E3.out⟩
  case round =>
    clear BB BZ E3
    obtain ⟨t, ht, rfl, hbb, hbz, hE⟩ := hrel
    have BB := Lib.hid hbb; have BZ := Lib.hid hbz; have E3 := Lib.hid hE
    clear hbb hbz hE
    obtain ⟨wo, rfl⟩ : ∃ x : World, x = wr := ⟨_, rfl⟩
    by_cases hlt : t < 68
    · have HC := Lib.hid (HF.out t hlt wo E3.out)
      have HFS : Hid (flatD val (t + 1) = flatD val t ++ val t) := Lib.hid (flatD_succ val t)
      have HFL : Hid ((flatD val t).length = 16 * t) := Lib.hid (flatD_len val (fun j hj => HV.out j (by omega)))
      have HD := Lib.hid (HV.out t hlt)
      obtain ⟨U, hU⟩ : ∃ U, U = val t := ⟨_, rfl⟩
      have HU := Lib.hid hU
      have HUL : Hid ((u8s U).length = 16) := Lib.hid (by rw [hU, u8s_len]; exact HD.out.l)
      rw [← hU] at HC
      clear hU
      go_wp2_with (first
        | (go_at_call 28; (with_reducible refine HC.out.mono ?_); rintro e w5 ⟨rfl, hE5⟩; have E5 := Lib.hid hE5; clear hE5)
        | ((refine wpList_store_fresh rfl 23 (.tmp 5) (.tmp 12) rfl _ w5.heap.size rfl Z (u8s U) 23 (by rfl) (by rfl) rfl (dg_info.trans (congrArg some HUL.out.symm)) (HZL.out.trans HUL.out.symm) (u8s_one U) ?_); intro w6 hw6 hE6 hz6; have E6 : Hid (Ext wo w6) := Lib.hid (E5.out.next hE6); have B6 := Lib.hid hw6; have HW := Lib.hid (write_any w.heap.size (w.heap.size + 1) (flatD val t) U (some ⟨w5.heap.size, 0, none⟩) 16 16 w6 w (BB.out.ext E6.out) (B6.out.rd HUL.out) (by rw [HFL.out]; omega) rfl (E3.out.next E6.out)); have HZ6 := Lib.hid (BZ.out.ext E6.out); clear hw6 hE6 hz6)
        | (go_at_call 16; (with_reducible refine HW.out.mono ?_); rintro e w7 ⟨rfl, hB7, hE7, hK7⟩; have HB7 := Lib.hid hB7; have E7 := Lib.hid hE7; have Z7 := Lib.hid (hK7 _ _ _ (by omega) (by decide) HZ6.out); clear hB7 hE7 hK7))
      exact ⟨⟨t + 1, by omega, by go_num, by rw [HFS.out, ← HU.out]; exact HB7.out, Z7.out, E7.out⟩, by simp [intOf]; omega⟩
    · obtain rfl : t = 68 := by omega
      obtain ⟨F, hF⟩ : ∃ F, F = flatD val 68 := ⟨_, rfl⟩
      have HFL : Hid (F.length = 1088) := Lib.hid (by rw [hF]; exact flatD_len val (fun j hj => HV.out j hj))
      have HFB : Hid (Byt F) := Lib.hid (by rw [hF]; exact flatD_byt val (fun j hj => HV.out j hj))
      obtain ⟨U, hU⟩ : ∃ U, U = ofD 3 [strOf F] := ⟨_, rfl⟩
      obtain ⟨V, hV⟩ : ∃ V, V = ofD 1 [strOf U] := ⟨_, rfl⟩
      have HLV : Hid (V = leafD val) := Lib.hid (by rw [hV, hU, hF]; rfl)
      have HU : Hid (U = ofD 3 [strOf F]) := Lib.hid hU
      have HV2 : Hid (V = ofD 1 [strOf U]) := Lib.hid hV
      have HUD : Hid (Dig U) := Lib.hid (by rw [hU]; exact ofD_dig _ _)
      have HUL : Hid ((u8s U).length = 16) := Lib.hid (by rw [u8s_len]; exact HUD.out.l)
      have HVL : Hid ((u8s V).length = 16) := Lib.hid (by rw [hV, u8s_len]; exact ofD_len _ _)
      have HEN1 : Hid ((encs [strOf F]).length ≤ 100000000000) := Lib.hid (by
        have h := sg_encB_le (strOf F) (by rw [strOf_size, HFL.out]; decide)
        rw [strOf_size, HFL.out] at h
        simp only [encs, List.append_nil]
        omega)
      have HEN2 : Hid ((encs [strOf U]).length ≤ 100000000000) := Lib.hid (by
        have h := sg_encB_le (strOf U) (by rw [dig_size HUD.out]; decide)
        rw [dig_size HUD.out] at h
        simp only [encs, List.append_nil]
        omega)
      rw [← hF] at BB
      have HSTR := Lib.hid (string_any w.heap.size (w.heap.size + 1) F wo w BB.out HFB.out (by rw [HFL.out]; decide) (by rw [HFL.out]; decide) rfl E3.out)
      clear hF hU hV BB
      have HO1 : Hid (∀ W, Ext w W → Calls Tryd.prog 26 #[.int .i64 3, .slice (some ⟨W.heap.size, 0, none⟩) 1 1] (W.alloc (.cells #[.string (strOf F)] 9)) fun e w' => e = .returned (.agg (u8s U).toArray) ∧ Ext W w') := Lib.hid (fun W hW => (of_any 3 [strOf F] (some ⟨W.heap.size, 0, none⟩) 1 1 _ (rd_str1 W _) (by decide) HEN1.out (HK.out.below (hW.alloc _))).mono fun e w' h => ⟨by rw [h.1, HU.out]; rfl, ((Ext.refl W).alloc _).next h.2⟩)
      have HO2 : Hid (∀ W, Ext w W → Calls Tryd.prog 26 #[.int .i64 1, .slice (some ⟨W.heap.size, 0, none⟩) 1 1] (W.alloc (.cells #[.string (strOf U)] 9)) fun e w' => e = .returned (.agg (u8s V).toArray) ∧ Ext W w') := Lib.hid (fun W hW => (of_any 1 [strOf U] (some ⟨W.heap.size, 0, none⟩) 1 1 _ (rd_str1 W _) (by decide) HEN2.out (HK.out.below (hW.alloc _))).mono fun e w' h => ⟨by rw [h.1, HV2.out]; rfl, ((Ext.refl W).alloc _).next h.2⟩)
      have HCV : Hid (∀ W g, Blk W g 23 (u8s U) → (convert 43 9 (.slice (some ⟨g, 0, none⟩) 16 16)).run Tryd.prog W = .ok (.string (strOf U)) W) := Lib.hid (fun W g hB => run_toStr (P := Tryd.prog) Tryd.underlying43 Tryd.underlying5 Tryd.underlying9 (hB.rd HUL.out) 16 (fun h => by cases h))
      go_wp2_with (first
        | (go_at_call 20; (with_reducible refine HSTR.out.mono ?_); rintro e w5 ⟨rfl, hE5, hZ5⟩; have E5 := Lib.hid hE5; have Z5 := Lib.hid (hZ5 _ _ (by decide) BZ.out); have HOA := Lib.hid (HO1.out w5 hE5); clear hE5 hZ5)
        | (go_at_call 26; (with_reducible refine HOA.out.mono ?_); rintro e w6 ⟨rfl, hE6⟩; have E6 : Hid (Ext w5 w6) := Lib.hid hE6; clear hE6)
        | ((refine wpList_store_fresh rfl 23 (.tmp 6) (.tmp 18) rfl _ w6.heap.size rfl Z (u8s U) 23 (by rfl) (by rfl) rfl (dg_info.trans (congrArg some HUL.out.symm)) (HZL.out.trans HUL.out.symm) (u8s_one U) ?_); intro w7 hw7 hE7 hz7; have E7 : Hid (Ext w w7) := Lib.hid (E5.out.next (E6.out.next hE7)); have hcv := HCV.out w7 _ hw7; have Z7 := Lib.hid (Z5.out.ext (E6.out.next hE7)); have HOB := Lib.hid (HO2.out w7 E7.out); clear hw7 hE7 hz7)
        | (go_at_call 26; (with_reducible refine HOB.out.mono ?_); rintro e w8 ⟨rfl, hE8⟩; have E8 : Hid (Ext w w8) := Lib.hid (E7.out.next hE8); have Z8 := Lib.hid (Z7.out.ext hE8); clear hE8)
        | (refine wpList_store_blk rfl 23 (.tmp 2) (.tmp 22) (by rfl) w.heap.size (u8s V) rfl rfl Z8.out (dg_info.trans (congrArg some HVL.out.symm)) (HZL.out.trans HVL.out.symm) (u8s_one _) ?_; intro w9 hw9 hb9))
      exact bodyPost_ret (results_blk Tryd.results23 _ _ w.heap.size 23 (u8s V) _ rfl hb9 Tryd.underlying23 rfl (dg_info.trans (congrArg some HVL.out.symm))) rfl ⟨by rw [HLV.out], by rw [hw9.out]; exact E8.out.setRow (Nat.le_refl _) _⟩
end Go.Proofs.YtkjckmdiolgmcaaDoor
