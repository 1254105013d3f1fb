/- The walks of hash.mix, hash.schedule and what they call. No condition. -/
import Derived.Test.YtkjckmdiolgmcaaDoorProg
import Derived.Test.YtkjckmdiolgmcaaDoorHashSpec
set_option linter.unusedSimpArgs false
set_option linter.unusedVariables false
namespace Go.Proofs.YtkjckmdiolgmcaaDoor
open Go.RowKit
set_option maxHeartbeats 400000 in
theorem rotl_any (x : Int) (k s : Int) (w : World) (hs : bits .and .u64 (IntKind.u64.wrap k) 31 = s) (h0 : 1 ≤ s) (h1 : s ≤ 31) :
    Calls Tryd.prog 43 #[.int .u32 x, .int .i64 k] w fun e w' => e = .returned (.int .u32 (rot x s)) ∧ w = w' := by
  go_enter Tryd.func43, Tryd.ntmps43
  go_wp2
  go_ret
  exact ⟨rfl, rfl⟩
theorem neg_and : ∀ i : Fin 32, 1 ≤ i.val → bits .and .u64 (IntKind.u64.wrap (-(i.val : Int))) 31 = 32 - (i.val : Int) := by decide
theorem neg_and' (i : Int) (h0 : 1 ≤ i) (h1 : i ≤ 31) : bits .and .u64 (IntKind.u64.wrap (-i)) 31 = 32 - i := by
  obtain ⟨n, rfl⟩ := Int.eq_ofNat_of_zero_le (show 0 ≤ i by omega)
  exact neg_and ⟨n, by omega⟩ (by show 1 ≤ n; omega)
theorem rotl_neg (x : Int) (i : Int) (w : World) (h0 : 1 ≤ i) (h1 : i ≤ 31) :
    Calls Tryd.prog 43 #[.int .u32 x, .int .i64 (-i)] w fun e w' => e = .returned (.int .u32 (rot x (32 - i))) ∧ w = w' :=
  rotl_any x _ (32 - i) w (neg_and' i h0 h1) (by omega) (by omega)
set_option maxHeartbeats 400000 in
theorem mix_any (x i j k : Int) (w : World) (i0 : 1 ≤ i) (i1 : i ≤ 31) (j0 : 1 ≤ j) (j1 : j ≤ 31) (k0 : 1 ≤ k) (k1 : k ≤ 31) :
    Calls Tryd.prog 42 #[.int .u32 x, .int .i64 i, .int .i64 j, .int .i64 k] w fun e w' => e = .returned (.int .u32 (mixI x i j k)) ∧ w = w' := by
  go_enter Tryd.func42, Tryd.ntmps42
  go_wp2_with fail
  with_reducible refine (rotl_neg x i _ i0 i1).mono ?_
  rintro e w1 ⟨rfl, rfl⟩
  go_wp2_with fail
  with_reducible refine (rotl_neg x j _ j0 j1).mono ?_
  rintro e w1 ⟨rfl, rfl⟩
  go_wp2_with fail
  with_reducible refine (rotl_neg x k _ k0 k1).mono ?_
  rintro e w1 ⟨rfl, rfl⟩
  go_wp2_with fail
  go_ret
  exact ⟨rfl, rfl⟩
/-- The schedule's block behind t rounds. -/
def schedCells (l : List Int) (t : Nat) : List Value := u32s (wl l t ++ List.replicate (64 - t) 0)
theorem schedCells_get (l : List Int) (t j : Nat) (h : j < t) : (schedCells l t)[j]? = some (.int .u32 ((wl l t).getD j 0)) := by
  unfold schedCells
  rw [u32s_get _ _ (by simp [wl_length]; omega), List.getD_eq_getElem?_getD, List.getElem?_append_left (by rw [wl_length]; exact h), ← List.getD_eq_getElem?_getD]
theorem schedCells_zero (l : List Int) (t : Nat) (h : t < 64) : (schedCells l t)[t]? = some (.int .u32 0) := by
  unfold schedCells
  rw [u32s_get _ _ (by simp [wl_length]; omega), List.getD_eq_getElem?_getD, List.getElem?_append_right (by rw [wl_length]; omega)]
  simp [wl_length, List.getElem?_replicate]
  split <;> rfl
theorem schedCells_succ (l : List Int) (t : Nat) (h : t < 64) (x : Int) (hx : x = nextW l (wl l t) t) : (schedCells l t).set t (.int .u32 x) = schedCells l (t + 1) := by
  subst hx
  unfold schedCells u32s
  rw [List.map_append, List.set_append_right _ _ (by simp [wl_length])]
  obtain ⟨n, hn⟩ : ∃ n, 64 - t = n + 1 := ⟨63 - t, by omega⟩
  rw [hn, show 64 - (t + 1) = n from by omega]
  simp [wl_length, wl, List.replicate_succ]
theorem nextW_hi (l ws : List Int) (t : Nat) (h : ¬ t < 16) : (ws.getD (t - 16) 0 + xor32 (xor32 (rot (ws.getD (t - 15) 0) 25) (rot (ws.getD (t - 15) 0) 14)) (ws.getD (t - 15) 0 / 8) + ws.getD (t - 7) 0 + xor32 (xor32 (rot (ws.getD (t - 2) 0) 15) (rot (ws.getD (t - 2) 0) 13)) (ws.getD (t - 2) 0 / 1024)) % 4294967296 = nextW l ws t := by
  unfold nextW
  rw [if_neg h]
  rfl
theorem info_64u32 : (Tryd.prog.info? 85).map (·.size) = some 64 := by kernel_rfl
theorem schedCells_set2 (l : List Int) (t : Nat) (x y : Value) : ((schedCells l t).set t x).set t y = (schedCells l t).set t y := by simp
set_option maxHeartbeats 1000000 in
set_option maxRecDepth 100000 in
theorem schedule_any (l : List Int) (g o c : Nat) (w : World) (_hl : l.length = 64) (hc : ∀ j, j < 64 → w.cell? ⟨g, o + j, none⟩ = some (.int .u8 (l.getD j 0))) (hb : Byt l) (hcap : 64 ≤ c) (hcm : c ≤ 9223372036854775807) :
    Calls Tryd.prog 41 #[.slice (some ⟨g, o, none⟩) 64 c] w fun e w' => e = .returned (.agg (u32s (wl l 64)).toArray) ∧ Below w.heap.size w w' := by
  have hg : g < w.heap.size := World.block_lt_of_cell? w _ (hc 0 (by omega))
  go_enter Tryd.func41, Tryd.ntmps41
  go_wp2_with fail
  go_loopw [11] (fun i wr => ∃ t : Nat, t ≤ 64 ∧ i = .int .i64 t ∧ Blk wr (w.heap.size + 1) 85 (schedCells l t) ∧ Blk wr w.heap.size 85 (schedCells l 0) ∧ Below w.heap.size w wr)
    (fun i _ => 64 - (intOf i).toNat)
  case atStart => exact ⟨0, by omega, rfl, Blk.fresh' _ _ _ _ _ rfl (by simp), (Blk.fresh' _ _ _ _ _ rfl rfl).alloc _, ((Below.refl _ _).alloc (Nat.le_refl _) _).alloc (by simp) _⟩
  case round =>
    obtain ⟨t, ht, rfl, hW, hR, hB⟩ := hrel
    have HW := Lib.hid hW; have HR := Lib.hid hR
    by_cases hlt : t < 64
    · by_cases h16 : t < 16
      · clear hW hR
        obtain ⟨wo, rfl⟩ : ∃ wo : World, wo = wr := ⟨_, rfl⟩
        go_wp2_with fail
        go_loopw [24] (fun i wq => ∃ j : Nat, j ≤ 4 ∧ i = .int .i64 j ∧ Blk wq (w.heap.size + 1) 85 ((schedCells l t).set t (.int .u32 (accW l t j))) ∧ Blk wq w.heap.size 85 (schedCells l 0) ∧ Below w.heap.size w wq)
          (fun i _ => 4 - (intOf i).toNat)
        case atStart =>
          refine ⟨0, by omega, rfl, ?_, HR.out, hB⟩
          rw [show (schedCells l t).set t (Value.int .u32 (accW l t 0)) = schedCells l t from set_same (schedCells_zero l t hlt)]
          exact HW.out
        case round =>
          obtain ⟨j, hj, rfl, hW, hR2, hB2⟩ := hrel
          have HW2 := Lib.hid hW
          have HR2 := Lib.hid hR2
          clear hR2
          by_cases hj4 : j < 4
          · have hx := (hB2.cell (p := ⟨g, o + (4 * t + j), none⟩) hg).trans (hc (4 * t + j) (by omega))
            rw [← Nat.add_assoc] at hx
            have c0 : wr.cell? ⟨w.heap.size + 1, t, none⟩ = some (.int .u32 (accW l t j)) := by
              rw [hW.cell t, List.getElem?_set_self (by simp [schedCells, u32s, wl_length]; omega)]
            have fz := hW.frozen t
            have hbd := accW_small l hb t j (by omega)
            have hbx := hb.at_ (4 * t + j)
            have HS := Lib.hid (shift8_eq (accW l t j) (l.getD (4 * t + j) 0) hbd.1 hbd.2 hbx.1 hbx.2)
            have HA : Hid (accW l t (j + 1) = 256 * accW l t j + l.getD (4 * t + j) 0) := Lib.hid rfl
            clear hW
            generalize accW l t j = acc at *
            generalize l.getD (4 * t + j) 0 = x at *
            obtain ⟨b0, b1⟩ := hbx
            obtain ⟨d0, d1⟩ := hbd
            go_wp2_with fail
            go_roundw
            case rel =>
              refine ⟨j + 1, by omega, by go_num, ?_, HR2.out.far (by simp) _, hB2.setCell (by simp) _⟩
              have h2 := HW2.out.set t (.int .u32 (bits .or .u32 (acc * 256) x))
              rw [List.set_set, show bits .or .u32 (acc * 256) x = accW l t (j + 1) from HS.out.trans HA.out.symm] at h2
              rw [show bits .or .u32 (acc * 256) x = accW l t (j + 1) from HS.out.trans HA.out.symm]
              exact h2
            case measure => simp [intOf]; omega
          · obtain rfl : j = 4 := by omega
            clear hW
            go_wp2_with fail
            go_roundw
            case rel =>
              refine ⟨t + 1, by omega, by go_num, ?_, HR2.out, hB2⟩
              rw [← schedCells_succ l t hlt (wordAt l t) (by unfold nextW; rw [if_pos h16]), ← accW_four]
              exact HW2.out
            case measure => simp [intOf]; omega
      · have c0 := (hW.cell t).trans (schedCells_zero l t hlt)
        have c16 := (hW.cell (t - 16)).trans (schedCells_get l t (t - 16) (by omega))
        have c15 := (hW.cell (t - 15)).trans (schedCells_get l t (t - 15) (by omega))
        have c7 := (hW.cell (t - 7)).trans (schedCells_get l t (t - 7) (by omega))
        have c2 := (hW.cell (t - 2)).trans (schedCells_get l t (t - 2) (by omega))
        have fz := hW.frozen t
        have hN := nextW_hi l (wl l t) t h16
        clear hW hR
        generalize (wl l t).getD (t - 16) 0 = x16 at *
        generalize (wl l t).getD (t - 15) 0 = x15 at *
        generalize (wl l t).getD (t - 7) 0 = x7 at *
        generalize (wl l t).getD (t - 2) 0 = x2 at *
        have HN := Lib.hid hN
        clear hN
        go_wp2_with fail
        go_quiet (fail)
        go_wp2_with fail
        with_reducible refine (rotl_neg x15 7 _ (by decide) (by decide)).mono ?_
        rintro e w1 ⟨rfl, rfl⟩
        go_wp2_with fail
        with_reducible refine (rotl_neg x15 18 _ (by decide) (by decide)).mono ?_
        rintro e w1 ⟨rfl, rfl⟩
        go_wp2_with fail
        with_reducible refine (rotl_neg x2 17 _ (by decide) (by decide)).mono ?_
        rintro e w1 ⟨rfl, rfl⟩
        go_wp2_with fail
        with_reducible refine (rotl_neg x2 19 _ (by decide) (by decide)).mono ?_
        rintro e w1 ⟨rfl, rfl⟩
        go_wp2_with fail
        go_region
        go_wp2_with fail
        go_roundw
        case rel => exact ⟨t + 1, by omega, by go_num, by rw [← schedCells_succ l t hlt _ (HN.out)]; exact (HW.out.drewN _).set t _, (HR.out.drewN _).far (by simp) _, (below_drewN hB _).setCell (by simp) _⟩
        case measure => simp [intOf]; omega
    · obtain rfl : t = 64 := by omega
      have hs : (schedCells l 64).toArray.size = 64 := by simp [schedCells, u32s, wl_length]
      have hz : (schedCells l 0).toArray.size = 64 := by simp [schedCells, u32s, wl_length]
      have hone : (schedCells l 64).toArray.all (·.oneCell') = true := by simp [schedCells, u32s, Value.oneCell']
      go_wp2_with (first
        | refine wpList_load_row rfl 85 (.tmp 3) rfl (w.heap.size + 1) rfl 85 _ (0, 0) _ hW Tryd.underlying85 rfl (info_64u32.trans (congrArg some hs.symm)) ?_
        | refine wpList_store_row rfl 85 (.tmp 2) (.tmp 78) rfl w.heap.size _ rfl rfl 85 _ hR (info_64u32.trans (congrArg some hs.symm)) (hz.trans hs.symm) hone ?_)
      refine bodyPost_ret (results_cell_row Tryd.results41 _ _ w.heap.size 85 _ (0, 0) _ rfl (hR.setRow (schedCells l 64)) Tryd.underlying85 rfl (info_64u32.trans (congrArg some hs.symm))) rfl ⟨?_, below_row hB (Nat.le_refl _) _⟩
      simp [schedCells]
end Go.Proofs.YtkjckmdiolgmcaaDoor
