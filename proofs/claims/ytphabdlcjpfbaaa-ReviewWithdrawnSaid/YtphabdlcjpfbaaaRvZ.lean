/- The reference's reader of reviews. Conditions: at most 10^12 bytes. -/
import Derived.Test.YtphabdlcjpfbaaaRvO
import Derived.Test.YtphabdlcjpfbaaaDigC
set_option linter.unusedSimpArgs false
set_option linter.unusedVariables false
namespace Go.Proofs.Ytphabdlcjpfbaaa
open Go.RowKit
attribute [local go_sem ↓] wp_at_zero wp_at_succ
def bad2q (l : List Int) : Prop := (cut2 l).1 < 0 ∨ 1 < (cut2 l).1
instance (l : List Int) : Decidable (bad1 l ∨ bad2 l ∨ bad2q l ∨ bad3 l ∨ bad4 l ∨ bad5 l) := by unfold bad1 bad2 bad2q bad3 bad4 bad5; infer_instance
/-- What the reference's reader finds. -/
def readQ (l : List Int) : Option Rev := if bad1 l ∨ bad2 l ∨ bad2q l ∨ bad3 l ∨ bad4 l ∨ bad5 l then none else some (revAt l)
theorem ridsOf_take (L : List Int) (m t : Nat) (h : L.length = 3 * m) (ht : t < m) : (ridsOf L).take (t + 1) = (ridsOf L).take t ++ [⟨L.getD (3 * t) 0, L.getD (3 * t + 1) 0, L.getD (3 * t + 2) 0⟩] := by
  unfold ridsOf
  rw [h, Nat.mul_div_cancel_left _ (by decide), ← List.map_take, ← List.map_take, List.take_range, List.take_range, Nat.min_eq_left (by omega), Nat.min_eq_left (by omega), List.range_succ, List.map_append]
  rfl
theorem ridsOf_len (L : List Int) (m : Nat) (h : L.length = 3 * m) : (ridsOf L).length = m := by
  unfold ridsOf
  rw [List.length_map, List.length_range, h, Nat.mul_div_cancel_left _ (by decide)]
set_option maxHeartbeats 16000000 in
set_option maxRecDepth 100000 in
theorem rread_bad (l : List Int) (A : Option Addr) (n c : Nat) (w : World) (hl : Rd w w.heap.size A n (u8s l)) (hby : Byt l) (hnc : n ≤ c) (hc : c ≤ 9223372036854775807) (hn : n ≤ 1000000000000) (hbad : bad1 l ∨ bad2 l ∨ bad2q l ∨ bad3 l ∨ bad4 l) :
    Calls Try.prog 42 #[.slice A n c] w fun e w' => e = .returned (.tuple #[.agg Z0.toArray, .bool false]) ∧ Ext w w' := by
  have hlen : l.length = n := by have := hl.1; simpa [u8s] using this
  -- the letters of the five parts
  obtain ⟨u1, k1, e1, hu1, hk1, he1, hu1n, hk1n⟩ : ∃ (u k : Nat) (e : Int), (u : Int) = (cut1 l).2.1 ∧ k = (cut1 l).1.length ∧ e = (cut1 l).2.2 ∧ u ≤ n ∧ k ≤ n := by
    rcases cut1_cases l hby with ⟨_, h1, h2⟩ | ⟨xs, u, hg, hu, henc, _⟩
    · exact ⟨0, 0, _, by rw [h2]; rfl, by rw [h1]; rfl, rfl, Nat.zero_le _, Nat.zero_le _⟩
    · exact ⟨u, xs.length, _, by rw [hg], by rw [hg], rfl, by omega, by have := encL_ge xs l u henc; omega⟩
  obtain ⟨A1, hA1⟩ : ∃ a, a = restA A c u1 := ⟨_, rfl⟩
  obtain ⟨m1, hm1⟩ : ∃ m, m = n - u1 := ⟨_, rfl⟩
  obtain ⟨c1, hc1⟩ : ∃ m, m = c - u1 := ⟨_, rfl⟩
  have hr1 : rest1 l = l.drop u1 := by unfold rest1; rw [← hu1]; rfl
  have hb1 : Byt (rest1 l) := by rw [hr1]; exact hby.drop _
  have hl1 : Rd w w.heap.size A1 m1 (u8s (rest1 l)) := by rw [hr1]; exact rd_restA hl hA1 hm1 hu1n hnc
  have hlen1 : (rest1 l).length = m1 := by have := hl1.1; simpa [u8s] using this
  obtain ⟨x2, u2, e2, hx2, hu2, he2, hu2n⟩ : ∃ (x : Int) (u : Nat) (e : Int), x = (cut2 l).1 ∧ (u : Int) = (cut2 l).2.1 ∧ e = (cut2 l).2.2 ∧ u ≤ m1 := by
    rcases getI_cases' (rest1 l) hb1 with ⟨_, h1, h2⟩ | ⟨x, u, hg, hu, _⟩
    · exact ⟨_, 0, _, rfl, by unfold cut2; rw [h2]; rfl, rfl, Nat.zero_le _⟩
    · exact ⟨_, u, _, rfl, by unfold cut2; rw [hg], rfl, by omega⟩
  obtain ⟨A2, hA2⟩ : ∃ a, a = restA A c (u1 + u2) := ⟨_, rfl⟩
  obtain ⟨m2, hm2⟩ : ∃ m, m = n - (u1 + u2) := ⟨_, rfl⟩
  obtain ⟨c2, hc2⟩ : ∃ m, m = c - (u1 + u2) := ⟨_, rfl⟩
  have hr2 : rest2 l = l.drop (u1 + u2) := by unfold rest2; rw [← hu2, hr1, Int.toNat_natCast, List.drop_drop]
  have hb2 : Byt (rest2 l) := by rw [hr2]; exact hby.drop _
  have hl2 : Rd w w.heap.size A2 m2 (u8s (rest2 l)) := by rw [hr2]; exact rd_restA hl hA2 hm2 (by omega) hnc
  have hlen2 : (rest2 l).length = m2 := by have := hl2.1; simpa [u8s] using this
  obtain ⟨u3, k3, e3, hu3, hk3, he3, hu3n, hk3n⟩ : ∃ (u k : Nat) (e : Int), (u : Int) = (cut3 l).2.1 ∧ k = (cut3 l).1.length ∧ e = (cut3 l).2.2 ∧ u ≤ m2 ∧ k ≤ m2 := by
    rcases cut1_cases (rest2 l) hb2 with ⟨_, h1, h2⟩ | ⟨xs, u, hg, hu, henc, _⟩
    · exact ⟨0, 0, _, by unfold cut3; unfold cut1 at h2; rw [h2]; rfl, by unfold cut3; unfold cut1 at h1; rw [h1]; rfl, rfl, Nat.zero_le _, Nat.zero_le _⟩
    · exact ⟨u, xs.length, _, by unfold cut3; unfold cut1 at hg; rw [hg], by unfold cut3; unfold cut1 at hg; rw [hg], rfl, by omega, by have := encL_ge xs _ u henc; omega⟩
  obtain ⟨A3, hA3⟩ : ∃ a, a = restA A c (u1 + u2 + u3) := ⟨_, rfl⟩
  obtain ⟨m3, hm3⟩ : ∃ m, m = n - (u1 + u2 + u3) := ⟨_, rfl⟩
  obtain ⟨c3, hc3⟩ : ∃ m, m = c - (u1 + u2 + u3) := ⟨_, rfl⟩
  have hr3 : rest3 l = l.drop (u1 + u2 + u3) := by unfold rest3; rw [← hu3, hr2, Int.toNat_natCast, List.drop_drop]
  have hb3 : Byt (rest3 l) := by rw [hr3]; exact hby.drop _
  have hl3 : Rd w w.heap.size A3 m3 (u8s (rest3 l)) := by rw [hr3]; exact rd_restA hl hA3 hm3 (by omega) hnc
  have hlen3 : (rest3 l).length = m3 := by have := hl3.1; simpa [u8s] using this
  obtain ⟨u4, k4, e4, hu4, hk4, he4, hu4n⟩ : ∃ (u k : Nat) (e : Int), (u : Int) = (cut4 l).2.1 ∧ k = (cut4 l).1.length ∧ e = (cut4 l).2.2 ∧ u ≤ m3 := by
    rcases decD_cases' (rest3 l) hb3 with ⟨_, h1, h2⟩ | ⟨ds, u, hg, hu, _⟩
    · exact ⟨0, 0, _, by unfold cut4; rw [h2]; rfl, by unfold cut4; rw [h1]; rfl, rfl, Nat.zero_le _⟩
    · exact ⟨u, ds.length, _, by unfold cut4; rw [hg], by unfold cut4; rw [hg], rfl, by omega⟩
  obtain ⟨A4, hA4⟩ : ∃ a, a = restA A c (u1 + u2 + u3 + u4) := ⟨_, rfl⟩
  obtain ⟨m4, hm4⟩ : ∃ m, m = n - (u1 + u2 + u3 + u4) := ⟨_, rfl⟩
  obtain ⟨c4, hc4⟩ : ∃ m, m = c - (u1 + u2 + u3 + u4) := ⟨_, rfl⟩
  have hr4 : rest4 l = l.drop (u1 + u2 + u3 + u4) := by unfold rest4; rw [← hu4, hr3, Int.toNat_natCast, List.drop_drop]
  have hb4 : Byt (rest4 l) := by rw [hr4]; exact hby.drop _
  have hl4 : Rd w w.heap.size A4 m4 (u8s (rest4 l)) := by rw [hr4]; exact rd_restA hl hA4 hm4 (by omega) hnc
  have hlen4 : (rest4 l).length = m4 := by have := hl4.1; simpa [u8s] using this
  obtain ⟨s5, u5, e5, hs5, hu5, he5⟩ : ∃ (s : ByteArray) (u : Int) (e : Int), s = (cut5 l).1 ∧ u = (cut5 l).2.1 ∧ e = (cut5 l).2.2 := ⟨_, _, _, rfl, rfl, rfl⟩
  have HS1 : Hid (u1 ≤ n ∧ A1 = restA A c u1 ∧ m1 = n - u1 ∧ c1 = c - u1) := Lib.hid ⟨hu1n, hA1, hm1, hc1⟩
  have HS2 : Hid ((u1 + u2) ≤ n ∧ A2 = restA A c (u1 + u2) ∧ m2 = n - (u1 + u2) ∧ c2 = c - (u1 + u2)) := Lib.hid ⟨by omega, hA2, hm2, hc2⟩
  have HS3 : Hid ((u1 + u2 + u3) ≤ n ∧ A3 = restA A c (u1 + u2 + u3) ∧ m3 = n - (u1 + u2 + u3) ∧ c3 = c - (u1 + u2 + u3)) := Lib.hid ⟨by omega, hA3, hm3, hc3⟩
  have HS4 : Hid ((u1 + u2 + u3 + u4) ≤ n ∧ A4 = restA A c (u1 + u2 + u3 + u4) ∧ m4 = n - (u1 + u2 + u3 + u4) ∧ c4 = c - (u1 + u2 + u3 + u4)) := Lib.hid ⟨by omega, hA4, hm4, hc4⟩
  have HG1 : Hid (∀ W, Ext w W → Calls Try.prog 65 #[.slice A n c] W fun e w' => (∃ A' c', e = .returned (.tuple #[.slice A' k1 c', .int .i64 (u1 : Int), .int .i64 e1]) ∧ w'.ownsRow W.heap.size 3 1 (.slice A' k1 c') k1 ((cut1 l).1.map (Value.int .i64))) ∧ Ext W w') := Lib.hid (fun W hW => by
    have h := rgints_any l A n c W (hl.ext' hW) hby hnc hc hn
    unfold cut1 at hu1 hk1 he1 ⊢
    rw [← hu1, ← hk1, ← he1] at h
    exact h)
  have HG2 : Hid (∀ W, Ext w W → Calls Try.prog 66 #[.slice A1 m1 c1] W fun e w' => e = .returned (.tuple #[.int .i64 x2, .int .i64 (u2 : Int), .int .i64 e2]) ∧ Ext W w') := Lib.hid (fun W hW => by
    have h := rgint_any (rest1 l) A1 m1 c1 W (hl1.ext' hW) hb1 (by omega) (by omega)
    unfold tup3 at h
    unfold cut2 at hx2 hu2 he2
    rw [← hx2, ← hu2, ← he2] at h
    exact h)
  have HG3 : Hid (∀ W, Ext w W → Calls Try.prog 65 #[.slice A2 m2 c2] W fun e w' => (∃ A' c', e = .returned (.tuple #[.slice A' k3 c', .int .i64 (u3 : Int), .int .i64 e3]) ∧ w'.ownsRow W.heap.size 3 1 (.slice A' k3 c') k3 ((cut3 l).1.map (Value.int .i64))) ∧ Ext W w') := Lib.hid (fun W hW => by
    have h := rgints_any (rest2 l) A2 m2 c2 W (hl2.ext' hW) hb2 (by omega) (by omega) (by omega)
    unfold cut3 at hu3 hk3 he3 ⊢
    rw [← hu3, ← hk3, ← he3] at h
    exact h)
  have HG4 : Hid (∀ W, Ext w W → Calls Try.prog 67 #[.slice A3 m3 c3] W fun e w' => (∃ A' c', e = .returned (.tuple #[.slice A' k4 c', .int .i64 (u4 : Int), .int .i64 e4]) ∧ w'.ownsRow W.heap.size 25 16 (.slice A' k4 c') k4 (celD (cut4 l).1)) ∧ Ext W w') := Lib.hid (fun W hW => by
    have h := rgdigests_any (rest3 l) A3 m3 c3 W (hl3.ext' hW) hb3 (by omega) (by omega) (by omega)
    unfold cut4 at hu4 hk4 he4 ⊢
    rw [← hu4, ← hk4, ← he4] at h
    exact h)
  have HG5 : Hid (∀ W, Ext w W → Calls Try.prog 68 #[.slice A4 m4 c4] W fun e w' => e = .returned (.tuple #[.string s5, .int .i64 u5, .int .i64 e5]) ∧ Ext W w') := Lib.hid (fun W hW => by
    have h := rgbytes_any (rest4 l) A4 m4 c4 W (hl4.ext' hW) hb4 (by omega) (by omega) (by omega)
    unfold tupS at h
    unfold cut5 at hs5 hu5 he5
    rw [← hs5, ← hu5, ← he5] at h
    exact h)
  have zz : ∀ W, (zeroValue 27).run Try.prog W = .ok (.agg Z0.toArray) W := fun W => by kernel_rfl
  have hp2 : u1 + u2 ≤ n := by omega
  have hp3 : u1 + u2 + u3 ≤ n := by omega
  have hp4 : u1 + u2 + u3 + u4 ≤ n := by omega
  have hk3m : k3 ≤ 1000000000000 := by omega
  unfold bad1 bad2 bad2q bad3 bad4 at hbad
  rw [← he1, ← hk1, ← he2, ← hx2, ← he3, ← hk3, ← he4, ← hk4] at hbad
  clear hl hl1 hl2 hl3 hl4 hA1 hA2 hA3 hA4 hm1 hm2 hm3 hm4 hc1 hc2 hc3 hc4 hr1 hr2 hr3 hr4 hb1 hb2 hb3 hb4 hlen hlen1 hlen2 hlen3 hlen4 hu2n hu3n hu4n hk3n hu1 hu2 hu3 hu4 hu5 hs5 hx2 hnc hc
  clear hk1 hk3 he1 he2 he3 he4 he5 hk4
  by_cases he1 : e1 = 0
  · subst he1
    by_cases hk1 : k1 = 3
    · subst hk1
      by_cases he2 : e2 = 0
      · subst he2
        by_cases hx0 : x2 < 0
        · clear hbad
          go_enter Try.func42, Try.ntmps42
          go_upto_region 1 with fail
          obtain ⟨w1, hw1⟩ : ∃ x, x = w.alloc (.cells Z0.toArray 27) := ⟨_, rfl⟩
          change Code.wp _ _ _ _ (w.alloc (.cells Z0.toArray 27))
          rw [← hw1]
          have EX : Hid (Ext w w1) := Lib.hid (by rw [hw1]; exact (Ext.refl w).alloc _)
          have BZ : Hid (Blk w1 w.heap.size 27 Z0) := Lib.hid (by rw [hw1]; exact Blk.fresh' _ _ _ _ _ rfl rfl)
          clear hw1
          go_wp2_with (first
                | (go_at_call 65; (with_reducible refine (HG1.out _ EX.out).mono ?_); rintro e w2 ⟨⟨B1, d1, rfl, ho1⟩, hE2⟩; have O1 := Lib.hid ho1; have EX1 := Lib.hid hE2; have BZ := Lib.hid (BZ.out.ext hE2); have EX := Lib.hid (EX.out.next hE2); clear hE2; clear ho1)
                | (go_at_call 65; (with_reducible refine (HG3.out _ EX.out).mono ?_); rintro e w3 ⟨⟨B3, d3, rfl, ho3⟩, hE3⟩; have O3 := Lib.hid ho3; have EX3 := Lib.hid hE3; have BZ := Lib.hid (BZ.out.ext hE3); have EX := Lib.hid (EX.out.next hE3); clear hE3; clear ho3)
                | (go_at_call 66; (with_reducible refine (HG2.out _ EX.out).mono ?_); rintro e w7 ⟨rfl, hE7⟩; have EX2 := Lib.hid hE7; have BZ := Lib.hid (BZ.out.ext hE7); have EX := Lib.hid (EX.out.next hE7); clear hE7)
                | (go_at_call 67; (with_reducible refine (HG4.out _ EX.out).mono ?_); rintro e w4 ⟨⟨B4, d4, rfl, ho4⟩, hE4⟩; have O4 := Lib.hid ho4; have EX4 := Lib.hid hE4; have BZ := Lib.hid (BZ.out.ext hE4); have EX := Lib.hid (EX.out.next hE4); clear hE4; clear ho4)
                | (go_at_call 68; (with_reducible refine (HG5.out _ EX.out).mono ?_); rintro e w5 ⟨rfl, hE5⟩; have EX5 := Lib.hid hE5; have BZ := Lib.hid (BZ.out.ext hE5); have EX := Lib.hid (EX.out.next hE5); clear hE5)
                | ((with_reducible refine wpList_slice_rest rfl 36 (.tmp 36) (.tmp 37) rfl elem_u8 elem_sz ?_ ?_ HS1.out.1 HS1.out.2.1 HS1.out.2.2.1 HS1.out.2.2.2 ?_); kernel_rfl; kernel_rfl)
                | ((with_reducible refine wpList_slice_rest rfl 36 (.tmp 58) (.tmp 59) rfl elem_u8 elem_sz ?_ ?_ HS2.out.1 HS2.out.2.1 HS2.out.2.2.1 HS2.out.2.2.2 ?_); kernel_rfl; kernel_rfl)
                | ((with_reducible refine wpList_slice_rest rfl 36 (.tmp 78) (.tmp 79) rfl elem_u8 elem_sz ?_ ?_ HS3.out.1 HS3.out.2.1 HS3.out.2.2.1 HS3.out.2.2.2 ?_); kernel_rfl; kernel_rfl)
                | ((with_reducible refine wpList_slice_rest rfl 36 (.tmp 94) (.tmp 97) rfl elem_u8 elem_sz ?_ ?_ HS4.out.1 HS4.out.2.1 HS4.out.2.2.1 HS4.out.2.2.2 ?_); kernel_rfl; kernel_rfl)
                | (refine wpList_build_eq (by rfl) 27 _ rfl _ (by kernel_rfl) Z0 build_rev0 ?_)
                | (refine wpList_store_blk rfl 27 (.tmp 2) (.tmp 53) rfl w.heap.size Z0 (by kernel_rfl) (by kernel_rfl) BZ.out info_rev rfl (revC_one rev0 none 0 0) ?_; intro w9 hw9 hb9; have E9 : Hid (Ext w w9) := Lib.hid (by rw [hw9.out]; exact EX.out.setRow (Nat.le_refl _) _)))
          refine bodyPost_ret (results_blk_bit Try.results42 _ _ w.heap.size 27 Z0 _ rfl hb9 Try.underlying27 rfl info_rev) rfl ?_
          exact ⟨rfl, E9.out⟩
        · by_cases hx1 : 1 < x2
          · clear hbad
            go_enter Try.func42, Try.ntmps42
            go_upto_region 1 with fail
            obtain ⟨w1, hw1⟩ : ∃ x, x = w.alloc (.cells Z0.toArray 27) := ⟨_, rfl⟩
            change Code.wp _ _ _ _ (w.alloc (.cells Z0.toArray 27))
            rw [← hw1]
            have EX : Hid (Ext w w1) := Lib.hid (by rw [hw1]; exact (Ext.refl w).alloc _)
            have BZ : Hid (Blk w1 w.heap.size 27 Z0) := Lib.hid (by rw [hw1]; exact Blk.fresh' _ _ _ _ _ rfl rfl)
            clear hw1
            go_wp2_with (first
                  | (go_at_call 65; (with_reducible refine (HG1.out _ EX.out).mono ?_); rintro e w2 ⟨⟨B1, d1, rfl, ho1⟩, hE2⟩; have O1 := Lib.hid ho1; have EX1 := Lib.hid hE2; have BZ := Lib.hid (BZ.out.ext hE2); have EX := Lib.hid (EX.out.next hE2); clear hE2; clear ho1)
                  | (go_at_call 65; (with_reducible refine (HG3.out _ EX.out).mono ?_); rintro e w3 ⟨⟨B3, d3, rfl, ho3⟩, hE3⟩; have O3 := Lib.hid ho3; have EX3 := Lib.hid hE3; have BZ := Lib.hid (BZ.out.ext hE3); have EX := Lib.hid (EX.out.next hE3); clear hE3; clear ho3)
                  | (go_at_call 66; (with_reducible refine (HG2.out _ EX.out).mono ?_); rintro e w7 ⟨rfl, hE7⟩; have EX2 := Lib.hid hE7; have BZ := Lib.hid (BZ.out.ext hE7); have EX := Lib.hid (EX.out.next hE7); clear hE7)
                  | (go_at_call 67; (with_reducible refine (HG4.out _ EX.out).mono ?_); rintro e w4 ⟨⟨B4, d4, rfl, ho4⟩, hE4⟩; have O4 := Lib.hid ho4; have EX4 := Lib.hid hE4; have BZ := Lib.hid (BZ.out.ext hE4); have EX := Lib.hid (EX.out.next hE4); clear hE4; clear ho4)
                  | (go_at_call 68; (with_reducible refine (HG5.out _ EX.out).mono ?_); rintro e w5 ⟨rfl, hE5⟩; have EX5 := Lib.hid hE5; have BZ := Lib.hid (BZ.out.ext hE5); have EX := Lib.hid (EX.out.next hE5); clear hE5)
                  | ((with_reducible refine wpList_slice_rest rfl 36 (.tmp 36) (.tmp 37) rfl elem_u8 elem_sz ?_ ?_ HS1.out.1 HS1.out.2.1 HS1.out.2.2.1 HS1.out.2.2.2 ?_); kernel_rfl; kernel_rfl)
                  | ((with_reducible refine wpList_slice_rest rfl 36 (.tmp 58) (.tmp 59) rfl elem_u8 elem_sz ?_ ?_ HS2.out.1 HS2.out.2.1 HS2.out.2.2.1 HS2.out.2.2.2 ?_); kernel_rfl; kernel_rfl)
                  | ((with_reducible refine wpList_slice_rest rfl 36 (.tmp 78) (.tmp 79) rfl elem_u8 elem_sz ?_ ?_ HS3.out.1 HS3.out.2.1 HS3.out.2.2.1 HS3.out.2.2.2 ?_); kernel_rfl; kernel_rfl)
                  | ((with_reducible refine wpList_slice_rest rfl 36 (.tmp 94) (.tmp 97) rfl elem_u8 elem_sz ?_ ?_ HS4.out.1 HS4.out.2.1 HS4.out.2.2.1 HS4.out.2.2.2 ?_); kernel_rfl; kernel_rfl)
                  | (refine wpList_build_eq (by rfl) 27 _ rfl _ (by kernel_rfl) Z0 build_rev0 ?_)
                  | (refine wpList_store_blk rfl 27 (.tmp 2) (.tmp 53) rfl w.heap.size Z0 (by kernel_rfl) (by kernel_rfl) BZ.out info_rev rfl (revC_one rev0 none 0 0) ?_; intro w9 hw9 hb9; have E9 : Hid (Ext w w9) := Lib.hid (by rw [hw9.out]; exact EX.out.setRow (Nat.le_refl _) _)))
            refine bodyPost_ret (results_blk_bit Try.results42 _ _ w.heap.size 27 Z0 _ rfl hb9 Try.underlying27 rfl info_rev) rfl ?_
            exact ⟨rfl, E9.out⟩
          · by_cases he3 : e3 = 0
            · subst he3
              obtain ⟨r3, hr3⟩ : ∃ r, r = k3 % 3 := ⟨_, rfl⟩
              have hrem : (k3 : Int).tmod 3 = (r3 : Int) := by rw [Int.tmod_eq_emod_of_nonneg (by omega)]; omega
              have hrem2 : (k3 : Int) % 3 = (r3 : Int) := by omega
              rw [← hr3] at hbad
              clear hr3
              by_cases hr3 : r3 = 0
              · subst hr3
                by_cases he4 : e4 = 0
                · subst he4
                  by_cases hk4 : k4 = 1
                  · exfalso
                    simp [hk4, hx0, hx1] at hbad
                  · have hne : ((k4 : Int) == 1) = false := by simpa using fun h : (k4 : Int) = 1 => hk4 (by omega)
                    clear hbad hk4
                    go_enter Try.func42, Try.ntmps42
                    go_upto_region 1 with fail
                    obtain ⟨w1, hw1⟩ : ∃ x, x = w.alloc (.cells Z0.toArray 27) := ⟨_, rfl⟩
                    change Code.wp _ _ _ _ (w.alloc (.cells Z0.toArray 27))
                    rw [← hw1]
                    have EX : Hid (Ext w w1) := Lib.hid (by rw [hw1]; exact (Ext.refl w).alloc _)
                    have BZ : Hid (Blk w1 w.heap.size 27 Z0) := Lib.hid (by rw [hw1]; exact Blk.fresh' _ _ _ _ _ rfl rfl)
                    clear hw1
                    go_wp2_with (first
                          | (go_at_call 65; (with_reducible refine (HG1.out _ EX.out).mono ?_); rintro e w2 ⟨⟨B1, d1, rfl, ho1⟩, hE2⟩; have O1 := Lib.hid ho1; have EX1 := Lib.hid hE2; have BZ := Lib.hid (BZ.out.ext hE2); have EX := Lib.hid (EX.out.next hE2); clear hE2; clear ho1)
                          | (go_at_call 65; (with_reducible refine (HG3.out _ EX.out).mono ?_); rintro e w3 ⟨⟨B3, d3, rfl, ho3⟩, hE3⟩; have O3 := Lib.hid ho3; have EX3 := Lib.hid hE3; have BZ := Lib.hid (BZ.out.ext hE3); have EX := Lib.hid (EX.out.next hE3); clear hE3; clear ho3)
                          | (go_at_call 66; (with_reducible refine (HG2.out _ EX.out).mono ?_); rintro e w7 ⟨rfl, hE7⟩; have EX2 := Lib.hid hE7; have BZ := Lib.hid (BZ.out.ext hE7); have EX := Lib.hid (EX.out.next hE7); clear hE7)
                          | (go_at_call 67; (with_reducible refine (HG4.out _ EX.out).mono ?_); rintro e w4 ⟨⟨B4, d4, rfl, ho4⟩, hE4⟩; have O4 := Lib.hid ho4; have EX4 := Lib.hid hE4; have BZ := Lib.hid (BZ.out.ext hE4); have EX := Lib.hid (EX.out.next hE4); clear hE4; clear ho4)
                          | (go_at_call 68; (with_reducible refine (HG5.out _ EX.out).mono ?_); rintro e w5 ⟨rfl, hE5⟩; have EX5 := Lib.hid hE5; have BZ := Lib.hid (BZ.out.ext hE5); have EX := Lib.hid (EX.out.next hE5); clear hE5)
                          | ((with_reducible refine wpList_slice_rest rfl 36 (.tmp 36) (.tmp 37) rfl elem_u8 elem_sz ?_ ?_ HS1.out.1 HS1.out.2.1 HS1.out.2.2.1 HS1.out.2.2.2 ?_); kernel_rfl; kernel_rfl)
                          | ((with_reducible refine wpList_slice_rest rfl 36 (.tmp 58) (.tmp 59) rfl elem_u8 elem_sz ?_ ?_ HS2.out.1 HS2.out.2.1 HS2.out.2.2.1 HS2.out.2.2.2 ?_); kernel_rfl; kernel_rfl)
                          | ((with_reducible refine wpList_slice_rest rfl 36 (.tmp 78) (.tmp 79) rfl elem_u8 elem_sz ?_ ?_ HS3.out.1 HS3.out.2.1 HS3.out.2.2.1 HS3.out.2.2.2 ?_); kernel_rfl; kernel_rfl)
                          | ((with_reducible refine wpList_slice_rest rfl 36 (.tmp 94) (.tmp 97) rfl elem_u8 elem_sz ?_ ?_ HS4.out.1 HS4.out.2.1 HS4.out.2.2.1 HS4.out.2.2.2 ?_); kernel_rfl; kernel_rfl)
                          | (refine wpList_build_eq (by rfl) 27 _ rfl _ (by kernel_rfl) Z0 build_rev0 ?_)
                          | (refine wpList_store_blk rfl 27 (.tmp 2) (.tmp 92) rfl w.heap.size Z0 (by kernel_rfl) (by kernel_rfl) BZ.out info_rev rfl (revC_one rev0 none 0 0) ?_; intro w9 hw9 hb9; have E9 : Hid (Ext w w9) := Lib.hid (by rw [hw9.out]; exact EX.out.setRow (Nat.le_refl _) _)))
                    refine bodyPost_ret (results_blk_bit Try.results42 _ _ w.heap.size 27 Z0 _ rfl hb9 Try.underlying27 rfl info_rev) rfl ?_
                    exact ⟨rfl, E9.out⟩
                · have hne : (e4 == 0) = false := by simpa using he4
                  clear hbad he4
                  go_enter Try.func42, Try.ntmps42
                  go_upto_region 1 with fail
                  obtain ⟨w1, hw1⟩ : ∃ x, x = w.alloc (.cells Z0.toArray 27) := ⟨_, rfl⟩
                  change Code.wp _ _ _ _ (w.alloc (.cells Z0.toArray 27))
                  rw [← hw1]
                  have EX : Hid (Ext w w1) := Lib.hid (by rw [hw1]; exact (Ext.refl w).alloc _)
                  have BZ : Hid (Blk w1 w.heap.size 27 Z0) := Lib.hid (by rw [hw1]; exact Blk.fresh' _ _ _ _ _ rfl rfl)
                  clear hw1
                  go_wp2_with (first
                        | (go_at_call 65; (with_reducible refine (HG1.out _ EX.out).mono ?_); rintro e w2 ⟨⟨B1, d1, rfl, ho1⟩, hE2⟩; have O1 := Lib.hid ho1; have EX1 := Lib.hid hE2; have BZ := Lib.hid (BZ.out.ext hE2); have EX := Lib.hid (EX.out.next hE2); clear hE2; clear ho1)
                        | (go_at_call 65; (with_reducible refine (HG3.out _ EX.out).mono ?_); rintro e w3 ⟨⟨B3, d3, rfl, ho3⟩, hE3⟩; have O3 := Lib.hid ho3; have EX3 := Lib.hid hE3; have BZ := Lib.hid (BZ.out.ext hE3); have EX := Lib.hid (EX.out.next hE3); clear hE3; clear ho3)
                        | (go_at_call 66; (with_reducible refine (HG2.out _ EX.out).mono ?_); rintro e w7 ⟨rfl, hE7⟩; have EX2 := Lib.hid hE7; have BZ := Lib.hid (BZ.out.ext hE7); have EX := Lib.hid (EX.out.next hE7); clear hE7)
                        | (go_at_call 67; (with_reducible refine (HG4.out _ EX.out).mono ?_); rintro e w4 ⟨⟨B4, d4, rfl, ho4⟩, hE4⟩; have O4 := Lib.hid ho4; have EX4 := Lib.hid hE4; have BZ := Lib.hid (BZ.out.ext hE4); have EX := Lib.hid (EX.out.next hE4); clear hE4; clear ho4)
                        | (go_at_call 68; (with_reducible refine (HG5.out _ EX.out).mono ?_); rintro e w5 ⟨rfl, hE5⟩; have EX5 := Lib.hid hE5; have BZ := Lib.hid (BZ.out.ext hE5); have EX := Lib.hid (EX.out.next hE5); clear hE5)
                        | ((with_reducible refine wpList_slice_rest rfl 36 (.tmp 36) (.tmp 37) rfl elem_u8 elem_sz ?_ ?_ HS1.out.1 HS1.out.2.1 HS1.out.2.2.1 HS1.out.2.2.2 ?_); kernel_rfl; kernel_rfl)
                        | ((with_reducible refine wpList_slice_rest rfl 36 (.tmp 58) (.tmp 59) rfl elem_u8 elem_sz ?_ ?_ HS2.out.1 HS2.out.2.1 HS2.out.2.2.1 HS2.out.2.2.2 ?_); kernel_rfl; kernel_rfl)
                        | ((with_reducible refine wpList_slice_rest rfl 36 (.tmp 78) (.tmp 79) rfl elem_u8 elem_sz ?_ ?_ HS3.out.1 HS3.out.2.1 HS3.out.2.2.1 HS3.out.2.2.2 ?_); kernel_rfl; kernel_rfl)
                        | ((with_reducible refine wpList_slice_rest rfl 36 (.tmp 94) (.tmp 97) rfl elem_u8 elem_sz ?_ ?_ HS4.out.1 HS4.out.2.1 HS4.out.2.2.1 HS4.out.2.2.2 ?_); kernel_rfl; kernel_rfl)
                        | (refine wpList_build_eq (by rfl) 27 _ rfl _ (by kernel_rfl) Z0 build_rev0 ?_)
                        | (refine wpList_store_blk rfl 27 (.tmp 2) (.tmp 92) rfl w.heap.size Z0 (by kernel_rfl) (by kernel_rfl) BZ.out info_rev rfl (revC_one rev0 none 0 0) ?_; intro w9 hw9 hb9; have E9 : Hid (Ext w w9) := Lib.hid (by rw [hw9.out]; exact EX.out.setRow (Nat.le_refl _) _)))
                  refine bodyPost_ret (results_blk_bit Try.results42 _ _ w.heap.size 27 Z0 _ rfl hb9 Try.underlying27 rfl info_rev) rfl ?_
                  exact ⟨rfl, E9.out⟩
              · have hne : ((r3 : Int) == 0) = false := by simpa using hr3
                clear hbad hr3
                go_enter Try.func42, Try.ntmps42
                go_upto_region 1 with fail
                obtain ⟨w1, hw1⟩ : ∃ x, x = w.alloc (.cells Z0.toArray 27) := ⟨_, rfl⟩
                change Code.wp _ _ _ _ (w.alloc (.cells Z0.toArray 27))
                rw [← hw1]
                have EX : Hid (Ext w w1) := Lib.hid (by rw [hw1]; exact (Ext.refl w).alloc _)
                have BZ : Hid (Blk w1 w.heap.size 27 Z0) := Lib.hid (by rw [hw1]; exact Blk.fresh' _ _ _ _ _ rfl rfl)
                clear hw1
                go_wp2_with (first
                      | (go_at_call 65; (with_reducible refine (HG1.out _ EX.out).mono ?_); rintro e w2 ⟨⟨B1, d1, rfl, ho1⟩, hE2⟩; have O1 := Lib.hid ho1; have EX1 := Lib.hid hE2; have BZ := Lib.hid (BZ.out.ext hE2); have EX := Lib.hid (EX.out.next hE2); clear hE2; clear ho1)
                      | (go_at_call 65; (with_reducible refine (HG3.out _ EX.out).mono ?_); rintro e w3 ⟨⟨B3, d3, rfl, ho3⟩, hE3⟩; have O3 := Lib.hid ho3; have EX3 := Lib.hid hE3; have BZ := Lib.hid (BZ.out.ext hE3); have EX := Lib.hid (EX.out.next hE3); clear hE3; clear ho3)
                      | (go_at_call 66; (with_reducible refine (HG2.out _ EX.out).mono ?_); rintro e w7 ⟨rfl, hE7⟩; have EX2 := Lib.hid hE7; have BZ := Lib.hid (BZ.out.ext hE7); have EX := Lib.hid (EX.out.next hE7); clear hE7)
                      | (go_at_call 67; (with_reducible refine (HG4.out _ EX.out).mono ?_); rintro e w4 ⟨⟨B4, d4, rfl, ho4⟩, hE4⟩; have O4 := Lib.hid ho4; have EX4 := Lib.hid hE4; have BZ := Lib.hid (BZ.out.ext hE4); have EX := Lib.hid (EX.out.next hE4); clear hE4; clear ho4)
                      | (go_at_call 68; (with_reducible refine (HG5.out _ EX.out).mono ?_); rintro e w5 ⟨rfl, hE5⟩; have EX5 := Lib.hid hE5; have BZ := Lib.hid (BZ.out.ext hE5); have EX := Lib.hid (EX.out.next hE5); clear hE5)
                      | ((with_reducible refine wpList_slice_rest rfl 36 (.tmp 36) (.tmp 37) rfl elem_u8 elem_sz ?_ ?_ HS1.out.1 HS1.out.2.1 HS1.out.2.2.1 HS1.out.2.2.2 ?_); kernel_rfl; kernel_rfl)
                      | ((with_reducible refine wpList_slice_rest rfl 36 (.tmp 58) (.tmp 59) rfl elem_u8 elem_sz ?_ ?_ HS2.out.1 HS2.out.2.1 HS2.out.2.2.1 HS2.out.2.2.2 ?_); kernel_rfl; kernel_rfl)
                      | ((with_reducible refine wpList_slice_rest rfl 36 (.tmp 78) (.tmp 79) rfl elem_u8 elem_sz ?_ ?_ HS3.out.1 HS3.out.2.1 HS3.out.2.2.1 HS3.out.2.2.2 ?_); kernel_rfl; kernel_rfl)
                      | ((with_reducible refine wpList_slice_rest rfl 36 (.tmp 94) (.tmp 97) rfl elem_u8 elem_sz ?_ ?_ HS4.out.1 HS4.out.2.1 HS4.out.2.2.1 HS4.out.2.2.2 ?_); kernel_rfl; kernel_rfl)
                      | (refine wpList_build_eq (by rfl) 27 _ rfl _ (by kernel_rfl) Z0 build_rev0 ?_)
                      | (refine wpList_store_blk rfl 27 (.tmp 2) (.tmp 73) rfl w.heap.size Z0 (by kernel_rfl) (by kernel_rfl) BZ.out info_rev rfl (revC_one rev0 none 0 0) ?_; intro w9 hw9 hb9; have E9 : Hid (Ext w w9) := Lib.hid (by rw [hw9.out]; exact EX.out.setRow (Nat.le_refl _) _)))
                refine bodyPost_ret (results_blk_bit Try.results42 _ _ w.heap.size 27 Z0 _ rfl hb9 Try.underlying27 rfl info_rev) rfl ?_
                exact ⟨rfl, E9.out⟩
            · have hne : (e3 == 0) = false := by simpa using he3
              clear hbad he3
              go_enter Try.func42, Try.ntmps42
              go_upto_region 1 with fail
              obtain ⟨w1, hw1⟩ : ∃ x, x = w.alloc (.cells Z0.toArray 27) := ⟨_, rfl⟩
              change Code.wp _ _ _ _ (w.alloc (.cells Z0.toArray 27))
              rw [← hw1]
              have EX : Hid (Ext w w1) := Lib.hid (by rw [hw1]; exact (Ext.refl w).alloc _)
              have BZ : Hid (Blk w1 w.heap.size 27 Z0) := Lib.hid (by rw [hw1]; exact Blk.fresh' _ _ _ _ _ rfl rfl)
              clear hw1
              go_wp2_with (first
                    | (go_at_call 65; (with_reducible refine (HG1.out _ EX.out).mono ?_); rintro e w2 ⟨⟨B1, d1, rfl, ho1⟩, hE2⟩; have O1 := Lib.hid ho1; have EX1 := Lib.hid hE2; have BZ := Lib.hid (BZ.out.ext hE2); have EX := Lib.hid (EX.out.next hE2); clear hE2; clear ho1)
                    | (go_at_call 65; (with_reducible refine (HG3.out _ EX.out).mono ?_); rintro e w3 ⟨⟨B3, d3, rfl, ho3⟩, hE3⟩; have O3 := Lib.hid ho3; have EX3 := Lib.hid hE3; have BZ := Lib.hid (BZ.out.ext hE3); have EX := Lib.hid (EX.out.next hE3); clear hE3; clear ho3)
                    | (go_at_call 66; (with_reducible refine (HG2.out _ EX.out).mono ?_); rintro e w7 ⟨rfl, hE7⟩; have EX2 := Lib.hid hE7; have BZ := Lib.hid (BZ.out.ext hE7); have EX := Lib.hid (EX.out.next hE7); clear hE7)
                    | (go_at_call 67; (with_reducible refine (HG4.out _ EX.out).mono ?_); rintro e w4 ⟨⟨B4, d4, rfl, ho4⟩, hE4⟩; have O4 := Lib.hid ho4; have EX4 := Lib.hid hE4; have BZ := Lib.hid (BZ.out.ext hE4); have EX := Lib.hid (EX.out.next hE4); clear hE4; clear ho4)
                    | (go_at_call 68; (with_reducible refine (HG5.out _ EX.out).mono ?_); rintro e w5 ⟨rfl, hE5⟩; have EX5 := Lib.hid hE5; have BZ := Lib.hid (BZ.out.ext hE5); have EX := Lib.hid (EX.out.next hE5); clear hE5)
                    | ((with_reducible refine wpList_slice_rest rfl 36 (.tmp 36) (.tmp 37) rfl elem_u8 elem_sz ?_ ?_ HS1.out.1 HS1.out.2.1 HS1.out.2.2.1 HS1.out.2.2.2 ?_); kernel_rfl; kernel_rfl)
                    | ((with_reducible refine wpList_slice_rest rfl 36 (.tmp 58) (.tmp 59) rfl elem_u8 elem_sz ?_ ?_ HS2.out.1 HS2.out.2.1 HS2.out.2.2.1 HS2.out.2.2.2 ?_); kernel_rfl; kernel_rfl)
                    | ((with_reducible refine wpList_slice_rest rfl 36 (.tmp 78) (.tmp 79) rfl elem_u8 elem_sz ?_ ?_ HS3.out.1 HS3.out.2.1 HS3.out.2.2.1 HS3.out.2.2.2 ?_); kernel_rfl; kernel_rfl)
                    | ((with_reducible refine wpList_slice_rest rfl 36 (.tmp 94) (.tmp 97) rfl elem_u8 elem_sz ?_ ?_ HS4.out.1 HS4.out.2.1 HS4.out.2.2.1 HS4.out.2.2.2 ?_); kernel_rfl; kernel_rfl)
                    | (refine wpList_build_eq (by rfl) 27 _ rfl _ (by kernel_rfl) Z0 build_rev0 ?_)
                    | (refine wpList_store_blk rfl 27 (.tmp 2) (.tmp 73) rfl w.heap.size Z0 (by kernel_rfl) (by kernel_rfl) BZ.out info_rev rfl (revC_one rev0 none 0 0) ?_; intro w9 hw9 hb9; have E9 : Hid (Ext w w9) := Lib.hid (by rw [hw9.out]; exact EX.out.setRow (Nat.le_refl _) _)))
              refine bodyPost_ret (results_blk_bit Try.results42 _ _ w.heap.size 27 Z0 _ rfl hb9 Try.underlying27 rfl info_rev) rfl ?_
              exact ⟨rfl, E9.out⟩
      · have hne : (e2 == 0) = false := by simpa using he2
        clear hbad
        go_enter Try.func42, Try.ntmps42
        go_upto_region 1 with fail
        obtain ⟨w1, hw1⟩ : ∃ x, x = w.alloc (.cells Z0.toArray 27) := ⟨_, rfl⟩
        change Code.wp _ _ _ _ (w.alloc (.cells Z0.toArray 27))
        rw [← hw1]
        have EX : Hid (Ext w w1) := Lib.hid (by rw [hw1]; exact (Ext.refl w).alloc _)
        have BZ : Hid (Blk w1 w.heap.size 27 Z0) := Lib.hid (by rw [hw1]; exact Blk.fresh' _ _ _ _ _ rfl rfl)
        clear hw1
        go_wp2_with (first
              | (go_at_call 65; (with_reducible refine (HG1.out _ EX.out).mono ?_); rintro e w2 ⟨⟨B1, d1, rfl, ho1⟩, hE2⟩; have O1 := Lib.hid ho1; have EX1 := Lib.hid hE2; have BZ := Lib.hid (BZ.out.ext hE2); have EX := Lib.hid (EX.out.next hE2); clear hE2; clear ho1)
              | (go_at_call 65; (with_reducible refine (HG3.out _ EX.out).mono ?_); rintro e w3 ⟨⟨B3, d3, rfl, ho3⟩, hE3⟩; have O3 := Lib.hid ho3; have EX3 := Lib.hid hE3; have BZ := Lib.hid (BZ.out.ext hE3); have EX := Lib.hid (EX.out.next hE3); clear hE3; clear ho3)
              | (go_at_call 66; (with_reducible refine (HG2.out _ EX.out).mono ?_); rintro e w7 ⟨rfl, hE7⟩; have EX2 := Lib.hid hE7; have BZ := Lib.hid (BZ.out.ext hE7); have EX := Lib.hid (EX.out.next hE7); clear hE7)
              | (go_at_call 67; (with_reducible refine (HG4.out _ EX.out).mono ?_); rintro e w4 ⟨⟨B4, d4, rfl, ho4⟩, hE4⟩; have O4 := Lib.hid ho4; have EX4 := Lib.hid hE4; have BZ := Lib.hid (BZ.out.ext hE4); have EX := Lib.hid (EX.out.next hE4); clear hE4; clear ho4)
              | (go_at_call 68; (with_reducible refine (HG5.out _ EX.out).mono ?_); rintro e w5 ⟨rfl, hE5⟩; have EX5 := Lib.hid hE5; have BZ := Lib.hid (BZ.out.ext hE5); have EX := Lib.hid (EX.out.next hE5); clear hE5)
              | ((with_reducible refine wpList_slice_rest rfl 36 (.tmp 36) (.tmp 37) rfl elem_u8 elem_sz ?_ ?_ HS1.out.1 HS1.out.2.1 HS1.out.2.2.1 HS1.out.2.2.2 ?_); kernel_rfl; kernel_rfl)
              | ((with_reducible refine wpList_slice_rest rfl 36 (.tmp 58) (.tmp 59) rfl elem_u8 elem_sz ?_ ?_ HS2.out.1 HS2.out.2.1 HS2.out.2.2.1 HS2.out.2.2.2 ?_); kernel_rfl; kernel_rfl)
              | ((with_reducible refine wpList_slice_rest rfl 36 (.tmp 78) (.tmp 79) rfl elem_u8 elem_sz ?_ ?_ HS3.out.1 HS3.out.2.1 HS3.out.2.2.1 HS3.out.2.2.2 ?_); kernel_rfl; kernel_rfl)
              | ((with_reducible refine wpList_slice_rest rfl 36 (.tmp 94) (.tmp 97) rfl elem_u8 elem_sz ?_ ?_ HS4.out.1 HS4.out.2.1 HS4.out.2.2.1 HS4.out.2.2.2 ?_); kernel_rfl; kernel_rfl)
              | (refine wpList_build_eq (by rfl) 27 _ rfl _ (by kernel_rfl) Z0 build_rev0 ?_)
              | (refine wpList_store_blk rfl 27 (.tmp 2) (.tmp 53) rfl w.heap.size Z0 (by kernel_rfl) (by kernel_rfl) BZ.out info_rev rfl (revC_one rev0 none 0 0) ?_; intro w9 hw9 hb9; have E9 : Hid (Ext w w9) := Lib.hid (by rw [hw9.out]; exact EX.out.setRow (Nat.le_refl _) _)))
        refine bodyPost_ret (results_blk_bit Try.results42 _ _ w.heap.size 27 Z0 _ rfl hb9 Try.underlying27 rfl info_rev) rfl ?_
        exact ⟨rfl, E9.out⟩
    · have hne : ((k1 : Int) == 3) = false := by simpa using fun h : (k1 : Int) = 3 => hk1 (by omega)
      clear hbad hk1
      go_enter Try.func42, Try.ntmps42
      go_upto_region 1 with fail
      obtain ⟨w1, hw1⟩ : ∃ x, x = w.alloc (.cells Z0.toArray 27) := ⟨_, rfl⟩
      change Code.wp _ _ _ _ (w.alloc (.cells Z0.toArray 27))
      rw [← hw1]
      have EX : Hid (Ext w w1) := Lib.hid (by rw [hw1]; exact (Ext.refl w).alloc _)
      have BZ : Hid (Blk w1 w.heap.size 27 Z0) := Lib.hid (by rw [hw1]; exact Blk.fresh' _ _ _ _ _ rfl rfl)
      clear hw1
      go_wp2_with (first
            | (go_at_call 65; (with_reducible refine (HG1.out _ EX.out).mono ?_); rintro e w2 ⟨⟨B1, d1, rfl, ho1⟩, hE2⟩; have O1 := Lib.hid ho1; have EX1 := Lib.hid hE2; have BZ := Lib.hid (BZ.out.ext hE2); have EX := Lib.hid (EX.out.next hE2); clear hE2; clear ho1)
            | (go_at_call 65; (with_reducible refine (HG3.out _ EX.out).mono ?_); rintro e w3 ⟨⟨B3, d3, rfl, ho3⟩, hE3⟩; have O3 := Lib.hid ho3; have EX3 := Lib.hid hE3; have BZ := Lib.hid (BZ.out.ext hE3); have EX := Lib.hid (EX.out.next hE3); clear hE3; clear ho3)
            | (go_at_call 66; (with_reducible refine (HG2.out _ EX.out).mono ?_); rintro e w7 ⟨rfl, hE7⟩; have EX2 := Lib.hid hE7; have BZ := Lib.hid (BZ.out.ext hE7); have EX := Lib.hid (EX.out.next hE7); clear hE7)
            | (go_at_call 67; (with_reducible refine (HG4.out _ EX.out).mono ?_); rintro e w4 ⟨⟨B4, d4, rfl, ho4⟩, hE4⟩; have O4 := Lib.hid ho4; have EX4 := Lib.hid hE4; have BZ := Lib.hid (BZ.out.ext hE4); have EX := Lib.hid (EX.out.next hE4); clear hE4; clear ho4)
            | (go_at_call 68; (with_reducible refine (HG5.out _ EX.out).mono ?_); rintro e w5 ⟨rfl, hE5⟩; have EX5 := Lib.hid hE5; have BZ := Lib.hid (BZ.out.ext hE5); have EX := Lib.hid (EX.out.next hE5); clear hE5)
            | ((with_reducible refine wpList_slice_rest rfl 36 (.tmp 36) (.tmp 37) rfl elem_u8 elem_sz ?_ ?_ HS1.out.1 HS1.out.2.1 HS1.out.2.2.1 HS1.out.2.2.2 ?_); kernel_rfl; kernel_rfl)
            | ((with_reducible refine wpList_slice_rest rfl 36 (.tmp 58) (.tmp 59) rfl elem_u8 elem_sz ?_ ?_ HS2.out.1 HS2.out.2.1 HS2.out.2.2.1 HS2.out.2.2.2 ?_); kernel_rfl; kernel_rfl)
            | ((with_reducible refine wpList_slice_rest rfl 36 (.tmp 78) (.tmp 79) rfl elem_u8 elem_sz ?_ ?_ HS3.out.1 HS3.out.2.1 HS3.out.2.2.1 HS3.out.2.2.2 ?_); kernel_rfl; kernel_rfl)
            | ((with_reducible refine wpList_slice_rest rfl 36 (.tmp 94) (.tmp 97) rfl elem_u8 elem_sz ?_ ?_ HS4.out.1 HS4.out.2.1 HS4.out.2.2.1 HS4.out.2.2.2 ?_); kernel_rfl; kernel_rfl)
            | (refine wpList_build_eq (by rfl) 27 _ rfl _ (by kernel_rfl) Z0 build_rev0 ?_)
            | (refine wpList_store_blk rfl 27 (.tmp 2) (.tmp 34) rfl w.heap.size Z0 (by kernel_rfl) (by kernel_rfl) BZ.out info_rev rfl (revC_one rev0 none 0 0) ?_; intro w9 hw9 hb9; have E9 : Hid (Ext w w9) := Lib.hid (by rw [hw9.out]; exact EX.out.setRow (Nat.le_refl _) _)))
      refine bodyPost_ret (results_blk_bit Try.results42 _ _ w.heap.size 27 Z0 _ rfl hb9 Try.underlying27 rfl info_rev) rfl ?_
      exact ⟨rfl, E9.out⟩
  · have hne : (e1 == 0) = false := by simpa using he1
    clear hbad he1
    go_enter Try.func42, Try.ntmps42
    go_upto_region 1 with fail
    obtain ⟨w1, hw1⟩ : ∃ x, x = w.alloc (.cells Z0.toArray 27) := ⟨_, rfl⟩
    change Code.wp _ _ _ _ (w.alloc (.cells Z0.toArray 27))
    rw [← hw1]
    have EX : Hid (Ext w w1) := Lib.hid (by rw [hw1]; exact (Ext.refl w).alloc _)
    have BZ : Hid (Blk w1 w.heap.size 27 Z0) := Lib.hid (by rw [hw1]; exact Blk.fresh' _ _ _ _ _ rfl rfl)
    clear hw1
    go_wp2_with (first
          | (go_at_call 65; (with_reducible refine (HG1.out _ EX.out).mono ?_); rintro e w2 ⟨⟨B1, d1, rfl, ho1⟩, hE2⟩; have O1 := Lib.hid ho1; have EX1 := Lib.hid hE2; have BZ := Lib.hid (BZ.out.ext hE2); have EX := Lib.hid (EX.out.next hE2); clear hE2; clear ho1)
          | (go_at_call 65; (with_reducible refine (HG3.out _ EX.out).mono ?_); rintro e w3 ⟨⟨B3, d3, rfl, ho3⟩, hE3⟩; have O3 := Lib.hid ho3; have EX3 := Lib.hid hE3; have BZ := Lib.hid (BZ.out.ext hE3); have EX := Lib.hid (EX.out.next hE3); clear hE3; clear ho3)
          | (go_at_call 66; (with_reducible refine (HG2.out _ EX.out).mono ?_); rintro e w7 ⟨rfl, hE7⟩; have EX2 := Lib.hid hE7; have BZ := Lib.hid (BZ.out.ext hE7); have EX := Lib.hid (EX.out.next hE7); clear hE7)
          | (go_at_call 67; (with_reducible refine (HG4.out _ EX.out).mono ?_); rintro e w4 ⟨⟨B4, d4, rfl, ho4⟩, hE4⟩; have O4 := Lib.hid ho4; have EX4 := Lib.hid hE4; have BZ := Lib.hid (BZ.out.ext hE4); have EX := Lib.hid (EX.out.next hE4); clear hE4; clear ho4)
          | (go_at_call 68; (with_reducible refine (HG5.out _ EX.out).mono ?_); rintro e w5 ⟨rfl, hE5⟩; have EX5 := Lib.hid hE5; have BZ := Lib.hid (BZ.out.ext hE5); have EX := Lib.hid (EX.out.next hE5); clear hE5)
          | ((with_reducible refine wpList_slice_rest rfl 36 (.tmp 36) (.tmp 37) rfl elem_u8 elem_sz ?_ ?_ HS1.out.1 HS1.out.2.1 HS1.out.2.2.1 HS1.out.2.2.2 ?_); kernel_rfl; kernel_rfl)
          | ((with_reducible refine wpList_slice_rest rfl 36 (.tmp 58) (.tmp 59) rfl elem_u8 elem_sz ?_ ?_ HS2.out.1 HS2.out.2.1 HS2.out.2.2.1 HS2.out.2.2.2 ?_); kernel_rfl; kernel_rfl)
          | ((with_reducible refine wpList_slice_rest rfl 36 (.tmp 78) (.tmp 79) rfl elem_u8 elem_sz ?_ ?_ HS3.out.1 HS3.out.2.1 HS3.out.2.2.1 HS3.out.2.2.2 ?_); kernel_rfl; kernel_rfl)
          | ((with_reducible refine wpList_slice_rest rfl 36 (.tmp 94) (.tmp 97) rfl elem_u8 elem_sz ?_ ?_ HS4.out.1 HS4.out.2.1 HS4.out.2.2.1 HS4.out.2.2.2 ?_); kernel_rfl; kernel_rfl)
          | (refine wpList_build_eq (by rfl) 27 _ rfl _ (by kernel_rfl) Z0 build_rev0 ?_)
          | (refine wpList_store_blk rfl 27 (.tmp 2) (.tmp 34) rfl w.heap.size Z0 (by kernel_rfl) (by kernel_rfl) BZ.out info_rev rfl (revC_one rev0 none 0 0) ?_; intro w9 hw9 hb9; have E9 : Hid (Ext w w9) := Lib.hid (by rw [hw9.out]; exact EX.out.setRow (Nat.le_refl _) _)))
    refine bodyPost_ret (results_blk_bit Try.results42 _ _ w.heap.size 27 Z0 _ rfl hb9 Try.underlying27 rfl info_rev) rfl ?_
    exact ⟨rfl, E9.out⟩
set_option maxHeartbeats 16000000 in
set_option maxRecDepth 100000 in
theorem rread_good (l : List Int) (A : Option Addr) (n c : Nat) (w : World) (hl : Rd w w.heap.size A n (u8s l)) (hby : Byt l) (hnc : n ≤ c) (hc : c ≤ 9223372036854775807) (hn : n ≤ 1000000000000) (hgood : ¬ (bad1 l ∨ bad2 l ∨ bad2q l ∨ bad3 l ∨ bad4 l)) :
    Calls Try.prog 42 #[.slice A n c] w fun e w' => (∃ A' n' c', e = .returned (.tuple #[.agg (revC (revAt l) A' n' c').toArray, .bool (decide ((cut5 l).2.2 = 0))]) ∧ RevV w' (revAt l) A' n' c' ∧ ∀ a, A' = some a → w.heap.size ≤ a.block) ∧ Ext w w' := by
  have hlen : l.length = n := by have := hl.1; simpa [u8s] using this
  -- the letters of the five parts
  obtain ⟨u1, k1, e1, hu1, hk1, he1, hu1n, hk1n⟩ : ∃ (u k : Nat) (e : Int), (u : Int) = (cut1 l).2.1 ∧ k = (cut1 l).1.length ∧ e = (cut1 l).2.2 ∧ u ≤ n ∧ k ≤ n := by
    rcases cut1_cases l hby with ⟨_, h1, h2⟩ | ⟨xs, u, hg, hu, henc, _⟩
    · exact ⟨0, 0, _, by rw [h2]; rfl, by rw [h1]; rfl, rfl, Nat.zero_le _, Nat.zero_le _⟩
    · exact ⟨u, xs.length, _, by rw [hg], by rw [hg], rfl, by omega, by have := encL_ge xs l u henc; omega⟩
  obtain ⟨A1, hA1⟩ : ∃ a, a = restA A c u1 := ⟨_, rfl⟩
  obtain ⟨m1, hm1⟩ : ∃ m, m = n - u1 := ⟨_, rfl⟩
  obtain ⟨c1, hc1⟩ : ∃ m, m = c - u1 := ⟨_, rfl⟩
  have hr1 : rest1 l = l.drop u1 := by unfold rest1; rw [← hu1]; rfl
  have hb1 : Byt (rest1 l) := by rw [hr1]; exact hby.drop _
  have hl1 : Rd w w.heap.size A1 m1 (u8s (rest1 l)) := by rw [hr1]; exact rd_restA hl hA1 hm1 hu1n hnc
  have hlen1 : (rest1 l).length = m1 := by have := hl1.1; simpa [u8s] using this
  obtain ⟨x2, u2, e2, hx2, hu2, he2, hu2n⟩ : ∃ (x : Int) (u : Nat) (e : Int), x = (cut2 l).1 ∧ (u : Int) = (cut2 l).2.1 ∧ e = (cut2 l).2.2 ∧ u ≤ m1 := by
    rcases getI_cases' (rest1 l) hb1 with ⟨_, h1, h2⟩ | ⟨x, u, hg, hu, _⟩
    · exact ⟨_, 0, _, rfl, by unfold cut2; rw [h2]; rfl, rfl, Nat.zero_le _⟩
    · exact ⟨_, u, _, rfl, by unfold cut2; rw [hg], rfl, by omega⟩
  obtain ⟨A2, hA2⟩ : ∃ a, a = restA A c (u1 + u2) := ⟨_, rfl⟩
  obtain ⟨m2, hm2⟩ : ∃ m, m = n - (u1 + u2) := ⟨_, rfl⟩
  obtain ⟨c2, hc2⟩ : ∃ m, m = c - (u1 + u2) := ⟨_, rfl⟩
  have hr2 : rest2 l = l.drop (u1 + u2) := by unfold rest2; rw [← hu2, hr1, Int.toNat_natCast, List.drop_drop]
  have hb2 : Byt (rest2 l) := by rw [hr2]; exact hby.drop _
  have hl2 : Rd w w.heap.size A2 m2 (u8s (rest2 l)) := by rw [hr2]; exact rd_restA hl hA2 hm2 (by omega) hnc
  have hlen2 : (rest2 l).length = m2 := by have := hl2.1; simpa [u8s] using this
  obtain ⟨u3, k3, e3, hu3, hk3, he3, hu3n, hk3n⟩ : ∃ (u k : Nat) (e : Int), (u : Int) = (cut3 l).2.1 ∧ k = (cut3 l).1.length ∧ e = (cut3 l).2.2 ∧ u ≤ m2 ∧ k ≤ m2 := by
    rcases cut1_cases (rest2 l) hb2 with ⟨_, h1, h2⟩ | ⟨xs, u, hg, hu, henc, _⟩
    · exact ⟨0, 0, _, by unfold cut3; unfold cut1 at h2; rw [h2]; rfl, by unfold cut3; unfold cut1 at h1; rw [h1]; rfl, rfl, Nat.zero_le _, Nat.zero_le _⟩
    · exact ⟨u, xs.length, _, by unfold cut3; unfold cut1 at hg; rw [hg], by unfold cut3; unfold cut1 at hg; rw [hg], rfl, by omega, by have := encL_ge xs _ u henc; omega⟩
  obtain ⟨A3, hA3⟩ : ∃ a, a = restA A c (u1 + u2 + u3) := ⟨_, rfl⟩
  obtain ⟨m3, hm3⟩ : ∃ m, m = n - (u1 + u2 + u3) := ⟨_, rfl⟩
  obtain ⟨c3, hc3⟩ : ∃ m, m = c - (u1 + u2 + u3) := ⟨_, rfl⟩
  have hr3 : rest3 l = l.drop (u1 + u2 + u3) := by unfold rest3; rw [← hu3, hr2, Int.toNat_natCast, List.drop_drop]
  have hb3 : Byt (rest3 l) := by rw [hr3]; exact hby.drop _
  have hl3 : Rd w w.heap.size A3 m3 (u8s (rest3 l)) := by rw [hr3]; exact rd_restA hl hA3 hm3 (by omega) hnc
  have hlen3 : (rest3 l).length = m3 := by have := hl3.1; simpa [u8s] using this
  obtain ⟨u4, k4, e4, hu4, hk4, he4, hu4n⟩ : ∃ (u k : Nat) (e : Int), (u : Int) = (cut4 l).2.1 ∧ k = (cut4 l).1.length ∧ e = (cut4 l).2.2 ∧ u ≤ m3 := by
    rcases decD_cases' (rest3 l) hb3 with ⟨_, h1, h2⟩ | ⟨ds, u, hg, hu, _⟩
    · exact ⟨0, 0, _, by unfold cut4; rw [h2]; rfl, by unfold cut4; rw [h1]; rfl, rfl, Nat.zero_le _⟩
    · exact ⟨u, ds.length, _, by unfold cut4; rw [hg], by unfold cut4; rw [hg], rfl, by omega⟩
  obtain ⟨A4, hA4⟩ : ∃ a, a = restA A c (u1 + u2 + u3 + u4) := ⟨_, rfl⟩
  obtain ⟨m4, hm4⟩ : ∃ m, m = n - (u1 + u2 + u3 + u4) := ⟨_, rfl⟩
  obtain ⟨c4, hc4⟩ : ∃ m, m = c - (u1 + u2 + u3 + u4) := ⟨_, rfl⟩
  have hr4 : rest4 l = l.drop (u1 + u2 + u3 + u4) := by unfold rest4; rw [← hu4, hr3, Int.toNat_natCast, List.drop_drop]
  have hb4 : Byt (rest4 l) := by rw [hr4]; exact hby.drop _
  have hl4 : Rd w w.heap.size A4 m4 (u8s (rest4 l)) := by rw [hr4]; exact rd_restA hl hA4 hm4 (by omega) hnc
  have hlen4 : (rest4 l).length = m4 := by have := hl4.1; simpa [u8s] using this
  obtain ⟨s5, u5, e5, hs5, hu5, he5⟩ : ∃ (s : ByteArray) (u : Int) (e : Int), s = (cut5 l).1 ∧ u = (cut5 l).2.1 ∧ e = (cut5 l).2.2 := ⟨_, _, _, rfl, rfl, rfl⟩
  have HS1 : Hid (u1 ≤ n ∧ A1 = restA A c u1 ∧ m1 = n - u1 ∧ c1 = c - u1) := Lib.hid ⟨hu1n, hA1, hm1, hc1⟩
  have HS2 : Hid ((u1 + u2) ≤ n ∧ A2 = restA A c (u1 + u2) ∧ m2 = n - (u1 + u2) ∧ c2 = c - (u1 + u2)) := Lib.hid ⟨by omega, hA2, hm2, hc2⟩
  have HS3 : Hid ((u1 + u2 + u3) ≤ n ∧ A3 = restA A c (u1 + u2 + u3) ∧ m3 = n - (u1 + u2 + u3) ∧ c3 = c - (u1 + u2 + u3)) := Lib.hid ⟨by omega, hA3, hm3, hc3⟩
  have HS4 : Hid ((u1 + u2 + u3 + u4) ≤ n ∧ A4 = restA A c (u1 + u2 + u3 + u4) ∧ m4 = n - (u1 + u2 + u3 + u4) ∧ c4 = c - (u1 + u2 + u3 + u4)) := Lib.hid ⟨by omega, hA4, hm4, hc4⟩
  have HG1 : Hid (∀ W, Ext w W → Calls Try.prog 65 #[.slice A n c] W fun e w' => (∃ A' c', e = .returned (.tuple #[.slice A' k1 c', .int .i64 (u1 : Int), .int .i64 e1]) ∧ w'.ownsRow W.heap.size 3 1 (.slice A' k1 c') k1 ((cut1 l).1.map (Value.int .i64))) ∧ Ext W w') := Lib.hid (fun W hW => by
    have h := rgints_any l A n c W (hl.ext' hW) hby hnc hc hn
    unfold cut1 at hu1 hk1 he1 ⊢
    rw [← hu1, ← hk1, ← he1] at h
    exact h)
  have HG2 : Hid (∀ W, Ext w W → Calls Try.prog 66 #[.slice A1 m1 c1] W fun e w' => e = .returned (.tuple #[.int .i64 x2, .int .i64 (u2 : Int), .int .i64 e2]) ∧ Ext W w') := Lib.hid (fun W hW => by
    have h := rgint_any (rest1 l) A1 m1 c1 W (hl1.ext' hW) hb1 (by omega) (by omega)
    unfold tup3 at h
    unfold cut2 at hx2 hu2 he2
    rw [← hx2, ← hu2, ← he2] at h
    exact h)
  have HG3 : Hid (∀ W, Ext w W → Calls Try.prog 65 #[.slice A2 m2 c2] W fun e w' => (∃ A' c', e = .returned (.tuple #[.slice A' k3 c', .int .i64 (u3 : Int), .int .i64 e3]) ∧ w'.ownsRow W.heap.size 3 1 (.slice A' k3 c') k3 ((cut3 l).1.map (Value.int .i64))) ∧ Ext W w') := Lib.hid (fun W hW => by
    have h := rgints_any (rest2 l) A2 m2 c2 W (hl2.ext' hW) hb2 (by omega) (by omega) (by omega)
    unfold cut3 at hu3 hk3 he3 ⊢
    rw [← hu3, ← hk3, ← he3] at h
    exact h)
  have HG4 : Hid (∀ W, Ext w W → Calls Try.prog 67 #[.slice A3 m3 c3] W fun e w' => (∃ A' c', e = .returned (.tuple #[.slice A' k4 c', .int .i64 (u4 : Int), .int .i64 e4]) ∧ w'.ownsRow W.heap.size 25 16 (.slice A' k4 c') k4 (celD (cut4 l).1)) ∧ Ext W w') := Lib.hid (fun W hW => by
    have h := rgdigests_any (rest3 l) A3 m3 c3 W (hl3.ext' hW) hb3 (by omega) (by omega) (by omega)
    unfold cut4 at hu4 hk4 he4 ⊢
    rw [← hu4, ← hk4, ← he4] at h
    exact h)
  have HG5 : Hid (∀ W, Ext w W → Calls Try.prog 68 #[.slice A4 m4 c4] W fun e w' => e = .returned (.tuple #[.string s5, .int .i64 u5, .int .i64 e5]) ∧ Ext W w') := Lib.hid (fun W hW => by
    have h := rgbytes_any (rest4 l) A4 m4 c4 W (hl4.ext' hW) hb4 (by omega) (by omega) (by omega)
    unfold tupS at h
    unfold cut5 at hs5 hu5 he5
    rw [← hs5, ← hu5, ← he5] at h
    exact h)
  have zz : ∀ W, (zeroValue 27).run Try.prog W = .ok (.agg Z0.toArray) W := fun W => by kernel_rfl
  have hp2 : u1 + u2 ≤ n := by omega
  have hp3 : u1 + u2 + u3 ≤ n := by omega
  have hp4 : u1 + u2 + u3 + u4 ≤ n := by omega
  have hk3m : k3 ≤ 1000000000000 := by omega
  unfold bad1 bad2 bad2q bad3 bad4 at hgood
  rw [← he1, ← hk1, ← he2, ← hx2, ← he3, ← hk3, ← he4, ← hk4] at hgood
  have hG : e1 = 0 ∧ k1 = 3 ∧ e2 = 0 ∧ ¬ x2 < 0 ∧ ¬ 1 < x2 ∧ e3 = 0 ∧ k3 % 3 = 0 ∧ e4 = 0 ∧ k4 = 1 := by
    refine ⟨?_, ?_, ?_, fun h => hgood (by simp [h]), fun h => hgood (by simp [h]), ?_, ?_, ?_, ?_⟩ <;> apply Classical.byContradiction <;> intro h <;> apply hgood <;> simp [h]
  obtain ⟨rfl, rfl, rfl, hx20, hx21, rfl, hk33, rfl, rfl⟩ := hG
  clear hgood
  obtain ⟨m, hm⟩ : ∃ m, k3 = 3 * m := ⟨k3 / 3, by omega⟩
  obtain ⟨a0, a1, a2, hx1⟩ : ∃ a0 a1 a2, (cut1 l).1 = [a0, a1, a2] := by
    generalize (cut1 l).1 = xs at hk1
    match xs, hk1 with
    | [a, b, c], _ => exact ⟨_, _, _, rfl⟩
  obtain ⟨d, hd4, hdl, hdb⟩ : ∃ d, (cut4 l).1 = [d] ∧ d.length = 16 ∧ Byt d := by
    rcases decD_cases' (rest3 l) hb3 with ⟨h0, _⟩ | ⟨ds, u, hg, hu, _, h16⟩
    · unfold cut4 at he4; exact absurd he4.symm h0
    · have hds : (cut4 l).1 = ds := by unfold cut4; rw [hg]
      rw [hds] at hk4 ⊢
      match ds, hk4, h16 with
      | [d], _, h16 => exact ⟨d, rfl, (h16 d (List.mem_cons_self ..)).1, (h16 d (List.mem_cons_self ..)).2⟩
  obtain ⟨L3, hL3⟩ : ∃ L, L = (cut3 l).1 := ⟨_, rfl⟩
  have HREV : Hid (revAt l = ⟨a0, a1, a2, x2 == 1, ridsOf L3, d, s5⟩) := Lib.hid (by
    unfold revAt
    rw [hx1, hd4, ← hL3, ← hx2, ← hs5]
    rfl)
  have HE5 : Hid (decide ((cut5 l).2.2 = 0) = (e5 == 0)) := Lib.hid (by rw [← he5]; rfl)
  rw [hx1] at HG1
  rw [hd4] at HG4
  rw [← hL3] at HG3 hk3
  have HL3 : Hid (L3.length = k3) := Lib.hid hk3.symm
  have HM := Lib.hid hm
  have HDL := Lib.hid hdl
  have HDB := Lib.hid hdb
  have hrem : (k3 : Int).tmod 3 = 0 := by rw [Int.tmod_eq_emod_of_nonneg (by omega)]; omega
  have hrem2 : (k3 : Int) % 3 = 0 := by omega
  clear hl hl1 hl2 hl3 hl4 hA1 hA2 hA3 hA4 hm1 hm2 hm3 hm4 hc1 hc2 hc3 hc4 hr1 hr2 hr3 hr4 hb1 hb2 hb3 hb4 hlen hlen1 hlen2 hlen3 hlen4 hu2n hu3n hu4n hk3n hu1 hu2 hu3 hu4 hu5 hs5 hx2 hnc hc
  clear hk1 hk3 he1 he2 he3 he4 he5 hk4 hx1 hd4 hL3 hk33 hdl hdb hm
  go_enter Try.func42, Try.ntmps42
  go_upto_region 1 with fail
  obtain ⟨w1, hw1⟩ : ∃ x, x = w.alloc (.cells Z0.toArray 27) := ⟨_, rfl⟩
  change Code.wp _ _ _ _ (w.alloc (.cells Z0.toArray 27))
  rw [← hw1]
  have EX : Hid (Ext w w1) := Lib.hid (by rw [hw1]; exact (Ext.refl w).alloc _)
  have BZ : Hid (Blk w1 w.heap.size 27 Z0) := Lib.hid (by rw [hw1]; exact Blk.fresh' _ _ _ _ _ rfl rfl)
  clear hw1
  go_upto_region 16 with (go_loud (first
      | (go_at_call 65; (with_reducible refine (HG1.out _ EX.out).mono ?_); rintro e w2 ⟨⟨B1, d1, rfl, ho1⟩, hE2⟩; have O1 := Lib.hid ho1; have EX1 := Lib.hid hE2; have BZ := Lib.hid (BZ.out.ext hE2); have EX := Lib.hid (EX.out.next hE2); clear hE2; clear ho1)
      | (go_at_call 65; (with_reducible refine (HG3.out _ EX.out).mono ?_); rintro e w3 ⟨⟨B3, d3, rfl, ho3⟩, hE3⟩; have O3 := Lib.hid ho3; have EX3 := Lib.hid hE3; have BZ := Lib.hid (BZ.out.ext hE3); have EX := Lib.hid (EX.out.next hE3); clear hE3; clear ho3)
      | (go_at_call 66; (with_reducible refine (HG2.out _ EX.out).mono ?_); rintro e w7 ⟨rfl, hE7⟩; have EX2 := Lib.hid hE7; have BZ := Lib.hid (BZ.out.ext hE7); have EX := Lib.hid (EX.out.next hE7); clear hE7)
      | (go_at_call 67; (with_reducible refine (HG4.out _ EX.out).mono ?_); rintro e w4 ⟨⟨B4, d4, rfl, ho4⟩, hE4⟩; have O4 := Lib.hid ho4; have EX4 := Lib.hid hE4; have BZ := Lib.hid (BZ.out.ext hE4); have EX := Lib.hid (EX.out.next hE4); clear hE4; clear ho4)
      | (go_at_call 68; (with_reducible refine (HG5.out _ EX.out).mono ?_); rintro e w5 ⟨rfl, hE5⟩; have EX5 := Lib.hid hE5; have BZ := Lib.hid (BZ.out.ext hE5); have EX := Lib.hid (EX.out.next hE5); clear hE5)
      | ((with_reducible refine wpList_slice_rest rfl 36 (.tmp 36) (.tmp 37) rfl elem_u8 elem_sz ?_ ?_ HS1.out.1 HS1.out.2.1 HS1.out.2.2.1 HS1.out.2.2.2 ?_); kernel_rfl; kernel_rfl)
      | ((with_reducible refine wpList_slice_rest rfl 36 (.tmp 58) (.tmp 59) rfl elem_u8 elem_sz ?_ ?_ HS2.out.1 HS2.out.2.1 HS2.out.2.2.1 HS2.out.2.2.2 ?_); kernel_rfl; kernel_rfl)
      | ((with_reducible refine wpList_slice_rest rfl 36 (.tmp 78) (.tmp 79) rfl elem_u8 elem_sz ?_ ?_ HS3.out.1 HS3.out.2.1 HS3.out.2.2.1 HS3.out.2.2.2 ?_); kernel_rfl; kernel_rfl)
      | ((with_reducible refine wpList_slice_rest rfl 36 (.tmp 94) (.tmp 97) rfl elem_u8 elem_sz ?_ ?_ HS4.out.1 HS4.out.2.1 HS4.out.2.2.1 HS4.out.2.2.2 ?_); kernel_rfl; kernel_rfl)))
  have hlt5 := EX5.out.size
  obtain ⟨g1, rfl, hg1a, hg1, hg1c⟩ := own_at O1.out (by decide)
  obtain ⟨g4, rfl, hg4a, hg4, hg4c⟩ := own_at O4.out (by decide)
  have E25 : Hid (Ext w2 w5) := Lib.hid (EX2.out.next (EX3.out.next (EX4.out.next EX5.out)))
  have C10 : Hid (∀ W, Ext w5 W → W.cell? ⟨g1, 0, none⟩ = some (.int .i64 a0)) := Lib.hid (fun W hW => ((E25.out.next hW).cell (p := ⟨g1, 0, none⟩) hg1).trans (hg1c 0 _ rfl))
  have C11 : Hid (∀ W, Ext w5 W → W.cell? ⟨g1, 1, none⟩ = some (.int .i64 a1)) := Lib.hid (fun W hW => ((E25.out.next hW).cell (p := ⟨g1, 1, none⟩) hg1).trans (hg1c 1 _ rfl))
  have C12 : Hid (∀ W, Ext w5 W → W.cell? ⟨g1, 2, none⟩ = some (.int .i64 a2)) := Lib.hid (fun W hW => ((E25.out.next hW).cell (p := ⟨g1, 2, none⟩) hg1).trans (hg1c 2 _ rfl))
  have C4 : Hid (∀ W, Ext w5 W → W.rangeAt g4 0 (u8s d)) := Lib.hid (fun W hW j u hu => by
    rw [Nat.zero_add]
    refine ((EX5.out.next hW).cell (p := ⟨g4, j, none⟩) hg4).trans (hg4c j u ?_)
    rw [← hu]
    simp [celD])
  have E35 : Hid (Ext w3 w5) := Lib.hid (EX4.out.next EX5.out)
  clear hg1c hg4c hg1 hg4 hg1a hg4a hlt5
  refine wp_region_flowF 17 ?FW1 (fun us => ?_) (by kernel_rfl) (by kernel_rfl) (fun a b => Ext a b) Ext.refl (fun h1 h2 => h1.next h2) (fun i v W => match i with
    | 0 => v = .slice (some ⟨g1, 0, none⟩) 3 d1
    | 1 => v = .pointer (some ⟨g1, 0, none⟩)
    | 2 => v = .int .i64 a0
    | 3 => v = .slice (some ⟨g1, 0, none⟩) 3 d1
    | 4 => v = .pointer (some ⟨g1, 1, none⟩)
    | 5 => v = .int .i64 a1
    | 6 => v = .slice (some ⟨g1, 0, none⟩) 3 d1
    | 7 => v = .pointer (some ⟨g1, 2, none⟩)
    | 8 => v = .int .i64 a2
    | 9 => v = .int .i64 x2
    | 10 => v = .bool (x2 == 1)
    | 11 => v = .slice (some ⟨g4, 0, none⟩) 1 d4
    | 12 => v = .pointer (some ⟨g4, 0, none⟩)
    | 13 => v = .agg (u8s d).toArray
    | 14 => v = .string s5
    | 15 => v = .agg (revC ⟨a0, a1, a2, x2 == 1, [], d, s5⟩ none 0 0).toArray
    | 16 => ∃ g7, v = .pointer (some ⟨g7, 0, none⟩) ∧ Blk W g7 27 Z0 ∧ w5.heap.size ≤ g7
    | _ => True) ?_ ?_
  case refine_1 =>
    simp only [List.take_succ_cons, List.take_zero, flowAct, Nat.zero_add, Nat.reduceAdd, Act.put, List.setIfInBounds_toArray, List.set_cons_succ, List.set_cons_zero]
    rfl
  · simp only [List.take_succ_cons, List.take_zero, flowStepsF]
    refine ⟨?_, ?_, ?_, ?_, ?_, ?_, ?_, ?_, ?_, ?_, ?_, ?_, ?_, ?_, ?_, ?_, ?_, trivial⟩
    · intro us W K hE hd hK
      dsimp only at hK ⊢
      have HK := Lib.hid hK; have HE := Lib.hid hE
      clear hK hd hE
      go_wp2_with fail
      exact K_at (HK.out (.slice (some ⟨g1, 0, none⟩) 3 d1) W (fun _ _ => rfl) (Ext.refl W)) (by kernel_rfl)
    · intro us W K hE hd hK
      have d0 := hd 0 (by kernel_rfl)
      dsimp only at hK ⊢
      rw [d0] at hK ⊢
      have HK := Lib.hid hK; have HE := Lib.hid hE
      clear hK hd hE d0
      go_wp2_with fail
      exact K_at (HK.out (.pointer (some ⟨g1, 0, none⟩)) W (fun _ _ => rfl) (Ext.refl W)) (by kernel_rfl)
    · intro us W K hE hd hK
      have d1 := hd 1 (by kernel_rfl)
      have xk : W.cell? ⟨g1, 0, none⟩ = some (.int .i64 a0) := C10.out W (sg_undrew hE)
      dsimp only at hK ⊢
      rw [d1] at hK ⊢
      have HK := Lib.hid hK; have HE := Lib.hid hE
      clear hK hd hE d1
      go_wp2_with fail
      exact K_at (HK.out (.int .i64 a0) W (fun _ _ => rfl) (Ext.refl W)) (by kernel_rfl)
    · intro us W K hE hd hK
      dsimp only at hK ⊢
      have HK := Lib.hid hK; have HE := Lib.hid hE
      clear hK hd hE
      go_wp2_with fail
      exact K_at (HK.out (.slice (some ⟨g1, 0, none⟩) 3 d1) W (fun _ _ => rfl) (Ext.refl W)) (by kernel_rfl)
    · intro us W K hE hd hK
      have d3 := hd 3 (by kernel_rfl)
      dsimp only at hK ⊢
      rw [d3] at hK ⊢
      have HK := Lib.hid hK; have HE := Lib.hid hE
      clear hK hd hE d3
      go_wp2_with fail
      exact K_at (HK.out (.pointer (some ⟨g1, 1, none⟩)) W (fun _ _ => rfl) (Ext.refl W)) (by kernel_rfl)
    · intro us W K hE hd hK
      have d4 := hd 4 (by kernel_rfl)
      have xk : W.cell? ⟨g1, 1, none⟩ = some (.int .i64 a1) := C11.out W (sg_undrew hE)
      dsimp only at hK ⊢
      rw [d4] at hK ⊢
      have HK := Lib.hid hK; have HE := Lib.hid hE
      clear hK hd hE d4
      go_wp2_with fail
      exact K_at (HK.out (.int .i64 a1) W (fun _ _ => rfl) (Ext.refl W)) (by kernel_rfl)
    · intro us W K hE hd hK
      dsimp only at hK ⊢
      have HK := Lib.hid hK; have HE := Lib.hid hE
      clear hK hd hE
      go_wp2_with fail
      exact K_at (HK.out (.slice (some ⟨g1, 0, none⟩) 3 d1) W (fun _ _ => rfl) (Ext.refl W)) (by kernel_rfl)
    · intro us W K hE hd hK
      have d6 := hd 6 (by kernel_rfl)
      dsimp only at hK ⊢
      rw [d6] at hK ⊢
      have HK := Lib.hid hK; have HE := Lib.hid hE
      clear hK hd hE d6
      go_wp2_with fail
      exact K_at (HK.out (.pointer (some ⟨g1, 2, none⟩)) W (fun _ _ => rfl) (Ext.refl W)) (by kernel_rfl)
    · intro us W K hE hd hK
      have d7 := hd 7 (by kernel_rfl)
      have xk : W.cell? ⟨g1, 2, none⟩ = some (.int .i64 a2) := C12.out W (sg_undrew hE)
      dsimp only at hK ⊢
      rw [d7] at hK ⊢
      have HK := Lib.hid hK; have HE := Lib.hid hE
      clear hK hd hE d7
      go_wp2_with fail
      exact K_at (HK.out (.int .i64 a2) W (fun _ _ => rfl) (Ext.refl W)) (by kernel_rfl)
    · intro us W K hE hd hK
      dsimp only at hK ⊢
      have HK := Lib.hid hK; have HE := Lib.hid hE
      clear hK hd hE
      go_wp2_with fail
      exact K_at (HK.out (.int .i64 x2) W (fun _ _ => rfl) (Ext.refl W)) (by kernel_rfl)
    · intro us W K hE hd hK
      have d9 := hd 9 (by kernel_rfl)
      dsimp only at hK ⊢
      rw [d9] at hK ⊢
      have HK := Lib.hid hK; have HE := Lib.hid hE
      clear hK hd hE d9
      go_wp2_with fail
      exact K_at (HK.out (.bool (x2 == 1)) W (fun _ _ => rfl) (Ext.refl W)) (by kernel_rfl)
    · intro us W K hE hd hK
      dsimp only at hK ⊢
      have HK := Lib.hid hK; have HE := Lib.hid hE
      clear hK hd hE
      go_wp2_with fail
      exact K_at (HK.out (.slice (some ⟨g4, 0, none⟩) 1 d4) W (fun _ _ => rfl) (Ext.refl W)) (by kernel_rfl)
    · intro us W K hE hd hK
      have d11 := hd 11 (by kernel_rfl)
      dsimp only at hK ⊢
      rw [d11] at hK ⊢
      have HK := Lib.hid hK; have HE := Lib.hid hE
      clear hK hd hE d11
      go_wp2_with fail
      exact K_at (HK.out (.pointer (some ⟨g4, 0, none⟩)) W (fun _ _ => rfl) (Ext.refl W)) (by kernel_rfl)
    · intro us W K hE hd hK
      have d12 := hd 12 (by kernel_rfl)
      have HPW := Lib.hid (C4.out W (sg_undrew hE))
      dsimp only at hK ⊢
      rw [d12] at hK ⊢
      have HK := Lib.hid hK; have HE := Lib.hid hE
      clear hK hd hE d12
      go_wp2_with (go_loud (refine wpList_midw (by rfl) 25 (.tmp 115) rfl g4 0 rfl (u8s d) HPW.out Try.underlying25 rfl (info_dig.trans (congrArg some (by simp only [u8s, List.length_map, HDL.out]))) ?_))
      exact K_at (HK.out (.agg (u8s d).toArray) W (fun _ _ => rfl) (Ext.refl W)) (by kernel_rfl)
    · intro us W K hE hd hK
      dsimp only at hK ⊢
      have HK := Lib.hid hK; have HE := Lib.hid hE
      clear hK hd hE
      go_wp2_with fail
      exact K_at (HK.out (.string s5) W (fun _ _ => rfl) (Ext.refl W)) (by kernel_rfl)
    · intro us W K hE hd hK
      have d2 := hd 2 (by kernel_rfl)
      have d5 := hd 5 (by kernel_rfl)
      have d8 := hd 8 (by kernel_rfl)
      have d10 := hd 10 (by kernel_rfl)
      have d13 := hd 13 (by kernel_rfl)
      have d14 := hd 14 (by kernel_rfl)
      dsimp only at hK ⊢
      rw [d2, d5, d8, d10, d13, d14] at hK ⊢
      have HK := Lib.hid hK; have HE := Lib.hid hE
      clear hK hd hE d2 d5 d8 d10 d13 d14
      go_wp2_with (go_loud (refine wpList_build_eq (by rfl) 27 _ rfl _ (by kernel_rfl) _ (build_rev a0 a1 a2 (x2 == 1) d s5 HDL.out) ?_))
      exact K_at (HK.out (.agg (revC ⟨a0, a1, a2, x2 == 1, [], d, s5⟩ none 0 0).toArray) W (fun _ _ => rfl) (Ext.refl W)) (by kernel_rfl)
    · intro us W K hE hd hK
      dsimp only at hK ⊢
      have HK := Lib.hid hK; have HE := Lib.hid hE
      clear hK hd hE
      go_wp2_with fail
      exact K_at (HK.out (.pointer (some ⟨W.heap.size, 0, none⟩)) (W.alloc (.cells Z0.toArray 27)) (fun W2 h2 => ⟨_, rfl, (Blk.fresh W 27 Z0).ext h2, (sg_undrew HE.out).size⟩) ((Ext.refl W).alloc _)) (by kernel_rfl)
  · intro us W hE hd
    try dsimp only
    obtain ⟨pr, d16, hbz, hpw⟩ := hd 16 (by decide)
    have d15 := hd 15 (by decide)
    simp only [List.drop_succ_cons, List.drop_zero]
    rw [d15, d16]
    have EW := Lib.hid (sg_undrew hE)
    have HRL : Hid ((revC ⟨a0, a1, a2, x2 == 1, [], d, s5⟩ none 0 0).length = 22) := Lib.hid (revC_len ⟨a0, a1, a2, x2 == 1, [], d, s5⟩ none 0 0 HDL.out)
    have HBW := Lib.hid hbz
    have HPW := Lib.hid hpw
    clear hd hE d15 d16 hbz hpw
    go_upto_region 17 with (go_loud (refine wpList_store_blk rfl 27 (.tmp 19) (.tmp 118) rfl pr (revC ⟨a0, a1, a2, x2 == 1, [], d, s5⟩ none 0 0) (by kernel_rfl) (by kernel_rfl) HBW.out (info_rev.trans (congrArg some HRL.out.symm)) (Eq.trans (b := 22) rfl HRL.out.symm) (revC_one _ _ _ _) ?_; intro w6 hw6 hb6; have HB6 := Lib.hid hb6; have HPL : Hid (pr < w6.heap.size) := Lib.hid hb6.lt; have E6 : Hid (Ext w5 w6) := Lib.hid (by rw [hw6.out]; exact EW.out.setRow HPW.out _); clear hb6 hw6))
    simp only [Act.put]
    go_wp2_with fail
    obtain ⟨b3, o3, hB3, hc3⟩ : ∃ b o, (0 < k3 → B3 = some ⟨b, o, none⟩) ∧ ∀ j x, L3[j]? = some x → (b < w3.heap.size ∧ w3.cell? ⟨b, o + j, none⟩ = some (.int .i64 x)) := by
      rcases Nat.eq_zero_or_pos k3 with h0 | h0
      · exact ⟨0, 0, fun h => by omega, fun j x hx => by rw [List.eq_nil_of_length_eq_zero (HL3.out.trans h0)] at hx; cases hx⟩
      · obtain ⟨b, o, hA, hb, hcc⟩ := (rdn_own O3.out).2 h0
        refine ⟨b, o, fun _ => hA, fun j x hx => ⟨hb, hcc j _ ?_⟩⟩
        rw [List.getElem?_map, hx]; rfl
    have HC3 := Lib.hid hc3
    have HB3 := Lib.hid hB3
    clear hB3 hc3
    go_loopw [20] (fun v wr => ∃ (t : Nat) (A' : Option Addr) (c' : Nat), t ≤ m ∧ v = .int .i64 ((3 * t : Nat) : Int) ∧ wr.ownsRow w6.heap.size 57 3 (.slice A' t c') t (idsC ((ridsOf L3).take t)) ∧ Blk wr pr 27 (revC ⟨a0, a1, a2, x2 == 1, (ridsOf L3).take t, d, s5⟩ A' t c') ∧ Kept (fun b => b = pr) w6 wr) (fun v _ => k3 - (intOf v).toNat)
    case atStart => exact ⟨0, none, 0, Nat.zero_le _, rfl, World.ownsRow_nil _ _ _ _, HB6.out, Kept.refl _ _⟩
    case round =>
      obtain ⟨k, A', c', hk, rfl, h1, h2, h3⟩ := hrel
      have HO0 := Lib.hid h1; have HB0 := Lib.hid h2; have HK0 := Lib.hid h3
      clear h1 h2 h3
      obtain ⟨wo, rfl⟩ : ∃ x : World, x = wr := ⟨_, rfl⟩
      obtain ⟨j, hj⟩ : ∃ j, j = 3 * k := ⟨_, rfl⟩
      rw [← hj]
      have hm := HM.out
      by_cases hlt : k < m
      · obtain ⟨i0, hi, hz0, hz1, hz2⟩ := info_parts id_info
        have hjl : j + 2 < k3 := by omega
        have hB3e : B3 = some ⟨b3, o3, none⟩ := HB3.out (by omega)
        subst hB3e
        obtain ⟨y0, hy0⟩ : ∃ y, y = L3.getD (3 * k) 0 := ⟨_, rfl⟩
        obtain ⟨y1, hy1⟩ : ∃ y, y = L3.getD (3 * k + 1) 0 := ⟨_, rfl⟩
        obtain ⟨y2, hy2⟩ : ∃ y, y = L3.getD (3 * k + 2) 0 := ⟨_, rfl⟩
        have HPT : Hid ((ridsOf L3).take (k + 1) = (ridsOf L3).take k ++ [⟨y0, y1, y2⟩]) := Lib.hid (by rw [hy0, hy1, hy2]; exact ridsOf_take L3 m k (HL3.out.trans hm) hlt)
        have HY : Hid (∀ W, Ext wo W → ∀ i y, [y0, y1, y2][i]? = some y → W.cell? ⟨b3, o3 + (j + i), none⟩ = some (.int .i64 y)) := Lib.hid (fun W hW i y hy => by
          have hlen := HL3.out
          have hi3 : i < 3 := by have := (List.getElem?_eq_some_iff.1 hy).1; simpa using this
          have hyx : L3[j + i]? = some y := by
            rw [hj]
            rw [List.getElem?_eq_getElem (by omega)]
            rcases (show i = 0 ∨ i = 1 ∨ i = 2 by omega) with rfl | rfl | rfl
            · simp only [List.getElem?_cons_zero, Option.some.injEq] at hy; rw [← hy, hy0, List.getD_eq_getElem?_getD, List.getElem?_eq_getElem (by omega)]; rfl
            · simp only [List.getElem?_cons_succ, List.getElem?_cons_zero, Option.some.injEq] at hy; rw [← hy, hy1, List.getD_eq_getElem?_getD, List.getElem?_eq_getElem (by omega)]; rfl
            · simp only [List.getElem?_cons_succ, List.getElem?_cons_zero, Option.some.injEq] at hy; rw [← hy, hy2, List.getD_eq_getElem?_getD, List.getElem?_eq_getElem (by omega)]; rfl
          obtain ⟨hb, hcc⟩ := HC3.out (j + i) y hyx
          have h5 := E35.out.size
          have hpw := HPW.out
          have hpl := HPL.out
          have hwo := HK0.out.size
          exact (hW.cell (p := ⟨b3, o3 + (j + i), none⟩) (by show b3 < _; omega)).trans ((HK0.out.cell (p := ⟨b3, o3 + (j + i), none⟩) (by show b3 < _; omega) (by show ¬ b3 = pr; omega)).trans (((E35.out.next E6.out).cell (p := ⟨b3, o3 + (j + i), none⟩) hb).trans hcc)))
        clear hy0 hy1 hy2 hm
        obtain ⟨P, hP⟩ : ∃ P, P = (ridsOf L3).take k := ⟨_, rfl⟩
        rw [← hP] at HO0 HB0 HPT
        have HPE : Hid (idsC ((ridsOf L3).take (k + 1)) = idsC P ++ [.int .i64 y0, .int .i64 y1, .int .i64 y2]) := Lib.hid (by rw [HPT.out, idsC_app]; rfl)
        have hkm : k ≤ 1000000000000 := by omega
        clear hP
        have HJ := Lib.hid hj
        clear hj
        go_upto_region 20 with fail
        rw [show decide ((j : Int) + 2 < (k3 : Int)) = true from decide_eq_true (by omega)]
        refine wp_region_flowF 18 ?FW2 (fun us => ?_) (by kernel_rfl) (by kernel_rfl) (fun a b => Ext a b) Ext.refl (fun h1 h2 => h1.next h2) (fun i v W => match i with
          | 0 => v = .pointer (some ⟨pr, 4, none⟩)
          | 1 => v = .slice A' k c'
          | 2 => v = .slice (some ⟨b3, o3, none⟩) k3 d3
          | 3 => v = .int .i64 (j : Int)
          | 4 => v = .pointer (some ⟨b3, o3 + j, none⟩)
          | 5 => v = .int .i64 y0
          | 6 => v = .slice (some ⟨b3, o3, none⟩) k3 d3
          | 7 => v = .int .i64 (j : Int)
          | 8 => v = .int .i64 ((j : Int) + 1)
          | 9 => v = .pointer (some ⟨b3, o3 + (j + 1), none⟩)
          | 10 => v = .int .i64 y1
          | 11 => v = .slice (some ⟨b3, o3, none⟩) k3 d3
          | 12 => v = .int .i64 (j : Int)
          | 13 => v = .int .i64 ((j : Int) + 2)
          | 14 => v = .pointer (some ⟨b3, o3 + (j + 2), none⟩)
          | 15 => v = .int .i64 y2
          | 16 => v = .agg #[.int .i64 y0, .int .i64 y1, .int .i64 y2]
          | 17 => ∃ g7, v = .slice (some ⟨g7, 0, none⟩) 1 1 ∧ Blk W g7 57 [.int .i64 y0, .int .i64 y1, .int .i64 y2]
          | _ => True) ?_ ?_
        case refine_1 =>
          simp only [List.take_succ_cons, List.take_zero, flowAct, Nat.zero_add, Nat.reduceAdd, Act.put, List.setIfInBounds_toArray, List.set_cons_succ, List.set_cons_zero]
          rfl
        · simp only [List.take_succ_cons, List.take_zero, flowStepsF]
          refine ⟨?_, ?_, ?_, ?_, ?_, ?_, ?_, ?_, ?_, ?_, ?_, ?_, ?_, ?_, ?_, ?_, ?_, ?_, trivial⟩
          · intro us W K hE hd hK
            dsimp only at hK ⊢
            have HK := Lib.hid hK; have HE := Lib.hid hE
            clear hK hd hE
            go_wp2_with fail
            exact K_at (HK.out (.pointer (some ⟨pr, 4, none⟩)) W (fun _ _ => rfl) (Ext.refl W)) (by kernel_rfl)
          · intro us W K hE hd hK
            have d0 := hd 0 (by kernel_rfl)
            have xk : W.cell? ⟨pr, 4, none⟩ = some (.slice A' k c') := (HB0.out.ext (sg_undrew hE)).cell 4
            dsimp only at hK ⊢
            rw [d0] at hK ⊢
            have HK := Lib.hid hK; have HE := Lib.hid hE
            clear hK hd hE d0
            go_wp2_with fail
            exact K_at (HK.out (.slice A' k c') W (fun _ _ => rfl) (Ext.refl W)) (by kernel_rfl)
          · intro us W K hE hd hK
            dsimp only at hK ⊢
            have HK := Lib.hid hK; have HE := Lib.hid hE
            clear hK hd hE
            go_wp2_with fail
            exact K_at (HK.out (.slice (some ⟨b3, o3, none⟩) k3 d3) W (fun _ _ => rfl) (Ext.refl W)) (by kernel_rfl)
          · intro us W K hE hd hK
            dsimp only at hK ⊢
            have HK := Lib.hid hK; have HE := Lib.hid hE
            clear hK hd hE
            go_wp2_with fail
            exact K_at (HK.out (.int .i64 (j : Int)) W (fun _ _ => rfl) (Ext.refl W)) (by kernel_rfl)
          · intro us W K hE hd hK
            have d2 := hd 2 (by kernel_rfl)
            have d3 := hd 3 (by kernel_rfl)
            dsimp only at hK ⊢
            rw [d2, d3] at hK ⊢
            have HK := Lib.hid hK; have HE := Lib.hid hE
            clear hK hd hE d2 d3
            go_wp2_with fail
            exact K_at (HK.out (.pointer (some ⟨b3, o3 + j, none⟩)) W (fun _ _ => rfl) (Ext.refl W)) (by kernel_rfl)
          · intro us W K hE hd hK
            have d4 := hd 4 (by kernel_rfl)
            have xk : W.cell? ⟨b3, o3 + j, none⟩ = some (.int .i64 y0) := HY.out W (sg_undrew hE) 0 y0 rfl
            dsimp only at hK ⊢
            rw [d4] at hK ⊢
            have HK := Lib.hid hK; have HE := Lib.hid hE
            clear hK hd hE d4
            go_wp2_with fail
            exact K_at (HK.out (.int .i64 y0) W (fun _ _ => rfl) (Ext.refl W)) (by kernel_rfl)
          · intro us W K hE hd hK
            dsimp only at hK ⊢
            have HK := Lib.hid hK; have HE := Lib.hid hE
            clear hK hd hE
            go_wp2_with fail
            exact K_at (HK.out (.slice (some ⟨b3, o3, none⟩) k3 d3) W (fun _ _ => rfl) (Ext.refl W)) (by kernel_rfl)
          · intro us W K hE hd hK
            dsimp only at hK ⊢
            have HK := Lib.hid hK; have HE := Lib.hid hE
            clear hK hd hE
            go_wp2_with fail
            exact K_at (HK.out (.int .i64 (j : Int)) W (fun _ _ => rfl) (Ext.refl W)) (by kernel_rfl)
          · intro us W K hE hd hK
            have d7 := hd 7 (by kernel_rfl)
            dsimp only at hK ⊢
            rw [d7] at hK ⊢
            have HK := Lib.hid hK; have HE := Lib.hid hE
            clear hK hd hE d7
            go_wp2_with fail
            exact K_at (HK.out (.int .i64 ((j : Int) + 1)) W (fun _ _ => rfl) (Ext.refl W)) (by kernel_rfl)
          · intro us W K hE hd hK
            have d6 := hd 6 (by kernel_rfl)
            have d8 := hd 8 (by kernel_rfl)
            dsimp only at hK ⊢
            rw [d6, d8] at hK ⊢
            have HK := Lib.hid hK; have HE := Lib.hid hE
            clear hK hd hE d6 d8
            go_wp2_with fail
            exact K_at (HK.out (.pointer (some ⟨b3, o3 + (j + 1), none⟩)) W (fun _ _ => rfl) (Ext.refl W)) (by kernel_rfl)
          · intro us W K hE hd hK
            have d9 := hd 9 (by kernel_rfl)
            have xk : W.cell? ⟨b3, o3 + (j + 1), none⟩ = some (.int .i64 y1) := HY.out W (sg_undrew hE) 1 y1 rfl
            dsimp only at hK ⊢
            rw [d9] at hK ⊢
            have HK := Lib.hid hK; have HE := Lib.hid hE
            clear hK hd hE d9
            go_wp2_with fail
            exact K_at (HK.out (.int .i64 y1) W (fun _ _ => rfl) (Ext.refl W)) (by kernel_rfl)
          · intro us W K hE hd hK
            dsimp only at hK ⊢
            have HK := Lib.hid hK; have HE := Lib.hid hE
            clear hK hd hE
            go_wp2_with fail
            exact K_at (HK.out (.slice (some ⟨b3, o3, none⟩) k3 d3) W (fun _ _ => rfl) (Ext.refl W)) (by kernel_rfl)
          · intro us W K hE hd hK
            dsimp only at hK ⊢
            have HK := Lib.hid hK; have HE := Lib.hid hE
            clear hK hd hE
            go_wp2_with fail
            exact K_at (HK.out (.int .i64 (j : Int)) W (fun _ _ => rfl) (Ext.refl W)) (by kernel_rfl)
          · intro us W K hE hd hK
            have d12 := hd 12 (by kernel_rfl)
            dsimp only at hK ⊢
            rw [d12] at hK ⊢
            have HK := Lib.hid hK; have HE := Lib.hid hE
            clear hK hd hE d12
            go_wp2_with fail
            exact K_at (HK.out (.int .i64 ((j : Int) + 2)) W (fun _ _ => rfl) (Ext.refl W)) (by kernel_rfl)
          · intro us W K hE hd hK
            have d11 := hd 11 (by kernel_rfl)
            have d13 := hd 13 (by kernel_rfl)
            dsimp only at hK ⊢
            rw [d11, d13] at hK ⊢
            have HK := Lib.hid hK; have HE := Lib.hid hE
            clear hK hd hE d11 d13
            go_wp2_with fail
            exact K_at (HK.out (.pointer (some ⟨b3, o3 + (j + 2), none⟩)) W (fun _ _ => rfl) (Ext.refl W)) (by kernel_rfl)
          · intro us W K hE hd hK
            have d14 := hd 14 (by kernel_rfl)
            have xk : W.cell? ⟨b3, o3 + (j + 2), none⟩ = some (.int .i64 y2) := HY.out W (sg_undrew hE) 2 y2 rfl
            dsimp only at hK ⊢
            rw [d14] at hK ⊢
            have HK := Lib.hid hK; have HE := Lib.hid hE
            clear hK hd hE d14
            go_wp2_with fail
            exact K_at (HK.out (.int .i64 y2) W (fun _ _ => rfl) (Ext.refl W)) (by kernel_rfl)
          · intro us W K hE hd hK
            have d5 := hd 5 (by kernel_rfl)
            have d10 := hd 10 (by kernel_rfl)
            have d15 := hd 15 (by kernel_rfl)
            dsimp only at hK ⊢
            rw [d5, d10, d15] at hK ⊢
            have HK := Lib.hid hK; have HE := Lib.hid hE
            clear hK hd hE d5 d10 d15
            go_wp2_with (go_loud (refine wpList_build_eq (by rfl) 57 _ rfl _ (by kernel_rfl) _ (build_id y0 y1 y2) ?_))
            exact K_at (HK.out (.agg #[.int .i64 y0, .int .i64 y1, .int .i64 y2]) W (fun _ _ => rfl) (Ext.refl W)) (by kernel_rfl)
          · intro us W K hE hd hK
            have d16 := hd 16 (by kernel_rfl)
            dsimp only at hK ⊢
            rw [d16] at hK ⊢
            have HK := Lib.hid hK; have HE := Lib.hid hE
            clear hK hd hE d16
            go_wp2_with fail
            exact K_at (HK.out (.slice (some ⟨W.heap.size, 0, none⟩) 1 1) (W.alloc (.cells #[.int .i64 y0, .int .i64 y1, .int .i64 y2] 57)) (fun W2 h2 => ⟨_, rfl, (Blk.fresh W 57 [.int .i64 y0, .int .i64 y1, .int .i64 y2]).ext h2⟩) ((Ext.refl W).alloc _)) (by kernel_rfl)
        · intro us W hE hd
          try dsimp only
          obtain ⟨g7, d17, hb7⟩ := hd 17 (by decide)
          have d1 := hd 1 (by decide)
          simp only [List.drop_succ_cons, List.drop_zero]
          rw [d17, d1]
          have EW : Hid (Ext wo W) := Lib.hid (sg_undrew hE)
          have HOW : Hid (W.ownsRow w6.heap.size 57 3 (.slice A' k c') k (idsC P)) := Lib.hid ((Kept.of_ext EW.out (F := fun _ => False)).own HO0.out (fun _ _ h => h))
          have HR7 : Hid (RdN W W.heap.size 3 (some ⟨g7, 0, none⟩) 1 [.int .i64 y0, .int .i64 y1, .int .i64 y2]) := Lib.hid ⟨rfl, fun _ => ⟨g7, 0, rfl, hb7.lt, fun j u hu => by rw [Nat.zero_add]; exact (hb7.cell j).trans hu⟩⟩
          have BRW := Lib.hid (HB0.out.ext EW.out)
          have HSW : Hid (w6.heap.size ≤ W.heap.size) := Lib.hid (Nat.le_trans HK0.out.size EW.out.size)
          clear hd hE d17 d1 hb7
          go_wp2_with (go_loud (at_builtin; refine wpList_app rfl (.tmp 127) (.tmp 143) 23 rfl w6.heap.size 57 i0 (.agg #[.int .i64 0, .int .i64 0, .int .i64 0]) 3 24 Try.underlying23 hi hz0 hz1 hz2 rfl (by omega) A' k c' _ (by kernel_rfl) HOW.out W.heap.size (some ⟨g7, 0, none⟩) 1 1 [.int .i64 y0, .int .i64 y1, .int .i64 y2] (by kernel_rfl) HR7.out (idC_one ⟨y0, y1, y2⟩) (by simp only [maxLen]; omega) (by omega) HSW.out ?_; intro A5 c5 w8 ho5 hg5; have HO5 := Lib.hid ho5; have HG5 := Lib.hid hg5; have BP5 : Hid (Blk w8 pr 27 (revC ⟨a0, a1, a2, x2 == 1, P, d, s5⟩ A' k c')) := Lib.hid (BRW.out.grown hg5 (fun e => by have h1 := own_geq HOW.out e.symm; have h2 := HPL.out; omega)); have f5 := BP5.out.frozen 4; have c5c : w8.cell? ⟨pr, 4, none⟩ = some (.slice A' k c') := BP5.out.cell 4; clear ho5 hg5))
          have HF5 : Hid (Kept (fun b => b = pr ∨ (Value.slice A' k c').ownBlock = some b) wo (w8.setCell ⟨pr, 4, none⟩ (.slice A5 (k + 1) c5))) := Lib.hid (((Kept.of_ext EW.out).trans (Kept.of_grown HG5.out (fun b hb _ => Or.inr hb))).trans (Kept.setCell _ (Or.inl rfl) _))
          refine ⟨⟨k + 1, A5, c5, by omega, by have h1 := HJ.out; rw [show ((3 * (k + 1) : Nat) : Int) = (j : Int) + 3 by omega], ?_, ?_, ?_⟩, by simp [intOf]; omega⟩
          · rw [HPE.out]; exact (Kept.setCell (F := fun b => b = pr) (p := ⟨pr, 4, none⟩) w8 rfl _).own HO5.out (fun b hb h => by have h1 := own_geq HO5.out hb; have h2 := HPL.out; omega)
          · rw [HPT.out]; exact BP5.out.set 4 _
          · refine HK0.out.next HF5.out (fun b hb h => ?_)
            rcases h with h | h
            · exact h
            · have h1 := own_geq HO0.out h; omega
      · obtain rfl : k = m := by omega
        have hTK : (ridsOf L3).take k = ridsOf L3 := List.take_of_length_le (by rw [ridsOf_len L3 k (HL3.out.trans hm)]; exact Nat.le_refl _)
        rw [hTK] at HO0 HB0
        have HRLN : Hid ((revC ⟨a0, a1, a2, x2 == 1, ridsOf L3, d, s5⟩ A' k c').length = 22) := Lib.hid (revC_len _ _ _ _ HDL.out)
        have hjl : ¬ j + 2 < k3 := by omega
        have hBZ : Blk wo w.heap.size 27 Z0 := HK0.out.blk (BZ.out.ext E6.out) (by have h2 := HPW.out; have h3 := BZ.out.lt; omega)
        have HBZ := Lib.hid hBZ
        have HKM : Hid (k ≤ 1000000000000) := Lib.hid (by omega)
        clear hTK hBZ
        go_wp2_with (go_loud (first | (refine wpList_load_blk rfl 27 (.tmp 19) rfl pr (by kernel_rfl) HB0.out Try.underlying27 rfl (info_rev.trans (congrArg some HRLN.out.symm)) ?_) | (refine wpList_store_blk rfl 27 (.tmp 2) (.tmp 146) rfl w.heap.size (revC ⟨a0, a1, a2, x2 == 1, ridsOf L3, d, s5⟩ A' k c') (by kernel_rfl) (by kernel_rfl) HBZ.out (info_rev.trans (congrArg some HRLN.out.symm)) (Eq.trans (b := 22) rfl HRLN.out.symm) (revC_one _ _ _ _) ?_; intro w9 hw9 hb9)))
        refine bodyPost_ret (results_blk_bit Try.results42 _ _ w.heap.size 27 (revC ⟨a0, a1, a2, x2 == 1, ridsOf L3, d, s5⟩ A' k c') _ (by rfl) hb9 Try.underlying27 rfl (info_rev.trans (congrArg some HRLN.out.symm))) rfl ?_
        rw [hw9.out]
        have hgl : ∀ b, w6.heap.size ≤ b → ¬ b = w.heap.size := fun b hb h => by have h1 := HPL.out; have h2 := HPW.out; have h3 := BZ.out.lt; omega
        have hoF : (wo.setRow w.heap.size (revC ⟨a0, a1, a2, x2 == 1, ridsOf L3, d, s5⟩ A' k c').toArray).ownsRow w6.heap.size 57 3 (.slice A' k c') k (idsC (ridsOf L3)) := (Kept.setRow (F := fun b => b = w.heap.size) wo rfl _).own HO0.out (fun b hb h => hgl b (own_geq HO0.out hb) h)
        have hcF := slice_cap hoF
        unfold maxLen at hcF
        refine ⟨⟨A', k, c', by rw [HREV.out, HE5.out]; rfl, by rw [HREV.out]; exact ⟨rdn_own hoF, hcF.1, hcF.2, HKM.out, HDL.out, HDB.out⟩, fun a ha => by have h1 := own_far hoF ha; have h2 := HPL.out; have h3 := HPW.out; have h4 := BZ.out.lt; omega⟩, ?_⟩
        have hx : Kept (fun b => w.heap.size ≤ b) w6 (wo.setRow w.heap.size (revC ⟨a0, a1, a2, x2 == 1, ridsOf L3, d, s5⟩ A' k c').toArray) := (HK0.out.mono (fun b _ h => by have h2 := HPW.out; have h4 := BZ.out.lt; omega)).trans (Kept.setRow (F := fun b => w.heap.size ≤ b) wo (Nat.le_refl _) _)
        exact ((Kept.of_ext (EX.out.next E6.out)).trans hx).ext (fun b h => h)
theorem rread_any (l : List Int) (A : Option Addr) (n c : Nat) (w : World) (hl : Rd w w.heap.size A n (u8s l)) (hby : Byt l) (hnc : n ≤ c) (hc : c ≤ 9223372036854775807) (hn : n ≤ 1000000000000) : ReadsR (readQ l) 42 A n c w := by
  unfold ReadsR readQ
  by_cases h : bad1 l ∨ bad2 l ∨ bad2q l ∨ bad3 l ∨ bad4 l
  · rw [if_pos (by rcases h with h | h | h | h | h <;> simp [h])]
    exact (rread_bad l A n c w hl hby hnc hc hn h).mono (by rintro e w' ⟨rfl, hE⟩; exact ⟨⟨Z0, rfl, rfl, revC_one rev0 none 0 0⟩, hE⟩)
  · by_cases h5 : bad5 l
    · rw [if_pos (by simp [h5])]
      refine (rread_good l A n c w hl hby hnc hc hn h).mono ?_
      rintro e w' ⟨⟨A', n', c', rfl, hv, _⟩, hE⟩
      exact ⟨⟨_, by rw [decide_eq_false h5], revC_len _ _ _ _ hv.mean, revC_one _ _ _ _⟩, hE⟩
    · rw [if_neg (fun h' => h'.elim (fun h' => h (Or.inl h')) fun h' => h'.elim (fun h' => h (Or.inr (Or.inl h'))) fun h' => h'.elim (fun h' => h (Or.inr (Or.inr (Or.inl h')))) fun h' => h'.elim (fun h' => h (Or.inr (Or.inr (Or.inr (Or.inl h'))))) fun h' => h'.elim (fun h' => h (Or.inr (Or.inr (Or.inr (Or.inr h'))))) h5)]
      refine (rread_good l A n c w hl hby hnc hc hn h).mono ?_
      rintro e w' ⟨⟨A', n', c', rfl, hv, hf⟩, hE⟩
      exact ⟨⟨A', n', c', by rw [decide_eq_true (Classical.byContradiction fun h6 => h5 h6)], hv, hf⟩, hE⟩
end Go.Proofs.Ytphabdlcjpfbaaa
