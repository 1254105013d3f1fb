/- The walks of the reference's padded and words. No condition. -/
import Derived.Test.YtheaniplpmkhlaaDoorHashD
import Derived.Test.YtheaniplpmkhlaaDoorApp
namespace Go.Proofs.YtheaniplpmkhlaaDoor
open Go.RowKit
theorem one_u8 (x : Int) : ∀ u ∈ [Value.int .u8 x], u.oneCell' = true := u8s_one [x]
theorem padZ_zero : u8s (padZ 0) = [Value.int .u8 128] := rfl
set_option maxHeartbeats 400000 in
set_option maxRecDepth 100000 in
theorem padded_any (l : List Int) (A : Option Addr) (n c : Nat) (w : World) (hl : Rd w w.heap.size A n (u8s l)) (hn : n ≤ 1000000000000) :
    Calls Tryd.prog 27 #[.slice A n c] w fun e w' => (∃ A' c', e = .returned (.slice A' (n + (padOf n).length) c') ∧ w'.ownsRow w.heap.size 5 1 (.slice A' (n + (padOf n).length) c') (n + (padOf n).length) (u8s (l ++ padOf n))) ∧ Below w.heap.size w w' := by
  obtain ⟨i0, hi, hz0, hz1, hz2⟩ := info_parts info_u8
  have hlen : l.length = n := by simpa [u8s] using hl.1
  obtain ⟨z, hz⟩ : ∃ z, z = (119 - n % 64) % 64 := ⟨_, rfl⟩
  have HZ := Lib.hid hz
  have hzb : z < 64 := by omega
  have HLEN := Lib.hid hlen
  clear hz hlen
  go_enter Tryd.func27, Tryd.ntmps27
  go_wp2_with (first
    | (at_builtin; refine wpList_app rfl (.tmp 6) (.tmp 7) 22 rfl w.heap.size 5 i0 (.int .u8 0) 1 1 Tryd.underlying22 hi hz0 hz1 hz2 rfl (by omega) _ 0 0 [] rfl (own_lit w _ _ _ [] _ 0 rfl rfl (Nat.le_refl _) rfl (by decide)) w.heap.size A n c (u8s l) rfl ((RdN.of_Rd hl).keep fun p hp => World.cell?_alloc_lt _ _ _ hp) (u8s_one l) (by simp only [maxLen]; omega) (by omega) (by simp) ?_; intro A1 c1 w1 hown1 hg1; have hb1 := below_app ((Below.refl w.heap.size w).alloc (Nat.le_refl _) _) hg1 (own_lit w _ _ _ [] _ 0 rfl rfl (Nat.le_refl _) rfl (by decide)) (Nat.le_refl _) (by simp); have hs1 := hb1.size; simp only [Nat.zero_add, List.nil_append] at hown1)
    | (at_builtin; refine wpList_app rfl (.tmp 9) (.tmp 10) 22 rfl w.heap.size 5 i0 (.int .u8 0) 1 1 Tryd.underlying22 hi hz0 hz1 hz2 rfl (by omega) A1 n c1 (u8s l) rfl (hown1.alloc _) (w1.heap.size + 1) _ 1 1 [.int .u8 128] rfl (RdN.fresh [.int .u8 128] _ _ 1 1 rfl rfl rfl) (one_u8 _) (by simp only [maxLen]; omega) (by omega) (by simp; omega) ?_; intro A2 c2 w2 hown2 hg2; have hb2 := below_app (hb1.alloc (by omega) _) hg2 (hown1.alloc _) (Nat.le_refl _) (by simp; omega)))
  have hs2 := hb2.size
  go_loopw [3] (fun s3 wr => ∃ (A : Option Addr) (c j : Nat), s3 = .slice A (n + 1 + j) c ∧ j ≤ z ∧ wr.ownsRow w.heap.size 5 1 (.slice A (n + 1 + j) c) (n + 1 + j) (u8s (l ++ padZ j)) ∧ Below w.heap.size w wr)
    (fun s3 _ => n + 1 + z - slicelen s3)
  case atStart => exact ⟨A2, c2, 0, rfl, Nat.zero_le _, by rw [u8s_append, padZ_zero]; exact hown2, hb2⟩
  case round =>
    clear hown1 hg1 hb1 hs1 hown2 hg2 hb2 hs2
    obtain ⟨A3, c3, j, rfl, hj, hown, hB⟩ := hrel
    have hs := hB.size
    by_cases hjz : j < z
    · have ht : ((((n : Int) + 1 + (j : Int))) % 64 != 56) = true := by
        have := HZ.out
        rw [bne_iff_ne]; omega
      go_wp2_with (at_builtin; refine wpList_app rfl (.tmp 16) (.tmp 17) 22 rfl w.heap.size 5 i0 (.int .u8 0) 1 1 Tryd.underlying22 hi hz0 hz1 hz2 rfl (by omega) A3 _ c3 _ rfl (hown.alloc _) (wr.heap.size + 1) _ 1 1 [.int .u8 0] rfl (RdN.fresh [.int .u8 0] _ _ 1 1 rfl rfl rfl) (one_u8 _) (by simp only [maxLen]; omega) (by omega) (by simp; omega) ?_; intro A4 c4 w4 hown4 hg4; have hb4 := below_app (hB.alloc (by omega) _) hg4 (hown.alloc _) (Nat.le_refl _) (by simp; omega))
      go_roundw
      case rel => exact ⟨A4, c4, j + 1, rfl, by omega, by rw [u8s_append, ← padZ_succ, ← List.append_assoc, ← u8s_append]; exact hown4, hb4⟩
      case measure => simp [slicelen]; omega
    · obtain rfl : j = z := by omega
      have ht : ((((n : Int) + 1 + (j : Int))) % 64 != 56) = false := by
        have := HZ.out
        rw [bne_eq_false_iff_eq]; omega
      have hln : (8 * (n : Int)) ≤ 8000000000000 := by omega
      obtain ⟨wo, rfl⟩ : ∃ wo : World, wo = wr := ⟨_, rfl⟩
      go_wp2_with fail
      go_loopw [5, 3] (fun i s3 wr => ∃ (A : Option Addr) (c i' : Nat), i = .int .i64 i' ∧ s3 = .slice A (n + 1 + j + i') c ∧ i' ≤ 8 ∧ wr.ownsRow w.heap.size 5 1 (.slice A (n + 1 + j + i') c) (n + 1 + j + i') (u8s (l ++ padB n i')) ∧ Below w.heap.size w wr)
        (fun i _ _ => 8 - (intOf i).toNat)
      case atStart => exact ⟨_, _, 0, rfl, rfl, Nat.zero_le _, by rw [show padB n 0 = padZ j from by unfold padB; rw [HZ.out]; simp]; exact hown, hB⟩
      case round =>
        clear hown hB ht hs
        obtain ⟨A5, c5, i', rfl, rfl, hi8, hown, hB⟩ := hrel
        have hs := hB.size
        by_cases hlt : i' < 8
        · go_wp2_with (at_builtin; refine wpList_app rfl (.tmp 27) (.tmp 34) 22 rfl w.heap.size 5 i0 (.int .u8 0) 1 1 Tryd.underlying22 hi hz0 hz1 hz2 rfl (by omega) A5 _ c5 _ rfl (hown.alloc _) (wr.heap.size + 1) _ 1 1 [.int .u8 (8 * (n : Int) / 2 ^ (56 - 8 * i') % 256)] rfl (RdN.fresh [_] _ _ 1 1 rfl rfl rfl) (one_u8 _) (by simp only [maxLen]; omega) (by omega) (by simp; omega) ?_; intro A4 c4 w4 hown4 hg4; have hb4 := below_app (hB.alloc (by omega) _) hg4 (hown.alloc _) (Nat.le_refl _) (by simp; omega))
          go_roundw
          case rel => exact ⟨A4, c4, i' + 1, by go_num, rfl, by omega, by rw [u8s_append, ← padB_succ _ _ hlt, ← List.append_assoc, ← u8s_append]; exact hown4, hb4⟩
          case measure => simp [intOf] <;> omega
        · obtain rfl : i' = 8 := by omega
          have hpl : n + 1 + j + 8 = n + (padOf n).length := by
            have := HZ.out
            simp [padOf, be64]; omega
          have hpad : padB n 8 = padOf n := by
            unfold padB padOf padZ
            rw [List.take_of_length_le (by simp [be64])]
          rw [hpl, hpad] at hown
          have HPL := Lib.hid hpl
          clear hpl hpad
          go_wp2_with fail
          go_ret
          exact ⟨⟨A5, c5, by rw [HPL.out]; rfl, hown⟩, hB⟩
/-- The bitwise or does not mind the order. -/
theorem or_comm32 (a b : Int) : bits .or .u32 a b = bits .or .u32 b a := by
  show IntKind.u32.wrap ((BitVec.ofInt 32 a ||| BitVec.ofInt 32 b).toNat : Int) = IntKind.u32.wrap ((BitVec.ofInt 32 b ||| BitVec.ofInt 32 a).toNat : Int)
  rw [BitVec.or_comm]
set_option maxHeartbeats 400000 in
theorem rotr_any (x n : Int) (w : World) (i0 : 1 ≤ n) (i1 : n ≤ 31) :
    Calls Tryd.prog 29 #[.int .u32 x, .int .i64 n] w fun e w' => e = .returned (.int .u32 (rot x (32 - n))) ∧ ∃ n, w' = w.drewN n := by
  go_enter Tryd.func29, Tryd.ntmps29
  go_wp2
  go_quiet (fail)
  go_wp2
  go_ret
  refine ⟨?_, _, rfl⟩
  unfold rot
  rw [or_comm32, show (32 - (32 - n)) = n from by omega]
  rfl
theorem word_eq (b0 b1 b2 b3 : Int) (h0 : 0 ≤ b0 ∧ b0 ≤ 255) (h1 : 0 ≤ b1 ∧ b1 ≤ 255) (h2 : 0 ≤ b2 ∧ b2 ≤ 255) (h3 : 0 ≤ b3 ∧ b3 ≤ 255) :
    bits .or .u32 (bits .or .u32 (bits .or .u32 (b0 * 16777216) (b1 * 65536)) (b2 * 256)) b3 = 16777216 * b0 + 65536 * b1 + 256 * b2 + b3 := by
  obtain ⟨a0, rfl⟩ := Int.eq_ofNat_of_zero_le h0.1
  obtain ⟨a1, rfl⟩ := Int.eq_ofNat_of_zero_le h1.1
  obtain ⟨a2, rfl⟩ := Int.eq_ofNat_of_zero_le h2.1
  obtain ⟨a3, rfl⟩ := Int.eq_ofNat_of_zero_le h3.1
  have e0 : ((a0 : Int) * 16777216) = ((a0 * 16777216 : Nat) : Int) := by omega
  have e1 : ((a1 : Int) * 65536) = ((a1 * 65536 : Nat) : Int) := by omega
  have e2 : ((a2 : Int) * 256) = ((a2 * 256 : Nat) : Int) := by omega
  rw [e0, e1, e2, u32_or_nat _ _ (by omega) (by omega), nat_join 24 _ _ (by omega) (by omega), u32_or_nat _ _ (by omega) (by omega), nat_join 16 _ _ (by omega) (by omega), u32_or_nat _ _ (by omega) (by omega), nat_join 8 _ _ (by omega) (by omega)]
  omega
set_option maxHeartbeats 800000 in
set_option maxRecDepth 100000 in
theorem words_any (l : List Int) (A : Option Addr) (c : Nat) (w : World) (hl : Rd w w.heap.size A 64 (u8s l)) (hb : Byt l) :
    Calls Tryd.prog 28 #[.slice A 64 c] w fun e w' => e = .returned (.agg (u32s (wl l 64)).toArray) ∧ Below w.heap.size w w' := by
  have hlen : l.length = 64 := by simpa [u8s] using hl.1
  obtain ⟨g, o, rfl, hg, hc⟩ := hl.2 (by omega)
  have HL := Lib.hid hlen
  have hc' : ∀ j, j < 64 → w.cell? ⟨g, o + j, none⟩ = some (.int .u8 (l.getD j 0)) := fun j hj => hc j _ (u8s_get l j (by omega))
  have HC := Lib.hid hc'
  clear hc hc' hl hlen
  go_enter Tryd.func28, Tryd.ntmps28
  go_wp2_with fail
  go_loopw [4] (fun i wr => ∃ t : Nat, t ≤ 16 ∧ i = .int .i64 t ∧ Blk wr (w.heap.size + 1) 54 (schedCells l t) ∧ Blk wr w.heap.size 54 (schedCells l 0) ∧ Below w.heap.size w wr)
    (fun i _ => 16 - (intOf i).toNat)
  case atStart => exact ⟨0, by omega, rfl, Blk.fresh' _ _ _ _ _ rfl (by simp), (Blk.fresh' _ _ _ _ _ rfl rfl).alloc _, ((Below.refl _ _).alloc (Nat.le_refl _) _).alloc (by simp) _⟩
  case round =>
    obtain ⟨t, ht, rfl, hW, hR, hB⟩ := hrel
    have HW := Lib.hid hW; have HR := Lib.hid hR
    clear hW hR
    by_cases hlt : t < 16
    · have c0 := (HW.out.cell t).trans (schedCells_zero l t (by omega))
      have fz := HW.out.frozen t
      have x0 := (hB.cell (p := ⟨g, o + (4 * t), none⟩) hg).trans (HC.out (4 * t) (by omega))
      have x1 := (hB.cell (p := ⟨g, o + (4 * t + 1), none⟩) hg).trans (HC.out (4 * t + 1) (by omega))
      have x2 := (hB.cell (p := ⟨g, o + (4 * t + 2), none⟩) hg).trans (HC.out (4 * t + 2) (by omega))
      have x3 := (hB.cell (p := ⟨g, o + (4 * t + 3), none⟩) hg).trans (HC.out (4 * t + 3) (by omega))
      have HN := Lib.hid (word_eq _ _ _ _ (hb.at_ (4 * t)) (hb.at_ (4 * t + 1)) (hb.at_ (4 * t + 2)) (hb.at_ (4 * t + 3)))
      have HNW : Hid (16777216 * l.getD (4 * t) 0 + 65536 * l.getD (4 * t + 1) 0 + 256 * l.getD (4 * t + 2) 0 + l.getD (4 * t + 3) 0 = nextW l (wl l t) t) := Lib.hid (by unfold nextW; rw [if_pos hlt]; rfl)
      have b0 := hb.at_ (4 * t); have b1 := hb.at_ (4 * t + 1); have b2 := hb.at_ (4 * t + 2); have b3 := hb.at_ (4 * t + 3)
      generalize l.getD (4 * t) 0 = y0 at *
      generalize l.getD (4 * t + 1) 0 = y1 at *
      generalize l.getD (4 * t + 2) 0 = y2 at *
      generalize l.getD (4 * t + 3) 0 = y3 at *
      obtain ⟨b00, b01⟩ := b0; obtain ⟨b10, b11⟩ := b1; obtain ⟨b20, b21⟩ := b2; obtain ⟨b30, b31⟩ := b3
      go_upto_region 5 with (fail)
      go_region
      go_wp2_with fail
      go_roundw
      case rel =>
        refine ⟨t + 1, by omega, by go_num, ?_, ?_, ?_⟩
        · rw [HN.out, HNW.out, ← schedCells_succ l t (by omega) _ rfl]
          exact (HW.out.set t _).drew
        · exact (HR.out.far (by simp) _).drew
        · exact (hB.setCell (by simp) _).drew
      case measure => simp [intOf]; omega
    · obtain rfl : t = 16 := by omega
      obtain ⟨wo, rfl⟩ : ∃ wo : World, wo = wr := ⟨_, rfl⟩
      go_wp2_with fail
      go_loopw [5] (fun i wr => ∃ t : Nat, 16 ≤ t ∧ t ≤ 64 ∧ i = .int .i64 t ∧ Blk wr (w.heap.size + 1) 54 (schedCells l t) ∧ Blk wr w.heap.size 54 (schedCells l 0) ∧ Below w.heap.size w wr)
        (fun i _ => 64 - (intOf i).toNat)
      case atStart => exact ⟨16, by omega, by omega, rfl, HW.out, HR.out, hB⟩
      case round =>
        clear HW HR hB
        obtain ⟨t, h16, ht, rfl, hW, hR, hB⟩ := hrel
        have HW := Lib.hid hW; have HR := Lib.hid hR
        by_cases hlt : t < 64
        · have hN := nextW_hi l (wl l t) t (by omega)
          have c0 := (hW.cell t).trans (schedCells_zero l t hlt)
          have c16 := (hW.cell (t - 16)).trans (schedCells_get l t (t - 16) (by omega))
          have c15 := (hW.cell (t - 15)).trans (schedCells_get l t (t - 15) (by omega))
          have c7 := (hW.cell (t - 7)).trans (schedCells_get l t (t - 7) (by omega))
          have c2 := (hW.cell (t - 2)).trans (schedCells_get l t (t - 2) (by omega))
          have fz := hW.frozen t
          clear hW hR
          generalize (wl l t).getD (t - 16) 0 = x16 at *
          generalize (wl l t).getD (t - 15) 0 = x15 at *
          generalize (wl l t).getD (t - 7) 0 = x7 at *
          generalize (wl l t).getD (t - 2) 0 = x2 at *
          have HN := Lib.hid hN
          clear hN
          go_upto_region 9 with (fail)
          go_cut [6] (fun s6 wx => s6 = .int .u32 (xor32 (xor32 (rot x15 25) (rot x15 14)) (x15 / 8)) ∧ Drew wr wx)
          case first =>
            go_quiet ((go_at_call 29; exact Calls.quiet_of (rotr_any _ _ _ (by decide) (by decide))))
            go_wp2_with fail
            go_meet
            case rel => exact ⟨rfl, Drew.mk _ _⟩
          case rest =>
            obtain ⟨rfl, hd1⟩ := hcut
            obtain ⟨w8, rfl⟩ : ∃ x : World, x = wc := ⟨_, rfl⟩
            rw [← hd1.cell] at c0 c16 c15 c7 c2
            rw [← hd1.frozen] at fz
            generalize hs0 : xor32 (xor32 (rot x15 25) (rot x15 14)) (x15 / 8) = s0 at *
            have HS0 := Lib.hid hs0; clear hs0
            go_upto_region 10 with (fail)
            go_cut [7] (fun s7 wx => s7 = .int .u32 (xor32 (xor32 (rot x2 15) (rot x2 13)) (x2 / 1024)) ∧ Drew w8 wx)
            case first =>
              go_quiet ((go_at_call 29; exact Calls.quiet_of (rotr_any _ _ _ (by decide) (by decide))))
              go_wp2_with fail
              go_meet
              case rel => exact ⟨rfl, Drew.mk _ _⟩
            case rest =>
              obtain ⟨rfl, hd2⟩ := hcut
              rw [← hd2.cell] at c0 c16 c15 c7 c2
              rw [← hd2.frozen] at fz
              generalize hs1 : xor32 (xor32 (rot x2 15) (rot x2 13)) (x2 / 1024) = s1 at *
              have HS1 := Lib.hid hs1; clear hs1
              go_upto_region 11 with (fail)
              go_region
              go_wp2_with fail
              go_roundw
              case rel =>
                refine ⟨t + 1, by omega, by omega, by go_num, ?_, ?_, ?_⟩
                · rw [← schedCells_succ l t hlt _ HN.out]
                  exact ((hd2.blk (hd1.blk HW.out)).set t _).drew
                · exact ((hd2.blk (hd1.blk HR.out)).far (by simp) _).drew
                · exact (((hB.trans (hd1.below _)).trans (hd2.below _)).setCell (by simp) _).drew
              case measure => simp [intOf]; omega
        · obtain rfl : t = 64 := by omega
          have hs : (schedCells l 64).toArray.size = 64 := by simp [schedCells, u32s, wl_length]
          have hz : (schedCells l 0).toArray.size = 64 := by simp [schedCells, u32s, wl_length]
          have hone : (schedCells l 64).toArray.all (·.oneCell') = true := by simp [schedCells, u32s, Value.oneCell']
          have hfin : schedCells l 64 = u32s (wl l 64) := by simp [schedCells]
          have HF := Lib.hid hfin; have HS := Lib.hid hs; have HZ := Lib.hid hz; have HO := Lib.hid hone
          clear hfin hs hz hone
          generalize schedCells l 64 = X at *
          generalize schedCells l 0 = Y at *
          go_wp2_with (first
            | refine wpList_load_row rfl 54 (.tmp 3) rfl (w.heap.size + 1) rfl 54 _ (0, 0) _ hW Tryd.underlying54 rfl (info_64u32.trans (congrArg some HS.out.symm)) ?_
            | refine wpList_store_row rfl 54 (.tmp 2) (.tmp 100) rfl w.heap.size _ rfl rfl 54 _ hR (info_64u32.trans (congrArg some HS.out.symm)) (HZ.out.trans HS.out.symm) HO.out ?_)
          exact bodyPost_ret (results_cell_row Tryd.results28 _ _ w.heap.size 54 _ (0, 0) _ rfl (hR.setRow X) Tryd.underlying54 rfl (info_64u32.trans (congrArg some HS.out.symm))) rfl ⟨by rw [HF.out], below_row hB (Nat.le_refl _) _⟩
end Go.Proofs.YtheaniplpmkhlaaDoor
