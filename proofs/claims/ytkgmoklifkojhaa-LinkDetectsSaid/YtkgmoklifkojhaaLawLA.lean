/- LinkDetects: for all keys and bytes the law answers true and leaves its arguments as they were. Conditions: none beyond the row's own. -/
import Derived.Test.YtkgmoklifkojhaaLkLawA
import Derived.Test.YtkgmoklifkojhaaFlowF
set_option linter.unusedSimpArgs false
set_option linter.unusedVariables false
namespace Go.Proofs.Ytkgmoklifkojhaa
open Go.RowKit Go.WideShapes Go.ChangeShapes
theorem ext_undrew {w w' : World} (h : Ext w.drew w') : Ext w w' := (Ext.refl w).drew.next h
theorem ext_drew {w w' : World} (h : Drew w w') : Ext w w' := h.below _
set_option maxHeartbeats 16000000 in
set_option maxRecDepth 100000 in
theorem walk_det (key : Int) (l : List Int) (A : Option Addr) (n c : Nat) (x y : Int) (w : World) (k0 : 0 ≤ key) (k1 : key ≤ 18446744073709551615) (hl : Rd w w.heap.size A n (u8s l)) (hby : Byt l) (hnc : n ≤ c) (hc : c ≤ 9223372036854775807) (hx : in64 x) (hy : 0 ≤ y ∧ y ≤ 255) :
    Calls Try.prog 7 #[.int .u64 key, .slice A n c, .int .i64 x, .int .u8 y] w fun e w' => e = .returned (.bool true) ∧ Below w.heap.size w w' := by
  have HL := Lib.hid hl; have HBY := Lib.hid hby; have HX := Lib.hid hx
  have hln : l.length = n := by simpa [u8s] using hl.1
  have HLN := Lib.hid hln
  clear hl hby hx hln
  obtain ⟨y0, y1⟩ := hy
  obtain ⟨k, hk⟩ : ∃ k, k = min n 200 := ⟨_, rfl⟩
  have hkb : k ≤ 200 := by omega
  have HK := Lib.hid hk
  obtain ⟨L, hL⟩ : ∃ L, L = l.take k := ⟨_, rfl⟩
  have HLB : Hid (Byt L) := Lib.hid (by rw [hL]; exact HBY.out.take k)
  have HLL : Hid (L.length = k) := Lib.hid (by rw [hL, List.length_take, HLN.out]; omega)
  have HLE := Lib.hid hL
  obtain ⟨X, hX⟩ : ∃ X, X = sealL key L := ⟨_, rfl⟩
  obtain ⟨n2, hn2⟩ : ∃ n2, n2 = k + 8 := ⟨_, rfl⟩
  have HXE := Lib.hid hX; have HN2 := Lib.hid hn2
  have hn2a : 8 ≤ n2 := by omega
  have hn2b : n2 ≤ 208 := by omega
  have HXL : Hid (X.length = n2) := Lib.hid (by rw [hX, sealL_length, HLL.out, hn2])
  have HXB : Hid (Byt X) := Lib.hid (by rw [hX]; unfold sealL; exact HLB.out.app (sealB_byt key L))
  obtain ⟨j, hj, hjn⟩ := around_nat x n2 (by omega)
  have HJ := Lib.hid hj
  obtain ⟨a, ha⟩ : ∃ a, a = X.getD j 0 := ⟨_, rfl⟩
  have haB : 0 ≤ a ∧ a ≤ 255 := by rw [ha]; exact HXB.out.at_ j
  obtain ⟨a0, a1⟩ := haB
  obtain ⟨v, hv⟩ : ∃ v, v = bits .xor .u8 a (1 + y % 255) := ⟨_, rfl⟩
  have hvb := xor_bent a y ⟨a0, a1⟩ ⟨y0, y1⟩
  rw [← hv] at hvb
  have HV := Lib.hid hv; have HVB := Lib.hid hvb; have HA := Lib.hid ha
  have HBent : Hid (openL key (X.set j v) = ([], 9)) := Lib.hid (by rw [hX]; exact openL_bent key k0 k1 L HLB.out j v hvb.1 (by rw [sealL_length, HLL.out]; omega) (by rw [← hX, ← ha]; exact hvb.2))
  clear hk hL hX hn2 hj ha hv hvb
  go_enter Try.func7, Try.ntmps7
  go_upto_region 4 with (go_loud (first
    | (go_at_call 16; (with_reducible refine (few_int l A n c 200 200 k w HL.out hnc hc rfl (by decide) HK.out L HLE.out).mono ?_); rintro e w1 ⟨⟨A1, c1, rfl, ⟨hc1, hd1⟩, ho1⟩, hE1⟩; have E1 := Lib.hid hE1; have R1 := Lib.hid (rd_own ho1); clear ho1 hE1)
    | (go_at_call 24; (with_reducible refine (lsealR key k0 k1 L A1 k c1 w1 R1.out HLB.out (by omega) X HXE.out n2 HN2.out).mono ?_); rintro e w2 ⟨g2, c2, rfl, ⟨hc2, hd2⟩, ⟨hg2, hg2'⟩, ho2, hE2⟩; have E2 : Hid (Ext w w2) := Lib.hid (E1.out.next hE2); have O2 := Lib.hid ho2; have hg2w : w.heap.size ≤ g2 := Nat.le_trans E1.out.size hg2; clear ho2 hE2)))
  obtain ⟨cx, fx⟩ := own_cell O2.out j hjn
  rw [← HA.out] at cx
  go_upto_region 5 with (go_loud (go_at_call 10; (with_reducible refine (around_any x n2 w2 HX.out (by omega) (by omega)).mono ?_); rintro e w3 ⟨rfl, rfl⟩; rw [← HJ.out]))
  go_upto_region 6 with fail
  rw [← HV.out]
  have O4 := Lib.hid (own_set O2.out j v)
  have E4 : Hid (Ext w (w3.setCell ⟨g2, j, none⟩ (.int .u8 v))) := Lib.hid (E2.out.setOwn hg2w j _)
  have HXS : Hid (Byt (X.set j v)) := Lib.hid (byt_set HXB.out j HVB.out.1)
  generalize w3.setCell ⟨g2, j, none⟩ (.int .u8 v) = w4 at *
  clear cx fx O2 E2 E1 R1
  obtain ⟨P, hP⟩ : ∃ P, P = packL 1 0 (l.take (min n 20)) := ⟨_, rfl⟩
  obtain ⟨k20, hk20⟩ : ∃ k, k = min n 20 := ⟨_, rfl⟩
  have hk20a : k20 ≤ 20 := by omega
  have hk20b : k20 ≤ 9223372036854775807 := by omega
  obtain ⟨L20, hL20⟩ : ∃ L, L = l.take k20 := ⟨_, rfl⟩
  have HL20L : Hid (L20.length = k20) := Lib.hid (by rw [hL20, List.length_take, HLN.out]; omega)
  rw [← hk20, ← hL20] at hP
  have HLB20 : Hid (Byt L20) := Lib.hid (by rw [hL20]; exact HBY.out.take k20)
  have HPB : Hid (Byt P) := Lib.hid (by rw [hP]; exact packL_byt 1 0 (by decide) (by decide) (by decide) (by decide) L20 (by rw [HL20L.out]; omega))
  obtain ⟨np, hnp⟩ : ∃ np, np = P.length := ⟨_, rfl⟩
  have hnpb : np ≤ 56 := by rw [hnp, hP]; have := packL_le 1 0 (by decide) (by decide) (by decide) (by decide) L20 (by rw [HL20L.out]; omega); rw [HL20L.out] at this; omega
  obtain ⟨Z, hZ⟩ : ∃ Z, Z = sealL key P := ⟨_, rfl⟩
  obtain ⟨nz, hnz⟩ : ∃ nz, nz = np + 8 := ⟨_, rfl⟩
  have HZL : Hid (Z.length = nz) := Lib.hid (by rw [hZ, sealL_length, ← hnp, hnz])
  have HZB : Hid (Byt Z) := Lib.hid (by rw [hZ]; unfold sealL; exact HPB.out.app (sealB_byt key P))
  have hnza : 8 ≤ nz := by omega
  have hnzb : nz ≤ 64 := by omega
  obtain ⟨i, hi, hin⟩ := around_nat x nz (by omega)
  obtain ⟨b, hb⟩ : ∃ b, b = Z.getD i 0 := ⟨_, rfl⟩
  have hbB : 0 ≤ b ∧ b ≤ 255 := by rw [hb]; exact HZB.out.at_ i
  obtain ⟨b0, b1⟩ := hbB
  obtain ⟨u, hu⟩ : ∃ u, u = bits .xor .u8 b (1 + y % 255) := ⟨_, rfl⟩
  have hub := xor_bent b y ⟨b0, b1⟩ ⟨y0, y1⟩
  rw [← hu] at hub
  have HIn : Hid (inE (newE 3 key) (Z.set i u) = (([], 9), { newE 3 key with forged := 1 })) := Lib.hid (by rw [hZ]; exact inE_bent (newE 3 key) k0 k1 P HPB.out i u hub.1 (by show i < (sealL key P).length; rw [sealL_length, ← hnp]; omega) (by show u ≠ (sealL key P).getD i 0; rw [← hZ, ← hb]; exact hub.2))
  have HOut : Hid (outL { newE 3 key with forged := 1 } = []) := Lib.hid (outL_none _ rfl rfl)
  have HF := pktIn_first (outE { newE 3 key with forged := 1 }) L20 rfl rfl rfl (fun _ => rfl) rfl
  have HIn2 : Hid ((inE (outE { newE 3 key with forged := 1 }) Z).1 = ([L20], 0) ∧ (inE (outE { newE 3 key with forged := 1 }) Z).2.forged = 1) := Lib.hid (by
    have e1 : inE (outE { newE 3 key with forged := 1 }) Z = pktIn (outE { newE 3 key with forged := 1 }) 1 0 L20 := by
      rw [hZ, hP]
      exact inE_pack (outE { newE 3 key with forged := 1 }) 1 0 L20 (by decide) (by decide) (by decide) (by decide) HLB20.out (by rw [HL20L.out]; omega) (Or.inl (by decide))
    rw [e1]
    exact ⟨HF.1, HF.2.1⟩)
  obtain ⟨E1s, hE1s⟩ : ∃ E, E = { newE 3 key with forged := 1 } := ⟨_, rfl⟩
  rw [← hE1s] at HIn HOut HIn2
  have HB1 : Hid ((outE E1s).forged < 1000000000 ∧ (outE E1s).tot < 1000000000 ∧ (outE E1s).delivered + (outE E1s).cnt < 1000000000) := Lib.hid (by rw [hE1s]; exact ⟨by show (1 : Int) < 1000000000; decide, by show (0 : Nat) < 1000000000; decide, by show (0 : Int) + ((0 : Nat) : Int) < 1000000000; decide⟩)
  have HB0 := Lib.hid (newE_few 3 key)
  obtain ⟨E2s, hE2s⟩ : ∃ E, E = (inE (outE E1s) Z).2 := ⟨_, rfl⟩
  have HK20 := Lib.hid hk20; have HL20 := Lib.hid hL20; have HNP := Lib.hid hnp; have HPE := Lib.hid hP; have HZE := Lib.hid hZ; have HNZ := Lib.hid hnz
  have HI := Lib.hid hi; have HB := Lib.hid hb; have HU := Lib.hid hu; have HUB := Lib.hid hub; have HE2 := Lib.hid hE2s
  have HFG : Hid (E2s.forged = 1) := Lib.hid (by rw [hE2s]; exact HIn2.out.2)
  have HZS : Hid (Byt (Z.set i u)) := Lib.hid (byt_set HZB.out i hub.1)
  clear hk20 hL20 hnp hP hZ hnz hi hb hu hub HF hE1s hE2s
  go_upto_region 7 with (go_loud (go_at_call 25; (with_reducible refine (open_any key k0 k1 (X.set j v) (some ⟨g2, 0, none⟩) n2 c2 w4 (rd_own O4.out) HXS.out (by omega) hc2 hd2).mono ?_); rintro e w5 ⟨⟨A5, c5, rfl, ho5⟩, hE5⟩; rw [HBent.out]; have E5 : Hid (Ext w w5) := Lib.hid (E4.out.next hE5); clear ho5 hE5))
  go_upto_region 8 with (go_loud (go_at_call 28; (with_reducible refine (on_made w w5 E5.out 3 key (by decide) (by decide) k0 k1).mono ?_); rintro e w6 ⟨pa, M6, rfl, hE6, hS6⟩; have S6 := Lib.hid hS6; have E6 : Hid (Ext w w6) := Lib.hid (E5.out.next hE6); clear hE6 hS6))
  have HL6 : Hid (Rd w6 w6.heap.size A n (u8s l)) := Lib.hid (HL.out.ext' E6.out)
  go_upto_region 11 with (go_loud (first
    | (go_at_call 16; (with_reducible refine (few_int l A n c 20 20 k20 w6 HL6.out hnc hc rfl (by decide) HK20.out L20 HL20.out).mono ?_); rintro e w7 ⟨⟨A7, c7, rfl, ⟨hc7, hd7⟩, ho7⟩, hE7⟩; have S7 := Lib.hid (S6.out.ext hE7); have R7 := Lib.hid (rd_own ho7); clear ho7 hE7)
    | (go_at_call 18; (with_reducible refine (rbytesR 1 0 (by decide) (by decide) (by decide) (by decide) L20 A7 k20 c7 w7 R7.out HLB20.out (by omega) P HPE.out np HNP.out).mono ?_); rintro e w8 ⟨g8, c8, rfl, ⟨hc8, hd8⟩, ⟨hg8, hg8'⟩, ho8, hE8⟩; have S8 := Lib.hid (S7.out.ext hE8); have R8 := Lib.hid (rd_own ho8); clear ho8 hE8)
    | (go_at_call 17; (with_reducible refine (rsealR key k0 k1 P (some ⟨g8, 0, none⟩) np c8 w8 R8.out HPB.out (by omega) Z HZE.out nz HNZ.out).mono ?_); rintro e w9 ⟨g9, c9, rfl, ⟨hc9, hd9⟩, ⟨hg9, hg9'⟩, ho9, hE9⟩; have S9 := Lib.hid (S8.out.ext hE9); have R9 := Lib.hid (rd_own ho9); clear ho9 hE9)))
  obtain ⟨M9, L9, S9', hL9⟩ : ∃ M L, Hid (One w M L w9 pa (newE 3 key)) ∧ L g9 := ⟨_, _, S9, Or.inr ⟨hg9, hg9'⟩⟩
  have HN := Lib.hid (few_row Z (some ⟨g9, 0, none⟩) nz c9 nz nz nz w9 R9.out hc9 hd9 rfl (by omega) (by omega) Z (List.take_of_length_le (by rw [HZL.out]; exact Nat.le_refl _)).symm (by omega))
  clear S9 S8 S7 S6 R7 R8 HL6 E5 E6
  go_upto_region 12 with (go_loud (go_at_call 16; (with_reducible refine HN.out.mono ?_); rintro e w10 ⟨g10, c10, rfl, ⟨hc10, hd10⟩, ⟨hg10, hg10'⟩, ho10, hE10⟩; have S10 := Lib.hid (S9'.out.ext hE10); have O10 := Lib.hid ho10; have E10 := Lib.hid hE10; clear ho10 hE10))
  obtain ⟨M10, L10, S10', HML⟩ : ∃ M L, Hid (One w M L w10 pa (newE 3 key)) ∧ Hid (L g9 ∧ L g10 ∧ M g10) := ⟨_, _, S10, Lib.hid ⟨Or.inl hL9, Or.inr ⟨hg10, hg10'⟩, Or.inr ⟨hg10, hg10'⟩⟩⟩
  have R9' : Hid (Rd w10 w10.heap.size (some ⟨g9, 0, none⟩) nz (u8s Z)) := Lib.hid (R9.out.ext' E10.out)
  have hg10w : w.heap.size ≤ g10 := Nat.le_trans S9'.out.e.size hg10
  have hne : ¬ g9 = g10 := by omega
  clear HN S10 S9' hL9 R9 E10
  obtain ⟨cx, fx⟩ := own_cell O10.out i hin
  rw [← HB.out] at cx
  go_upto_region 13 with (go_loud (go_at_call 10; (with_reducible refine (around_any x nz w10 HX.out (by omega) (by omega)).mono ?_); rintro e w11 ⟨rfl, rfl⟩; rw [← HI.out]))
  go_upto_region 14 with fail
  rw [← HU.out]
  have O12 := Lib.hid (own_set O10.out i u)
  have hk12 : Kept (fun b => b = g10) w11 (w11.setCell ⟨g10, i, none⟩ (.int .u8 u)) := Kept.setCell (F := fun b => b = g10) (p := ⟨g10, i, none⟩) w11 rfl _
  have S12 := Lib.hid (S10'.out.own hk12 (fun q hq => by rw [hq]; exact ⟨HML.out.2.1, HML.out.2.2, hg10w⟩))
  have R12 : Hid (Rd (w11.setCell ⟨g10, i, none⟩ (.int .u8 u)) (w11.setCell ⟨g10, i, none⟩ (.int .u8 u)).heap.size (some ⟨g9, 0, none⟩) nz (u8s Z)) := Lib.hid (rd_kept R9'.out hk12 hne)
  clear hk12 cx fx R9' S10' O10
  generalize w11.setCell ⟨g10, i, none⟩ (.int .u8 u) = w12 at *
  go_upto_region 15 with (go_loud (go_at_call 19; (with_reducible refine (on_in S12.out (Z.set i u) (some ⟨g10, 0, none⟩) nz c10 (rd_own O12.out) HZS.out (by omega) hc10 hd10 HB0.out.1 HB0.out.2.1 HB0.out.2.2).mono ?_); rintro e w13 ⟨OA9, oc9, k9, ovs9, rfl, hk9, ho, hp, hS, hkp⟩; rw [HIn.out] at hk9 hS ⊢; subst hk9; have S13 := Lib.hid hS; have R13 := Lib.hid (keep_rd hkp R12.out HML.out.1); clear ho hp hS hkp))
  obtain ⟨L13, S13', HL13⟩ : ∃ L, Hid (One w M10 L w13 pa E1s) ∧ Hid (L g9) := ⟨_, S13, Lib.hid (Or.inl HML.out.1)⟩
  clear S13
  go_upto_region 16 with (go_loud (go_at_call 13; (with_reducible refine (on_out S13'.out).mono ?_); rintro e w14 ⟨OA10, oc10, k10, ovs10, rfl, hk10, ho, hp, hS, hkp⟩; rw [HOut.out] at hk10; subst hk10; have S14 := Lib.hid hS; have R14 := Lib.hid (keep_rd hkp R13.out HL13.out); clear ho hp hS hkp))
  obtain ⟨M14, L14, S14'⟩ : ∃ M L, Hid (One w M L w14 pa (outE E1s)) := ⟨_, _, S14⟩
  clear S14
  go_upto_region 17 with (go_loud (go_at_call 19; (with_reducible refine (on_in S14'.out Z (some ⟨g9, 0, none⟩) nz c9 R14.out HZB.out (by omega) hc9 hd9 HB1.out.1 HB1.out.2.1 HB1.out.2.2).mono ?_); rintro e w15 ⟨OA11, oc11, k11, ovs11, rfl, hk11, ho, hp, hS, hkp⟩; rw [HIn2.out.1] at hk11 hp ⊢; rw [← HE2.out] at hS; simp only [List.length_cons, List.length_nil, Nat.zero_add] at hk11; subst hk11; have S15 := Lib.hid hS; have O15 := Lib.hid ho; have P15 := Lib.hid hp; clear ho hp hS hkp))
  obtain ⟨M15, L15, S15'⟩ : ∃ M L, Hid (One w M L w15 pa E2s) := ⟨_, _, S15⟩
  obtain ⟨gz, hz1, hz2, hz3, hz4⟩ := row_at O15.out (Nat.zero_lt_one)
  obtain ⟨_, _, AZ, cz, hz5, hz6, hz7, hz8⟩ := P15.out.2 0 (Nat.zero_lt_one)
  simp only [List.getD_cons_zero] at hz5 hz6 hz8
  rw [HL20L.out] at hz5 hz6 hz8
  subst hz1
  have HGZ := Lib.hid hz3
  have HXZ : Hid (w15.cell? ⟨gz, 0, none⟩ = some (.slice AZ k20 cz)) := Lib.hid (by rw [hz4 0 Nat.zero_lt_one, hz5])
  have HRZ0 : Hid (Rd w15 w15.heap.size AZ k20 (u8s L20)) := Lib.hid hz8.rd
  have HE0 : Hid (Ext w w15) := Lib.hid S15'.out.e
  clear hz2 hz3 hz4 hz5 hz6 hz7 hz8 S14' S13' S12 R14 R13 R12 O12 S15 O15 P15 HIn2 HBent HXB HXS HLB HLL HXE HN2 HXL HV HVB HA HJ O4 E4 HPB HZL HZB HIn HOut HB1 HB0 HPE HNP HZE HNZ HI HB HU HUB HE2 HZS HML HL13
  have HS := Lib.hid S15'.out
  have HRZ := Lib.hid HRZ0.out
  clear S15' HRZ0
  obtain ⟨wq, hwq⟩ : ∃ x, x = w15.drew := ⟨_, rfl⟩
  refine wp_region_flowF 36 ?F (fun us => ?_) (by kernel_rfl) (by kernel_rfl) (fun a b => Ext a b) Ext.refl (fun h1 h2 => h1.next h2) (fun i v W => match i with
    | 0 => v = .int .i64 9
    | 1 => v = .bool true
    | 2 => v = .bool true
    | 3 => v = .slice OA9 0 oc9
    | 4 => v = .int .i64 0
    | 5 => v = .slice OA10 0 oc10
    | 6 => v = .int .i64 0
    | 7 => v = .int .i64 0
    | 8 => v = .bool true
    | 9 => v = .bool true
    | 10 => v = .bool true
    | 11 => v = .pointer (some ⟨pa, 0, none⟩)
    | 12 => v = .int .i64 1
    | 13 => v = .bool true
    | 14 => v = .bool true
    | 15 => v = .bool true
    | 16 => v = .int .i64 0
    | 17 => v = .bool true
    | 18 => v = .bool true
    | 19 => v = .bool true
    | 20 => v = .slice (some ⟨gz, 0, none⟩) 1 oc11
    | 21 => v = .int .i64 1
    | 22 => v = .bool true
    | 23 => v = .bool true
    | 24 => v = .bool true
    | 25 => v = .slice (some ⟨gz, 0, none⟩) 1 oc11
    | 26 => v = .pointer (some ⟨gz, 0, none⟩)
    | 27 => v = .slice AZ k20 cz
    | 28 => v = .slice A n c
    | 29 => ∃ A' c', v = .slice A' k20 c' ∧ Rd W W.heap.size A' k20 (u8s L20)
    | 30 => v = .bool true
    | 31 => v = .bool true
    | 32 => v = .bool true
    | 33 => v = .bool true
    | 34 => v = .bool true
    | 35 => v = .bool true
    | _ => True) ?_ ?_
  case refine_1 =>
    simp only [List.take_succ_cons, List.take_zero, flowAct, Nat.zero_add, Nat.reduceAdd, Act.put, List.setIfInBounds_toArray, List.set_cons_succ, List.set_cons_zero]
    rfl
  · simp only [List.take_succ_cons, List.take_zero, flowStepsF]
    refine ⟨?_, ?_, ?_, ?_, ?_, ?_, ?_, ?_, ?_, ?_, ?_, ?_, ?_, ?_, ?_, ?_, ?_, ?_, ?_, ?_, ?_, ?_, ?_, ?_, ?_, ?_, ?_, ?_, ?_, ?_, ?_, ?_, ?_, ?_, ?_, ?_, trivial⟩
    · intro us W K hE hd hK
      dsimp only at hK ⊢
      have HK := Lib.hid hK; have HE := Lib.hid hE
      clear hK hd hE
      go_wp2_with fail
      exact K_at (HK.out (.int .i64 9) W (fun _ _ => rfl) (Ext.refl W)) (by kernel_rfl)
    · intro us W K hE hd hK
      have d0 := hd 0 (by kernel_rfl)
      dsimp only at hK ⊢
      rw [d0] at hK ⊢
      have HK := Lib.hid hK; have HE := Lib.hid hE
      clear hK hd hE d0
      go_wp2_with fail
      exact K_at (HK.out (.bool true) W (fun _ _ => rfl) (Ext.refl W)) (by kernel_rfl)
    · intro us W K hE hd hK
      have d1 := hd 1 (by kernel_rfl)
      dsimp only at hK ⊢
      rw [d1] at hK ⊢
      have HK := Lib.hid hK; have HE := Lib.hid hE
      clear hK hd hE d1
      go_wp2_with fail
      exact K_at (HK.out (.bool true) W (fun _ _ => rfl) (Ext.refl W)) (by kernel_rfl)
    · intro us W K hE hd hK
      have d2 := hd 2 (by kernel_rfl)
      dsimp only at hK ⊢
      rw [d2] at hK ⊢
      have HK := Lib.hid hK; have HE := Lib.hid hE
      clear hK hd hE d2
      go_wp2_with fail
      exact K_at (HK.out (.slice OA9 0 oc9) W (fun _ _ => rfl) (Ext.refl W)) (by kernel_rfl)
    · intro us W K hE hd hK
      have d2 := hd 2 (by kernel_rfl)
      have d3 := hd 3 (by kernel_rfl)
      dsimp only at hK ⊢
      rw [d2, d3] at hK ⊢
      have HK := Lib.hid hK; have HE := Lib.hid hE
      clear hK hd hE d2 d3
      go_wp2_with fail
      exact K_at (HK.out (.int .i64 0) W (fun _ _ => rfl) (Ext.refl W)) (by kernel_rfl)
    · intro us W K hE hd hK
      have d2 := hd 2 (by kernel_rfl)
      dsimp only at hK ⊢
      rw [d2] at hK ⊢
      have HK := Lib.hid hK; have HE := Lib.hid hE
      clear hK hd hE d2
      go_wp2_with fail
      exact K_at (HK.out (.slice OA10 0 oc10) W (fun _ _ => rfl) (Ext.refl W)) (by kernel_rfl)
    · intro us W K hE hd hK
      have d2 := hd 2 (by kernel_rfl)
      have d5 := hd 5 (by kernel_rfl)
      dsimp only at hK ⊢
      rw [d2, d5] at hK ⊢
      have HK := Lib.hid hK; have HE := Lib.hid hE
      clear hK hd hE d2 d5
      go_wp2_with fail
      exact K_at (HK.out (.int .i64 0) W (fun _ _ => rfl) (Ext.refl W)) (by kernel_rfl)
    · intro us W K hE hd hK
      have d2 := hd 2 (by kernel_rfl)
      have d4 := hd 4 (by kernel_rfl)
      have d6 := hd 6 (by kernel_rfl)
      dsimp only at hK ⊢
      rw [d2, d4, d6] at hK ⊢
      have HK := Lib.hid hK; have HE := Lib.hid hE
      clear hK hd hE d2 d4 d6
      go_wp2_with fail
      exact K_at (HK.out (.int .i64 0) W (fun _ _ => rfl) (Ext.refl W)) (by kernel_rfl)
    · intro us W K hE hd hK
      have d2 := hd 2 (by kernel_rfl)
      have d7 := hd 7 (by kernel_rfl)
      dsimp only at hK ⊢
      rw [d2, d7] at hK ⊢
      have HK := Lib.hid hK; have HE := Lib.hid hE
      clear hK hd hE d2 d7
      go_wp2_with fail
      exact K_at (HK.out (.bool true) W (fun _ _ => rfl) (Ext.refl W)) (by kernel_rfl)
    · intro us W K hE hd hK
      have d2 := hd 2 (by kernel_rfl)
      have d8 := hd 8 (by kernel_rfl)
      dsimp only at hK ⊢
      rw [d2, d8] at hK ⊢
      have HK := Lib.hid hK; have HE := Lib.hid hE
      clear hK hd hE d2 d8
      go_wp2_with fail
      exact K_at (HK.out (.bool true) W (fun _ _ => rfl) (Ext.refl W)) (by kernel_rfl)
    · intro us W K hE hd hK
      have d9 := hd 9 (by kernel_rfl)
      dsimp only at hK ⊢
      rw [d9] at hK ⊢
      have HK := Lib.hid hK; have HE := Lib.hid hE
      clear hK hd hE d9
      go_wp2_with fail
      exact K_at (HK.out (.bool true) W (fun _ _ => rfl) (Ext.refl W)) (by kernel_rfl)
    · intro us W K hE hd hK
      have d10 := hd 10 (by kernel_rfl)
      dsimp only at hK ⊢
      rw [d10] at hK ⊢
      have HK := Lib.hid hK; have HE := Lib.hid hE
      clear hK hd hE d10
      go_wp2_with fail
      exact K_at (HK.out (.pointer (some ⟨pa, 0, none⟩)) W (fun _ _ => rfl) (Ext.refl W)) (by kernel_rfl)
    · intro us W K hE hd hK
      have d10 := hd 10 (by kernel_rfl)
      have d11 := hd 11 (by kernel_rfl)
      have HO := Lib.hid (on_forged (HS.out.ext (ext_undrew hE)))
      dsimp only at hK ⊢
      rw [d10, d11] at hK ⊢
      have HK := Lib.hid hK; have HE := Lib.hid hE
      clear hK hd hE d10 d11
      go_wp2_with (go_loud (go_at_call 22; (with_reducible refine HO.out.mono ?_); rintro e wx ⟨rfl, rfl⟩; rw [HFG.out]))
      exact K_at (HK.out (.int .i64 1) wx (fun _ _ => rfl) (Ext.refl wx)) (by kernel_rfl)
    · intro us W K hE hd hK
      have d10 := hd 10 (by kernel_rfl)
      have d12 := hd 12 (by kernel_rfl)
      dsimp only at hK ⊢
      rw [d10, d12] at hK ⊢
      have HK := Lib.hid hK; have HE := Lib.hid hE
      clear hK hd hE d10 d12
      go_wp2_with fail
      exact K_at (HK.out (.bool true) W (fun _ _ => rfl) (Ext.refl W)) (by kernel_rfl)
    · intro us W K hE hd hK
      have d10 := hd 10 (by kernel_rfl)
      have d13 := hd 13 (by kernel_rfl)
      dsimp only at hK ⊢
      rw [d10, d13] at hK ⊢
      have HK := Lib.hid hK; have HE := Lib.hid hE
      clear hK hd hE d10 d13
      go_wp2_with fail
      exact K_at (HK.out (.bool true) W (fun _ _ => rfl) (Ext.refl W)) (by kernel_rfl)
    · intro us W K hE hd hK
      have d14 := hd 14 (by kernel_rfl)
      dsimp only at hK ⊢
      rw [d14] at hK ⊢
      have HK := Lib.hid hK; have HE := Lib.hid hE
      clear hK hd hE d14
      go_wp2_with fail
      exact K_at (HK.out (.bool true) W (fun _ _ => rfl) (Ext.refl W)) (by kernel_rfl)
    · intro us W K hE hd hK
      have d15 := hd 15 (by kernel_rfl)
      dsimp only at hK ⊢
      rw [d15] at hK ⊢
      have HK := Lib.hid hK; have HE := Lib.hid hE
      clear hK hd hE d15
      go_wp2_with fail
      exact K_at (HK.out (.int .i64 0) W (fun _ _ => rfl) (Ext.refl W)) (by kernel_rfl)
    · intro us W K hE hd hK
      have d15 := hd 15 (by kernel_rfl)
      have d16 := hd 16 (by kernel_rfl)
      dsimp only at hK ⊢
      rw [d15, d16] at hK ⊢
      have HK := Lib.hid hK; have HE := Lib.hid hE
      clear hK hd hE d15 d16
      go_wp2_with fail
      exact K_at (HK.out (.bool true) W (fun _ _ => rfl) (Ext.refl W)) (by kernel_rfl)
    · intro us W K hE hd hK
      have d15 := hd 15 (by kernel_rfl)
      have d17 := hd 17 (by kernel_rfl)
      dsimp only at hK ⊢
      rw [d15, d17] at hK ⊢
      have HK := Lib.hid hK; have HE := Lib.hid hE
      clear hK hd hE d15 d17
      go_wp2_with fail
      exact K_at (HK.out (.bool true) W (fun _ _ => rfl) (Ext.refl W)) (by kernel_rfl)
    · intro us W K hE hd hK
      have d18 := hd 18 (by kernel_rfl)
      dsimp only at hK ⊢
      rw [d18] at hK ⊢
      have HK := Lib.hid hK; have HE := Lib.hid hE
      clear hK hd hE d18
      go_wp2_with fail
      exact K_at (HK.out (.bool true) W (fun _ _ => rfl) (Ext.refl W)) (by kernel_rfl)
    · intro us W K hE hd hK
      have d19 := hd 19 (by kernel_rfl)
      dsimp only at hK ⊢
      rw [d19] at hK ⊢
      have HK := Lib.hid hK; have HE := Lib.hid hE
      clear hK hd hE d19
      go_wp2_with fail
      exact K_at (HK.out (.slice (some ⟨gz, 0, none⟩) 1 oc11) W (fun _ _ => rfl) (Ext.refl W)) (by kernel_rfl)
    · intro us W K hE hd hK
      have d19 := hd 19 (by kernel_rfl)
      have d20 := hd 20 (by kernel_rfl)
      dsimp only at hK ⊢
      rw [d19, d20] at hK ⊢
      have HK := Lib.hid hK; have HE := Lib.hid hE
      clear hK hd hE d19 d20
      go_wp2_with fail
      exact K_at (HK.out (.int .i64 1) W (fun _ _ => rfl) (Ext.refl W)) (by kernel_rfl)
    · intro us W K hE hd hK
      have d19 := hd 19 (by kernel_rfl)
      have d21 := hd 21 (by kernel_rfl)
      dsimp only at hK ⊢
      rw [d19, d21] at hK ⊢
      have HK := Lib.hid hK; have HE := Lib.hid hE
      clear hK hd hE d19 d21
      go_wp2_with fail
      exact K_at (HK.out (.bool true) W (fun _ _ => rfl) (Ext.refl W)) (by kernel_rfl)
    · intro us W K hE hd hK
      have d19 := hd 19 (by kernel_rfl)
      have d22 := hd 22 (by kernel_rfl)
      dsimp only at hK ⊢
      rw [d19, d22] at hK ⊢
      have HK := Lib.hid hK; have HE := Lib.hid hE
      clear hK hd hE d19 d22
      go_wp2_with fail
      exact K_at (HK.out (.bool true) W (fun _ _ => rfl) (Ext.refl W)) (by kernel_rfl)
    · intro us W K hE hd hK
      have d23 := hd 23 (by kernel_rfl)
      dsimp only at hK ⊢
      rw [d23] at hK ⊢
      have HK := Lib.hid hK; have HE := Lib.hid hE
      clear hK hd hE d23
      go_wp2_with fail
      exact K_at (HK.out (.bool true) W (fun _ _ => rfl) (Ext.refl W)) (by kernel_rfl)
    · intro us W K hE hd hK
      have d24 := hd 24 (by kernel_rfl)
      dsimp only at hK ⊢
      rw [d24] at hK ⊢
      have HK := Lib.hid hK; have HE := Lib.hid hE
      clear hK hd hE d24
      go_wp2_with fail
      exact K_at (HK.out (.slice (some ⟨gz, 0, none⟩) 1 oc11) W (fun _ _ => rfl) (Ext.refl W)) (by kernel_rfl)
    · intro us W K hE hd hK
      have d24 := hd 24 (by kernel_rfl)
      have d25 := hd 25 (by kernel_rfl)
      dsimp only at hK ⊢
      rw [d24, d25] at hK ⊢
      have HK := Lib.hid hK; have HE := Lib.hid hE
      clear hK hd hE d24 d25
      go_wp2_with fail
      exact K_at (HK.out (.pointer (some ⟨gz, 0, none⟩)) W (fun _ _ => rfl) (Ext.refl W)) (by kernel_rfl)
    · intro us W K hE hd hK
      have d24 := hd 24 (by kernel_rfl)
      have d26 := hd 26 (by kernel_rfl)
      have xz := ((ext_undrew hE).cell (p := ⟨gz, 0, none⟩) HGZ.out).trans HXZ.out
      dsimp only at hK ⊢
      rw [d24, d26] at hK ⊢
      have HK := Lib.hid hK; have HE := Lib.hid hE
      clear hK hd hE d24 d26
      go_wp2_with fail
      exact K_at (HK.out (.slice AZ k20 cz) W (fun _ _ => rfl) (Ext.refl W)) (by kernel_rfl)
    · intro us W K hE hd hK
      have d24 := hd 24 (by kernel_rfl)
      dsimp only at hK ⊢
      rw [d24] at hK ⊢
      have HK := Lib.hid hK; have HE := Lib.hid hE
      clear hK hd hE d24
      go_wp2_with fail
      exact K_at (HK.out (.slice A n c) W (fun _ _ => rfl) (Ext.refl W)) (by kernel_rfl)
    · intro us W K hE hd hK
      have d24 := hd 24 (by kernel_rfl)
      have d28 := hd 28 (by kernel_rfl)
      have HC := Lib.hid (few_int l A n c 20 20 k20 W (HL.out.ext' (HE0.out.next (ext_undrew hE))) hnc hc rfl (by decide) HK20.out L20 HL20.out)
      dsimp only at hK ⊢
      rw [d24, d28] at hK ⊢
      have HK := Lib.hid hK; have HE := Lib.hid hE
      clear hK hd hE d24 d28
      go_wp2_with (go_loud (go_at_call 16; (with_reducible refine HC.out.mono ?_); rintro e W2 ⟨⟨A20, c20, rfl, hcc, ho⟩, hE2⟩; have E2 := Lib.hid hE2; have R2 := Lib.hid (rd_own ho); clear hE2 ho))
      exact K_at (HK.out (.slice A20 k20 c20) W2 (fun W'' hW => ⟨A20, c20, rfl, R2.out.ext' hW⟩) (E2.out)) (by kernel_rfl)
    · intro us W K hE hd hK
      have d24 := hd 24 (by kernel_rfl)
      have d27 := hd 27 (by kernel_rfl)
      obtain ⟨A20, c20, d29, R20⟩ := hd 29 (by kernel_rfl)
      have RZ := Lib.hid (HRZ.out.ext' (ext_undrew hE))
      have HSM := Lib.hid (same_any L20 L20 AZ A20 k20 cz k20 c20 W RZ.out R20 hk20b)
      dsimp only at hK ⊢
      rw [d24, d27, d29] at hK ⊢
      have HK := Lib.hid hK; have HE := Lib.hid hE
      clear hK hd hE d24 d27 d29 R20 RZ
      go_wp2_with (go_loud (go_at_call 29; (with_reducible refine HSM.out.mono ?_); rintro e W2 ⟨rfl, hd⟩; rw [decide_eq_true (Eq.refl L20)]; have E2 := Lib.hid hd; clear hd))
      exact K_at (HK.out (.bool true) W2 (fun _ _ => rfl) (ext_drew E2.out)) (by kernel_rfl)
    · intro us W K hE hd hK
      have d24 := hd 24 (by kernel_rfl)
      have d30 := hd 30 (by kernel_rfl)
      dsimp only at hK ⊢
      rw [d24, d30] at hK ⊢
      have HK := Lib.hid hK; have HE := Lib.hid hE
      clear hK hd hE d24 d30
      go_wp2_with fail
      exact K_at (HK.out (.bool true) W (fun _ _ => rfl) (Ext.refl W)) (by kernel_rfl)
    · intro us W K hE hd hK
      have d31 := hd 31 (by kernel_rfl)
      dsimp only at hK ⊢
      rw [d31] at hK ⊢
      have HK := Lib.hid hK; have HE := Lib.hid hE
      clear hK hd hE d31
      go_wp2_with fail
      exact K_at (HK.out (.bool true) W (fun _ _ => rfl) (Ext.refl W)) (by kernel_rfl)
    · intro us W K hE hd hK
      have d32 := hd 32 (by kernel_rfl)
      dsimp only at hK ⊢
      rw [d32] at hK ⊢
      have HK := Lib.hid hK; have HE := Lib.hid hE
      clear hK hd hE d32
      go_wp2_with (go_loud (go_at_call 23; (with_reducible refine (lives_any W).mono ?_); rintro e W2 ⟨rfl, hE2⟩; have E2 := Lib.hid hE2; clear hE2))
      exact K_at (HK.out (.bool true) W2 (fun _ _ => rfl) E2.out) (by kernel_rfl)
    · intro us W K hE hd hK
      have d32 := hd 32 (by kernel_rfl)
      have d33 := hd 33 (by kernel_rfl)
      dsimp only at hK ⊢
      rw [d32, d33] at hK ⊢
      have HK := Lib.hid hK; have HE := Lib.hid hE
      clear hK hd hE d32 d33
      go_wp2_with fail
      exact K_at (HK.out (.bool true) W (fun _ _ => rfl) (Ext.refl W)) (by kernel_rfl)
    · intro us W K hE hd hK
      have d34 := hd 34 (by kernel_rfl)
      dsimp only at hK ⊢
      rw [d34] at hK ⊢
      have HK := Lib.hid hK; have HE := Lib.hid hE
      clear hK hd hE d34
      go_wp2_with fail
      exact K_at (HK.out (.bool true) W (fun _ _ => rfl) (Ext.refl W)) (by kernel_rfl)
  · intro us W hE hd
    try dsimp only
    have d35 := hd 35 (by decide)
    simp only [List.drop_succ_cons, List.drop_zero]
    rw [d35]
    have EW := Lib.hid hE; clear hd hE d35
    go_wp2_with fail
    go_ret
    exact ⟨rfl, HE0.out.next (ext_undrew EW.out)⟩
namespace fnLinkDetects
theorem params_linkDetects : (Try.f7.params.toList.all fun t => Try.prog.readableRec t && decide (t < Try.prog.types.size)) = true := by kernel_rfl
theorem contract (H : Type) (enc : TypeId × Value → H) (W : World) (base : Nat) (args : Array Value) (ds gs : List (DataW H)) (before : List MemPlace)
    (hval : ∀ (j : Nat) t v, Try.f7.params[j]? = some t → args[j]? = some v → Value.okWide Try.prog W .any base t v)
    (hW : DataW.Whole enc Try.prog Try.f7.params.toList Rows.linkDetectsSpec.vars false W args.toList ds gs before) :
    Calls Try.prog 7 args W fun e W' => ∃ v, e = .returned v ∧ Rows.linkDetectsSpec.post enc Try.prog Try.f7 false true false false W args v W' := by
  have hW' := hW
  obtain ⟨p, q, hA0, _, _, _, _⟩ := hW
  have hA : DataW.TrodAll enc Try.prog W 0 (fun _ => true) true Try.f7.params.toList args.toList ds p := hA0
  rw [Try.params7] at hA hval
  obtain ⟨v0, vs0, d0, ds0, p0, q0, hargs, e0d, e0p, h0, r0⟩ := trodAll_cons hA
  obtain ⟨v1, vs1, d1, ds1, p1, q1, e1, e1d, e1p, h1, r1⟩ := trodAll_cons r0
  obtain ⟨v2, vs2, d2, ds2, p2, q2, e2, e2d, e2p, h2, r2⟩ := trodAll_cons r1
  obtain ⟨v3, vs3, d3, ds3, p3, q3, e3, e3d, e3p, h3, r3⟩ := trodAll_cons r2
  obtain ⟨en1, en2, en3⟩ := trodAll_nil r3
  obtain rfl : args = #[v0, v1, v2, v3] := by cases args; simp_all
  clear hA hA0
  obtain ⟨key, rfl, _, _, hkey⟩ := open_int Try.underlying22 (hval 0 _ v0 rfl rfl) h0
  obtain ⟨k0, k1⟩ := wf_u64 hkey
  obtain ⟨A, n, c, l, rfl, hR, hwf, hnc, hc⟩ := open_u8s Try.underlying33 Try.underlying5 cellsu8 (hval 1 _ v1 rfl rfl) h1
  obtain ⟨x, rfl, _, _, hx⟩ := open_int Try.underlying3 (hval 2 _ v2 rfl rfl) h2
  obtain ⟨y, rfl, _, _, hy⟩ := open_int Try.underlying5 (hval 3 _ v3 rfl rfl) h3
  unfold maxLen at hc
  refine (walk_det key l A n c x y W k0 k1 hR (byt_wf hwf) hnc hc (wf_i64 hx) (wf_u8 hy)).mono fun e W' ⟨he, hg⟩ => ⟨_, he, ?_⟩
  exact post_law hW' laidOut (params_ok params_linkDetects) 4 rfl Try.underlying4 rfl (fun ds h => by
    rw [Try.params7] at h
    match ds, h with
    | [_, _, _, _], _ => rfl) hg
noncomputable def laidWorld (os : Os) : World := World.holding Try.prog os ⟨#[], #[], []⟩
theorem reads (os : Os) {H : Type} (enc : TypeId × Value → H) : ∃ places, DataW.whole enc Try.prog ((laidWorld os).forCall (fun _ _ => 0) ⟨#[], #[.int .u64 0, .slice none 0 0, .int .i64 0, .int .u8 0], []⟩).memory Try.f7.params.toList Rows.linkDetectsSpec.vars false (#[.int .u64 0, .slice none 0 0, .int .i64 0, .int .u8 0] : Array Value).toList 8 = some ([.lit (.int .u64 0), .nil, .lit (.int .i64 0), .lit (.int .u8 0)], [], places) :=
  ⟨[], by kernel_rfl⟩
set_option maxRecDepth 100000 in
theorem lifted (os : Os) (started : os.Started) (H : Type) (enc : TypeId × Value → H) (F : Stop.Interp) :
    ReturnsInHanded {} Try.checked os 7 .any ((OpenSpec.ofChange Rows.linkDetectsSpec).preRow enc Try.prog Try.f7 Rows.linkDetectsRow.domain false Rows.linkDetectsRow.laid) (((OpenSpec.ofChange Rows.linkDetectsSpec).at F).post enc Try.prog Try.f7 false true false false) := by
  obtain ⟨places, hx⟩ := reads os enc
  refine returnsInHanded_of_row (C := Try.checked) (s := OpenSpec.ofChange Rows.linkDetectsSpec) own started (by kernel_rfl) Try.func7
    (witness_row_at (enc := enc) (C := Try.checked) false (laidWorld os) #[.int .u64 0, .slice none 0 0, .int .i64 0, .int .u8 0] rfl (by kernel_rfl) (by kernel_rfl) (by kernel_rfl)
      (OpenSpec.preRow_of_cond 8 hx (by kernel_rfl) (fun k hk => by cases hk) (by kernel_rfl) (laidMet_nil _ _))) ?_
  intro W base args ds gs before hval hW _ _ _ hL _ _
  exact contract H enc W base args ds gs before hval hW
theorem said : Rows.LinkDetectsSaid :=
  OpenClaim.holds_of_cond 7 Try.f7 rfl rfl rfl rfl rfl rfl rfl ⟨rfl, rfl, rfl, rfl, rfl⟩ rfl rfl rfl rfl rfl (by kernel_rfl) Try.func7 (by kernel_rfl)
    (of_decide_eq_true (by kernel_rfl)) (by unfold Func.isWrapper; first | (rw [if_pos (by decide +kernel)]; kernel_rfl) | (rw [if_neg (by decide +kernel)]; exact ⟨rfl, rfl⟩))
    (fun os started H enc _ F => by rw [OpenClaim.pre_eq_preRow]; exact lifted os started H enc F)
end fnLinkDetects
end Go.Proofs.Ytkgmoklifkojhaa
