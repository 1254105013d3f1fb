/- The example of the laws on links (lives): true. No condition. -/
import Derived.Test.YtkgmoklifkojhaaLkSt
import Derived.Test.YtkgmoklifkojhaaLkLivesS
import Derived.Test.YtkgmoklifkojhaaLkRefB
import Derived.Lib.SlBytesConst
set_option linter.unusedSimpArgs false
set_option linter.unusedVariables false
namespace Go.Proofs.Ytkgmoklifkojhaa
open Go.RowKit
theorem rd_lit (W : World) (x : Int) : Rd (W.alloc (.cells #[.int .u8 x] 5)) (W.alloc (.cells #[.int .u8 x] 5)).heap.size (some ⟨W.heap.size, 0, none⟩) 1 (u8s [x]) := by
  have hb := Blk.fresh W 5 [.int .u8 x]
  refine ⟨rfl, fun _ => ⟨W.heap.size, 0, rfl, hb.lt, fun j u hj => ?_⟩⟩
  have := hb.cell j
  rw [Nat.zero_add]
  exact this.trans hj
theorem byt_one (x : Int) (h0 : 0 ≤ x) (h1 : x ≤ 255) : Byt [x] := fun y hy => by
  simp only [List.mem_cons, List.not_mem_nil, or_false] at hy
  subst hy
  exact ⟨h0, h1⟩
set_option maxHeartbeats 4000000 in
set_option maxRecDepth 100000 in
theorem lives_any (w : World) : Calls Try.prog 23 #[] w fun e w' => e = .returned (.bool true) ∧ Ext w w' := by
  have HN := Lib.hid (st_made w 2 2 9 (by decide) (by decide) (by decide) (by decide) (by decide) (by decide))
  have HY97 := Lib.hid (byt_one 97 (by decide) (by decide)); have HY98 := Lib.hid (byt_one 98 (by decide) (by decide)); have HY99 := Lib.hid (byt_one 99 (by decide) (by decide))
  have HQ3 : Hid ((newE 2 9).waiting.length < 1000 ∧ (newE 2 9).acked + (newE 2 9).waiting.length < 1000000000) := Lib.hid ⟨by decide, by decide⟩
  have HQ4 : Hid (lvA1.waiting.length < 1000 ∧ lvA1.acked + lvA1.waiting.length < 1000000000) := Lib.hid ⟨by decide, by decide⟩
  have HQ5 : Hid (lvA2.waiting.length < 1000 ∧ lvA2.acked + lvA2.waiting.length < 1000000000) := Lib.hid ⟨by decide, by decide⟩
  have HL97 : Hid (∀ W : World, Rd (W.alloc (.cells #[.int .u8 97] 5 (1, 2))) (W.alloc (.cells #[.int .u8 97] 5 (1, 2))).heap.size (some ⟨W.heap.size, 0, none⟩) 1 (u8s [97])) := Lib.hid (fun W => Rd.fresh_fr W _ _ _ (u8s [97]) 1 rfl rfl)
  have HL98 : Hid (∀ W : World, Rd (W.alloc (.cells #[.int .u8 98] 5 (1, 2))) (W.alloc (.cells #[.int .u8 98] 5 (1, 2))).heap.size (some ⟨W.heap.size, 0, none⟩) 1 (u8s [98])) := Lib.hid (fun W => Rd.fresh_fr W _ _ _ (u8s [98]) 1 rfl rfl)
  have HL99 : Hid (∀ W : World, Rd (W.alloc (.cells #[.int .u8 99] 5 (1, 2))) (W.alloc (.cells #[.int .u8 99] 5 (1, 2))).heap.size (some ⟨W.heap.size, 0, none⟩) 1 (u8s [99])) := Lib.hid (fun W => Rd.fresh_fr W _ _ _ (u8s [99]) 1 rfl rfl)
  have kc := fun (w : World) (C : Array Value) (n c : Nat) => Lib.run_convert_bytes_const (P := Try.prog) w 33 5 C n c Try.underlying33 Try.underlying5
  go_enter Try.func23, Try.ntmps23
  go_upto_region 2 with (go_at_call 28; (with_reducible refine HN.out.mono ?_); rintro e w1 ⟨pa, rfl, hE1, hN2⟩; have HN2 := Lib.hid (hN2 w1 (Ext.refl w1)); clear hE1 hN2)
  go_upto_region 5 with (go_at_call 28; (with_reducible refine HN2.out.mono ?_); rintro e w2 ⟨pb, rfl, M2, hS⟩; have S2 := Lib.hid hS; clear hS)
  go_upto_region 6 with (go_loud (go_at_call 11; (with_reducible refine (st_send (S2.out.ext (L' := fun _ => False) ((Ext.refl w2).alloc _) (fun _ h => h.elim)) [97] (some ⟨w2.heap.size, 0, none⟩) 1 1 (HL97.out w2) HY97.out (by decide) HQ3.out.1 HQ3.out.2).mono ?_); rintro e w3 ⟨rfl, M3, hS, hMm, hk⟩; have S3 : Hid (St w M3 (fun _ => False) w3 pa lvA1 pb (newE 2 9)) := Lib.hid hS; clear hS hMm hk))
  go_upto_region 7 with (go_loud (go_at_call 11; (with_reducible refine (st_send (S3.out.ext (L' := fun _ => False) ((Ext.refl w3).alloc _) (fun _ h => h.elim)) [98] (some ⟨w3.heap.size, 0, none⟩) 1 1 (HL98.out w3) HY98.out (by decide) HQ4.out.1 HQ4.out.2).mono ?_); rintro e w4 ⟨rfl, M4, hS, hMm, hk⟩; have S4 : Hid (St w M4 (fun _ => False) w4 pa lvA2 pb (newE 2 9)) := Lib.hid hS; clear hS hMm hk))
  go_upto_region 8 with (go_loud (go_at_call 11; (with_reducible refine (st_send (S4.out.ext (L' := fun _ => False) ((Ext.refl w4).alloc _) (fun _ h => h.elim)) [99] (some ⟨w4.heap.size, 0, none⟩) 1 1 (HL99.out w4) HY99.out (by decide) HQ5.out.1 HQ5.out.2).mono ?_); rintro e w5 ⟨rfl, M5, hS, hMm, hk⟩; have S5 : Hid (St w M5 (fun _ => False) w5 pa lvA3 pb (newE 2 9)) := Lib.hid hS; clear hS hMm hk))
  have S5' : Hid (St w M5 (fun _ => False) w5 pa lvA3 pb (newE 2 9)) := S5
  go_upto_region 9 with (go_at_call 13; (with_reducible refine (st_out S5'.out).mono ?_); rintro e w6 ⟨OA, oc, n6, ovs, rfl, hn, ho, hp, M6, hS, hMm, hk⟩; rw [lv_out] at hn; subst hn; have S6 := Lib.hid hS; have HO6 := Lib.hid ho; have HP6 := Lib.hid hp; clear hS hMm hk ho hp)
  obtain ⟨L6, hL6⟩ : ∃ L : Nat → Prop, L = fun b => False ∨ (w5.heap.size ≤ b ∧ b < w6.heap.size) := ⟨_, rfl⟩
  rw [← hL6] at S6
  obtain ⟨g6, hOA, hg61, hg62, hcells⟩ := row_at HO6.out (by decide)
  subst hOA
  obtain ⟨G0, c0, hv0, hG01, hG02, hcc0, hcd0, hr0⟩ := pk_at HP6.out 0 (by rw [lv_out]; decide)
  obtain ⟨G1, c1, hv1, hG11, hG12, hcc1, hcd1, hr1⟩ := pk_at HP6.out 1 (by rw [lv_out]; decide)
  have x0 : w6.cell? ⟨g6, 0, none⟩ = some (.slice (some ⟨G0, 0, none⟩) (lvP 0).length c0) := by rw [hcells 0 (by decide), hv0]; rfl
  have x1 : w6.cell? ⟨g6, 1, none⟩ = some (.slice (some ⟨G1, 0, none⟩) (lvP 1).length c1) := by rw [hcells 1 (by decide), hv1]; rfl
  have HI7 := Lib.hid (st_in S6.out.swap (lvP 1) (some ⟨G1, 0, none⟩) (lvP 1).length c1 hr1 (byt_all (by kernel_rfl)) (Nat.le_of_ble_eq_true (by kernel_rfl)) hcc1 hcd1 (by decide) (by decide) (by decide))
  have LG : Hid (L6 g6 ∧ L6 G0 ∧ g6 < w6.heap.size ∧ G0 < w6.heap.size) := Lib.hid (by rw [hL6]; exact ⟨Or.inr ⟨hg61, hg62⟩, Or.inr ⟨hG01, hG02⟩, hg62, hG02⟩)
  have HR0 : Hid (Rd w6 w6.heap.size (some ⟨G0, 0, none⟩) (lvP 0).length (u8s (lvP 0))) := Lib.hid hr0
  have HX0 := Lib.hid x0
  clear hL6 hcells hv0 hG01 hG02 hr0 hv1 hG11 hG12 hr1 hg61 hg62 x0
  go_upto_region 12 with (go_loud (go_at_call 19; (with_reducible refine HI7.out.mono ?_); rintro e w7 ⟨OA7, oc7, k7, ovs7, rfl, hk7, ho7, hm7, hS, hk⟩; rw [lv_in1] at hk7 ⊢; subst hk7; have S7 : Hid (St w M6 (fun b => L6 b ∨ (w6.heap.size ≤ b ∧ b < w7.heap.size)) w7 pb lvB1 pa lvA4) := Lib.hid hS; have HK7 := Lib.hid hk; clear ho7 hm7 hS hk))
  have x0 : w7.cell? ⟨g6, 0, none⟩ = some (.slice (some ⟨G0, 0, none⟩) (lvP 0).length c0) := (keep_cell HK7.out LG.out.2.2.1 LG.out.1).trans HX0.out
  have HI8 := Lib.hid (st_in S7.out (lvP 0) (some ⟨G0, 0, none⟩) (lvP 0).length c0 (keep_rd HK7.out HR0.out LG.out.2.1) (byt_all (by kernel_rfl)) (Nat.le_of_ble_eq_true (by kernel_rfl)) hcc0 hcd0 (of_decide_eq_true (by kernel_rfl)) (Nat.le_of_ble_eq_true (by kernel_rfl)) (of_decide_eq_true (by kernel_rfl)))
  clear x1
  go_upto_region 13 with (go_loud (go_at_call 19; (with_reducible refine HI8.out.mono ?_); rintro e w8 ⟨OA8, oc8, k8, ovs8, rfl, hk8, ho8, hm8, hS, hk⟩; rw [lv_in2] at hk8 hm8 ⊢; subst hk8; have S8 := Lib.hid hS; have HO8 := Lib.hid ho8; have HM8 := Lib.hid hm8; clear ho8 hm8 hS hk))
  obtain ⟨L8, hL8⟩ : ∃ L : Nat → Prop, L = fun b => (L6 b ∨ (w6.heap.size ≤ b ∧ b < w7.heap.size)) ∨ (w7.heap.size ≤ b ∧ b < w8.heap.size) := ⟨_, rfl⟩
  have S8' : Hid (St w M6 L8 w8 pb lvB2 pa lvA4) := Lib.hid (by rw [hL8]; exact S8.out)
  obtain ⟨g8, hOA8, hg81, hg82, hcells8⟩ := row_at HO8.out (by decide)
  subst hOA8
  obtain ⟨_, _, A81, c81, hv81, hc81, hd81, him81⟩ := HM8.out.2 1 (by decide)
  have HL8 : Hid (L8 g8 ∧ g8 < w8.heap.size) := Lib.hid (by rw [hL8]; exact ⟨Or.inr ⟨hg81, hg82⟩, hg82⟩)
  have HY1 : Hid (w8.cell? ⟨g8, 1, none⟩ = some (.slice A81 1 c81)) := Lib.hid (by rw [hcells8 1 (by decide), hv81]; rfl)
  have HIM : Hid (ImRd M6 w8 A81 1 (u8s [98])) := Lib.hid him81
  clear hL8 hcells8 hv81 him81 hg81 hg82 x0
  go_upto_region 14 with (go_loud (go_at_call 13; (with_reducible refine (st_out S8'.out).mono ?_); rintro e w9 ⟨OA9, oc9, n9, ovs9, rfl, hn9, ho9, hp9, M9, hS, hMm9, hk⟩; rw [lv_out2] at hn9; subst hn9; have S9 := Lib.hid hS; have HO9 := Lib.hid ho9; have HP9 := Lib.hid hp9; have HK9 := Lib.hid hk; have HMM9 := Lib.hid hMm9; clear hS hMm9 hk ho9 hp9))
  have y1 : w9.cell? ⟨g8, 1, none⟩ = some (.slice A81 1 c81) := (keep_cell HK9.out HL8.out.2 HL8.out.1).trans HY1.out
  have hcv : (convert 33 9 (.slice A81 1 c81)).run Try.prog w9 = .ok (.string ⟨#[98]⟩) w9 := run_toStr (P := Try.prog) Try.underlying33 Try.underlying5 Try.underlying9 (ImRd.keep (Mu' := M9) HIM.out HK9.out (fun b h => h.1) HMM9.out).rd c81 (by omega)
  go_upto_region 16 with fail
  obtain ⟨g9, hOA9, hg91, hg92, hcells9⟩ := row_at HO9.out (by decide)
  subst hOA9
  obtain ⟨GQ, cq, hvq, hGq1, hGq2, hcq, hdq, hrq⟩ := pk_at HP9.out 0 (by rw [lv_out2]; decide)
  have xq : w9.cell? ⟨g9, 0, none⟩ = some (.slice (some ⟨GQ, 0, none⟩) lvQ.length cq) := by rw [hcells9 0 (by decide), hvq]; rfl
  have HI10 := Lib.hid (st_in S9.out.swap lvQ (some ⟨GQ, 0, none⟩) lvQ.length cq hrq (byt_all (by kernel_rfl)) (Nat.le_of_ble_eq_true (by kernel_rfl)) hcq hdq (of_decide_eq_true (by kernel_rfl)) (Nat.le_of_ble_eq_true (by kernel_rfl)) (of_decide_eq_true (by kernel_rfl)))
  clear hcells9 hvq hrq hGq1 hGq2 hg91 hg92 y1 hcv
  go_upto_region 17 with (go_loud (go_at_call 19; (with_reducible refine HI10.out.mono ?_); rintro e w10 ⟨OA10, oc10, k10, ovs10, rfl, hk10, ho10, hm10, hS, hk⟩; rw [lv_in3]; have S10 := Lib.hid hS; clear ho10 hm10 hS hk))
  obtain ⟨L10, S10'⟩ : ∃ L, Hid (St w M9 L w10 pa lvA5 pb lvB3) := ⟨_, S10⟩
  go_upto_region 18 with (go_loud (go_at_call 13; (with_reducible refine (st_out S10'.out).mono ?_); rintro e w11 ⟨OB, ocB, nB, ovsB, rfl, hnB, hoB, hpB, M11, hS, hMm, hk⟩; rw [lv_out3] at hnB hpB; subst hnB; have S11 := Lib.hid hS; have HOB := Lib.hid hoB; have HPB := Lib.hid hpB; clear hS hMm hk hoB hpB))
  have HB3 : Hid (Byt (packL 3 0 [99])) := Lib.hid (byt_all (by kernel_rfl))
  have HL3 : Hid ((packL 3 0 [99]).length ≤ 10000000000) := Lib.hid (Nat.le_of_ble_eq_true (by kernel_rfl))
  have HBC := Lib.hid (fun W => rbytesP_any 3 0 (by decide) (by decide) (by decide) (by decide) [99] (some ⟨w11.heap.size, 0, none⟩) 1 1 W)
  go_upto_region 19 with (go_loud (first
    | (go_at_call 18; (with_reducible refine (HBC.out _ (HL99.out w11) HY99.out (by decide)).mono ?_); rintro e w12 ⟨⟨A12, c12, rfl, ho12⟩, hB12⟩; have E12 : Hid (Ext w11 w12) := Lib.hid (((Ext.refl w11).alloc _).next hB12); have HR12 := Lib.hid (Rd.of_own ho12); clear ho12 hB12)
    | (go_at_call 17; (with_reducible refine (rseal_any 9 (by decide) (by decide) (packL 3 0 [99]) A12 (packL 3 0 [99]).length c12 w12 HR12.out HB3.out HL3.out).mono ?_); rintro e w13 ⟨⟨A13, c13, rfl, ho13⟩, hB13⟩; have E13 : Hid (Ext w11 w13) := Lib.hid (E12.out.next hB13); have HR13 := Lib.hid (Rd.of_own ho13); clear ho13 hB13)))
  obtain ⟨gB, hOB, hgB1, hgB2, hcellsB⟩ := row_at HOB.out (by decide)
  subst hOB
  obtain ⟨GB, cB, hvB, hGB1, hGB2, hcB, hdB, hrB⟩ := pk_at HPB.out 0 (by decide)
  have xB : w13.cell? ⟨gB, 0, none⟩ = some (.slice (some ⟨GB, 0, none⟩) (sealL 9 (packL 3 0 [99])).length cB) := (E13.out.cell (p := ⟨gB, 0, none⟩) hgB2).trans (by rw [hcellsB 0 (by decide), hvB]; rfl)
  have HRB : Hid (Rd w13 w13.heap.size (some ⟨GB, 0, none⟩) (sealL 9 (packL 3 0 [99])).length (u8s (sealL 9 (packL 3 0 [99])))) := Lib.hid (hrB.ext' E13.out)
  have HSM := Lib.hid (same_any (sealL 9 (packL 3 0 [99])) (sealL 9 (packL 3 0 [99])) (some ⟨GB, 0, none⟩) A13 (sealL 9 (packL 3 0 [99])).length cB (sealL 9 (packL 3 0 [99])).length c13 w13 HRB.out HR13.out (Nat.le_of_ble_eq_true (by kernel_rfl)))
  have S13 := Lib.hid (S11.out.ext' E13.out)
  clear hcellsB hvB hrB hgB1 hgB2 hGB1 hGB2
  go_wp2_with (go_loud (first
    | (go_at_call 29; (with_reducible refine HSM.out.mono ?_); rintro e w14 ⟨rfl, hd⟩; rw [decide_eq_true (Eq.refl (sealL 9 (packL 3 0 [99])))]; have S14 := Lib.hid (S13.out.ext' (hd.below _)); clear hd)
    | (go_at_call 21; (with_reducible refine (st_waiting S14.out).mono ?_); rintro e w15 ⟨rfl, rfl⟩; rw [show (outE lvA5).waiting.length = 1 from lv_end.1])
    | (go_at_call 22; (with_reducible refine (st_forged S14.out).mono ?_); rintro e w16 ⟨rfl, rfl⟩; rw [show (outE lvA5).forged = 0 from lv_end.2])))
  go_ret
  exact ⟨rfl, S14.out.e⟩
end Go.Proofs.Ytkgmoklifkojhaa
