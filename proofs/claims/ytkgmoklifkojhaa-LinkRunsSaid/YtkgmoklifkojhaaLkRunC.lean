/- The reference's Out. Conditions: numbers below a bound. -/
import Derived.Test.YtkgmoklifkojhaaLkRunB
set_option linter.unusedSimpArgs false
set_option linter.unusedVariables false
namespace Go.Proofs.Ytkgmoklifkojhaa
open Go.RowKit
/-- The end that the reference's End stands for. -/
def toE (R : RefS) (tot : Nat) : EndS := { window := R.win, key := R.key, waiting := R.sent.drop R.acked.toNat, acked := R.acked, delivered := R.got, held := fun i => (R.held.find? (fun x => x.1 == i)).map (·.2), owing := R.owing, forged := R.forged, tot := tot, cnt := R.held.length }
def outR (R : RefS) : RefS := { R with owing := false }
theorem rout_plain {Mu Ft : Nat → Prop} {w W : World} {p : Nat} {R : RefS} {SV HV : Value} {vs : List Value} {hs : List (Int × Value)} (hml : ∀ b, Mu b → b < w.heap.size) (I : IsRef Mu w p R SV HV vs hs) (hft : ∀ b, ftR p SV HV b → Ft b) (hfm : ∀ b, Ft b → Mu b) (hE : Ext w W) {v : Value} {n : Nat} {ovs : List Value} {ls : List (List Int)} (ho : W.ownsRow w.heap.size 33 1 v n ovs) (hp : Pks W w.heap.size ovs ls) :
    (W.setCell ⟨p, 6, none⟩ (.bool false)).ownsRow w.heap.size 33 1 v n ovs ∧ Pks (W.setCell ⟨p, 6, none⟩ (.bool false)) w.heap.size ovs ls ∧ Kept Ft w (W.setCell ⟨p, 6, none⟩ (.bool false)) ∧ RefO p (outR R) Mu Ft (W.setCell ⟨p, 6, none⟩ (.bool false)) := by
  have hk1 : Kept (fun b => b = p) W (W.setCell ⟨p, 6, none⟩ (.bool false)) := Kept.setCell (F := fun b => b = p) (p := ⟨p, 6, none⟩) W rfl _
  have hF : ∀ k, k = p → k < w.heap.size := by rintro k rfl; exact I.blk.lt
  refine ⟨own_kept hk1 hF ho, hp.map (fun g n c xs h => own_kept hk1 hF h), (Kept.of_ext hE).trans (hk1.mono (fun b _ h => by rw [h]; exact hft p (Or.inl rfl))), SV, HV, vs, hs, ?_, hft⟩
  have I2 := I.ext hE
  refine I2.put (w8 := W) (Kept.refl _ _) (hfm p (hft p (Or.inl rfl))) 6 (.bool false) (R' := outR R) rfl I2.row I2.msgs I2.hrow I2.hks I2.hms ?_
  obtain ⟨o1, o2, o3, o4, o5, o6, o7, o8, o9, o10, o11, o12, o13⟩ := I2.ok
  exact ⟨o1, o2, o3, o4, o5, o6, o7, o8, o9, o10, o11, o12, o13⟩
set_option maxHeartbeats 4000000 in
set_option maxRecDepth 100000 in
theorem rout_any (Mu Ft : Nat → Prop) (p : Nat) (R : RefS) (w : World) (hE : RefO p R Mu Ft w) (hF : ∀ b, Ft b → Mu b) (hml : ∀ b, Mu b → b < w.heap.size) :
    Calls Try.prog 14 #[.pointer (some ⟨p, 0, none⟩)] w fun e w' => ∃ OA oc n ovs, e = .returned (.slice OA n oc) ∧ (outL (toE R 0)).length = n ∧ w'.ownsRow w.heap.size 33 1 (.slice OA n oc) n ovs ∧ Pks w' w.heap.size ovs (outL (toE R 0)) ∧ Kept Ft w w' ∧ RefO p (outR R) Mu Ft w' := by
  obtain ⟨SV, HV, vs, hs, I, hft⟩ := hE
  obtain ⟨i0, hi, hz0, hz1, hz2⟩ := info_parts u8_bytes
  obtain ⟨SA, sc, hSV, hsc1, hsc2⟩ := own_form I.row
  subst hSV
  have ok := I.ok
  have HML := Lib.hid hml; have HI := Lib.hid I; have HFT := Lib.hid hft; have HFM := Lib.hid hF
  have HPW := Lib.hid I.blk.lt
  obtain ⟨nw, hnw⟩ : ∃ k, k = R.sent.length := ⟨_, rfl⟩
  obtain ⟨wi, hwi⟩ : ∃ k, k = R.win := ⟨_, rfl⟩
  obtain ⟨ky, hky⟩ : ∃ k, k = R.key := ⟨_, rfl⟩
  obtain ⟨a, hac⟩ : ∃ k : Nat, (k : Int) = R.acked := ⟨R.acked.toNat, by have := ok.a0; omega⟩
  obtain ⟨dl, hdl⟩ : ∃ k, k = R.got := ⟨_, rfl⟩
  obtain ⟨ow, how⟩ : ∃ k, k = R.owing := ⟨_, rfl⟩
  obtain ⟨k, hk⟩ : ∃ k, k = outK (toE R 0) := ⟨_, rfl⟩
  have hat : R.acked.toNat = a := by omega
  have hw1 : 1 ≤ wi := by rw [hwi]; exact ok.w0
  have hw2 : wi ≤ 16 := by rw [hwi]; exact ok.w1
  have k0 : 0 ≤ ky := by rw [hky]; exact ok.k0
  have k1 : ky ≤ 18446744073709551615 := by rw [hky]; exact ok.k1
  have a1 : a ≤ nw := by have := ok.a1; rw [hnw]; omega
  have d0' : 0 ≤ dl := by rw [hdl]; exact ok.g0
  have d1' : dl ≤ 1000000000 := by rw [hdl]; have := ok.g1; omega
  have n1 : nw ≤ 1000 := by rw [hnw]; exact ok.s1
  have hkm : (k : Int) = min ((nw : Int) - a) wi := by
    rw [hk]; unfold outK toE; simp only [List.length_drop, hat, ← hnw, ← hwi]; omega
  have hkn : a + k ≤ nw := by omega
  have hk16 : k ≤ 16 := by omega
  rw [← hnw] at hsc1
  have HB : Hid (∀ W, Ext w W → W.cell? ⟨p, 0, none⟩ = some (.int .i64 wi) ∧ W.cell? ⟨p, 1, none⟩ = some (.int .u64 ky) ∧ W.cell? ⟨p, 2, none⟩ = some (.slice SA nw sc) ∧ W.cell? ⟨p, 3, none⟩ = some (.int .i64 (a : Int)) ∧ W.cell? ⟨p, 4, none⟩ = some (.int .i64 dl) ∧ W.cell? ⟨p, 6, none⟩ = some (.bool ow) ∧ W.frozen? ⟨p, 6, none⟩ = false) := Lib.hid (fun W hW => by
    have hb := I.blk.ext hW
    refine ⟨?_, ?_, ?_, ?_, ?_, ?_, hb.frozen 6⟩
    · rw [hwi]; exact hb.cell 0
    · rw [hky]; exact hb.cell 1
    · rw [hnw]; exact hb.cell 2
    · rw [hac]; exact hb.cell 3
    · rw [hdl]; exact hb.cell 4
    · rw [how]; exact hb.cell 6)
  have HNW := Lib.hid hnw; have HKY := Lib.hid hky; have HAC := Lib.hid hac; have HDL := Lib.hid hdl; have HOW := Lib.hid how; have HKK := Lib.hid hk; have HAT := Lib.hid hat
  have HKM := Lib.hid hkm
  have hc3 := (HB.out w (Ext.refl w)).2.2.2.1
  clear hml I ok hnw hwi hky hac hdl how hk hkm hft hF hat
  go_enter Try.func14, Try.ntmps14
  go_wp2_with fail
  clear hc3
  go_loopw [3, 4] (fun s3 s4 wr => ∃ (t : Nat) (OA : Option Addr) (oc : Nat) (ovs : List Value), t ≤ k ∧ s4 = .int .i64 ((a + t : Nat) : Int) ∧ s3 = .slice OA t oc ∧ wr.ownsRow w.heap.size 33 1 (.slice OA t oc) t ovs ∧ Pks wr w.heap.size ovs (outTo (toE R 0) t) ∧ Ext w wr) (fun _ i _ => a + k - (intOf i).toNat)
  case atStart => exact ⟨0, none, 0, [], Nat.zero_le _, rfl, rfl, World.ownsRow_nil _ _ _ _, Pks.nil _ _, Ext.refl w⟩
  case round =>
    obtain ⟨t, OA, oc, ovs, htk, rfl, rfl, ho, hpk, hEr⟩ := hrel
    have HO := Lib.hid ho; have HPK0 := Lib.hid hpk; have HEr := Lib.hid hEr
    clear ho hpk hEr
    obtain ⟨wo, rfl⟩ : ∃ x : World, x = wr := ⟨_, rfl⟩
    obtain ⟨hb0, hb1, hb2, hb3, hb4, hb6, _⟩ := HB.out wo HEr.out
    obtain ⟨j, hj⟩ : ∃ j, j = a + t := ⟨_, rfl⟩
    have HJ := Lib.hid hj
    rw [← hj]
    by_cases hlt : t < k
    · have hjn : j < nw := by omega
      have hd1 : decide (j < nw) = true := decide_eq_true hjn
      have hd2 : decide ((j : Int) < (a : Int) + wi) = true := decide_eq_true (by have := HKM.out; omega)
      have hjs : j < R.sent.length := by rw [← HNW.out]; exact hjn
      obtain ⟨hbyt, hm64, mA, mc, hvm, hmc1, hmc2, him⟩ := (HI.out.ext HEr.out).msgs.2 j hjs
      obtain ⟨M, hM⟩ : ∃ M, M = R.sent.getD j [] := ⟨_, rfl⟩
      rw [← hM] at hbyt hm64 hvm hmc1 him
      obtain ⟨gw, hgw, hcell, hgwl⟩ : ∃ g, SA = some ⟨g, 0, none⟩ ∧ wo.cell? ⟨g, j, none⟩ = some (.slice mA M.length mc) ∧ g < wo.heap.size := by
        have hrow := (HI.out.ext HEr.out).row
        obtain ⟨g, h1, h2, h3, h4⟩ := row_at hrow (by omega)
        exact ⟨g, h1, by rw [h4 j hjs, hvm], h3⟩
      subst hgw
      have HHM := Lib.hid hM; have HRM0 := Lib.hid him; have HBM := Lib.hid hbyt; have HCE := Lib.hid hcell
      clear hvm him hbyt hM hjs hmc1 hmc2 hcell hj
      obtain ⟨PK, hPK⟩ : ∃ x, x = packL (j + 1) dl M := ⟨_, rfl⟩
      have HPK : Hid (packL (j + 1) dl M = PK) := Lib.hid hPK.symm
      have HPB : Hid (Byt PK) := Lib.hid (by rw [hPK]; exact packL_byt _ _ (by omega) (by omega) (by omega) (by omega) M (by omega))
      have HPL : Hid (PK.length ≤ 10000000000) := Lib.hid (by rw [hPK]; have := packL_le (j + 1) dl (by omega) (by omega) (by omega) (by omega) M (by omega); omega)
      obtain ⟨SK, hSK⟩ : ∃ x, x = sealL ky PK := ⟨_, rfl⟩
      have HSK : Hid (sealL ky PK = SK) := Lib.hid hSK.symm
      have HPE : Hid (pktE (toE R 0) t = SK) := Lib.hid (by
        have e1 : (R.sent.drop a).getD t [] = M := by rw [HHM.out, HJ.out, List.getD_eq_getElem?_getD, List.getElem?_drop, List.getD_eq_getElem?_getD]
        rw [hSK, hPK]
        unfold pktE toE
        simp only [← HAC.out, Int.toNat_natCast, e1, ← HKY.out, ← HDL.out]
        rw [show (a : Int) + t + 1 = (j : Int) + 1 by have := HJ.out; omega])
      have HSL : Hid (0 < SK.length) := Lib.hid (by rw [hSK, sealL_length]; omega)
      have HRM : Hid (∀ W, Ext wo.drew W → Rd W W.heap.size mA M.length (u8s M)) := Lib.hid (fun W hW => HRM0.out.rd.ext' ((Ext.refl wo).drew.next hW))
      clear hPK hSK
      go_wp2_with fail
      go_quiet (fail)
      have E1' : Ext wo (wo.drewN nq) := (Ext.refl wo).drewN nq
      obtain ⟨w1, hw1⟩ : ∃ x, x = wo.drewN nq := ⟨_, rfl⟩
      rw [← hw1] at E1' ⊢
      have E1 := Lib.hid E1'
      clear E1' hw1 hb0 hb1 hb2 hb3 hb4 hb6 hd1 hd2
      go_upto_region 5 with fail
      have HRM1 : Hid (∀ W, Ext w1.drew W → Rd W W.heap.size mA M.length (u8s M)) := Lib.hid (fun W hW => HRM0.out.rd.ext' (E1.out.next ((Ext.refl w1).drew.next hW)))
      refine wp_region_flowF 22 ?F5 (fun us => ?_) (by kernel_rfl) (by kernel_rfl) (fun a b => Ext a b) Ext.refl (fun h1 h2 => h1.next h2) (fun i v W => match i with
        | 0 => v = .slice OA t oc
        | 1 => v = .pointer (some ⟨p, 0, none⟩)
        | 2 => v = .pointer (some ⟨p, 0, none⟩)
        | 3 => v = .pointer (some ⟨p, 1, none⟩)
        | 4 => v = .int .u64 ky
        | 5 => v = .int .i64 j
        | 6 => v = .int .i64 (j + 1)
        | 7 => v = .pointer (some ⟨p, 0, none⟩)
        | 8 => v = .pointer (some ⟨p, 0, none⟩)
        | 9 => v = .pointer (some ⟨p, 4, none⟩)
        | 10 => v = .int .i64 dl
        | 11 => v = .pointer (some ⟨p, 0, none⟩)
        | 12 => v = .pointer (some ⟨p, 0, none⟩)
        | 13 => v = .pointer (some ⟨p, 2, none⟩)
        | 14 => v = .slice (some ⟨gw, 0, none⟩) nw sc
        | 15 => v = .int .i64 j
        | 16 => v = .pointer (some ⟨gw, j, none⟩)
        | 17 => v = .slice mA M.length mc
        | 18 => v = .agg #[.int .i64 (j + 1), .int .i64 dl, .slice mA M.length mc]
        | 19 => ∃ A c, v = .slice A PK.length c ∧ W.ownsRow wo.heap.size 5 1 (.slice A PK.length c) PK.length (u8s PK)
        | 20 => ∃ A c, v = .slice A SK.length c ∧ W.ownsRow wo.heap.size 5 1 (.slice A SK.length c) SK.length (u8s SK)
        | 21 => ∃ A c g, v = .slice (some ⟨g, 0, none⟩) 1 1 ∧ W.ownsRow wo.heap.size 5 1 (.slice A SK.length c) SK.length (u8s SK) ∧ Blk W g 33 [.slice A SK.length c]
        | _ => True) ?_ ?_
      case refine_1 =>
        simp only [List.take_succ_cons, List.take_zero, flowAct, Nat.zero_add, Nat.reduceAdd, Act.put, List.setIfInBounds_toArray, List.set_cons_succ, List.set_cons_zero]
        rfl
      · simp only [List.take_succ_cons, List.take_zero, flowStepsF]
        refine ⟨?_, ?_, ?_, ?_, ?_, ?_, ?_, ?_, ?_, ?_, ?_, ?_, ?_, ?_, ?_, ?_, ?_, ?_, ?_, ?_, ?_, ?_, trivial⟩
        · intro us W K hE hd hK
          dsimp only at hK ⊢
          have HK := Lib.hid hK; have HE := Lib.hid hE
          clear hK hd hE
          go_wp2_with fail
          exact K_at (HK.out (.slice OA t oc) W (fun _ _ => rfl) (Ext.refl W)) (by kernel_rfl)
        · intro us W K hE hd hK
          dsimp only at hK ⊢
          have HK := Lib.hid hK; have HE := Lib.hid hE
          clear hK hd hE
          go_wp2_with fail
          exact K_at (HK.out (.pointer (some ⟨p, 0, none⟩)) W (fun _ _ => rfl) (Ext.refl W)) (by kernel_rfl)
        · intro us W K hE hd hK
          have d1 := hd 1 (by kernel_rfl)
          dsimp only at hK ⊢
          rw [d1] at hK ⊢
          have HK := Lib.hid hK; have HE := Lib.hid hE
          clear hK hd hE d1
          go_wp2_with fail
          exact K_at (HK.out (.pointer (some ⟨p, 0, none⟩)) W (fun _ _ => rfl) (Ext.refl W)) (by kernel_rfl)
        · intro us W K hE hd hK
          have d2 := hd 2 (by kernel_rfl)
          dsimp only at hK ⊢
          rw [d2] at hK ⊢
          have HK := Lib.hid hK; have HE := Lib.hid hE
          clear hK hd hE d2
          go_wp2_with fail
          exact K_at (HK.out (.pointer (some ⟨p, 1, none⟩)) W (fun _ _ => rfl) (Ext.refl W)) (by kernel_rfl)
        · intro us W K hE hd hK
          have d3 := hd 3 (by kernel_rfl)
          have c0 := (HB.out W (HEr.out.next (E1.out.next (ext_undrew hE)))).2.1
          dsimp only at hK ⊢
          rw [d3] at hK ⊢
          have HK := Lib.hid hK; have HE := Lib.hid hE
          clear hK hd hE d3
          go_wp2_with fail
          exact K_at (HK.out (.int .u64 ky) W (fun _ _ => rfl) (Ext.refl W)) (by kernel_rfl)
        · intro us W K hE hd hK
          dsimp only at hK ⊢
          have HK := Lib.hid hK; have HE := Lib.hid hE
          clear hK hd hE
          go_wp2_with fail
          exact K_at (HK.out (.int .i64 j) W (fun _ _ => rfl) (Ext.refl W)) (by kernel_rfl)
        · intro us W K hE hd hK
          have d5 := hd 5 (by kernel_rfl)
          dsimp only at hK ⊢
          rw [d5] at hK ⊢
          have HK := Lib.hid hK; have HE := Lib.hid hE
          clear hK hd hE d5
          go_wp2_with fail
          exact K_at (HK.out (.int .i64 (j + 1)) W (fun _ _ => rfl) (Ext.refl W)) (by kernel_rfl)
        · intro us W K hE hd hK
          dsimp only at hK ⊢
          have HK := Lib.hid hK; have HE := Lib.hid hE
          clear hK hd hE
          go_wp2_with fail
          exact K_at (HK.out (.pointer (some ⟨p, 0, none⟩)) W (fun _ _ => rfl) (Ext.refl W)) (by kernel_rfl)
        · intro us W K hE hd hK
          have d7 := hd 7 (by kernel_rfl)
          dsimp only at hK ⊢
          rw [d7] at hK ⊢
          have HK := Lib.hid hK; have HE := Lib.hid hE
          clear hK hd hE d7
          go_wp2_with fail
          exact K_at (HK.out (.pointer (some ⟨p, 0, none⟩)) W (fun _ _ => rfl) (Ext.refl W)) (by kernel_rfl)
        · intro us W K hE hd hK
          have d8 := hd 8 (by kernel_rfl)
          dsimp only at hK ⊢
          rw [d8] at hK ⊢
          have HK := Lib.hid hK; have HE := Lib.hid hE
          clear hK hd hE d8
          go_wp2_with fail
          exact K_at (HK.out (.pointer (some ⟨p, 4, none⟩)) W (fun _ _ => rfl) (Ext.refl W)) (by kernel_rfl)
        · intro us W K hE hd hK
          have d9 := hd 9 (by kernel_rfl)
          have c0 := (HB.out W (HEr.out.next (E1.out.next (ext_undrew hE)))).2.2.2.2.1
          dsimp only at hK ⊢
          rw [d9] at hK ⊢
          have HK := Lib.hid hK; have HE := Lib.hid hE
          clear hK hd hE d9
          go_wp2_with fail
          exact K_at (HK.out (.int .i64 dl) W (fun _ _ => rfl) (Ext.refl W)) (by kernel_rfl)
        · intro us W K hE hd hK
          dsimp only at hK ⊢
          have HK := Lib.hid hK; have HE := Lib.hid hE
          clear hK hd hE
          go_wp2_with fail
          exact K_at (HK.out (.pointer (some ⟨p, 0, none⟩)) W (fun _ _ => rfl) (Ext.refl W)) (by kernel_rfl)
        · intro us W K hE hd hK
          have d11 := hd 11 (by kernel_rfl)
          dsimp only at hK ⊢
          rw [d11] at hK ⊢
          have HK := Lib.hid hK; have HE := Lib.hid hE
          clear hK hd hE d11
          go_wp2_with fail
          exact K_at (HK.out (.pointer (some ⟨p, 0, none⟩)) W (fun _ _ => rfl) (Ext.refl W)) (by kernel_rfl)
        · intro us W K hE hd hK
          have d12 := hd 12 (by kernel_rfl)
          dsimp only at hK ⊢
          rw [d12] at hK ⊢
          have HK := Lib.hid hK; have HE := Lib.hid hE
          clear hK hd hE d12
          go_wp2_with fail
          exact K_at (HK.out (.pointer (some ⟨p, 2, none⟩)) W (fun _ _ => rfl) (Ext.refl W)) (by kernel_rfl)
        · intro us W K hE hd hK
          have d13 := hd 13 (by kernel_rfl)
          have c0 := (HB.out W (HEr.out.next (E1.out.next (ext_undrew hE)))).2.2.1
          dsimp only at hK ⊢
          rw [d13] at hK ⊢
          have HK := Lib.hid hK; have HE := Lib.hid hE
          clear hK hd hE d13
          go_wp2_with fail
          exact K_at (HK.out (.slice (some ⟨gw, 0, none⟩) nw sc) W (fun _ _ => rfl) (Ext.refl W)) (by kernel_rfl)
        · intro us W K hE hd hK
          dsimp only at hK ⊢
          have HK := Lib.hid hK; have HE := Lib.hid hE
          clear hK hd hE
          go_wp2_with fail
          exact K_at (HK.out (.int .i64 j) W (fun _ _ => rfl) (Ext.refl W)) (by kernel_rfl)
        · intro us W K hE hd hK
          have d14 := hd 14 (by kernel_rfl)
          have d15 := hd 15 (by kernel_rfl)
          dsimp only at hK ⊢
          rw [d14, d15] at hK ⊢
          have HK := Lib.hid hK; have HE := Lib.hid hE
          clear hK hd hE d14 d15
          go_wp2_with fail
          exact K_at (HK.out (.pointer (some ⟨gw, j, none⟩)) W (fun _ _ => rfl) (Ext.refl W)) (by kernel_rfl)
        · intro us W K hE hd hK
          have d16 := hd 16 (by kernel_rfl)
          have c0 := (E1.out.next (ext_undrew hE)).cell (p := ⟨gw, j, none⟩) hgwl |>.trans HCE.out
          dsimp only at hK ⊢
          rw [d16] at hK ⊢
          have HK := Lib.hid hK; have HE := Lib.hid hE
          clear hK hd hE d16
          go_wp2_with fail
          exact K_at (HK.out (.slice mA M.length mc) W (fun _ _ => rfl) (Ext.refl W)) (by kernel_rfl)
        · intro us W K hE hd hK
          have d6 := hd 6 (by kernel_rfl)
          have d10 := hd 10 (by kernel_rfl)
          have d17 := hd 17 (by kernel_rfl)
          dsimp only at hK ⊢
          rw [d6, d10, d17] at hK ⊢
          have HK := Lib.hid hK; have HE := Lib.hid hE
          clear hK hd hE d6 d10 d17
          go_wp2_with fail
          exact K_at (HK.out (.agg #[.int .i64 (j + 1), .int .i64 dl, .slice mA M.length mc]) W (fun _ _ => rfl) (Ext.refl W)) (by kernel_rfl)
        · intro us W K hE hd hK
          have d18 := hd 18 (by kernel_rfl)
          dsimp only at hK ⊢
          rw [d18] at hK ⊢
          have HK := Lib.hid hK; have HE := Lib.hid hE
          clear hK hd hE d18
          go_wp2_with (go_loud (go_at_call 18; (with_reducible refine (rbytesP_any (j + 1) dl (by omega) (by omega) (by omega) (by omega) M mA M.length mc W (HRM1.out W HE.out) HBM.out (by omega)).mono ?_); rintro e w7 ⟨⟨A7, c7, rfl, ho7⟩, hB7⟩; rw [HPK.out] at ho7 ⊢))
          exact K_at (HK.out (.slice A7 PK.length c7) w7 (fun W2 h2 => ⟨A7, c7, rfl, own_ext h2 (own_mono ho7 (Nat.le_trans E1.out.size HE.out.size))⟩) hB7) (by kernel_rfl)
        · intro us W K hE hd hK
          have d4 := hd 4 (by kernel_rfl)
          obtain ⟨A7, c7, d19, o7⟩ := hd 19 (by kernel_rfl)
          have HR7 := Lib.hid (own_rd o7)
          dsimp only at hK ⊢
          rw [d4, d19] at hK ⊢
          have HK := Lib.hid hK; have HE := Lib.hid hE
          clear hK hd hE d4 d19 o7
          go_wp2_with (go_loud (go_at_call 17; (with_reducible refine (rseal_any ky k0 k1 PK A7 PK.length c7 W HR7.out HPB.out HPL.out).mono ?_); rintro e w8 ⟨⟨A8, c8, rfl, ho8⟩, hB8⟩; rw [HSK.out] at ho8 ⊢))
          exact K_at (HK.out (.slice A8 SK.length c8) w8 (fun W2 h2 => ⟨A8, c8, rfl, own_ext h2 (own_mono ho8 (Nat.le_trans E1.out.size HE.out.size))⟩) hB8) (by kernel_rfl)
        · intro us W K hE hd hK
          obtain ⟨A8, c8, d20, o8⟩ := hd 20 (by kernel_rfl)
          dsimp only at hK ⊢
          rw [d20] at hK ⊢
          have HK := Lib.hid hK; have HE := Lib.hid hE
          clear hK hd hE d20
          go_wp2_with fail
          exact K_at (HK.out (.slice (some ⟨W.heap.size, 0, none⟩) 1 1) (W.alloc (.cells #[.slice A8 SK.length c8] 33)) (fun W2 h2 => ⟨A8, c8, _, rfl, own_ext (((Ext.refl W).alloc _).next h2) o8, (Blk.fresh W 33 [.slice A8 SK.length c8]).ext h2⟩) ((Ext.refl W).alloc _)) (by kernel_rfl)
      · intro us W hE hd
        try dsimp only
        obtain ⟨A8, c8, g8, d21, ho8, hb8⟩ := hd 21 (by decide)
        have e0 := hd 0 (by decide)
        simp only [List.drop_succ_cons, List.drop_zero]
        rw [d21, e0]
        have E5 : Hid (Ext wo W) := Lib.hid (E1.out.next (ext_undrew hE))
        have HB8 := Lib.hid hb8
        have HO8 := Lib.hid ho8
        clear hE hd d21 e0 hb8 ho8
        have HO5 : Hid (W.ownsRow w.heap.size 33 1 (.slice OA t oc) t ovs) := Lib.hid (own_ext E5.out HO.out)
        have hwW : w.heap.size ≤ W.heap.size := Nat.le_trans HEr.out.size E5.out.size
        go_wp2_with (at_builtin; refine wpList_append_own_at _ rfl (.tmp 31) (.tmp 52) 28 rfl w.heap.size 33 i0 (.slice none 0 0) 1 24 Try.underlying28 hi hz0 hz1 hz2 rfl (by omega) (.slice OA t oc) t ovs rfl HO5.out ⟨g8, 0, none⟩ 1 1 [.slice A8 SK.length c8] rfl rfl (blk_adds HB8.out) (by simp [Value.oneCell']) (by simp only [maxLen]; omega) (by omega) hwW ?_; intro v5 w5 ho5 hg5 hn5 hat5; obtain ⟨A5, c5, e5⟩ := own_slice ho5 (Nat.succ_pos _); subst e5; have HO5b := Lib.hid ho5; have HG5 := Lib.hid hg5; clear ho5 hg5 hn5 hat5)
        obtain ⟨q1, q2⟩ := out_round HPK0.out HEr.out E5.out HO8.out HSL.out HO5.out HG5.out
        refine ⟨⟨t + 1, A5, c5, _, by omega, by rw [show a + (t + 1) = j + 1 by have := HJ.out; omega]; go_num, rfl, HO5b.out, by rw [outTo_succ, HPE.out]; exact q1, q2⟩, ?_⟩
        simp only [intOf]
        have := HJ.out
        omega
    · obtain rfl : t = k := by omega
      have hd12 : decide (j < nw) = false ∨ (decide (j < nw) = true ∧ decide ((j : Int) < (a : Int) + wi) = false) := by
        have := HKM.out
        by_cases h : j < nw
        · exact Or.inr ⟨decide_eq_true h, decide_eq_false (by omega)⟩
        · exact Or.inl (decide_eq_false h)
      have hjn : j ≤ nw := by omega
      clear hj
      rcases hd12 with hd1 | ⟨hd1, hd2⟩
      · go_wp2_with fail
        go_quiet (fail)
        have E1' : Ext wo (wo.drewN nq) := (Ext.refl wo).drewN nq
        obtain ⟨w1, hw1⟩ : ∃ x, x = wo.drewN nq := ⟨_, rfl⟩
        rw [← hw1] at E1' ⊢
        have E1 := Lib.hid E1'
        have EW := Lib.hid (HEr.out.next E1')
        clear E1' hw1 hb0 hb1 hb2 hb3 hb4 hb6 hd1
        obtain ⟨_, _, _, _, _, hb6, hf6⟩ := HB.out w1 EW.out
        by_cases hq : t = 0 ∧ ow = true
        · obtain ⟨rfl, rfl⟩ := hq
          have HOL : Hid (outL (toE R 0) = [sealL ky (packL 0 dl [])]) := Lib.hid (by
            rw [outL, if_pos ⟨HKK.out.symm, HOW.out.symm⟩, HKY.out, HDL.out]; rfl)
          obtain ⟨PK, hPK⟩ : ∃ x, x = packL 0 dl [] := ⟨_, rfl⟩
          have HPK : Hid (packL 0 dl [] = PK) := Lib.hid hPK.symm
          have HPB : Hid (Byt PK) := Lib.hid (by rw [hPK]; exact packL_byt _ _ (by omega) (by omega) (by omega) (by omega) [] (by simp))
          have HPL : Hid (PK.length ≤ 10000000000) := Lib.hid (by rw [hPK]; have := packL_le 0 dl (by omega) (by omega) (by omega) (by omega) [] (by simp); simp at this; omega)
          obtain ⟨SK, hSK⟩ : ∃ x, x = sealL ky PK := ⟨_, rfl⟩
          have HSK : Hid (sealL ky PK = SK) := Lib.hid hSK.symm
          have HSL : Hid (0 < SK.length) := Lib.hid (by rw [hSK, sealL_length]; omega)
          rw [hPK.symm, hSK.symm] at HOL
          have HB6 : Hid (∀ W w5 : World, Ext w1 W → W.grownBy w5 (Value.slice OA 0 oc).ownBlock → w5.cell? ⟨p, 6, none⟩ = some (.bool true) ∧ w5.frozen? ⟨p, 6, none⟩ = false) := Lib.hid (fun W w5 hW hg => by
            have hb := Kept.blk (F := fun b => (Value.slice OA 0 oc).ownBlock = some b) (Kept.of_grown hg (fun b hb _ => hb)) (HI.out.blk.ext (EW.out.next hW)) (fun hf => by have h1 := own_ge HO.out hf; have h2 := HPW.out; omega)
            exact ⟨by rw [HOW.out]; exact hb.cell 6, hb.frozen 6⟩)
          clear hPK hSK
          go_upto_region 7 with fail
          clear hb6 hf6
          refine wp_region_flowF 13 ?F7 (fun us => ?_) (by kernel_rfl) (by kernel_rfl) (fun a b => Ext a b) Ext.refl (fun h1 h2 => h1.next h2) (fun i v W => match i with
            | 0 => v = .slice OA 0 oc
            | 1 => v = .pointer (some ⟨p, 0, none⟩)
            | 2 => v = .pointer (some ⟨p, 0, none⟩)
            | 3 => v = .pointer (some ⟨p, 1, none⟩)
            | 4 => v = .int .u64 ky
            | 5 => v = .pointer (some ⟨p, 0, none⟩)
            | 6 => v = .pointer (some ⟨p, 0, none⟩)
            | 7 => v = .pointer (some ⟨p, 4, none⟩)
            | 8 => v = .int .i64 dl
            | 9 => v = .agg #[.int .i64 (0 : Int), .int .i64 dl, .slice none 0 0]
            | 10 => ∃ A c, v = .slice A PK.length c ∧ W.ownsRow wo.heap.size 5 1 (.slice A PK.length c) PK.length (u8s PK)
            | 11 => ∃ A c, v = .slice A SK.length c ∧ W.ownsRow wo.heap.size 5 1 (.slice A SK.length c) SK.length (u8s SK)
            | 12 => ∃ A c g, v = .slice (some ⟨g, 0, none⟩) 1 1 ∧ W.ownsRow wo.heap.size 5 1 (.slice A SK.length c) SK.length (u8s SK) ∧ Blk W g 33 [.slice A SK.length c]
            | _ => True) ?_ ?_
          case refine_1 =>
            simp only [List.take_succ_cons, List.take_zero, flowAct, Nat.zero_add, Nat.reduceAdd, Act.put, List.setIfInBounds_toArray, List.set_cons_succ, List.set_cons_zero]
            rfl
          · simp only [List.take_succ_cons, List.take_zero, flowStepsF]
            refine ⟨?_, ?_, ?_, ?_, ?_, ?_, ?_, ?_, ?_, ?_, ?_, ?_, ?_, trivial⟩
            · intro us W K hE hd hK
              dsimp only at hK ⊢
              have HK := Lib.hid hK; have HE := Lib.hid hE
              clear hK hd hE
              go_wp2_with fail
              exact K_at (HK.out (.slice OA 0 oc) W (fun _ _ => rfl) (Ext.refl W)) (by kernel_rfl)
            · intro us W K hE hd hK
              dsimp only at hK ⊢
              have HK := Lib.hid hK; have HE := Lib.hid hE
              clear hK hd hE
              go_wp2_with fail
              exact K_at (HK.out (.pointer (some ⟨p, 0, none⟩)) W (fun _ _ => rfl) (Ext.refl W)) (by kernel_rfl)
            · intro us W K hE hd hK
              have d1 := hd 1 (by kernel_rfl)
              dsimp only at hK ⊢
              rw [d1] at hK ⊢
              have HK := Lib.hid hK; have HE := Lib.hid hE
              clear hK hd hE d1
              go_wp2_with fail
              exact K_at (HK.out (.pointer (some ⟨p, 0, none⟩)) W (fun _ _ => rfl) (Ext.refl W)) (by kernel_rfl)
            · intro us W K hE hd hK
              have d2 := hd 2 (by kernel_rfl)
              dsimp only at hK ⊢
              rw [d2] at hK ⊢
              have HK := Lib.hid hK; have HE := Lib.hid hE
              clear hK hd hE d2
              go_wp2_with fail
              exact K_at (HK.out (.pointer (some ⟨p, 1, none⟩)) W (fun _ _ => rfl) (Ext.refl W)) (by kernel_rfl)
            · intro us W K hE hd hK
              have d3 := hd 3 (by kernel_rfl)
              have c0 := (HB.out W (EW.out.next (ext_undrew hE))).2.1
              dsimp only at hK ⊢
              rw [d3] at hK ⊢
              have HK := Lib.hid hK; have HE := Lib.hid hE
              clear hK hd hE d3
              go_wp2_with fail
              exact K_at (HK.out (.int .u64 ky) W (fun _ _ => rfl) (Ext.refl W)) (by kernel_rfl)
            · intro us W K hE hd hK
              dsimp only at hK ⊢
              have HK := Lib.hid hK; have HE := Lib.hid hE
              clear hK hd hE
              go_wp2_with fail
              exact K_at (HK.out (.pointer (some ⟨p, 0, none⟩)) W (fun _ _ => rfl) (Ext.refl W)) (by kernel_rfl)
            · intro us W K hE hd hK
              have d5 := hd 5 (by kernel_rfl)
              dsimp only at hK ⊢
              rw [d5] at hK ⊢
              have HK := Lib.hid hK; have HE := Lib.hid hE
              clear hK hd hE d5
              go_wp2_with fail
              exact K_at (HK.out (.pointer (some ⟨p, 0, none⟩)) W (fun _ _ => rfl) (Ext.refl W)) (by kernel_rfl)
            · intro us W K hE hd hK
              have d6 := hd 6 (by kernel_rfl)
              dsimp only at hK ⊢
              rw [d6] at hK ⊢
              have HK := Lib.hid hK; have HE := Lib.hid hE
              clear hK hd hE d6
              go_wp2_with fail
              exact K_at (HK.out (.pointer (some ⟨p, 4, none⟩)) W (fun _ _ => rfl) (Ext.refl W)) (by kernel_rfl)
            · intro us W K hE hd hK
              have d7 := hd 7 (by kernel_rfl)
              have c0 := (HB.out W (EW.out.next (ext_undrew hE))).2.2.2.2.1
              dsimp only at hK ⊢
              rw [d7] at hK ⊢
              have HK := Lib.hid hK; have HE := Lib.hid hE
              clear hK hd hE d7
              go_wp2_with fail
              exact K_at (HK.out (.int .i64 dl) W (fun _ _ => rfl) (Ext.refl W)) (by kernel_rfl)
            · intro us W K hE hd hK
              have d8 := hd 8 (by kernel_rfl)
              dsimp only at hK ⊢
              rw [d8] at hK ⊢
              have HK := Lib.hid hK; have HE := Lib.hid hE
              clear hK hd hE d8
              go_wp2_with fail
              exact K_at (HK.out (.agg #[.int .i64 (0 : Int), .int .i64 dl, .slice none 0 0]) W (fun _ _ => rfl) (Ext.refl W)) (by kernel_rfl)
            · intro us W K hE hd hK
              have d9 := hd 9 (by kernel_rfl)
              dsimp only at hK ⊢
              rw [d9] at hK ⊢
              have HK := Lib.hid hK; have HE := Lib.hid hE
              clear hK hd hE d9
              go_wp2_with (go_loud (go_at_call 18; (with_reducible refine (rbytesP_any 0 dl (by omega) (by omega) (by omega) (by omega) [] none 0 0 W (Rd.nil _ _ _) Byt.nil (by omega)).mono ?_); rintro e w7 ⟨⟨A7, c7, rfl, ho7⟩, hB7⟩; rw [HPK.out] at ho7 ⊢))
              exact K_at (HK.out (.slice A7 PK.length c7) w7 (fun W2 h2 => ⟨A7, c7, rfl, own_ext h2 (own_mono ho7 (Nat.le_trans E1.out.size HE.out.size))⟩) hB7) (by kernel_rfl)
            · intro us W K hE hd hK
              have d4 := hd 4 (by kernel_rfl)
              obtain ⟨A7, c7, d10, o7⟩ := hd 10 (by kernel_rfl)
              have HR7 := Lib.hid (own_rd o7)
              dsimp only at hK ⊢
              rw [d4, d10] at hK ⊢
              have HK := Lib.hid hK; have HE := Lib.hid hE
              clear hK hd hE d4 d10 o7
              go_wp2_with (go_loud (go_at_call 17; (with_reducible refine (rseal_any ky k0 k1 PK A7 PK.length c7 W HR7.out HPB.out HPL.out).mono ?_); rintro e w8 ⟨⟨A8, c8, rfl, ho8⟩, hB8⟩; rw [HSK.out] at ho8 ⊢))
              exact K_at (HK.out (.slice A8 SK.length c8) w8 (fun W2 h2 => ⟨A8, c8, rfl, own_ext h2 (own_mono ho8 (Nat.le_trans E1.out.size HE.out.size))⟩) hB8) (by kernel_rfl)
            · intro us W K hE hd hK
              obtain ⟨A8, c8, d11, o8⟩ := hd 11 (by kernel_rfl)
              dsimp only at hK ⊢
              rw [d11] at hK ⊢
              have HK := Lib.hid hK; have HE := Lib.hid hE
              clear hK hd hE d11
              go_wp2_with fail
              exact K_at (HK.out (.slice (some ⟨W.heap.size, 0, none⟩) 1 1) (W.alloc (.cells #[.slice A8 SK.length c8] 33)) (fun W2 h2 => ⟨A8, c8, _, rfl, own_ext (((Ext.refl W).alloc _).next h2) o8, (Blk.fresh W 33 [.slice A8 SK.length c8]).ext h2⟩) ((Ext.refl W).alloc _)) (by kernel_rfl)
          · intro us W hE hd
            try dsimp only
            obtain ⟨A8, c8, g8, d12, ho8, hb8⟩ := hd 12 (by decide)
            have e0 := hd 0 (by decide)
            simp only [List.drop_succ_cons, List.drop_zero]
            rw [d12, e0]
            have E5 : Hid (Ext wo W) := Lib.hid (E1.out.next (ext_undrew hE))
            have HB8 := Lib.hid hb8
            have HO8 := Lib.hid ho8
            have hE0 := Lib.hid (ext_undrew hE); clear hE hd d12 e0 hb8 ho8
            have HO5 : Hid (W.ownsRow w.heap.size 33 1 (.slice OA 0 oc) 0 ovs) := Lib.hid (own_ext E5.out HO.out)
            have hwW : w.heap.size ≤ W.heap.size := Nat.le_trans HEr.out.size E5.out.size
            go_wp2_with (at_builtin; refine wpList_append_own_at _ rfl (.tmp 63) (.tmp 75) 28 rfl w.heap.size 33 i0 (.slice none 0 0) 1 24 Try.underlying28 hi hz0 hz1 hz2 rfl (by omega) (.slice OA 0 oc) 0 ovs rfl HO5.out ⟨g8, 0, none⟩ 1 1 [.slice A8 SK.length c8] rfl rfl (blk_adds HB8.out) (by simp [Value.oneCell']) (by simp only [maxLen]; omega) (by omega) hwW ?_; intro v5 w5 ho5 hg5 hn5 hat5; obtain ⟨A5, c5, e5⟩ := own_slice ho5 (Nat.succ_pos _); subst e5; have HO5b := Lib.hid ho5; have HG5 := Lib.hid hg5; obtain ⟨hr6b, hf6b⟩ := HB6.out W w5 hE0.out hg5; clear ho5 hg5 hn5 hat5)
            go_ret
            obtain ⟨q1, q2⟩ := out_round HPK0.out HEr.out E5.out HO8.out HSL.out HO5.out HG5.out
            have hz := rout_plain HML.out HI.out HFT.out HFM.out q2 HO5b.out (by rw [show outTo (toE R 0) 0 ++ [SK] = [SK] from rfl] at q1; exact q1)
            rw [HOL.out]
            exact ⟨A5, c5, 1, _, rfl, rfl, hz⟩
        · have HOL : Hid (outL (toE R 0) = outTo (toE R 0) t) := Lib.hid (by rw [outL, if_neg (by rw [← HKK.out]; intro h; exact hq ⟨h.1, by rw [HOW.out]; exact h.2⟩), ← HKK.out])
          rcases Nat.eq_zero_or_pos t with h0 | h0'
          · subst h0
            have how : ow = false := by cases ow with | false => rfl | true => exact absurd ⟨rfl, rfl⟩ hq
            subst how
            go_wp2_with fail
            go_ret
            have hz := rout_plain HML.out HI.out HFT.out HFM.out EW.out (own_ext E1.out HO.out) (HPK0.out.map (fun g n c xs h => own_ext E1.out h))
            rw [HOL.out]
            exact ⟨OA, oc, 0, rfl, outTo_length _ 0, ovs, hz⟩
          · have ht0 : ¬ ((t : Int) = 0) := by omega
            go_wp2_with fail
            go_ret
            have hz := rout_plain HML.out HI.out HFT.out HFM.out EW.out (own_ext E1.out HO.out) (HPK0.out.map (fun g n c xs h => own_ext E1.out h))
            rw [HOL.out]
            exact ⟨OA, oc, t, ovs, rfl, outTo_length _ t, hz⟩
      · go_wp2_with fail
        go_quiet (fail)
        have E1' : Ext wo (wo.drewN nq) := (Ext.refl wo).drewN nq
        obtain ⟨w1, hw1⟩ : ∃ x, x = wo.drewN nq := ⟨_, rfl⟩
        rw [← hw1] at E1' ⊢
        have E1 := Lib.hid E1'
        have EW := Lib.hid (HEr.out.next E1')
        clear E1' hw1 hb0 hb1 hb2 hb3 hb4 hb6 hd1
        obtain ⟨_, _, _, _, _, hb6, hf6⟩ := HB.out w1 EW.out
        by_cases hq : t = 0 ∧ ow = true
        · obtain ⟨rfl, rfl⟩ := hq
          have HOL : Hid (outL (toE R 0) = [sealL ky (packL 0 dl [])]) := Lib.hid (by
            rw [outL, if_pos ⟨HKK.out.symm, HOW.out.symm⟩, HKY.out, HDL.out]; rfl)
          obtain ⟨PK, hPK⟩ : ∃ x, x = packL 0 dl [] := ⟨_, rfl⟩
          have HPK : Hid (packL 0 dl [] = PK) := Lib.hid hPK.symm
          have HPB : Hid (Byt PK) := Lib.hid (by rw [hPK]; exact packL_byt _ _ (by omega) (by omega) (by omega) (by omega) [] (by simp))
          have HPL : Hid (PK.length ≤ 10000000000) := Lib.hid (by rw [hPK]; have := packL_le 0 dl (by omega) (by omega) (by omega) (by omega) [] (by simp); simp at this; omega)
          obtain ⟨SK, hSK⟩ : ∃ x, x = sealL ky PK := ⟨_, rfl⟩
          have HSK : Hid (sealL ky PK = SK) := Lib.hid hSK.symm
          have HSL : Hid (0 < SK.length) := Lib.hid (by rw [hSK, sealL_length]; omega)
          rw [hPK.symm, hSK.symm] at HOL
          have HB6 : Hid (∀ W w5 : World, Ext w1 W → W.grownBy w5 (Value.slice OA 0 oc).ownBlock → w5.cell? ⟨p, 6, none⟩ = some (.bool true) ∧ w5.frozen? ⟨p, 6, none⟩ = false) := Lib.hid (fun W w5 hW hg => by
            have hb := Kept.blk (F := fun b => (Value.slice OA 0 oc).ownBlock = some b) (Kept.of_grown hg (fun b hb _ => hb)) (HI.out.blk.ext (EW.out.next hW)) (fun hf => by have h1 := own_ge HO.out hf; have h2 := HPW.out; omega)
            exact ⟨by rw [HOW.out]; exact hb.cell 6, hb.frozen 6⟩)
          clear hPK hSK
          go_upto_region 7 with fail
          clear hb6 hf6
          refine wp_region_flowF 13 ?F7b (fun us => ?_) (by kernel_rfl) (by kernel_rfl) (fun a b => Ext a b) Ext.refl (fun h1 h2 => h1.next h2) (fun i v W => match i with
            | 0 => v = .slice OA 0 oc
            | 1 => v = .pointer (some ⟨p, 0, none⟩)
            | 2 => v = .pointer (some ⟨p, 0, none⟩)
            | 3 => v = .pointer (some ⟨p, 1, none⟩)
            | 4 => v = .int .u64 ky
            | 5 => v = .pointer (some ⟨p, 0, none⟩)
            | 6 => v = .pointer (some ⟨p, 0, none⟩)
            | 7 => v = .pointer (some ⟨p, 4, none⟩)
            | 8 => v = .int .i64 dl
            | 9 => v = .agg #[.int .i64 (0 : Int), .int .i64 dl, .slice none 0 0]
            | 10 => ∃ A c, v = .slice A PK.length c ∧ W.ownsRow wo.heap.size 5 1 (.slice A PK.length c) PK.length (u8s PK)
            | 11 => ∃ A c, v = .slice A SK.length c ∧ W.ownsRow wo.heap.size 5 1 (.slice A SK.length c) SK.length (u8s SK)
            | 12 => ∃ A c g, v = .slice (some ⟨g, 0, none⟩) 1 1 ∧ W.ownsRow wo.heap.size 5 1 (.slice A SK.length c) SK.length (u8s SK) ∧ Blk W g 33 [.slice A SK.length c]
            | _ => True) ?_ ?_
          case refine_1 =>
            simp only [List.take_succ_cons, List.take_zero, flowAct, Nat.zero_add, Nat.reduceAdd, Act.put, List.setIfInBounds_toArray, List.set_cons_succ, List.set_cons_zero]
            rfl
          · simp only [List.take_succ_cons, List.take_zero, flowStepsF]
            refine ⟨?_, ?_, ?_, ?_, ?_, ?_, ?_, ?_, ?_, ?_, ?_, ?_, ?_, trivial⟩
            · intro us W K hE hd hK
              dsimp only at hK ⊢
              have HK := Lib.hid hK; have HE := Lib.hid hE
              clear hK hd hE
              go_wp2_with fail
              exact K_at (HK.out (.slice OA 0 oc) W (fun _ _ => rfl) (Ext.refl W)) (by kernel_rfl)
            · intro us W K hE hd hK
              dsimp only at hK ⊢
              have HK := Lib.hid hK; have HE := Lib.hid hE
              clear hK hd hE
              go_wp2_with fail
              exact K_at (HK.out (.pointer (some ⟨p, 0, none⟩)) W (fun _ _ => rfl) (Ext.refl W)) (by kernel_rfl)
            · intro us W K hE hd hK
              have d1 := hd 1 (by kernel_rfl)
              dsimp only at hK ⊢
              rw [d1] at hK ⊢
              have HK := Lib.hid hK; have HE := Lib.hid hE
              clear hK hd hE d1
              go_wp2_with fail
              exact K_at (HK.out (.pointer (some ⟨p, 0, none⟩)) W (fun _ _ => rfl) (Ext.refl W)) (by kernel_rfl)
            · intro us W K hE hd hK
              have d2 := hd 2 (by kernel_rfl)
              dsimp only at hK ⊢
              rw [d2] at hK ⊢
              have HK := Lib.hid hK; have HE := Lib.hid hE
              clear hK hd hE d2
              go_wp2_with fail
              exact K_at (HK.out (.pointer (some ⟨p, 1, none⟩)) W (fun _ _ => rfl) (Ext.refl W)) (by kernel_rfl)
            · intro us W K hE hd hK
              have d3 := hd 3 (by kernel_rfl)
              have c0 := (HB.out W (EW.out.next (ext_undrew hE))).2.1
              dsimp only at hK ⊢
              rw [d3] at hK ⊢
              have HK := Lib.hid hK; have HE := Lib.hid hE
              clear hK hd hE d3
              go_wp2_with fail
              exact K_at (HK.out (.int .u64 ky) W (fun _ _ => rfl) (Ext.refl W)) (by kernel_rfl)
            · intro us W K hE hd hK
              dsimp only at hK ⊢
              have HK := Lib.hid hK; have HE := Lib.hid hE
              clear hK hd hE
              go_wp2_with fail
              exact K_at (HK.out (.pointer (some ⟨p, 0, none⟩)) W (fun _ _ => rfl) (Ext.refl W)) (by kernel_rfl)
            · intro us W K hE hd hK
              have d5 := hd 5 (by kernel_rfl)
              dsimp only at hK ⊢
              rw [d5] at hK ⊢
              have HK := Lib.hid hK; have HE := Lib.hid hE
              clear hK hd hE d5
              go_wp2_with fail
              exact K_at (HK.out (.pointer (some ⟨p, 0, none⟩)) W (fun _ _ => rfl) (Ext.refl W)) (by kernel_rfl)
            · intro us W K hE hd hK
              have d6 := hd 6 (by kernel_rfl)
              dsimp only at hK ⊢
              rw [d6] at hK ⊢
              have HK := Lib.hid hK; have HE := Lib.hid hE
              clear hK hd hE d6
              go_wp2_with fail
              exact K_at (HK.out (.pointer (some ⟨p, 4, none⟩)) W (fun _ _ => rfl) (Ext.refl W)) (by kernel_rfl)
            · intro us W K hE hd hK
              have d7 := hd 7 (by kernel_rfl)
              have c0 := (HB.out W (EW.out.next (ext_undrew hE))).2.2.2.2.1
              dsimp only at hK ⊢
              rw [d7] at hK ⊢
              have HK := Lib.hid hK; have HE := Lib.hid hE
              clear hK hd hE d7
              go_wp2_with fail
              exact K_at (HK.out (.int .i64 dl) W (fun _ _ => rfl) (Ext.refl W)) (by kernel_rfl)
            · intro us W K hE hd hK
              have d8 := hd 8 (by kernel_rfl)
              dsimp only at hK ⊢
              rw [d8] at hK ⊢
              have HK := Lib.hid hK; have HE := Lib.hid hE
              clear hK hd hE d8
              go_wp2_with fail
              exact K_at (HK.out (.agg #[.int .i64 (0 : Int), .int .i64 dl, .slice none 0 0]) W (fun _ _ => rfl) (Ext.refl W)) (by kernel_rfl)
            · intro us W K hE hd hK
              have d9 := hd 9 (by kernel_rfl)
              dsimp only at hK ⊢
              rw [d9] at hK ⊢
              have HK := Lib.hid hK; have HE := Lib.hid hE
              clear hK hd hE d9
              go_wp2_with (go_loud (go_at_call 18; (with_reducible refine (rbytesP_any 0 dl (by omega) (by omega) (by omega) (by omega) [] none 0 0 W (Rd.nil _ _ _) Byt.nil (by omega)).mono ?_); rintro e w7 ⟨⟨A7, c7, rfl, ho7⟩, hB7⟩; rw [HPK.out] at ho7 ⊢))
              exact K_at (HK.out (.slice A7 PK.length c7) w7 (fun W2 h2 => ⟨A7, c7, rfl, own_ext h2 (own_mono ho7 (Nat.le_trans E1.out.size HE.out.size))⟩) hB7) (by kernel_rfl)
            · intro us W K hE hd hK
              have d4 := hd 4 (by kernel_rfl)
              obtain ⟨A7, c7, d10, o7⟩ := hd 10 (by kernel_rfl)
              have HR7 := Lib.hid (own_rd o7)
              dsimp only at hK ⊢
              rw [d4, d10] at hK ⊢
              have HK := Lib.hid hK; have HE := Lib.hid hE
              clear hK hd hE d4 d10 o7
              go_wp2_with (go_loud (go_at_call 17; (with_reducible refine (rseal_any ky k0 k1 PK A7 PK.length c7 W HR7.out HPB.out HPL.out).mono ?_); rintro e w8 ⟨⟨A8, c8, rfl, ho8⟩, hB8⟩; rw [HSK.out] at ho8 ⊢))
              exact K_at (HK.out (.slice A8 SK.length c8) w8 (fun W2 h2 => ⟨A8, c8, rfl, own_ext h2 (own_mono ho8 (Nat.le_trans E1.out.size HE.out.size))⟩) hB8) (by kernel_rfl)
            · intro us W K hE hd hK
              obtain ⟨A8, c8, d11, o8⟩ := hd 11 (by kernel_rfl)
              dsimp only at hK ⊢
              rw [d11] at hK ⊢
              have HK := Lib.hid hK; have HE := Lib.hid hE
              clear hK hd hE d11
              go_wp2_with fail
              exact K_at (HK.out (.slice (some ⟨W.heap.size, 0, none⟩) 1 1) (W.alloc (.cells #[.slice A8 SK.length c8] 33)) (fun W2 h2 => ⟨A8, c8, _, rfl, own_ext (((Ext.refl W).alloc _).next h2) o8, (Blk.fresh W 33 [.slice A8 SK.length c8]).ext h2⟩) ((Ext.refl W).alloc _)) (by kernel_rfl)
          · intro us W hE hd
            try dsimp only
            obtain ⟨A8, c8, g8, d12, ho8, hb8⟩ := hd 12 (by decide)
            have e0 := hd 0 (by decide)
            simp only [List.drop_succ_cons, List.drop_zero]
            rw [d12, e0]
            have E5 : Hid (Ext wo W) := Lib.hid (E1.out.next (ext_undrew hE))
            have HB8 := Lib.hid hb8
            have HO8 := Lib.hid ho8
            have hE0 := Lib.hid (ext_undrew hE); clear hE hd d12 e0 hb8 ho8
            have HO5 : Hid (W.ownsRow w.heap.size 33 1 (.slice OA 0 oc) 0 ovs) := Lib.hid (own_ext E5.out HO.out)
            have hwW : w.heap.size ≤ W.heap.size := Nat.le_trans HEr.out.size E5.out.size
            go_wp2_with (at_builtin; refine wpList_append_own_at _ rfl (.tmp 63) (.tmp 75) 28 rfl w.heap.size 33 i0 (.slice none 0 0) 1 24 Try.underlying28 hi hz0 hz1 hz2 rfl (by omega) (.slice OA 0 oc) 0 ovs rfl HO5.out ⟨g8, 0, none⟩ 1 1 [.slice A8 SK.length c8] rfl rfl (blk_adds HB8.out) (by simp [Value.oneCell']) (by simp only [maxLen]; omega) (by omega) hwW ?_; intro v5 w5 ho5 hg5 hn5 hat5; obtain ⟨A5, c5, e5⟩ := own_slice ho5 (Nat.succ_pos _); subst e5; have HO5b := Lib.hid ho5; have HG5 := Lib.hid hg5; obtain ⟨hr6b, hf6b⟩ := HB6.out W w5 hE0.out hg5; clear ho5 hg5 hn5 hat5)
            go_ret
            obtain ⟨q1, q2⟩ := out_round HPK0.out HEr.out E5.out HO8.out HSL.out HO5.out HG5.out
            have hz := rout_plain HML.out HI.out HFT.out HFM.out q2 HO5b.out (by rw [show outTo (toE R 0) 0 ++ [SK] = [SK] from rfl] at q1; exact q1)
            rw [HOL.out]
            exact ⟨A5, c5, 1, _, rfl, rfl, hz⟩
        · have HOL : Hid (outL (toE R 0) = outTo (toE R 0) t) := Lib.hid (by rw [outL, if_neg (by rw [← HKK.out]; intro h; exact hq ⟨h.1, by rw [HOW.out]; exact h.2⟩), ← HKK.out])
          rcases Nat.eq_zero_or_pos t with h0 | h0'
          · subst h0
            have how : ow = false := by cases ow with | false => rfl | true => exact absurd ⟨rfl, rfl⟩ hq
            subst how
            go_wp2_with fail
            go_ret
            have hz := rout_plain HML.out HI.out HFT.out HFM.out EW.out (own_ext E1.out HO.out) (HPK0.out.map (fun g n c xs h => own_ext E1.out h))
            rw [HOL.out]
            exact ⟨OA, oc, 0, rfl, outTo_length _ 0, ovs, hz⟩
          · have ht0 : ¬ ((t : Int) = 0) := by omega
            go_wp2_with fail
            go_ret
            have hz := rout_plain HML.out HI.out HFT.out HFM.out EW.out (own_ext E1.out HO.out) (HPK0.out.map (fun g n c xs h => own_ext E1.out h))
            rw [HOL.out]
            exact ⟨OA, oc, t, ovs, rfl, outTo_length _ t, hz⟩
end Go.Proofs.Ytkgmoklifkojhaa
