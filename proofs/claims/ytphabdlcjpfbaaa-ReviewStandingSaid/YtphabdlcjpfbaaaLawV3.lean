/- ReviewStanding: for all numbers the law answers true and leaves its arguments as they were. No condition. -/
import Derived.Test.YtphabdlcjpfbaaaRvX
import Derived.Test.YtphabdlcjpfbaaaRwB
import Derived.Test.YtphabdlcjpfbaaaRwH
import Derived.Test.YtphabdlcjpfbaaaLaw
import Derived.Deep.DeepHandedRow
set_option linter.unusedSimpArgs false
set_option linter.unusedVariables false
namespace Go.Proofs.Ytphabdlcjpfbaaa
open Go.RowKit Go.WideShapes Go.ChangeShapes
theorem cellsint : Try.prog.cellsOf 3 = 1 := by kernel_rfl
theorem wf_i64' {x : Int} (h : (Lit.int .i64 x).wf = true) : -9223372036854775808 ≤ x ∧ x ≤ 9223372036854775807 := by
  simp [Lit.wf, IntKind.min, IntKind.max, IntKind.bits, IntKind.signed] at h
  omega
theorem own : ownKnob Try.prog.godebug = none := by kernel_rfl
theorem laidOut : laidOutB Try.prog = true := by kernel_rfl
theorem revOf_W (l : List Int) : RevW (revOf l) := revW_of (by unfold encE; rw [if_pos (revOf_valid l)]; rfl)
theorem revsL_W {l : List Int} {k : Nat} : ∀ r ∈ revsL l k, RevW r ∧ r.ops.length ≤ 4 := fun r hr => by
  obtain ⟨i, _, rfl⟩ := List.mem_map.1 hr
  exact ⟨revOf_W _, revOf_many _⟩
theorem standX_mem {day : Int} {L : List RX} {x : RX} (h : x ∈ standX day L) : x ∈ L := onceX_mem L x ((List.mem_filter.1 h).1)
theorem standX_len (day : Int) (L : List RX) : (standX day L).length ≤ L.length := Nat.le_trans (List.length_filter_le _ _) (onceX_len L)
/-- What Standing of both has in common. -/
theorem stood {K M : List RX} {day : Int} (h : K.map (·.r) = (standX day M).map (·.r)) (hM : ∀ x ∈ M, RevW x.r) : (∀ x ∈ K, RevW x.r) ∧ K.length ≤ M.length := by
  constructor
  · intro x hx
    have h1 : x.r ∈ K.map (·.r) := List.mem_map.2 ⟨x, hx, rfl⟩
    rw [h] at h1
    obtain ⟨y, hy, e⟩ := List.mem_map.1 h1
    rw [← e]
    exact hM y (standX_mem hy)
  · have h1 := congrArg List.length h
    rw [List.length_map, List.length_map] at h1
    have := standX_len day M
    omega
section
attribute [local go_sem ↓] wp_at_zero wp_at_succ
set_option maxHeartbeats 16000000 in
set_option maxRecDepth 100000 in
theorem walk_rstanding (l : List Int) (A : Option Addr) (n c : Nat) (how b day : Int) (w : World) (hl : Rd w w.heap.size A n (l.map (Value.int .i64))) (hwf : ∀ x ∈ l, -9223372036854775808 ≤ x ∧ x ≤ 9223372036854775807) (hnc : n ≤ c) (hc : c ≤ 9223372036854775807) (hh : -9223372036854775808 ≤ how ∧ how ≤ 9223372036854775807) (hb : -9223372036854775808 ≤ b ∧ b ≤ 9223372036854775807) (hd : -9223372036854775808 ≤ day ∧ day ≤ 9223372036854775807) :
    Calls Try.prog 5 #[.slice A n c, .int .i64 how, .int .i64 b, .int .i64 day] w fun e w' => e = .returned (.bool true) ∧ Ext w w' := by
  obtain ⟨i0, hi, hz0, hz1, hz2⟩ := info_parts rv_info
  have HRV := Lib.hid (reviews_any l A n c w hl hwf hnc hc)
  have HH := Lib.hid hh; have HB := Lib.hid hb
  have HAD : Hid (∀ W, Calls Try.prog 17 #[.int .i64 day, .int .i64 12] W fun e w' => e = .returned (.int .i64 (aroI day 12)) ∧ W = w') := Lib.hid (fun W => around_any day 12 W hd.1 hd.2 (by decide) (by decide))
  clear hl hwf hh hb hd
  go_enter Try.func5, Try.ntmps5
  go_upto_if 17 with (go_at_call 22; (with_reducible refine HRV.out.mono ?_); rintro e w1 ⟨⟨M, A1, c1, rfl, ho1, hm1, hr1⟩, hE1⟩; have HO1 := Lib.hid ho1; have HM1 := Lib.hid hm1; have HR1 := Lib.hid hr1; have E1 := Lib.hid hE1; clear ho1 hm1 hr1 hE1)
  clear HRV
  obtain ⟨m, hm⟩ : ∃ m, m = M.length := ⟨_, rfl⟩
  have HML := Lib.hid hm
  rw [← hm] at HO1 HM1 ⊢
  have hm10 : m ≤ 10 := by
    have h := congrArg List.length HR1.out
    rw [List.length_map] at h
    unfold revsL cntR at h
    rw [List.length_map, List.length_range] at h
    omega
  have HMW : Hid (∀ x ∈ M, RevW x.r ∧ x.r.ops.length ≤ 4) := Lib.hid (fun x hx => revsL_W x.r (by rw [← HR1.out]; exact List.mem_map.2 ⟨x, hx, rfl⟩))
  clear hm HR1
  go_cut [9, 10] from 13 to 31 (fun s9 _ wx => ∃ (M : List RX) (A2 : Option Addr) (c2 m2 : Nat), s9 = .slice A2 m2 c2 ∧ M.length = m2 ∧ m2 ≤ 11 ∧ RdN wx wx.heap.size 22 A2 m2 (rxsC M) ∧ (∀ x ∈ M, RXV wx x ∧ RevW x.r) ∧ Ext w wx)
  case first =>
    rcases Nat.eq_zero_or_pos m with h0 | h0
    · have hd0 : decide (0 < m) = false := decide_eq_false (by omega)
      have HFIN : Hid (∃ (M : List RX) (A2 : Option Addr) (c2 m2 : Nat), Value.slice A1 m c1 = .slice A2 m2 c2 ∧ M.length = m2 ∧ m2 ≤ 11 ∧ RdN w1 w1.heap.size 22 A2 m2 (rxsC M) ∧ (∀ x ∈ M, RXV w1 x ∧ RevW x.r) ∧ Ext w w1) := Lib.hid ⟨M, A1, c1, m, rfl, HML.out.symm, by omega, rdn_own HO1.out, fun x hx => ⟨(HM1.out x hx).1, (HMW.out x hx).1⟩, E1.out⟩
      subst h0
      go_wp2_with fail
      go_meet
      exact HFIN.out
    · have hd0 : decide (0 < m) = true := decide_eq_true (by omega)
      have hk := aroI_bd b (m : Int) (by omega)
      have HAB : Hid (∀ W, Calls Try.prog 17 #[.int .i64 b, .int .i64 (m : Int)] W fun e w' => e = .returned (.int .i64 ((aroI b m).toNat : Int)) ∧ W = w') := Lib.hid (fun W => by rw [Int.toNat_of_nonneg hk.1]; exact around_any b m W HB.out.1 HB.out.2 (by omega) (by omega))
      obtain ⟨k, hkk⟩ : ∃ k, k = (aroI b m).toNat := ⟨_, rfl⟩
      rw [← hkk] at HAB
      have hkm : k < m := by omega
      obtain ⟨g, rfl, _, hgl⟩ := own_nil HO1.out h0
      obtain ⟨x, hx⟩ : ∃ x, M[k]? = some x := ⟨_, List.getElem?_eq_getElem (by rw [← HML.out]; exact hkm)⟩
      have hxm := List.mem_of_getElem? hx
      have HXV := Lib.hid (HM1.out x hxm).1
      have HX22 := Lib.hid HXV.out.len
      have HXW := Lib.hid (HMW.out x hxm)
      have HR : Hid (w1.rangeAt g (k * 22) (rxC x)) := Lib.hid (by
        obtain ⟨b', p', hA, hb', hrg⟩ := rx_at (rdn_own HO1.out) (fun y hy => (HM1.out y hy).1.len) (by omega)
        simp only [Option.some.injEq, Addr.mk.injEq, and_true] at hA
        obtain ⟨rfl, rfl⟩ := hA
        have h := hrg w1 (fun a ha => rfl) k x hx
        rw [Nat.zero_add] at h
        exact h)
      have HN4 : Hid (x.n ≤ 500) := Lib.hid (by have h1 := RevV.len HXV.out; have h2 := HXW.out.2; omega)
      clear hk hkk h0 hx hxm hgl
      obtain ⟨xr, xA, xn, xc⟩ := x
      have HSP : Hid (∀ W, Ext w1 W → Calls Try.prog 8 #[.agg (rxC ⟨xr, xA, xn, xc⟩).toArray, .int .i64 how, .int .i64 b] W fun e w' => (∃ A' n' c', e = .returned (.agg (revC (spoil xr how b) A' n' c').toArray) ∧ RevV w' (spoil xr how b) A' n' c' ∧ n' ≤ xn + 34 ∧ ∀ a, A' = some a → W.heap.size ≤ a.block) ∧ Ext W w') := Lib.hid (fun W hW => spoilt_far xr how b xA xn xc W (RXV.ext HXV.out hW) HN4.out HH.out.1 HH.out.2 HB.out.1 HB.out.2)
      have HSW : Hid (RevW (spoil xr how b)) := Lib.hid (spoil_W how HXW.out.1 (Nat.le_trans HXW.out.2 (by decide)) HB.out)
      obtain ⟨sr, hsr⟩ : ∃ s, s = spoil xr how b := ⟨_, rfl⟩
      rw [← hsr] at HSP HSW
      clear hsr
      go_wp2_with (first
        | (go_at_call 17; (with_reducible refine (HAB.out _).mono ?_); rintro e w9 ⟨rfl, rfl⟩)
        | (refine wpList_load_mid rfl 27 (.tmp 25) rfl g (k * 22) (by kernel_rfl) (rxC ⟨xr, xA, xn, xc⟩) _ HR.out Try.underlying27 rfl (info_rev.trans (congrArg some HX22.out.symm)) ?_)
        | (go_at_call 8; (with_reducible refine (HSP.out w1 (Ext.refl _)).mono ?_); rintro e w2 ⟨⟨A2, n2, c2, rfl, hv2, _, hf2⟩, hE2⟩; have HV2 := Lib.hid hv2; have HF2 := Lib.hid hf2; have E2 := Lib.hid hE2; have hx22 : (revC sr A2 n2 c2).length = 22 := revC_len _ _ _ _ hv2.mean; have HX22 := Lib.hid hx22; have HO2 : Hid (w2.ownsRow w.heap.size 27 22 (.slice (some ⟨g, 0, none⟩) m c1) m (rxsC M)) := Lib.hid ((Kept.of_ext (F := fun _ => False) hE2).own HO1.out (fun _ _ h => h)); clear hv2 hf2 hE2)
        | (at_builtin; refine wpList_append_own_at _ rfl (.tmp 22) (.tmp 30) 35 rfl w.heap.size 27 i0 (.agg Z0.toArray) 22 88 Try.underlying35 hi hz0 hz1 hz2 rfl (by omega) (.slice (some ⟨g, 0, none⟩) m c1) m (rxsC M) (by kernel_rfl) (HO2.out.alloc _) ⟨w2.heap.size, 0, none⟩ 1 1 (revC sr A2 n2 c2) (by kernel_rfl) HX22.out (cells_new w2 _ (revC sr A2 n2 c2) 27 (by rw [fold_set]; rw [HX22.out]; rfl)) (revC_one _ _ _ _) (by simp only [maxLen]; omega) (by omega) (by have h1 := E1.out.size; have h2 := E2.out.size; simp; omega) ?_; intro v7 w7 ho7 hg7 _ hat7; have HO7 := Lib.hid ho7; have HG7 := Lib.hid hg7; have HAT := Lib.hid hat7; clear ho7 hg7 hat7))
      obtain ⟨A7, c7, rfl⟩ := own_shape HO7.out
      have hAL : ∀ o : Obj, Ext w2 (w2.alloc o) := fun o => (Ext.refl w2).alloc o
      have hMN := aprt_next (y := ⟨sr, A2, n2, c2⟩) (fun x hx => ⟨((HM1.out x hx).1.ext E2.out).ext (hAL _), (HM1.out x hx).2⟩) (HV2.out.ext (hAL _)) HF2.out (HO2.out.alloc _) (fun b hb => own_in HO1.out hb) HG7.out HAT.out
      have E7 : Ext w w7 := below_app ((E1.out.next E2.out).alloc _) HG7.out (HO2.out.alloc _) (Nat.le_refl _) (by have h1 := E1.out.size; have h2 := E2.out.size; simp; omega)
      go_meet
      refine ⟨M ++ [⟨sr, A2, n2, c2⟩], A7, c7, m + 1, rfl, by rw [List.length_append, ← HML.out]; rfl, by omega, ?_, fun x hx => ⟨(hMN x hx).1, ?_⟩, E7⟩
      · rw [rxsC_app, show rxsC [(⟨sr, A2, n2, c2⟩ : RX)] = revC sr A2 n2 c2 by simp [rxsC, rxC]]
        exact rdn_own HO7.out
      · rcases List.mem_append.1 hx with hx | hx
        · exact (HMW.out x hx).1
        · rw [List.mem_singleton.1 hx]
          exact HSW.out
  case rest =>
    obtain ⟨M2, A2, c2, m2, rfl, hml2, hm11, hr2, hv2, hE2⟩ := hcut
    have HML2 := Lib.hid hml2; have HR2 := Lib.hid hr2; have HV2 := Lib.hid hv2; have E2 := Lib.hid hE2
    clear hml2 hr2 hv2 hE2 HO1 HM1 HML HMW E1 hm10
    obtain ⟨w2, rfl⟩ : ∃ x : World, x = wc := ⟨_, rfl⟩
    go_upto_region 6 with (go_at_call 17; (with_reducible refine (HAD.out _).mono ?_); rintro e w9 ⟨rfl, rfl⟩)
    obtain ⟨a0, ha0⟩ : ∃ x, x = aroI day 12 := ⟨_, rfl⟩
    rw [← ha0]
    obtain ⟨w3, hw3⟩ : ∃ x, x = w2.alloc (.cells #[.int .i64 a0, .int .i64 day, .int .i64 5] 3) := ⟨_, rfl⟩
    change Code.wp _ _ _ _ (w2.alloc (.cells #[.int .i64 a0, .int .i64 day, .int .i64 5] 3))
    rw [← hw3]
    obtain ⟨gd, hgd⟩ : ∃ x, x = w2.heap.size := ⟨_, rfl⟩
    rw [← hgd]
    have E23 : Hid (Ext w2 w3) := Lib.hid (by rw [hw3]; exact (Ext.refl w2).alloc _)
    have BD : Hid (Blk w3 gd 3 [.int .i64 a0, .int .i64 day, .int .i64 5]) := Lib.hid (by rw [hw3, hgd]; exact Blk.fresh' _ _ _ _ _ rfl rfl)
    have HR3 : Hid (∀ W, Ext w3 W → RdN W W.heap.size 22 A2 m2 (rxsC M2)) := Lib.hid (fun W hW => (HR2.out.below (E23.out.next hW) (Nat.le_refl _)).more (E23.out.next hW).size)
    have HV3 : Hid (∀ W, Ext w3 W → ∀ x ∈ M2, RXV W x) := Lib.hid (fun W hW x hx => (HV2.out x hx).1.ext (E23.out.next hW))
    have HW3 : Hid (∀ x ∈ M2, RevW x.r) := Lib.hid (fun x hx => (HV2.out x hx).2)
    have E3 : Hid (Ext w w3) := Lib.hid (E2.out.next E23.out)
    have HDY : Hid (∀ t : Nat, t < 3 → ∃ dt : Int, ([.int .i64 a0, .int .i64 day, .int .i64 5] : List Value)[t]? = some (.int .i64 dt)) := Lib.hid (fun t ht => by
      rcases (show t = 0 ∨ t = 1 ∨ t = 2 by omega) with rfl | rfl | rfl
      · exact ⟨a0, rfl⟩
      · exact ⟨day, rfl⟩
      · exact ⟨5, rfl⟩)
    clear hw3 hgd ha0 HR2 HV2 E2 E23 HAD
    have HST : Hid (∀ (dt : Int) (W : World), Ext w3 W → Calls Try.prog 24 #[.slice A2 m2 c2, .int .i64 dt] W fun e w' => (∃ (K : List RX) (A' : Option Addr) (c' : Nat), e = .returned (.slice A' K.length c') ∧ RdN w' w'.heap.size 22 A' K.length (rxsC K) ∧ (∀ x ∈ K, RXV w' x ∧ RevW x.r) ∧ K.map (·.r) = (standX dt M2).map (·.r) ∧ K.length ≤ 12) ∧ Ext W w') := Lib.hid (fun dt W hW => by
      refine (standing_any M2 dt A2 m2 c2 W (HR3.out W hW) (fun x hx => ⟨HV3.out W hW x hx, (HW3.out x hx).shop, (HW3.out x hx).seq⟩) (by omega)).mono ?_
      rintro e w' ⟨⟨K, A', c', he, hr, hv, hp, hs⟩, hE⟩
      have hag := std_agree M2 dt K hp hs
      have hst := stood hag HW3.out
      exact ⟨⟨K, A', c', he, hr, fun x hx => ⟨hv x hx, hst.1 x hx⟩, hag, by have h1 := hst.2; have h2 := HML2.out; omega⟩, hE⟩)
    have HRS : Hid (∀ (dt : Int) (W : World), Ext w3 W → Calls Try.prog 25 #[.slice A2 m2 c2, .int .i64 dt] W fun e w' => (∃ (A' : Option Addr) (c' : Nat), e = .returned (.slice A' (standX dt M2).length c') ∧ RdN w' w'.heap.size 22 A' (standX dt M2).length (rxsC (standX dt M2))) ∧ Ext W w') := Lib.hid (fun dt W hW => rstanding_any M2 dt A2 m2 c2 W (HR3.out W hW) (HV3.out W hW) (by omega))
    have HVS : Hid (∀ (dt : Int) (W : World), Ext w3 W → ∀ x ∈ standX dt M2, RXV W x) := Lib.hid (fun dt W hW x hx => HV3.out W hW x (standX_mem hx))
    clear HR3 HV3 HW3 HML2
    go_wp2_with fail
    go_loopw [12] (fun s12 wr => ∃ t : Nat, t ≤ 3 ∧ s12 = .int .i64 (t : Int) ∧ Ext w3 wr) (fun s12 _ => 3 - (intOf s12).toNat)
    case atStart => exact ⟨0, Nat.zero_le _, rfl, Ext.refl _⟩
    case round =>
      obtain ⟨t, ht, rfl, hE⟩ := hrel
      have EI := Lib.hid hE
      clear hE
      obtain ⟨wo, rfl⟩ : ∃ x : World, x = wr := ⟨_, rfl⟩
      by_cases hlt : t < 3
      · obtain ⟨dt, hdt⟩ := HDY.out t hlt
        have HTN : Hid (t + 1 ≤ 3) := Lib.hid hlt
        have HDC : Hid (∀ W, Ext w3 W → W.cell? ⟨gd, t, none⟩ = some (.int .i64 dt)) := Lib.hid (fun W hW => ((BD.out.ext hW).cell t).trans hdt)
        have HSD := Lib.hid (fun W hW => HST.out dt W hW); have HRD := Lib.hid (fun W hW => HRS.out dt W hW); have HVD := Lib.hid (fun W hW => HVS.out dt W hW)
        obtain ⟨S, hS⟩ : ∃ S, S = standX dt M2 := ⟨_, rfl⟩
        rw [← hS] at HSD HRD HVD
        clear hdt hS
        go_upto_region 9 with fail
        rw [show decide ((t : Int) < 3) = true from decide_eq_true (by omega)]
        refine wp_region_flowF 14 ?FW1 (fun us => ?_) (by kernel_rfl) (by kernel_rfl) (fun a b => Ext a b) Ext.refl (fun h1 h2 => h1.next h2) (fun i v W => match i with
          | 0 => v = .slice A2 m2 c2
          | 1 => v = .slice (some ⟨gd, 0, none⟩) 3 3
          | 2 => v = .int .i64 (t : Int)
          | 3 => v = .pointer (some ⟨gd, t, none⟩)
          | 4 => v = .int .i64 dt
          | 5 => ∃ (K : List RX) (A5 : Option Addr) (c5 : Nat), v = .slice A5 K.length c5 ∧ RdN W W.heap.size 22 A5 K.length (rxsC K) ∧ (∀ x ∈ K, RXV W x ∧ RevW x.r) ∧ K.map (·.r) = S.map (·.r) ∧ K.length ≤ 12
          | 6 => v = .slice A2 m2 c2
          | 7 => v = .slice (some ⟨gd, 0, none⟩) 3 3
          | 8 => v = .int .i64 (t : Int)
          | 9 => v = .pointer (some ⟨gd, t, none⟩)
          | 10 => v = .int .i64 dt
          | 11 => ∃ (A6 : Option Addr) (c6 : Nat), v = .slice A6 S.length c6 ∧ RdN W W.heap.size 22 A6 S.length (rxsC S)
          | 12 => v = .bool true
          | 13 => v = .bool false
          | _ => True) ?_ ?_
        case refine_1 =>
          simp only [List.take_succ_cons, List.take_zero, flowAct, Nat.zero_add, Nat.reduceAdd, Act.put, List.setIfInBounds_toArray, List.set_cons_succ, List.set_cons_zero]
          rfl
        · simp only [List.take_succ_cons, List.take_zero, flowStepsF]
          refine ⟨?_, ?_, ?_, ?_, ?_, ?_, ?_, ?_, ?_, ?_, ?_, ?_, ?_, ?_, trivial⟩
          · intro us W K hE hd hK
            dsimp only at hK ⊢
            have HK := Lib.hid hK; have HE := Lib.hid hE
            clear hK hd hE
            go_wp2_with fail
            exact K_at (HK.out (.slice A2 m2 c2) W (fun _ _ => rfl) (Ext.refl W)) (by kernel_rfl)
          · intro us W K hE hd hK
            dsimp only at hK ⊢
            have HK := Lib.hid hK; have HE := Lib.hid hE
            clear hK hd hE
            go_wp2_with fail
            exact K_at (HK.out (.slice (some ⟨gd, 0, none⟩) 3 3) W (fun _ _ => rfl) (Ext.refl W)) (by kernel_rfl)
          · intro us W K hE hd hK
            dsimp only at hK ⊢
            have HK := Lib.hid hK; have HE := Lib.hid hE
            clear hK hd hE
            go_wp2_with fail
            exact K_at (HK.out (.int .i64 (t : Int)) W (fun _ _ => rfl) (Ext.refl W)) (by kernel_rfl)
          · intro us W K hE hd hK
            have d1 := hd 1 (by kernel_rfl)
            have d2 := hd 2 (by kernel_rfl)
            dsimp only at hK ⊢
            rw [d1, d2] at hK ⊢
            have HK := Lib.hid hK; have HE := Lib.hid hE
            clear hK hd hE d1 d2
            go_wp2_with fail
            exact K_at (HK.out (.pointer (some ⟨gd, t, none⟩)) W (fun _ _ => rfl) (Ext.refl W)) (by kernel_rfl)
          · intro us W K hE hd hK
            have d3 := hd 3 (by kernel_rfl)
            have cd := HDC.out W (EI.out.next (sg_undrew hE))
            dsimp only at hK ⊢
            rw [d3] at hK ⊢
            have HK := Lib.hid hK; have HE := Lib.hid hE
            clear hK hd hE d3
            go_wp2_with fail
            exact K_at (HK.out (.int .i64 dt) W (fun _ _ => rfl) (Ext.refl W)) (by kernel_rfl)
          · intro us W K hE hd hK
            have d0 := hd 0 (by kernel_rfl)
            have d4 := hd 4 (by kernel_rfl)
            dsimp only at hK ⊢
            rw [d0, d4] at hK ⊢
            have HK := Lib.hid hK; have HE := Lib.hid hE
            clear hK hd hE d0 d4
            go_wp2_with (go_loud (go_at_call 24; (with_reducible refine (HSD.out W (EI.out.next (sg_undrew HE.out))).mono ?_); rintro e w6 ⟨⟨K, A5, c5, rfl, hr5, hv5, hm5, hl5⟩, hB6⟩))
            exact K_at (HK.out (.slice A5 K.length c5) w6 (fun W2 hW2 => ⟨K, A5, c5, rfl, (hr5.below hW2 (Nat.le_refl _)).more hW2.size, fun x hx => ⟨(hv5 x hx).1.ext hW2, (hv5 x hx).2⟩, hm5, hl5⟩) hB6) (by kernel_rfl)
          · intro us W K hE hd hK
            dsimp only at hK ⊢
            have HK := Lib.hid hK; have HE := Lib.hid hE
            clear hK hd hE
            go_wp2_with fail
            exact K_at (HK.out (.slice A2 m2 c2) W (fun _ _ => rfl) (Ext.refl W)) (by kernel_rfl)
          · intro us W K hE hd hK
            dsimp only at hK ⊢
            have HK := Lib.hid hK; have HE := Lib.hid hE
            clear hK hd hE
            go_wp2_with fail
            exact K_at (HK.out (.slice (some ⟨gd, 0, none⟩) 3 3) W (fun _ _ => rfl) (Ext.refl W)) (by kernel_rfl)
          · intro us W K hE hd hK
            dsimp only at hK ⊢
            have HK := Lib.hid hK; have HE := Lib.hid hE
            clear hK hd hE
            go_wp2_with fail
            exact K_at (HK.out (.int .i64 (t : Int)) W (fun _ _ => rfl) (Ext.refl W)) (by kernel_rfl)
          · intro us W K hE hd hK
            have d7 := hd 7 (by kernel_rfl)
            have d8 := hd 8 (by kernel_rfl)
            dsimp only at hK ⊢
            rw [d7, d8] at hK ⊢
            have HK := Lib.hid hK; have HE := Lib.hid hE
            clear hK hd hE d7 d8
            go_wp2_with fail
            exact K_at (HK.out (.pointer (some ⟨gd, t, none⟩)) W (fun _ _ => rfl) (Ext.refl W)) (by kernel_rfl)
          · intro us W K hE hd hK
            have d9 := hd 9 (by kernel_rfl)
            have cd := HDC.out W (EI.out.next (sg_undrew hE))
            dsimp only at hK ⊢
            rw [d9] at hK ⊢
            have HK := Lib.hid hK; have HE := Lib.hid hE
            clear hK hd hE d9
            go_wp2_with fail
            exact K_at (HK.out (.int .i64 dt) W (fun _ _ => rfl) (Ext.refl W)) (by kernel_rfl)
          · intro us W K hE hd hK
            have d6 := hd 6 (by kernel_rfl)
            have d10 := hd 10 (by kernel_rfl)
            dsimp only at hK ⊢
            rw [d6, d10] at hK ⊢
            have HK := Lib.hid hK; have HE := Lib.hid hE
            clear hK hd hE d6 d10
            go_wp2_with (go_loud (go_at_call 25; (with_reducible refine (HRD.out W (EI.out.next (sg_undrew HE.out))).mono ?_); rintro e w6 ⟨⟨A6, c6, rfl, hr6⟩, hB6⟩))
            exact K_at (HK.out (.slice A6 S.length c6) w6 (fun W2 hW2 => ⟨A6, c6, rfl, (hr6.below hW2 (Nat.le_refl _)).more hW2.size⟩) hB6) (by kernel_rfl)
          · intro us W K hE hd hK
            obtain ⟨K, A5, c5, d5, hr5, hv5, hm5, hl5⟩ := hd 5 (by kernel_rfl)
            obtain ⟨A6, c6, d11, hr6⟩ := hd 11 (by kernel_rfl)
            have HSA := Lib.hid (sameall_any K S A5 A6 K.length c5 S.length c6 W hr5 hr6 hv5 (HVD.out W (EI.out.next (sg_undrew hE))) hm5 (Nat.le_trans hl5 (by decide)))
            dsimp only at hK ⊢
            rw [d5, d11] at hK ⊢
            have HK := Lib.hid hK; have HE := Lib.hid hE
            clear hK hd hE d5 d11 hr5 hr6 hv5 hm5 hl5
            go_wp2_with (go_loud (go_at_call 23; (with_reducible refine HSA.out.mono ?_); rintro e w6 ⟨rfl, hB6⟩))
            exact K_at (HK.out (.bool true) w6 (fun _ _ => rfl) hB6) (by kernel_rfl)
          · intro us W K hE hd hK
            have d12 := hd 12 (by kernel_rfl)
            dsimp only at hK ⊢
            rw [d12] at hK ⊢
            have HK := Lib.hid hK; have HE := Lib.hid hE
            clear hK hd hE d12
            go_wp2_with fail
            exact K_at (HK.out (.bool false) W (fun _ _ => rfl) (Ext.refl W)) (by kernel_rfl)
        · intro us W hE hd
          try dsimp only
          have d13 := hd 13 (by decide)
          simp only [List.drop_succ_cons, List.drop_zero]
          rw [d13]
          have EW := Lib.hid (EI.out.next (sg_undrew hE))
          clear hd hE d13
          go_wp2_with fail
          exact ⟨⟨t + 1, HTN.out, by go_num, EW.out⟩, by have := HTN.out; simp [intOf]; omega⟩
      · obtain rfl : t = 3 := by omega
        go_wp2_with (go_at_call 11; (with_reducible refine (lives_any _).mono ?_); rintro e w9 ⟨rfl, hE9⟩)
        go_ret
        exact ⟨rfl, (E3.out.next EI.out).next hE9⟩
end
namespace fnReviewStanding
theorem params_reviewStanding : (Try.f5.params.toList.all fun t => Try.prog.readableRec t && decide (t < Try.prog.types.size)) = true := by kernel_rfl
set_option maxRecDepth 100000 in
theorem contract (H : Type) (enc : TypeId × Value → H) (W : World) (base : Nat) (args : Array Value) (ds gs : List (DataW H)) (before : List MemPlace)
    (hval : ∀ (j : Nat) t v, Try.f5.params[j]? = some t → args[j]? = some v → Value.okWide Try.prog W .any base t v)
    (hW : DataW.Whole enc Try.prog Try.f5.params.toList Rows.reviewStandingSpec.vars false W args.toList ds gs before) :
    Calls Try.prog 5 args W fun e W' => ∃ v, e = .returned v ∧ Rows.reviewStandingSpec.post enc Try.prog Try.f5 false true false false W args v W' := by
  have hW' := hW
  obtain ⟨p, q, hA0, _, _, _, _⟩ := hW
  have hA : DataW.TrodAll enc Try.prog W 0 (fun _ => true) true Try.f5.params.toList args.toList ds p := hA0
  rw [Try.params5] at hA hval
  obtain ⟨v0, vs0, d0, ds0, p0, q0, hargs, e0d, e0p, h0, r0⟩ := trodAll_cons hA
  obtain ⟨v1, vs1, d1, ds1, p1, q1, e1, e1d, e1p, h1, r1⟩ := trodAll_cons r0
  obtain ⟨v2, vs2, d2, ds2, p2, q2, e2, e2d, e2p, h2, r2⟩ := trodAll_cons r1
  obtain ⟨v3, vs3, d3, ds3, p3, q3, e3, e3d, e3p, h3, r3⟩ := trodAll_cons r2
  obtain ⟨en1, en2, en3⟩ := trodAll_nil r3
  obtain rfl : args = #[v0, v1, v2, v3] := by cases args; simp_all
  clear hA hA0
  obtain ⟨A, n, c, l, rfl, hR, hwf, hnc, hc⟩ := open_u8s Try.underlying22 Try.underlying3 cellsint (hval 0 _ v0 rfl rfl) h0
  obtain ⟨x, rfl, _, _, hx⟩ := open_int Try.underlying3 (hval 1 _ v1 rfl rfl) h1
  obtain ⟨y, rfl, _, _, hy⟩ := open_int Try.underlying3 (hval 2 _ v2 rfl rfl) h2
  obtain ⟨z, rfl, _, _, hz⟩ := open_int Try.underlying3 (hval 3 _ v3 rfl rfl) h3
  refine (walk_rstanding l A n c x y z W hR (fun x hx => wf_i64' (hwf x hx)) hnc hc (wf_i64' hx) (wf_i64' hy) (wf_i64' hz)).mono fun e W' ⟨he, hg⟩ => ⟨_, he, ?_⟩
  exact post_law hW' laidOut (params_ok params_reviewStanding) 4 rfl Try.underlying4 rfl (fun ds h => by
    rw [Try.params5] at h
    match ds, h with
    | [_, _, _, _], _ => rfl) hg
noncomputable def laidWorld (os : Os) : World := World.holding Try.prog os ⟨#[], #[], []⟩
theorem reads (os : Os) {H : Type} (enc : TypeId × Value → H) : ∃ places, DataW.whole enc Try.prog ((laidWorld os).forCall (fun _ _ => 0) ⟨#[], #[.slice none 0 0, .int .i64 0, .int .i64 0, .int .i64 0], []⟩).memory Try.f5.params.toList Rows.reviewStandingSpec.vars false (#[.slice none 0 0, .int .i64 0, .int .i64 0, .int .i64 0] : Array Value).toList 8 = some ([.nil, .lit (.int .i64 0), .lit (.int .i64 0), .lit (.int .i64 0)], [], places) :=
  ⟨[], by kernel_rfl⟩
set_option maxRecDepth 100000 in
theorem lifted (os : Os) (started : os.Started) (H : Type) (enc : TypeId × Value → H) (F : Stop.Interp) :
    ReturnsInHanded {} Try.checked os 5 .any ((OpenSpec.ofChange Rows.reviewStandingSpec).preRow enc Try.prog Try.f5 Rows.reviewStandingRow.domain false Rows.reviewStandingRow.laid) (((OpenSpec.ofChange Rows.reviewStandingSpec).at F).post enc Try.prog Try.f5 false true false false) := by
  obtain ⟨places, hx⟩ := reads os enc
  refine returnsInHanded_of_row (C := Try.checked) (s := OpenSpec.ofChange Rows.reviewStandingSpec) own started (by kernel_rfl) Try.func5
    (witness_row_at (enc := enc) (C := Try.checked) false (laidWorld os) #[.slice none 0 0, .int .i64 0, .int .i64 0, .int .i64 0] rfl (by kernel_rfl) (by kernel_rfl) (by kernel_rfl)
      (OpenSpec.preRow_of_cond 8 hx (by kernel_rfl) (fun k hk => by cases hk) (by kernel_rfl) (laidMet_nil _ _))) ?_
  intro W base args ds gs before hval hW _ _ _ hL _ _
  exact contract H enc W base args ds gs before hval hW
theorem said : Rows.ReviewStandingSaid :=
  OpenClaim.holds_of_cond 5 Try.f5 rfl rfl rfl rfl rfl rfl rfl ⟨rfl, rfl, rfl, rfl, rfl⟩ rfl rfl rfl rfl rfl (by kernel_rfl) Try.func5 (by kernel_rfl)
    (of_decide_eq_true (by kernel_rfl)) (by unfold Func.isWrapper; first | (rw [if_pos (by decide +kernel)]; kernel_rfl) | (rw [if_neg (by decide +kernel)]; exact ⟨rfl, rfl⟩))
    (fun os started H enc _ F => by rw [OpenClaim.pre_eq_preRow]; exact lifted os started H enc F)
end fnReviewStanding
end Go.Proofs.Ytphabdlcjpfbaaa
