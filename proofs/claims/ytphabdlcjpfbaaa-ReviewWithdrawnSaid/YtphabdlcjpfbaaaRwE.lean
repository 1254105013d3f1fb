/- The reference's common: have two lists of IDs one in common? Conditions: sizes. -/
import Derived.Test.YtphabdlcjpfbaaaRvR
import Derived.Test.YtphabdlcjpfbaaaRwD
set_option linter.unusedSimpArgs false
set_option linter.unusedVariables false
namespace Go.Proofs.Ytphabdlcjpfbaaa
open Go.RowKit
attribute [local go_sem ↓] wp_at_zero wp_at_succ
theorem meet_none {a b : List Rid} (h : ∀ (i j : Nat) (x : Rid), a[i]? = some x → b[j]? ≠ some x) : meetB a b = false := by
  unfold meetB
  rw [List.any_eq_false]
  intro x hx h2
  rw [decide_eq_true_iff] at h2
  obtain ⟨i, hi⟩ := List.mem_iff_getElem?.1 hx
  obtain ⟨j, hj⟩ := List.mem_iff_getElem?.1 h2
  exact h i j x hi hj
theorem meet_some {a b : List Rid} {i j : Nat} {x : Rid} (hi : a[i]? = some x) (hj : b[j]? = some x) : meetB a b = true := by
  unfold meetB
  rw [List.any_eq_true]
  exact ⟨x, List.mem_of_getElem? hi, decide_eq_true (List.mem_of_getElem? hj)⟩
theorem drew_ext {w w' : World} (h : Drew w w') : Ext w w' := h.below _
theorem drew_undrew {w w' : World} (h : Drew w.drew w') : Drew w w' := Drew.trans ⟨1, rfl⟩ h
set_option maxHeartbeats 8000000 in
set_option maxRecDepth 100000 in
theorem common_any (a b : List Rid) (A B : Option Addr) (n c m d : Nat) (w : World) (ha : RdN w w.heap.size 3 A n (idsC a)) (hb : RdN w w.heap.size 3 B m (idsC b)) (hn : n ≤ 1000000000000) (hm : m ≤ 1000000000000) :
    Calls Try.prog 54 #[.slice A n c, .slice B m d] w fun e w' => e = .returned (.bool (meetB a b)) ∧ Drew w w' := by
  have HA := Lib.hid ha; have HB := Lib.hid hb
  have HAN := Lib.hid (idsC_n ha); have HBN := Lib.hid (idsC_n hb)
  clear ha hb
  go_enter Try.func54, Try.ntmps54
  go_wp2_with fail
  go_loopw [5, 6] (fun k _ wr => ∃ t : Nat, t ≤ n ∧ k = .int .i64 (t : Int) ∧ Drew w wr ∧ ∀ (i j : Nat) (x : Rid), i < t → a[i]? = some x → b[j]? ≠ some x) (fun k _ _ => n - (intOf k).toNat)
  case atStart => exact ⟨0, by omega, rfl, Drew.refl _, fun i j x hi => by omega⟩
  case round =>
    obtain ⟨t, ht, rfl, hE, hz⟩ := hrel
    have EO := Lib.hid hE; have HZ := Lib.hid hz
    clear hE hz
    obtain ⟨wo, rfl⟩ : ∃ x : World, x = wr := ⟨_, rfl⟩
    by_cases hlt : t < n
    · obtain ⟨b1, p1, hA, hb1, hrg1⟩ := rid_at HA.out (by omega)
      subst hA
      obtain ⟨⟨s1, q1, z1⟩, hy⟩ : ∃ y, y = a.getD t rid0 := ⟨_, rfl⟩
      have hy2 : a[t]? = some ⟨s1, q1, z1⟩ := by rw [hy]; exact getD_of (by rw [HAN.out]; exact hlt)
      have HY2 := Lib.hid hy2
      have HR1 : Hid (∀ W, Ext w W → W.rangeAt b1 (p1 + t * 3) [.int .i64 s1, .int .i64 q1, .int .i64 z1]) := Lib.hid (fun W hW => hrg1 W (fun a ha => hW.cell ha) t _ hy2)
      have HTN : Hid (t + 1 ≤ n) := Lib.hid (by omega)
      clear hrg1 hb1 hy hy2
      go_wp2_with fail
      go_loopw [6] (fun k wr => ∃ u : Nat, u ≤ m ∧ k = .int .i64 (u : Int) ∧ Drew w wr ∧ ∀ j : Nat, j < u → b[j]? ≠ some ⟨s1, q1, z1⟩) (fun k _ => m - (intOf k).toNat)
      case atStart => exact ⟨0, by omega, rfl, EO.out, fun j hj => by omega⟩
      case round =>
        obtain ⟨u, hu, rfl, hE, hz⟩ := hrel
        have EI := Lib.hid hE; have HU := Lib.hid hz
        clear hE hz
        obtain ⟨wi, rfl⟩ : ∃ x : World, x = wr := ⟨_, rfl⟩
        by_cases hlu : u < m
        · obtain ⟨b2, p2, hB, hb2, hrg2⟩ := rid_at HB.out (by omega)
          subst hB
          obtain ⟨⟨s2, q2, z2⟩, hy⟩ : ∃ y, y = b.getD u rid0 := ⟨_, rfl⟩
          have hy2 : b[u]? = some ⟨s2, q2, z2⟩ := by rw [hy]; exact getD_of (by rw [HBN.out]; exact hlu)
          have HR2 : Hid (∀ W, Ext w W → W.rangeAt b2 (p2 + u * 3) [.int .i64 s2, .int .i64 q2, .int .i64 z2]) := Lib.hid (fun W hW => hrg2 W (fun a ha => hW.cell ha) u _ hy2)
          have HQ : Hid (∀ W, (Op.equalIn 10000 57 (.agg #[.int .i64 s1, .int .i64 q1, .int .i64 z1]) (.agg #[.int .i64 s2, .int .i64 q2, .int .i64 z2])).run Try.prog W = .ok (decide ((⟨s1, q1, z1⟩ : Rid) = ⟨s2, q2, z2⟩)) W) := Lib.hid (fun W => id_equal ⟨s1, q1, z1⟩ ⟨s2, q2, z2⟩ W)
          obtain ⟨eb, heb⟩ : ∃ e, e = decide ((⟨s1, q1, z1⟩ : Rid) = ⟨s2, q2, z2⟩) := ⟨_, rfl⟩
          have HY : Hid (eb = true → meetB a b = true) := Lib.hid (fun h => by
            rw [heb, decide_eq_true_iff] at h
            exact meet_some HY2.out (by rw [h]; exact hy2))
          have HN : Hid (eb = false → ∀ j : Nat, j < u + 1 → b[j]? ≠ some ⟨s1, q1, z1⟩) := Lib.hid (fun h j hj => by
            rw [heb, decide_eq_false_iff_not] at h
            rcases Nat.lt_or_ge j u with h1 | h1
            · exact HU.out j h1
            · obtain rfl : j = u := by omega
              rw [hy2]
              intro h2
              exact h (Option.some.inj h2).symm)
          have HUN : Hid (u + 1 ≤ m) := Lib.hid (by omega)
          rw [← heb] at HQ
          clear hrg2 hb2 heb hy hy2
          go_upto_region 7 with fail
          refine wp_region_flowF 9 ?FW1 (fun us => ?_) (by kernel_rfl) (by kernel_rfl) Drew Drew.refl Drew.trans (fun i v W => match i with
            | 0 => v = .slice (some ⟨b1, p1, none⟩) n c
            | 1 => v = .int .i64 (t : Int)
            | 2 => v = .pointer (some ⟨b1, p1 + t * 3, none⟩)
            | 3 => v = .agg #[.int .i64 s1, .int .i64 q1, .int .i64 z1]
            | 4 => v = .slice (some ⟨b2, p2, none⟩) m d
            | 5 => v = .int .i64 (u : Int)
            | 6 => v = .pointer (some ⟨b2, p2 + u * 3, none⟩)
            | 7 => v = .agg #[.int .i64 s2, .int .i64 q2, .int .i64 z2]
            | 8 => v = .bool eb
            | _ => True) ?_ ?_
          case refine_1 =>
            simp only [List.take_succ_cons, List.take_zero, flowAct, Nat.zero_add, Nat.reduceAdd, Act.put, List.setIfInBounds_toArray, List.set_cons_succ, List.set_cons_zero]
            rfl
          · simp only [List.take_succ_cons, List.take_zero, flowStepsF]
            refine ⟨?_, ?_, ?_, ?_, ?_, ?_, ?_, ?_, ?_, trivial⟩
            · intro us W K hE hd hK
              dsimp only at hK ⊢
              have HK := Lib.hid hK; have HE := Lib.hid hE
              clear hK hd hE
              go_wp2_with fail
              exact K_at (HK.out (.slice (some ⟨b1, p1, none⟩) n c) W (fun _ _ => rfl) (Drew.refl W)) (by kernel_rfl)
            · intro us W K hE hd hK
              dsimp only at hK ⊢
              have HK := Lib.hid hK; have HE := Lib.hid hE
              clear hK hd hE
              go_wp2_with fail
              exact K_at (HK.out (.int .i64 (t : Int)) W (fun _ _ => rfl) (Drew.refl W)) (by kernel_rfl)
            · intro us W K hE hd hK
              have d0 := hd 0 (by kernel_rfl)
              have d1 := hd 1 (by kernel_rfl)
              dsimp only at hK ⊢
              rw [d0, d1] at hK ⊢
              have HK := Lib.hid hK; have HE := Lib.hid hE
              clear hK hd hE d0 d1
              go_wp2_with fail
              exact K_at (HK.out (.pointer (some ⟨b1, p1 + t * 3, none⟩)) W (fun _ _ => rfl) (Drew.refl W)) (by kernel_rfl)
            · intro us W K hE hd hK
              have d2 := hd 2 (by kernel_rfl)
              have HRW := Lib.hid (HR1.out W (drew_ext (Drew.trans EI.out (drew_undrew hE))))
              dsimp only at hK ⊢
              rw [d2] at hK ⊢
              have HK := Lib.hid hK; have HE := Lib.hid hE
              clear hK hd hE d2
              go_wp2_with (go_loud (refine wpList_midw (by rfl) 57 (.tmp 21) rfl b1 (p1 + t * 3) rfl [.int .i64 s1, .int .i64 q1, .int .i64 z1] HRW.out Try.underlying57 rfl (info_id.trans rfl) ?_))
              exact K_at (HK.out (.agg #[.int .i64 s1, .int .i64 q1, .int .i64 z1]) W (fun _ _ => rfl) (Drew.refl W)) (by kernel_rfl)
            · intro us W K hE hd hK
              dsimp only at hK ⊢
              have HK := Lib.hid hK; have HE := Lib.hid hE
              clear hK hd hE
              go_wp2_with fail
              exact K_at (HK.out (.slice (some ⟨b2, p2, none⟩) m d) W (fun _ _ => rfl) (Drew.refl W)) (by kernel_rfl)
            · intro us W K hE hd hK
              dsimp only at hK ⊢
              have HK := Lib.hid hK; have HE := Lib.hid hE
              clear hK hd hE
              go_wp2_with fail
              exact K_at (HK.out (.int .i64 (u : Int)) W (fun _ _ => rfl) (Drew.refl W)) (by kernel_rfl)
            · intro us W K hE hd hK
              have d4 := hd 4 (by kernel_rfl)
              have d5 := hd 5 (by kernel_rfl)
              dsimp only at hK ⊢
              rw [d4, d5] at hK ⊢
              have HK := Lib.hid hK; have HE := Lib.hid hE
              clear hK hd hE d4 d5
              go_wp2_with fail
              exact K_at (HK.out (.pointer (some ⟨b2, p2 + u * 3, none⟩)) W (fun _ _ => rfl) (Drew.refl W)) (by kernel_rfl)
            · intro us W K hE hd hK
              have d6 := hd 6 (by kernel_rfl)
              have HRW := Lib.hid (HR2.out W (drew_ext (Drew.trans EI.out (drew_undrew hE))))
              dsimp only at hK ⊢
              rw [d6] at hK ⊢
              have HK := Lib.hid hK; have HE := Lib.hid hE
              clear hK hd hE d6
              go_wp2_with (go_loud (refine wpList_midw (by rfl) 57 (.tmp 25) rfl b2 (p2 + u * 3) rfl [.int .i64 s2, .int .i64 q2, .int .i64 z2] HRW.out Try.underlying57 rfl (info_id.trans rfl) ?_))
              exact K_at (HK.out (.agg #[.int .i64 s2, .int .i64 q2, .int .i64 z2]) W (fun _ _ => rfl) (Drew.refl W)) (by kernel_rfl)
            · intro us W K hE hd hK
              have d3 := hd 3 (by kernel_rfl)
              have d7 := hd 7 (by kernel_rfl)
              have hq := HQ.out
              dsimp only at hK ⊢
              rw [d3, d7] at hK ⊢
              have HK := Lib.hid hK; have HE := Lib.hid hE
              clear hK hd hE d3 d7
              go_wp2_with fail
              exact K_at (HK.out (.bool eb) W (fun _ _ => rfl) (Drew.refl W)) (by kernel_rfl)
          · intro us W hE hd
            try dsimp only
            have d8 := hd 8 (by decide)
            simp only [List.drop_succ_cons, List.drop_zero]
            rw [d8]
            have EW := Lib.hid (Drew.trans EI.out (drew_undrew hE))
            clear hd hE d8
            cases eb
            · have hN := Lib.hid (HN.out rfl)
              go_wp2_with fail
              exact ⟨⟨u + 1, HUN.out, by go_num, EW.out, hN.out⟩, by have := HUN.out; simp [intOf]; omega⟩
            · have hY := Lib.hid (HY.out rfl)
              go_wp2_with fail
              go_ret
              exact ⟨by rw [hY.out]; rfl, EW.out⟩
        · obtain rfl : u = m := by omega
          have HS : Hid (∀ (i j : Nat) (x : Rid), i < t + 1 → a[i]? = some x → b[j]? ≠ some x) := Lib.hid (fun i j x hi hx => by
            rcases Nat.lt_or_ge i t with h | h
            · exact HZ.out i j x h hx
            · obtain rfl : i = t := by omega
              rw [HY2.out] at hx
              have hx := Option.some.inj hx
              subst hx
              intro hj
              have := (List.getElem?_eq_some_iff.1 hj).1
              rw [HBN.out] at this
              exact HU.out j this hj)
          go_wp2_with fail
          exact ⟨⟨t + 1, HTN.out, by go_num, EI.out, HS.out⟩, by have := HTN.out; simp [intOf]; omega⟩
    · obtain rfl : t = n := by omega
      have HM : Hid (meetB a b = false) := Lib.hid (meet_none (fun i j x hi => HZ.out i j x (by have := (List.getElem?_eq_some_iff.1 hi).1; rw [HAN.out] at this; exact this) hi))
      go_wp2_with fail
      go_ret
      exact ⟨by rw [HM.out]; rfl, EO.out⟩
end Go.Proofs.Ytphabdlcjpfbaaa
