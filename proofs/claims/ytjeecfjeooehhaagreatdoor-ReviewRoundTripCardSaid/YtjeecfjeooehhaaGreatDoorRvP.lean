/- slices.Index, Contains, IndexFunc, ContainsFunc at IDs and reviews. Conditions: the slices can be read. -/
import Derived.Test.YtjeecfjeooehhaaGreatDoorRvO
set_option linter.unusedSimpArgs false
set_option linter.unusedVariables false
namespace Go.Proofs.YtjeecfjeooehhaaGreatDoor
open Go.RowKit
attribute [local go_sem ↓] wp_at_zero wp_at_succ
theorem rid_at {w : World} {B n : Nat} {A : Option Addr} {L : List Rid} (h : RdN w B 3 A n (idsC L)) (hn : 0 < n) : ∃ b p, A = some ⟨b, p, none⟩ ∧ b < B ∧ ∀ W : World, (∀ a : Addr, a.block < B → W.cell? a = w.cell? a) → ∀ k x, L[k]? = some x → W.rangeAt b (p + k * 3) [.int .i64 x.s, .int .i64 x.q, .int .i64 x.i] := by
  obtain ⟨b, p, hA, hb, hc⟩ := h.2 hn
  refine ⟨b, p, hA, hb, fun W hW k x hx => ?_⟩
  exact ids_range (L := L) (fun j u hu => (hW _ hb).trans (hc j u hu)) hx
theorem idsC_n {w : World} {B n : Nat} {A : Option Addr} {L : List Rid} (h : RdN w B 3 A n (idsC L)) : L.length = n := by
  have := h.1
  rw [idsC_len] at this
  omega
set_option maxHeartbeats 8000000 in
set_option maxRecDepth 100000 in
theorem index_id (L : List Rid) (x : Rid) (A : Option Addr) (n c : Nat) (w : World) (hl : RdN w w.heap.size 3 A n (idsC L)) (hn : n ≤ 1000000000000) :
    Calls Tryz.prog 124 #[.slice A n c, .agg #[.int .i64 x.s, .int .i64 x.q, .int .i64 x.i]] w fun e w' => (∃ v : Int, e = .returned (.int .i64 v) ∧ decide (0 ≤ v) = decide (x ∈ L)) ∧ Ext w w' := by
  have HL := Lib.hid hl
  have HLN := Lib.hid (idsC_n hl)
  clear hl
  obtain ⟨s, q, z⟩ := x
  dsimp only
  go_enter Tryz.func124, Tryz.ntmps124
  go_upto_region 1 with fail
  obtain ⟨w1, hw1⟩ : ∃ x, x = w.alloc (.cells #[.int .i64 s, .int .i64 q, .int .i64 z] 68) := ⟨_, rfl⟩
  change Code.wp _ _ _ _ (w.alloc (.cells #[.int .i64 s, .int .i64 q, .int .i64 z] 68))
  rw [← hw1]
  have E1 : Hid (Ext w w1) := Lib.hid (by rw [hw1]; exact (Ext.refl w).alloc _)
  have BX : Hid (Blk w1 w.heap.size 68 [.int .i64 s, .int .i64 q, .int .i64 z]) := Lib.hid (by rw [hw1]; exact Blk.fresh' _ _ _ _ _ rfl rfl)
  clear hw1
  go_wp2_with fail
  go_loopw [5, 8] (fun _ k wr => ∃ t : Nat, t ≤ n ∧ k = .int .i64 (t : Int) ∧ Ext w1 wr ∧ ∀ j, j < t → L[j]? ≠ some ⟨s, q, z⟩) (fun _ k _ => n - (intOf k).toNat)
  case atStart => exact ⟨0, by omega, rfl, Ext.refl _, fun j hj => by omega⟩
  case round =>
    obtain ⟨t, ht, rfl, hE, hz⟩ := hrel
    have EO := Lib.hid hE; have HZ := Lib.hid hz
    clear hE hz
    obtain ⟨wo, rfl⟩ : ∃ x : World, x = wr := ⟨_, rfl⟩
    by_cases hlt : t < n
    · obtain ⟨b, p, hA, hb, hrg⟩ := rid_at HL.out (by omega)
      subst hA
      obtain ⟨⟨s1, q1, z1⟩, hy⟩ : ∃ y, y = L.getD t rid0 := ⟨_, rfl⟩
      have hy2 : L[t]? = some ⟨s1, q1, z1⟩ := by rw [hy]; exact getD_of (by rw [HLN.out]; exact hlt)
      have HR : Hid (∀ W, Ext w W → W.rangeAt b (p + t * 3) [.int .i64 s1, .int .i64 q1, .int .i64 z1]) := Lib.hid (fun W hW => hrg W (fun a ha => hW.cell ha) t _ hy2)
      have HQ : Hid (∀ W, (Op.equalIn 10000 68 (.agg #[.int .i64 s, .int .i64 q, .int .i64 z]) (.agg #[.int .i64 s1, .int .i64 q1, .int .i64 z1])).run Tryz.prog W = .ok (decide ((⟨s, q, z⟩ : Rid) = ⟨s1, q1, z1⟩)) W) := Lib.hid (fun W => id_equal ⟨s, q, z⟩ ⟨s1, q1, z1⟩ W)
      obtain ⟨eb, heb⟩ : ∃ e, e = decide ((⟨s, q, z⟩ : Rid) = ⟨s1, q1, z1⟩) := ⟨_, rfl⟩
      have HY : Hid (eb = true → (⟨s, q, z⟩ : Rid) ∈ L) := Lib.hid (fun h => by
        rw [heb, decide_eq_true_iff] at h
        rw [h]
        exact List.mem_of_getElem? hy2)
      have HN : Hid (eb = false → ∀ j, j < t + 1 → L[j]? ≠ some ⟨s, q, z⟩) := Lib.hid (fun h j hj => by
        rw [heb, decide_eq_false_iff_not] at h
        rcases Nat.lt_or_ge j t with h1 | h1
        · exact HZ.out j h1
        · obtain rfl : j = t := by omega
          rw [hy2]
          intro h2
          exact h (Option.some.inj h2).symm)
      have HTN : Hid (t + 1 ≤ n) := Lib.hid (by omega)
      rw [← heb] at HQ
      clear hrg hb heb hy hy2
      go_upto_region 4 with fail
      refine wp_region_flowF 6 ?FW1 (fun us => ?_) (by kernel_rfl) (by kernel_rfl) (fun a b => Ext a b) Ext.refl (fun h1 h2 => h1.next h2) (fun i v W => match i with
        | 0 => v = .agg #[.int .i64 s, .int .i64 q, .int .i64 z]
        | 1 => v = .slice (some ⟨b, p, none⟩) n c
        | 2 => v = .int .i64 (t : Int)
        | 3 => v = .pointer (some ⟨b, p + t * 3, none⟩)
        | 4 => v = .agg #[.int .i64 s1, .int .i64 q1, .int .i64 z1]
        | 5 => v = .bool eb
        | _ => True) ?_ ?_
      case refine_1 =>
        simp only [List.take_succ_cons, List.take_zero, flowAct, Nat.zero_add, Nat.reduceAdd, Act.put, List.setIfInBounds_toArray, List.set_cons_succ, List.set_cons_zero]
        rfl
      · simp only [List.take_succ_cons, List.take_zero, flowStepsF]
        refine ⟨?_, ?_, ?_, ?_, ?_, ?_, trivial⟩
        · intro us W K hE hd hK
          have BW := Lib.hid (BX.out.ext (EO.out.next (sg_undrew hE)))
          dsimp only at hK ⊢
          have HK := Lib.hid hK; have HE := Lib.hid hE
          clear hK hd hE
          go_wp2_with (go_loud (refine wpList_load_want (by rfl) 68 (.tmp 3) rfl w.heap.size (by kernel_rfl) BW.out Tryz.underlying68 rfl (info_id.trans rfl) ?_))
          exact K_at (HK.out (.agg #[.int .i64 s, .int .i64 q, .int .i64 z]) W (fun _ _ => rfl) (Ext.refl W)) (by kernel_rfl)
        · intro us W K hE hd hK
          dsimp only at hK ⊢
          have HK := Lib.hid hK; have HE := Lib.hid hE
          clear hK hd hE
          go_wp2_with fail
          exact K_at (HK.out (.slice (some ⟨b, p, none⟩) n c) W (fun _ _ => rfl) (Ext.refl W)) (by kernel_rfl)
        · intro us W K hE hd hK
          dsimp only at hK ⊢
          have HK := Lib.hid hK; have HE := Lib.hid hE
          clear hK hd hE
          go_wp2_with fail
          exact K_at (HK.out (.int .i64 (t : Int)) W (fun _ _ => rfl) (Ext.refl W)) (by kernel_rfl)
        · intro us W K hE hd hK
          have d1 := hd 1 (by kernel_rfl)
          have d2 := hd 2 (by kernel_rfl)
          dsimp only at hK ⊢
          rw [d1, d2] at hK ⊢
          have HK := Lib.hid hK; have HE := Lib.hid hE
          clear hK hd hE d1 d2
          go_wp2_with fail
          exact K_at (HK.out (.pointer (some ⟨b, p + t * 3, none⟩)) W (fun _ _ => rfl) (Ext.refl W)) (by kernel_rfl)
        · intro us W K hE hd hK
          have d3 := hd 3 (by kernel_rfl)
          have HRW := Lib.hid (HR.out W (E1.out.next (EO.out.next (sg_undrew hE))))
          dsimp only at hK ⊢
          rw [d3] at hK ⊢
          have HK := Lib.hid hK; have HE := Lib.hid hE
          clear hK hd hE d3
          go_wp2_with (go_loud (refine wpList_midw (by rfl) 68 (.tmp 14) rfl b (p + t * 3) rfl [.int .i64 s1, .int .i64 q1, .int .i64 z1] HRW.out Tryz.underlying68 rfl (info_id.trans rfl) ?_))
          exact K_at (HK.out (.agg #[.int .i64 s1, .int .i64 q1, .int .i64 z1]) W (fun _ _ => rfl) (Ext.refl W)) (by kernel_rfl)
        · intro us W K hE hd hK
          have d0 := hd 0 (by kernel_rfl)
          have d4 := hd 4 (by kernel_rfl)
          have hq := HQ.out
          dsimp only at hK ⊢
          rw [d0, d4] at hK ⊢
          have HK := Lib.hid hK; have HE := Lib.hid hE
          clear hK hd hE d0 d4
          go_wp2_with fail
          exact K_at (HK.out (.bool eb) W (fun _ _ => rfl) (Ext.refl W)) (by kernel_rfl)
      · intro us W hE hd
        try dsimp only
        have d5 := hd 5 (by decide)
        simp only [List.drop_succ_cons, List.drop_zero]
        rw [d5]
        have EW := Lib.hid (EO.out.next (sg_undrew hE))
        clear hd hE d5
        cases eb
        · have hN := Lib.hid (HN.out rfl)
          go_wp2_with fail
          exact ⟨⟨t + 1, HTN.out, by go_num, EW.out, hN.out⟩, by have := HTN.out; simp [intOf]; omega⟩
        · have hY := Lib.hid (HY.out rfl)
          go_wp2_with fail
          go_ret
          exact ⟨⟨(t : Int), rfl, ⟨fun _ => hY.out, fun _ => by omega⟩⟩, E1.out.next EW.out⟩
    · obtain rfl : t = n := by omega
      have hmem : decide ((⟨s, q, z⟩ : Rid) ∈ L) = false := decide_eq_false (fun h => by
        obtain ⟨j, hj⟩ := List.mem_iff_getElem?.1 h
        have hlt2 := (List.getElem?_eq_some_iff.1 hj).1
        rw [HLN.out] at hlt2
        exact HZ.out j hlt2 hj)
      go_wp2_with fail
      go_ret
      exact ⟨⟨-1, rfl, by rw [hmem]; rfl⟩, E1.out.next EO.out⟩
set_option maxHeartbeats 4000000 in
theorem contains_id (L : List Rid) (x : Rid) (A : Option Addr) (n c : Nat) (w : World) (hl : RdN w w.heap.size 3 A n (idsC L)) (hn : n ≤ 1000000000000) :
    Calls Tryz.prog 86 #[.slice A n c, .agg #[.int .i64 x.s, .int .i64 x.q, .int .i64 x.i]] w fun e w' => e = .returned (.bool (decide (x ∈ L))) ∧ Ext w w' := by
  have HI : Hid (∀ W, Ext w W → Calls Tryz.prog 124 #[.slice A n c, .agg #[.int .i64 x.s, .int .i64 x.q, .int .i64 x.i]] W fun e w' => (∃ v : Int, e = .returned (.int .i64 v) ∧ decide (0 ≤ v) = decide (x ∈ L)) ∧ Ext W w') := Lib.hid (fun W hW => index_id L x A n c W ((hl.below hW (Nat.le_refl _)).more hW.size) hn)
  clear hl
  obtain ⟨s, q, z⟩ := x
  dsimp only at HI ⊢
  obtain ⟨eb, heb⟩ : ∃ e, e = decide ((⟨s, q, z⟩ : Rid) ∈ L) := ⟨_, rfl⟩
  rw [← heb] at HI ⊢
  clear heb
  go_enter Tryz.func86, Tryz.ntmps86
  go_upto_region 1 with fail
  obtain ⟨w1, hw1⟩ : ∃ x, x = w.alloc (.cells #[.int .i64 s, .int .i64 q, .int .i64 z] 68) := ⟨_, rfl⟩
  change Code.wp _ _ _ _ (w.alloc (.cells #[.int .i64 s, .int .i64 q, .int .i64 z] 68))
  rw [← hw1]
  have E1 : Hid (Ext w w1) := Lib.hid (by rw [hw1]; exact (Ext.refl w).alloc _)
  have BX : Hid (Blk w1 w.heap.size 68 [.int .i64 s, .int .i64 q, .int .i64 z]) := Lib.hid (by rw [hw1]; exact Blk.fresh' _ _ _ _ _ rfl rfl)
  clear hw1
  go_wp2_with (first
    | (refine wpList_load_blk rfl 68 (.tmp 3) rfl w.heap.size (by kernel_rfl) BX.out Tryz.underlying68 rfl (info_id.trans rfl) ?_)
    | (go_at_call 124; (with_reducible refine (HI.out w1 E1.out).mono ?_); rintro e w2 ⟨⟨v, rfl, hv⟩, hE2⟩))
  go_ret
  exact ⟨rfl, E1.out.next hE2⟩
end Go.Proofs.YtjeecfjeooehhaaGreatDoor
