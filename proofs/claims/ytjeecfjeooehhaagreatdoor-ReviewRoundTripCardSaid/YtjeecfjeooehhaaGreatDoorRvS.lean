/- slices.Clone at IDs; the comparison of reviews; insertion sort of reviews. Conditions: the slices can be read. -/
import Derived.Test.YtjeecfjeooehhaaGreatDoorRvR
import Derived.Test.YtjeecfjeooehhaaGreatDoorKept
import Derived.Laws.CopyRow
set_option linter.unusedSimpArgs false
set_option linter.unusedVariables false
namespace Go.Proofs.YtjeecfjeooehhaaGreatDoor
open Go.RowKit
attribute [local go_sem ↓] wp_at_zero wp_at_succ
set_option maxHeartbeats 2000000 in
set_option maxRecDepth 100000 in
theorem clone_id (L : List Rid) (A : Option Addr) (n c : Nat) (w : World) (hl : RdN w w.heap.size 3 A n (idsC L)) (hn : n ≤ 1000000000000) :
    Calls Tryz.prog 41 #[.slice A n c] w fun e w' => (∃ A' c', e = .returned (.slice A' n c') ∧ w'.ownsRow w.heap.size 68 3 (.slice A' n c') n (idsC L)) ∧ Ext w w' := by
  obtain ⟨i0, hi, hz0, hz1, hz2⟩ := info_parts id_info
  have HL := Lib.hid hl
  clear hl
  have hq : ∀ a n c w, (binOp .eql 24 (.slice a n c) (.slice none 0 0)).run Tryz.prog w = .ok (.bool a.isNone) w := fun a n c w => Lib.run_eql_slice_nil w _ _ a n c 0 0 Tryz.underlying24
  rcases A with _ | a
  · have hn0 : n = 0 := by
      rcases Nat.eq_zero_or_pos n with h | h
      · exact h
      · obtain ⟨b, o, h2, _⟩ := HL.out.2 h
        cases h2
    subst hn0
    have hl0 : idsC L = [] := List.eq_nil_of_length_eq_zero (by have := HL.out.1; omega)
    rw [hl0]
    go_enter Tryz.func41, Tryz.ntmps41
    go_wp2_with fail
    go_ret
    exact ⟨⟨none, 0, rfl, World.ownsRow_nil _ _ _ _⟩, Ext.refl _⟩
  · have HOL : Hid ((w.alloc (.cells #[] 68)).ownsRow w.heap.size 68 3 (.slice (some ⟨w.heap.size, 0, none⟩) 0 0) 0 []) := Lib.hid (by
      have h := World.ownsRow_lit (base := w.heap.size) (size := 3) (e := 68) w #[] 0 (Nat.le_refl _) (by decide) (by simp)
      simpa using h)
    have HR : Hid (RdN (w.alloc (.cells #[] 68)) (w.alloc (.cells #[] 68)).heap.size 3 (some a) n (idsC L)) := Lib.hid ((HL.out.below ((Ext.refl w).alloc _) (Nat.le_refl _)).more ((Ext.refl w).alloc _).size)
    go_enter Tryz.func41, Tryz.ntmps41
    go_wp2_with (at_builtin; refine wpList_app rfl (.tmp 5) (.tmp 6) 24 rfl w.heap.size 68 i0 (.agg #[.int .i64 0, .int .i64 0, .int .i64 0]) 3 24 Tryz.underlying24 hi hz0 hz1 hz2 rfl (by omega) (some ⟨w.heap.size, 0, none⟩) 0 0 [] rfl HOL.out (w.alloc (.cells #[] 68)).heap.size (some a) n c (idsC L) rfl HR.out (idsC_one _) (by simp only [maxLen]; omega) (by omega) (by simp) ?_; rw [Nat.zero_add, List.nil_append]; intro A4 c4 w4 ho4 hg4; have HO4 := Lib.hid ho4; have E4 : Hid (Ext w w4) := Lib.hid (below_app ((Ext.refl w).alloc _) hg4 HOL.out (Nat.le_refl _) (by simp)); clear ho4 hg4)
    go_ret
    exact ⟨⟨A4, c4, rfl, HO4.out⟩, E4.out⟩
/-- The order of reviews. -/
def kcmp (a b : Rev) : Int := orI [cmpI a.shop b.shop, cmpI a.seq b.seq]
def ltK (a b : Rev) : Prop := a.shop < b.shop ∨ a.shop = b.shop ∧ a.seq < b.seq
theorem kcmp_lt (a b : Rev) : (kcmp a b < 0) ↔ ltK a b := by
  have e2 : ∀ x y : Int, orI [x, y] = if x ≠ 0 then x else y := fun x y => by
    have h := orI3 x y 0
    have h2 : orI [x, y, 0] = orI [x, y] := by
      unfold orI
      by_cases hx : x = 0 <;> by_cases hy : y = 0 <;> simp [hx, hy]
    rw [← h2, h]
    split
    · rfl
    · split
      · rfl
      · rename_i h; simp only [ne_eq, Decidable.not_not] at h; exact h.symm
  unfold kcmp ltK
  rw [e2]
  unfold cmpI
  split <;> (repeat' split) <;> omega
set_option maxHeartbeats 8000000 in
set_option maxRecDepth 100000 in
theorem cmpR_any (a b : RX) (w : World) (ha : (rxC a).length = 22) (hb : (rxC b).length = 22) :
    Calls Tryz.prog 88 #[.agg (rxC a).toArray, .agg (rxC b).toArray] w fun e w' => e = .returned (.int .i64 (kcmp a.r b.r)) ∧ Ext w w' := by
  obtain ⟨V, hV⟩ : ∃ v, v = kcmp a.r b.r := ⟨_, rfl⟩
  obtain ⟨s, hs⟩ : ∃ x, x = a.r.shop := ⟨_, rfl⟩
  obtain ⟨q, hq⟩ : ∃ x, x = a.r.seq := ⟨_, rfl⟩
  obtain ⟨s', hs'⟩ : ∃ x, x = b.r.shop := ⟨_, rfl⟩
  obtain ⟨q', hq'⟩ : ∃ x, x = b.r.seq := ⟨_, rfl⟩
  obtain ⟨c1, hc1⟩ : ∃ c, c = cmpI s s' := ⟨_, rfl⟩
  obtain ⟨c2, hc2⟩ : ∃ c, c = cmpI q q' := ⟨_, rfl⟩
  have H1 : Hid (∀ W, Calls Tryz.prog 90 #[.int .i64 s, .int .i64 s'] W fun e w' => e = .returned (.int .i64 c1) ∧ W = w') := Lib.hid (fun W => by rw [hc1]; exact compare_any s s' W)
  have H2 : Hid (∀ W, Calls Tryz.prog 90 #[.int .i64 q, .int .i64 q'] W fun e w' => e = .returned (.int .i64 c2) ∧ W = w') := Lib.hid (fun W => by rw [hc2]; exact compare_any q q' W)
  have HV : Hid (V = orI [c1, c2]) := Lib.hid (by rw [hV, hc1, hc2, hs, hs', hq, hq']; rfl)
  rw [← hV]
  go_enter Tryz.func88, Tryz.ntmps88
  go_upto_region 1 with fail
  obtain ⟨w2, hw2⟩ : ∃ x, x = (w.alloc (.cells (rxC a).toArray 28)).alloc (.cells (rxC b).toArray 28) := ⟨_, rfl⟩
  change Code.wp _ _ _ _ ((w.alloc (.cells (rxC a).toArray 28)).alloc (.cells (rxC b).toArray 28))
  rw [← hw2]
  have E2 : Hid (Ext w w2) := Lib.hid (by rw [hw2]; exact ((Ext.refl w).alloc _).alloc _)
  have BA : Hid (Blk w2 w.heap.size 28 (rxC a)) := Lib.hid (by rw [hw2]; exact (Blk.fresh' _ _ _ _ _ rfl rfl).alloc _)
  have BB : Hid (Blk w2 (w.heap.size + 1) 28 (rxC b)) := Lib.hid (by rw [hw2]; exact Blk.fresh' _ _ _ _ _ rfl (by simp))
  have HA0 : Hid ((rxC a)[0]? = some (.int .i64 s) ∧ (rxC a)[1]? = some (.int .i64 q)) := Lib.hid (by rw [hs, hq]; exact ⟨rfl, rfl⟩)
  have HB0 : Hid ((rxC b)[0]? = some (.int .i64 s') ∧ (rxC b)[1]? = some (.int .i64 q')) := Lib.hid (by rw [hs', hq']; exact ⟨rfl, rfl⟩)
  clear hw2 hV hc1 hc2 hs hq hs' hq' ha hb
  refine wp_region_flowF 12 ?FW1 (fun us => ?_) (by kernel_rfl) (by kernel_rfl) (fun a b => Ext a b) Ext.refl (fun h1 h2 => h1.next h2) (fun i v W => match i with
    | 0 => v = .pointer (some ⟨w.heap.size, 0, none⟩)
    | 1 => v = .int .i64 s
    | 2 => v = .pointer (some ⟨w.heap.size + 1, 0, none⟩)
    | 3 => v = .int .i64 s'
    | 4 => v = .int .i64 c1
    | 5 => v = .pointer (some ⟨w.heap.size, 1, none⟩)
    | 6 => v = .int .i64 q
    | 7 => v = .pointer (some ⟨w.heap.size + 1, 1, none⟩)
    | 8 => v = .int .i64 q'
    | 9 => v = .int .i64 c2
    | 10 => ∃ g, v = .slice (some ⟨g, 0, none⟩) 2 2 ∧ Rd W W.heap.size (some ⟨g, 0, none⟩) 2 ([c1, c2].map (Value.int .i64))
    | 11 => v = .int .i64 V
    | _ => True) ?_ ?_
  case refine_1 =>
    simp only [List.take_succ_cons, List.take_zero, flowAct, Nat.zero_add, Nat.reduceAdd, Act.put, List.setIfInBounds_toArray, List.set_cons_succ, List.set_cons_zero]
    rfl
  · simp only [List.take_succ_cons, List.take_zero, flowStepsF]
    refine ⟨?_, ?_, ?_, ?_, ?_, ?_, ?_, ?_, ?_, ?_, ?_, ?_, trivial⟩
    · intro us W K hE hd hK
      dsimp only at hK ⊢
      have HK := Lib.hid hK; have HE := Lib.hid hE
      clear hK hd hE
      go_wp2_with fail
      exact K_at (HK.out (.pointer (some ⟨w.heap.size, 0, none⟩)) W (fun _ _ => rfl) (Ext.refl W)) (by kernel_rfl)
    · intro us W K hE hd hK
      have d0 := hd 0 (by kernel_rfl)
      have xk : W.cell? ⟨w.heap.size, 0, none⟩ = some (.int .i64 s) := ((BA.out.ext (sg_undrew hE)).cell 0).trans HA0.out.1
      dsimp only at hK ⊢
      rw [d0] at hK ⊢
      have HK := Lib.hid hK; have HE := Lib.hid hE
      clear hK hd hE d0
      go_wp2_with fail
      exact K_at (HK.out (.int .i64 s) W (fun _ _ => rfl) (Ext.refl W)) (by kernel_rfl)
    · intro us W K hE hd hK
      dsimp only at hK ⊢
      have HK := Lib.hid hK; have HE := Lib.hid hE
      clear hK hd hE
      go_wp2_with fail
      exact K_at (HK.out (.pointer (some ⟨w.heap.size + 1, 0, none⟩)) W (fun _ _ => rfl) (Ext.refl W)) (by kernel_rfl)
    · intro us W K hE hd hK
      have d2 := hd 2 (by kernel_rfl)
      have xk : W.cell? ⟨w.heap.size + 1, 0, none⟩ = some (.int .i64 s') := ((BB.out.ext (sg_undrew hE)).cell 0).trans HB0.out.1
      dsimp only at hK ⊢
      rw [d2] at hK ⊢
      have HK := Lib.hid hK; have HE := Lib.hid hE
      clear hK hd hE d2
      go_wp2_with fail
      exact K_at (HK.out (.int .i64 s') W (fun _ _ => rfl) (Ext.refl W)) (by kernel_rfl)
    · intro us W K hE hd hK
      have d1 := hd 1 (by kernel_rfl)
      have d3 := hd 3 (by kernel_rfl)
      dsimp only at hK ⊢
      rw [d1, d3] at hK ⊢
      have HK := Lib.hid hK; have HE := Lib.hid hE
      clear hK hd hE d1 d3
      go_wp2_with (go_loud (go_at_call 90; (with_reducible refine (H1.out W).mono ?_); rintro e w6 ⟨rfl, rfl⟩))
      exact K_at (HK.out (.int .i64 c1) W (fun _ _ => rfl) (Ext.refl W)) (by kernel_rfl)
    · intro us W K hE hd hK
      dsimp only at hK ⊢
      have HK := Lib.hid hK; have HE := Lib.hid hE
      clear hK hd hE
      go_wp2_with fail
      exact K_at (HK.out (.pointer (some ⟨w.heap.size, 1, none⟩)) W (fun _ _ => rfl) (Ext.refl W)) (by kernel_rfl)
    · intro us W K hE hd hK
      have d5 := hd 5 (by kernel_rfl)
      have xk : W.cell? ⟨w.heap.size, 1, none⟩ = some (.int .i64 q) := ((BA.out.ext (sg_undrew hE)).cell 1).trans HA0.out.2
      dsimp only at hK ⊢
      rw [d5] at hK ⊢
      have HK := Lib.hid hK; have HE := Lib.hid hE
      clear hK hd hE d5
      go_wp2_with fail
      exact K_at (HK.out (.int .i64 q) W (fun _ _ => rfl) (Ext.refl W)) (by kernel_rfl)
    · intro us W K hE hd hK
      dsimp only at hK ⊢
      have HK := Lib.hid hK; have HE := Lib.hid hE
      clear hK hd hE
      go_wp2_with fail
      exact K_at (HK.out (.pointer (some ⟨w.heap.size + 1, 1, none⟩)) W (fun _ _ => rfl) (Ext.refl W)) (by kernel_rfl)
    · intro us W K hE hd hK
      have d7 := hd 7 (by kernel_rfl)
      have xk : W.cell? ⟨w.heap.size + 1, 1, none⟩ = some (.int .i64 q') := ((BB.out.ext (sg_undrew hE)).cell 1).trans HB0.out.2
      dsimp only at hK ⊢
      rw [d7] at hK ⊢
      have HK := Lib.hid hK; have HE := Lib.hid hE
      clear hK hd hE d7
      go_wp2_with fail
      exact K_at (HK.out (.int .i64 q') W (fun _ _ => rfl) (Ext.refl W)) (by kernel_rfl)
    · intro us W K hE hd hK
      have d6 := hd 6 (by kernel_rfl)
      have d8 := hd 8 (by kernel_rfl)
      dsimp only at hK ⊢
      rw [d6, d8] at hK ⊢
      have HK := Lib.hid hK; have HE := Lib.hid hE
      clear hK hd hE d6 d8
      go_wp2_with (go_loud (go_at_call 90; (with_reducible refine (H2.out W).mono ?_); rintro e w6 ⟨rfl, rfl⟩))
      exact K_at (HK.out (.int .i64 c2) W (fun _ _ => rfl) (Ext.refl W)) (by kernel_rfl)
    · intro us W K hE hd hK
      have d4 := hd 4 (by kernel_rfl)
      have d9 := hd 9 (by kernel_rfl)
      dsimp only at hK ⊢
      rw [d4, d9] at hK ⊢
      have HK := Lib.hid hK; have HE := Lib.hid hE
      clear hK hd hE d4 d9
      go_wp2_with fail
      exact K_at (HK.out (.slice (some ⟨W.heap.size, 0, none⟩) 2 2) _ (fun W2 hW2 => ⟨W.heap.size, rfl, ((Blk.fresh W 3 [.int .i64 c1, .int .i64 c2]).rd rfl).ext' hW2⟩) ((Ext.refl W).alloc _)) (by kernel_rfl)
    · intro us W K hE hd hK
      obtain ⟨g, d10, hr⟩ := hd 10 (by kernel_rfl)
      have RR := Lib.hid (or_any [c1, c2] _ 2 2 W hr (by decide))
      rw [← HV.out] at RR
      clear hr
      dsimp only at hK ⊢
      rw [d10] at hK ⊢
      have HK := Lib.hid hK; have HE := Lib.hid hE
      clear hK hd hE d10
      go_wp2_with (go_loud (go_at_call 89; (with_reducible refine RR.out.mono ?_); rintro e w6 ⟨rfl, rfl⟩))
      exact K_at (HK.out (.int .i64 V) W (fun _ _ => rfl) (Ext.refl W)) (by kernel_rfl)
  · intro us W hE hd
    try dsimp only
    have d11 := hd 11 (by decide)
    simp only [List.drop_succ_cons, List.drop_zero]
    rw [d11]
    have EW := Lib.hid (E2.out.next (sg_undrew hE))
    clear hd hE d11
    go_wp2_with fail
    go_ret
    exact ⟨rfl, EW.out⟩
end Go.Proofs.YtjeecfjeooehhaaGreatDoor
