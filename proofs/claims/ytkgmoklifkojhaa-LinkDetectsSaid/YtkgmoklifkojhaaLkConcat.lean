/- slices.Grow of nil, slices.Concat and slices.Clone at byte slices. Conditions: sizes that fit the memory. -/
import Derived.Test.YtkgmoklifkojhaaLkSeal
import Derived.Lib.AppendZeros
namespace Go.Proofs.Ytkgmoklifkojhaa
open Go.RowKit
theorem zeroCells_size (n : Nat) : (Builtin.zeroCells (Value.int .u8 0).cells n).size = n := by
  simp [Builtin.zeroCells, Value.cells]
set_option maxHeartbeats 1000000 in
set_option maxRecDepth 100000 in
theorem grow_any (n : Nat) (w : World) (hn : n ≤ 1000000000000) :
    Calls Try.prog 51 #[.slice none 0 0, .int .i64 n] w fun e w' => ∃ A c, e = .returned (.slice A 0 c) ∧ w'.ownsRow w.heap.size 5 1 (.slice A 0 c) 0 [] ∧ Below w.heap.size w w' := by
  obtain ⟨i0, hi, hz0, hz1, hz2⟩ := info_parts winfo_u8
  rcases Nat.eq_zero_or_pos n with h0 | h0
  · subst h0
    go_enter Try.func51, Try.ntmps51
    go_wp2_with fail
    go_ret
    exact ⟨none, 0, rfl, World.ownsRow_nil _ _ _ _, Below.refl _ _⟩
  · have hrun := Lib.run_append_nil_zeros (P := Try.prog) w 33 3 33 5 i0 (.int .u8 0) .i64 .i64 Try.underlying33 Try.underlying3 hi hz0 n h0 (by rw [hz1]; decide) (by omega) (by rw [hz2]; omega)
    have hge := grownCap_ge w n 0 5
    have hle := grownCap_le_maxLen w n 0 5 (by simp only [maxLen]; omega)
    generalize grownCap w n 0 5 = c at *
    obtain ⟨w1, hw1⟩ : ∃ w1, w1 = w.drew.alloc (.cells (Builtin.zeroCells (Value.int .u8 0).cells n ++ Builtin.zeroCells (Value.int .u8 0).cells (c - n)) 5) := ⟨_, rfl⟩
    rw [← hw1] at hrun
    have hc64 : c ≤ 9223372036854775807 := by unfold maxLen at hle; omega
    have HB : Hid (Below w.heap.size w w1) := Lib.hid (by rw [hw1]; exact (Ext.refl w).drew.alloc _)
    have HO : Hid (w1.ownsRow w.heap.size 5 1 (.slice (some ⟨w.heap.size, 0, none⟩) 0 c) 0 []) := Lib.hid (by
      rw [hw1]
      refine ⟨rfl, Or.inr ⟨w.heap.size, c, _, rfl, Nat.le_refl _, heap_alloc_new w.drew _, Nat.zero_le _, hle, ?_, rfl⟩⟩
      simp only [Array.size_append, zeroCells_size]
      omega)
    clear hw1 hle
    go_enter Try.func51, Try.ntmps51
    go_wp2_with (at_builtin; refine Lib.wpList_append_run w rfl (.tmp 20) (.tmp 21) 33 3 rfl (.slice none 0 0) (.int .i64 n) rfl rfl _ _ hrun ?_)
    go_ret
    exact ⟨_, _, rfl, HO.out, HB.out⟩
/-- The slices of a slice of byte slices. -/
def RdLs (w : World) (B g o : Nat) (ls : List (List Int)) : Prop := ∀ j, j < ls.length → ∃ A c, w.cell? ⟨g, o + j, none⟩ = some (.slice A (ls.getD j []).length c) ∧ Rd w B A (ls.getD j []).length (u8s (ls.getD j []))
def flatTo (ls : List (List Int)) (t : Nat) : List Int := (ls.take t).flatten
theorem flatTo_succ (ls : List (List Int)) (t : Nat) (h : t < ls.length) : flatTo ls (t + 1) = flatTo ls t ++ ls.getD t [] := by
  have : ls[t]? = some (ls.getD t []) := by simp [List.getD_eq_getElem?_getD, List.getElem?_eq_getElem h]
  unfold flatTo
  rw [List.take_add_one, this]
  simp
theorem flatTo_le (ls : List (List Int)) (t : Nat) : (flatTo ls t).length ≤ ls.flatten.length := by
  unfold flatTo
  conv => rhs; rw [← List.take_append_drop t ls, List.flatten_append, List.length_append]
  omega
set_option maxHeartbeats 4000000 in
set_option maxRecDepth 100000 in
theorem concat_any (ls : List (List Int)) (g o k c : Nat) (w : World) (hR : RdLs w w.heap.size g o ls) (hg : g < w.heap.size) (hk : ls.length = k) (hkc : k ≤ 1000000) (hlen : ls.flatten.length ≤ 100000000000) :
    Calls Try.prog 42 #[.slice (some ⟨g, o, none⟩) k c] w fun e w' => (∃ A' c', e = .returned (.slice A' ls.flatten.length c') ∧ w'.ownsRow w.heap.size 5 1 (.slice A' ls.flatten.length c') ls.flatten.length (u8s ls.flatten)) ∧ Below w.heap.size w w' := by
  obtain ⟨i0, hi, hz0, hz1, hz2⟩ := info_parts winfo_u8
  have HR := Lib.hid hR; have HK := Lib.hid hk
  have HLE : Hid (∀ t, (flatTo ls t).length ≤ 100000000000) := Lib.hid (fun t => Nat.le_trans (flatTo_le ls t) hlen)
  have HF : Hid (flatTo ls k = ls.flatten) := Lib.hid (by unfold flatTo; rw [List.take_of_length_le (by omega)])
  have H0 : Hid (flatTo ls 0 = []) := Lib.hid rfl
  clear hR hk hlen
  go_enter Try.func42, Try.ntmps42
  go_wp2_with fail
  go_loopw [3, 11] (fun s i wr => ∃ t : Nat, t ≤ k ∧ i = .int .i64 t ∧ s = .int .i64 (flatTo ls t).length ∧ wr = w) (fun _ i _ => k - (intOf i).toNat)
  case atStart => exact ⟨0, Nat.zero_le _, rfl, by rw [H0.out]; rfl, rfl⟩
  case round =>
    obtain ⟨t, ht, rfl, rfl, hw⟩ := hrel
    subst hw
    have hbt := HLE.out t
    by_cases hlt : t < k
    · obtain ⟨A, cc, hc, hr⟩ := HR.out t (by rw [HK.out]; exact hlt)
      have hS := flatTo_succ ls t (by rw [HK.out]; exact hlt)
      have hb2 := HLE.out (t + 1)
      rw [hS, List.length_append] at hb2
      have HS : Hid ((flatTo ls (t + 1)).length = (flatTo ls t).length + (ls.getD t []).length) := Lib.hid (by rw [hS, List.length_append])
      clear hS
      generalize (flatTo ls t).length = x at *
      generalize (ls.getD t []).length = y at *
      go_wp2_with fail
      go_roundw
      case rel => exact ⟨t + 1, by omega, by go_num, by rw [HS.out]; go_num, trivial⟩
      case measure => simp [intOf]; omega
    · obtain rfl : t = k := by omega
      rw [HF.out] at hbt ⊢
      obtain ⟨N, hN⟩ : ∃ N, N = ls.flatten.length := ⟨_, rfl⟩
      rw [← hN] at hbt ⊢
      have HN := Lib.hid hN
      clear hN
      go_wp2_with (go_at_call 51; (with_reducible refine (grow_any N wr (by omega)).mono ?_); rintro e w1 ⟨A1, c1, rfl, hown1, hB1⟩)
      have HO1 := Lib.hid hown1; have HB1 := Lib.hid hB1
      clear hown1 hB1
      obtain ⟨w, rfl⟩ : ∃ x : World, x = wr := ⟨_, rfl⟩
      go_loopw [6, 27] (fun s i wr => ∃ (q : Nat) (A : Option Addr) (c m : Nat), q ≤ t ∧ i = .int .i64 q ∧ s = .slice A m c ∧ m = (flatTo ls q).length ∧ wr.ownsRow w.heap.size 5 1 (.slice A m c) m (u8s (flatTo ls q)) ∧ Below w.heap.size w wr) (fun _ i _ => t - (intOf i).toNat)
      case atStart => exact ⟨0, A1, c1, 0, Nat.zero_le _, rfl, rfl, by rw [H0.out]; rfl, by rw [H0.out]; exact HO1.out, HB1.out⟩
      case round =>
        clear HO1 HB1
        obtain ⟨q, A2, c2, m, hq, rfl, rfl, hm, hown, hB⟩ := hrel
        have hs := hB.size
        by_cases hlt2 : q < t
        · obtain ⟨A, cc, hc, hr⟩ := HR.out q (by rw [HK.out]; exact hlt2)
          have hc2 := (hB.cell (p := ⟨g, o + q, none⟩) hg).trans hc
          have hr2 := Lib.hid (RdN.of_Rd (hr.below hB))
          have hS := flatTo_succ ls q (by rw [HK.out]; exact hlt2)
          have hsz := HLE.out (q + 1)
          rw [hS, List.length_append] at hsz
          have hm2 : m + (ls.getD q []).length ≤ 100000000000 := by rw [hm]; exact hsz
          have HS := Lib.hid hS; have HM := Lib.hid hm; have HOW := Lib.hid hown
          clear hc hr hS hsz hm hown
          generalize ls.getD q [] = y at *
          obtain ⟨ky, hky⟩ : ∃ ky, ky = y.length := ⟨_, rfl⟩
          rw [← hky] at hc2 hr2 hm2
          have HKY := Lib.hid hky
          clear hky
          go_wp2_with (at_builtin; refine wpList_app rfl (.tmp 31) (.tmp 32) 33 rfl w.heap.size 5 i0 (.int .u8 0) 1 1 Try.underlying33 hi hz0 hz1 hz2 rfl (by omega) A2 m c2 _ rfl HOW.out w.heap.size A ky cc _ rfl hr2.out (u8s_one _) (by simp only [maxLen]; omega) (by omega) hs ?_; intro A4 c4 w4 hown4 hg4; have hb4 := below_app hB hg4 HOW.out (Nat.le_refl _) hs)
          go_roundw
          case rel => exact ⟨q + 1, A4, c4, _, by omega, by go_num, rfl, by rw [HS.out, List.length_append, HM.out, HKY.out], by rw [HS.out, u8s_append]; exact hown4, hb4⟩
          case measure => simp [intOf]; omega
        · obtain rfl : q = t := by omega
          have HM := Lib.hid hm
          clear hm
          go_wp2_with fail
          go_ret
          rw [HM.out, HF.out] at hown
          exact ⟨⟨A2, c2, by rw [HM.out, HF.out]; rfl, hown⟩, hB⟩
end Go.Proofs.Ytkgmoklifkojhaa
