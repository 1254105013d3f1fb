/- ref01.Around, ref01.Few. Conditions: sizes that fit the memory. -/
import Derived.Test.YtkgmoklifkojhaaLkLives
set_option linter.unusedSimpArgs false
set_option linter.unusedVariables false
namespace Go.Proofs.Ytkgmoklifkojhaa
open Go.RowKit
theorem rd_takeL {w : World} {B : Nat} {A : Option Addr} {n : Nat} {l : List Int} (h : Rd w B A n (u8s l)) {k : Nat} (hk : k ≤ n) : Rd w B A k (u8s (l.take k)) := by
  refine ⟨by have := h.1; simp [u8s] at this ⊢; omega, fun hk0 => ?_⟩
  obtain ⟨b, o, hA, hb, hc⟩ := h.2 (by omega)
  refine ⟨b, o, hA, hb, fun j u hj => hc j u ?_⟩
  unfold u8s at hj ⊢
  rw [List.getElem?_map, List.getElem?_take] at hj
  split at hj
  · rw [List.getElem?_map]; exact hj
  · simp at hj
def aroundI (x m : Int) : Int := (if x < 0 then -(x + 1) else x) % m
theorem aroundI_bd (x m : Int) (hm : 0 < m) : 0 ≤ aroundI x m ∧ aroundI x m < m := ⟨Int.emod_nonneg _ (by omega), Int.emod_lt_of_pos _ hm⟩
set_option maxRecDepth 100000 in
theorem around_any (x m : Int) (w : World) (hx : in64 x) (hm : 0 < m) (hm2 : m ≤ 9223372036854775807) :
    Calls Try.prog 10 #[.int .i64 x, .int .i64 m] w fun e w' => e = .returned (.int .i64 (aroundI x m)) ∧ w' = w := by
  obtain ⟨h1, h2⟩ := hx
  have hm0 : ¬ m = 0 := by omega
  by_cases hn : x < 0
  · go_enter Try.func10, Try.ntmps10
    go_wp2_with fail
    go_ret
    refine ⟨?_, rfl⟩
    have e : aroundI x m = -(x + 1).tmod m := by
      unfold aroundI
      rw [if_pos hn, ← Int.tmod_eq_emod_of_nonneg (by omega), Int.neg_tmod]
    rw [e]
    rfl
  · go_enter Try.func10, Try.ntmps10
    go_wp2_with fail
    go_ret
    refine ⟨?_, rfl⟩
    unfold aroundI
    rw [if_neg (by omega)]
    rfl
set_option maxHeartbeats 1000000 in
set_option maxRecDepth 100000 in
theorem few_any (l : List Int) (A : Option Addr) (n c m k : Nat) (w : World) (hl : Rd w w.heap.size A n (u8s l)) (hkn : k ≤ 100000000000) (hnc : n ≤ c) (hc : c ≤ 9223372036854775807) (hm : m ≤ 9223372036854775807) (hk : k = min n m) :
    Calls Try.prog 16 #[.slice A n c, .int .i64 m] w fun e w' => (∃ A' c', e = .returned (.slice A' k c') ∧ w'.ownsRow w.heap.size 5 1 (.slice A' k c') k (u8s (l.take k))) ∧ Ext w w' := by
  obtain ⟨i0, hi, hz0, hz1, hz2⟩ := info_parts winfo_u8
  have HL := Lib.hid hl
  have hRk : Hid (Rd w w.heap.size A k (u8s (l.take k))) := Lib.hid (rd_takeL hl (by omega))
  have hn : n ≤ 9223372036854775807 := by omega
  have hkc : k ≤ c := by omega
  clear hl
  rcases Nat.le_total n m with h | h
  · obtain rfl : k = n := by omega
    have h1 : (k : Int) ≤ m := by omega
    have h2 : ¬ (m : Int) < k := by omega
    clear hk
    go_enter Try.func16, Try.ntmps16
    go_wp2_with (at_builtin; refine wpList_app rfl (.tmp 6) (.tmp 12) 33 rfl w.heap.size 5 i0 (.int .u8 0) 1 1 Try.underlying33 hi hz0 hz1 hz2 rfl (by omega) none 0 0 [] rfl (World.ownsRow_nil _ _ _ _) w.heap.size A k c (u8s (l.take k)) rfl (RdN.of_Rd hRk.out) (u8s_one _) (by simp only [maxLen]; omega) (by omega) (Nat.le_refl _) ?_; rw [Nat.zero_add, List.nil_append]; intro A4 c4 w4 hown4 hg4)
    go_ret
    exact ⟨⟨A4, c4, rfl, hown4⟩, below_app (Ext.refl w) hg4 (World.ownsRow_nil _ w.heap.size 5 1) (Nat.le_refl _) (Nat.le_refl _)⟩
  · obtain rfl : k = m := by omega
    have h1 : (k : Int) ≤ n := by omega
    clear hk
    rcases Nat.lt_or_eq_of_le h with h2 | h2
    · have h3 : (k : Int) < n := by omega
      go_enter Try.func16, Try.ntmps16
      go_wp2_with (at_builtin; refine wpList_app rfl (.tmp 6) (.tmp 12) 33 rfl w.heap.size 5 i0 (.int .u8 0) 1 1 Try.underlying33 hi hz0 hz1 hz2 rfl (by omega) none 0 0 [] rfl (World.ownsRow_nil _ _ _ _) w.heap.size A k c (u8s (l.take k)) rfl (RdN.of_Rd hRk.out) (u8s_one _) (by simp only [maxLen]; omega) (by omega) (Nat.le_refl _) ?_; rw [Nat.zero_add, List.nil_append]; intro A4 c4 w4 hown4 hg4)
      go_ret
      exact ⟨⟨A4, c4, rfl, hown4⟩, below_app (Ext.refl w) hg4 (World.ownsRow_nil _ w.heap.size 5 1) (Nat.le_refl _) (Nat.le_refl _)⟩
    · subst h2
      go_enter Try.func16, Try.ntmps16
      go_wp2_with (at_builtin; refine wpList_app rfl (.tmp 6) (.tmp 12) 33 rfl w.heap.size 5 i0 (.int .u8 0) 1 1 Try.underlying33 hi hz0 hz1 hz2 rfl (by omega) none 0 0 [] rfl (World.ownsRow_nil _ _ _ _) w.heap.size A k c (u8s (l.take k)) rfl (RdN.of_Rd hRk.out) (u8s_one _) (by simp only [maxLen]; omega) (by omega) (Nat.le_refl _) ?_; rw [Nat.zero_add, List.nil_append]; intro A4 c4 w4 hown4 hg4)
      go_ret
      exact ⟨⟨A4, c4, rfl, hown4⟩, below_app (Ext.refl w) hg4 (World.ownsRow_nil _ w.heap.size 5 1) (Nat.le_refl _) (Nat.le_refl _)⟩
theorem few_int (l : List Int) (A : Option Addr) (n c : Nat) (m : Int) (M k : Nat) (w : World) (hl : Rd w w.heap.size A n (u8s l)) (hnc : n ≤ c) (hc : c ≤ 9223372036854775807) (hM : m = M) (hM2 : M ≤ 1000000000) (hk : k = min n M) (L : List Int) (hL : L = l.take k) :
    Calls Try.prog 16 #[.slice A n c, .int .i64 m] w fun e w' => (∃ A' c', e = .returned (.slice A' k c') ∧ (k ≤ c' ∧ c' ≤ 9223372036854775807) ∧ w'.ownsRow w.heap.size 5 1 (.slice A' k c') k (u8s L)) ∧ Ext w w' := by
  subst hM hL
  refine (few_any l A n c M k w hl (by omega) hnc hc (by omega) hk).mono ?_
  rintro e w' ⟨⟨A', c', h1, h2⟩, h3⟩
  exact ⟨⟨A', c', h1, slice_cap h2, h2⟩, h3⟩
end Go.Proofs.Ytkgmoklifkojhaa
