/- What ReviewEncodes has at hand: a changed review's numbers, beginnings of bytes and of strings. No condition but sizes. -/
import Derived.Test.YtjeecfjeooehhaaGreatDoorRvO
import Derived.Test.YtjeecfjeooehhaaGreatDoorRvY
import Derived.Test.YtjeecfjeooehhaaGreatDoorRvF
set_option linter.unusedSimpArgs false
set_option linter.unusedVariables false
namespace Go.Proofs.YtjeecfjeooehhaaGreatDoor
open Go.RowKit
attribute [local go_sem ↓] wp_at_zero wp_at_succ
theorem opsI_app (L M : List Rid) : opsI (L ++ M) = opsI L ++ opsI M := by unfold opsI; rw [List.flatMap_append]
theorem spId_w (b : Int) : ∀ x ∈ opI (spId b), -9223372036854775808 ≤ x ∧ x ≤ 9223372036854775807 := by
  intro x hx
  have h1 := aroI_bd b 10 (by decide); have h2 := aroI_bd (b.tdiv 3) 19 (by decide); have h3 := aroI_bd (b.tdiv 5) 35 (by decide)
  unfold opI spId at hx
  simp only [List.mem_cons, List.not_mem_nil, or_false] at hx
  rcases hx with rfl | rfl | rfl <;> omega
theorem manyR_w (k : Nat) (hk : k ≤ 1000) : ∀ x ∈ opsI (manyR k), -9223372036854775808 ≤ x ∧ x ≤ 9223372036854775807 := by
  intro x hx
  unfold opsI manyR at hx
  obtain ⟨y, hy, hxy⟩ := List.mem_flatMap.1 hx
  obtain ⟨i, hi, rfl⟩ := List.mem_map.1 hy
  have hi' := List.mem_range.1 hi
  unfold opI at hxy
  simp only [List.mem_cons, List.not_mem_nil, or_false] at hxy
  rcases hxy with rfl | rfl | rfl <;> omega
theorem spDay_i (b : Int) (hb : i64 b) : i64 (spDay b) := by
  have h := aroI_bd b 5 (by decide)
  unfold spDay
  obtain ⟨k, hk⟩ : ∃ k, k = (aroI b 5).toNat := ⟨_, rfl⟩
  rw [← hk]
  rcases (by omega : k = 0 ∨ k = 1 ∨ k = 2 ∨ k = 3 ∨ k = 4) with h | h | h | h | h <;> subst h
  · show i64 (0 : Int); exact ⟨by decide, by decide⟩
  · show i64 (1 : Int); exact ⟨by decide, by decide⟩
  · show i64 (1048576 : Int); exact ⟨by decide, by decide⟩
  · show i64 (1048577 : Int); exact ⟨by decide, by decide⟩
  · exact hb
theorem spLen_le (b : Int) : spLen b ≤ 1201 := by
  have h := aroI_bd b 4 (by decide)
  unfold spLen
  obtain ⟨k, hk⟩ : ∃ k, k = (aroI b 4).toNat := ⟨_, rfl⟩
  rw [← hk]
  rcases (by omega : k = 0 ∨ k = 1 ∨ k = 2 ∨ k = 3) with h | h | h | h <;> subst h <;> decide
theorem spoil_W {r : Rev} (how : Int) {b : Int} (h : RevW r) (hm : r.ops.length ≤ 500) (hb : i64 b) : RevW (spoil r how b) := by
  have h20 := aroI_bd b 20 (by decide)
  have h4 := aroI_bd b 4 (by decide)
  unfold spoil
  split
  · exact ⟨⟨by show _ ≤ aroI b 20 - 2; omega, by show aroI b 20 - 2 ≤ _; omega⟩, h.seq, h.day, h.ops, h.sls, h.many⟩
  · exact ⟨h.shop, ⟨by show _ ≤ aroI b 20 - 2; omega, by show aroI b 20 - 2 ≤ _; omega⟩, h.day, h.ops, h.sls, h.many⟩
  · exact ⟨h.shop, h.seq, spDay_i b hb, h.ops, h.sls, h.many⟩
  · exact ⟨h.shop, h.seq, h.day, fun x hx => (by cases hx), h.sls, Nat.zero_le _⟩
  · refine ⟨h.shop, h.seq, h.day, fun x hx => ?_, h.sls, by simp only [List.length_append, List.length_cons, List.length_nil]; omega⟩
    rw [opsI_app] at hx
    rcases List.mem_append.1 hx with hx | hx
    · exact h.ops x hx
    · exact spId_w b x (by simpa [opsI] using hx)
  · refine ⟨h.shop, h.seq, h.day, fun x hx => ?_, h.sls, by simp only [List.length_cons]; omega⟩
    have hx : x ∈ opI (spId b) ++ opsI r.ops := by simpa [opsI] using hx
    rcases List.mem_append.1 hx with hx | hx
    · exact spId_w b x hx
    · exact h.ops x hx
  · exact ⟨h.shop, h.seq, h.day, manyR_w _ (by omega), h.sls, by unfold manyR; simp only [List.length_map, List.length_range]; omega⟩
  · exact ⟨h.shop, h.seq, h.day, h.ops, h.sls, h.many⟩
  · exact ⟨h.shop, h.seq, h.day, h.ops, by have := spLen_le b; show (strOf (List.replicate (spLen b) 0)).size ≤ _; rw [strOf_size, List.length_replicate]; omega, h.many⟩
set_option maxHeartbeats 1000000 in
set_option maxRecDepth 100000 in
theorem fewR_any (l : List Int) (A : Option Addr) (n c m k : Nat) (w : World) (hl : Rd w w.heap.size A n (u8s l)) (hkn : k ≤ 100000000000) (hnc : n ≤ c) (hc : c ≤ 9223372036854775807) (hm : m ≤ 9223372036854775807) (hk : k = min n m) :
    Calls Tryz.prog 9 #[.slice A n c, .int .i64 m] w fun e w' => (∃ A' c', e = .returned (.slice A' k c') ∧ w'.ownsRow w.heap.size 5 1 (.slice A' k c') k (u8s (l.take k))) ∧ Ext w w' := by
  obtain ⟨i0, hi, hz0, hz1, hz2⟩ := info_parts winfo_u8
  have HL := Lib.hid hl
  have hRk : Hid (Rd w w.heap.size A k (u8s (l.take k))) := Lib.hid (rd_take hl (by omega))
  have hn : n ≤ 9223372036854775807 := by omega
  have hkc : k ≤ c := by omega
  clear hl
  rcases Nat.le_total n m with h | h
  · obtain rfl : k = n := by omega
    have h1 : (k : Int) ≤ m := by omega
    have h2 : ¬ (m : Int) < k := by omega
    clear hk
    go_enter Tryz.func9, Tryz.ntmps9
    go_wp2_with (at_builtin; refine wpList_app rfl (.tmp 6) (.tmp 12) 23 rfl w.heap.size 5 i0 (.int .u8 0) 1 1 Tryz.underlying23 hi hz0 hz1 hz2 rfl (by omega) none 0 0 [] rfl (World.ownsRow_nil _ _ _ _) w.heap.size A k c (u8s (l.take k)) rfl (RdN.of_Rd hRk.out) (u8s_one _) (by simp only [maxLen]; omega) (by omega) (Nat.le_refl _) ?_; rw [Nat.zero_add, List.nil_append]; intro A4 c4 w4 hown4 hg4)
    go_ret
    exact ⟨⟨A4, c4, rfl, hown4⟩, below_app (Ext.refl w) hg4 (World.ownsRow_nil _ w.heap.size 5 1) (Nat.le_refl _) (Nat.le_refl _)⟩
  · obtain rfl : k = m := by omega
    have h1 : (k : Int) ≤ n := by omega
    clear hk
    rcases Nat.lt_or_eq_of_le h with h2 | h2
    · have h3 : (k : Int) < n := by omega
      go_enter Tryz.func9, Tryz.ntmps9
      go_wp2_with (at_builtin; refine wpList_app rfl (.tmp 6) (.tmp 12) 23 rfl w.heap.size 5 i0 (.int .u8 0) 1 1 Tryz.underlying23 hi hz0 hz1 hz2 rfl (by omega) none 0 0 [] rfl (World.ownsRow_nil _ _ _ _) w.heap.size A k c (u8s (l.take k)) rfl (RdN.of_Rd hRk.out) (u8s_one _) (by simp only [maxLen]; omega) (by omega) (Nat.le_refl _) ?_; rw [Nat.zero_add, List.nil_append]; intro A4 c4 w4 hown4 hg4)
      go_ret
      exact ⟨⟨A4, c4, rfl, hown4⟩, below_app (Ext.refl w) hg4 (World.ownsRow_nil _ w.heap.size 5 1) (Nat.le_refl _) (Nat.le_refl _)⟩
    · subst h2
      go_enter Tryz.func9, Tryz.ntmps9
      go_wp2_with (at_builtin; refine wpList_app rfl (.tmp 6) (.tmp 12) 23 rfl w.heap.size 5 i0 (.int .u8 0) 1 1 Tryz.underlying23 hi hz0 hz1 hz2 rfl (by omega) none 0 0 [] rfl (World.ownsRow_nil _ _ _ _) w.heap.size A k c (u8s (l.take k)) rfl (RdN.of_Rd hRk.out) (u8s_one _) (by simp only [maxLen]; omega) (by omega) (Nat.le_refl _) ?_; rw [Nat.zero_add, List.nil_append]; intro A4 c4 w4 hown4 hg4)
      go_ret
      exact ⟨⟨A4, c4, rfl, hown4⟩, below_app (Ext.refl w) hg4 (World.ownsRow_nil _ w.heap.size 5 1) (Nat.le_refl _) (Nat.le_refl _)⟩
set_option maxRecDepth 100000 in
theorem short_any (s : ByteArray) (w : World) (hs : s.size ≤ 9223372036854775807) : Calls Tryz.prog 7 #[.string s, .int .i64 20] w fun e w' => (∃ t : ByteArray, e = .returned (.string t) ∧ t.size ≤ 20) ∧ w = w' := by
  by_cases h : s.size ≤ 20
  · have h1 : ¬ (20 : Int) < (s.size : Int) := by omega
    go_enter Tryz.func7, Tryz.ntmps7
    go_wp2_with fail
    go_ret
    exact ⟨⟨s, rfl, h⟩, rfl⟩
  · have h1 : (20 : Int) < (s.size : Int) := by omega
    go_enter Tryz.func7, Tryz.ntmps7
    go_wp2_with fail
    go_ret
    refine ⟨⟨_, rfl, ?_⟩, rfl⟩
    simp [ByteArray.size_extract]
    omega
theorem ext_kept {F : Nat → Prop} {w0 w w' : World} (e : Ext w0 w) (hk : Kept F w w') (hF : ∀ b, F b → w0.heap.size ≤ b) : Ext w0 w' :=
  ((Kept.of_ext (F := fun _ => False) e).next hk (fun b hb hf => by have := hF b hf; omega)).ext (fun _ h => h.elim)
theorem Ext.setOwn {w w' : World} (h : Ext w w') {g : Nat} (hg : w.heap.size ≤ g) (j : Nat) (v : Value) : Ext w (w'.setCell ⟨g, j, none⟩ v) :=
  ext_kept h (Kept.setCell (F := fun b => b = g) (p := ⟨g, j, none⟩) w' rfl v) (fun b hb => by rw [hb]; exact hg)
theorem own_set {w : World} {b : Nat} {g n c : Nat} {X : List Int} (ho : w.ownsRow b 5 1 (.slice (some ⟨g, 0, none⟩) n c) n (u8s X)) (j : Nat) (v : Int) : (w.setCell ⟨g, j, none⟩ (.int .u8 v)).ownsRow b 5 1 (.slice (some ⟨g, 0, none⟩) n c) n (u8s (X.set j v)) := by
  have := (ho.stored j (.int .u8 v)).1
  simpa [u8s, List.map_set] using this
theorem own_cell {w : World} {b : Nat} {g n c : Nat} {X : List Int} (ho : w.ownsRow b 5 1 (.slice (some ⟨g, 0, none⟩) n c) n (u8s X)) (j : Nat) (hj : j < n) : w.cell? ⟨g, j, none⟩ = some (.int .u8 (X.getD j 0)) ∧ w.frozen? ⟨g, j, none⟩ = false := by
  have hl : X.length = n := by simpa [u8s] using ho.1
  exact ⟨(ho.cellAt j (by omega)).trans (u8s_get X j (by omega)), ho.frozenAt j⟩
theorem byt_set {X : List Int} (h : Byt X) (j : Nat) {v : Int} (hv : 0 ≤ v ∧ v ≤ 255) : Byt (X.set j v) := fun x hx => (List.mem_or_eq_of_mem_set hx).elim (h x) (fun e => e ▸ hv)
end Go.Proofs.YtjeecfjeooehhaaGreatDoor
