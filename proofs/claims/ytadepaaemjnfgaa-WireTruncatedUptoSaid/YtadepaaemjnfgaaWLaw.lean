/- What the laws about encodings share. No condition. -/
import Derived.Test.YtadepaaemjnfgaaLaw
import Derived.Test.YtadepaaemjnfgaaWSanB
import Derived.Deep.DeepHandedRow
namespace Go.Proofs.Ytadepaaemjnfgaa
open Go.RowKit Go.WideShapes Go.ChangeShapes
theorem own : ownKnob Try.prog.godebug = none := by kernel_rfl
theorem laidOut : laidOutB Try.prog = true := by kernel_rfl
theorem cellsu8 : Try.prog.cellsOf 5 = 1 := by kernel_rfl
theorem cellsint : Try.prog.cellsOf 3 = 1 := by kernel_rfl
theorem cellsstr : Try.prog.cellsOf 9 = 1 := by kernel_rfl
theorem byt_wf {l : List Int} (h : ∀ x ∈ l, (Lit.int .u8 x).wf = true) : Byt l := fun x hx => by
  have := h x hx
  simp [Lit.wf, IntKind.min, IntKind.max, IntKind.bits, IntKind.signed] at this
  omega
theorem wf_i64 {x : Int} (h : (Lit.int .i64 x).wf = true) : -9223372036854775808 ≤ x ∧ x ≤ 9223372036854775807 := by
  simp [Lit.wf, IntKind.min, IntKind.max, IntKind.bits, IntKind.signed] at h
  omega
theorem gintsR (l : List Int) (A0 : Option Addr) (n c : Nat) (w : World) (hl : Rd w w.heap.size A0 n (u8s l)) (hby : Byt l) (hnc : n ≤ c) (hc : c ≤ 9223372036854775807) (hn : n ≤ 1000000000000) (xs : List Int) (u er : Int) (hx : decList getI l = (xs, u, er)) :
    Calls Try.prog 28 #[.slice A0 n c] w fun e w' => (∃ A' c', e = .returned (.tuple #[.slice A' xs.length c', .int .i64 u, .int .i64 er]) ∧ (xs.length ≤ c' ∧ c' ≤ maxLen) ∧ Rd w' w'.heap.size A' xs.length (xs.map (Value.int .i64))) ∧ Ext w w' :=
  (gints_any l A0 n c w hl hby hnc hc hn).mono fun e w' h => by
    obtain ⟨⟨A, c, h, ho⟩, hB⟩ := h
    rw [hx] at h ho
    exact ⟨⟨A, c, h, slice_cap ho, Rd.of_own ho⟩, hB⟩
theorem rgintsR (l : List Int) (A0 : Option Addr) (n c : Nat) (w : World) (hl : Rd w w.heap.size A0 n (u8s l)) (hby : Byt l) (hnc : n ≤ c) (hc : c ≤ 9223372036854775807) (hn : n ≤ 1000000000000) (xs : List Int) (u er : Int) (hx : decList getI l = (xs, u, er)) :
    Calls Try.prog 29 #[.slice A0 n c] w fun e w' => (∃ A' c', e = .returned (.tuple #[.slice A' xs.length c', .int .i64 u, .int .i64 er]) ∧ (xs.length ≤ c' ∧ c' ≤ maxLen) ∧ Rd w' w'.heap.size A' xs.length (xs.map (Value.int .i64))) ∧ Ext w w' :=
  (rgints_any l A0 n c w hl hby hnc hc hn).mono fun e w' h => by
    obtain ⟨⟨A, c, h, ho⟩, hB⟩ := h
    rw [hx] at h ho
    exact ⟨⟨A, c, h, slice_cap ho, Rd.of_own ho⟩, hB⟩
theorem gstringsR (l : List Int) (A0 : Option Addr) (n c : Nat) (w : World) (hl : Rd w w.heap.size A0 n (u8s l)) (hby : Byt l) (hnc : n ≤ c) (hc : c ≤ 9223372036854775807) (hn : n ≤ 1000000000000) (xs : List ByteArray) (u er : Int) (hx : decList decS l = (xs, u, er)) :
    Calls Try.prog 31 #[.slice A0 n c] w fun e w' => (∃ A' c', e = .returned (.tuple #[.slice A' xs.length c', .int .i64 u, .int .i64 er]) ∧ (xs.length ≤ c' ∧ c' ≤ maxLen) ∧ Rd w' w'.heap.size A' xs.length (xs.map (Value.string))) ∧ Ext w w' :=
  (gstrings_any l A0 n c w hl hby hnc hc hn).mono fun e w' h => by
    obtain ⟨⟨A, c, h, ho⟩, hB⟩ := h
    rw [hx] at h ho
    exact ⟨⟨A, c, h, slice_cap ho, Rd.of_own ho⟩, hB⟩
theorem rgstringsR (l : List Int) (A0 : Option Addr) (n c : Nat) (w : World) (hl : Rd w w.heap.size A0 n (u8s l)) (hby : Byt l) (hnc : n ≤ c) (hc : c ≤ 9223372036854775807) (hn : n ≤ 1000000000000) (xs : List ByteArray) (u er : Int) (hx : decList decS l = (xs, u, er)) :
    Calls Try.prog 32 #[.slice A0 n c] w fun e w' => (∃ A' c', e = .returned (.tuple #[.slice A' xs.length c', .int .i64 u, .int .i64 er]) ∧ (xs.length ≤ c' ∧ c' ≤ maxLen) ∧ Rd w' w'.heap.size A' xs.length (xs.map (Value.string))) ∧ Ext w w' :=
  (rgstrings_any l A0 n c w hl hby hnc hc hn).mono fun e w' h => by
    obtain ⟨⟨A, c, h, ho⟩, hB⟩ := h
    rw [hx] at h ho
    exact ⟨⟨A, c, h, slice_cap ho, Rd.of_own ho⟩, hB⟩
theorem gdigR (l : List Int) (A0 : Option Addr) (n c : Nat) (w : World) (hl : Rd w w.heap.size A0 n (u8s l)) (hby : Byt l) (hnc : n ≤ c) (hc : c ≤ 9223372036854775807) (hn : n ≤ 1000000000000) (xs : List (List Int)) (u er : Int) (hx : decD l = (xs, u, er)) :
    Calls Try.prog 34 #[.slice A0 n c] w fun e w' => (∃ A' c', e = .returned (.tuple #[.slice A' xs.length c', .int .i64 u, .int .i64 er]) ∧ (xs.length ≤ c' ∧ c' ≤ maxLen) ∧ RdN w' w'.heap.size 16 A' xs.length (celD xs)) ∧ Ext w w' :=
  (gdigests_any l A0 n c w hl hby hnc hc hn).mono fun e w' h => by
    obtain ⟨⟨A, c, h, ho⟩, hB⟩ := h
    rw [hx] at h ho
    exact ⟨⟨A, c, h, slice_cap ho, RdN.of_own ho⟩, hB⟩
theorem rgdigR (l : List Int) (A0 : Option Addr) (n c : Nat) (w : World) (hl : Rd w w.heap.size A0 n (u8s l)) (hby : Byt l) (hnc : n ≤ c) (hc : c ≤ 9223372036854775807) (hn : n ≤ 1000000000000) (xs : List (List Int)) (u er : Int) (hx : decD l = (xs, u, er)) :
    Calls Try.prog 35 #[.slice A0 n c] w fun e w' => (∃ A' c', e = .returned (.tuple #[.slice A' xs.length c', .int .i64 u, .int .i64 er]) ∧ (xs.length ≤ c' ∧ c' ≤ maxLen) ∧ RdN w' w'.heap.size 16 A' xs.length (celD xs)) ∧ Ext w w' :=
  (rgdigests_any l A0 n c w hl hby hnc hc hn).mono fun e w' h => by
    obtain ⟨⟨A, c, h, ho⟩, hB⟩ := h
    rw [hx] at h ho
    exact ⟨⟨A, c, h, slice_cap ho, RdN.of_own ho⟩, hB⟩
theorem decMany_len {α : Type} (one : List Int → α × Int × Int) : ∀ (m : Nat) (l : List Int), (decMany one m l).2.1.length ≤ m
  | 0, _ => by simp [decMany]
  | m + 1, l => by
    unfold decMany
    split
    · simp
    · simp only [List.length_cons]
      have := decMany_len one m (l.drop (one l).2.1.toNat)
      omega
theorem decList_len {α : Type} (one : List Int → α × Int × Int) (l : List Int) (hb : Byt l) : (decList one l).1.length ≤ l.length := by
  unfold decList
  rcases cntI_cases l hb 1 (Nat.le_refl _) with ⟨er, hg, he⟩ | ⟨n, k, hg, _, _, hk, _, _⟩
  · rw [hg, if_pos (by rcases he with rfl | rfl <;> simp)]; simp
  · rw [hg]
    simp only [ne_eq, not_true_eq_false, if_false, Int.toNat_natCast]
    split
    · simp
    · have := decMany_len one n (l.drop k)
      simp only
      omega
theorem decD_dig (l : List Int) (hb : Byt l) : Dig16 (decD l).1 ∧ (decD l).1.length ≤ l.length := by
  unfold decD
  rcases cntI_cases l hb 16 (by decide) with ⟨er, hg, he⟩ | ⟨n, k, hg, _, _, hk, _, _⟩
  · rw [hg, if_pos (by rcases he with rfl | rfl <;> simp)]; exact ⟨Dig16.nil, by simp⟩
  · rw [hg]
    simp only [ne_eq, not_true_eq_false, if_false, Int.toNat_natCast]
    refine ⟨fun d hd => ?_, by rw [cutD_length]; omega⟩
    unfold cutD at hd
    obtain ⟨i, hi, rfl⟩ := List.mem_map.1 hd
    rw [List.mem_range] at hi
    exact ⟨by rw [List.length_take, List.length_drop, List.length_drop]; omega, ((hb.drop _).drop _).take _⟩
end Go.Proofs.Ytadepaaemjnfgaa
