/- The walks of the reference's Bytes32 and Text, of Few and Joined. No condition. -/
import Derived.Test.YtheaniplpmkhlaaDoorRefB
namespace Go.Proofs.YtheaniplpmkhlaaDoor
open Go.RowKit
theorem take_u8s (l : List Int) (t : Nat) (h : t < l.length) : u8s (l.take t) ++ [.int .u8 (l.getD t 0)] = u8s (l.take (t + 1)) := by
  have : l[t]? = some (l.getD t 0) := by simp [List.getD_eq_getElem?_getD, List.getElem?_eq_getElem h]
  rw [List.take_add_one, this]
  simp only [u8s, List.map_append, Option.toList_some, List.map_cons, List.map_nil]
set_option maxHeartbeats 400000 in
set_option maxRecDepth 100000 in
theorem bytes32_any (l : List Int) (w : World) (hl : l.length = 32) :
    Calls Tryd.prog 20 #[.agg (u8s l).toArray] w fun e w' => e = .returned (.string (strOf l)) ∧ Below w.heap.size w w' := by
  obtain ⟨i0, hi, hz0, hz1, hz2⟩ := info_parts info_u8
  have HL := Lib.hid hl
  have H1 : Hid ((u8s l).toArray.size = 32) := Lib.hid (by simp [u8s, hl])
  clear hl
  go_enter Tryd.func20, Tryd.ntmps20
  go_wp2_with fail
  go_loopw [4, 3] (fun i s3 wr => ∃ (t : Nat) (A : Option Addr) (c : Nat), t ≤ 32 ∧ i = .int .i64 t ∧ s3 = .slice A t c ∧ wr.ownsRow (w.heap.size + 1) 5 1 (.slice A t c) t (u8s (l.take t)) ∧ Blk wr w.heap.size 24 (u8s l) ∧ Below w.heap.size w wr)
    (fun i _ _ => 32 - (intOf i).toNat)
  case atStart => exact ⟨0, none, 0, by omega, rfl, rfl, by simpa [u8s] using World.ownsRow_nil _ _ _ _, Blk.fresh _ _ _, (Below.refl _ _).alloc (Nat.le_refl _) _⟩
  case round =>
    obtain ⟨t, A, c, ht, rfl, rfl, hown, hb, hB⟩ := hrel
    have hs := hb.lt
    by_cases hlt : t < 32
    · have c0 := (hb.cell t).trans (u8s_get l t (by rw [HL.out]; exact hlt))
      have HT := Lib.hid (take_u8s l t (by rw [HL.out]; exact hlt))
      have HB := Lib.hid hb
      clear hb
      generalize l.getD t 0 = x at *
      go_wp2_with (at_builtin; refine wpList_app rfl (.tmp 9) (.tmp 13) 22 rfl (w.heap.size + 1) 5 i0 (.int .u8 0) 1 1 Tryd.underlying22 hi hz0 hz1 hz2 rfl (by omega) A t c _ rfl (hown.alloc _) (wr.heap.size + 1) _ 1 1 [.int .u8 x] rfl (RdN.fresh [.int .u8 x] _ _ 1 1 rfl rfl rfl) (one_u8 _) (by simp only [maxLen]; omega) (by omega) (by simp; omega) ?_; intro A4 c4 w4 hown4 hg4; have hb4 := below_app (hB.alloc (by omega) _) hg4 (hown.alloc _) (Nat.le_succ _) (by simp; omega))
      go_roundw
      case rel => exact ⟨t + 1, A4, c4, by omega, by go_num, rfl, by rw [← HT.out]; exact hown4, (HB.out.alloc _).grown hg4 (fun h => by have := (hown.lt _ h.symm).1; omega), hb4⟩
      case measure => simp [intOf]; omega
    · obtain rfl : t = 32 := by omega
      have ht2 : l.take 32 = l := List.take_of_length_le (by rw [HL.out]; omega)
      rw [ht2] at hown
      have hcv := run_toStr (P := Tryd.prog) Tryd.underlying22 Tryd.underlying5 Tryd.underlying9 (Rd.of_own hown) c (opt_cases A 32)
      clear ht2
      go_wp2_with fail
      go_ret
      exact ⟨rfl, hB⟩
set_option maxHeartbeats 400000 in
set_option maxRecDepth 100000 in
theorem text_any (l : List Int) (w : World) (hl : l.length = 16) :
    Calls Tryd.prog 26 #[.agg (u8s l).toArray] w fun e w' => e = .returned (.string (strOf l)) ∧ Below w.heap.size w w' := by
  obtain ⟨i0, hi, hz0, hz1, hz2⟩ := info_parts info_u8
  have HL := Lib.hid hl
  have H1 : Hid ((u8s l).toArray.size = 16) := Lib.hid (by simp [u8s, hl])
  clear hl
  go_enter Tryd.func26, Tryd.ntmps26
  go_wp2_with fail
  go_loopw [4, 3] (fun i s3 wr => ∃ (t : Nat) (A : Option Addr) (c : Nat), t ≤ 16 ∧ i = .int .i64 t ∧ s3 = .slice A t c ∧ wr.ownsRow (w.heap.size + 1) 5 1 (.slice A t c) t (u8s (l.take t)) ∧ Blk wr w.heap.size 44 (u8s l) ∧ Below w.heap.size w wr)
    (fun i _ _ => 16 - (intOf i).toNat)
  case atStart => exact ⟨0, none, 0, by omega, rfl, rfl, by simpa [u8s] using World.ownsRow_nil _ _ _ _, Blk.fresh _ _ _, (Below.refl _ _).alloc (Nat.le_refl _) _⟩
  case round =>
    obtain ⟨t, A, c, ht, rfl, rfl, hown, hb, hB⟩ := hrel
    have hs := hb.lt
    by_cases hlt : t < 16
    · have c0 := (hb.cell t).trans (u8s_get l t (by rw [HL.out]; exact hlt))
      have HT := Lib.hid (take_u8s l t (by rw [HL.out]; exact hlt))
      have HB := Lib.hid hb
      clear hb
      generalize l.getD t 0 = x at *
      go_wp2_with (at_builtin; refine wpList_app rfl (.tmp 9) (.tmp 13) 22 rfl (w.heap.size + 1) 5 i0 (.int .u8 0) 1 1 Tryd.underlying22 hi hz0 hz1 hz2 rfl (by omega) A t c _ rfl (hown.alloc _) (wr.heap.size + 1) _ 1 1 [.int .u8 x] rfl (RdN.fresh [.int .u8 x] _ _ 1 1 rfl rfl rfl) (one_u8 _) (by simp only [maxLen]; omega) (by omega) (by simp; omega) ?_; intro A4 c4 w4 hown4 hg4; have hb4 := below_app (hB.alloc (by omega) _) hg4 (hown.alloc _) (Nat.le_succ _) (by simp; omega))
      go_roundw
      case rel => exact ⟨t + 1, A4, c4, by omega, by go_num, rfl, by rw [← HT.out]; exact hown4, (HB.out.alloc _).grown hg4 (fun h => by have := (hown.lt _ h.symm).1; omega), hb4⟩
      case measure => simp [intOf]; omega
    · obtain rfl : t = 16 := by omega
      have ht2 : l.take 16 = l := List.take_of_length_le (by rw [HL.out]; omega)
      rw [ht2] at hown
      have hcv := run_toStr (P := Tryd.prog) Tryd.underlying22 Tryd.underlying5 Tryd.underlying9 (Rd.of_own hown) c (opt_cases A 16)
      clear ht2
      go_wp2_with fail
      go_ret
      exact ⟨rfl, hB⟩
def strs (l : List ByteArray) : List Value := l.map Value.string
theorem strs_get (l : List ByteArray) (j : Nat) (h : j < l.length) : (strs l)[j]? = some (.string (l.getD j ByteArray.empty)) := by
  simp [strs, List.getElem?_map, List.getD_eq_getElem?_getD, List.getElem?_eq_getElem h]
/-- At most 12 strings of at most 400 bytes. -/
def fewB (l : List ByteArray) : Bool := decide (l.length ≤ 12) && l.all fun s => decide (s.size ≤ 400)
theorem fewB_iff (l : List ByteArray) : fewB l = true ↔ l.length ≤ 12 ∧ ∀ s ∈ l, s.size ≤ 400 := by simp [fewB]
set_option maxHeartbeats 400000 in
theorem few_any (l : List ByteArray) (A : Option Addr) (n c : Nat) (w : World) (hl : Rd w w.heap.size A n (strs l)) (hn : n ≤ 9223372036854775807) :
    Calls Tryd.prog 13 #[.slice A n c] w fun e w' => e = .returned (.bool (fewB l)) ∧ w = w' := by
  have hlen : l.length = n := by simpa [strs] using hl.1
  by_cases h12 : n ≤ 12
  · have HF : Hid (∀ t, t ≤ n → (∀ j, j < t → (l.getD j ByteArray.empty).size ≤ 400) → t = n → fewB l = true) := Lib.hid (by
      intro t _ h ht
      rw [fewB_iff]
      refine ⟨by omega, fun s hs => ?_⟩
      obtain ⟨j, hj, rfl⟩ := List.getElem_of_mem hs
      have := h j (by omega)
      simpa [List.getD_eq_getElem?_getD, List.getElem?_eq_getElem hj] using this)
    have HG : Hid (∀ t, t < n → 400 < (l.getD t ByteArray.empty).size → fewB l = false) := Lib.hid (by
      intro t ht h
      rw [Bool.eq_false_iff]
      intro hf
      have h2 := ((fewB_iff l).1 hf).2 (l.getD t ByteArray.empty) (by
        rw [List.getD_eq_getElem?_getD, List.getElem?_eq_getElem (by omega)]; exact List.getElem_mem _)
      omega)
    have HL := Lib.hid hl
    have HN := Lib.hid hlen
    clear hl hlen
    go_enter Tryd.func13, Tryd.ntmps13
    go_wp2_with fail
    go_loop [3] (fun i => ∃ t : Nat, t ≤ n ∧ i = .int .i64 t ∧ ∀ j, j < t → (l.getD j ByteArray.empty).size ≤ 400) (fun i => n - (intOf i).toNat)
    case atStart => exact ⟨0, Nat.zero_le _, rfl, fun j hj => by omega⟩
    case round =>
      obtain ⟨t, ht, rfl, hall⟩ := hrel
      have HA := Lib.hid hall
      clear hall
      by_cases hlt : t < n
      · obtain ⟨b, o, rfl, hb, hc⟩ := HL.out.2 (by omega)
        have c0 := hc t _ (strs_get l t (by rw [HN.out]; exact hlt))
        clear hc
        by_cases h4 : (l.getD t ByteArray.empty).size ≤ 400
        · have HA2 : Hid (∀ j, j < t + 1 → (l.getD j ByteArray.empty).size ≤ 400) := Lib.hid (fun j hj => by
            rcases Nat.lt_or_ge j t with h | h
            · exact HA.out j h
            · obtain rfl : j = t := by omega
              exact h4)
          generalize l.getD t ByteArray.empty = s at *
          go_wp2_with fail
          go_round
          case rel => exact ⟨t + 1, by omega, by go_num, HA2.out⟩
          case measure => simp [intOf]; omega
        · have HF2 := Lib.hid (HG.out t hlt (by omega))
          generalize l.getD t ByteArray.empty = s at *
          go_wp2_with fail
          go_ret
          exact ⟨by rw [HF2.out]; rfl, rfl⟩
      · obtain rfl : t = n := by omega
        have HF2 := Lib.hid (HF.out t (Nat.le_refl _) HA.out rfl)
        go_wp2_with fail
        go_ret
        exact ⟨by rw [HF2.out]; rfl, rfl⟩
  · have HF : Hid (fewB l = false) := Lib.hid (by
      rw [Bool.eq_false_iff]
      intro hf
      have := ((fewB_iff l).1 hf).1
      omega)
    clear hl hlen
    go_enter Tryd.func13, Tryd.ntmps13
    go_wp2_with fail
    go_ret
    exact ⟨by rw [HF.out]; rfl, rfl⟩
/-- Strings one behind the other. -/
def catS : List ByteArray → List Int
  | [] => []
  | s :: r => bys s ++ catS r
theorem catS_append (a b : List ByteArray) : catS (a ++ b) = catS a ++ catS b := by
  induction a with
  | nil => rfl
  | cons s r ih => simp [catS, ih]
theorem catS_take (l : List ByteArray) (t : Nat) (h : t < l.length) : catS (l.take (t + 1)) = catS (l.take t) ++ bys (l.getD t ByteArray.empty) := by
  have : l[t]? = some (l.getD t ByteArray.empty) := by simp [List.getD_eq_getElem?_getD, List.getElem?_eq_getElem h]
  rw [List.take_add_one, this, catS_append]
  simp [catS]
theorem catS_take_le (l : List ByteArray) (t : Nat) : (catS (l.take t)).length ≤ (catS l).length := by
  conv => rhs; rw [← List.take_append_drop t l, catS_append, List.length_append]
  omega
theorem catS_byt (l : List ByteArray) : Byt (catS l) := by
  induction l with
  | nil => exact Byt.nil
  | cons s r ih => exact (bys_byt s).app ih
set_option maxHeartbeats 400000 in
theorem joined_any (l : List ByteArray) (A : Option Addr) (n c : Nat) (w : World) (hl : Rd w w.heap.size A n (strs l)) (hn : n ≤ 9223372036854775807) (hcat : (catS l).length ≤ 1000000000000) :
    Calls Tryd.prog 16 #[.slice A n c] w fun e w' => e = .returned (.string (strOf (catS l))) ∧ w = w' := by
  have hlen : l.length = n := by simpa [strs] using hl.1
  have HL := Lib.hid hl
  have HN := Lib.hid hlen
  clear hl hlen
  go_enter Tryd.func16, Tryd.ntmps16
  go_wp2_with fail
  go_loop [4, 3] (fun i s3 => ∃ (t : Nat) (s : ByteArray), t ≤ n ∧ i = .int .i64 t ∧ s3 = .string s ∧ bys s = catS (l.take t)) (fun i _ => n - (intOf i).toNat)
  case atStart => exact ⟨0, _, Nat.zero_le _, rfl, rfl, rfl⟩
  case round =>
    obtain ⟨t, s, ht, rfl, rfl, hs⟩ := hrel
    have HS := Lib.hid hs
    clear hs
    by_cases hlt : t < n
    · obtain ⟨b, o, rfl, hb, hc⟩ := HL.out.2 (by omega)
      have c0 := hc t _ (strs_get l t (by rw [HN.out]; exact hlt))
      have HT := Lib.hid (catS_take l t (by rw [HN.out]; exact hlt))
      clear hc
      have hsz : s.size + (l.getD t ByteArray.empty).size ≤ 1000000000000 := by
        have h1 := catS_take_le l (t + 1)
        rw [HT.out, List.length_append, ← HS.out, bys_length, bys_length] at h1
        omega
      generalize l.getD t ByteArray.empty = s2 at *
      go_wp2_with fail
      go_round
      case rel => exact ⟨t + 1, _, by omega, by go_num, rfl, by rw [bys_append, HS.out, HT.out]⟩
      case measure => simp [intOf]; omega
    · obtain rfl : t = n := by omega
      have ht2 : l.take t = l := List.take_of_length_le (by rw [HN.out]; omega)
      have HE : Hid (s = strOf (catS l)) := Lib.hid (by rw [← strOf_bys s, HS.out, ht2])
      clear ht2
      go_wp2_with fail
      go_ret
      exact ⟨by rw [← HE.out]; rfl, rfl⟩
end Go.Proofs.YtheaniplpmkhlaaDoor
