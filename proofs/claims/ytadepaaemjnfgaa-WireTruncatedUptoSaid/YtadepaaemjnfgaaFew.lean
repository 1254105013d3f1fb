/- The walk of splicerylaw01.few. Condition: the lengths add up to at most 1048576. -/
import Derived.Test.YtadepaaemjnfgaaOpenS
namespace Go.Proofs.Ytadepaaemjnfgaa
open Go.RowKit
/-- The letters of the first t strings. -/
def lenTo (l : List ByteArray) (t : Nat) : Nat := lenS (l.take t)
theorem lenTo_succ : ∀ (l : List ByteArray) (t : Nat), t < l.length → lenTo l (t + 1) = lenTo l t + (l.getD t ByteArray.empty).size
  | [], _, h => by simp at h
  | s :: r, 0, _ => by simp [lenTo, lenS]
  | s :: r, t + 1, h => by
    have := lenTo_succ r t (by simpa using h)
    unfold lenTo at this ⊢
    simp only [List.take_succ_cons, lenS, List.getD_cons_succ] at this ⊢
    omega
theorem lenTo_le : ∀ (l : List ByteArray) (t : Nat), lenTo l t ≤ lenS l
  | [], _ => by simp [lenTo]
  | s :: r, 0 => by simp [lenTo, lenS]
  | s :: r, t + 1 => by
    have := lenTo_le r t
    unfold lenTo at this ⊢
    simp only [List.take_succ_cons, lenS]
    omega
set_option maxHeartbeats 400000 in
theorem wfew_any (l : List ByteArray) (A : Option Addr) (n c : Nat) (w : World) (hl : Rd w w.heap.size A n (l.map Value.string)) (hb : l.length + lenS l ≤ 1048576) :
    Calls Try.prog 11 #[.slice A n c] w fun e w' => e = .returned (.bool (decide (((l.length + lenS l : Nat) : Int) ≤ 2000))) ∧ w = w' := by
  have hlen : l.length = n := by simpa using hl.1
  have HL := Lib.hid hl
  have HN := Lib.hid hlen
  have HT := Lib.hid (fun t (ht : t < n) => lenTo_succ l t (by rw [HN.out]; exact ht))
  have HE : Hid (lenTo l n = lenS l) := Lib.hid (by unfold lenTo; rw [List.take_of_length_le (by omega)])
  have HB : Hid (∀ t, n + lenTo l t ≤ 1048576) := Lib.hid (fun t => by have := lenTo_le l t; omega)
  have hn : n ≤ 1048576 := by omega
  rw [hlen]
  clear hl hlen hb
  go_enter Try.func11, Try.ntmps11
  go_wp2_with fail
  go_loop [3, 10] (fun m i => ∃ t : Nat, t ≤ n ∧ i = .int .i64 t ∧ m = .int .i64 ((n + lenTo l t : Nat) : Int)) (fun _ i => n - (intOf i).toNat)
  case atStart => exact ⟨0, Nat.zero_le _, rfl, rfl⟩
  case round =>
    obtain ⟨t, ht, rfl, rfl⟩ := hrel
    have hbt := HB.out t
    by_cases hlt : t < n
    · obtain ⟨b, o, rfl, hb, hc⟩ := rd_vals ByteArray.empty HL.out (by omega)
      have c0 := hc t hlt
      have h1 := HT.out t hlt
      have h2 := HB.out (t + 1)
      clear hc
      have H1 := Lib.hid h1
      rw [h1] at h2
      clear h1
      generalize l.getD t ByteArray.empty = s at *
      obtain ⟨z, hz⟩ : ∃ z, z = lenTo l t := ⟨_, rfl⟩
      rw [← hz] at hbt h2 ⊢
      have HZ := Lib.hid hz
      clear hz
      go_wp2_with fail
      go_round
      case rel => exact ⟨t + 1, by omega, by go_num, by rw [H1.out, ← HZ.out]; go_num⟩
      case measure => simp [intOf]; omega
    · obtain rfl : t = n := by omega
      go_wp2_with fail
      go_ret
      exact ⟨by rw [← HE.out]; rfl, rfl⟩
end Go.Proofs.Ytadepaaemjnfgaa
