/- slices.SortFunc at at most 12 reviews. Conditions: the row is a block of its own. -/
import Derived.Test.YtjeecfjeooehhaaGreatDoorRvT
set_option linter.unusedSimpArgs false
set_option linter.unusedVariables false
namespace Go.Proofs.YtjeecfjeooehhaaGreatDoor
open Go.RowKit
set_option maxHeartbeats 4000000 in
set_option maxRecDepth 100000 in
theorem len64_any (x : Int) (w : World) (h0 : 0 ≤ x) (h1 : x < 256) :
    Calls Tryz.prog 159 #[.int .u64 x] w fun e w' => (∃ k, e = .returned (.int .i64 k)) ∧ w = w' := by
  go_enter Tryz.func159, Tryz.ntmps159
  go_wp2_with fail
  go_ret
  exact ⟨⟨_, rfl⟩, rfl⟩
theorem len_any (x : Int) (w : World) (h0 : 0 ≤ x) (h1 : x < 256) :
    Calls Tryz.prog 126 #[.int .u64 x] w fun e w' => (∃ k, e = .returned (.int .i64 k)) ∧ w = w' := by
  go_enter Tryz.func126, Tryz.ntmps126
  go_wp2_with (go_at_call 159; (with_reducible refine (len64_any x _ h0 h1).mono ?_); rintro e w2 ⟨⟨k, rfl⟩, rfl⟩)
  go_ret
  exact ⟨⟨_, rfl⟩, rfl⟩
set_option maxHeartbeats 4000000 in
theorem pdq_any (L0 : List RX) (tl : List Value) (g n c : Nat) (lim : Int) (w : World) (hB : Blk w g 28 (rxsC L0 ++ tl)) (hL : ∀ x ∈ L0, (rxC x).length = 22) (hn : L0.length = n) (hn9 : n ≤ 12) :
    Calls Tryz.prog 125 #[.slice (some ⟨g, 0, none⟩) n c, .int .i64 0, .int .i64 (n : Int), .int .i64 lim, .func (.func 88) #[] #[]] w fun e w' => e = .returned (.tuple #[]) ∧ ∃ L', L'.Perm L0 ∧ SortK L' ∧ Blk w' g 28 (rxsC L' ++ tl) ∧ Kept (fun b => b = g) w w' := by
  have HI := Lib.hid (isort_any L0 tl g n c w hB hL hn (by omega))
  clear hB hL hn
  have h12 : decide ((n : Int) ≤ 12) = true := decide_eq_true (by omega)
  go_enter Tryz.func125, Tryz.ntmps125
  go_wp2_with fail
  go_loopw [1, 2] (fun a b wr => a = .int .i64 0 ∧ b = .int .i64 (n : Int) ∧ wr = w) (fun _ _ _ => 0)
  case atStart => exact ⟨rfl, rfl, rfl⟩
  case round =>
    obtain ⟨rfl, rfl, rfl⟩ := hrel
    go_wp2_with (go_at_call 150; (with_reducible refine HI.out.mono ?_); rintro e w2 ⟨rfl, hx⟩)
    refine bodyPost_ret (results_none rfl _ _ _) rfl ?_
    exact ⟨rfl, hx⟩
set_option maxHeartbeats 4000000 in
theorem sortR_any (L0 : List RX) (tl : List Value) (g n c : Nat) (w : World) (hB : Blk w g 28 (rxsC L0 ++ tl)) (hL : ∀ x ∈ L0, (rxC x).length = 22) (hn : L0.length = n) (hn9 : n ≤ 12) :
    Calls Tryz.prog 87 #[.slice (some ⟨g, 0, none⟩) n c, .func (.func 88) #[] #[]] w fun e w' => e = .returned (.tuple #[]) ∧ ∃ L', L'.Perm L0 ∧ SortK L' ∧ Blk w' g 28 (rxsC L' ++ tl) ∧ Kept (fun b => b = g) w w' := by
  have HP := Lib.hid (fun lim => pdq_any L0 tl g n c lim w hB hL hn hn9)
  have HLN := Lib.hid (len_any (n : Int) w (by omega) (by omega))
  clear hB hL hn
  have hw : IntKind.u64.wrap (n : Int) = n := by simp [IntKind.wrap, IntKind.bits, IntKind.signed]; omega
  go_enter Tryz.func87, Tryz.ntmps87
  go_wp2_with (first
    | (go_at_call 126; (with_reducible refine HLN.out.mono ?_); rintro e w2 ⟨⟨k, rfl⟩, rfl⟩)
    | (go_at_call 125; (with_reducible refine (HP.out _).mono ?_); rintro e w2 ⟨rfl, hx⟩))
  go_end0
  exact ⟨rfl, hx⟩
end Go.Proofs.YtjeecfjeooehhaaGreatDoor
