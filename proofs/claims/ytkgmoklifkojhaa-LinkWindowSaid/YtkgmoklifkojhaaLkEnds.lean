/- splicerylaw31.ends: two new ends in a slice. Condition: the key is a uint64. -/
import Derived.Test.YtkgmoklifkojhaaLkK
set_option linter.unusedSimpArgs false
set_option linter.unusedVariables false
namespace Go.Proofs.Ytkgmoklifkojhaa
open Go.RowKit
def winE (window : Int) : Nat → Int
  | 0 => 1 + aroundI window 16
  | _ => 1 + aroundI (window.tdiv 16) 16
theorem winE_bd (window : Int) (k : Nat) : 1 ≤ winE window k ∧ winE window k ≤ 16 := by
  have h1 := aroundI_bd window 16 (by decide)
  have h2 := aroundI_bd (window.tdiv 16) 16 (by decide)
  rcases k with _ | k
  · show 1 ≤ 1 + aroundI window 16 ∧ 1 + aroundI window 16 ≤ 16; omega
  · show 1 ≤ 1 + aroundI (window.tdiv 16) 16 ∧ 1 + aroundI (window.tdiv 16) 16 ≤ 16; omega
theorem tdiv16 {x : Int} (h : in64 x) : in64 (x.tdiv 16) := by
  obtain ⟨h1, h2⟩ := h
  unfold in64
  rcases Int.le_total 0 x with h | h
  · rw [Int.tdiv_eq_ediv_of_nonneg h]; omega
  · have e : x.tdiv 16 = -((-x).tdiv 16) := by rw [Int.neg_tdiv]; omega
    rw [e, Int.tdiv_eq_ediv_of_nonneg (by omega)]; omega
def ptrC (P : Nat → Nat) : List Value := [.pointer (some ⟨P 0, 0, none⟩), .pointer (some ⟨P 1, 0, none⟩)]
theorem LawSt.cong {w0 w : World} {P : Nat → Nat} {E E' : Nat → EndS} {I : LawI} (S : LawSt w0 P E I w) (h0 : E 0 = E' 0) (h1 : E 1 = E' 1) : LawSt w0 P E' I w := by
  unfold LawSt at S ⊢
  rw [← h0, ← h1]
  exact S
set_option maxHeartbeats 4000000 in
set_option maxRecDepth 100000 in
theorem ends_any (window key : Int) (w : World) (hw : in64 window) (k0 : 0 ≤ key) (k1 : key ≤ 18446744073709551615) :
    Calls Try.prog 9 #[.int .i64 window, .int .u64 key] w fun e w' => ∃ ge P, e = .returned (.slice (some ⟨ge, 0, none⟩) 2 2) ∧ LawSt w P (fun k => newE (winE window k) key) (fun L Mu w => Cel L Mu w ge (ptrC P)) w' := by
  have HW := Lib.hid hw
  have HW2 : Hid (in64 (window.tdiv 16)) := Lib.hid (tdiv16 hw)
  obtain ⟨w1, w2⟩ := hw
  obtain ⟨a0, a1⟩ := aroundI_bd window 16 (by decide)
  obtain ⟨b0, b1⟩ := aroundI_bd (window.tdiv 16) 16 (by decide)
  obtain ⟨a, ha⟩ : ∃ a, a = aroundI window 16 := ⟨_, rfl⟩
  obtain ⟨b, hb⟩ : ∃ b, b = aroundI (window.tdiv 16) 16 := ⟨_, rfl⟩
  have HA := Lib.hid ha; have HB := Lib.hid hb
  rw [← ha] at a0 a1
  rw [← hb] at b0 b1
  have HN := Lib.hid (st_made w (1 + a) (1 + b) key (by omega) (by omega) (by omega) (by omega) k0 k1)
  clear ha hb
  go_enter Try.func9, Try.ntmps9
  go_upto_region 2 with (go_loud (first
    | (go_at_call 10; (with_reducible refine (around_w window 16 w HW.out (by decide) (by decide)).mono ?_); rintro e w3 ⟨rfl, rfl⟩; rw [← HA.out])
    | (go_at_call 28; (with_reducible refine HN.out.mono ?_); rintro e w4 ⟨pa, rfl, hE4, hN4⟩; have HN4 := Lib.hid (hN4 w4 (Ext.refl w4)); clear hE4 hN4)))
  go_upto_region 3 with (go_loud (first
    | (go_at_call 10; (with_reducible refine (around_w (window.tdiv 16) 16 w4 HW2.out (by decide) (by decide)).mono ?_); rintro e w3 ⟨rfl, rfl⟩; rw [← HB.out])
    | (go_at_call 28; (with_reducible refine HN4.out.mono ?_); rintro e w5 ⟨pb, rfl, M5, hS⟩; have S5 := Lib.hid hS; clear hS)))
  go_wp2_with fail
  go_ret
  refine ⟨w5.heap.size, fun | 0 => pa | _ => pb, rfl, ?_⟩
  have S6 : LawSt w (fun | 0 => pa | _ => pb) (fun k => newE (winE window k) key) (fun _ _ _ => True) w5 := ⟨M5, fun _ => False, by
    have := S5.out
    rw [HA.out, HB.out] at this
    exact this, trivial⟩
  refine S6.ext (fun _ _ _ _ _ _ _ _ => trivial) (fun _ => False) ((Ext.refl w5).alloc _) (fun L Mu h _ => ⟨(h _ (Nat.le_refl _) (by simp only [World.size_alloc]; omega)).1, (h _ (Nat.le_refl _) (by simp only [World.size_alloc]; omega)).2.2 id, by simp only [World.size_alloc]; omega, fun j u hj => ?_⟩)
  exact (Blk.fresh w5 35 (ptrC fun | 0 => pa | _ => pb)).cell j |>.trans hj
end Go.Proofs.Ytkgmoklifkojhaa
