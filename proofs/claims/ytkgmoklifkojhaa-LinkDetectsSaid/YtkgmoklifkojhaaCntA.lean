/- The walks of count and GetBytes, of the code and of the reference. No condition beyond a bound on the length. -/
import Derived.Test.YtkgmoklifkojhaaListSpec
import Derived.Test.YtkgmoklifkojhaaDecB
namespace Go.Proofs.Ytkgmoklifkojhaa
open Go.RowKit
set_option maxHeartbeats 1000000 in
set_option maxRecDepth 100000 in
theorem count_any (l : List Int) (A : Option Addr) (n c s : Nat) (w : World) (hl : Rd w w.heap.size A n (u8s l)) (hby : Byt l) (hnc : n ≤ c) (hc : c ≤ 9223372036854775807) (hs1 : 1 ≤ s) (hs2 : s ≤ 1000) :
    Calls Try.prog 52 #[.slice A n c, .int .i64 s] w fun e w' => (∃ a b : Int, e = .returned (.tuple #[.int .i64 a, .int .i64 b, .int .i64 (cntI l s).2.2]) ∧ ((cntI l s).2.2 = 0 → a = (cntI l s).1 ∧ b = (cntI l s).2.1)) ∧ w = w' := by
  have hlen : l.length = n := by simpa [u8s] using hl.1
  have HL := Lib.hid hl
  rcases getI_cases l hby with ⟨er, hg, he⟩ | ⟨v, k, hg, h1, h9, hk, hv0, hv1, henc⟩
  · have HG := Lib.hid hg
    have HC : Hid (cntI l s = (0, 0, er)) := Lib.hid (by unfold cntI; rw [hg, if_pos (by rcases he with rfl | rfl <;> simp)])
    have hne : ((er : Int) == 0) = false := by rcases he with rfl | rfl <;> rfl
    have hne2 : er ≠ 0 := by rcases he with rfl | rfl <;> decide
    clear hg hl hlen he
    go_enter Try.func52, Try.ntmps52
    go_wp2_with (go_at_call 56; (with_reducible refine (gint_any l A n c w HL.out hby hnc hc).mono ?_); rintro e w' ⟨rfl, rfl⟩; rw [HG.out]; unfold tup3)
    go_ret3
    exact ⟨⟨0, 0, by rw [HC.out]; rfl, by rw [HC.out]; intro _; exact ⟨rfl, rfl⟩⟩, rfl⟩
  · have HG := Lib.hid hg
    have HLEN := Lib.hid hlen
    have hkn : k ≤ n := by omega
    by_cases hneg : v < 0
    · have HC : Hid (cntI l s = (0, 0, 2)) := Lib.hid (by unfold cntI; rw [hg]; simp [hneg])
      clear hg hl hlen henc hk
      go_enter Try.func52, Try.ntmps52
      go_wp2_with (go_at_call 56; (with_reducible refine (gint_any l A n c w HL.out hby hnc hc).mono ?_); rintro e w' ⟨rfl, rfl⟩; rw [HG.out]; unfold tup3)
      go_ret3
      exact ⟨⟨v, k, by rw [HC.out]; rfl, by rw [HC.out]; intro h; cases h⟩, rfl⟩
    · have HC : Hid (cntI l s = if ((n : Int) - k) / s < v then (0, 0, 3) else (v, (k : Int), 0)) := Lib.hid (by unfold cntI; rw [hg, hlen]; simp [hneg])
      have hs0 : (1 : Int) ≤ (s : Int) := by omega
      by_cases hq : ((n : Int) - k) / s < v
      · have HC2 : Hid (cntI l s = (0, 0, 3)) := Lib.hid (by rw [HC.out, if_pos hq])
        clear hg hl hlen henc hk
        go_enter Try.func52, Try.ntmps52
        go_wp2_with (go_at_call 56; (with_reducible refine (gint_any l A n c w HL.out hby hnc hc).mono ?_); rintro e w' ⟨rfl, rfl⟩; rw [HG.out]; unfold tup3)
        go_ret3
        exact ⟨⟨v, k, by rw [HC2.out]; rfl, by rw [HC2.out]; intro h; cases h⟩, rfl⟩
      · have HC2 : Hid (cntI l s = (v, (k : Int), 0)) := Lib.hid (by rw [HC.out, if_neg hq])
        clear hg hl hlen henc hk
        go_enter Try.func52, Try.ntmps52
        go_wp2_with (go_at_call 56; (with_reducible refine (gint_any l A n c w HL.out hby hnc hc).mono ?_); rintro e w' ⟨rfl, rfl⟩; rw [HG.out]; unfold tup3)
        go_ret3
        exact ⟨⟨v, k, by rw [HC2.out]; rfl, by rw [HC2.out]; intro _; exact ⟨rfl, rfl⟩⟩, rfl⟩
theorem mul_iff {n k v s : Int} (hs : 1 ≤ s) : (n - k < v * s) ↔ (n - k) / s < v := by
  constructor
  · intro h
    exact Int.not_le.1 (fun h2 => by have := (Int.le_ediv_iff_mul_le (show 0 < s by omega)).1 h2; omega)
  · intro h
    exact Int.not_le.1 (fun h2 => by have := (Int.le_ediv_iff_mul_le (show 0 < s by omega)).2 h2; omega)
set_option maxHeartbeats 1000000 in
set_option maxRecDepth 100000 in
theorem rcount_any (l : List Int) (A : Option Addr) (n c s : Nat) (w : World) (hl : Rd w w.heap.size A n (u8s l)) (hby : Byt l) (hnc : n ≤ c) (hc : c ≤ 9223372036854775807) (hn : n ≤ 1000000000000) (hs1 : 1 ≤ s) (hs2 : s ≤ 1000) :
    Calls Try.prog 54 #[.slice A n c, .int .i64 s] w fun e w' => e = .returned (tup3 (cntI l s)) ∧ Below w.heap.size w w' := by
  have hlen : l.length = n := by simpa [u8s] using hl.1
  have HL := Lib.hid hl
  rcases getI_cases l hby with ⟨er, hg, he⟩ | ⟨v, k, hg, h1, h9, hk, hv0, hv1, henc⟩
  · have HG := Lib.hid hg
    have HC : Hid (cntI l s = (0, 0, er)) := Lib.hid (by unfold cntI; rw [hg, if_pos (by rcases he with rfl | rfl <;> simp)])
    have hne : ((er : Int) == 0) = false := by rcases he with rfl | rfl <;> rfl
    have hne2 : er ≠ 0 := by rcases he with rfl | rfl <;> decide
    clear hg hl hlen he
    go_enter Try.func54, Try.ntmps54
    go_wp2_with (go_at_call 55; (with_reducible refine (rgint_any l A n c w HL.out hby hnc hc).mono ?_); rintro e w1 ⟨rfl, hB⟩; rw [HG.out]; unfold tup3; have HB := Lib.hid hB; clear hB)
    go_ret3
    exact ⟨by rw [HC.out]; rfl, HB.out⟩
  · have HG := Lib.hid hg
    have HLEN := Lib.hid hlen
    have hkn : k ≤ n := by omega
    by_cases hneg : v < 0
    · have HC : Hid (cntI l s = (0, 0, 2)) := Lib.hid (by unfold cntI; rw [hg]; simp [hneg])
      clear hg hl hlen henc hk
      go_enter Try.func54, Try.ntmps54
      go_wp2_with (go_at_call 55; (with_reducible refine (rgint_any l A n c w HL.out hby hnc hc).mono ?_); rintro e w1 ⟨rfl, hB⟩; rw [HG.out]; unfold tup3; have HB := Lib.hid hB; clear hB)
      go_ret3
      exact ⟨by rw [HC.out]; rfl, HB.out⟩
    · have HC : Hid (cntI l s = if ((n : Int) - k) / s < v then (0, 0, 3) else (v, (k : Int), 0)) := Lib.hid (by unfold cntI; rw [hg, hlen]; simp [hneg])
      have hs0 : (1 : Int) ≤ (s : Int) := by omega
      by_cases hbig : (n : Int) < v
      · have HC2 : Hid (cntI l s = (0, 0, 3)) := Lib.hid (by
          rw [HC.out, if_pos ((mul_iff hs0).1 ?_)]
          have : v * 1 ≤ v * s := Int.mul_le_mul_of_nonneg_left hs0 (by omega)
          omega)
        clear hg hl hlen henc hk
        go_enter Try.func54, Try.ntmps54
        go_wp2_with (go_at_call 55; (with_reducible refine (rgint_any l A n c w HL.out hby hnc hc).mono ?_); rintro e w1 ⟨rfl, hB⟩; rw [HG.out]; unfold tup3; have HB := Lib.hid hB; clear hB)
        go_ret3
        exact ⟨by rw [HC2.out]; rfl, HB.out⟩
      · have hm0 : 0 ≤ v * s := Int.mul_nonneg (by omega) (by omega)
        have hm1 : v * s ≤ 1000000000000 * 1000 := Int.mul_le_mul (by omega) (by omega) (by omega) (by omega)
        obtain ⟨q, hqd⟩ : ∃ q, q = v * (s : Int) := ⟨_, rfl⟩
        have hwr : IntKind.i64.wrap (v * (s : Int)) = q := by rw [hqd]; exact IntWalk.i64_in _ (by omega)
        have hq0 : 0 ≤ q := by omega
        have hq1 : q ≤ 1000000000000000 := by omega
        have HQ := Lib.hid hqd
        rw [← hqd] at hwr hm0 hm1
        clear hm0 hm1
        have hqq := hqd.symm
        clear hqd
        by_cases hq : (n : Int) - k < q
        · have HC2 : Hid (cntI l s = (0, 0, 3)) := Lib.hid (by rw [HC.out, if_pos ((mul_iff hs0).1 (by rw [← HQ.out]; exact hq))])
          clear hg hl hlen henc hk
          go_enter Try.func54, Try.ntmps54
          go_wp2_with (go_at_call 55; (with_reducible refine (rgint_any l A n c w HL.out hby hnc hc).mono ?_); rintro e w1 ⟨rfl, hB⟩; rw [HG.out]; unfold tup3; have HB := Lib.hid hB; clear hB)
          go_ret3
          exact ⟨by rw [HC2.out]; rfl, HB.out⟩
        · have HC2 : Hid (cntI l s = (v, (k : Int), 0)) := Lib.hid (by rw [HC.out, if_neg (fun h => hq (by rw [HQ.out]; exact (mul_iff hs0).2 h))])
          clear hg hl hlen henc hk
          go_enter Try.func54, Try.ntmps54
          go_wp2_with (go_at_call 55; (with_reducible refine (rgint_any l A n c w HL.out hby hnc hc).mono ?_); rintro e w1 ⟨rfl, hB⟩; rw [HG.out]; unfold tup3; have HB := Lib.hid hB; clear hB)
          go_ret3
          exact ⟨by rw [HC2.out]; rfl, HB.out⟩
end Go.Proofs.Ytkgmoklifkojhaa
