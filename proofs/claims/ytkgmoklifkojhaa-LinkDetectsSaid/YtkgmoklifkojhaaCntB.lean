/- The walks of GetBytes, of the code and of the reference. No condition beyond a bound on the length. -/
import Derived.Test.YtkgmoklifkojhaaCntA
namespace Go.Proofs.Ytkgmoklifkojhaa
open Go.RowKit
def tupS (x : ByteArray × Int × Int) : Value := .tuple #[.string x.1, .int .i64 x.2.1, .int .i64 x.2.2]
theorem count1_any (l : List Int) (A : Option Addr) (n c : Nat) (w : World) (hl : Rd w w.heap.size A n (u8s l)) (hby : Byt l) (hnc : n ≤ c) (hc : c ≤ 9223372036854775807) :
    Calls Try.prog 52 #[.slice A n c, .int .i64 1] w fun e w' => (∃ a b : Int, e = .returned (.tuple #[.int .i64 a, .int .i64 b, .int .i64 (cntI l 1).2.2]) ∧ ((cntI l 1).2.2 = 0 → a = (cntI l 1).1 ∧ b = (cntI l 1).2.1)) ∧ w = w' :=
  count_any l A n c 1 w hl hby hnc hc (by decide) (by decide)
theorem rcount1_any (l : List Int) (A : Option Addr) (n c : Nat) (w : World) (hl : Rd w w.heap.size A n (u8s l)) (hby : Byt l) (hnc : n ≤ c) (hc : c ≤ 9223372036854775807) (hn : n ≤ 1000000000000) :
    Calls Try.prog 54 #[.slice A n c, .int .i64 1] w fun e w' => e = .returned (tup3 (cntI l 1)) ∧ Below w.heap.size w w' :=
  rcount_any l A n c 1 w hl hby hnc hc hn (by decide) (by decide)
theorem count16_any (l : List Int) (A : Option Addr) (n c : Nat) (w : World) (hl : Rd w w.heap.size A n (u8s l)) (hby : Byt l) (hnc : n ≤ c) (hc : c ≤ 9223372036854775807) :
    Calls Try.prog 52 #[.slice A n c, .int .i64 16] w fun e w' => (∃ a b : Int, e = .returned (.tuple #[.int .i64 a, .int .i64 b, .int .i64 (cntI l 16).2.2]) ∧ ((cntI l 16).2.2 = 0 → a = (cntI l 16).1 ∧ b = (cntI l 16).2.1)) ∧ w = w' :=
  count_any l A n c 16 w hl hby hnc hc (by decide) (by decide)
theorem rcount16_any (l : List Int) (A : Option Addr) (n c : Nat) (w : World) (hl : Rd w w.heap.size A n (u8s l)) (hby : Byt l) (hnc : n ≤ c) (hc : c ≤ 9223372036854775807) (hn : n ≤ 1000000000000) :
    Calls Try.prog 54 #[.slice A n c, .int .i64 16] w fun e w' => e = .returned (tup3 (cntI l 16)) ∧ Below w.heap.size w w' :=
  rcount_any l A n c 16 w hl hby hnc hc hn (by decide) (by decide)
theorem u8s_dt (l : List Int) (k m : Nat) : ((u8s l).drop k).take m = u8s ((l.drop k).take m) := by simp [u8s, List.map_drop, List.map_take]
set_option maxHeartbeats 1000000 in
set_option maxRecDepth 100000 in
theorem gbytes_any (l : List Int) (A0 : Option Addr) (n c : Nat) (w : World) (hl : Rd w w.heap.size A0 n (u8s l)) (hby : Byt l) (hnc : n ≤ c) (hc : c ≤ 9223372036854775807) (hn : n ≤ 1000000000000) :
    Calls Try.prog 47 #[.slice A0 n c] w fun e w' => e = .returned (tupS (decS l)) ∧ w = w' := by
  have hlen : l.length = n := by simpa [u8s] using hl.1
  have HL := Lib.hid hl
  rcases cntI_cases l hby 1 (Nat.le_refl _) with ⟨er, hg, he⟩ | ⟨m, k, hg, h1, h9, hk, hm, henc⟩
  · have HC := Lib.hid hg
    have HD : Hid (decS l = (ByteArray.empty, 0, er)) := Lib.hid (by unfold decS; rw [hg, if_pos (by rcases he with rfl | rfl <;> simp)])
    have hne : ((er : Int) == 0) = false := by rcases he with rfl | rfl <;> rfl
    have hne2 : er ≠ 0 := by rcases he with rfl | rfl <;> decide
    clear hg hl hlen he
    go_enter Try.func47, Try.ntmps47
    go_wp2_with (go_at_call 52; (with_reducible refine (count1_any l _ n _ w HL.out hby hnc hc).mono ?_); rintro e w' ⟨⟨a, b0, rfl, hab⟩, rfl⟩; rw [HC.out] at hab; rw [HC.out]; clear hab)
    go_ret3
    exact ⟨by rw [HD.out]; rfl, rfl⟩
  · have HC := Lib.hid hg
    obtain ⟨S, hS⟩ : ∃ S, S = strOf ((l.drop k).take m) := ⟨_, rfl⟩
    have HD : Hid (decS l = (S, (k : Int) + m, 0)) := Lib.hid (by unfold decS; rw [hg, hS]; simp)
    have HS := Lib.hid hS
    obtain ⟨b, o, rfl, _, _⟩ := hl.2 (by omega)
    have HRS : Hid (Rd w w.heap.size (some ⟨b, o + k, none⟩) m (u8s ((l.drop k).take m))) := Lib.hid (by rw [← u8s_dt]; exact hl.slice k m (by omega))
    have HCV : Hid (∀ W, Rd W w.heap.size (some ⟨b, o + k, none⟩) m (u8s ((l.drop k).take m)) → (convert 33 9 (.slice (some ⟨b, o + k, none⟩) m (c - k))).run Try.prog W = .ok (.string S) W) := Lib.hid (fun W h => by
      rw [HS.out]
      exact run_toStr (P := Try.prog) Try.underlying33 Try.underlying5 Try.underlying9 h (c - k) (fun _ => Or.inr ⟨_, rfl⟩))
    have hk1 : k + m ≤ n := by omega
    have HN : Hid (m = 0 → S = ⟨#[]⟩) := Lib.hid (fun h => by rw [HS.out, h]; rfl)
    have HCV0 : Hid (∀ W A1 c1, (convert 33 9 (.slice A1 0 c1)).run Try.prog W = .ok (.string ⟨#[]⟩) W) := Lib.hid (fun W A1 c1 =>
      run_toStr (P := Try.prog) Try.underlying33 Try.underlying5 Try.underlying9 (l := []) (Rd.nil W 0 A1) c1 (fun _ => by cases A1 <;> simp))
    clear hg hl hlen henc hk hS
    by_cases hkc : k = c
    · obtain rfl : m = 0 := by omega
      have HN2 := Lib.hid (HN.out rfl)
      have hcv := HCV0.out
      subst hkc
      go_enter Try.func47, Try.ntmps47
      go_wp2_with (go_at_call 52; (with_reducible refine (count1_any l _ n _ w HL.out hby hnc hc).mono ?_); rintro e w' ⟨⟨a, b0, rfl, hab⟩, rfl⟩; rw [HC.out] at hab; rw [HC.out]; obtain ⟨rfl, rfl⟩ := hab rfl)
      go_ret3
      exact ⟨by rw [HD.out, HN2.out]; first | rfl | simp [tupS], rfl⟩
    · go_enter Try.func47, Try.ntmps47
      go_wp2_with (go_at_call 52; (with_reducible refine (count1_any l _ n _ w HL.out hby hnc hc).mono ?_); rintro e w' ⟨⟨a, b0, rfl, hab⟩, rfl⟩; rw [HC.out] at hab; rw [HC.out]; obtain ⟨rfl, rfl⟩ := hab rfl; have hcv := HCV.out w HRS.out)
      go_ret3
      exact ⟨by rw [HD.out]; rfl, rfl⟩
set_option maxHeartbeats 1000000 in
set_option maxRecDepth 100000 in
theorem rgbytes_any (l : List Int) (A0 : Option Addr) (n c : Nat) (w : World) (hl : Rd w w.heap.size A0 n (u8s l)) (hby : Byt l) (hnc : n ≤ c) (hc : c ≤ 9223372036854775807) (hn : n ≤ 1000000000000) :
    Calls Try.prog 50 #[.slice A0 n c] w fun e w' => e = .returned (tupS (decS l)) ∧ Below w.heap.size w w' := by
  have hlen : l.length = n := by simpa [u8s] using hl.1
  have HL := Lib.hid hl
  rcases cntI_cases l hby 1 (Nat.le_refl _) with ⟨er, hg, he⟩ | ⟨m, k, hg, h1, h9, hk, hm, henc⟩
  · have HC := Lib.hid hg
    have HD : Hid (decS l = (ByteArray.empty, 0, er)) := Lib.hid (by unfold decS; rw [hg, if_pos (by rcases he with rfl | rfl <;> simp)])
    have hne : ((er : Int) == 0) = false := by rcases he with rfl | rfl <;> rfl
    have hne2 : er ≠ 0 := by rcases he with rfl | rfl <;> decide
    clear hg hl hlen he
    go_enter Try.func50, Try.ntmps50
    go_wp2_with (go_at_call 54; (with_reducible refine (rcount1_any l _ n _ w HL.out hby hnc hc hn).mono ?_); rintro e w1 ⟨rfl, hB⟩; rw [HC.out]; unfold tup3; have HB : Hid (Ext w w1) := Lib.hid hB; clear hB; skip)
    go_ret3
    exact ⟨by rw [HD.out]; rfl, HB.out⟩
  · have HC := Lib.hid hg
    obtain ⟨S, hS⟩ : ∃ S, S = strOf ((l.drop k).take m) := ⟨_, rfl⟩
    have HD : Hid (decS l = (S, (k : Int) + m, 0)) := Lib.hid (by unfold decS; rw [hg, hS]; simp)
    have HS := Lib.hid hS
    obtain ⟨b, o, rfl, _, _⟩ := hl.2 (by omega)
    have HRS : Hid (Rd w w.heap.size (some ⟨b, o + k, none⟩) m (u8s ((l.drop k).take m))) := Lib.hid (by rw [← u8s_dt]; exact hl.slice k m (by omega))
    have HCV : Hid (∀ W, Rd W w.heap.size (some ⟨b, o + k, none⟩) m (u8s ((l.drop k).take m)) → (convert 33 9 (.slice (some ⟨b, o + k, none⟩) m (c - k))).run Try.prog W = .ok (.string S) W) := Lib.hid (fun W h => by
      rw [HS.out]
      exact run_toStr (P := Try.prog) Try.underlying33 Try.underlying5 Try.underlying9 h (c - k) (fun _ => Or.inr ⟨_, rfl⟩))
    have hk1 : k + m ≤ n := by omega
    have HN : Hid (m = 0 → S = ⟨#[]⟩) := Lib.hid (fun h => by rw [HS.out, h]; rfl)
    have HCV0 : Hid (∀ W A1 c1, (convert 33 9 (.slice A1 0 c1)).run Try.prog W = .ok (.string ⟨#[]⟩) W) := Lib.hid (fun W A1 c1 =>
      run_toStr (P := Try.prog) Try.underlying33 Try.underlying5 Try.underlying9 (l := []) (Rd.nil W 0 A1) c1 (fun _ => by cases A1 <;> simp))
    clear hg hl hlen henc hk hS
    by_cases hkc : k = c
    · obtain rfl : m = 0 := by omega
      have HN2 := Lib.hid (HN.out rfl)
      have hcv := HCV0.out
      subst hkc
      go_enter Try.func50, Try.ntmps50
      go_wp2_with (go_at_call 54; (with_reducible refine (rcount1_any l _ n _ w HL.out hby hnc hc hn).mono ?_); rintro e w1 ⟨rfl, hB⟩; rw [HC.out]; unfold tup3; have HB : Hid (Ext w w1) := Lib.hid hB; clear hB; skip)
      go_ret3
      exact ⟨by rw [HD.out, HN2.out]; first | rfl | simp [tupS], HB.out⟩
    · go_enter Try.func50, Try.ntmps50
      go_wp2_with (go_at_call 54; (with_reducible refine (rcount1_any l _ n _ w HL.out hby hnc hc hn).mono ?_); rintro e w1 ⟨rfl, hB⟩; rw [HC.out]; unfold tup3; have HB : Hid (Ext w w1) := Lib.hid hB; clear hB; have hcv := HCV.out w1 ((HRS.out).ext HB.out))
      go_ret3
      exact ⟨by rw [HD.out]; rfl, HB.out⟩
end Go.Proofs.Ytkgmoklifkojhaa
