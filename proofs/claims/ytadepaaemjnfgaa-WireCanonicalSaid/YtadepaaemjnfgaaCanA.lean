/- The walk of the closure of WireCanonical. Conditions: what it compares is the beginning of what it holds, or there is an error. -/
import Derived.Test.YtadepaaemjnfgaaRtA
import Derived.Test.YtadepaaemjnfgaaCanSpec
namespace Go.Proofs.Ytadepaaemjnfgaa
open Go.RowKit Go.WideShapes Go.ChangeShapes
theorem Rd.take {w : World} {B : Nat} {A : Option Addr} {n : Nat} {l : List Int} (h : Rd w B A n (u8s l)) {k : Nat} (hk : k ≤ n) : Rd w B A k (u8s (l.take k)) := by
  have hn : l.length = n := by simpa [u8s] using h.1
  refine ⟨by simp [u8s]; omega, fun h0 => ?_⟩
  obtain ⟨b, o, rfl, hb, hc⟩ := h.2 (by omega)
  refine ⟨b, o, rfl, hb, fun j u hu => hc j u ?_⟩
  simp only [u8s, List.map_take, List.getElem?_take] at hu ⊢
  split at hu
  · exact hu
  · cases hu
set_option maxHeartbeats 8000000 in
set_option maxRecDepth 100000 in
theorem is_any (A1 : Option Addr) (n1 c1 : Nat) (l1 : List Int) (u er : Int) (A : Option Addr) (n c : Nat) (l : List Int) (bb : Nat) (w : World) (hcell : w.cell? ⟨bb, 0, none⟩ = some (.slice A n c)) (hl1 : Rd w w.heap.size A1 n1 (u8s l1)) (hl : Rd w w.heap.size A n (u8s l))
    (hnc : n ≤ c) (_hc : c ≤ 9223372036854775807) (hn1 : n1 ≤ 9223372036854775807) (hok : er ≠ 0 ∨ ∃ k : Nat, u = k ∧ k ≤ n ∧ l1 = l.take k) :
    Calls Try.prog 37 #[.slice A1 n1 c1, .int .i64 u, .int .i64 er, .pointer (some ⟨bb, 0, none⟩)] w fun e w' => e = .returned (.bool true) ∧ Drew w w' := by
  have HL1 := Lib.hid hl1
  by_cases he : er = 0
  · obtain ⟨k, rfl, hk, hl1e⟩ := hok.resolve_left (fun h => h he)
    subst he
    have HE := Lib.hid (decide_eq_true hl1e)
    have HT := Lib.hid (hl.take hk)
    clear hl1 hl hok hl1e
    rcases Nat.eq_zero_or_pos k with h0 | h0
    · subst h0
      go_enter Try.func37, Try.ntmps37
      rcases A with _ | ⟨ab, ao, _ | sp⟩
      all_goals
        go_wp2_with (go_at_call 13; refine (same_any l1 (l.take 0) _ _ n1 c1 0 _ w HL1.out HT.out hn1).mono ?_; rintro e w1 ⟨rfl, hd⟩; rw [HE.out]; have D1 := Lib.hid hd; clear hd)
        go_ret
        exact ⟨rfl, D1.out⟩
    · go_enter Try.func37, Try.ntmps37
      rcases A with _ | ⟨ab, ao, _ | sp⟩
      all_goals
        go_wp2_with (go_at_call 13; refine (same_any l1 (l.take k) _ _ n1 c1 k _ w HL1.out HT.out hn1).mono ?_; rintro e w1 ⟨rfl, hd⟩; rw [HE.out]; have D1 := Lib.hid hd; clear hd)
        go_ret
        exact ⟨rfl, D1.out⟩
  · clear hl1 hl hok
    go_enter Try.func37, Try.ntmps37
    go_wp2
    go_ret
    exact ⟨rfl, Drew.refl w⟩
end Go.Proofs.Ytadepaaemjnfgaa
