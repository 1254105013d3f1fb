/- bytes.Equal and bytes.HasPrefix. Conditions: the slices can be read. -/
import Derived.Test.YtjeecfjeooehhaaGreatDoorRvM
import Derived.Test.YtjeecfjeooehhaaGreatDoorOrdSpec
set_option linter.unusedSimpArgs false
set_option linter.unusedVariables false
namespace Go.Proofs.YtjeecfjeooehhaaGreatDoor
open Go.RowKit
theorem addr_cases (A : Option Addr) (n : Nat) : A = none ∨ ∃ a, A = some a := by cases A <;> simp
set_option maxHeartbeats 2000000 in
theorem bequal_any (l p : List Int) (A B : Option Addr) (n c m d : Nat) (w : World) (hl : Rd w w.heap.size A n (u8s l)) (hb : Byt l) (hp : Rd w w.heap.size B m (u8s p)) (hq : Byt p) :
    Calls Tryz.prog 73 #[.slice A n c, .slice B m d] w fun e w' => e = .returned (.bool (decide (l = p))) ∧ Ext w w' := by
  obtain ⟨S1, hS1⟩ : ∃ s, s = strOf l := ⟨_, rfl⟩
  obtain ⟨S2, hS2⟩ : ∃ s, s = strOf p := ⟨_, rfl⟩
  have h1 : (convert 23 9 (.slice A n c)).run Tryz.prog w = .ok (.string S1) w := by
    rw [hS1]
    exact run_toStr (P := Tryz.prog) Tryz.underlying23 Tryz.underlying5 Tryz.underlying9 hl c (fun _ => by cases A <;> simp)
  have h2 : (convert 23 9 (.slice B m d)).run Tryz.prog w = .ok (.string S2) w := by
    rw [hS2]
    exact run_toStr (P := Tryz.prog) Tryz.underlying23 Tryz.underlying5 Tryz.underlying9 hp d (fun _ => by cases B <;> simp)
  have h3 : (S1.toList == S2.toList) = decide (l = p) := by rw [hS1, hS2]; exact eqs_str l p hb hq
  have h3' := Lib.hid h3
  obtain ⟨t, ht⟩ : ∃ t, t = decide (l = p) := ⟨_, rfl⟩
  rw [← ht] at h3 h3' ⊢
  clear hl hp hb hq hS1 hS2 ht
  go_enter Tryz.func73, Tryz.ntmps73
  go_wp2_with fail
  go_ret
  exact ⟨rfl, Ext.refl _⟩
theorem rd_take {w : World} {B n m : Nat} {A : Option Addr} {l : List Int} (h : Rd w B A n (u8s l)) (hm : m ≤ n) : Rd w B A m (u8s (l.take m)) := by
  refine ⟨by have := h.1; simp only [u8s, List.length_map, List.length_take] at this ⊢; omega, fun hn => ?_⟩
  obtain ⟨b, o, hA, hb, hc⟩ := h.2 (by omega)
  refine ⟨b, o, hA, hb, fun j v hv => hc j v ?_⟩
  have hj : j < m := by
    have := (List.getElem?_eq_some_iff.1 hv).1
    simp only [u8s, List.length_map, List.length_take] at this
    omega
  rw [← hv]
  simp only [u8s, List.getElem?_map, List.getElem?_take, if_pos hj]
/-- Is p a prefix of l? -/
def preB (l p : List Int) : Bool := decide (l.take p.length = p)
theorem preB_long {l p : List Int} (h : l.length < p.length) : preB l p = false := by
  unfold preB
  rw [decide_eq_false_iff_not]
  intro h2
  have := congrArg List.length h2
  rw [List.length_take] at this
  omega
set_option maxHeartbeats 2000000 in
theorem hasPrefix_any (l p : List Int) (A B : Option Addr) (n c m d : Nat) (w : World) (hl : Rd w w.heap.size A n (u8s l)) (hb : Byt l) (hp : Rd w w.heap.size B m (u8s p)) (hq : Byt p) (hnc : n ≤ c) (hc : c ≤ 9223372036854775807) (hmc : m ≤ 9223372036854775807) :
    Calls Tryz.prog 33 #[.slice A n c, .slice B m d] w fun e w' => e = .returned (.bool (preB l p)) ∧ Ext w w' := by
  have hln : l.length = n := by have := hl.1; simpa [u8s] using this
  have hpm : p.length = m := by have := hp.1; simpa [u8s] using this
  by_cases hmn : m ≤ n
  · have HE : Hid (Calls Tryz.prog 73 #[.slice A m c, .slice B m d] w fun e w' => e = .returned (.bool (preB l p)) ∧ Ext w w') := Lib.hid (by
      have h := bequal_any (l.take m) p A B m c m d w (rd_take hl hmn) (hb.take m) hp hq
      unfold preB
      rw [hpm]
      exact h)
    obtain ⟨t, ht⟩ : ∃ t, t = preB l p := ⟨_, rfl⟩
    rw [← ht] at HE ⊢
    have hge : decide ((m : Int) ≤ (n : Int)) = true := decide_eq_true (by omega)
    clear hl hp hb hq ht hln hpm
    rcases A with _ | ⟨b, o, f⟩
    · go_enter Tryz.func33, Tryz.ntmps33
      go_wp2_with (go_at_call 73; (with_reducible refine HE.out.mono ?_); rintro e w2 ⟨rfl, hE2⟩)
      go_ret
      exact ⟨rfl, hE2⟩
    · go_enter Tryz.func33, Tryz.ntmps33
      go_wp2_with (go_at_call 73; (with_reducible refine HE.out.mono ?_); rintro e w2 ⟨rfl, hE2⟩)
      all_goals go_ret
      all_goals exact ⟨rfl, hE2⟩
  · rw [preB_long (l := l) (p := p) (by omega)]
    have hge : decide ((m : Int) ≤ (n : Int)) = false := decide_eq_false (by omega)
    clear hl hp hb hq hln hpm
    go_enter Tryz.func33, Tryz.ntmps33
    go_wp2_with fail
    go_ret
    exact ⟨rfl, Ext.refl _⟩
end Go.Proofs.YtjeecfjeooehhaaGreatDoor
