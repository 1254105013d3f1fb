/- Reviews in memory while other blocks change. No condition. -/
import Derived.Test.YtjeecfjeooehhaaGreatDoorRvW
set_option linter.unusedSimpArgs false
set_option linter.unusedVariables false
namespace Go.Proofs.YtjeecfjeooehhaaGreatDoor
open Go.RowKit
theorem own_nil {w : World} {base : Nat} {e : TypeId} {size n c : Nat} {A : Option Addr} {xs : List Value} (h : w.ownsRow base e size (.slice A n c) n xs) (hs : 0 < n) : ∃ g, A = some ⟨g, 0, none⟩ ∧ base ≤ g ∧ g < w.heap.size := by
  obtain ⟨g, hA, h1, h2, _⟩ := own_blk h hs
  exact ⟨g, hA, h1, h2⟩
theorem RXV.kept {w w' : World} {x : RX} {F : Nat → Prop} (h : RXV w x) (hk : Kept F w w') (hf : ∀ a, 0 < x.n → x.A = some a → ¬ F a.block) : RXV w' x := by
  refine ⟨⟨h.row.1, fun h0 => ?_⟩, h.le, h.cap, h.few, h.mean, h.mbyt⟩
  obtain ⟨b, p, hA, hb, hc⟩ := h.row.2 h0
  exact ⟨b, p, hA, Nat.lt_of_lt_of_le hb hk.size, fun j u hu => (hk.cell (p := ⟨b, p + j, none⟩) hb (hf ⟨b, p, none⟩ h0 hA)).trans (hc j u hu)⟩
theorem RXV.in {w : World} {x : RX} (h : RXV w x) {a : Addr} (h0 : 0 < x.n) (ha : x.A = some a) : a.block < w.heap.size := by
  obtain ⟨b, p, hA, hb, _⟩ := h.row.2 h0
  rw [hA] at ha
  simp only [Option.some.injEq] at ha
  rw [← ha]
  exact hb
end Go.Proofs.YtjeecfjeooehhaaGreatDoor
