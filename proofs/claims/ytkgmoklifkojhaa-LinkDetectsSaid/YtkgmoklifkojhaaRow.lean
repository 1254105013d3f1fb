/- Whole rows stored and loaded at once, inside regions that draw their order too. No condition. -/
import Derived.Test.YtkgmoklifkojhaaStr
import Derived.Deep.MidRow
import Derived.Deep.DrawnRows
namespace Go.Proofs.Ytkgmoklifkojhaa
open Go.RowKit
theorem Blk.setCells {t : TypeId} {g : Nat} : ∀ (vs : List Value) (o : Nat) (w : World) (cs : List Value), Blk w g t cs → o + vs.length ≤ cs.length → Blk (w.setCells g o vs) g t (cs.take o ++ vs ++ cs.drop (o + vs.length))
  | [], o, w, cs, h, _ => by simpa [World.setCells] using h
  | v :: r, o, w, cs, h, hl => by
    rw [World.setCells]
    simp only [List.length_cons] at hl
    have := Blk.setCells r (o + 1) _ _ (h.set o v) (by simp; omega)
    have e : (cs.set o v).take (o + 1) ++ r ++ (cs.set o v).drop (o + 1 + r.length) = cs.take o ++ v :: r ++ cs.drop (o + (v :: r).length) := by
      rw [List.drop_set_of_lt (by omega), List.take_add_one, List.take_set_of_le (by omega)]
      simp [List.getElem?_set_self (show o < cs.length by omega), Nat.add_comm, Nat.add_left_comm]
    rw [e] at this
    exact this
theorem Blk.setAll {t : TypeId} {g : Nat} {w : World} {cs : List Value} (h : Blk w g t cs) (vs : List Value) (hl : vs.length = cs.length) : Blk (w.setCells g 0 vs) g t vs := by
  have := Blk.setCells vs 0 w cs h (by omega)
  rw [hl, Nat.zero_add, List.drop_length] at this
  simpa using this
theorem heap_setCells (g : Nat) : ∀ (vs : List Value) (o : Nat) (w : World) (k : Nat), k ≠ g → (w.setCells g o vs).heap[k]? = w.heap[k]?
  | [], _, _, _, _ => rfl
  | v :: r, o, w, k, h => by
    rw [World.setCells, heap_setCells g r (o + 1) _ k h]
    exact Below.heap_setCell _ _ _ _ h
theorem size_setCells (g : Nat) : ∀ (vs : List Value) (o : Nat) (w : World), (w.setCells g o vs).heap.size = w.heap.size
  | [], _, _ => rfl
  | v :: r, o, w => by rw [World.setCells, size_setCells g r]; simp [World.setCell]
theorem meta_setCells (g : Nat) : ∀ (vs : List Value) (o : Nat) (w : World), (w.setCells g o vs).os = w.os ∧ (w.setCells g o vs).tape = w.tape ∧ (w.setCells g o vs).output = w.output
  | [], _, _ => ⟨rfl, rfl, rfl⟩
  | v :: r, o, w => by rw [World.setCells]; exact meta_setCells g r (o + 1) _
theorem Blk.setCells_far {w : World} {g k : Nat} {t : TypeId} {cs : List Value} (h : Blk w g t cs) (hk : g ≠ k) (o : Nat) (vs : List Value) : Blk (w.setCells k o vs) g t cs := (heap_setCells k vs o w g hk).trans h
theorem below_setCells {B g : Nat} {a w : World} (h : Below B a w) (hg : B ≤ g) (o : Nat) (vs : List Value) : Below B a (w.setCells g o vs) := by
  obtain ⟨h1, h2, h3⟩ := meta_setCells g vs o w
  exact ⟨h1.trans h.os, h2.trans h.tape, h3.trans h.output, by rw [size_setCells]; exact h.size, fun k hk => (heap_setCells g vs o w k (by omega)).trans (h.block k hk)⟩
theorem Blk.there {w : World} {g : Nat} {t : TypeId} {cs : List Value} (h : Blk w g t cs) (o n : Nat) (hn : o + n ≤ cs.length) : w.there g o n := fun j hj => by
  refine ⟨?_, h.frozen _⟩
  rw [h.cell, List.getElem?_eq_getElem (by omega)]
  rfl
theorem Blk.range {w : World} {g : Nat} {t : TypeId} {cs : List Value} (h : Blk w g t cs) : w.rangeAt g 0 cs := fun j v hv => by
  rw [h.cell, Nat.zero_add]; exact hv
/-- A whole row stored. -/
theorem run_storeRow {P : Program} {w : World} {g : Nat} {t : TypeId} {cs : List Value} (h : Blk w g t cs) (O : Array Value) (hl : O.size = cs.length) (h1 : O.all (·.oneCell') = true) :
    (storeCells ⟨g, 0, none⟩ O.toList).run P w = .ok () (w.setRow g O) := by
  have := run_storeCells_at P g 0 t O.toList 0 cs.toArray w h (by simp; omega) (fun v hv => Array.all_eq_true'.1 h1 v (by simpa using hv))
  rw [this]
  simp [hl]
end Go.Proofs.Ytkgmoklifkojhaa
