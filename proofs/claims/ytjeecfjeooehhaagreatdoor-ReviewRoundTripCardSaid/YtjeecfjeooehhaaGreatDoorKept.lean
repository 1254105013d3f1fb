/- Nothing that was there has changed but for the blocks of F (as in LkMem: not both in one seat). No condition. -/
import Derived.Test.YtjeecfjeooehhaaGreatDoorGA
set_option linter.unusedSimpArgs false
set_option linter.unusedVariables false
namespace Go.Proofs.YtjeecfjeooehhaaGreatDoor
open Go.RowKit
/-- Nothing that was there has changed but for the blocks of F. -/
structure Kept (F : Nat → Prop) (w w' : World) : Prop where
  os : w'.os = w.os
  tape : w'.tape = w.tape
  output : w'.output = w.output
  size : w.heap.size ≤ w'.heap.size
  block : ∀ k, k < w.heap.size → ¬ F k → w'.heap[k]? = w.heap[k]?
theorem Kept.refl (F : Nat → Prop) (w : World) : Kept F w w := ⟨rfl, rfl, rfl, Nat.le_refl _, fun _ _ _ => rfl⟩
theorem Kept.of_ext {F : Nat → Prop} {w w' : World} (h : Ext w w') : Kept F w w' := ⟨h.os, h.tape, h.output, h.size, fun k hk _ => h.block k hk⟩
theorem Kept.next {F G : Nat → Prop} {w w1 w2 : World} (h : Kept F w w1) (h2 : Kept G w1 w2) (hG : ∀ b, b < w.heap.size → G b → F b) : Kept F w w2 :=
  ⟨h2.os.trans h.os, h2.tape.trans h.tape, h2.output.trans h.output, Nat.le_trans h.size h2.size, fun k hk hf => (h2.block k (Nat.lt_of_lt_of_le hk h.size) (fun hg => hf (hG k hk hg))).trans (h.block k hk hf)⟩
theorem Kept.trans {F : Nat → Prop} {w w1 w2 : World} (h : Kept F w w1) (h2 : Kept F w1 w2) : Kept F w w2 := h.next h2 (fun _ _ h => h)
theorem Kept.mono {F G : Nat → Prop} {w w' : World} (h : Kept F w w') (hG : ∀ b, b < w.heap.size → F b → G b) : Kept G w w' := ⟨h.os, h.tape, h.output, h.size, fun k hk hf => h.block k hk (fun h => hf (hG k hk h))⟩
theorem Kept.ext {F : Nat → Prop} {w w' : World} (h : Kept F w w') (hF : ∀ b, F b → w.heap.size ≤ b) : Ext w w' := ⟨h.os, h.tape, h.output, h.size, fun k hk => h.block k hk (fun hf => by have := hF k hf; omega)⟩
theorem Kept.of_grown {F : Nat → Prop} {w w' : World} {row : Option Nat} (h : w.grownBy w' row) (hF : ∀ b, row = some b → b < w.heap.size → F b) : Kept F w w' := ⟨h.os, h.tape, h.output, h.size, fun k hk hf => h.block k hk (fun he => hf (hF k he.symm hk))⟩
theorem Kept.drew (F : Nat → Prop) (w : World) : Kept F w w.drew := Kept.of_ext (Ext.refl w).drew
theorem Kept.setRow {F : Nat → Prop} (w : World) {g : Nat} (hg : F g) (cs : Array Value) : Kept F w (w.setRow g cs) := ⟨rfl, rfl, rfl, by simp, fun k _ hf => setRow_other w g k cs (fun h => hf (by rw [h]; exact hg))⟩
theorem Kept.setCell {F : Nat → Prop} (w : World) {p : Addr} (hg : F p.block) (v : Value) : Kept F w (w.setCell p v) := ⟨rfl, rfl, rfl, by simp [World.setCell], fun k _ hf => Below.heap_setCell w p v k (fun h => hf (by rw [h]; exact hg))⟩
theorem Kept.blk {F : Nat → Prop} {w w' : World} (h : Kept F w w') {g : Nat} {t : TypeId} {cs : List Value} (hb : Blk w g t cs) (hf : ¬ F g) : Blk w' g t cs := (h.block g hb.lt hf).trans hb
theorem Kept.cell {F : Nat → Prop} {w w' : World} (h : Kept F w w') {p : Addr} (hp : p.block < w.heap.size) (hf : ¬ F p.block) : w'.cell? p = w.cell? p := World.cell?_of_block (h.block _ hp hf)
theorem Kept.own {F : Nat → Prop} {w w' : World} (h : Kept F w w') {base : Nat} {e : TypeId} {size : Nat} {v : Value} {n : Nat} {xs : List Value} (ho : w.ownsRow base e size v n xs) (hf : ∀ b, v.ownBlock = some b → ¬ F b) : w'.ownsRow base e size v n xs := by
  refine ⟨ho.1, ho.2.imp id ?_⟩
  rintro ⟨g, cap, cur, rfl, h1, h2, h3⟩
  exact ⟨g, cap, cur, rfl, h1, (h.block g (Array.getElem?_eq_some_iff.1 h2).1 (hf g rfl)).trans h2, h3⟩
end Go.Proofs.YtjeecfjeooehhaaGreatDoor
