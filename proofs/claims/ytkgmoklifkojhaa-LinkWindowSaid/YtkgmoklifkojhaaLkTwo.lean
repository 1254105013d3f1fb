/- Two ends in memory, and what else lives beside them. No condition. -/
import Derived.Test.YtkgmoklifkojhaaLkInC
set_option linter.unusedSimpArgs false
set_option linter.unusedVariables false
namespace Go.Proofs.Ytkgmoklifkojhaa
open Go.RowKit
theorem EndAt.fl {Mu Ft : Nat → Prop} {w : World} {p : Nat} {E : EndS} (h : EndAt Mu Ft w p E) : ∀ b, Ft b → b < w.heap.size := by
  obtain ⟨_, WA, wc, hm, vs, hh, I⟩ := h
  exact I.fl
theorem EndAt.fm {Mu Ft : Nat → Prop} {w : World} {p : Nat} {E : EndS} (h : EndAt Mu Ft w p E) : ∀ b, Ft b → Mu b := by
  obtain ⟨_, WA, wc, hm, vs, hh, I⟩ := h
  exact I.fm
theorem EndAt.ok {Mu Ft : Nat → Prop} {w : World} {p : Nat} {E : EndS} (h : EndAt Mu Ft w p E) : EndOk E := by
  obtain ⟨_, WA, wc, hm, vs, hh, I⟩ := h
  exact I.ok
/-- Two ends apart; L: blocks of neither. -/
structure Two (Mu FtA FtB L : Nat → Prop) (w : World) (pa : Nat) (A : EndS) (pb : Nat) (B : EndS) : Prop where
  a : EndAt Mu FtA w pa A
  b : EndAt Mu FtB w pb B
  d : ∀ x, FtA x → ¬ FtB x
  l : ∀ x, L x → ¬ FtA x ∧ ¬ FtB x
  ll : ∀ x, L x → x < w.heap.size
theorem Two.swap {Mu FtA FtB L : Nat → Prop} {w : World} {pa pb : Nat} {A B : EndS} (h : Two Mu FtA FtB L w pa A pb B) : Two Mu FtB FtA L w pb B pa A :=
  ⟨h.b, h.a, fun x hb ha => h.d x ha hb, fun x hx => ⟨(h.l x hx).2, (h.l x hx).1⟩, h.ll⟩
/-- New memory alone: more blocks may belong to neither. -/
theorem Two.ext {Mu FtA FtB L L' : Nat → Prop} {w w' : World} {pa pb : Nat} {A B : EndS} (h : Two Mu FtA FtB L w pa A pb B) (hE : Ext w w') (hL : ∀ x, L' x → (L x ∨ w.heap.size ≤ x) ∧ x < w'.heap.size) : Two Mu FtA FtB L' w' pa A pb B := by
  have hk : Kept (fun _ => False) w w' := Kept.of_ext hE
  have hl : ∀ b, Mu b → b < w'.heap.size := fun b hb => Nat.lt_of_lt_of_le (h.a.1 b hb) hE.size
  refine ⟨h.a.frame hk (fun _ h => h.elim) (fun _ h => h.elim) (fun _ _ h => h) (fun _ h => h) hl, h.b.frame hk (fun _ h => h.elim) (fun _ h => h.elim) (fun _ _ h => h) (fun _ h => h) hl, h.d, fun x hx => ?_, fun x hx => (hL x hx).2⟩
  rcases (hL x hx).1 with h1 | h1
  · exact h.l x h1
  · exact ⟨fun hf => by have := h.a.fl x hf; omega, fun hf => by have := h.b.fl x hf; omega⟩
/-- The law writes its own blocks. -/
theorem Two.own {Mu FtA FtB L F : Nat → Prop} {w w' : World} {pa pb : Nat} {A B : EndS} (h : Two Mu FtA FtB L w pa A pb B) (hk : Kept F w w') (hF : ∀ x, F x → L x ∧ Mu x) : Two Mu FtA FtB L w' pa A pb B := by
  have hl : ∀ b, Mu b → b < w'.heap.size := fun b hb => Nat.lt_of_lt_of_le (h.a.1 b hb) hk.size
  exact ⟨h.a.frame hk (fun b hb => (hF b hb).2) (fun b hb => (h.l b (hF b hb).1).1) (fun _ _ h => h) (fun _ h => h) hl, h.b.frame hk (fun b hb => (hF b hb).2) (fun b hb => (h.l b (hF b hb).1).2) (fun _ _ h => h) (fun _ h => h) hl, h.d, h.l, fun x hx => Nat.lt_of_lt_of_le (h.ll x hx) hk.size⟩
/-- Send at the first end. -/
theorem Two.sent {Mu FtA FtA' FtB L : Nat → Prop} {w w' : World} {pa pb : Nat} {A A' B : EndS} (h : Two Mu FtA FtB L w pa A pb B) (ht : Turn FtA FtA' w w') (hf : ∀ b, FtA' b → b < w'.heap.size) (hA : EndAt (mor Mu FtA') FtA' w' pa A') : Two (mor Mu FtA') FtA' FtB L w' pa A' pb B := by
  refine ⟨hA, h.b.frame ht.kept h.a.fm h.d (ht.mor_old h.a.fm) (fun b hb => Or.inl hb) hA.1, fun x hx hb => h.d x (ht.old x (h.b.fl x hb) hx) hb, fun x hx => ⟨fun hx2 => (h.l x hx).1 (ht.old x (h.ll x hx) hx2), (h.l x hx).2⟩, fun x hx => Nat.lt_of_lt_of_le (h.ll x hx) ht.kept.size⟩
/-- Out at the first end: what is new may be written, and belongs to neither. -/
theorem Two.out {Mu FtA FtB L : Nat → Prop} {w w' : World} {pa pb : Nat} {A A' B : EndS} (h : Two Mu FtA FtB L w pa A pb B) (hk : Kept FtA w w') (hA : EndAt (fun b => Mu b ∨ (w.heap.size ≤ b ∧ b < w'.heap.size)) FtA w' pa A') : Two (fun b => Mu b ∨ (w.heap.size ≤ b ∧ b < w'.heap.size)) FtA FtB (fun b => L b ∨ (w.heap.size ≤ b ∧ b < w'.heap.size)) w' pa A' pb B := by
  refine ⟨hA, h.b.frame hk h.a.fm h.d (fun b hb h => h.resolve_right (by omega)) (fun b hb => Or.inl hb) hA.1, h.d, fun x hx => ?_, fun x hx => ?_⟩
  · rcases hx with hx | hx
    · exact h.l x hx
    · exact ⟨fun hf => by have := h.a.fl x hf; omega, fun hf => by have := h.b.fl x hf; omega⟩
  · rcases hx with hx | hx
    · exact Nat.lt_of_lt_of_le (h.ll x hx) hk.size
    · exact hx.2
/-- In at the first end: what is new belongs to neither (but is not to be written). -/
theorem Two.in {Mu FtA FtB L : Nat → Prop} {w w' : World} {pa pb : Nat} {A A' B : EndS} (h : Two Mu FtA FtB L w pa A pb B) (hk : Kept FtA w w') (hA : EndAt Mu FtA w' pa A') : Two Mu FtA FtB (fun b => L b ∨ (w.heap.size ≤ b ∧ b < w'.heap.size)) w' pa A' pb B := by
  refine ⟨hA, h.b.frame hk h.a.fm h.d (fun b hb h => h) (fun b hb => hb) hA.1, h.d, fun x hx => ?_, fun x hx => ?_⟩
  · rcases hx with hx | hx
    · exact h.l x hx
    · exact ⟨fun hf => by have := h.a.fl x hf; omega, fun hf => by have := h.b.fl x hf; omega⟩
  · rcases hx with hx | hx
    · exact Nat.lt_of_lt_of_le (h.ll x hx) hk.size
    · exact hx.2
/-- The second of two new ends. -/
theorem Two.made {Mu FtA FtB : Nat → Prop} {w w' : World} {pa pb : Nat} {A B : EndS} (hA : EndAt Mu FtA w pa A) (hE : Ext w w') (hfb : ∀ b, FtB b → w.heap.size ≤ b ∧ b < w'.heap.size) (hB : EndAt (mor Mu FtB) FtB w' pb B) (L : Nat → Prop) (hL : ∀ x, L x → ¬ FtA x ∧ ¬ FtB x) (hll : ∀ x, L x → x < w'.heap.size) : Two (mor Mu FtB) FtA FtB L w' pa A pb B := by
  have hk : Kept (fun _ => False) w w' := Kept.of_ext hE
  refine ⟨hA.frame hk (fun _ h => h.elim) (fun _ h => h.elim) (fun b hb h => h.elim id (fun h => by have := (hfb b h).1; omega)) (fun b hb => Or.inl hb) hB.1, hB, fun x ha hb => ?_, hL, hll⟩
  have := hA.fl x ha
  have := (hfb x hb).1
  omega
end Go.Proofs.Ytkgmoklifkojhaa
