/- A block and a message in the kernel's form of SHA-256. No condition. -/
import Derived.Test.YtkjckmdiolgmcaaDoorShaN
set_option linter.unusedSimpArgs false
set_option linter.unusedVariables false
namespace Go.Proofs.YtkjckmdiolgmcaaDoor
open Go.RowKit
def natI (l : List Nat) : List Int := l.map fun n : Nat => (n : Int)
theorem natI_get (l : List Nat) (j : Nat) : (natI l).getD j 0 = ((l.getD j 0 : Nat) : Int) := by
  unfold natI
  rw [List.getD_eq_getElem?_getD, List.getD_eq_getElem?_getD, List.getElem?_map]
  cases l[j]? <;> rfl
def wN (l : List Nat) (t : Nat) : Nat := Nat.add (Nat.add (Nat.add (Nat.mul 16777216 (l.getD (Nat.mul 4 t) 0)) (Nat.mul 65536 (l.getD (Nat.add (Nat.mul 4 t) 1) 0))) (Nat.mul 256 (l.getD (Nat.add (Nat.mul 4 t) 2) 0))) (l.getD (Nat.add (Nat.mul 4 t) 3) 0)
theorem wN_eq (l : List Nat) (t : Nat) : ((wN l t : Nat) : Int) = wordAt (natI l) t := by
  unfold wordAt
  rw [natI_get, natI_get, natI_get, natI_get]
  show ((16777216 * l.getD (4 * t) 0 + 65536 * l.getD (4 * t + 1) 0 + 256 * l.getD (4 * t + 2) 0 + l.getD (4 * t + 3) 0 : Nat) : Int) = _
  omega
def ByN (l : List Nat) : Prop := ∀ j, l.getD j 0 < 256
theorem wN_lt {l : List Nat} (h : ByN l) (t : Nat) : wN l t < 4294967296 := by
  have h0 := h (4 * t); have h1 := h (4 * t + 1); have h2 := h (4 * t + 2); have h3 := h (4 * t + 3)
  show 16777216 * l.getD (4 * t) 0 + 65536 * l.getD (4 * t + 1) 0 + 256 * l.getD (4 * t + 2) 0 + l.getD (4 * t + 3) 0 < 4294967296
  omega
theorem win0 {l : List Nat} (h : ByN l) : Win [wN l 0, wN l 1, wN l 2, wN l 3, wN l 4, wN l 5, wN l 6, wN l 7, wN l 8, wN l 9, wN l 10, wN l 11, wN l 12, wN l 13, wN l 14, wN l 15] (natI l) 0 := by
  refine ⟨rfl, fun j hj => ?_⟩
  have e : ([wN l 0, wN l 1, wN l 2, wN l 3, wN l 4, wN l 5, wN l 6, wN l 7, wN l 8, wN l 9, wN l 10, wN l 11, wN l 12, wN l 13, wN l 14, wN l 15] : List Nat) = (List.range 16).map (wN l) := rfl
  rw [e, List.getD_eq_getElem?_getD, List.getElem?_map, List.getElem?_range hj]
  refine ⟨?_, wN_lt h j⟩
  show ((wN l j : Nat) : Int) = Wd (natI l) (0 + j)
  rw [wN_eq, Nat.zero_add]
  unfold Wd nextW
  rw [if_pos hj]
def addN (x y : Nat) : Nat := Nat.mod (Nat.add x y) MN
/-- The compression of a block, in the kernel's form. -/
def compN {α : Type} (l : List Nat) (a b c d e f g h : Nat) (K : Nat → Nat → Nat → Nat → Nat → Nat → Nat → Nat → α) : α :=
  force (wN l 0) fun w0 => force (wN l 1) fun w1 => force (wN l 2) fun w2 => force (wN l 3) fun w3 => force (wN l 4) fun w4 => force (wN l 5) fun w5 => force (wN l 6) fun w6 => force (wN l 7) fun w7 =>
  force (wN l 8) fun w8 => force (wN l 9) fun w9 => force (wN l 10) fun w10 => force (wN l 11) fun w11 => force (wN l 12) fun w12 => force (wN l 13) fun w13 => force (wN l 14) fun w14 => force (wN l 15) fun w15 =>
  runN kcN w0 w1 w2 w3 w4 w5 w6 w7 w8 w9 w10 w11 w12 w13 w14 w15 a b c d e f g h fun a' b' c' d' e' f' g' h' =>
    force (addN a a') fun a => force (addN b b') fun b => force (addN c c') fun c => force (addN d d') fun d => force (addN e e') fun e => force (addN f f') fun f => force (addN g g') fun g => force (addN h h') fun h => K a b c d e f g h
theorem add32_nat (x y : Nat) : add32 (x : Int) (y : Int) = ((addN x y : Nat) : Int) := by
  show ((x : Int) + y) % 4294967296 = (((x + y) % 4294967296 : Nat) : Int)
  omega
theorem addN_lt (x y : Nat) : addN x y < 4294967296 := mod_ltN _
theorem compN_eq {α : Type} {l : List Nat} (hl : ByN l) {a b c d e f g h : Nat} (hb : B8 a b c d e f g h) (K : Nat → Nat → Nat → Nat → Nat → Nat → Nat → Nat → α) :
    ∃ a' b' c' d' e' f' g' h' : Nat, B8 a' b' c' d' e' f' g' h' ∧ compI (stN a b c d e f g h) (natI l) = stN a' b' c' d' e' f' g' h' ∧ compN l a b c d e f g h K = K a' b' c' d' e' f' g' h' := by
  obtain ⟨a', b', c', d', e', f', g', h', h1, h2, h3⟩ := runN_eq (natI l) (stN a b c d e f g h) (fun a' b' c' d' e' f' g' h' => K (addN a a') (addN b b') (addN c c') (addN d d') (addN e e') (addN f f') (addN g g') (addN h h')) 64 0 (by decide) _ _ _ _ _ _ _ _ _ _ _ _ _ _ _ _ a b c d e f g h (win0 hl) hb rfl
  refine ⟨addN a a', addN b b', addN c c', addN d d', addN e e', addN f f', addN g g', addN h h', ⟨addN_lt _ _, addN_lt _ _, addN_lt _ _, addN_lt _ _, addN_lt _ _, addN_lt _ _, addN_lt _ _, addN_lt _ _⟩, ?_, ?_⟩
  · unfold compI addSt
    rw [h2]
    unfold stN
    simp only
    rw [add32_nat, add32_nat, add32_nat, add32_nat, add32_nat, add32_nat, add32_nat, add32_nat]
  · unfold compN
    simp only [force_eq]
    exact h3
end Go.Proofs.YtkjckmdiolgmcaaDoor
