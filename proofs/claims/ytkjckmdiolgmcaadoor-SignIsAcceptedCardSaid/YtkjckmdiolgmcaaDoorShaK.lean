/- SHA-256 of a list of bytes, faster for the kernel: words by pattern match. No condition. -/
import Derived.Test.YtkjckmdiolgmcaaDoorShaL
set_option linter.unusedSimpArgs false
set_option linter.unusedVariables false
namespace Go.Proofs.YtkjckmdiolgmcaaDoor
open Go.RowKit
def wd4 {α : Type} : List Nat → (Nat → List Nat → α) → α
  | a :: b :: c :: d :: r, K => force (Nat.add (Nat.add (Nat.add (Nat.mul 16777216 a) (Nat.mul 65536 b)) (Nat.mul 256 c)) d) fun w => K w r
  | _, K => K 0 []
theorem wd4_eq {α : Type} : ∀ {l : List Nat}, 4 ≤ l.length → ∀ (K : Nat → List Nat → α), wd4 l K = K (wN l 0) (l.drop 4)
  | [], h, _ => by simp at h
  | [_], h, _ => by simp at h
  | [_, _], h, _ => by simp at h
  | [_, _, _], h, _ => by simp at h
  | a :: b :: c :: d :: r, _, K => by rw [wd4, force_eq]; rfl
theorem wN_drop (m : List Nat) (t : Nat) (ht : t < 16) : wN (m.drop (4 * t)) 0 = wN (m.take 64) t := by
  have h : ∀ j, j < 4 → (m.drop (4 * t)).getD j 0 = (m.take 64).getD (4 * t + j) 0 := fun j hj => by
    rw [List.getD_eq_getElem?_getD, List.getD_eq_getElem?_getD, List.getElem?_drop, List.getElem?_take, if_pos (by omega)]
  unfold wN
  show Nat.add (Nat.add (Nat.add (Nat.mul 16777216 ((m.drop (4 * t)).getD 0 0)) (Nat.mul 65536 ((m.drop (4 * t)).getD 1 0))) (Nat.mul 256 ((m.drop (4 * t)).getD 2 0))) ((m.drop (4 * t)).getD 3 0) = _
  rw [h 0 (by decide), h 1 (by decide), h 2 (by decide), h 3 (by decide)]
  rfl
def compK {α : Type} (m : List Nat) (a b c d e f g h : Nat) (K : List Nat → Nat → Nat → Nat → Nat → Nat → Nat → Nat → Nat → α) : α :=
  wd4 m fun w0 r => wd4 r fun w1 r => wd4 r fun w2 r => wd4 r fun w3 r => wd4 r fun w4 r => wd4 r fun w5 r => wd4 r fun w6 r => wd4 r fun w7 r => wd4 r fun w8 r => wd4 r fun w9 r => wd4 r fun w10 r => wd4 r fun w11 r => wd4 r fun w12 r => wd4 r fun w13 r => wd4 r fun w14 r => wd4 r fun w15 r => 
  runN kcN w0 w1 w2 w3 w4 w5 w6 w7 w8 w9 w10 w11 w12 w13 w14 w15 a b c d e f g h fun a' b' c' d' e' f' g' h' =>
    force (addN a a') fun a => force (addN b b') fun b => force (addN c c') fun c => force (addN d d') fun d => force (addN e e') fun e => force (addN f f') fun f => force (addN g g') fun g => force (addN h h') fun h => K r a b c d e f g h
theorem compK_eq {α : Type} {m : List Nat} (hm : 64 ≤ m.length) (a b c d e f g h : Nat) (K : List Nat → Nat → Nat → Nat → Nat → Nat → Nat → Nat → Nat → α) : compK m a b c d e f g h K = compN (m.take 64) a b c d e f g h (K (m.drop 64)) := by
  unfold compK compN
  have hw : ∀ t, t < 16 → 4 ≤ (m.drop (4 * t)).length := fun t ht => by rw [List.length_drop]; omega
  have hd : ∀ t, (m.drop (4 * t)).drop 4 = m.drop (4 * (t + 1)) := fun t => by rw [List.drop_drop]; rfl
  rw [wd4_eq (l := m) (by omega)]
  rw [show m.drop 4 = m.drop (4 * 1) from rfl, show wN m 0 = wN (m.take 64) 0 from wN_drop m 0 (by decide)]
  rw [wd4_eq (hw 1 (by decide)), wN_drop m 1 (by decide), hd 1]
  rw [wd4_eq (hw 2 (by decide)), wN_drop m 2 (by decide), hd 2]
  rw [wd4_eq (hw 3 (by decide)), wN_drop m 3 (by decide), hd 3]
  rw [wd4_eq (hw 4 (by decide)), wN_drop m 4 (by decide), hd 4]
  rw [wd4_eq (hw 5 (by decide)), wN_drop m 5 (by decide), hd 5]
  rw [wd4_eq (hw 6 (by decide)), wN_drop m 6 (by decide), hd 6]
  rw [wd4_eq (hw 7 (by decide)), wN_drop m 7 (by decide), hd 7]
  rw [wd4_eq (hw 8 (by decide)), wN_drop m 8 (by decide), hd 8]
  rw [wd4_eq (hw 9 (by decide)), wN_drop m 9 (by decide), hd 9]
  rw [wd4_eq (hw 10 (by decide)), wN_drop m 10 (by decide), hd 10]
  rw [wd4_eq (hw 11 (by decide)), wN_drop m 11 (by decide), hd 11]
  rw [wd4_eq (hw 12 (by decide)), wN_drop m 12 (by decide), hd 12]
  rw [wd4_eq (hw 13 (by decide)), wN_drop m 13 (by decide), hd 13]
  rw [wd4_eq (hw 14 (by decide)), wN_drop m 14 (by decide), hd 14]
  rw [wd4_eq (hw 15 (by decide)), wN_drop m 15 (by decide), hd 15]
  simp only [force_eq]
def blocksK {α : Type} : Nat → List Nat → (a b c d e f g h : Nat) → (Nat → Nat → Nat → Nat → Nat → Nat → Nat → Nat → α) → α
  | 0, _, a, b, c, d, e, f, g, h, K => K a b c d e f g h
  | k + 1, m, a, b, c, d, e, f, g, h, K => compK m a b c d e f g h fun r a b c d e f g h => blocksK k r a b c d e f g h K
theorem blocksK_eq {α : Type} (K : Nat → Nat → Nat → Nat → Nat → Nat → Nat → Nat → α) (k : Nat) : ∀ (m : List Nat), 64 * k ≤ m.length → ∀ (a b c d e f g h : Nat), blocksK k m a b c d e f g h K = blocksN k m a b c d e f g h K := by
  induction k with
  | zero => intro m _ a b c d e f g h; rfl
  | succ k ih =>
    intro m hm a b c d e f g h
    rw [blocksK, blocksN, compK_eq (by omega), normL_eq, normL_eq]
    congr 1
    funext a b c d e f g h
    exact ih _ (by rw [List.length_drop]; omega) a b c d e f g h
def shaK (l : List Nat) : List Nat := blocksK ((l.length + (padN l.length).length) / 64) (l ++ padN l.length) 1779033703 3144134277 1013904242 2773480762 1359893119 2600822924 528734635 1541459225 outN
theorem shaK_eq (l : List Nat) : shaK l = shaN l := by
  unfold shaK shaN
  rw [normL_eq, ← List.length_append]
  exact blocksK_eq outN _ _ (by omega) _ _ _ _ _ _ _ _
end Go.Proofs.YtkjckmdiolgmcaaDoor
