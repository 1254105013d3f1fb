/- SHA-256 of a list of bytes in the kernel's form. No condition. -/
import Derived.Test.YtkjckmdiolgmcaaDoorShaM
import Derived.Test.YtkjckmdiolgmcaaDoorStream
set_option linter.unusedSimpArgs false
set_option linter.unusedVariables false
namespace Go.Proofs.YtkjckmdiolgmcaaDoor
open Go.RowKit
theorem ByN.take {m : List Nat} (h : ByN m) (n : Nat) : ByN (m.take n) := fun j => by
  rw [List.getD_eq_getElem?_getD, List.getElem?_take]
  by_cases hj : j < n
  · rw [if_pos hj, ← List.getD_eq_getElem?_getD]; exact h j
  · rw [if_neg hj]; decide
theorem ByN.drop {m : List Nat} (h : ByN m) (n : Nat) : ByN (m.drop n) := fun j => by
  rw [List.getD_eq_getElem?_getD, List.getElem?_drop, ← List.getD_eq_getElem?_getD]; exact h (n + j)
theorem ByN.app {m l : List Nat} (h : ByN m) (h2 : ByN l) : ByN (m ++ l) := fun j => by
  rw [List.getD_eq_getElem?_getD]
  by_cases hj : j < m.length
  · rw [List.getElem?_append_left hj, ← List.getD_eq_getElem?_getD]; exact h j
  · rw [List.getElem?_append_right (by omega), ← List.getD_eq_getElem?_getD]; exact h2 _
theorem ByN.of_all {m : List Nat} (h : ∀ x ∈ m, x < 256) : ByN m := fun j => by
  rw [List.getD_eq_getElem?_getD]
  by_cases hj : j < m.length
  · rw [List.getElem?_eq_getElem hj]; exact h _ (List.getElem_mem _)
  · rw [List.getElem?_eq_none (by omega)]; decide
/-- k of l, l's elements reckoned first. -/
def normL {α : Type} : List Nat → (List Nat → α) → α
  | [], k => k []
  | x :: l, k => force x fun x => normL l fun l => k (x :: l)
theorem normL_eq {α : Type} : ∀ (l : List Nat) (k : List Nat → α), normL l k = k l
  | [], _ => rfl
  | x :: l, k => by rw [normL, force_eq, normL_eq l]
def blocksN {α : Type} : Nat → List Nat → (a b c d e f g h : Nat) → (Nat → Nat → Nat → Nat → Nat → Nat → Nat → Nat → α) → α
  | 0, _, a, b, c, d, e, f, g, h, K => K a b c d e f g h
  | k + 1, m, a, b, c, d, e, f, g, h, K => normL (m.take 64) fun b0 => normL (m.drop 64) fun r => compN b0 a b c d e f g h fun a b c d e f g h => blocksN k r a b c d e f g h K
theorem natI_take (m : List Nat) (n : Nat) : natI (m.take n) = (natI m).take n := by simp [natI, List.map_take]
theorem natI_drop (m : List Nat) (n : Nat) : natI (m.drop n) = (natI m).drop n := by simp [natI, List.map_drop]
theorem natI_app (m l : List Nat) : natI (m ++ l) = natI m ++ natI l := by simp [natI]
theorem natI_len (m : List Nat) : (natI m).length = m.length := by simp [natI]
theorem blocksN_eq {α : Type} (K : Nat → Nat → Nat → Nat → Nat → Nat → Nat → Nat → α) (k : Nat) : ∀ (m : List Nat), ByN m → ∀ (a b c d e f g h : Nat), B8 a b c d e f g h →
    ∃ a' b' c' d' e' f' g' h' : Nat, B8 a' b' c' d' e' f' g' h' ∧ blocksI k (natI m) (stN a b c d e f g h) = stN a' b' c' d' e' f' g' h' ∧ blocksN k m a b c d e f g h K = K a' b' c' d' e' f' g' h' := by
  induction k with
  | zero =>
    intro m hm a b c d e f g h hb
    exact ⟨a, b, c, d, e, f, g, h, hb, rfl, rfl⟩
  | succ k ih =>
    intro m hm a b c d e f g h hb
    obtain ⟨a1, b1, c1, d1, e1, f1, g1, h1, hb1, hs1, hk1⟩ := compN_eq (hm.take 64) hb (fun a b c d e f g h => blocksN k (m.drop 64) a b c d e f g h K)
    obtain ⟨a2, b2, c2, d2, e2, f2, g2, h2, hb2, hs2, hk2⟩ := ih (m.drop 64) (hm.drop 64) a1 b1 c1 d1 e1 f1 g1 h1 hb1
    refine ⟨a2, b2, c2, d2, e2, f2, g2, h2, hb2, ?_, ?_⟩
    · rw [blocksI, ← natI_take, hs1, ← natI_drop, hs2]
    · rw [blocksN, normL_eq, normL_eq, hk1, hk2]
def be64N (n : Nat) : List Nat := (List.range 8).map fun i => (n / 2 ^ (56 - 8 * i)) % 256
def padN (n : Nat) : List Nat := 128 :: List.replicate ((119 - n % 64) % 64) 0 ++ be64N (8 * n)
theorem be64N_eq (n : Nat) : natI (be64N n) = be64 (n : Int) := by
  unfold natI be64N be64
  rw [List.map_map]
  refine List.map_congr_left (fun i hi => ?_)
  show (((n / 2 ^ (56 - 8 * i) % 256 : Nat)) : Int) = (n : Int) / 2 ^ (56 - 8 * i) % 256
  rw [Int.natCast_emod, Int.natCast_ediv, Int.natCast_pow]; rfl
theorem padN_eq (n : Nat) : natI (padN n) = padOf n := by
  unfold padN padOf
  rw [natI_app, be64N_eq]
  simp [natI]
theorem padN_by (n : Nat) : ByN (padN n) := ByN.of_all (fun x hx => by
  unfold padN be64N at hx
  simp only [List.cons_append, List.mem_cons, List.mem_append, List.mem_replicate, List.mem_map] at hx
  rcases hx with rfl | ⟨_, rfl⟩ | ⟨i, _, rfl⟩
  · decide
  · decide
  · exact Nat.mod_lt _ (by decide))
def wbN (w : Nat) : List Nat := [w / 16777216 % 256, w / 65536 % 256, w / 256 % 256, w % 256]
def outN (a b c d e f g h : Nat) : List Nat := wbN a ++ wbN b ++ wbN c ++ wbN d ++ wbN e ++ wbN f ++ wbN g ++ wbN h
theorem outN_eq (a b c d e f g h : Nat) : outI (stN a b c d e f g h) = natI (outN a b c d e f g h) := by
  unfold outI stN St.list outN wbN natI
  simp [List.range_succ]
def shaN (l : List Nat) : List Nat := normL (l ++ padN l.length) fun m => blocksN (m.length / 64) m 1779033703 3144134277 1013904242 2773480762 1359893119 2600822924 528734635 1541459225 outN
theorem shaN_eq {l : List Nat} (h : ByN l) : sha (natI l) = natI (shaN l) := by
  obtain ⟨a, b, c, d, e, f, g, i, hb, hs, hk⟩ := blocksN_eq outN ((l ++ padN l.length).length / 64) (l ++ padN l.length) (h.app (padN_by _)) 1779033703 3144134277 1013904242 2773480762 1359893119 2600822924 528734635 1541459225 ⟨by decide, by decide, by decide, by decide, by decide, by decide, by decide, by decide⟩
  unfold sha hst shaN
  rw [normL_eq, hk, ← outN_eq, ← hs]
  have e1 : natI l ++ padOf (natI l).length = natI (l ++ padN l.length) := by rw [natI_app, padN_eq, natI_len]
  rw [e1, natI_len]
  rfl
end Go.Proofs.YtkjckmdiolgmcaaDoor
