/- What Of hashes determines the tag and the parts, in plain lists. No condition. -/
import Derived.Test.YtheaniplpmkhlaaDoorLawH
import Derived.Test.YtheaniplpmkhlaaDoorRoundSpec
namespace Go.Proofs.YtheaniplpmkhlaaDoor
open Go.RowKit
theorem toList_beq (x y : ByteArray) : (x.toList == y.toList) = decide (x = y) := by
  rw [Bool.eq_iff_iff]
  simp only [beq_iff_eq, decide_eq_true_eq]
  rw [ByteArray.toList_eq, ByteArray.toList_eq]
  constructor
  · intro h
    have h2 := Array.toList_inj.1 h
    cases x; cases y; simp_all
  · rintro rfl; rfl
theorem encB_inj {s t : ByteArray} {r q : List Int} (hs : s.size ≤ 400) (ht : t.size ≤ 400) (h : encB s ++ r = encB t ++ q) : s = t ∧ r = q := by
  have h1 : decS (encB s ++ r) = (s, ((encB s).length : Int), 0) := decS_enc s r (by omega)
  have h2 : decS (encB t ++ q) = (t, ((encB t).length : Int), 0) := decS_enc t q (by omega)
  rw [h, h2] at h1
  have hst : t = s := congrArg (·.1) h1
  subst hst
  exact ⟨rfl, List.append_cancel_left h⟩
theorem encs_inj : ∀ {a b : List ByteArray}, (∀ s ∈ a, s.size ≤ 400) → (∀ s ∈ b, s.size ≤ 400) → encs a = encs b → a = b
  | [], [], _, _, _ => rfl
  | [], t :: b, _, _, h => by
    have := congrArg List.length h
    simp only [encs, List.length_append, encB_length, List.length_nil] at this
    omega
  | s :: a, [], _, _, h => by
    have := congrArg List.length h
    simp only [encs, List.length_append, encB_length, List.length_nil] at this
    omega
  | s :: a, t :: b, ha, hb, h => by
    obtain ⟨h1, h2⟩ := encB_inj (ha s (List.mem_cons_self ..)) (hb t (List.mem_cons_self ..)) h
    rw [h1, encs_inj (fun x hx => ha x (List.mem_cons_of_mem _ hx)) (fun x hx => hb x (List.mem_cons_of_mem _ hx)) h2]
theorem inputB_inj {x y : Int} {a b : List ByteArray} (hx : 0 ≤ x ∧ x ≤ 255) (hy : 0 ≤ y ∧ y ≤ 255) (ha : fewB a = true) (hb : fewB b = true) (h : inputB x a = inputB y b) : x = y ∧ a = b := by
  unfold inputB at h
  injection h with h1 h2
  exact ⟨by omega, encs_inj ((fewB_iff a).1 ha).2 ((fewB_iff b).1 hb).2 h2⟩
theorem few_encs {l : List ByteArray} (h : fewB l = true) : (encs l).length ≤ 100000000000 := by
  have h2 := (fewB_iff l).1 h
  have h3 := encs_few l h2.2
  omega
theorem take_eq_succ {α : Type} [DecidableEq α] {a b : List α} {t : Nat} (d : α) (ha : t < a.length) (hb : t < b.length) : decide (a.take (t + 1) = b.take (t + 1)) = (decide (a.take t = b.take t) && decide (a.getD t d = b.getD t d)) := by
  rw [Bool.eq_iff_iff]
  simp only [Bool.and_eq_true, decide_eq_true_eq]
  have e1 : a[t]? = some (a.getD t d) := by simp [List.getD_eq_getElem?_getD, List.getElem?_eq_getElem ha]
  have e2 : b[t]? = some (b.getD t d) := by simp [List.getD_eq_getElem?_getD, List.getElem?_eq_getElem hb]
  rw [List.take_add_one, List.take_add_one, e1, e2]
  simp only [Option.toList_some]
  constructor
  · intro h
    have hl : (a.take t).length = (b.take t).length := by simp; omega
    have h2 := List.append_inj h hl
    exact ⟨h2.1, by simpa using h2.2⟩
  · rintro ⟨h1, h2⟩
    rw [h1, h2]
end Go.Proofs.YtheaniplpmkhlaaDoor
