/- The reference's Once as a list, and that it holds what the program's Standing counts. No condition. -/
import Derived.Test.YtphabdlcjpfbaaaRvW
set_option linter.unusedSimpArgs false
set_option linter.unusedVariables false
namespace Go.Proofs.Ytphabdlcjpfbaaa
open Go.RowKit
instance ltK_dec (a b : Rev) : Decidable (ltK a b) := by unfold ltK; infer_instance
/-- How many elements lie ahead of y. -/
def posX : List RX → RX → Nat
  | [], _ => 0
  | x :: M, y => if ltK x.r y.r then posX M y + 1 else 0
def hitB (M : List RX) (y : RX) : Bool := match M[posX M y]? with
  | some x => decide (keyX x = keyX y)
  | none => false
def insX (M : List RX) (y : RX) : List RX := if hitB M y then M else M.take (posX M y) ++ y :: M.drop (posX M y)
def onceX (L : List RX) : List RX := L.foldl insX []
def StrK (M : List RX) : Prop := M.Pairwise fun a b => ltK a.r b.r
theorem ltK_trans {a b c : Rev} (h1 : ltK a b) (h2 : ltK b c) : ltK a c := by unfold ltK at *; omega
theorem ltK_irr (a : Rev) : ¬ ltK a a := by unfold ltK; omega
theorem ltK_tot {a b : RX} (h1 : ¬ ltK a.r b.r) (h2 : ¬ keyX a = keyX b) : ltK b.r a.r := by
  unfold keyX at h2
  rw [Prod.mk.injEq] at h2
  unfold ltK at *
  omega
theorem posX_le (M : List RX) (y : RX) : posX M y ≤ M.length := by
  induction M with
  | nil => exact Nat.le_refl _
  | cons x M ih =>
    unfold posX
    split
    · simp only [List.length_cons]; omega
    · exact Nat.zero_le _
theorem posX_take (M : List RX) (y : RX) : ∀ x ∈ M.take (posX M y), ltK x.r y.r := by
  induction M with
  | nil => intro x hx; simp at hx
  | cons z M ih =>
    intro x hx
    unfold posX at hx
    split at hx
    · rename_i hz
      rw [List.take_succ_cons] at hx
      rcases List.mem_cons.1 hx with rfl | hx
      · exact hz
      · exact ih x hx
    · simp at hx
theorem posX_at (M : List RX) (y : RX) {x : RX} (h : M[posX M y]? = some x) : ¬ ltK x.r y.r := by
  induction M with
  | nil => simp at h
  | cons z M ih =>
    unfold posX at h
    split at h
    · rw [List.getElem?_cons_succ] at h; exact ih h
    · rename_i hz
      rw [List.getElem?_cons_zero, Option.some.injEq] at h
      rw [← h]; exact hz
theorem strK_drop {M : List RX} (hM : StrK M) (y : RX) (hh : hitB M y = false) : ∀ x ∈ M.drop (posX M y), ltK y.r x.r := by
  intro x hx
  obtain ⟨j, hj⟩ := List.mem_iff_getElem?.1 hx
  rw [List.getElem?_drop] at hj
  have hlt : posX M y + j < M.length := (List.getElem?_eq_some_iff.1 hj).1
  have h0 : M[posX M y]? = some (M[posX M y]'(by omega)) := List.getElem?_eq_getElem _
  have h1 : ltK y.r (M[posX M y]'(by omega)).r := by
    refine ltK_tot (posX_at M y h0) (fun e => ?_)
    unfold hitB at hh
    rw [h0] at hh
    dsimp only at hh
    rw [decide_eq_false_iff_not] at hh
    exact hh e
  rcases Nat.eq_zero_or_pos j with h | h
  · subst h
    rw [Nat.add_zero, h0, Option.some.injEq] at hj
    rw [← hj]; exact h1
  · have h2 := List.pairwise_iff_getElem.1 hM (posX M y) (posX M y + j) (by omega) hlt (by omega)
    rw [(List.getElem?_eq_some_iff.1 hj).2] at h2
    exact ltK_trans h1 h2
theorem insX_str {M : List RX} (hM : StrK M) (y : RX) : StrK (insX M y) := by
  unfold insX
  split
  · exact hM
  · rename_i hh
    have hh : hitB M y = false := by simpa using hh
    unfold StrK
    rw [List.pairwise_append]
    refine ⟨List.Pairwise.sublist (List.take_sublist _ _) hM, ?_, ?_⟩
    · rw [List.pairwise_cons]
      exact ⟨strK_drop hM y hh, List.Pairwise.sublist (List.drop_sublist _ _) hM⟩
    · intro a ha b hb
      rcases List.mem_cons.1 hb with rfl | hb
      · exact posX_take M _ a ha
      · exact ltK_trans (posX_take M y a ha) (strK_drop hM y hh b hb)
theorem hitB_iff {M : List RX} (hM : StrK M) (y : RX) : hitB M y = true ↔ keyX y ∈ M.map keyX := by
  constructor
  · intro h
    unfold hitB at h
    split at h
    · rename_i x hx
      exact List.mem_map.2 ⟨x, List.mem_of_getElem? hx, of_decide_eq_true h⟩
    · cases h
  · intro h
    cases hh : hitB M y with
    | true => rfl
    | false =>
      obtain ⟨x, hx, hk⟩ := List.mem_map.1 h
      rw [← List.take_append_drop (posX M y) M] at hx
      have hkk : x.r.shop = y.r.shop ∧ x.r.seq = y.r.seq := by unfold keyX at hk; exact Prod.mk.inj hk
      rcases List.mem_append.1 hx with hx | hx
      · have h1 := posX_take M y x hx
        unfold ltK at h1
        omega
      · have h1 := strK_drop hM y hh x hx
        unfold ltK at h1
        omega
theorem onceX_snoc (L : List RX) (x : RX) : onceX (L ++ [x]) = insX (onceX L) x := by unfold onceX; rw [List.foldl_append]; rfl
theorem onceX_all (L : List RX) : StrK (onceX L) ∧ (onceX L).Perm (frsF L).1 ∧ ∀ k, k ∈ (onceX L).map keyX ↔ k ∈ (frsF L).2 := by
  have h : ∀ (M R : List RX), M.reverse = R → StrK (onceX R) ∧ (onceX R).Perm (frsF R).1 ∧ ∀ k, k ∈ (onceX R).map keyX ↔ k ∈ (frsF R).2 := by
    intro M
    induction M with
    | nil =>
      intro R hR
      subst hR
      exact ⟨List.Pairwise.nil, List.Perm.refl _, fun k => Iff.rfl⟩
    | cons x M ih =>
      intro R hR
      rw [List.reverse_cons] at hR
      subst hR
      obtain ⟨h1, h2, h3⟩ := ih _ rfl
      rw [onceX_snoc, frsF_snoc]
      refine ⟨insX_str h1 x, ?_, fun k => ?_⟩
      · unfold insX stepF
        dsimp only
        by_cases hh : hitB (onceX M.reverse) x = true
        · rw [if_pos hh, if_pos ((h3 _).1 ((hitB_iff h1 x).1 hh))]
          exact h2
        · rw [if_neg hh, if_neg (fun h => hh ((hitB_iff h1 x).2 ((h3 _).2 h)))]
          refine List.perm_middle.trans ?_
          rw [List.take_append_drop]
          exact (List.Perm.cons x h2).trans (List.perm_append_singleton x _).symm
      · unfold insX stepF
        dsimp only
        rw [List.mem_cons]
        by_cases hh : hitB (onceX M.reverse) x = true
        · rw [if_pos hh, h3]
          exact ⟨Or.inr, fun h => h.elim (fun e => e ▸ (h3 _).1 ((hitB_iff h1 x).1 hh)) id⟩
        · rw [if_neg hh, List.map_append, List.map_cons, List.mem_append, List.mem_cons, ← h3]
          conv => rhs; rw [← List.take_append_drop (posX (onceX M.reverse) x) (onceX M.reverse), List.map_append, List.mem_append]
          constructor
          · rintro (h | h | h)
            · exact Or.inr (Or.inl h)
            · exact Or.inl h
            · exact Or.inr (Or.inr h)
          · rintro (h | h | h)
            · exact Or.inr (Or.inl h)
            · exact Or.inl h
            · exact Or.inr (Or.inr h)
  exact h L.reverse L (List.reverse_reverse L)
/-- Two lists in strict order with the same elements are one. -/
theorem strict_eq : ∀ (a b : List Rev), a.Pairwise ltK → b.Pairwise ltK → a.Perm b → a = b
  | [], b, _, _, h => (List.Perm.nil_eq h)
  | x :: a, [], _, _, h => (by have := h.length_eq; simp at this)
  | x :: a, y :: b, h1, h2, h => by
    rw [List.pairwise_cons] at h1 h2
    have hxy : x = y := by
      have hx : x ∈ y :: b := h.subset (List.mem_cons_self ..)
      have hy : y ∈ x :: a := h.symm.subset (List.mem_cons_self ..)
      rcases List.mem_cons.1 hx with e | hx
      · exact e
      · rcases List.mem_cons.1 hy with e | hy
        · exact e.symm
        · exact absurd (ltK_trans (h1.1 y hy) (h2.1 x hx)) (ltK_irr x)
    subst hxy
    rw [strict_eq a b h1.2 h2.2 ((List.perm_cons x).1 h)]
theorem any_perm {α : Type} {a b : List α} (h : a.Perm b) (f : α → Bool) : a.any f = b.any f := by
  rw [Bool.eq_iff_iff, List.any_eq_true, List.any_eq_true]
  exact ⟨fun ⟨x, hx, hf⟩ => ⟨x, h.subset hx, hf⟩, fun ⟨x, hx, hf⟩ => ⟨x, h.symm.subset hx, hf⟩⟩
theorem stdB_perm (day : Int) {a b : List RX} (h : a.Perm b) : stdB day a = stdB day b := by
  funext x
  unfold stdB goneB
  rw [any_perm h]
/-- The reference's Standing. -/
def standX (day : Int) (L : List RX) : List RX := (onceX L).filter (stdB day (onceX L))
theorem std_agree (L : List RX) (day : Int) (M : List RX) (hp : (M.map (·.r)).Perm (((frsF L).1.filter (stdB day (frsF L).1)).map (·.r))) (hs : SortK M) : M.map (·.r) = (standX day L).map (·.r) := by
  obtain ⟨h1, h2, _⟩ := onceX_all L
  have h3 : (M.map (·.r)).Perm ((standX day L).map (·.r)) := by
    refine hp.trans ?_
    unfold standX
    rw [stdB_perm day h2]
    exact ((h2.filter _).map _).symm
  have h4 : ((standX day L).map (·.r)).Pairwise ltK := by
    rw [List.pairwise_map]
    exact List.Pairwise.sublist List.filter_sublist h1
  refine strict_eq _ _ ?_ h4 h3
  have h5 : ((standX day L).map (·.r)).Pairwise fun a b => ¬ (a.shop = b.shop ∧ a.seq = b.seq) := h4.imp fun h => by unfold ltK at h; omega
  have h6 : (M.map (·.r)).Pairwise fun a b => ¬ (a.shop = b.shop ∧ a.seq = b.seq) := (h3.pairwise_iff (fun h => by omega)).2 h5
  have h7 : (M.map (·.r)).Pairwise fun a b => ¬ ltK b a := by rw [List.pairwise_map]; exact hs
  exact (List.pairwise_and_iff.2 ⟨h6, h7⟩).imp fun {a b} h => by unfold ltK at *; omega
end Go.Proofs.Ytphabdlcjpfbaaa
