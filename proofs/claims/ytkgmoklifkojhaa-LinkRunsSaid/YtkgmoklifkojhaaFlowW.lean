/- A region that draws its order and holds two operations that change old memory, the second of which waits for the first: by phases. No condition. -/
import Derived.Test.YtkgmoklifkojhaaGF
set_option linter.unusedSimpArgs false
set_option linter.unusedVariables false
namespace Go.Proofs.Ytkgmoklifkojhaa
open Go.RowKit
section
variable {P : Program} {ops : Array Oper} {Q : Exit → Act → World → Prop}
/-- The walk of one operation at the frame F. Ph k holds while k of the writing operations are done; the others leave R. -/
def flowStepW (P : Program) (l : List Oper) (Q : Exit → Act → World → Prop) (F : (Nat → Value) → Act) (L1 L2 : Nat) (R : World → World → Prop) (Ph : Nat → World → Prop) (Iv : World → Prop) (Raw : Nat → Value → Prop) (o : Oper) (i : Nat) : Prop :=
  ∀ (us : Nat → Value) (W : World) (K : Act → World → Prop), cond (i == L1) (Ph 0 W) (cond (i == L2) (Ph 1 W) (Iv W)) → (∀ j, waitsB o j = true → Raw j (us j)) →
    (∀ v W', Raw i v → cond (i == L1) (Ph 1 W') (cond (i == L2) (Ph 2 W') (R W W')) → K ((F us).put o.dst v) W') → wpList P l.toArray (Exit.then K Q) [o] (F us) W
def flowStepsW (P : Program) (l : List Oper) (Q : Exit → Act → World → Prop) (F : (Nat → Value) → Act) (L1 L2 : Nat) (R : World → World → Prop) (Ph : Nat → World → Prop) (Iv : World → Prop) (Raw : Nat → Value → Prop) : List Oper → Nat → Prop
  | [], _ => True
  | o :: r, k => flowStepW P l Q F L1 L2 R Ph Iv Raw o k ∧ flowStepsW P l Q F L1 L2 R Ph Iv Raw r (k + 1)
theorem flowStepsW_at {l : List Oper} {F : (Nat → Value) → Act} {L1 L2 : Nat} {R : World → World → Prop} {Ph : Nat → World → Prop} {Iv : World → Prop} {Raw : Nat → Value → Prop} : ∀ {r : List Oper} {k i : Nat} {o : Oper}, flowStepsW P l Q F L1 L2 R Ph Iv Raw r k → r[i]? = some o → flowStepW P l Q F L1 L2 R Ph Iv Raw o (k + i)
  | [], _, _, _, _, h => by simp at h
  | x :: r, k, 0, o, hs, h => by
    simp only [List.getElem?_cons_zero, Option.some.injEq] at h
    subst h
    exact hs.1
  | x :: r, k, i + 1, o, hs, h => by
    simp only [List.getElem?_cons_succ] at h
    have := flowStepsW_at hs.2 h
    rw [show k + 1 + i = k + (i + 1) by omega] at this
    exact this
def phW (L1 L2 : Nat) (Ph : Nat → World → Prop) (listed : Array Bool) (W : World) : Prop := cond (listed.getD L2 false) (Ph 2 W) (cond (listed.getD L1 false) (Ph 1 W) (Ph 0 W))
theorem getD_set_at {listed : Array Bool} {i : Nat} (h : i < listed.size) : (listed.setIfInBounds i true).getD i false = true := by
  rw [Array.getD_eq_getD_getElem?, Array.getElem?_setIfInBounds_self_of_lt h]; rfl
theorem flow_anyW {l : List Oper} {n L1 L2 : Nat} {o2 : Oper} {F : (Nat → Value) → Act} {R : World → World → Prop} {Ph : Nat → World → Prop} {Iv : World → Prop} {Raw : Nat → Value → Prop} {a : Act} (hF : ∀ us, flowAct us (l.take n) 0 a = F us) (hB : flowB l n = true) (hL1 : L1 < n) (hL2 : l[L2]? = some o2) (hL2n : L2 < n) (hw : waitsB o2 L1 = true) (hne : L1 ≠ L2) (hRs : ∀ k W W', R W W' → Ph k W → Ph k W') (hI : ∀ k W, Ph k W → Iv W)
    (hs : flowStepsW P l Q F L1 L2 R Ph Iv Raw (l.take n) 0)
    (ht : ∀ us W, Ph 2 W → (∀ j, j < n → Raw j (us j)) → wpList P l.toArray Q (l.drop n) (F us) W) :
    ∀ (m : Nat) (listed : Array Bool) (us : Nat → Value) (W : World), cntU n listed = m → HeadInv .any l.toArray n listed → phW L1 L2 Ph listed W → (∀ j, j < n → listed.getD j false = true → Raw j (us j)) →
      wpAny P .any l.toArray Q (m + (l.length - n)) listed (flowAct us (l.take n) 0 a) W := by
  simp only [flowB, Bool.and_eq_true, Bool.or_eq_true, decide_eq_true_eq] at hB
  obtain ⟨⟨⟨⟨hn, hdis⟩, hback⟩, hsink⟩, hseq⟩ := hB
  intro m
  induction m with
  | zero =>
    intro listed us W hc inv hp hf
    have hfull := full_eq inv (by simpa using hn) hc
    have hz := cntU_zero hc
    unfold phW at hp
    rw [hz L2 hL2n] at hp
    rw [Nat.zero_add, hfull]
    have := wpAny_of_seq (P := P) (md := .any) (ops := l.toArray) (Q' := Q) (l.drop n) n (headFull n l.toArray.size) (flowAct us (l.take n) 0 a) W (fun j => by simp [List.getElem?_drop]) (by simpa using hseq) (by rw [hF]; exact ht us W hp (fun j hj => hf j hj (hz j hj)))
    rw [List.length_drop] at this
    exact this
  | succ m ih =>
    intro listed us W hc inv hp hf
    rw [show m + 1 + (l.length - n) = (m + (l.length - n)) + 1 by omega]
    obtain ⟨i0, hi0, hu0, hl0⟩ := cntU_first (n := n) (listed := listed) (by omega)
    have hin0 : i0 < listed.size := by rw [inv.size]; simp; omega
    have hu0' : listed.getD i0 true = false := getD_in hin0 hu0
    have ho0 : l[i0]? = some (l[i0]'(by omega)) := List.getElem?_eq_getElem _
    have hr0 : i0 ∈ Region.ready .any l.toArray listed := mem_ready.2 ⟨hu0', _, by rw [List.getElem?_toArray]; exact ho0, fun e he hb => hl0 _ (by have := backB_spec hback ho0 e he hb; omega)⟩
    refine ⟨fun h => (by rw [h] at hr0; cases hr0), fun i hi => ?_⟩
    obtain ⟨hiu, o, ho, hall⟩ := mem_ready.1 hi
    rw [List.getElem?_toArray] at ho
    have hil : i < l.length := (List.getElem?_eq_some_iff.1 ho).1
    have hin : i < n := by
      rcases Nat.lt_or_ge i n with h | h
      · exact h
      · rcases hsink with he | ⟨⟨hlt, hsi⟩, hch⟩
        · omega
        · exact absurd hi (tail_waits hsi hch (by simpa using hlt) inv _ i0 rfl hi0 hu0' i h)
    have hoh : (l.take n)[i]? = some o := by rw [List.getElem?_take, if_pos hin]; exact ho
    have hstep := flowStepsW_at hs hoh
    have hlt : i < listed.size := by rw [inv.size]; simpa using hil
    have hif : listed.getD i false = false := by
      cases h : listed.getD i false with
      | false => rfl
      | true =>
        rw [Array.getD_eq_getD_getElem?, Array.getElem?_eq_getElem hlt] at h hiu
        simp only [Option.getD_some] at h hiu
        rw [h] at hiu
        cases hiu
    rw [Nat.zero_add] at hstep
    obtain ⟨e2, he2, hb2⟩ := Array.any_eq_true'.1 hw
    simp only [Bool.and_eq_true, beq_iff_eq] at hb2
    have h21 : listed.getD L2 false = true → listed.getD L1 false = true := fun h => by
      have h3 := inv.closed L2 o2 (by rw [List.getElem?_toArray]; exact hL2) h e2 he2 hb2.1
      rw [hb2.2] at h3
      exact h3
    rw [hF]
    refine wpOp_of_one (by rw [List.getElem?_toArray]; exact ho) (hstep us W _ ?_ (fun j hj => ?_) (fun v W' hv hWW => ?_))
    · unfold phW at hp
      by_cases h1 : i = L1
      · subst h1
        have h2 : listed.getD L2 false = false := by
          cases h : listed.getD L2 false with
          | false => rfl
          | true => rw [h21 h] at hif; cases hif
        rw [h2, hif] at hp
        simpa using hp
      · rw [show (i == L1) = false by simpa using h1]
        by_cases h2 : i = L2
        · subst h2
          have h3 : listed.getD L1 false = true := by
            have hoo : o = o2 := by rw [hL2] at ho; injection ho with ho; exact ho.symm
            rw [hoo] at hall
            have h4 := hall e2 he2 hb2.1
            rw [hb2.2] at h4
            exact h4
          rw [hif, h3] at hp
          simpa using hp
        · rw [show (i == L2) = false by simpa using h2]
          simp only [cond_false]
          cases ha : listed.getD L2 false <;> rw [ha] at hp
          · cases hb : listed.getD L1 false <;> rw [hb] at hp
            · exact hI 0 W hp
            · exact hI 1 W hp
          · exact hI 2 W hp
    · obtain ⟨e, he, hb⟩ := Array.any_eq_true'.1 hj
      simp only [Bool.and_eq_true, beq_iff_eq] at hb
      have h1 := hall e he hb.1
      have h2 := backB_spec hback ho e he hb.1
      rw [hb.2] at h1 h2
      exact hf j (by omega) h1
    · rw [← hF, flowAct_put us v (l.take n) 0 i o a hdis hoh, Nat.zero_add]
      refine ih (listed.setIfInBounds i true) (upd us i v) W' (by have := cntU_set hin hiu; omega) (inv.set hi hin) ?_ (fun j hj hjl => ?_)
      · unfold phW at hp ⊢
        by_cases h1 : i = L1
        · subst h1
          have h2 : listed.getD L2 false = false := by
            cases h : listed.getD L2 false with
            | false => rfl
            | true => rw [h21 h] at hif; cases hif
          rw [getD_set_ne false hne, h2, getD_set_at hlt]
          simpa using hWW
        · rw [show (i == L1) = false by simpa using h1] at hWW
          by_cases h2 : i = L2
          · subst h2
            rw [getD_set_at hlt]
            simpa using hWW
          · rw [show (i == L2) = false by simpa using h2] at hWW
            simp only [cond_false] at hWW
            rw [getD_set_ne false h2, getD_set_ne false h1]
            cases ha : listed.getD L2 false <;> rw [ha] at hp
            · cases hb : listed.getD L1 false <;> rw [hb] at hp
              · exact hRs 0 _ _ hWW hp
              · exact hRs 1 _ _ hWW hp
            · exact hRs 2 _ _ hWW hp
      · by_cases hji : j = i
        · subst hji
          simp only [upd, if_true]
          exact hv
        · simp only [upd, if_neg hji]
          rw [getD_set_ne false (Ne.symm hji)] at hjl
          exact hf j hj hjl
/-- A REGION BY THE FLOW OF ITS DATA, operations L1 and then L2 of which change old memory. -/
theorem wp_region_flowW {id : Nat} {a : Act} {w : World} {l : List Oper} (n L1 L2 : Nat) (o2 : Oper) (F : (Nat → Value) → Act) (hF : ∀ us, flowAct us (l.take n) 0 a = F us) (hm : P.follows .mixedOrders = true) (hB : flowB l n = true) (hL1 : L1 < n) (hL2 : l[L2]? = some o2) (hL2n : L2 < n) (hw : waitsB o2 L1 = true) (hne : L1 ≠ L2) (R : World → World → Prop) (Ph : Nat → World → Prop) (Iv : World → Prop) (hRs : ∀ k W W', R W W' → Ph k W → Ph k W') (hI : ∀ k W, Ph k W → Iv W) (h0 : Ph 0 w.drew) (Raw : Nat → Value → Prop)
    (hs : flowStepsW P l Q F L1 L2 R Ph Iv Raw (l.take n) 0)
    (ht : ∀ us W, Ph 2 W → (∀ j, j < n → Raw j (us j)) → wpList P l.toArray Q (l.drop n) (F us) W) : (Code.region id l.toArray true).wp P Q a w := by
  refine wp_region_any hm ?_
  have hn : n ≤ l.length := by
    simp only [flowB, Bool.and_eq_true, decide_eq_true_eq] at hB
    exact hB.1.1.1.1
  let us0 : Nat → Value := fun i => match (l.take n)[i]? with | some o => (match o.dst with | some d => a.tmps.getD d undef | none => undef) | none => undef
  have h00 : flowAct us0 (l.take n) 0 a = a := flowAct_own (l.take n) 0 a us0 fun i o ho => by simp only [us0, Nat.zero_add, ho] <;> (cases o.dst <;> rfl)
  have hc : cntU n (Array.replicate l.toArray.size false) = n := by
    unfold cntU
    rw [List.filter_eq_self.2 (fun i _ => by rw [getD_replicate_false]; rfl), List.length_range]
  have inv0 : HeadInv .any l.toArray n (Array.replicate l.toArray.size false) :=
    ⟨by simp, fun j oj _ hl => (by rw [getD_replicate_false] at hl; cases hl), fun t _ ht => getD_in (by simpa using ht) (getD_replicate_false _ _)⟩
  have H := flow_anyW (Q := Q) hF hB hL1 hL2 hL2n hw hne hRs hI hs ht n _ us0 w.drew hc inv0 (by unfold phW; rw [getD_replicate_false, getD_replicate_false]; exact h0) (fun j _ hj => by rw [getD_replicate_false] at hj; cases hj)
  rw [h00, show n + (l.length - n) = l.toArray.size by simp; omega] at H
  exact H
end
end Go.Proofs.Ytkgmoklifkojhaa
