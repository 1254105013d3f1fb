/- A region that draws its order inside a round of a range over a function, by the flow of its data. No condition. -/
import Derived.Test.YtjeecfjeooehhaaGreatDoorGF
import Derived.RangeFuncBox
import Derived.RangeFuncLeaves
import Derived.RangeFuncCalls
import Derived.RangeFuncFrom
import Derived.OwnWalkIn
import Derived.TacticsInMore
import Derived.LoopNIn
import Derived.LoopIn
import Derived.OrdersIn
set_option linter.unusedSimpArgs false
set_option linter.unusedVariables false
namespace Go.Proofs.YtjeecfjeooehhaaGreatDoor
open Go.RowKit
section
variable {P : Program} {Q : Exit → Act → World → Prop}
def noDefer (o : Oper) : Bool := match o.op with
  | .defer _ => false
  | _ => true
/-- What an operation does, it does in a round too, if it is no defer statement. -/
theorem oper_in (l n : Nat) {o : Oper} {a : Act} {w : World} {K : Act → World → Prop} (hd : noDefer o = true) (h : o.wp P a w K Q) : o.wpIn (Fence.wide.inRound l) n P a w K Q := by
  unfold Oper.wpIn
  refine ⟨fun _ _ => trivial, ?_⟩
  show o.uponIn (Fence.wide.inRound l) n P a K Q ((o.semAt (some l) a.eval).run P w)
  rw [Oper.semAt_some l _ o (fun c hc => by unfold noDefer at hd; rw [hc] at hd; cases hd)]
  unfold Oper.wp at h
  generalize hx : (execOp a.eval o).run P w = r at *
  cases r with
  | ok x w' =>
    cases x <;>
      first
        | exact h
        | exact ⟨fun h => (by cases h), CallsIn.mono (callsIn_wide.2 h) (fun e w'' he => by cases e <;> exact he)⟩
        | exact ⟨fun h => (by cases h), fun c cs _ => let ⟨v, w', r, s⟩ := h c cs; ⟨v, w', r, stepsIn_wide.2 s⟩⟩
        | exact h.elim
  | halt x w' => cases x <;> exact h
theorem wpOp_in {ops : Array Oper} (l n : Nat) {i : Nat} {a : Act} {w : World} {K K' : Act → World → Prop} (hd : ∀ o, ops[i]? = some o → noDefer o = true) (hQ : ¬ LetsOut Q) (hK : ∀ a w, K a w → K' a w) (h : wpOp P ops Q i K a w) : wpOpIn (Fence.wide.inRound l) n P ops Q i K' a w := by
  unfold wpOp at h
  unfold wpOpIn
  split
  · rename_i ho; simp only [ho] at h; exact hK _ _ h
  · rename_i o ho
    simp only [ho] at h
    split
    · rename_i hw
      rw [if_pos hw] at h
      rcases h with h | h
      · exact oper_in l n (hd o ho) (Oper.wp_mono hK h)
      · exact absurd h.2 hQ
    · rename_i hw
      rw [if_neg hw] at h
      exact ⟨fun _ _ => trivial, hK _ _ h⟩
theorem wpAny_in {ops : Array Oper} {md : Region.Mode} (l n : Nat) (hd : ∀ (i : Nat) o, ops[i]? = some o → noDefer o = true) (hQ : ¬ LetsOut Q) : ∀ (fuel : Nat) (listed : Array Bool) (a : Act) (w : World), wpAny P md ops Q fuel listed a w → wpAnyIn (Fence.wide.inRound l) n P md ops Q fuel listed a w
  | 0, _, _, _, h => h
  | fuel + 1, listed, a, w, h => ⟨h.1, fun i hi => wpOp_in l n (hd i) hQ (fun a w => wpAny_in l n hd hQ fuel _ a w) (h.2 i hi)⟩
/-- wp_region_flowF in a round. -/
theorem wpIn_region_flowF (l0 m : Nat) {id : Nat} {a : Act} {w : World} {l : List Oper} (hnd : l.all noDefer = true) (hQ : ¬ LetsOut Q) (n : Nat) (F : (Nat → Value) → Act) (hF : ∀ us, flowAct us (l.take n) 0 a = F us) (hm : P.follows .mixedOrders = true) (hB : flowB l n = true) (R : World → World → Prop) (hR0 : ∀ w, R w w) (hRt : ∀ {x y z}, R x y → R y z → R x z) (Raw : Nat → Value → World → Prop)
    (hs : flowStepsF P l Q F R Raw w.drew (l.take n) 0)
    (ht : ∀ us W, R w.drew W → (∀ j, j < n → Raw j (us j) W) → wpList P l.toArray Q (l.drop n) (F us) W) : (Code.region id l.toArray true).wpIn (Fence.wide.inRound l0) m P Q a w := by
  refine wpIn_region_any hm ?_
  refine wpAny_in l0 m (fun i o ho => ?_) hQ _ _ _ _ ?_
  · rw [List.getElem?_toArray] at ho
    exact List.all_eq_true.1 hnd o (List.mem_of_getElem? ho)
  have hs' := flowStepsF_of (P := P) (Q := Q) (a := a) hF hs
  have ht' : ∀ us W, R w.drew W → (∀ j, j < n → Raw j (us j) W) → wpList P l.toArray Q (l.drop n) (flowAct us (l.take n) 0 a) W := fun us W h1 h2 => by rw [hF]; exact ht us W h1 h2
  have hn : n ≤ l.length := by
    simp only [flowB, Bool.and_eq_true, decide_eq_true_eq] at hB
    exact hB.1.1.1.1
  let us0 : Nat → Value := fun i => match (l.take n)[i]? with | some o => (match o.dst with | some d => a.tmps.getD d undef | none => undef) | none => undef
  have h0 : flowAct us0 (l.take n) 0 a = a := flowAct_own (l.take n) 0 a us0 fun i o ho => by simp only [us0, Nat.zero_add, ho]; cases o.dst <;> rfl
  have hc : cntU n (Array.replicate l.toArray.size false) = n := by
    unfold cntU
    rw [List.filter_eq_self.2 (fun i _ => by rw [getD_replicate_false]; rfl), List.length_range]
  have inv0 : HeadInv .any l.toArray n (Array.replicate l.toArray.size false) :=
    ⟨by simp, fun j oj _ hl => (by rw [getD_replicate_false] at hl; cases hl), fun t _ ht => getD_in (by simpa using ht) (getD_replicate_false _ _)⟩
  have H := flow_any (Q := Q) hB hR0 (fun h1 h2 => hRt h1 h2) hs' ht' n _ us0 w.drew hc inv0 (hR0 _) (fun j _ hj => by rw [getD_replicate_false] at hj; cases hj)
  rw [h0, show n + (l.length - n) = l.toArray.size by simp; omega] at H
  exact H
/-- wp_region_flowU in a round. A REGION BY THE FLOW OF ITS DATA, operation L of which changes old memory: the first n operations each once, the rest in its forced order. -/
theorem wpIn_region_flowU (l0 m : Nat) {id : Nat} {a : Act} {w : World} {l : List Oper} (hnd : l.all noDefer = true) (hQ : ¬ LetsOut Q) (n L : Nat) (oL : Oper) (late : Nat → Bool) (F : (Nat → Value) → Act) (hF : ∀ us, flowAct us (l.take n) 0 a = F us) (hm : P.follows .mixedOrders = true) (hB : flowB l n = true) (hL : l[L]? = some oL) (R1 R2 : World → World → Prop) (hR0 : ∀ w, R2 w w) (h21 : ∀ {x y}, R2 x y → R1 x y) (hR1t : ∀ {x y z}, R1 x y → R1 y z → R1 x z) (hR2t : ∀ {x y z}, R2 x y → R2 y z → R2 x z) (Raw : Nat → Value → World → Prop)
    (hs : flowStepsU P l Q F L oL late R1 R2 Raw w.drew (l.take n) 0)
    (ht : ∀ us W, R1 w.drew W → (∀ j, j < n → (late j || j == L) = true → Raw j (us j) W) → wpList P l.toArray Q (l.drop n) (F us) W) : (Code.region id l.toArray true).wpIn (Fence.wide.inRound l0) m P Q a w := by
  refine wpIn_region_any hm ?_
  refine wpAny_in l0 m (fun i o ho => ?_) hQ _ _ _ _ ?_
  · rw [List.getElem?_toArray] at ho
    exact List.all_eq_true.1 hnd o (List.mem_of_getElem? ho)
  have hn : n ≤ l.length := by
    simp only [flowB, Bool.and_eq_true, decide_eq_true_eq] at hB
    exact hB.1.1.1.1
  let us0 : Nat → Value := fun i => match (l.take n)[i]? with | some o => (match o.dst with | some d => a.tmps.getD d undef | none => undef) | none => undef
  have h0 : flowAct us0 (l.take n) 0 a = a := flowAct_own (l.take n) 0 a us0 fun i o ho => by simp only [us0, Nat.zero_add, ho] <;> (cases o.dst <;> rfl)
  have hc : cntU n (Array.replicate l.toArray.size false) = n := by
    unfold cntU
    rw [List.filter_eq_self.2 (fun i _ => by rw [getD_replicate_false]; rfl), List.length_range]
  have inv0 : HeadInv .any l.toArray n (Array.replicate l.toArray.size false) :=
    ⟨by simp, fun j oj _ hl => (by rw [getD_replicate_false] at hl; cases hl), fun t _ ht => getD_in (by simpa using ht) (getD_replicate_false _ _)⟩
  have H := flow_anyU (Q := Q) hF hB hL hR0 (fun h => h21 h) (fun h1 h2 => hR1t h1 h2) (fun h1 h2 => hR2t h1 h2) hs ht n _ us0 w.drew hc inv0 (h21 (hR0 _)) (fun _ => hR0 _) (fun j _ hj => by rw [getD_replicate_false] at hj; cases hj)
  rw [h0, show n + (l.length - n) = l.toArray.size by simp; omega] at H
  exact H
end
end Go.Proofs.YtjeecfjeooehhaaGreatDoor
