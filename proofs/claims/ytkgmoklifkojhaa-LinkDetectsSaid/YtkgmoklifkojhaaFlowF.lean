/- XFlow's law with the frame made literal once. No condition. -/
import Derived.Test.YtkgmoklifkojhaaFlow
namespace Go.Proofs.Ytkgmoklifkojhaa
open Go.RowKit
section
variable {P : Program} {ops : Array Oper} {Q : Exit → Act → World → Prop}
/-- The walk of one operation at the frame F. -/
def flowStepF (P : Program) (l : List Oper) (Q : Exit → Act → World → Prop) (F : (Nat → Value) → Act) (R : World → World → Prop) (Raw : Nat → Value → World → Prop) (w0 : World) (o : Oper) (i : Nat) : Prop :=
  ∀ (us : Nat → Value) (W : World) (K : Act → World → Prop), R w0 W → (∀ j, waitsB o j = true → Raw j (us j) W) →
    (∀ v W', (∀ W'', R W' W'' → Raw i v W'') → R W W' → K ((F us).put o.dst v) W') → wpList P l.toArray (Exit.then K Q) [o] (F us) W
def flowStepsF (P : Program) (l : List Oper) (Q : Exit → Act → World → Prop) (F : (Nat → Value) → Act) (R : World → World → Prop) (Raw : Nat → Value → World → Prop) (w0 : World) : List Oper → Nat → Prop
  | [], _ => True
  | o :: r, k => flowStepF P l Q F R Raw w0 o k ∧ flowStepsF P l Q F R Raw w0 r (k + 1)
theorem flowStepsF_of {l hd : List Oper} {F : (Nat → Value) → Act} {R : World → World → Prop} {Raw : Nat → Value → World → Prop} {a : Act} {w0 : World} (hF : ∀ us, flowAct us hd 0 a = F us) : ∀ {r : List Oper} {k : Nat}, flowStepsF P l Q F R Raw w0 r k → flowSteps P l Q hd R Raw a w0 r k
  | [], _, _ => trivial
  | o :: r, k, ⟨h1, h2⟩ => ⟨fun us W K h3 h4 h5 => by rw [hF]; exact h1 us W K h3 h4 (fun v W' h6 h7 => by have := h5 v W' h6 h7; rwa [hF] at this), flowStepsF_of hF h2⟩
theorem wp_region_flowF {id : Nat} {a : Act} {w : World} {l : List Oper} (n : Nat) (F : (Nat → Value) → Act) (hF : ∀ us, flowAct us (l.take n) 0 a = F us) (hm : P.follows .mixedOrders = true) (hB : flowB l n = true) (R : World → World → Prop) (hR0 : ∀ w, R w w) (hRt : ∀ {x y z}, R x y → R y z → R x z) (Raw : Nat → Value → World → Prop)
    (hs : flowStepsF P l Q F R Raw w.drew (l.take n) 0)
    (ht : ∀ us W, R w.drew W → (∀ j, j < n → Raw j (us j) W) → wpList P l.toArray Q (l.drop n) (F us) W) : (Code.region id l.toArray true).wp P Q a w :=
  wp_region_flow n hm hB R hR0 hRt Raw (flowStepsF_of hF hs) (fun us W h1 h2 => by rw [hF]; exact ht us W h1 h2)
end
end Go.Proofs.Ytkgmoklifkojhaa
