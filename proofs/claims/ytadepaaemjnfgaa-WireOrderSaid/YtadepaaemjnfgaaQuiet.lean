/- A region that draws its order, whose operations leave alone what is there but whose callees may make memory: one walk of the order of the text. No condition. -/
import Derived.Test.YtadepaaemjnfgaaExt
import Derived.BigQuiet
namespace Go.Proofs.Ytadepaaemjnfgaa
open Go.RowKit
/-- The worlds that extend w. -/
def ExtW (w : World) : Type := {W : World // Ext w W}
def ExtW.at_ {w : World} (X : ExtW w) : World := X.1
theorem ExtW.ext {w : World} (X : ExtW w) : Ext w X.at_ := X.2
instance (w : World) : Nonempty (ExtW w) := ⟨⟨w, Ext.refl w⟩⟩
theorem wp_region_ext {P : Program} {id : Nat} {Q : Exit → Act → World → Prop} {a : Act} {w : World} {l : List Oper} (hm : P.follows .mixedOrders = true) (hB : Region.lexB .any l.toArray = true)
    (h : wpQuiet P l.toArray (fun w' => ∃ X : ExtW w, w' = X.at_) (fun a' => ∀ w', (∃ X : ExtW w, w' = X.at_) → Q .normal a' w') l a) : (Code.region id l.toArray true).wp P Q a w :=
  wp_region_quiet (C := fun w' => ∃ X : ExtW w, w' = X.at_) hm hB ⟨⟨w.drew, (Ext.refl w).drew⟩, rfl⟩ (by simpa using h)
theorem ext_call {P : Program} {w : World} {f : FuncId} {args : Array Value} {v : Value} {W : World} {R : Ending → World → Prop} (hc : Calls P f args W R) (h : ∀ e w', R e w' → e = .returned v ∧ Ext w w') : Calls P f args W fun e w' => e = .returned v ∧ ∃ X : ExtW w, w' = X.at_ :=
  hc.mono fun e w' hr => ⟨(h e w' hr).1, ⟨w', (h e w' hr).2⟩, rfl⟩
end Go.Proofs.Ytadepaaemjnfgaa
