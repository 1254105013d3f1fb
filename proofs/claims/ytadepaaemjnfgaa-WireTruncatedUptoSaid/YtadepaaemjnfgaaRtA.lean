/- The encoders in the form that the laws use: a slice that reads as the encoding, not nil. No condition. -/
import Derived.Test.YtadepaaemjnfgaaWLaw
import Derived.Test.YtadepaaemjnfgaaRoundSpec
import Derived.Test.YtadepaaemjnfgaaTight
namespace Go.Proofs.Ytadepaaemjnfgaa
open Go.RowKit Go.WideShapes Go.ChangeShapes
theorem rd_at {w : World} {B : Nat} {A : Option Addr} {n : Nat} {xs : List Value} (h : Rd w B A n xs) (hn : 0 < n) : ∃ b o, A = some ⟨b, o, none⟩ ∧ Rd w B (some ⟨b, o, none⟩) n xs := by
  obtain ⟨b, o, rfl, _, _⟩ := h.2 hn
  exact ⟨b, o, rfl, h⟩
theorem encInt_pos (n : Int) : 0 < (encInt n).length := by rw [encInt_length]; omega
theorem intR (x : Int) (w : World) (h0 : -9223372036854775808 ≤ x) (h1 : x ≤ 9223372036854775807) (l : List Int) (k : Nat) (hl : encInt x = l) (hk : l.length = k) :
    Calls Try.prog 14 #[.int .i64 x] w fun e w' => (∃ b o c, e = .returned (.slice (some ⟨b, o, none⟩) k c) ∧ (k ≤ c ∧ c ≤ maxLen) ∧ Rd w' w'.heap.size (some ⟨b, o, none⟩) k (u8s l)) ∧ Ext w w' :=
  (wintL_any x w h0 h1).mono fun e w' h => by
    obtain ⟨⟨A, c, h, ho⟩, hB⟩ := h
    subst hl
    subst hk
    obtain ⟨b, o, rfl, hr⟩ := rd_at (Rd.of_own ho) (encInt_pos x)
    exact ⟨⟨b, o, c, h, slice_cap ho, hr⟩, hB⟩
theorem u8_one (l : List Int) : ∀ u ∈ u8s l, u.oneCell' = true := u8s_one l
end Go.Proofs.Ytadepaaemjnfgaa
