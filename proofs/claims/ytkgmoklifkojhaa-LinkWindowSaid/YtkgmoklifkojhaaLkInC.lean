/- link's In, whole; Waiting, Forged. Conditions: numbers below a bound. -/
import Derived.Test.YtkgmoklifkojhaaLkInB
set_option linter.unusedSimpArgs false
set_option linter.unusedVariables false
namespace Go.Proofs.Ytkgmoklifkojhaa
open Go.RowKit
theorem in_any (Mu Ft : Nat → Prop) (p : Nat) (E : EndS) (x : List Int) (A : Option Addr) (n c : Nat) (w : World) (hE : EndAt Mu Ft w p E) (hl : Rd w w.heap.size A n (u8s x)) (hby : Byt x) (hn : n ≤ 1000000000) (hnc : n ≤ c) (hc : c ≤ 9223372036854775807)
    (hff : E.forged < 1000000000) (hft : E.tot < 1000000000) (hfc : E.delivered + E.cnt < 1000000000) :
    Calls Try.prog 19 #[.pointer (some ⟨p, 0, none⟩), .slice A n c] w fun e w' => InPost Mu Ft w p (inE E x) e w' := by
  rcases openL_two E.key x with h0 | ⟨h1, h2 | h2⟩
  · have hop : openL E.key x = ((openL E.key x).1, 0) := by rw [← h0]
    cases hr : readL (openL E.key x).1 with
    | none => exact in_none Mu Ft p E x A n c w hE hl hby hn hnc hc _ hop hr
    | some r =>
      obtain ⟨s, a, m⟩ := r
      exact in_pkt Mu Ft p E x A n c w hE hl hby hn hnc hc hft hfc _ s a m hop hr
  · exact in_short Mu Ft p E x A n c w hE hl hby hn hnc hc (by rw [← h1, ← h2])
  · exact in_forged Mu Ft p E x A n c w hE hl hby hn hnc hc hff (by rw [← h1, ← h2])
set_option maxRecDepth 100000 in
theorem waiting_any (Mu Ft : Nat → Prop) (p : Nat) (E : EndS) (w : World) (hE : EndAt Mu Ft w p E) :
    Calls Try.prog 21 #[.pointer (some ⟨p, 0, none⟩)] w fun e w' => e = .returned (.int .i64 E.waiting.length) ∧ w' = w := by
  obtain ⟨hml, WA, wc, hm, vs, h, I⟩ := hE
  have hc2 : w.cell? ⟨p, 2, none⟩ = some (.slice WA E.waiting.length wc) := I.blk.cell 2
  clear I
  go_enter Try.func21, Try.ntmps21
  go_wp2_with fail
  go_ret
  exact ⟨rfl, rfl⟩
set_option maxRecDepth 100000 in
theorem forged_any (Mu Ft : Nat → Prop) (p : Nat) (E : EndS) (w : World) (hE : EndAt Mu Ft w p E) :
    Calls Try.prog 22 #[.pointer (some ⟨p, 0, none⟩)] w fun e w' => e = .returned (.int .i64 E.forged) ∧ w' = w := by
  obtain ⟨hml, WA, wc, hm, vs, h, I⟩ := hE
  have hc7 : w.cell? ⟨p, 7, none⟩ = some (.int .i64 E.forged) := I.blk.cell 7
  clear I
  go_enter Try.func22, Try.ntmps22
  go_wp2_with fail
  go_ret
  exact ⟨rfl, rfl⟩
end Go.Proofs.Ytkgmoklifkojhaa
