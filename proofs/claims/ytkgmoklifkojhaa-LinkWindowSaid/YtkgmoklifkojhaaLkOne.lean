/- The methods of one end that a law has made. Conditions: numbers below a bound. -/
import Derived.Test.YtkgmoklifkojhaaLkDet
set_option linter.unusedSimpArgs false
set_option linter.unusedVariables false
namespace Go.Proofs.Ytkgmoklifkojhaa
open Go.RowKit
/-- An end that was made behind w0; L: blocks that are not its own; Mu: blocks that may be written. -/
structure One (w0 : World) (Mu L : Nat → Prop) (w : World) (pa : Nat) (A : EndS) : Prop where
  t : ∃ FA, EndAt Mu FA w pa A ∧ (∀ x, L x → ¬ FA x) ∧ ∀ x, FA x → w0.heap.size ≤ x
  ll : ∀ x, L x → x < w.heap.size
  e : Ext w0 w
theorem One.okA {w0 : World} {Mu L : Nat → Prop} {w : World} {pa : Nat} {A : EndS} (h : One w0 Mu L w pa A) : EndOk A := by
  obtain ⟨⟨FA, hA, _⟩, _⟩ := h
  exact hA.ok
/-- New memory: it is none of the end's, and may be written. -/
theorem One.ext {w0 : World} {Mu L : Nat → Prop} {w w' : World} {pa : Nat} {A : EndS} (h : One w0 Mu L w pa A) (hE : Ext w w') : One w0 (fun b => Mu b ∨ (w.heap.size ≤ b ∧ b < w'.heap.size)) (fun b => L b ∨ (w.heap.size ≤ b ∧ b < w'.heap.size)) w' pa A := by
  obtain ⟨⟨FA, hA, hL, h0⟩, hll, e⟩ := h
  have hk : Kept (fun _ => False) w w' := Kept.of_ext hE
  refine ⟨⟨FA, hA.frame hk (fun _ h => h.elim) (fun _ h => h.elim) (fun b hb h => h.resolve_right (by omega)) (fun b hb => Or.inl hb) ?_, ?_, h0⟩, ?_, e.next hE⟩
  · rintro b (hb | hb)
    · exact Nat.lt_of_lt_of_le (hA.1 b hb) hE.size
    · exact hb.2
  · rintro x (hx | hx)
    · exact hL x hx
    · exact fun hf => by have := hA.fl x hf; omega
  · rintro x (hx | hx)
    · exact Nat.lt_of_lt_of_le (hll x hx) hE.size
    · exact hx.2
/-- The law writes a block of its own. -/
theorem One.own {w0 : World} {Mu L F : Nat → Prop} {w w' : World} {pa : Nat} {A : EndS} (h : One w0 Mu L w pa A) (hk : Kept F w w') (hF : ∀ x, F x → L x ∧ Mu x ∧ w0.heap.size ≤ x) : One w0 Mu L w' pa A := by
  obtain ⟨⟨FA, hA, hL, h0⟩, hll, e⟩ := h
  exact ⟨⟨FA, hA.frame hk (fun b hb => (hF b hb).2.1) (fun b hb => hL b (hF b hb).1) (fun _ _ h => h) (fun _ h => h) (fun b hb => Nat.lt_of_lt_of_le (hA.1 b hb) hk.size), hL, h0⟩, fun x hx => Nat.lt_of_lt_of_le (hll x hx) hk.size, ext_kept e hk (fun b hb => (hF b hb).2.2)⟩
theorem on_made (w0 w : World) (e : Ext w0 w) (k1 key : Int) (h1 : 1 ≤ k1) (h2 : k1 ≤ 16) (h5 : 0 ≤ key) (h6 : key ≤ 18446744073709551615) :
    Calls Try.prog 28 #[.int .i64 k1, .int .u64 key] w fun e w1 => ∃ pa Mu, e = .returned (.tuple #[.pointer (some ⟨pa, 0, none⟩), .int .i64 0]) ∧ Ext w w1 ∧ One w0 Mu (fun b => b < w.heap.size) w1 pa (newE k1 key) := by
  refine (new_any k1 key w h1 h2 h5 h6).mono ?_
  rintro e2 w1 ⟨pa, rfl, hE1, FA, hFA, hA⟩
  refine ⟨pa, _, rfl, hE1, ⟨FA, hA (fun _ => False) (fun _ h => h.elim), fun x hx hf => ?_, fun x hx => ?_⟩, fun x hx => Nat.lt_of_lt_of_le hx hE1.size, e.next hE1⟩
  · have := (hFA x hf).1
    omega
  · exact Nat.le_trans e.size (hFA x hx).1
theorem on_out {w0 : World} {Mu L : Nat → Prop} {w : World} {pa : Nat} {A : EndS} (S : One w0 Mu L w pa A) :
    Calls Try.prog 13 #[.pointer (some ⟨pa, 0, none⟩)] w fun e w' => ∃ OA oc n ovs, e = .returned (.slice OA n oc) ∧ (outL A).length = n ∧ w'.ownsRow w.heap.size 33 1 (.slice OA n oc) n ovs ∧ Pks w' w.heap.size ovs (outL A) ∧ One w0 (fun b => Mu b ∨ (w.heap.size ≤ b ∧ b < w'.heap.size)) (fun b => L b ∨ (w.heap.size ≤ b ∧ b < w'.heap.size)) w' pa (outE A) ∧ Kept (fun x => Mu x ∧ ¬ L x) w w' := by
  obtain ⟨⟨FA, hA, hL, h0⟩, hll, e⟩ := S
  refine (out_any Mu FA pa A w hA).mono ?_
  rintro e2 w' ⟨OA, oc, n, ovs, rfl, hn, ho, hp, hk, hE⟩
  refine ⟨OA, oc, n, ovs, rfl, hn, ho, hp, ⟨⟨FA, hE, ?_, h0⟩, ?_, ext_kept e hk h0⟩, hk.mono (fun b _ hF => ⟨hA.fm b hF, fun h => hL b h hF⟩)⟩
  · rintro x (hx | hx)
    · exact hL x hx
    · exact fun hf => by have := hA.fl x hf; omega
  · rintro x (hx | hx)
    · exact Nat.lt_of_lt_of_le (hll x hx) hk.size
    · exact hx.2
theorem on_in {w0 : World} {Mu L : Nat → Prop} {w : World} {pa : Nat} {A : EndS} (S : One w0 Mu L w pa A) (x : List Int) (ad : Option Addr) (n c : Nat) (hl : Rd w w.heap.size ad n (u8s x)) (hby : Byt x) (hn : n ≤ 1000000000) (hnc : n ≤ c) (hc : c ≤ 9223372036854775807)
    (hff : A.forged < 1000000000) (hft : A.tot < 1000000000) (hfc : A.delivered + A.cnt < 1000000000) :
    Calls Try.prog 19 #[.pointer (some ⟨pa, 0, none⟩), .slice ad n c] w fun e w' => ∃ OA oc k ovs, e = .returned (.tuple #[.slice OA k oc, .int .i64 (inE A x).1.2]) ∧ (inE A x).1.1.length = k ∧ w'.ownsRow w.heap.size 33 1 (.slice OA k oc) k ovs ∧ Msgs Mu w' ovs (inE A x).1.1 ∧ One w0 Mu (fun b => L b ∨ (w.heap.size ≤ b ∧ b < w'.heap.size)) w' pa (inE A x).2 ∧ Kept (fun x => Mu x ∧ ¬ L x) w w' := by
  obtain ⟨⟨FA, hA, hL, h0⟩, hll, e⟩ := S
  refine (in_any Mu FA pa A x ad n c w hA hl hby hn hnc hc hff hft hfc).mono ?_
  rintro e2 w' ⟨OA, oc, k, ovs, rfl, hk1, ho, hp, hk, hE⟩
  refine ⟨OA, oc, k, ovs, rfl, hk1, ho, hp, ⟨⟨FA, hE, ?_, h0⟩, ?_, ext_kept e hk h0⟩, hk.mono (fun b _ hF => ⟨hA.fm b hF, fun h => hL b h hF⟩)⟩
  · rintro x (hx | hx)
    · exact hL x hx
    · exact fun hf => by have := hA.fl x hf; omega
  · rintro x (hx | hx)
    · exact Nat.lt_of_lt_of_le (hll x hx) hk.size
    · exact hx.2
theorem on_forged {w0 : World} {Mu L : Nat → Prop} {w : World} {pa : Nat} {A : EndS} (S : One w0 Mu L w pa A) :
    Calls Try.prog 22 #[.pointer (some ⟨pa, 0, none⟩)] w fun e w' => e = .returned (.int .i64 A.forged) ∧ w' = w := by
  obtain ⟨⟨FA, hA, hL, h0⟩, hll, e⟩ := S
  exact forged_any Mu FA pa A w hA
theorem on_waiting {w0 : World} {Mu L : Nat → Prop} {w : World} {pa : Nat} {A : EndS} (S : One w0 Mu L w pa A) :
    Calls Try.prog 21 #[.pointer (some ⟨pa, 0, none⟩)] w fun e w' => e = .returned (.int .i64 A.waiting.length) ∧ w' = w := by
  obtain ⟨⟨FA, hA, hL, h0⟩, hll, e⟩ := S
  exact waiting_any Mu FA pa A w hA
end Go.Proofs.Ytkgmoklifkojhaa
