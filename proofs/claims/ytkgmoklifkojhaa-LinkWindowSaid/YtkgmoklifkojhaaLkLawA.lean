/- What the walks of the laws on links share: the sealers with their results' addresses. No condition. -/
import Derived.Test.YtkgmoklifkojhaaLkPlain
import Derived.Test.YtkgmoklifkojhaaLkOne
set_option linter.unusedSimpArgs false
set_option linter.unusedVariables false
namespace Go.Proofs.Ytkgmoklifkojhaa
open Go.RowKit
/-- A new row of bytes with an address. -/
def NewRow (w w' : World) (e : Ending) (n : Nat) (X : List Int) : Prop :=
  ∃ g c, e = .returned (.slice (some ⟨g, 0, none⟩) n c) ∧ (n ≤ c ∧ c ≤ 9223372036854775807) ∧ (w.heap.size ≤ g ∧ g < w'.heap.size) ∧ w'.ownsRow w.heap.size 5 1 (.slice (some ⟨g, 0, none⟩) n c) n (u8s X) ∧ Ext w w'
theorem newRow_of {w w' : World} {e : Ending} {n : Nat} {X : List Int} {A : Option Addr} {c : Nat} (h : e = .returned (.slice A n c)) (ho : w'.ownsRow w.heap.size 5 1 (.slice A n c) n (u8s X)) (h0 : 0 < n) (hE : Ext w w') : NewRow w w' e n X := by
  have hc := slice_cap ho
  rcases ho.2 with ⟨_, h2⟩ | ⟨g, cap, cur, h1, h2, h3, _⟩
  · omega
  · injection h1 with h1 _ h4
    subst h1
    exact ⟨g, c, h, hc, ⟨h2, (Array.getElem?_eq_some_iff.1 h3).1⟩, ho, hE⟩
theorem lsealR (key : Int) (k0 : 0 ≤ key) (k1 : key ≤ 18446744073709551615) (l : List Int) (A : Option Addr) (n c : Nat) (w : World) (hl : Rd w w.heap.size A n (u8s l)) (hby : Byt l) (hn : n ≤ 10000000000) (X : List Int) (hX : X = sealL key l) (m : Nat) (hm : m = n + 8) :
    Calls Try.prog 24 #[.int .u64 key, .slice A n c] w fun e w' => NewRow w w' e m X :=
  (lseal_any key k0 k1 l A n c w hl hby hn).mono fun e w' ⟨⟨A', c', h1, h2⟩, h3⟩ => by
    have hlen : l.length = n := by simpa [u8s] using hl.1
    have e1 : (sealL key l).length = m := by rw [sealL_length]; omega
    rw [e1, ← hX] at h2
    rw [e1] at h1
    exact newRow_of h1 h2 (by omega) h3
theorem rsealR (key : Int) (k0 : 0 ≤ key) (k1 : key ≤ 18446744073709551615) (l : List Int) (A : Option Addr) (n c : Nat) (w : World) (hl : Rd w w.heap.size A n (u8s l)) (hby : Byt l) (hn : n ≤ 10000000000) (X : List Int) (hX : X = sealL key l) (m : Nat) (hm : m = n + 8) :
    Calls Try.prog 17 #[.int .u64 key, .slice A n c] w fun e w' => NewRow w w' e m X :=
  (rseal_any key k0 k1 l A n c w hl hby hn).mono fun e w' ⟨⟨A', c', h1, h2⟩, h3⟩ => by
    have hlen : l.length = n := by simpa [u8s] using hl.1
    have e1 : (sealL key l).length = m := by rw [sealL_length]; omega
    rw [e1, ← hX] at h2
    rw [e1] at h1
    exact newRow_of h1 h2 (by omega) h3
theorem rbytesR (seq ack : Int) (s0 : -9223372036854775808 ≤ seq) (s1 : seq ≤ 9223372036854775807) (a0 : -9223372036854775808 ≤ ack) (a1 : ack ≤ 9223372036854775807) (l : List Int) (A : Option Addr) (n c : Nat) (w : World) (hl : Rd w w.heap.size A n (u8s l)) (hby : Byt l) (hn : n ≤ 1000000000) (X : List Int) (hX : X = packL seq ack l) (m : Nat) (hm : m = X.length) :
    Calls Try.prog 18 #[.agg #[.int .i64 seq, .int .i64 ack, .slice A n c]] w fun e w' => NewRow w w' e m X :=
  (rbytesP_any seq ack s0 s1 a0 a1 l A n c w hl hby hn).mono fun e w' ⟨⟨A', c', h1, h2⟩, h3⟩ => by
    rw [← hX, ← hm] at h2
    rw [← hX, ← hm] at h1
    refine newRow_of h1 h2 ?_ h3
    rw [hm, hX]
    unfold packL
    have := encB_pos (strOf l)
    rw [List.length_append]
    omega
theorem few_row (l : List Int) (A : Option Addr) (n c : Nat) (m : Int) (M k : Nat) (w : World) (hl : Rd w w.heap.size A n (u8s l)) (hnc : n ≤ c) (hc : c ≤ 9223372036854775807) (hM : m = M) (hM2 : M ≤ 1000000000) (hk : k = min n M) (L : List Int) (hL : L = l.take k) (h0 : 0 < k) :
    Calls Try.prog 16 #[.slice A n c, .int .i64 m] w fun e w' => NewRow w w' e k L :=
  (few_int l A n c m M k w hl hnc hc hM hM2 hk L hL).mono fun e w' ⟨⟨A', c', h1, h2, h3⟩, h4⟩ => newRow_of h1 h3 h0 h4
theorem Ext.setOwn {w w' : World} (h : Ext w w') {g : Nat} (hg : w.heap.size ≤ g) (j : Nat) (v : Value) : Ext w (w'.setCell ⟨g, j, none⟩ v) :=
  ext_kept h (Kept.setCell (F := fun b => b = g) (p := ⟨g, j, none⟩) w' rfl v) (fun b hb => by rw [hb]; exact hg)
theorem own_set {w : World} {b : Nat} {g n c : Nat} {X : List Int} (ho : w.ownsRow b 5 1 (.slice (some ⟨g, 0, none⟩) n c) n (u8s X)) (j : Nat) (v : Int) : (w.setCell ⟨g, j, none⟩ (.int .u8 v)).ownsRow b 5 1 (.slice (some ⟨g, 0, none⟩) n c) n (u8s (X.set j v)) := by
  have := (ho.stored j (.int .u8 v)).1
  simpa [u8s, List.map_set] using this
theorem own_cell {w : World} {b : Nat} {g n c : Nat} {X : List Int} (ho : w.ownsRow b 5 1 (.slice (some ⟨g, 0, none⟩) n c) n (u8s X)) (j : Nat) (hj : j < n) : w.cell? ⟨g, j, none⟩ = some (.int .u8 (X.getD j 0)) ∧ w.frozen? ⟨g, j, none⟩ = false := by
  have hl : X.length = n := by simpa [u8s] using ho.1
  exact ⟨(ho.cellAt j (by omega)).trans (u8s_get X j (by omega)), ho.frozenAt j⟩
theorem rd_own {w : World} {b : Nat} {A : Option Addr} {n c : Nat} {X : List Int} (ho : w.ownsRow b 5 1 (.slice A n c) n (u8s X)) : Rd w w.heap.size A n (u8s X) := Rd.of_own ho
theorem newE_few (k key : Int) : (newE k key).forged < 1000000000 ∧ (newE k key).tot < 1000000000 ∧ (newE k key).delivered + (newE k key).cnt < 1000000000 :=
  ⟨by show (0 : Int) < 1000000000; decide, by show (0 : Nat) < 1000000000; decide, by show (0 : Int) + ((0 : Nat) : Int) < 1000000000; decide⟩
theorem byt_set {X : List Int} (h : Byt X) (j : Nat) {v : Int} (hv : 0 ≤ v ∧ v ≤ 255) : Byt (X.set j v) := fun x hx => (List.mem_or_eq_of_mem_set hx).elim (h x) (fun e => e ▸ hv)
theorem wf_u64 {x : Int} (h : (Lit.int .u64 x).wf = true) : 0 ≤ x ∧ x ≤ 18446744073709551615 := by
  simp [Lit.wf, IntKind.min, IntKind.max, IntKind.bits, IntKind.signed] at h
  omega
theorem wf_u8 {x : Int} (h : (Lit.int .u8 x).wf = true) : 0 ≤ x ∧ x ≤ 255 := by
  simp [Lit.wf, IntKind.min, IntKind.max, IntKind.bits, IntKind.signed] at h
  omega
theorem around_nat (x : Int) (n : Nat) (h : 0 < n) : ∃ j : Nat, (j : Int) = aroundI x n ∧ j < n := by
  have := aroundI_bd x n (by omega)
  exact ⟨(aroundI x n).toNat, by omega, by omega⟩
theorem ext_undrew {w w' : World} (h : Ext w.drew w') : Ext w w' := (Ext.refl w).drew.next h
theorem ext_drew {w w' : World} (h : Drew w w') : Ext w w' := h.below _
end Go.Proofs.Ytkgmoklifkojhaa
