/- sign's Sign. Conditions: a seed of 32 bytes, a height up to 6, an index of the tree. -/
import Derived.Test.YtkjckmdiolgmcaaDoorSgU
import Derived.Test.YtkjckmdiolgmcaaDoorSgDig
import Derived.Test.YtkjckmdiolgmcaaDoorSgX
import Derived.Laws.Shifts
set_option linter.unusedSimpArgs false
set_option linter.unusedVariables false
namespace Go.Proofs.YtkjckmdiolgmcaaDoor
open Go.RowKit
attribute [local go_sem ↓] wp_at_zero wp_at_succ
/-- The world cut off at n blocks. -/
def cutW (w : World) (n : Nat) : World := { w with heap := w.heap.extract 0 n }
theorem cutW_size (w : World) (n : Nat) (h : n ≤ w.heap.size) : (cutW w n).heap.size = n := by
  simp [cutW]; omega
theorem cutW_ext (w : World) (n : Nat) (h : n ≤ w.heap.size) : Ext (cutW w n) w := by
  refine ⟨rfl, rfl, rfl, by rw [cutW_size w n h]; exact h, fun k hk => ?_⟩
  rw [cutW_size w n h] at hk
  unfold cutW
  show w.heap[k]? = (w.heap.extract 0 n)[k]?
  simp [Array.getElem?_extract, hk]
  omega
theorem NEnv.cut {w : World} {seed : ByteArray} {mb sb ab hm n : Nat} (h : NEnv w seed mb sb ab hm) (hn : n ≤ w.heap.size) (h1 : mb < n) (h2 : sb < n) (h3 : ab < n) (h4 : hm < n) (h5 : 0 < n) : NEnv (cutW w n) seed mb sb ab hm := by
  have hE := cutW_ext w n hn
  have hs := cutW_size w n hn
  obtain ⟨c1, c2, c3, l1, l2, l3, hm1, ht, hz⟩ := h
  refine ⟨(hE.cell (p := ⟨mb, 0, none⟩) (by rw [hs]; exact h1)).symm.trans c1, (hE.cell (p := ⟨sb, 0, none⟩) (by rw [hs]; exact h2)).symm.trans c2, (hE.cell (p := ⟨ab, 0, none⟩) (by rw [hs]; exact h3)).symm.trans c3, by omega, by omega, by omega, ?_, ?_, hz⟩
  · obtain ⟨L, ⟨es, clock, hb, r⟩, h2⟩ := hm1
    exact ⟨L, ⟨es, clock, (hE.block hm (by omega)).symm.trans hb, r⟩, h2⟩
  · obtain ⟨t, fr, h⟩ := ht
    exact ⟨t, fr, (hE.block _ (by omega)).symm.trans h⟩
/-- What Sign has at hand: the memo, and a builder made behind it. -/
structure SS (w : World) (seed : ByteArray) (mb sb ab hm base : Nat) (W : World) (L : List Int) : Prop where
  ext : Ext w W
  env : NEnv W seed mb sb ab hm
  bld : Bld base W base L
  hle : w.heap.size ≤ hm
  l1 : mb < base
  l2 : sb < base
  l3 : ab < base
  l4 : hm < base
  l5 : 0 < base
  l6 : w.heap.size ≤ base
  l7 : base < W.heap.size
theorem SS.next {w : World} {seed : ByteArray} {mb sb ab hm base : Nat} {W W' : World} {L : List Int} (h : SS w seed mb sb ab hm base W L) (hE : Ext W W') : SS w seed mb sb ab hm base W' L :=
  ⟨h.ext.next hE, h.env.ext hE, h.bld.ext hE, h.hle, h.l1, h.l2, h.l3, h.l4, h.l5, h.l6, Nat.lt_of_lt_of_le h.l7 hE.size⟩
theorem own_ge {w : World} {base : Nat} {e : TypeId} {size : Nat} {v : Value} {n : Nat} {xs : List Value} (ho : w.ownsRow base e size v n xs) {b : Nat} (hb : v.ownBlock = some b) : base ≤ b := by
  rcases ho.2 with ⟨h1, _⟩ | ⟨g, cap, cur, h1, h2, _⟩
  · rw [h1] at hb; cases hb
  · rw [h1] at hb
    have e1 : g = b := by simpa [Value.ownBlock] using hb
    omega
theorem Bld.kept {F : Nat → Prop} {base : Nat} {w w' : World} {b : Nat} {L : List Int} (h : Bld base w b L) (hk : Kept F w w') (hF : ∀ x, F x → x < base) (hb : base ≤ b) : Bld base w' b L := by
  obtain ⟨h0, p, A, c, hp, hbk, ho, hn⟩ := h
  refine ⟨h0, p, A, c, hp, hk.blk hbk (fun hf => by have := hF _ hf; omega), hk.own ho (fun x hx hf => ?_), hn⟩
  have h1 := own_ge ho hx
  have h2 := hF x hf
  omega
theorem SS.nr {w : World} {seed : ByteArray} {mb sb ab hm base : Nat} {W W' : World} {L : List Int} (h : SS w seed mb sb ab hm base W L) (hr : NR seed hm W W') : SS w seed mb sb ab hm base W' L :=
  ⟨nr_ext h.ext hr h.hle, h.env.next hr, h.bld.kept hr.1 (fun x hx => by rw [hx]; exact h.l4) (Nat.le_refl _), h.hle, h.l1, h.l2, h.l3, h.l4, h.l5, h.l6, Nat.lt_of_lt_of_le h.l7 hr.1.size⟩
theorem SS.back {w : World} {seed : ByteArray} {mb sb ab hm base : Nat} {W w' : World} {L : List Int} (h : SS w seed mb sb ab hm base W L) (hE : Ext (cutW W base) w') : Ext w w' := by
  have hl : base ≤ W.heap.size := Nat.le_of_lt h.l7
  have hsz := hE.size
  rw [cutW_size W base hl] at hsz
  refine ⟨hE.os.trans h.ext.os, hE.tape.trans h.ext.tape, hE.output.trans h.ext.output, Nat.le_trans h.l6 hsz, fun b hb => ?_⟩
  have h6 := h.l6
  rw [hE.block b (by rw [cutW_size W base hl]; omega)]
  have h2 := (cutW_ext W base hl).block b (by rw [cutW_size W base hl]; omega)
  rw [← h2]
  exact h.ext.block b hb
theorem SS.string {w : World} {seed : ByteArray} {mb sb ab hm base : Nat} {W : World} {L : List Int} (h : SS w seed mb sb ab hm base W L) (hB : Byt L) (h0 : 0 < L.length) (hlen : L.length ≤ 1000000000) :
    Calls Tryd.prog 20 #[.pointer (some ⟨base, 0, none⟩)] W fun e w' => e = .returned (.string (strOf L)) ∧ Ext w w' := by
  have hl : base ≤ W.heap.size := Nat.le_of_lt h.l7
  refine (string_any base base L W (cutW W base) h.bld hB h0 hlen (cutW_size W base hl).symm (cutW_ext W base hl)).mono ?_
  rintro e w' ⟨rfl, hE, -⟩
  exact ⟨rfl, h.back hE⟩
theorem SS.write {w : World} {seed : ByteArray} {mb sb ab hm base : Nat} {W : World} {L : List Int} (h : SS w seed mb sb ab hm base W L) (X : List Int) (B : Option Addr) (k d : Nat) (hx : Rd W W.heap.size B k (u8s X)) (hlen : L.length + k ≤ 1000000000) :
    Calls Tryd.prog 16 #[.pointer (some ⟨base, 0, none⟩), .slice B k d] W fun e w' => e = .returned (.tuple #[.int .i64 k, .nilIface]) ∧ SS w seed mb sb ab hm base w' (L ++ X) ∧ ∀ g t cs, g ≠ base → t ≠ 5 → Blk W g t cs → Blk w' g t cs := by
  have hl : base ≤ W.heap.size := Nat.le_of_lt h.l7
  refine (write_any base base L X B k d W (cutW W base) h.bld hx hlen (cutW_size W base hl).symm (cutW_ext W base hl)).mono ?_
  rintro e w' ⟨rfl, hB, hE, hK⟩
  have hn := (h.env.cut hl h.l1 h.l2 h.l3 h.l4 h.l5).ext hE
  have hsz := hE.size
  rw [cutW_size W base hl] at hsz
  have hE2 : Ext w w' := by
    refine ⟨hE.os.trans h.ext.os, hE.tape.trans h.ext.tape, hE.output.trans h.ext.output, Nat.le_trans h.l6 hsz, fun b hb => ?_⟩
    have h6 := h.l6
    rw [hE.block b (by rw [cutW_size W base hl]; omega)]
    have h2 := (cutW_ext W base hl).block b (by rw [cutW_size W base hl]; omega)
    rw [← h2]
    exact h.ext.block b hb
  have hb2 := hB
  obtain ⟨h0, p, A, c, hp, hbk, ho, hn2⟩ := hb2
  exact ⟨rfl, ⟨hE2, hn, hB, h.hle, h.l1, h.l2, h.l3, h.l4, h.l5, h.l6, hbk.lt⟩, hK⟩
end Go.Proofs.YtkjckmdiolgmcaaDoor
