/- Strings as bytes: append(b, s...), []byte(s); the walks of wire.Bytes and the reference's Bytes. No condition. -/
import Derived.Test.YtkgmoklifkojhaaWireB
import Derived.Deep.RegionWith
namespace Go.Proofs.Ytkgmoklifkojhaa
open Go.RowKit
theorem strCells_eq (s : ByteArray) : Lib.strCells s = u8s (bys s) := by simp [Lib.strCells, u8s, bys]
section
variable {P : Program} {w : World}
theorem wpList_app_str {ops : Array Oper} {rest : List Oper} {o : Oper} {a : Act} {Q : Exit → Act → World → Prop} (hgd : o.guard = none) (sl x : Operand) (t u : TypeId)
    (ho : o.op = .call { callee := .builtin .append, args := #[sl, x], argTypes := #[t, u] })
    (base : Nat) (e : TypeId) (i : TypeInfo) (ht : P.underlying t = some (.slice e)) (hu : P.underlying u = some .string) (hi : P.info? e = some i) (hz : i.zero = some (.int .u8 0))
    (hsize : i.size = 1) (hby : i.bytes = 1)
    (A : Option Addr) (n c : Nat) (xs : List Value) (hs : a.eval sl = .slice A n c) (hown : w.ownsRow base e 1 (.slice A n c) n xs) (s : ByteArray) (hx : a.eval x = .string s)
    (h63 : n + s.size ≤ maxLen) (hbytes : n + s.size ≤ 140737488355328) (hbase : base ≤ w.heap.size)
    (h : ∀ A' c' w', w'.ownsRow base e 1 (.slice A' (n + s.size) c') (n + s.size) (xs ++ u8s (bys s)) → w.grownBy w' (Value.slice A n c).ownBlock → wpList P ops Q rest (a.put o.dst (.slice A' (n + s.size) c')) w') : wpList P ops Q (o :: rest) a w := by
  refine Lib.wpList_append_own_string (P := P) w hgd sl x t u ho base e i ht hu hi hz hsize hby _ n xs hs hown s hx h63 hbytes hbase fun v' w' h2 h3 _ => ?_
  rw [strCells_eq] at h2
  obtain ⟨A', c', rfl⟩ : ∃ A' c', v' = Value.slice A' (n + s.size) c' := by
    rcases h2.2 with ⟨rfl, h0⟩ | ⟨g, cap, cur, rfl, _⟩
    · exact ⟨none, 0, by rw [h0]⟩
    · exact ⟨_, _, rfl⟩
  exact h A' c' w' h2 h3
/-- '[]byte(s)': the string's bytes in a new block. -/
theorem run_toBytes (W : World) (src dst e : TypeId) (s : ByteArray) (hs : P.underlying src = some .string) (hd : P.underlying dst = some (.slice e)) (he : P.underlying e = some (.int .u8)) :
    ∃ c w', (convert src dst (.string s)).run P W = .ok (.slice (some ⟨W.heap.size, 0, none⟩) s.size c) w' ∧ Rd w' w'.heap.size (some ⟨W.heap.size, 0, none⟩) s.size (u8s (bys s)) ∧ Below W.heap.size W w' := by
  refine ⟨_, _, run_bytes_of_string W src dst e s hs hd he, ⟨by rw [u8s_length, bys_length], fun h0 => ⟨W.heap.size, 0, rfl, by simp, fun j v hv => ?_⟩⟩, ?_⟩
  · rw [Nat.zero_add]
    have hh : (W.drew.alloc (.cells (bytesRow s (grownCap W s.size 0 e)) e ((bytesRow s (grownCap W s.size 0 e)).size, (bytesRow s (grownCap W s.size 0 e)).size + 1))).heap[W.heap.size]? = some (.cells (bytesRow s (grownCap W s.size 0 e)) e ((bytesRow s (grownCap W s.size 0 e)).size, (bytesRow s (grownCap W s.size 0 e)).size + 1)) := heap_alloc_new W.drew _
    rw [cell_of_row _ _ _ _ _ _ hh]
    have hj : j < (u8s (bys s)).length := (List.getElem?_eq_some_iff.1 hv).1
    have hj2 : j < s.data.size := by rw [u8s_length, bys_length] at hj; exact hj
    rw [← hv]
    unfold bytesRow
    rw [Array.getElem?_append_left (by simpa using hj2)]
    simp [u8s, bys]
    cases s.data[j]? <;> rfl
  · exact ((Below.refl _ _).drew).alloc (Nat.le_refl _) _
end
theorem own_below {w w' : World} {base : Nat} {e : TypeId} {size : Nat} {v : Value} {n : Nat} {xs : List Value} (h : w.ownsRow base e size v n xs) (hb : Below w.heap.size w w') : w'.ownsRow base e size v n xs :=
  h.kept (row := none) ⟨hb.os, hb.tape, hb.output, hb.size, fun i hi _ => hb.block i hi⟩ (Classical.em _)
/-- The encoding of a byte string. -/
def encB (s : ByteArray) : List Int := encInt s.size ++ bys s
theorem encB_length (s : ByteArray) : (encB s).length = blen (mag s.size) + 1 + s.size := by simp [encB, encInt_length, bys_length]
theorem encB_byt (s : ByteArray) (h : s.size ≤ 1000000000000) : Byt (encB s) := (encInt_byt _ (by omega) (by omega)).app (bys_byt s)
set_option maxHeartbeats 400000 in
theorem wbytes_any (s : ByteArray) (w : World) (hs : s.size ≤ 1000000000000) :
    Calls Try.prog 27 #[.string s] w fun e w' => (∃ A c, e = .returned (.slice A (encB s).length c) ∧ w'.ownsRow w.heap.size 5 1 (.slice A (encB s).length c) (encB s).length (u8s (encB s))) ∧ Below w.heap.size w w' := by
  obtain ⟨i0, hi, hz0, hz1, hz2⟩ := info_parts winfo_u8
  rw [encB_length]
  have hk := blen_le (mag s.size) (mag_lt8 s.size (by omega) (by omega))
  obtain ⟨k, hkk⟩ : ∃ k, blen (mag s.size) = k := ⟨_, rfl⟩
  have HC := fun W => wint_any s.size W (by omega) (by omega)
  rw [hkk] at HC hk ⊢
  have HCC := Lib.hid HC; clear HC hkk
  go_enter Try.func27, Try.ntmps27
  go_wp2_with (first
    | (go_at_call 43; refine (HCC.out _).mono ?_; rintro e w1 ⟨⟨A, c, rfl, hown⟩, hB⟩; have hsz := hB.size)
    | (at_builtin; refine wpList_app_str rfl (.tmp 5) (.tmp 6) 33 9 rfl w.heap.size 5 i0 Try.underlying33 Try.underlying9 hi hz0 hz1 hz2 A (k + 1) c _ rfl hown s rfl (by simp only [maxLen]; omega) (by omega) hsz ?_; intro A4 c4 w4 hown4 hg4; have hb4 := below_app hB hg4 hown (Nat.le_refl _) hsz))
  all_goals go_ret
  all_goals exact ⟨⟨A4, c4, rfl, by unfold encB; rw [u8s_append]; exact hown4⟩, hb4⟩
set_option maxHeartbeats 400000 in
theorem rbytes_any (s : ByteArray) (w : World) (hs : s.size ≤ 1000000000000) :
    Calls Try.prog 35 #[.string s] w fun e w' => (∃ A c, e = .returned (.slice A (encB s).length c) ∧ w'.ownsRow w.heap.size 5 1 (.slice A (encB s).length c) (encB s).length (u8s (encB s))) ∧ Below w.heap.size w w' := by
  obtain ⟨i0, hi, hz0, hz1, hz2⟩ := info_parts winfo_u8
  rw [encB_length]
  have hk := blen_le (mag s.size) (mag_lt8 s.size (by omega) (by omega))
  obtain ⟨k, hkk⟩ : ∃ k, blen (mag s.size) = k := ⟨_, rfl⟩
  have HC := fun W => rint_any s.size W (by omega) (by omega)
  rw [hkk] at HC hk ⊢
  have HCC := Lib.hid HC; clear HC hkk
  go_enter Try.func35, Try.ntmps35
  go_wp2_with (first
    | (go_at_call 45; refine (HCC.out _).mono ?_; rintro e w1 ⟨⟨A, c, rfl, hown⟩, hB⟩; have hsz := hB.size; obtain ⟨cb, wb, hcb, hRb, hBb⟩ := run_toBytes (P := Try.prog) w1 9 33 5 s Try.underlying9 Try.underlying33 Try.underlying5; have hs2 := hBb.size)
    | (at_builtin; refine wpList_app rfl (.tmp 5) (.tmp 7) 33 rfl w.heap.size 5 i0 (.int .u8 0) 1 1 Try.underlying33 hi hz0 hz1 hz2 rfl (by omega) A (k + 1) c _ rfl (own_below hown hBb) wb.heap.size _ s.size cb (u8s (bys s)) rfl (RdN.of_Rd hRb) (u8s_one _) (by simp only [maxLen]; omega) (by omega) (by omega) ?_; intro A4 c4 w4 hown4 hg4; have hb4 := below_app (hB.trans (hBb.mono hsz)) hg4 (own_below hown hBb) (Nat.le_refl _) (by omega)))
  all_goals go_ret
  all_goals exact ⟨⟨A4, c4, rfl, by unfold encB; rw [u8s_append]; exact hown4⟩, hb4⟩
end Go.Proofs.Ytkgmoklifkojhaa
