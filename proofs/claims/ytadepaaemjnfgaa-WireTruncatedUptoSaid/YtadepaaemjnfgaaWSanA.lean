/- Calls of the wire functions at literal lists, each with a world of its own behind it. No condition. -/
import Derived.Test.YtadepaaemjnfgaaDigS
namespace Go.Proofs.Ytadepaaemjnfgaa
open Go.RowKit
theorem ext_drew {w w' : World} (h : Drew w w') : Ext w w' := h.below _
theorem lit_rd (w : World) (o : Obj) (cs : List Value) (t : TypeId) (n : Nat) (ho : o = .cells cs.toArray t) (hn : cs.length = n) : Rd (w.alloc o) (w.alloc o).heap.size (some ⟨w.heap.size, 0, none⟩) n cs := by
  subst ho; exact (Blk.fresh w t cs).rd hn
theorem gint_lit (l : List Int) (k : Nat) (x : Int × Int × Int) (hk : l.length = k) (hk9 : k ≤ 100) (hb : Byt l) (hx : getI l = x) (w : World) (o : Obj) (ho : o = .cells (u8s l).toArray 5) :
    Calls Try.prog 24 #[.slice (some ⟨w.heap.size, 0, none⟩) k k] (w.alloc o) fun e w' => e = .returned (tup3 x) ∧ Ext w w' :=
  (gint_any l _ k k _ (lit_rd w o (u8s l) _ k ho (by rw [u8s_length, hk])) hb (Nat.le_refl _) (by omega)).mono fun e w' h => by
    obtain ⟨h, rfl⟩ := h; exact ⟨by rw [h, hx], (Ext.refl w).alloc o⟩
theorem gbytes_lit (l : List Int) (k : Nat) (x : ByteArray × Int × Int) (hk : l.length = k) (hk9 : k ≤ 100) (hb : Byt l) (hx : decS l = x) (w : World) (o : Obj) (ho : o = .cells (u8s l).toArray 5) :
    Calls Try.prog 26 #[.slice (some ⟨w.heap.size, 0, none⟩) k k] (w.alloc o) fun e w' => e = .returned (tupS x) ∧ Ext w w' :=
  (gbytes_any l _ k k _ (lit_rd w o (u8s l) _ k ho (by rw [u8s_length, hk])) hb (Nat.le_refl _) (by omega) (by omega)).mono fun e w' h => by
    obtain ⟨h, rfl⟩ := h; exact ⟨by rw [h, hx], (Ext.refl w).alloc o⟩
theorem gints_lit (l : List Int) (k : Nat) (xs : List Int) (u er : Int) (n : Nat) (hk : l.length = k) (hk9 : k ≤ 100) (hb : Byt l) (hx : decList getI l = (xs, u, er)) (hn : xs.length = n) (w : World) (o : Obj) (ho : o = .cells (u8s l).toArray 5) :
    Calls Try.prog 28 #[.slice (some ⟨w.heap.size, 0, none⟩) k k] (w.alloc o) fun e w' => (∃ A c, e = .returned (.tuple #[.slice A n c, .int .i64 u, .int .i64 er]) ∧ Rd w' w'.heap.size A n (xs.map (Value.int .i64))) ∧ Ext w w' :=
  (gints_any l _ k k _ (lit_rd w o (u8s l) _ k ho (by rw [u8s_length, hk])) hb (Nat.le_refl _) (by omega) (by omega)).mono fun e w' h => by
    obtain ⟨⟨A, c, h, ho⟩, hB⟩ := h
    rw [hx] at h ho
    subst hn
    exact ⟨⟨A, c, h, Rd.of_own ho⟩, ((Ext.refl w).alloc o).next hB⟩
theorem gstrings_lit (l : List Int) (k : Nat) (xs : List ByteArray) (u er : Int) (n : Nat) (hk : l.length = k) (hk9 : k ≤ 100) (hb : Byt l) (hx : decList decS l = (xs, u, er)) (hn : xs.length = n) (w : World) (o : Obj) (ho : o = .cells (u8s l).toArray 5) :
    Calls Try.prog 31 #[.slice (some ⟨w.heap.size, 0, none⟩) k k] (w.alloc o) fun e w' => (∃ A c, e = .returned (.tuple #[.slice A n c, .int .i64 u, .int .i64 er]) ∧ Rd w' w'.heap.size A n (xs.map Value.string)) ∧ Ext w w' :=
  (gstrings_any l _ k k _ (lit_rd w o (u8s l) _ k ho (by rw [u8s_length, hk])) hb (Nat.le_refl _) (by omega) (by omega)).mono fun e w' h => by
    obtain ⟨⟨A, c, h, ho⟩, hB⟩ := h
    rw [hx] at h ho
    subst hn
    exact ⟨⟨A, c, h, Rd.of_own ho⟩, ((Ext.refl w).alloc o).next hB⟩
/-- An owned slice of bytes, as a list. -/
theorem enc_rd {w' : World} {base : Nat} {A : Option Addr} {c n : Nat} {l : List Int} (h : w'.ownsRow base 5 1 (.slice A n c) n (u8s l)) : Rd w' w'.heap.size A n (l.map (Value.int .u8)) := Rd.of_own h
/-- Same(a, []byte{..}) -/
theorem same_lit (l m : List Int) (n k : Nat) (hk : m.length = k) (hn : n ≤ 1000) (h : l = m) (A : Option Addr) (c : Nat) (w : World) (hl : Rd w w.heap.size A n (l.map (Value.int .u8))) (o : Obj) (ho : o = .cells (u8s m).toArray 5) :
    Calls Try.prog 13 #[.slice A n c, .slice (some ⟨w.heap.size, 0, none⟩) k k] (w.alloc o) fun e w' => e = .returned (.bool true) ∧ Ext w w' :=
  (same_any l m A _ n c k k _ (hl.ext' ((Ext.refl w).alloc o)) (lit_rd w o (m.map (Value.int .u8)) _ k ho (by rw [List.length_map, hk])) (by omega)).mono fun e w' hh => by
    obtain ⟨he, hd⟩ := hh
    exact ⟨by rw [he, decide_eq_true h], ((Ext.refl w).alloc o).next (hd.below _)⟩
theorem sameInts_lit (l m : List Int) (n k : Nat) (hk : m.length = k) (hn : n ≤ 1000) (h : l = m) (A : Option Addr) (c : Nat) (w : World) (hl : Rd w w.heap.size A n (l.map (Value.int .i64))) (o : Obj) (ho : o = .cells (m.map (Value.int .i64)).toArray 3) :
    Calls Try.prog 30 #[.slice A n c, .slice (some ⟨w.heap.size, 0, none⟩) k k] (w.alloc o) fun e w' => e = .returned (.bool true) ∧ Ext w w' :=
  (sameInts_any l m A _ n c k k _ (hl.ext' ((Ext.refl w).alloc o)) (lit_rd w o (m.map (Value.int .i64)) _ k ho (by rw [List.length_map, hk])) (by omega)).mono fun e w' hh => by
    obtain ⟨he, hd⟩ := hh
    exact ⟨by rw [he, decide_eq_true h], ((Ext.refl w).alloc o).next (hd.below _)⟩
theorem sameTexts_lit (l m : List ByteArray) (n k : Nat) (hk : m.length = k) (hn : n ≤ 1000) (h : l = m) (A : Option Addr) (c : Nat) (w : World) (hl : Rd w w.heap.size A n (l.map Value.string)) (o : Obj) (ho : o = .cells (m.map Value.string).toArray 9) :
    Calls Try.prog 33 #[.slice A n c, .slice (some ⟨w.heap.size, 0, none⟩) k k] (w.alloc o) fun e w' => e = .returned (.bool true) ∧ Ext w w' :=
  (sameTexts_any l m A _ n c k k _ (hl.ext' ((Ext.refl w).alloc o)) (lit_rd w o (m.map Value.string) _ k ho (by rw [List.length_map, hk])) (by omega)).mono fun e w' hh => by
    obtain ⟨he, hd⟩ := hh
    exact ⟨by rw [he, decide_eq_true h], ((Ext.refl w).alloc o).next (hd.below _)⟩
/-- The encoders at what they hand back, as lists. -/
theorem int_enc (n : Int) (l : List Int) (k : Nat) (hl : encInt n = l) (hk : l.length = k) (h0 : -9223372036854775808 ≤ n) (h1 : n ≤ 9223372036854775807) (w : World) :
    Calls Try.prog 14 #[.int .i64 n] w fun e w' => (∃ A c, e = .returned (.slice A k c) ∧ Rd w' w'.heap.size A k (l.map (Value.int .u8))) ∧ Ext w w' :=
  (wintL_any n w h0 h1).mono fun e w' h => by
    obtain ⟨⟨A, c, h, ho⟩, hB⟩ := h
    subst hl hk
    exact ⟨⟨A, c, h, enc_rd ho⟩, hB⟩
theorem bytes_enc (s : ByteArray) (l : List Int) (k : Nat) (hl : encB s = l) (hk : l.length = k) (hs : s.size ≤ 1000000000000) (w : World) :
    Calls Try.prog 16 #[.string s] w fun e w' => (∃ A c, e = .returned (.slice A k c) ∧ Rd w' w'.heap.size A k (l.map (Value.int .u8))) ∧ Ext w w' :=
  (wbytes_any s w hs).mono fun e w' h => by
    obtain ⟨⟨A, c, h, ho⟩, hB⟩ := h
    subst hl hk
    exact ⟨⟨A, c, h, enc_rd ho⟩, hB⟩
theorem ints_lit (xs : List Int) (l : List Int) (n k : Nat) (hl : encL encInt xs = l) (hk : l.length = k) (hk9 : k ≤ 1000) (hn : xs.length = n) (hn9 : n ≤ 1000) (hwf : ∀ x ∈ xs, -9223372036854775808 ≤ x ∧ x ≤ 9223372036854775807) (w : World) (o : Obj) (ho : o = .cells (xs.map (Value.int .i64)).toArray 3) :
    Calls Try.prog 18 #[.slice (some ⟨w.heap.size, 0, none⟩) n n] (w.alloc o) fun e w' => (∃ A c, e = .returned (.slice A k c) ∧ Rd w' w'.heap.size A k (l.map (Value.int .u8))) ∧ Ext w w' :=
  (ints_any xs _ n n _ (lit_rd w o (xs.map (Value.int .i64)) _ n ho (by rw [List.length_map, hn])) hwf (by rw [hl, hk]; omega) (by omega)).mono fun e w' h => by
    obtain ⟨⟨A, c, h, hown⟩, hB⟩ := h
    subst hl hk
    exact ⟨⟨A, c, h, enc_rd hown⟩, ((Ext.refl w).alloc o).next hB⟩
theorem strings_lit (xs : List ByteArray) (l : List Int) (n k : Nat) (hl : encL encB xs = l) (hk : l.length = k) (hk9 : k ≤ 1000) (hn : xs.length = n) (hn9 : n ≤ 1000) (hwf : ∀ x ∈ xs, x.size ≤ 1000000000000) (w : World) (o : Obj) (ho : o = .cells (xs.map Value.string).toArray 9) :
    Calls Try.prog 20 #[.slice (some ⟨w.heap.size, 0, none⟩) n n] (w.alloc o) fun e w' => (∃ A c, e = .returned (.slice A k c) ∧ Rd w' w'.heap.size A k (l.map (Value.int .u8))) ∧ Ext w w' :=
  (strings_any xs _ n n _ (lit_rd w o (xs.map Value.string) _ n ho (by rw [List.length_map, hn])) hwf (by rw [hl, hk]; omega) (by omega)).mono fun e w' h => by
    obtain ⟨⟨A, c, h, hown⟩, hB⟩ := h
    subst hl hk
    exact ⟨⟨A, c, h, enc_rd hown⟩, ((Ext.refl w).alloc o).next hB⟩
end Go.Proofs.Ytadepaaemjnfgaa
