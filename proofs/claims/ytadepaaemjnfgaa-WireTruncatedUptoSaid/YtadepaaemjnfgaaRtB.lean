/- The encoders' results by name: a slice with an address, whose bytes are the encoding. Conditions: those of the contracts. -/
import Derived.Test.YtadepaaemjnfgaaRtA
import Derived.Test.YtadepaaemjnfgaaFew
namespace Go.Proofs.Ytadepaaemjnfgaa
open Go.RowKit
theorem tight_of {w w' : World} {e : Ending} {q l : List Int} {k : Nat} {T : TypeId} (h : (∃ A c, e = .returned (.slice A q.length c) ∧ w'.ownsRow w.heap.size T 1 (.slice A q.length c) q.length (u8s q)) ∧ Below w.heap.size w w') (hl : q = l) (hk : l.length = k) (h0 : 0 < k) :
    (∃ b o c, e = .returned (.slice (some ⟨b, o, none⟩) k c) ∧ (k ≤ c ∧ c ≤ maxLen) ∧ Rd w' w'.heap.size (some ⟨b, o, none⟩) k (u8s l)) ∧ Ext w w' := by
  obtain ⟨⟨A, c, h, ho⟩, hB⟩ := h
  subst hl
  subst hk
  obtain ⟨b, o, rfl, hr⟩ := rd_at (Rd.of_own ho) h0
  exact ⟨⟨b, o, c, h, slice_cap ho, hr⟩, hB⟩
theorem bytesR (s : ByteArray) (w : World) (hs : s.size ≤ 1000000000000) (l : List Int) (k : Nat) (hl : encB s = l) (hk : l.length = k) (h0 : 0 < k) :
    Calls Try.prog 16 #[.string s] w fun e w' => (∃ b o c, e = .returned (.slice (some ⟨b, o, none⟩) k c) ∧ (k ≤ c ∧ c ≤ maxLen) ∧ Rd w' w'.heap.size (some ⟨b, o, none⟩) k (u8s l)) ∧ Ext w w' :=
  (wbytes_any s w hs).mono fun _ _ h => tight_of h hl hk h0
theorem intsR (xs : List Int) (A : Option Addr) (n c : Nat) (w : World) (hx : Rd w w.heap.size A n (xs.map (Value.int .i64))) (hwf : ∀ x ∈ xs, -9223372036854775808 ≤ x ∧ x ≤ 9223372036854775807) (hcat : (encL encInt xs).length ≤ 100000000000) (hn : n ≤ 9223372036854775807) (l : List Int) (k : Nat) (hl : encL encInt xs = l) (hk : l.length = k) (h0 : 0 < k) :
    Calls Try.prog 18 #[.slice A n c] w fun e w' => (∃ b o c, e = .returned (.slice (some ⟨b, o, none⟩) k c) ∧ (k ≤ c ∧ c ≤ maxLen) ∧ Rd w' w'.heap.size (some ⟨b, o, none⟩) k (u8s l)) ∧ Ext w w' :=
  (ints_any xs A n c w hx hwf hcat hn).mono fun _ _ h => tight_of h hl hk h0
theorem stringsR (xs : List ByteArray) (A : Option Addr) (n c : Nat) (w : World) (hx : Rd w w.heap.size A n (xs.map Value.string)) (hwf : ∀ x ∈ xs, x.size ≤ 1000000000000) (hcat : (encL encB xs).length ≤ 100000000000) (hn : n ≤ 9223372036854775807) (l : List Int) (k : Nat) (hl : encL encB xs = l) (hk : l.length = k) (h0 : 0 < k) :
    Calls Try.prog 20 #[.slice A n c] w fun e w' => (∃ b o c, e = .returned (.slice (some ⟨b, o, none⟩) k c) ∧ (k ≤ c ∧ c ≤ maxLen) ∧ Rd w' w'.heap.size (some ⟨b, o, none⟩) k (u8s l)) ∧ Ext w w' :=
  (strings_any xs A n c w hx hwf hcat hn).mono fun _ _ h => tight_of h hl hk h0
theorem digestsR (ds : List (List Int)) (A : Option Addr) (n c : Nat) (w : World) (hx : RdN w w.heap.size 16 A n (celD ds)) (hd : Dig16 ds) (hlen : ds.length = n) (hn : n ≤ 1000000000) (l : List Int) (k : Nat) (hl : encL idD ds = l) (hk : l.length = k) (h0 : 0 < k) :
    Calls Try.prog 22 #[.slice A n c] w fun e w' => (∃ b o c, e = .returned (.slice (some ⟨b, o, none⟩) k c) ∧ (k ≤ c ∧ c ≤ maxLen) ∧ Rd w' w'.heap.size (some ⟨b, o, none⟩) k (u8s l)) ∧ Ext w w' :=
  (digests_any ds A n c w hx hd hlen hn).mono fun _ _ h => tight_of h hl hk h0
theorem encL_pos {α : Type} (f : α → List Int) (l : List α) : 0 < (encL f l).length := by
  unfold encL
  rw [List.length_append]
  have := encInt_pos (l.length : Int)
  omega
theorem encB_pos (s : ByteArray) : 0 < (encB s).length := by
  unfold encB
  rw [List.length_append]
  have := encInt_pos (s.size : Int)
  omega
theorem encB_decS (s : ByteArray) (r : List Int) (h : (s.size : Int) ≤ 9223372036854775807) : decS (encB s ++ r) = (s, ((encB s).length : Int), 0) := decS_enc s r h
theorem encL_str_le (l : List ByteArray) (h : ∀ s ∈ l, s.size ≤ 1048576) : (l.flatMap encB).length ≤ 9 * l.length + lenS l := by
  induction l with
  | nil => simp
  | cons x l ih =>
    have a := ih (fun y hy => h y (List.mem_cons_of_mem _ hy))
    have h1 := h x (List.mem_cons_self ..)
    have b := encInt_le9 (x.size : Int) (by omega) (by omega)
    rw [List.flatMap_cons, List.length_append, List.length_cons, lenS]
    unfold encB at a ⊢
    rw [List.length_append, bys_length]
    omega
theorem encL_int_le2 (l : List Int) (h : ∀ x ∈ l, -9223372036854775808 ≤ x ∧ x ≤ 9223372036854775807) : (l.flatMap encInt).length ≤ 9 * l.length := by
  induction l with
  | nil => simp
  | cons x l ih =>
    have a := ih (fun y hy => h y (List.mem_cons_of_mem _ hy))
    have b := encInt_le9 x (h x (List.mem_cons_self ..)).1 (h x (List.mem_cons_self ..)).2
    rw [List.flatMap_cons, List.length_append, List.length_cons]
    omega
theorem encL_int_byt2 (l : List Int) (h : ∀ x ∈ l, -9223372036854775808 ≤ x ∧ x ≤ 9223372036854775807) : Byt (l.flatMap encInt) := by
  intro y hy
  obtain ⟨x, hx, hy⟩ := List.mem_flatMap.1 hy
  exact encInt_byt x (h x hx).1 (h x hx).2 y hy
theorem encL_str_byt (l : List ByteArray) (h : ∀ s ∈ l, s.size ≤ 1048576) : Byt (l.flatMap encB) := by
  intro y hy
  obtain ⟨x, hx, hy⟩ := List.mem_flatMap.1 hy
  exact encB_byt x (by have := h x hx; omega) y hy
theorem encL_dig_byt (l : List (List Int)) (h : Dig16 l) : Byt (l.flatMap idD) := by
  intro y hy
  obtain ⟨x, hx, hy⟩ := List.mem_flatMap.1 hy
  exact (h x hx).2 y hy
theorem lenS_mem {l : List ByteArray} {s : ByteArray} (h : s ∈ l) : s.size ≤ lenS l := by
  induction l with
  | nil => cases h
  | cons x l ih =>
    rw [lenS]
    rcases List.mem_cons.1 h with rfl | h
    · omega
    · have := ih h; omega
theorem dec_ints (l : List Int) (r : List Int) (hwf : ∀ x ∈ l, -9223372036854775808 ≤ x ∧ x ≤ 9223372036854775807) (hn : (l.length : Int) ≤ 9223372036854775807) : decList getI (encL encInt l ++ r) = (l, ((encL encInt l).length : Int), 0) :=
  decList_enc getI encInt l r (fun x hx r => getI_enc x r (hwf x hx).1 (hwf x hx).2) (fun x _ => encInt_pos x) hn
theorem dec_strs (l : List ByteArray) (r : List Int) (hwf : ∀ s ∈ l, s.size ≤ 1048576) (hn : (l.length : Int) ≤ 9223372036854775807) : decList decS (encL encB l ++ r) = (l, ((encL encB l).length : Int), 0) :=
  decList_enc decS encB l r (fun x hx r => encB_decS x r (by have := hwf x hx; omega)) (fun x _ => encB_pos x) hn
theorem dec_digs (l : List (List Int)) (r : List Int) (hd : Dig16 l) (hn : (l.length : Int) ≤ 9223372036854775807) : decD (encL idD l ++ r) = (l, ((encL idD l).length : Int), 0) := by
  have h := decD_enc l r (fun d h => (hd d h).1) hn
  have h2 := encD_le l hd
  have h3 : ((encInt (l.length : Int)).length : Int) + 16 * l.length = ((encL idD l).length : Int) := by
    unfold encL
    rw [List.length_append, h2]
    omega
  rw [h3] at h
  exact h
end Go.Proofs.Ytadepaaemjnfgaa
