/- What the laws about links share: the encoders and decoders in the form that they use. No condition. -/
import Derived.Test.YtkgmoklifkojhaaLaw
import Derived.Test.YtkgmoklifkojhaaDecR
import Derived.Test.YtkgmoklifkojhaaCntB
import Derived.Test.YtkgmoklifkojhaaRoundSpec
import Derived.Test.YtkgmoklifkojhaaTight
import Derived.Deep.DeepHandedRow
namespace Go.Proofs.Ytkgmoklifkojhaa
open Go.RowKit Go.WideShapes Go.ChangeShapes
theorem slice_cap {w : World} {base : Nat} {e : TypeId} {size n c : Nat} {A : Option Addr} {xs : List Value} (h : w.ownsRow base e size (.slice A n c) n xs) : n ≤ c ∧ c ≤ maxLen := by
  rcases h.2 with ⟨hv, h0⟩ | ⟨g, cap, cur, hv, hg, hh, h1, h2, _⟩
  · injection hv with _ h1 h2; subst h1 h2; exact ⟨Nat.le_refl _, by decide⟩
  · injection hv with _ _ h3; subst h3; exact ⟨h1, h2⟩
theorem RdN.of_own {w : World} {base : Nat} {e : TypeId} {size n c : Nat} {A : Option Addr} {xs : List Value} (h : w.ownsRow base e size (.slice A n c) n xs) : RdN w w.heap.size size A n xs := by
  refine ⟨by simpa using h.1, fun hn => ?_⟩
  rcases h.2 with ⟨hv, h0⟩ | ⟨g, cap, cur, hv, hg, hh, _⟩
  · omega
  · have hA : A = some ⟨g, 0, none⟩ := by injection hv
    subst hA
    refine ⟨g, 0, rfl, ?_, fun j u hu => ?_⟩
    · exact (h.lt g (by simp [Value.ownBlock])).2
    · have := h.cells (g := g) (by simp [Value.ownBlock]) j u hu
      rw [Nat.zero_add]
      have e : (⟨g, 0, none⟩ : Addr).add j = ⟨g, j, none⟩ := by unfold Addr.add; split <;> simp_all
      rwa [e] at this
theorem byt_all {l : List Int} (h : (l.all fun x => decide (0 ≤ x) && decide (x ≤ 255)) = true) : Byt l := fun x hx => by
  have := List.all_eq_true.1 h x hx
  simpa using this
theorem own : ownKnob Try.prog.godebug = none := by kernel_rfl
theorem laidOut : laidOutB Try.prog = true := by kernel_rfl
theorem cellsu8 : Try.prog.cellsOf 5 = 1 := by kernel_rfl
theorem cellsint : Try.prog.cellsOf 3 = 1 := by kernel_rfl
theorem byt_wf {l : List Int} (h : ∀ x ∈ l, (Lit.int .u8 x).wf = true) : Byt l := fun x hx => by
  have := h x hx
  simp [Lit.wf, IntKind.min, IntKind.max, IntKind.bits, IntKind.signed] at this
  omega
theorem wf_i64 {x : Int} (h : (Lit.int .i64 x).wf = true) : -9223372036854775808 ≤ x ∧ x ≤ 9223372036854775807 := by
  simp [Lit.wf, IntKind.min, IntKind.max, IntKind.bits, IntKind.signed] at h
  omega
theorem gintsR (l : List Int) (A0 : Option Addr) (n c : Nat) (w : World) (hl : Rd w w.heap.size A0 n (u8s l)) (hby : Byt l) (hnc : n ≤ c) (hc : c ≤ 9223372036854775807) (hn : n ≤ 1000000000000) (xs : List Int) (u er : Int) (hx : decList getI l = (xs, u, er)) :
    Calls Try.prog 46 #[.slice A0 n c] w fun e w' => (∃ A' c', e = .returned (.tuple #[.slice A' xs.length c', .int .i64 u, .int .i64 er]) ∧ (xs.length ≤ c' ∧ c' ≤ maxLen) ∧ Rd w' w'.heap.size A' xs.length (xs.map (Value.int .i64))) ∧ Ext w w' :=
  (gints_any l A0 n c w hl hby hnc hc hn).mono fun e w' h => by
    obtain ⟨⟨A, c, h, ho⟩, hB⟩ := h
    rw [hx] at h ho
    exact ⟨⟨A, c, h, slice_cap ho, Rd.of_own ho⟩, hB⟩
theorem rgintsR (l : List Int) (A0 : Option Addr) (n c : Nat) (w : World) (hl : Rd w w.heap.size A0 n (u8s l)) (hby : Byt l) (hnc : n ≤ c) (hc : c ≤ 9223372036854775807) (hn : n ≤ 1000000000000) (xs : List Int) (u er : Int) (hx : decList getI l = (xs, u, er)) :
    Calls Try.prog 49 #[.slice A0 n c] w fun e w' => (∃ A' c', e = .returned (.tuple #[.slice A' xs.length c', .int .i64 u, .int .i64 er]) ∧ (xs.length ≤ c' ∧ c' ≤ maxLen) ∧ Rd w' w'.heap.size A' xs.length (xs.map (Value.int .i64))) ∧ Ext w w' :=
  (rgints_any l A0 n c w hl hby hnc hc hn).mono fun e w' h => by
    obtain ⟨⟨A, c, h, ho⟩, hB⟩ := h
    rw [hx] at h ho
    exact ⟨⟨A, c, h, slice_cap ho, Rd.of_own ho⟩, hB⟩
theorem decMany_len {α : Type} (one : List Int → α × Int × Int) : ∀ (m : Nat) (l : List Int), (decMany one m l).2.1.length ≤ m
  | 0, _ => by simp [decMany]
  | m + 1, l => by
    unfold decMany
    split
    · simp
    · simp only [List.length_cons]
      have := decMany_len one m (l.drop (one l).2.1.toNat)
      omega
theorem decList_len {α : Type} (one : List Int → α × Int × Int) (l : List Int) (hb : Byt l) : (decList one l).1.length ≤ l.length := by
  unfold decList
  rcases cntI_cases l hb 1 (Nat.le_refl _) with ⟨er, hg, he⟩ | ⟨n, k, hg, _, _, hk, _, _⟩
  · rw [hg, if_pos (by rcases he with rfl | rfl <;> simp)]; simp
  · rw [hg]
    simp only [ne_eq, not_true_eq_false, if_false, Int.toNat_natCast]
    split
    · simp
    · have := decMany_len one n (l.drop k)
      simp only
      omega
theorem rd_at {w : World} {B : Nat} {A : Option Addr} {n : Nat} {xs : List Value} (h : Rd w B A n xs) (hn : 0 < n) : ∃ b o, A = some ⟨b, o, none⟩ ∧ Rd w B (some ⟨b, o, none⟩) n xs := by
  obtain ⟨b, o, rfl, _, _⟩ := h.2 hn
  exact ⟨b, o, rfl, h⟩
theorem encInt_pos (n : Int) : 0 < (encInt n).length := by rw [encInt_length]; omega
theorem intR (x : Int) (w : World) (h0 : -9223372036854775808 ≤ x) (h1 : x ≤ 9223372036854775807) (l : List Int) (k : Nat) (hl : encInt x = l) (hk : l.length = k) :
    Calls Try.prog 43 #[.int .i64 x] w fun e w' => (∃ b o c, e = .returned (.slice (some ⟨b, o, none⟩) k c) ∧ (k ≤ c ∧ c ≤ maxLen) ∧ Rd w' w'.heap.size (some ⟨b, o, none⟩) k (u8s l)) ∧ Ext w w' :=
  (wintL_any x w h0 h1).mono fun e w' h => by
    obtain ⟨⟨A, c, h, ho⟩, hB⟩ := h
    subst hl
    subst hk
    obtain ⟨b, o, rfl, hr⟩ := rd_at (Rd.of_own ho) (encInt_pos x)
    exact ⟨⟨b, o, c, h, slice_cap ho, hr⟩, hB⟩
theorem u8_one (l : List Int) : ∀ u ∈ u8s l, u.oneCell' = true := u8s_one l
theorem tight_of {w w' : World} {e : Ending} {q l : List Int} {k : Nat} {T : TypeId} (h : (∃ A c, e = .returned (.slice A q.length c) ∧ w'.ownsRow w.heap.size T 1 (.slice A q.length c) q.length (u8s q)) ∧ Below w.heap.size w w') (hl : q = l) (hk : l.length = k) (h0 : 0 < k) :
    (∃ b o c, e = .returned (.slice (some ⟨b, o, none⟩) k c) ∧ (k ≤ c ∧ c ≤ maxLen) ∧ Rd w' w'.heap.size (some ⟨b, o, none⟩) k (u8s l)) ∧ Ext w w' := by
  obtain ⟨⟨A, c, h, ho⟩, hB⟩ := h
  subst hl
  subst hk
  obtain ⟨b, o, rfl, hr⟩ := rd_at (Rd.of_own ho) h0
  exact ⟨⟨b, o, c, h, slice_cap ho, hr⟩, hB⟩
theorem bytesR (s : ByteArray) (w : World) (hs : s.size ≤ 1000000000000) (l : List Int) (k : Nat) (hl : encB s = l) (hk : l.length = k) (h0 : 0 < k) :
    Calls Try.prog 27 #[.string s] w fun e w' => (∃ b o c, e = .returned (.slice (some ⟨b, o, none⟩) k c) ∧ (k ≤ c ∧ c ≤ maxLen) ∧ Rd w' w'.heap.size (some ⟨b, o, none⟩) k (u8s l)) ∧ Ext w w' :=
  (wbytes_any s w hs).mono fun _ _ h => tight_of h hl hk h0
theorem intsR (xs : List Int) (A : Option Addr) (n c : Nat) (w : World) (hx : Rd w w.heap.size A n (xs.map (Value.int .i64))) (hwf : ∀ x ∈ xs, -9223372036854775808 ≤ x ∧ x ≤ 9223372036854775807) (hcat : (encL encInt xs).length ≤ 100000000000) (hn : n ≤ 9223372036854775807) (l : List Int) (k : Nat) (hl : encL encInt xs = l) (hk : l.length = k) (h0 : 0 < k) :
    Calls Try.prog 26 #[.slice A n c] w fun e w' => (∃ b o c, e = .returned (.slice (some ⟨b, o, none⟩) k c) ∧ (k ≤ c ∧ c ≤ maxLen) ∧ Rd w' w'.heap.size (some ⟨b, o, none⟩) k (u8s l)) ∧ Ext w w' :=
  (ints_any xs A n c w hx hwf hcat hn).mono fun _ _ h => tight_of h hl hk h0
theorem encL_pos {α : Type} (f : α → List Int) (l : List α) : 0 < (encL f l).length := by
  unfold encL
  rw [List.length_append]
  have := encInt_pos (l.length : Int)
  omega
theorem encB_pos (s : ByteArray) : 0 < (encB s).length := by
  unfold encB
  rw [List.length_append]
  have := encInt_pos (s.size : Int)
  omega
theorem encB_decS (s : ByteArray) (r : List Int) (h : (s.size : Int) ≤ 9223372036854775807) : decS (encB s ++ r) = (s, ((encB s).length : Int), 0) := decS_enc s r h
theorem encL_int_le2 (l : List Int) (h : ∀ x ∈ l, -9223372036854775808 ≤ x ∧ x ≤ 9223372036854775807) : (l.flatMap encInt).length ≤ 9 * l.length := by
  induction l with
  | nil => simp
  | cons x l ih =>
    have a := ih (fun y hy => h y (List.mem_cons_of_mem _ hy))
    have b := encInt_le9 x (h x (List.mem_cons_self ..)).1 (h x (List.mem_cons_self ..)).2
    rw [List.flatMap_cons, List.length_append, List.length_cons]
    omega
theorem encL_int_byt2 (l : List Int) (h : ∀ x ∈ l, -9223372036854775808 ≤ x ∧ x ≤ 9223372036854775807) : Byt (l.flatMap encInt) := by
  intro y hy
  obtain ⟨x, hx, hy⟩ := List.mem_flatMap.1 hy
  exact encInt_byt x (h x hx).1 (h x hx).2 y hy
theorem dec_ints (l : List Int) (r : List Int) (hwf : ∀ x ∈ l, -9223372036854775808 ≤ x ∧ x ≤ 9223372036854775807) (hn : (l.length : Int) ≤ 9223372036854775807) : decList getI (encL encInt l ++ r) = (l, ((encL encInt l).length : Int), 0) :=
  decList_enc getI encInt l r (fun x hx r => getI_enc x r (hwf x hx).1 (hwf x hx).2) (fun x _ => encInt_pos x) hn
end Go.Proofs.Ytkgmoklifkojhaa
