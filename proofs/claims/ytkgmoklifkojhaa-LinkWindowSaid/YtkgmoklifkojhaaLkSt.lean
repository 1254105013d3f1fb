/- The methods of two ends that a law has made. Conditions: numbers below a bound. -/
import Derived.Test.YtkgmoklifkojhaaLkTwo
set_option linter.unusedSimpArgs false
set_option linter.unusedVariables false
namespace Go.Proofs.Ytkgmoklifkojhaa
open Go.RowKit
/-- Two ends that were made behind w0; L: blocks of neither; what was there at w0 is as it was. -/
structure St (w0 : World) (Mu L : Nat → Prop) (w : World) (pa : Nat) (A : EndS) (pb : Nat) (B : EndS) : Prop where
  t : ∃ FA FB, Two Mu FA FB L w pa A pb B
  m : ∀ b, Mu b → w0.heap.size ≤ b
  e : Ext w0 w
theorem St.swap {w0 : World} {Mu L : Nat → Prop} {w : World} {pa pb : Nat} {A B : EndS} (h : St w0 Mu L w pa A pb B) : St w0 Mu L w pb B pa A := by
  obtain ⟨⟨FA, FB, T⟩, hl, e⟩ := h
  exact ⟨⟨FB, FA, T.swap⟩, hl, e⟩
theorem St.okA {w0 : World} {Mu L : Nat → Prop} {w : World} {pa pb : Nat} {A B : EndS} (h : St w0 Mu L w pa A pb B) : EndOk A := by
  obtain ⟨⟨FA, FB, T⟩, hl, e⟩ := h
  exact T.a.ok
theorem St.ext {w0 : World} {Mu L L' : Nat → Prop} {w w' : World} {pa pb : Nat} {A B : EndS} (h : St w0 Mu L w pa A pb B) (hE : Ext w w') (hL : ∀ x, L' x → (L x ∨ w.heap.size ≤ x) ∧ x < w'.heap.size) : St w0 Mu L' w' pa A pb B := by
  obtain ⟨⟨FA, FB, T⟩, hl, e⟩ := h
  exact ⟨⟨FA, FB, T.ext hE hL⟩, hl, e.next hE⟩
theorem St.llt {w0 : World} {Mu L : Nat → Prop} {w : World} {pa pb : Nat} {A B : EndS} (h : St w0 Mu L w pa A pb B) : ∀ x, L x → x < w.heap.size := by
  obtain ⟨⟨FA, FB, T⟩, hl, e⟩ := h
  exact T.ll
theorem St.ext' {w0 : World} {Mu L : Nat → Prop} {w w' : World} {pa pb : Nat} {A B : EndS} (h : St w0 Mu L w pa A pb B) (hE : Ext w w') : St w0 Mu (fun b => L b ∨ (w.heap.size ≤ b ∧ b < w'.heap.size)) w' pa A pb B :=
  h.ext hE (fun x hx => by
    rcases hx with hx | hx
    · exact ⟨Or.inl hx, Nat.lt_of_lt_of_le (h.llt x hx) hE.size⟩
    · exact ⟨Or.inr hx.1, hx.2⟩)
theorem ext_kept {F : Nat → Prop} {w0 w w' : World} (e : Ext w0 w) (hk : Kept F w w') (hF : ∀ b, F b → w0.heap.size ≤ b) : Ext w0 w' :=
  ((Kept.of_ext (F := fun _ => False) e).next hk (fun b hb hf => by have := hF b hf; omega)).ext (fun _ h => h.elim)
theorem st_made (w : World) (k1 k2 key : Int) (h1 : 1 ≤ k1) (h2 : k1 ≤ 16) (h3 : 1 ≤ k2) (h4 : k2 ≤ 16) (h5 : 0 ≤ key) (h6 : key ≤ 18446744073709551615) :
    Calls Try.prog 28 #[.int .i64 k1, .int .u64 key] w fun e w1 => ∃ pa, e = .returned (.tuple #[.pointer (some ⟨pa, 0, none⟩), .int .i64 0]) ∧ Ext w w1 ∧ ∀ w1', Ext w1 w1' →
      Calls Try.prog 28 #[.int .i64 k2, .int .u64 key] w1' fun e w2 => ∃ pb, e = .returned (.tuple #[.pointer (some ⟨pb, 0, none⟩), .int .i64 0]) ∧ ∃ Mu, St w Mu (fun _ => False) w2 pa (newE k1 key) pb (newE k2 key) := by
  refine (new_any k1 key w h1 h2 h5 h6).mono ?_
  rintro e w1 ⟨pa, rfl, hE1, FA, hFA, hA⟩
  refine ⟨pa, rfl, hE1, fun w1' hE1' => ?_⟩
  have hA1 := hA (fun _ => False) (fun _ h => h.elim)
  have hk : Kept (fun _ => False) w1 w1' := Kept.of_ext hE1'
  have hA2 : EndAt (mor (fun _ => False) FA) FA w1' pa (newE k1 key) := hA1.frame hk (fun _ h => h.elim) (fun _ h => h.elim) (fun _ _ h => h) (fun _ h => h) (fun b hb => Nat.lt_of_lt_of_le (hA1.1 b hb) hE1'.size)
  refine (new_any k2 key w1' h3 h4 h5 h6).mono ?_
  rintro e w2 ⟨pb, rfl, hE2, FB, hFB, hB⟩
  refine ⟨pb, rfl, _, ⟨FA, FB, Two.made hA2 hE2 hFB (hB _ hA2.1) (fun _ => False) (fun _ h => h.elim) (fun _ h => h.elim)⟩, fun b hb => ?_, (hE1.next hE1').next hE2⟩
  rcases hb with (hb | hb) | hb
  · exact hb.elim
  · exact (hFA b hb).1
  · have := (hFB b hb).1
    have := hE1.size
    have := hE1'.size
    omega
theorem st_send {w0 : World} {Mu L : Nat → Prop} {w : World} {pa pb : Nat} {A B : EndS} (S : St w0 Mu L w pa A pb B) (m : List Int) (ad : Option Addr) (n c : Nat) (hl : Rd w w.heap.size ad n (u8s m)) (hby : Byt m) (hn : n ≤ 65536) (h10 : A.waiting.length < 1000) (hk : A.acked + A.waiting.length < 1000000000) :
    Calls Try.prog 11 #[.pointer (some ⟨pa, 0, none⟩), .slice ad n c] w fun e w' => e = .returned (.int .i64 0) ∧ ∃ Mu', St w0 Mu' L w' pa (sendE A m) pb B ∧ (∀ b, b < w.heap.size → Mu' b → Mu b) ∧ Kept (fun x => Mu x ∧ ¬ L x) w w' := by
  obtain ⟨⟨FA, FB, T⟩, hM, e⟩ := S
  refine (send_ok Mu FA pa A m ad n c w T.a hl hby hn h10 hk).mono ?_
  rintro e w' ⟨rfl, FA', ht, hf, hE⟩
  refine ⟨rfl, _, ⟨⟨FA', FB, T.sent ht hf hE⟩, fun b hb => ?_, ext_kept e ht.kept (fun b hb => hM b (T.a.fm b hb))⟩, ht.mor_old T.a.fm, ht.kept.mono (fun b _ hF => ⟨T.a.fm b hF, fun hL => (T.l b hL).1 hF⟩)⟩
  rcases hb with hb | hb
  · exact hM b hb
  · rcases Nat.lt_or_ge b w.heap.size with h | h
    · exact hM b (T.a.fm b (ht.old b h hb))
    · exact Nat.le_trans e.size h
theorem st_out {w0 : World} {Mu L : Nat → Prop} {w : World} {pa pb : Nat} {A B : EndS} (S : St w0 Mu L w pa A pb B) :
    Calls Try.prog 13 #[.pointer (some ⟨pa, 0, none⟩)] w fun e w' => ∃ OA oc n ovs, e = .returned (.slice OA n oc) ∧ (outL A).length = n ∧ w'.ownsRow w.heap.size 33 1 (.slice OA n oc) n ovs ∧ Pks w' w.heap.size ovs (outL A) ∧ ∃ Mu', St w0 Mu' (fun b => L b ∨ (w.heap.size ≤ b ∧ b < w'.heap.size)) w' pa (outE A) pb B ∧ (∀ b, b < w.heap.size → Mu' b → Mu b) ∧ Kept (fun x => Mu x ∧ ¬ L x) w w' := by
  obtain ⟨⟨FA, FB, T⟩, hM, e⟩ := S
  refine (out_any Mu FA pa A w T.a).mono ?_
  rintro e w' ⟨OA, oc, n, ovs, rfl, hn, ho, hp, hk, hE⟩
  refine ⟨OA, oc, n, ovs, rfl, hn, ho, hp, _, ⟨⟨FA, FB, T.out hk hE⟩, fun b hb => ?_, ext_kept e hk (fun b hb => hM b (T.a.fm b hb))⟩, fun b hb h => h.resolve_right (by omega), hk.mono (fun b _ hF => ⟨T.a.fm b hF, fun hL => (T.l b hL).1 hF⟩)⟩
  rcases hb with hb | hb
  · exact hM b hb
  · exact Nat.le_trans e.size hb.1
theorem st_in {w0 : World} {Mu L : Nat → Prop} {w : World} {pa pb : Nat} {A B : EndS} (S : St w0 Mu L w pa A pb B) (x : List Int) (ad : Option Addr) (n c : Nat) (hl : Rd w w.heap.size ad n (u8s x)) (hby : Byt x) (hn : n ≤ 1000000000) (hnc : n ≤ c) (hc : c ≤ 9223372036854775807)
    (hff : A.forged < 1000000000) (hft : A.tot < 1000000000) (hfc : A.delivered + A.cnt < 1000000000) :
    Calls Try.prog 19 #[.pointer (some ⟨pa, 0, none⟩), .slice ad n c] w fun e w' => ∃ OA oc k ovs, e = .returned (.tuple #[.slice OA k oc, .int .i64 (inE A x).1.2]) ∧ (inE A x).1.1.length = k ∧ w'.ownsRow w.heap.size 33 1 (.slice OA k oc) k ovs ∧ Msgs Mu w' ovs (inE A x).1.1 ∧ St w0 Mu (fun b => L b ∨ (w.heap.size ≤ b ∧ b < w'.heap.size)) w' pa (inE A x).2 pb B ∧ Kept (fun x => Mu x ∧ ¬ L x) w w' := by
  obtain ⟨⟨FA, FB, T⟩, hM, e⟩ := S
  refine (in_any Mu FA pa A x ad n c w T.a hl hby hn hnc hc hff hft hfc).mono ?_
  rintro e w' ⟨OA, oc, k, ovs, rfl, hk1, ho, hp, hk, hE⟩
  exact ⟨OA, oc, k, ovs, rfl, hk1, ho, hp, ⟨⟨FA, FB, T.in hk hE⟩, hM, ext_kept e hk (fun b hb => hM b (T.a.fm b hb))⟩, hk.mono (fun b _ hF => ⟨T.a.fm b hF, fun hL => (T.l b hL).1 hF⟩)⟩
theorem st_waiting {w0 : World} {Mu L : Nat → Prop} {w : World} {pa pb : Nat} {A B : EndS} (S : St w0 Mu L w pa A pb B) :
    Calls Try.prog 21 #[.pointer (some ⟨pa, 0, none⟩)] w fun e w' => e = .returned (.int .i64 A.waiting.length) ∧ w' = w := by
  obtain ⟨⟨FA, FB, T⟩, hM, e⟩ := S
  exact waiting_any Mu FA pa A w T.a
theorem st_forged {w0 : World} {Mu L : Nat → Prop} {w : World} {pa pb : Nat} {A B : EndS} (S : St w0 Mu L w pa A pb B) :
    Calls Try.prog 22 #[.pointer (some ⟨pa, 0, none⟩)] w fun e w' => e = .returned (.int .i64 A.forged) ∧ w' = w := by
  obtain ⟨⟨FA, FB, T⟩, hM, e⟩ := S
  exact forged_any Mu FA pa A w T.a
theorem row_at {w : World} {B : Nat} {OA : Option Addr} {n oc : Nat} {ovs : List Value} (ho : w.ownsRow B 33 1 (.slice OA n oc) n ovs) (h0 : 0 < n) : ∃ g, OA = some ⟨g, 0, none⟩ ∧ B ≤ g ∧ g < w.heap.size ∧ ∀ j, j < n → w.cell? ⟨g, j, none⟩ = some (ovs.getD j undef) := by
  rcases ho.2 with ⟨_, h2⟩ | ⟨g, cap, cur, h1, h2, h3, _⟩
  · omega
  · injection h1 with h1 _ _
    refine ⟨g, h1, h2, (Array.getElem?_eq_some_iff.1 h3).1, fun j hj => ?_⟩
    have hl := ho.1
    have h4 : ovs[j]? = some (ovs.getD j undef) := by
      rw [List.getD_eq_getElem?_getD, List.getElem?_eq_getElem (by omega)]; rfl
    have := ho.cells (g := g) (by rw [h1]; rfl) j _ h4
    rw [add_at] at this
    exact this
theorem pk_at {w : World} {B : Nat} {ovs : List Value} {ls : List (List Int)} (h : Pks w B ovs ls) (j : Nat) (hj : j < ls.length) : ∃ g c, ovs.getD j undef = .slice (some ⟨g, 0, none⟩) (ls.getD j []).length c ∧ B ≤ g ∧ g < w.heap.size ∧ (ls.getD j []).length ≤ c ∧ c ≤ 9223372036854775807 ∧ Rd w w.heap.size (some ⟨g, 0, none⟩) (ls.getD j []).length (u8s (ls.getD j [])) := by
  obtain ⟨_, G, h2⟩ := h
  obtain ⟨_, _, c, h3, h4⟩ := h2 j hj
  have h5 := own_lt h4
  have h6 := own_cap h4
  exact ⟨G j, c, h3, h5.1, h5.2, h6.1, h6.2, own_rd h4⟩
/-- What lies in a block of L lasts. -/
theorem keep_cell {Mu L : Nat → Prop} {w w' : World} (hk : Kept (fun x => Mu x ∧ ¬ L x) w w') {g j : Nat} (hg : g < w.heap.size) (hL : L g) : w'.cell? ⟨g, j, none⟩ = w.cell? ⟨g, j, none⟩ := hk.cell (p := ⟨g, j, none⟩) hg (fun h => h.2 hL)
theorem keep_rd {Mu L : Nat → Prop} {w w' : World} (hk : Kept (fun x => Mu x ∧ ¬ L x) w w') {g n : Nat} {xs : List Value} (h : Rd w w.heap.size (some ⟨g, 0, none⟩) n xs) (hL : L g) : Rd w' w'.heap.size (some ⟨g, 0, none⟩) n xs := rd_kept h hk (fun h => h.2 hL)
end Go.Proofs.Ytkgmoklifkojhaa
