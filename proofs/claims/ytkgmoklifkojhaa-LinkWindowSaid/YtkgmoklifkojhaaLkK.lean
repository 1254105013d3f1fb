/- Two ends and what a law keeps beside them: one invariant of the law's own, stable under all methods of the ends. Conditions: numbers below a bound. -/
import Derived.Test.YtkgmoklifkojhaaLkSmall
set_option linter.unusedSimpArgs false
set_option linter.unusedVariables false
namespace Go.Proofs.Ytkgmoklifkojhaa
open Go.RowKit
def updE {α : Type} (E : Nat → α) (k : Nat) (x : α) : Nat → α := fun j => if j = k then x else E j
theorem updE_same {α : Type} (E : Nat → α) (k : Nat) (x : α) : updE E k x k = x := by simp [updE]
theorem updE_ne {α : Type} (E : Nat → α) {k j : Nat} (x : α) (h : j ≠ k) : updE E k x j = E j := by simp [updE, h]
/-- From w to w': L and Mu grow (Mu only by new blocks); what is of L, or not of Mu, is as it was. -/
structure Grw (L Mu : Nat → Prop) (w : World) (L' Mu' : Nat → Prop) (w' : World) : Prop where
  size : w.heap.size ≤ w'.heap.size
  l : ∀ g, L g → L' g
  m : ∀ g, Mu g → Mu' g
  m' : ∀ g, g < w.heap.size → Mu' g → Mu g
  keep : ∀ g, g < w.heap.size → ¬ (Mu g ∧ ¬ L g) → w'.heap[g]? = w.heap[g]?
abbrev LawI := (Nat → Prop) → (Nat → Prop) → World → Prop
def Stab (I : LawI) : Prop := ∀ L Mu w L' Mu' w', Grw L Mu w L' Mu' w' → I L Mu w → I L' Mu' w'
theorem Stab.and {I J : LawI} (hI : Stab I) (hJ : Stab J) : Stab (fun L Mu w => I L Mu w ∧ J L Mu w) := fun L Mu w L' Mu' w' g h => ⟨hI _ _ _ _ _ _ g h.1, hJ _ _ _ _ _ _ g h.2⟩
/-- As Stab, where also the law itself may have written: only what is not of Mu is as it was. -/
structure GrwI (L Mu : Nat → Prop) (w : World) (L' Mu' : Nat → Prop) (w' : World) : Prop where
  size : w.heap.size ≤ w'.heap.size
  l : ∀ g, L g → L' g
  m' : ∀ g, g < w.heap.size → Mu' g → Mu g
  keep : ∀ g, g < w.heap.size → ¬ Mu g → w'.heap[g]? = w.heap[g]?
def StabI (I : LawI) : Prop := ∀ L Mu w L' Mu' w', GrwI L Mu w L' Mu' w' → I L Mu w → I L' Mu' w'
theorem StabI.and {I J : LawI} (hI : StabI I) (hJ : StabI J) : StabI (fun L Mu w => I L Mu w ∧ J L Mu w) := fun L Mu w L' Mu' w' g h => ⟨hI _ _ _ _ _ _ g h.1, hJ _ _ _ _ _ _ g h.2⟩
theorem StabI.stab {I : LawI} (h : StabI I) : Stab I := fun L Mu w L' Mu' w' g hi => h _ _ _ _ _ _ ⟨g.size, g.l, g.m', fun k hk hm => g.keep k hk (fun h => hm h.1)⟩ hi
/-- The law's state: ends at P 0, P 1, that hold E 0, E 1, and the law's invariant. -/
def LawSt (w0 : World) (P : Nat → Nat) (E : Nat → EndS) (I : LawI) (w : World) : Prop :=
  ∃ Mu L, St w0 Mu L w (P 0) (E 0) (P 1) (E 1) ∧ I L Mu w
/-- Cells in a block of L that is not written. -/
def Cel (L Mu : Nat → Prop) (w : World) (g : Nat) (cs : List Value) : Prop := L g ∧ ¬ Mu g ∧ g < w.heap.size ∧ ∀ j u, cs[j]? = some u → w.cell? ⟨g, j, none⟩ = some u
theorem Cel.stab (g : Nat) (cs : List Value) : StabI (fun L Mu w => Cel L Mu w g cs) := fun L Mu w L' Mu' w' h ⟨h1, hm, h2, h3⟩ =>
  ⟨h.l g h1, fun h4 => hm (h.m' g h2 h4), Nat.lt_of_lt_of_le h2 h.size, fun j u hj => (World.cell?_of_block (a := ⟨g, j, none⟩) (h.keep g h2 hm)).trans (h3 j u hj)⟩
theorem Cel.at_ {L Mu : Nat → Prop} {w : World} {g : Nat} {cs : List Value} (h : Cel L Mu w g cs) (j : Nat) (u : Value) (hj : cs[j]? = some u) : w.cell? ⟨g, j, none⟩ = some u := h.2.2.2 j u hj
theorem Cel.lt {L Mu : Nat → Prop} {w : World} {g : Nat} {cs : List Value} (h : Cel L Mu w g cs) : g < w.heap.size := h.2.2.1
/-- A block of the law's own, known whole, that it may write. -/
def OwnB (L Mu : Nat → Prop) (w : World) (g : Nat) (t : TypeId) (cs : List Value) : Prop := L g ∧ Mu g ∧ Blk w g t cs
theorem OwnB.stab (g : Nat) (t : TypeId) (cs : List Value) : Stab (fun L Mu w => OwnB L Mu w g t cs) := fun L Mu w L' Mu' w' h ⟨h1, h2, h3⟩ =>
  ⟨h.l g h1, h.m g h2, (h.keep g h3.lt (fun h => h.2 h1)).trans h3⟩
/-- A packet: bytes in a block of L that is not written. -/
def PkV (L Mu : Nat → Prop) (w : World) (v : Value) (l : List Int) : Prop := ∃ G c, v = .slice (some ⟨G, 0, none⟩) l.length c ∧ l.length ≤ c ∧ c ≤ 9223372036854775807 ∧ L G ∧ ¬ Mu G ∧ G < w.heap.size ∧ Rd w w.heap.size (some ⟨G, 0, none⟩) l.length (u8s l)
theorem PkV.stab (v : Value) (l : List Int) : StabI (fun L Mu w => PkV L Mu w v l) := fun L Mu w L' Mu' w' h hp => by
  obtain ⟨G, c, h1, h2, h3, h4, hm, h5, h6⟩ := hp
  refine ⟨G, c, h1, h2, h3, h.l G h4, fun h7 => hm (h.m' G h5 h7), Nat.lt_of_lt_of_le h5 h.size, h6.1, fun hn => ?_⟩
  obtain ⟨b, o, hA, hb, hc⟩ := h6.2 hn
  injection hA with hA
  injection hA with e1 e2
  subst e1; subst e2
  exact ⟨_, _, rfl, Nat.lt_of_lt_of_le hb h.size, fun j u hj => (World.cell?_of_block (a := ⟨_, 0 + j, none⟩) (h.keep _ hb hm)).trans (hc j u hj)⟩
def Packs (L Mu : Nat → Prop) (w : World) (OA : Option Addr) (n : Nat) (ls : List (List Int)) : Prop :=
  0 < n → ∃ g, OA = some ⟨g, 0, none⟩ ∧ L g ∧ ¬ Mu g ∧ g < w.heap.size ∧ ∀ j, j < n → ∃ v, w.cell? ⟨g, j, none⟩ = some v ∧ PkV L Mu w v (ls.getD j [])
theorem Packs.stab (OA : Option Addr) (n : Nat) (ls : List (List Int)) : StabI (fun L Mu w => Packs L Mu w OA n ls) := fun L Mu w L' Mu' w' h hp hn => by
  obtain ⟨g, h1, h2, hm, h3, h4⟩ := hp hn
  refine ⟨g, h1, h.l g h2, fun h7 => hm (h.m' g h3 h7), Nat.lt_of_lt_of_le h3 h.size, fun j hj => ?_⟩
  obtain ⟨v, h5, h6⟩ := h4 j hj
  exact ⟨v, (World.cell?_of_block (a := ⟨g, j, none⟩) (h.keep g h3 hm)).trans h5, PkV.stab v _ _ _ _ _ _ _ h h6⟩
/-- Messages in a slice: all in blocks that are not written. -/
def Mess (L Mu : Nat → Prop) (w : World) (OA : Option Addr) (n : Nat) (xs : List (List Int)) : Prop :=
  0 < n → ∃ g, OA = some ⟨g, 0, none⟩ ∧ L g ∧ ¬ Mu g ∧ g < w.heap.size ∧ ∀ j, j < n → ∃ A c, w.cell? ⟨g, j, none⟩ = some (.slice A (xs.getD j []).length c) ∧ (xs.getD j []).length ≤ c ∧ c ≤ 9223372036854775807 ∧ ImRd Mu w A (xs.getD j []).length (u8s (xs.getD j []))
theorem ImRd.stab (A : Option Addr) (n : Nat) (xs : List Value) : StabI (fun _ Mu w => ImRd Mu w A n xs) := fun L Mu w L' Mu' w' h hr =>
  ⟨hr.1, fun hn => by
    obtain ⟨b, o, hA, hb, hm, hc⟩ := hr.2 hn
    exact ⟨b, o, hA, Nat.lt_of_lt_of_le hb h.size, fun h2 => hm (h.m' b hb h2), fun j u hj => (World.cell?_of_block (a := ⟨b, o + j, none⟩) (h.keep b hb hm)).trans (hc j u hj)⟩⟩
theorem Mess.stab (OA : Option Addr) (n : Nat) (xs : List (List Int)) : StabI (fun L Mu w => Mess L Mu w OA n xs) := fun L Mu w L' Mu' w' h hp hn => by
  obtain ⟨g, h1, h2, hm, h3, h4⟩ := hp hn
  refine ⟨g, h1, h.l g h2, fun h7 => hm (h.m' g h3 h7), Nat.lt_of_lt_of_le h3 h.size, fun j hj => ?_⟩
  obtain ⟨A, c, h5, h6, h7, h8⟩ := h4 j hj
  exact ⟨A, c, (World.cell?_of_block (a := ⟨g, j, none⟩) (h.keep g h3 hm)).trans h5, h6, h7, ImRd.stab A _ _ _ _ _ _ _ _ h h8⟩
theorem grw_kept {L Mu L' Mu' : Nat → Prop} {w w' : World} (hk : Kept (fun x => Mu x ∧ ¬ L x) w w') (hl : ∀ g, L g → L' g) (hm : ∀ g, Mu g → Mu' g) (hm' : ∀ g, g < w.heap.size → Mu' g → Mu g) : Grw L Mu w L' Mu' w' :=
  ⟨hk.size, hl, hm, hm', fun g hg hn => hk.block g hg hn⟩
theorem LawSt.imp {w0 w : World} {P : Nat → Nat} {E : Nat → EndS} {I J : LawI} (S : LawSt w0 P E I w) (h : ∀ L Mu, I L Mu w → J L Mu w) : LawSt w0 P E J w := by
  obtain ⟨Mu, L, hS, hI⟩ := S
  exact ⟨Mu, L, hS, h L Mu hI⟩
theorem LawSt.e {w0 w : World} {P : Nat → Nat} {E : Nat → EndS} {I : LawI} (S : LawSt w0 P E I w) : Ext w0 w := by
  obtain ⟨Mu, L, hS, hI⟩ := S
  exact hS.e
theorem LawSt.ok {w0 w : World} {P : Nat → Nat} {E : Nat → EndS} {I : LawI} (S : LawSt w0 P E I w) {k : Nat} (hk : k < 2) : EndOk (E k) := by
  obtain ⟨Mu, L, hS, hI⟩ := S
  rcases k with _ | _ | k
  · exact hS.okA
  · exact hS.swap.okA
  · omega
theorem LawSt.get {w0 w : World} {P : Nat → Nat} {E : Nat → EndS} {I : LawI} (S : LawSt w0 P E I w) : ∃ L Mu, I L Mu w ∧ (∀ g, L g → g < w.heap.size) ∧ ∀ g, Mu g → w0.heap.size ≤ g := by
  obtain ⟨Mu, L, hS, hI⟩ := S
  exact ⟨L, Mu, hI, hS.llt, hS.m⟩
/-- New memory: it is the law's; of it the blocks of N may be written. -/
theorem LawSt.ext {w0 w w' : World} {P : Nat → Nat} {E : Nat → EndS} {I J : LawI} (S : LawSt w0 P E I w) (hI : Stab I) (N : Nat → Prop) (hE : Ext w w') (h : ∀ L Mu, (∀ g, w.heap.size ≤ g → g < w'.heap.size → L g ∧ (N g → Mu g) ∧ (¬ N g → ¬ Mu g)) → I L Mu w' → J L Mu w') : LawSt w0 P E J w' := by
  obtain ⟨Mu, L, hS, hi⟩ := S
  have hk : Kept (fun _ => False) w w' := Kept.of_ext hE
  obtain ⟨⟨FA, FB, T⟩, hm, e⟩ := hS
  have hl : ∀ b, (Mu b ∨ (N b ∧ w.heap.size ≤ b ∧ b < w'.heap.size)) → b < w'.heap.size := fun b hb => hb.elim (fun h => Nat.lt_of_lt_of_le (T.a.1 b h) hE.size) (fun h => h.2.2)
  refine ⟨fun b => Mu b ∨ (N b ∧ w.heap.size ≤ b ∧ b < w'.heap.size), fun b => L b ∨ (w.heap.size ≤ b ∧ b < w'.heap.size), ⟨⟨FA, FB, ?_, ?_, T.d, fun x hx => ?_, fun x hx => ?_⟩, fun b hb => ?_, e.next hE⟩, ?_⟩
  · exact T.a.frame hk (fun _ h => h.elim) (fun _ h => h.elim) (fun b hb h => h.resolve_right (by omega)) (fun _ h => Or.inl h) hl
  · exact T.b.frame hk (fun _ h => h.elim) (fun _ h => h.elim) (fun b hb h => h.resolve_right (by omega)) (fun _ h => Or.inl h) hl
  · rcases hx with hx | hx
    · exact T.l x hx
    · exact ⟨fun hf => by have := T.a.fl x hf; omega, fun hf => by have := T.b.fl x hf; omega⟩
  · rcases hx with hx | hx
    · exact Nat.lt_of_lt_of_le (T.ll x hx) hE.size
    · exact hx.2
  · rcases hb with hb | hb
    · exact hm b hb
    · exact Nat.le_trans e.size hb.2.1
  · refine h _ _ (fun g h1 h2 => ⟨Or.inr ⟨h1, h2⟩, fun hn => Or.inr ⟨hn, h1, h2⟩, fun hn hm => ?_⟩) (hI _ _ _ _ _ _ ⟨hE.size, fun g h => Or.inl h, fun g h => Or.inl h, fun g hg h => h.resolve_right (by omega), fun g hg _ => hE.block g hg⟩ hi)
    rcases hm with hm | hm
    · have := T.a.1 g hm; omega
    · exact hn hm.1
theorem LawSt.ext' {w0 w w' : World} {P : Nat → Nat} {E : Nat → EndS} {I : LawI} (S : LawSt w0 P E I w) (hI : Stab I) (hE : Ext w w') : LawSt w0 P E I w' := S.ext hI (fun _ => False) hE (fun _ _ _ h => h)
/-- The law writes blocks of its own. -/
theorem LawSt.own {w0 w w' : World} {P : Nat → Nat} {E : Nat → EndS} {I J : LawI} (S : LawSt w0 P E I w) (F : Nat → Prop) (hk : Kept F w w') (h : ∀ L Mu, I L Mu w → (∀ g, F g → L g ∧ Mu g) ∧ (GrwI L Mu w L Mu w' → J L Mu w')) : LawSt w0 P E J w' := by
  obtain ⟨Mu, L, ⟨⟨FA, FB, T⟩, hm, e⟩, hi⟩ := S
  obtain ⟨h1, h2⟩ := h L Mu hi
  exact ⟨Mu, L, ⟨⟨FA, FB, T.own hk h1⟩, hm, ext_kept e hk (fun b hb => hm b (h1 b hb).2)⟩, h2 ⟨hk.size, fun _ h => h, fun _ _ h => h, fun g hg hm => hk.block g hg (fun hf => hm (h1 g hf).2)⟩⟩
theorem st_send' {w0 : World} {Mu L : Nat → Prop} {w : World} {pa pb : Nat} {A B : EndS} (S : St w0 Mu L w pa A pb B) (m : List Int) (ad : Option Addr) (n c : Nat) (hl : Rd w w.heap.size ad n (u8s m)) (hby : Byt m) (hn : n ≤ 65536) (h10 : A.waiting.length < 1000) (hk : A.acked + A.waiting.length < 1000000000) :
    Calls Try.prog 11 #[.pointer (some ⟨pa, 0, none⟩), .slice ad n c] w fun e w' => e = .returned (.int .i64 0) ∧ ∃ Mu', St w0 Mu' L w' pa (sendE A m) pb B ∧ Grw L Mu w L Mu' w' := by
  obtain ⟨⟨FA, FB, T⟩, hM, e⟩ := S
  refine (send_ok Mu FA pa A m ad n c w T.a hl hby hn h10 hk).mono ?_
  rintro e w' ⟨rfl, FA', ht, hf, hE⟩
  refine ⟨rfl, _, ⟨⟨FA', FB, T.sent ht hf hE⟩, fun b hb => ?_, ext_kept e ht.kept (fun b hb => hM b (T.a.fm b hb))⟩, grw_kept (ht.kept.mono (fun b _ hF => ⟨T.a.fm b hF, fun hL => (T.l b hL).1 hF⟩)) (fun _ h => h) (fun _ h => Or.inl h) (ht.mor_old T.a.fm)⟩
  rcases hb with hb | hb
  · exact hM b hb
  · rcases Nat.lt_or_ge b w.heap.size with h | h
    · exact hM b (T.a.fm b (ht.old b h hb))
    · exact Nat.le_trans e.size h
theorem EndAt.less {Mu Mu' Ft : Nat → Prop} {w : World} {p : Nat} {E : EndS} (h : EndAt Mu' Ft w p E) (hM : ∀ b, Mu b → Mu' b) (hF : ∀ b, Ft b → Mu b) : EndAt Mu Ft w p E := by
  obtain ⟨hl, WA, wc, hm, vs, hh, I⟩ := h
  exact ⟨fun b hb => hl b (hM b hb), WA, wc, hm, vs, hh, I.mu (fun b _ hb => hM b hb) hF⟩
theorem st_out' {w0 : World} {Mu L : Nat → Prop} {w : World} {pa pb : Nat} {A B : EndS} (S : St w0 Mu L w pa A pb B) :
    Calls Try.prog 13 #[.pointer (some ⟨pa, 0, none⟩)] w fun e w' => ∃ OA oc n, e = .returned (.slice OA n oc) ∧ n ≤ oc ∧ oc ≤ 9223372036854775807 ∧ (outL A).length = n ∧ ∃ L', St w0 Mu L' w' pa (outE A) pb B ∧ Grw L Mu w L' Mu w' ∧ Packs L' Mu w' OA n (outL A) := by
  obtain ⟨⟨FA, FB, T⟩, hM, e⟩ := S
  have hml := T.a.1
  refine (out_any Mu FA pa A w T.a).mono ?_
  rintro e w' ⟨OA, oc, n, ovs, rfl, hn, ho, hp, hk, hE⟩
  have hoc := slice_cap ho
  have T2 := T.out hk hE
  refine ⟨OA, oc, n, rfl, hoc.1, hoc.2, hn, _, ⟨⟨FA, FB, ⟨T2.a.less (fun _ h => Or.inl h) T.a.fm, T2.b.less (fun _ h => Or.inl h) T.b.fm, T2.d, T2.l, T2.ll⟩⟩, hM, ext_kept e hk (fun b hb => hM b (T.a.fm b hb))⟩, grw_kept (hk.mono (fun b _ hF => ⟨T.a.fm b hF, fun hL => (T.l b hL).1 hF⟩)) (fun _ h => Or.inl h) (fun _ h => h) (fun b hb h => h), fun h0 => ?_⟩
  obtain ⟨g, h1, h2, h3, h4⟩ := row_at ho h0
  refine ⟨g, h1, Or.inr ⟨h2, h3⟩, fun hm => by have := hml g hm; omega, h3, fun j hj => ⟨_, h4 j hj, ?_⟩⟩
  obtain ⟨G, c, h5, h6, h7, h8, h9, h10⟩ := pk_at hp j (by omega)
  exact ⟨G, c, h5, h8, h9, Or.inr ⟨h6, h7⟩, fun hm => by have := hml G hm; omega, h7, h10⟩
theorem st_in' {w0 : World} {Mu L : Nat → Prop} {w : World} {pa pb : Nat} {A B : EndS} (S : St w0 Mu L w pa A pb B) (x : List Int) (ad : Option Addr) (n c : Nat) (hl : Rd w w.heap.size ad n (u8s x)) (hby : Byt x) (hn : n ≤ 1000000000) (hnc : n ≤ c) (hc : c ≤ 9223372036854775807)
    (hff : A.forged < 1000000000) (hft : A.tot < 1000000000) (hfc : A.delivered + A.cnt < 1000000000) :
    Calls Try.prog 19 #[.pointer (some ⟨pa, 0, none⟩), .slice ad n c] w fun e w' => ∃ OA oc k, e = .returned (.tuple #[.slice OA k oc, .int .i64 (inE A x).1.2]) ∧ k ≤ oc ∧ oc ≤ 9223372036854775807 ∧ (inE A x).1.1.length = k ∧ ∃ L', St w0 Mu L' w' pa (inE A x).2 pb B ∧ Grw L Mu w L' Mu w' ∧ Mess L' Mu w' OA k (inE A x).1.1 := by
  obtain ⟨⟨FA, FB, T⟩, hM, e⟩ := S
  have hml := T.a.1
  refine (in_any Mu FA pa A x ad n c w T.a hl hby hn hnc hc hff hft hfc).mono ?_
  rintro e w' ⟨OA, oc, k, ovs, rfl, hk1, ho, hp, hk, hE⟩
  have hoc := slice_cap ho
  refine ⟨OA, oc, k, rfl, hoc.1, hoc.2, hk1, _, ⟨⟨FA, FB, T.in hk hE⟩, hM, ext_kept e hk (fun b hb => hM b (T.a.fm b hb))⟩, grw_kept (hk.mono (fun b _ hF => ⟨T.a.fm b hF, fun hL => (T.l b hL).1 hF⟩)) (fun _ h => Or.inl h) (fun _ h => h) (fun _ _ h => h), fun h0 => ?_⟩
  obtain ⟨g, h1, h2, h3, h4⟩ := row_at ho h0
  refine ⟨g, h1, Or.inr ⟨h2, h3⟩, fun hm => by have := hml g hm; omega, h3, fun j hj => ?_⟩
  obtain ⟨_, _, A', c', h5, h6, h7, h8⟩ := hp.2 j (by omega)
  exact ⟨A', c', by rw [h4 j hj, h5], h6, h7, h8⟩
theorem around_w (x m : Int) (w : World) (hx : in64 x) (hm : 0 < m) (hm2 : m ≤ 9223372036854775807) :
    Calls Try.prog 10 #[.int .i64 x, .int .i64 m] w fun e w' => e = .returned (.int .i64 (aroundI x m)) ∧ w = w' :=
  (around_any x m w hx hm hm2).mono fun _ _ h => ⟨h.1, h.2.symm⟩
theorem two_cases {k : Nat} (h : k < 2) : k = 0 ∨ k = 1 := by omega
section
variable {w0 w : World} {P : Nat → Nat} {E : Nat → EndS} {I : LawI}
theorem ls_send (S : LawSt w0 P E I w) (hI : Stab I) {k : Nat} (hk : k < 2) (m : List Int) (ad : Option Addr) (n c : Nat) (hl : Rd w w.heap.size ad n (u8s m)) (hby : Byt m) (hn : n ≤ 65536) (h10 : (E k).waiting.length < 1000) (hk9 : (E k).acked + (E k).waiting.length < 1000000000) :
    Calls Try.prog 11 #[.pointer (some ⟨P k, 0, none⟩), .slice ad n c] w fun e w' => e = .returned (.int .i64 0) ∧ LawSt w0 P (updE E k (sendE (E k) m)) I w' := by
  obtain ⟨Mu, L, hS, hi⟩ := S
  rcases two_cases hk with rfl | rfl
  · refine (st_send' hS m ad n c hl hby hn h10 hk9).mono ?_
    rintro e w' ⟨rfl, Mu', hS', hg⟩
    exact ⟨rfl, Mu', L, hS', hI _ _ _ _ _ _ hg hi⟩
  · refine (st_send' hS.swap m ad n c hl hby hn h10 hk9).mono ?_
    rintro e w' ⟨rfl, Mu', hS', hg⟩
    exact ⟨rfl, Mu', L, hS'.swap, hI _ _ _ _ _ _ hg hi⟩
theorem ls_out (S : LawSt w0 P E I w) (hI : Stab I) {k : Nat} (hk : k < 2) :
    Calls Try.prog 13 #[.pointer (some ⟨P k, 0, none⟩)] w fun e w' => ∃ OA oc n, e = .returned (.slice OA n oc) ∧ n ≤ oc ∧ oc ≤ 9223372036854775807 ∧ (outL (E k)).length = n ∧ LawSt w0 P (updE E k (outE (E k))) (fun L Mu w => I L Mu w ∧ Packs L Mu w OA n (outL (E k))) w' := by
  obtain ⟨Mu, L, hS, hi⟩ := S
  rcases two_cases hk with rfl | rfl
  · refine (st_out' hS).mono ?_
    rintro e w' ⟨OA, oc, n, rfl, h1, h2, h3, L', hS', hg, hp⟩
    exact ⟨OA, oc, n, rfl, h1, h2, h3, Mu, L', hS', hI _ _ _ _ _ _ hg hi, hp⟩
  · refine (st_out' hS.swap).mono ?_
    rintro e w' ⟨OA, oc, n, rfl, h1, h2, h3, L', hS', hg, hp⟩
    exact ⟨OA, oc, n, rfl, h1, h2, h3, Mu, L', hS'.swap, hI _ _ _ _ _ _ hg hi, hp⟩
theorem ls_in (S : LawSt w0 P E I w) (hI : Stab I) {k : Nat} (hk : k < 2) (x : List Int) (ad : Option Addr) (n c : Nat) (hl : Rd w w.heap.size ad n (u8s x)) (hby : Byt x) (hn : n ≤ 1000000000) (hnc : n ≤ c) (hc : c ≤ 9223372036854775807)
    (hff : (E k).forged < 1000000000) (hft : (E k).tot < 1000000000) (hfc : (E k).delivered + (E k).cnt < 1000000000) (xs : List (List Int)) (r : Int) (E2 : EndS) (hr : inE (E k) x = ((xs, r), E2)) :
    Calls Try.prog 19 #[.pointer (some ⟨P k, 0, none⟩), .slice ad n c] w fun e w' => ∃ OA oc j, e = .returned (.tuple #[.slice OA j oc, .int .i64 r]) ∧ j ≤ oc ∧ oc ≤ 9223372036854775807 ∧ xs.length = j ∧ LawSt w0 P (updE E k E2) (fun L Mu w => I L Mu w ∧ Mess L Mu w OA j xs) w' := by
  obtain ⟨Mu, L, hS, hi⟩ := S
  rcases two_cases hk with rfl | rfl
  · refine (st_in' hS x ad n c hl hby hn hnc hc hff hft hfc).mono ?_
    rw [hr]
    rintro e w' ⟨OA, oc, j, rfl, h1, h2, h3, L', hS', hg, hp⟩
    exact ⟨OA, oc, j, rfl, h1, h2, h3, Mu, L', hS', hI _ _ _ _ _ _ hg hi, hp⟩
  · refine (st_in' hS.swap x ad n c hl hby hn hnc hc hff hft hfc).mono ?_
    rw [hr]
    rintro e w' ⟨OA, oc, j, rfl, h1, h2, h3, L', hS', hg, hp⟩
    exact ⟨OA, oc, j, rfl, h1, h2, h3, Mu, L', hS'.swap, hI _ _ _ _ _ _ hg hi, hp⟩
theorem ls_waiting (S : LawSt w0 P E I w) {k : Nat} (hk : k < 2) :
    Calls Try.prog 21 #[.pointer (some ⟨P k, 0, none⟩)] w fun e w' => e = .returned (.int .i64 (E k).waiting.length) ∧ w = w' := by
  obtain ⟨Mu, L, hS, hi⟩ := S
  rcases two_cases hk with rfl | rfl
  · exact (st_waiting hS).mono fun _ _ h => ⟨h.1, h.2.symm⟩
  · exact (st_waiting hS.swap).mono fun _ _ h => ⟨h.1, h.2.symm⟩
theorem ls_forged (S : LawSt w0 P E I w) {k : Nat} (hk : k < 2) :
    Calls Try.prog 22 #[.pointer (some ⟨P k, 0, none⟩)] w fun e w' => e = .returned (.int .i64 (E k).forged) ∧ w = w' := by
  obtain ⟨Mu, L, hS, hi⟩ := S
  rcases two_cases hk with rfl | rfl
  · exact (st_forged hS).mono fun _ _ h => ⟨h.1, h.2.symm⟩
  · exact (st_forged hS.swap).mono fun _ _ h => ⟨h.1, h.2.symm⟩
end
end Go.Proofs.Ytkgmoklifkojhaa
