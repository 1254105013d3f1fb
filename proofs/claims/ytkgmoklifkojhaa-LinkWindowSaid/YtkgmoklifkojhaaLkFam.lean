/- A family of slices of a law's own, each with a block of its own; append and store. Conditions: sizes that fit the memory. -/
import Derived.Test.YtkgmoklifkojhaaLkEnds
set_option linter.unusedSimpArgs false
set_option linter.unusedVariables false
namespace Go.Proofs.Ytkgmoklifkojhaa
open Go.RowKit
/-- The law changes blocks of its own and makes new ones, of which those of N may be written. -/
theorem LawSt.put {w0 w w' : World} {P : Nat → Nat} {E : Nat → EndS} {I J : LawI} (S : LawSt w0 P E I w) (F N : Nat → Prop) (hk : Kept F w w')
    (h : ∀ L Mu, I L Mu w → (∀ g, F g → L g ∧ Mu g) ∧ ∀ L' Mu', GrwI L Mu w L' Mu' w' → (∀ g, Mu g → Mu' g) → (∀ g, w.heap.size ≤ g → g < w'.heap.size → L' g ∧ (N g → Mu' g) ∧ (¬ N g → ¬ Mu' g)) → J L' Mu' w') : LawSt w0 P E J w' := by
  obtain ⟨Mu, L, ⟨⟨FA, FB, T⟩, hm, e⟩, hi⟩ := S
  obtain ⟨h1, h2⟩ := h L Mu hi
  have hl : ∀ b, (Mu b ∨ (N b ∧ w.heap.size ≤ b ∧ b < w'.heap.size)) → b < w'.heap.size := fun b hb => hb.elim (fun h => Nat.lt_of_lt_of_le (T.a.1 b h) hk.size) (fun h => h.2.2)
  refine ⟨fun b => Mu b ∨ (N b ∧ w.heap.size ≤ b ∧ b < w'.heap.size), fun b => L b ∨ (w.heap.size ≤ b ∧ b < w'.heap.size), ⟨⟨FA, FB, ?_, ?_, T.d, fun x hx => ?_, fun x hx => ?_⟩, fun b hb => ?_, ext_kept e hk (fun b hb => hm b (h1 b hb).2)⟩, ?_⟩
  · exact T.a.frame hk (fun b hb => (h1 b hb).2) (fun b hb => (T.l b (h1 b hb).1).1) (fun b hb h => h.resolve_right (by omega)) (fun _ h => Or.inl h) hl
  · exact T.b.frame hk (fun b hb => (h1 b hb).2) (fun b hb => (T.l b (h1 b hb).1).2) (fun b hb h => h.resolve_right (by omega)) (fun _ h => Or.inl h) hl
  · rcases hx with hx | hx
    · exact T.l x hx
    · exact ⟨fun hf => by have := T.a.fl x hf; omega, fun hf => by have := T.b.fl x hf; omega⟩
  · rcases hx with hx | hx
    · exact Nat.lt_of_lt_of_le (T.ll x hx) hk.size
    · exact hx.2
  · rcases hb with hb | hb
    · exact hm b hb
    · exact Nat.le_trans e.size hb.2.1
  · refine h2 _ _ ⟨hk.size, fun g h => Or.inl h, fun g hg h => h.resolve_right (by omega), fun g hg hm => hk.block g hg (fun hf => hm (h1 g hf).2)⟩ (fun g h => Or.inl h) (fun g g1 g2 => ⟨Or.inr ⟨g1, g2⟩, fun hn => Or.inr ⟨hn, g1, g2⟩, fun hn hm2 => ?_⟩)
    rcases hm2 with h | h
    · have := T.a.1 g h; omega
    · exact hn h.1
/-- m slices of one-cell elements, each in a block of its own (or nil). -/
structure Fam (m : Nat) (T : Nat → TypeId) (V : Nat → Value) (X : Nat → List Value) (L Mu : Nat → Prop) (w : World) : Prop where
  row : ∀ i, i < m → w.ownsRow 0 (T i) 1 (V i) (X i).length (X i)
  own : ∀ i, i < m → ∀ b, (V i).ownBlock = some b → L b ∧ Mu b
  inj : ∀ i j b, i < m → j < m → (V i).ownBlock = some b → (V j).ownBlock = some b → i = j
theorem Fam.stab (m : Nat) (T : Nat → TypeId) (V : Nat → Value) (X : Nat → List Value) : Stab (Fam m T V X) := fun L Mu w L' Mu' w' h F =>
  ⟨fun i hi => by
    have ho := F.row i hi
    refine ⟨ho.1, ho.2.imp id ?_⟩
    rintro ⟨g, cap, cur, hv, h1, h2, h3⟩
    have hb : (V i).ownBlock = some g := by rw [hv]; rfl
    exact ⟨g, cap, cur, hv, h1, (h.keep g (Array.getElem?_eq_some_iff.1 h2).1 (fun h => h.2 (F.own i hi g hb).1)).trans h2, h3⟩, fun i hi b hb => ⟨h.l b (F.own i hi b hb).1, h.m b (F.own i hi b hb).2⟩, F.inj⟩
/-- The family after a change of one block alone, that of slice i, or of none. -/
theorem Fam.turn {m : Nat} {T : Nat → TypeId} {V : Nat → Value} {X : Nat → List Value} {L Mu L' Mu' : Nat → Prop} {w w' : World} (F : Fam m T V X L Mu w) {i : Nat} (hi : i < m) {v : Value} {xs : List Value}
    (hk : Kept (fun b => (V i).ownBlock = some b) w w') (ho : w'.ownsRow 0 (T i) 1 v xs.length xs) (hat : v.ownBlock = (V i).ownBlock ∨ v.ownBlock = some w.heap.size) (hL : ∀ g, L g → L' g) (hM : ∀ g, Mu g → Mu' g) (hn : v.ownBlock = some w.heap.size → L' w.heap.size ∧ Mu' w.heap.size) :
    Fam m T (updE V i v) (updE X i xs) L' Mu' w' := by
  refine ⟨fun j hj => ?_, fun j hj b hb => ?_, fun j k b hj hk2 h1 h2 => ?_⟩
  · by_cases hji : j = i
    · subst hji; rw [updE_same, updE_same]; exact ho
    · rw [updE_ne _ _ hji, updE_ne _ _ hji]
      exact hk.own (F.row j hj) (fun b hb h => hji (F.inj j i b hj hi hb h))
  · by_cases hji : j = i
    · subst hji; rw [updE_same] at hb
      rcases hat with h | h
      · rw [h] at hb; exact ⟨hL b (F.own j hi b hb).1, hM b (F.own j hi b hb).2⟩
      · have e : b = w.heap.size := by rw [h] at hb; injection hb with hb; exact hb.symm
        rw [e]; exact hn h
    · rw [updE_ne _ _ hji] at hb; exact ⟨hL b (F.own j hj b hb).1, hM b (F.own j hj b hb).2⟩
  · have key : ∀ j k b, j < m → k < m → j = i → k ≠ i → (updE V i v j).ownBlock = some b → (updE V i v k).ownBlock = some b → False := fun j k b hj hk3 hji hki e1 e2 => by
      subst hji
      rw [updE_same] at e1
      rw [updE_ne _ _ hki] at e2
      rcases hat with h | h
      · rw [h] at e1; exact hki (F.inj j k b hj hk3 e1 e2).symm
      · rw [h] at e1; injection e1 with e1
        have := ((F.row k hk3).lt b e2).2
        omega
    by_cases hji : j = i
    · by_cases hki : k = i
      · rw [hji, hki]
      · exact (key j k b hj hk2 hji hki h1 h2).elim
    · by_cases hki : k = i
      · exact (key k j b hk2 hj hki hji h2 h1).elim
      · rw [updE_ne _ _ hji] at h1
        rw [updE_ne _ _ hki] at h2
        exact F.inj j k b hj hk2 h1 h2
section
variable {w0 w : World} {P : Nat → Nat} {E : Nat → EndS} {J : LawI} {m : Nat} {T : Nat → TypeId} {V : Nat → Value} {X : Nat → List Value}
def WF (J : LawI) (m : Nat) (T : Nat → TypeId) (V : Nat → Value) (X : Nat → List Value) : LawI := fun L Mu w => J L Mu w ∧ Fam m T V X L Mu w
theorem WF.stab (hJ : StabI J) : Stab (WF J m T V X) := hJ.stab.and (Fam.stab m T V X)
/-- A store in slice i. -/
theorem fam_set (S : LawSt w0 P E (WF J m T V X) w) (hJ : StabI J) {i : Nat} (hi : i < m) {g n c : Nat} (hV : V i = .slice (some ⟨g, 0, none⟩) n c) (j : Nat) (u : Value) :
    LawSt w0 P E (WF J m T V (updE X i ((X i).set j u))) (w.setCell ⟨g, j, none⟩ u) := by
  have hk : Kept (fun b => b = g) w (w.setCell ⟨g, j, none⟩ u) := Kept.setCell (F := fun b => b = g) (p := ⟨g, j, none⟩) w rfl u
  have hb : (V i).ownBlock = some g := by rw [hV]; rfl
  refine S.own (fun b => b = g) hk (fun L Mu h => ⟨fun b e => by rw [e]; exact h.2.own i hi g hb, fun hG => ⟨hJ _ _ _ _ _ _ hG h.1, ?_⟩⟩)
  have hr := h.2.row i hi
  rw [hV] at hr
  have hnl : n = (X i).length := by
    rcases hr.2 with ⟨h1, _⟩ | ⟨g', cap, cur, h1, _⟩
    · cases h1
    · injection h1
  rw [← hnl] at hr
  have hs : (w.setCell ⟨g, j, none⟩ u).ownsRow 0 (T i) 1 (V i) ((X i).set j u).length ((X i).set j u) := by
    rw [hV, List.length_set, ← hnl]
    exact (hr.stored j u).1
  have hF := h.2.turn (L' := L) (Mu' := Mu) hi (v := V i) (hk.mono (fun b _ e => by rw [e]; exact hb)) hs (Or.inl rfl) (fun _ h => h) (fun _ h => h) (fun e => by
    rw [hb] at e; injection e with e
    have := ((h.2.row i hi).lt g hb).2
    omega)
  have e : updE V i (V i) = V := by funext k; unfold updE; split <;> simp_all
  rw [e] at hF
  exact hF
/-- append of one element to slice i. -/
theorem wpList_fam_app {ops : Array Oper} {rest : List Oper} {o : Oper} {a : Act} {Q : Exit → Act → World → Prop} (S : LawSt w0 P E (WF J m T V X) w) (hJ : StabI J) {k : Nat} (hi : k < m) (hgd : o.guard = none) (s x : Operand) (t : TypeId)
    (ho : o.op = .call { callee := .builtin .append, args := #[s, x], argTypes := #[t, t] })
    (i : TypeInfo) (z : Value) (bytes : Nat) (ht : Try.prog.underlying t = some (.slice (T k))) (hinf : Try.prog.info? (T k) = some i) (hz : i.zero = some z)
    (hsize : i.size = 1) (hby : i.bytes = bytes) (hzs : z.cells.size = 1) (n : Nat) (hs : a.eval s = V k) (hn : (X k).length = n)
    (ad : Addr) (c : Nat) (u : Value) (hx : a.eval x = .slice (some ad) 1 c) (hu : w.cell? (ad.add 0) = some u) (h1 : u.oneCell' = true)
    (hb1 : n + 1 ≤ 1000000) (hb2 : bytes ≤ 1000)
    (h : ∀ A' c' w', LawSt w0 P E (WF J m T (updE V k (.slice A' (n + 1) c')) (updE X k (X k ++ [u]))) w' → wpList Try.prog ops Q rest (a.put o.dst (.slice A' (n + 1) c')) w') : wpList Try.prog ops Q (o :: rest) a w := by
  obtain ⟨L0, M0, hI, _, _⟩ := S.get
  have hr := hI.2.row k hi
  rw [hn] at hr
  have hbb : (n + 1) * bytes ≤ 140737488355328 := Nat.le_trans (Nat.mul_le_mul hb1 hb2) (by decide)
  refine wpList_append_own_at w hgd s x t ho 0 (T k) i z 1 bytes ht hinf hz hsize hby hzs (by omega) (V k) n (X k) hs hr ad 1 c [u] hx rfl (fun j v hj => ?_) (fun v hv => by rw [List.mem_singleton] at hv; rw [hv]; exact h1) (by simp only [maxLen]; omega) hbb (Nat.zero_le _) ?_
  · rcases j with _ | j
    · simp only [List.getElem?_cons_zero, Option.some.injEq] at hj
      rw [← hj]; exact hu
    · simp at hj
  · intro v' w' hown hg _ hat
    obtain ⟨A', c', e⟩ := own_slice hown (Nat.succ_pos _)
    subst e
    refine h A' c' w' (S.put (fun b => (V k).ownBlock = some b) (fun _ => True) (Kept.of_grown hg (fun b hb _ => hb)) (fun L Mu hi2 => ⟨fun g hg2 => hi2.2.own k hi g hg2, fun L' Mu' hG hM hnew => ⟨hJ _ _ _ _ _ _ hG hi2.1, ?_⟩⟩))
    have hlen : (X k ++ [u]).length = n + 1 := by simp [hn]
    refine hi2.2.turn hi (Kept.of_grown hg (fun b hb _ => hb)) (by rw [hlen]; exact hown) hat hG.l hM (fun e => ?_)
    have hlt := (hown.lt w.heap.size e).2
    exact ⟨(hnew _ (Nat.le_refl _) hlt).1, (hnew _ (Nat.le_refl _) hlt).2.1 trivial⟩
end
/-- Elements of a slice that are packets or messages. -/
def Elems (vals : List Value) (ls : List (List Int)) : LawI := fun L Mu w => vals.length = ls.length ∧ ∀ j, j < ls.length → PkV L Mu w (vals.getD j undef) (ls.getD j [])
theorem Elems.stab (vals : List Value) (ls : List (List Int)) : StabI (Elems vals ls) := fun L Mu w L' Mu' w' h hp => ⟨hp.1, fun j hj => PkV.stab _ _ _ _ _ _ _ _ h (hp.2 j hj)⟩
theorem Elems.nil (L Mu : Nat → Prop) (w : World) : Elems [] [] L Mu w := ⟨rfl, fun j hj => by simp at hj⟩
theorem Elems.snoc {vals : List Value} {ls : List (List Int)} {v : Value} {l : List Int} {L Mu : Nat → Prop} {w : World} (h : Elems vals ls L Mu w) (hv : PkV L Mu w v l) : Elems (vals ++ [v]) (ls ++ [l]) L Mu w := by
  refine ⟨by simp [h.1], fun j hj => ?_⟩
  have hl := h.1
  rw [List.getD_eq_getElem?_getD, List.getD_eq_getElem?_getD]
  by_cases hjl : j < ls.length
  · rw [List.getElem?_append_left (by omega), List.getElem?_append_left hjl, ← List.getD_eq_getElem?_getD, ← List.getD_eq_getElem?_getD]
    exact h.2 j hjl
  · simp only [List.length_append, List.length_cons, List.length_nil] at hj
    obtain rfl : j = ls.length := by omega
    rw [List.getElem?_append_right (by omega), List.getElem?_append_right (Nat.le_refl _), hl]
    simpa using hv
end Go.Proofs.Ytkgmoklifkojhaa
