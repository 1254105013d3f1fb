/- What the walk of LinkOrder carries: the law's slices beside the two ends. No condition. -/
import Derived.Test.YtkgmoklifkojhaaLkOrdS
import Derived.Test.YtkgmoklifkojhaaLkFam
import Derived.Test.YtkgmoklifkojhaaLkLawA
set_option linter.unusedSimpArgs false
set_option linter.unusedVariables false
namespace Go.Proofs.Ytkgmoklifkojhaa
open Go.RowKit
def numC (f : Nat → Nat) : List Value := [.int .i64 (f 0), .int .i64 (f 1)]
theorem numC_at (f : Nat → Nat) {k : Nat} (hk : k < 2) : (numC f)[k]? = some (.int .i64 (f k)) := by rcases two_cases hk with rfl | rfl <;> rfl
theorem ptrC_at (P : Nat → Nat) {k : Nat} (hk : k < 2) : (ptrC P)[k]? = some (.pointer (some ⟨P k, 0, none⟩)) := by rcases two_cases hk with rfl | rfl <;> rfl
theorem numC_set (f : Nat → Nat) {k : Nat} (hk : k < 2) (y : Nat) : (numC f).set k (.int .i64 (y : Int)) = numC (updE f k y) := by
  rcases two_cases hk with rfl | rfl <;> simp [numC, updE]
def ordT : Nat → TypeId
  | 0 => 28
  | 1 => 3
  | 5 => 3
  | _ => 33
theorem ordT_k {k : Nat} (hk : k < 2) : ordT (2 + k) = 33 := by rcases two_cases hk with rfl | rfl <;> rfl
def OrdJ (P : Nat → Nat) (ge : Nat) (S : Nat → List (List Int)) (X : Nat → List Value) (pk : List (List Int)) : LawI := fun L Mu w =>
  Cel L Mu w ge (ptrC P) ∧ (∀ k, k < 2 → Elems (X (2 + k)) (S k) L Mu w) ∧ Elems (X 4) pk L Mu w
theorem OrdJ.stab (P : Nat → Nat) (ge : Nat) (S : Nat → List (List Int)) (X : Nat → List Value) (pk : List (List Int)) : StabI (OrdJ P ge S X pk) := fun L Mu w L' Mu' w' h ⟨h1, h2, h3⟩ =>
  ⟨Cel.stab ge _ _ _ _ _ _ _ h h1, fun k hk => Elems.stab _ _ _ _ _ _ _ _ h (h2 k hk), Elems.stab _ _ _ _ _ _ _ _ h h3⟩
/-- What the law's slices hold. -/
structure OrdM (gs gg : Nat) (d : Nat → Nat) (tos : List Nat) (V : Nat → Value) (X : Nat → List Value) : Prop where
  v0 : V 0 = .slice (some ⟨gs, 0, none⟩) 2 2
  v1 : V 1 = .slice (some ⟨gg, 0, none⟩) 2 2
  x0 : X 0 = [V 2, V 3]
  x1 : X 1 = numC d
  x5 : X 5 = tos.map fun t => .int .i64 (t : Int)
theorem OrdM.at0 {gs gg : Nat} {d : Nat → Nat} {tos : List Nat} {V : Nat → Value} {X : Nat → List Value} (M : OrdM gs gg d tos V X) {k : Nat} (hk : k < 2) : (X 0)[k]? = some (V (2 + k)) := by
  rw [M.x0]; rcases two_cases hk with rfl | rfl <;> rfl
def OrdSt (w0 : World) (P : Nat → Nat) (ge gs gg : Nat) (win : Nat → Int) (key : Int) (m : Nat) (s10 s11 : Value) (w : World) : Prop :=
  ∃ E S a d pk tos V X, s10 = V 4 ∧ s11 = V 5 ∧ OrdR win key E S a d pk tos m ∧ OrdM gs gg d tos V X ∧ LawSt w0 P E (WF (OrdJ P ge S X pk) 6 ordT V X) w
theorem row_form {w : World} {b : Nat} {e : TypeId} {v : Value} {xs : List Value} (h : w.ownsRow b e 1 v xs.length xs) : ∃ A c, v = .slice A xs.length c ∧ xs.length ≤ c ∧ c ≤ 9223372036854775807 := by
  rcases h.2 with ⟨h1, h2⟩ | ⟨g, cap, cur, h1, _, _, h4, h5, _⟩
  · exact ⟨none, 0, by rw [h1, h2], by omega, by omega⟩
  · exact ⟨_, cap, h1, h4, by unfold maxLen at h5; exact h5⟩
theorem row_cell {w : World} {b : Nat} {e : TypeId} {g n c : Nat} {xs : List Value} (h : w.ownsRow b e 1 (.slice (some ⟨g, 0, none⟩) n c) n xs) (j : Nat) (hj : j < n) : w.cell? ⟨g, j, none⟩ = xs[j]? ∧ w.frozen? ⟨g, j, none⟩ = false := ⟨h.cellAt j (by omega), h.frozenAt j⟩
theorem row_addr {w : World} {b : Nat} {e : TypeId} {A : Option Addr} {n c : Nat} {xs : List Value} (h : w.ownsRow b e 1 (.slice A n c) n xs) (h0 : 0 < n) : ∃ g, A = some ⟨g, 0, none⟩ ∧ g < w.heap.size ∧ ∀ j, j < n → w.cell? ⟨g, j, none⟩ = xs[j]? := by
  rcases h.2 with ⟨_, h2⟩ | ⟨g, cap, cur, h1, _, h3, _⟩
  · omega
  · injection h1 with h1 _ _
    subst h1
    exact ⟨g, rfl, (Array.getElem?_eq_some_iff.1 h3).1, fun j hj => h.cellAt j (by omega)⟩
theorem own_of_blk {w : World} {g : Nat} {t : TypeId} {cs : List Value} (h : Blk w g t cs) (n : Nat) (hn : cs.length = n) (hm : n ≤ 1000000) : w.ownsRow 0 t 1 (.slice (some ⟨g, 0, none⟩) n n) n cs := by
  subst hn
  exact ⟨by omega, Or.inr ⟨g, cs.length, cs.toArray, rfl, Nat.zero_le _, h, Nat.le_refl _, by unfold maxLen; omega, by simp, by simp⟩⟩
/-- A family's slice: its form, and where it lies. -/
theorem fam_form {m : Nat} {T : Nat → TypeId} {V : Nat → Value} {X : Nat → List Value} {L Mu : Nat → Prop} {w : World} (F : Fam m T V X L Mu w) {i : Nat} (hi : i < m) : ∃ A c, V i = .slice A (X i).length c ∧ (X i).length ≤ c ∧ c ≤ 9223372036854775807 := row_form (F.row i hi)
theorem fam_cells {m : Nat} {T : Nat → TypeId} {V : Nat → Value} {X : Nat → List Value} {L Mu : Nat → Prop} {w : World} (F : Fam m T V X L Mu w) {i : Nat} (hi : i < m) {g n c : Nat} (hV : V i = .slice (some ⟨g, 0, none⟩) n c) : n = (X i).length ∧ g < w.heap.size ∧ ∀ j, j < n → w.cell? ⟨g, j, none⟩ = (X i)[j]? ∧ w.frozen? ⟨g, j, none⟩ = false := by
  have hr := F.row i hi
  have hn : n = (X i).length := by
    rcases hr.2 with ⟨h1, _⟩ | ⟨g', cap, cur, h1, _⟩
    · rw [hV] at h1; cases h1
    · rw [hV] at h1; injection h1
  rw [← hn, hV] at hr
  refine ⟨hn, (hr.lt g rfl).2, fun j hj => row_cell hr j hj⟩
theorem fam_addr {m : Nat} {T : Nat → TypeId} {V : Nat → Value} {X : Nat → List Value} {L Mu : Nat → Prop} {w : World} (F : Fam m T V X L Mu w) {i : Nat} (hi : i < m) {A : Option Addr} {n c : Nat} (hV : V i = .slice A n c) (h0 : 0 < n) : ∃ g, A = some ⟨g, 0, none⟩ := by
  have hr := F.row i hi
  rcases hr.2 with ⟨h1, _⟩ | ⟨g', cap, cur, h1, _⟩
  · rw [hV] at h1; injection h1 with _ h1 _; omega
  · rw [hV] at h1; injection h1 with h1 _ _; exact ⟨g', h1⟩
section
variable {w0 w : World} {P : Nat → Nat} {ge gs gg : Nat} {win : Nat → Int} {key : Int} {E : Nat → EndS} {S : Nat → List (List Int)} {a d : Nat → Nat} {pk : List (List Int)} {tos : List Nat} {m : Nat} {V : Nat → Value} {X : Nat → List Value}
/-- The start: two slices of the law's, four nil ones. -/
theorem ord_start {w4 w6 : World} (S1 : LawSt w0 P (fun k => newE (win k) key) (fun L Mu w => Cel L Mu w ge (ptrC P)) w) (h1 : Ext w w4) (g1 : w.heap.size ≤ gs) (b1 : Blk w4 gs 28 [.slice none 0 0, .slice none 0 0]) (h2 : Ext w4 w6) (g2 : w4.heap.size ≤ gg) (b2 : Blk w6 gg 3 [.int .i64 0, .int .i64 0]) :
    OrdSt w0 P ge gs gg win key 0 (.slice none 0 0) (.slice none 0 0) w6 := by
  have hne : gs ≠ gg := by have := b1.lt; omega
  refine ⟨_, _, _, _, _, _, fun | 0 => .slice (some ⟨gs, 0, none⟩) 2 2 | 1 => .slice (some ⟨gg, 0, none⟩) 2 2 | _ => .slice none 0 0, fun | 0 => [.slice none 0 0, .slice none 0 0] | 1 => numC (fun _ => 0) | _ => [], rfl, rfl, ordr_start win key, ⟨rfl, rfl, rfl, rfl, rfl⟩, S1.ext (Cel.stab ge _).stab (fun _ => True) (h1.next h2) (fun L Mu hn hc => ⟨⟨hc, fun k hk => ?_, Elems.nil _ _ _⟩, fun i hi => ?_, fun i hi b hb => ?_, fun i j b hi hj e1 e2 => ?_⟩)⟩
  · rcases two_cases hk with rfl | rfl <;> exact Elems.nil _ _ _
  · rcases i with _ | _ | i
    · exact own_of_blk (b1.ext h2) 2 rfl (by decide)
    · exact own_of_blk b2 2 rfl (by decide)
    · exact World.ownsRow_nil _ _ _ _
  · have h0 := hn gs (by omega) (Nat.lt_of_lt_of_le b1.lt h2.size)
    have h3 := hn gg (by have := h1.size; omega) b2.lt
    rcases i with _ | _ | i
    · injection hb with hb; rw [← hb]; exact ⟨h0.1, h0.2.1 trivial⟩
    · injection hb with hb; rw [← hb]; exact ⟨h3.1, h3.2.1 trivial⟩
    · cases hb
  · rcases i with _ | _ | i <;> rcases j with _ | _ | j <;> first | rfl | (cases e1; done) | (cases e2; done) | (injection e1 with e1; injection e2 with e2; exact absurd (e1.trans e2.symm) hne) | (injection e1 with e1; injection e2 with e2; exact absurd (e2.trans e1.symm) hne)
/-- A message has been sent and noted. -/
theorem ord_sent (R : OrdR win key E S a d pk tos m) (M : OrdM gs gg d tos V X) {k : Nat} (hk : k < 2) {msg : List Int} (hm : Byt msg ∧ msg.length = 2) {vb nv : Value}
    (H : LawSt w0 P (updE E k (sendE (E k) msg)) (WF (fun L Mu w => OrdJ P ge S X pk L Mu w ∧ PkV L Mu w vb msg) 6 ordT (updE V (2 + k) nv) (updE X (2 + k) (X (2 + k) ++ [vb]))) w) :
    OrdSt w0 P ge gs gg win key (m + 1) (V 4) (V 5) (w.setCell ⟨gs, k, none⟩ nv) := by
  have hJ : StabI (fun L Mu w => OrdJ P ge S X pk L Mu w ∧ PkV L Mu w vb msg) := (OrdJ.stab _ _ _ _ _).and (PkV.stab _ _)
  have H2 := fam_set H hJ (i := 0) (by decide) (by rw [updE_ne _ _ (by omega)]; exact M.v0) k nv
  refine ⟨_, _, _, _, _, _, _, _, ?_, ?_, R.send hk hm, ⟨?_, ?_, ?_, ?_, ?_⟩, H2.imp (fun L Mu h => ⟨⟨h.1.1.1, fun j hj => ?_, ?_⟩, h.2⟩)⟩
  · rw [updE_ne _ _ (by omega)]
  · rw [updE_ne _ _ (by omega)]
  · rw [updE_ne _ _ (by omega)]; exact M.v0
  · rw [updE_ne _ _ (by omega)]; exact M.v1
  · rw [updE_same, updE_ne _ _ (by omega), M.x0]
    rcases two_cases hk with rfl | rfl <;> simp [updE]
  · rw [updE_ne _ _ (by decide), updE_ne _ _ (by omega)]; exact M.x1
  · rw [updE_ne _ _ (by decide), updE_ne _ _ (by omega)]; exact M.x5
  · rw [updE_ne _ _ (by omega)]
    by_cases hjk : j = k
    · subst hjk; rw [updE_same, updE_same]; exact (h.1.1.2.1 j hj).snoc h.1.2
    · rw [updE_ne _ _ (by omega), updE_ne _ _ hjk]; exact h.1.1.2.1 j hj
  · rw [updE_ne _ _ (by decide), updE_ne _ _ (by omega)]; exact h.1.1.2.2
/-- A packet of the Out has been kept, and its end noted. -/
theorem ord_put {OA : Option Addr} {no t k : Nat} {ls : List (List Int)} {pv nv nw : Value} (M : OrdM gs gg d (tos ++ List.replicate t k) V X) (ht : t < ls.length)
    (H : LawSt w0 P E (WF (fun L Mu w => (OrdJ P ge S X (pk ++ ls.take t) L Mu w ∧ Packs L Mu w OA no ls) ∧ PkV L Mu w pv (ls.getD t [])) 6 ordT (updE (updE V 4 nv) 5 nw) (updE (updE X 4 (X 4 ++ [pv])) 5 (updE X 4 (X 4 ++ [pv]) 5 ++ [.int .i64 (k : Int)]))) w) :
    ∃ V' X', nv = V' 4 ∧ nw = V' 5 ∧ OrdM gs gg d (tos ++ List.replicate (t + 1) k) V' X' ∧ LawSt w0 P E (WF (fun L Mu w => OrdJ P ge S X' (pk ++ ls.take (t + 1)) L Mu w ∧ Packs L Mu w OA no ls) 6 ordT V' X') w := by
  refine ⟨_, _, ?_, ?_, ⟨?_, ?_, ?_, ?_, ?_⟩, H.imp (fun L Mu h => ⟨⟨⟨h.1.1.1.1, fun j hj => ?_, ?_⟩, h.1.1.2⟩, h.2⟩)⟩
  · rw [updE_ne _ _ (by decide), updE_same]
  · rw [updE_same]
  · rw [updE_ne _ _ (by decide), updE_ne _ _ (by decide)]; exact M.v0
  · rw [updE_ne _ _ (by decide), updE_ne _ _ (by decide)]; exact M.v1
  · rw [updE_ne _ _ (by decide), updE_ne _ _ (by decide), updE_ne _ _ (by decide), updE_ne _ _ (by decide), updE_ne _ _ (by decide), updE_ne _ _ (by decide)]; exact M.x0
  · rw [updE_ne _ _ (by decide), updE_ne _ _ (by decide)]; exact M.x1
  · rw [updE_same, updE_ne _ _ (by decide), M.x5, List.replicate_succ', ← List.append_assoc]; simp
  · rw [updE_ne _ _ (by omega), updE_ne _ _ (by omega)]; exact h.1.1.1.2.1 j hj
  · rw [updE_ne _ _ (by decide), updE_same]
    have e : pk ++ ls.take (t + 1) = (pk ++ ls.take t) ++ [ls.getD t []] := by
      rw [List.take_succ_eq_append_getElem ht, List.append_assoc, List.getD_eq_getElem?_getD, List.getElem?_eq_getElem ht]; rfl
    rw [e]
    exact h.1.1.1.2.2.snoc h.1.2
theorem ord_outs (R : OrdR win key E S a d pk tos m) {k : Nat} (hk : k < 2) (hw : win k ≤ 16) {OA : Option Addr} {no : Nat} (hno : (outL (E k)).length = no) (M : OrdM gs gg d (tos ++ List.replicate no (1 - k)) V X)
    (H : LawSt w0 P (updE E k (outE (E k))) (WF (fun L Mu w => OrdJ P ge S X (pk ++ (outL (E k)).take no) L Mu w ∧ Packs L Mu w OA no (outL (E k))) 6 ordT V X) w) : OrdSt w0 P ge gs gg win key (m + 1) (V 4) (V 5) w :=
  ⟨_, _, _, _, _, _, V, X, rfl, rfl, R.outs hk hw no (by omega), M, H.imp (fun L Mu h => ⟨h.1.1, h.2⟩)⟩
theorem ord_late (R : OrdR win key E S a d pk tos m) (M : OrdM gs gg d tos V X) (H : LawSt w0 P E (WF (OrdJ P ge S X pk) 6 ordT V X) w) : OrdSt w0 P ge gs gg win key (m + 1) (V 4) (V 5) w :=
  ⟨_, _, _, _, _, _, V, X, rfl, rfl, R.late, M, H⟩
/-- Messages have been delivered and counted. -/
theorem ord_got {t q jb : Nat} {E' : EndS} {a' : Nat} {OB : Option Addr} {xs : List (List Int)} (R : OrdR win key (updE E t E') S (updE a t a') (updE d t (d t + q)) pk tos m) (M : OrdM gs gg d tos V X) (hq : q = jb)
    (H : LawSt w0 P (updE E t E') (WF (fun L Mu w => OrdJ P ge S X pk L Mu w ∧ Mess L Mu w OB jb xs) 6 ordT V (updE X 1 (numC (updE d t (d t + jb))))) w) : OrdSt w0 P ge gs gg win key m (V 4) (V 5) w := by
  subst hq
  refine ⟨_, _, _, _, _, _, V, _, rfl, rfl, R, ⟨M.v0, M.v1, ?_, ?_, ?_⟩, H.imp (fun L Mu h => ⟨⟨h.1.1.1, fun j hj => ?_, ?_⟩, h.2⟩)⟩
  · rw [updE_ne _ _ (by decide)]; exact M.x0
  · rw [updE_same]
  · rw [updE_ne _ _ (by decide)]; exact M.x5
  · rw [updE_ne _ _ (by omega)]; exact h.1.1.2.1 j hj
  · rw [updE_ne _ _ (by decide)]; exact h.1.1.2.2
theorem OrdSt.ext {s10 s11 : Value} {w' : World} (h : OrdSt w0 P ge gs gg win key m s10 s11 w) (hE : Ext w w') : OrdSt w0 P ge gs gg win key m s10 s11 w' := by
  obtain ⟨E, S, a, d, pk, tos, V, X, h10, h11, R, M, hS⟩ := h
  exact ⟨E, S, a, d, pk, tos, V, X, h10, h11, R, M, hS.ext' (WF.stab (OrdJ.stab _ _ _ _ _)) hE⟩
end
theorem updE_self {α : Type} (f : Nat → α) (k : Nat) : updE f k (f k) = f := by
  funext j
  unfold updE
  by_cases h : j = k
  · rw [if_pos h, h]
  · rw [if_neg h]
theorem updE_idem {α : Type} (f : Nat → α) (k : Nat) (x y : α) : updE (updE f k x) k y = updE f k y := by
  funext j
  unfold updE
  by_cases h : j = k
  · rw [if_pos h, if_pos h]
  · rw [if_neg h, if_neg h, if_neg h]
theorem pko_byt {key : Int} {S : List (List Int)} {d : Nat} {l : List Int} (h : PkO key S d l) (hb : ∀ u, u < S.length → Byt (S.getD u [])) (hl : ∀ u, u < S.length → (S.getD u []).length ≤ 100) (hd : d ≤ 1000) (hS : S.length ≤ 1000) : Byt l ∧ l.length ≤ 1000 := by
  obtain ⟨s, c, m, rfl, hc, hm⟩ := h
  have hml : m.length ≤ 100 ∧ s ≤ 1000 := by
    rcases hm with ⟨rfl, rfl⟩ | ⟨u, rfl, hu, rfl⟩
    · exact ⟨by simp, by omega⟩
    · exact ⟨hl u hu, by omega⟩
  refine ⟨?_, ?_⟩
  · unfold sealL
    exact (packL_byt s c (by omega) (by omega) (by omega) (by omega) m (by omega)).app (sealB_byt key _)
  · rw [sealL_length]
    have := packL_le s c (by omega) (by omega) (by omega) (by omega) m (by omega)
    omega
theorem same_self2 (l : List Int) (A B : Option Addr) (n c k d : Nat) (w : World) (hl : Rd w w.heap.size A n (u8s l)) (hm : Rd w w.heap.size B k (u8s l)) (hn : n ≤ 9223372036854775807) :
    Calls Try.prog 29 #[.slice A n c, .slice B k d] w fun e w' => e = .returned (.bool true) ∧ Drew w w' :=
  (same_any l l A B n c k d w hl hm hn).mono fun e w' ⟨h1, h2⟩ => ⟨by rw [h1, decide_eq_true rfl], h2⟩
theorem frozen_ext2 {w w' : World} (h : Ext w w') {g j : Nat} (hg : g < w.heap.size) : w'.frozen? ⟨g, j, none⟩ = w.frozen? ⟨g, j, none⟩ := Below.frozen h (p := ⟨g, j, none⟩) hg
theorem OrdSt.e {w0 w : World} {P : Nat → Nat} {ge gs gg : Nat} {win : Nat → Int} {key : Int} {m : Nat} {s10 s11 : Value} (h : OrdSt w0 P ge gs gg win key m s10 s11 w) : Ext w0 w := by
  obtain ⟨E, S, a, d, pk, tos, V, X, h10, h11, R, M, hS⟩ := h
  exact hS.e
end Go.Proofs.Ytkgmoklifkojhaa
