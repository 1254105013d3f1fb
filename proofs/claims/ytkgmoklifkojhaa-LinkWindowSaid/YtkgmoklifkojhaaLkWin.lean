/- Objects in a list; ends made, copied; packets that the law writes; what LinkWindow computes. Conditions: numbers below a bound. -/
import Derived.Test.YtkgmoklifkojhaaLkCopy
set_option linter.unusedSimpArgs false
set_option linter.unusedVariables false
namespace Go.Proofs.Ytkgmoklifkojhaa
open Go.RowKit
def listO (l : List Obj) : Nat → Obj := fun i => l.getD i (fun _ _ _ => True)
def SepL (w0 : World) (l : List Obj) (w : World) : Prop := Sep w0 l.length (listO l) w
theorem listO_at {l : List Obj} {i : Nat} {o : Obj} (h : l[i]? = some o) : listO l i = o ∧ i < l.length := by
  obtain ⟨h1, h2⟩ := List.getElem?_eq_some_iff.1 h
  exact ⟨by unfold listO; rw [List.getD_eq_getElem?_getD, h]; rfl, h1⟩
theorem SepL.set {w0 w : World} {l : List Obj} {i : Nat} {o : Obj} (S : Sep w0 l.length (updE (listO l) i o) w) : SepL w0 (l.set i o) w := by
  unfold SepL
  rw [List.length_set]
  refine S.cong (fun j hj => ?_)
  unfold listO updE
  simp only []
  rw [List.getD_eq_getElem?_getD, List.getD_eq_getElem?_getD, List.getElem?_set]
  by_cases h : j = i
  · subst h; rw [if_pos rfl, if_pos rfl, if_pos hj]; rfl
  · rw [if_neg h, if_neg (Ne.symm h)]
theorem SepL.snoc {w0 w : World} {l : List Obj} {o : Obj} (S : Sep w0 (l.length + 1) (updE (listO l) l.length o) w) : SepL w0 (l ++ [o]) w := by
  unfold SepL
  rw [List.length_append]
  refine S.cong (fun j hj => ?_)
  unfold listO updE
  simp only []
  rw [List.getD_eq_getElem?_getD, List.getD_eq_getElem?_getD]
  by_cases h : j = l.length
  · subst h; rw [if_pos rfl, List.getElem?_append_right (Nat.le_refl _)]; simp
  · rw [if_neg h, List.getElem?_append_left (by have hj2 : j < l.length + 1 := hj; omega)]
theorem SepL.nil (w : World) : SepL w [] w := ⟨fun _ => False, fun _ _ => False, fun i hi => by simp at hi, fun i hi => by simp at hi, fun i hi => by simp at hi, fun i j hi => by simp at hi, fun b hb => hb.elim, fun b hb => hb.elim, Ext.refl w⟩
section
variable {w0 w w' : World} {l : List Obj}
theorem SepL.ext (S : SepL w0 l w) (hE : Ext w w') : SepL w0 l w' := Sep.ext S hE
theorem SepL.e (S : SepL w0 l w) : Ext w0 w := Sep.e S
theorem SepL.new (S : SepL w0 l w) (hE : Ext w w') {O' : Obj} (hO : ObjOk O') {Ft' : Nat → Prop} (hF : ∀ b, Ft' b → w.heap.size ≤ b ∧ b < w'.heap.size) (ho : ∀ Mu, (∀ b, Mu b → b < w.heap.size) → O' (mor Mu Ft') Ft' w') : SepL w0 (l ++ [O']) w' := SepL.snoc (Sep.new S hE hO hF ho)
theorem sl_make (S : SepL w0 l w) (window key : Int) (h1 : 1 ≤ window) (h2 : window ≤ 16) (k0 : 0 ≤ key) (k1 : key ≤ 18446744073709551615) :
    Calls Try.prog 28 #[.int .i64 window, .int .u64 key] w fun e w' => ∃ p, e = .returned (.tuple #[.pointer (some ⟨p, 0, none⟩), .int .i64 0]) ∧ SepL w0 (l ++ [EndO p (newE window key)]) w' := by
  refine (new_any window key w h1 h2 k0 k1).mono ?_
  rintro e w' ⟨p, rfl, hE, Ft', hF, ho⟩
  exact ⟨p, rfl, S.new hE (EndO.ok _ _) hF ho⟩
theorem sl_copy (S : SepL w0 l w) {i : Nat} {p : Nat} {E : EndS} (hO : l[i]? = some (EndO p E)) :
    Calls Try.prog 31 #[.pointer (some ⟨p, 0, none⟩)] w fun e w' => ∃ q, e = .returned (.pointer (some ⟨q, 0, none⟩)) ∧ SepL w0 (l ++ [EndO q E]) w' := by
  obtain ⟨h1, h2⟩ := listO_at hO
  obtain ⟨Mu, Ft, S⟩ := S
  have ho := S.o i h2
  rw [h1] at ho
  refine (copy_any Mu (Ft i) p E w ho).mono ?_
  rintro e w' ⟨q, rfl, hE, Ft', hF, ho'⟩
  exact ⟨q, rfl, SepL.snoc (S.new hE (EndO.ok _ _) hF ho')⟩
theorem sl_send (S : SepL w0 l w) {i : Nat} {p : Nat} {E : EndS} (hO : l[i]? = some (EndO p E)) (m : List Int) (ad : Option Addr) (k c : Nat) (hl : Rd w w.heap.size ad k (u8s m)) (hby : Byt m) (hn : k ≤ 65536) (h10 : E.waiting.length < 1000) (hk : E.acked + E.waiting.length < 1000000000) :
    Calls Try.prog 11 #[.pointer (some ⟨p, 0, none⟩), .slice ad k c] w fun e w' => e = .returned (.int .i64 0) ∧ SepL w0 (l.set i (EndO p (sendE E m))) w' := by
  obtain ⟨h1, h2⟩ := listO_at hO
  exact (sp_send S h2 h1 m ad k c hl hby hn h10 hk).mono fun e w' h => ⟨h.1, SepL.set h.2⟩
theorem sl_full (S : SepL w0 l w) {i : Nat} {p : Nat} {E : EndS} (hO : l[i]? = some (EndO p E)) (ad : Option Addr) (k c : Nat) (hn : k ≤ 1000000000000) (hf : 65536 < k) :
    Calls Try.prog 11 #[.pointer (some ⟨p, 0, none⟩), .slice ad k c] w fun e w' => e = .returned (.int .i64 4) ∧ w = w' := by
  obtain ⟨h1, h2⟩ := listO_at hO
  obtain ⟨Mu, Ft, S⟩ := S
  have ho := S.o i h2
  rw [h1] at ho
  exact (send_full Mu (Ft i) p E ad k c w ho hn (Or.inl hf)).mono fun e w' h => ⟨h.1, h.2.symm⟩
theorem sl_waiting (S : SepL w0 l w) {i : Nat} {p : Nat} {E : EndS} (hO : l[i]? = some (EndO p E)) :
    Calls Try.prog 21 #[.pointer (some ⟨p, 0, none⟩)] w fun e w' => e = .returned (.int .i64 E.waiting.length) ∧ w = w' := by
  obtain ⟨h1, h2⟩ := listO_at hO
  exact sp_waiting S h2 h1
theorem sl_out (S : SepL w0 l w) {i k : Nat} {p : Nat} {E : EndS} {J : LawI} (hO : l[i]? = some (EndO p E)) (hJ : l[k]? = some (FactO J)) (hik : k ≠ i) (hS : StabI J) :
    Calls Try.prog 13 #[.pointer (some ⟨p, 0, none⟩)] w fun e w' => ∃ OA oc m, e = .returned (.slice OA m oc) ∧ m ≤ oc ∧ oc ≤ 9223372036854775807 ∧ (outL E).length = m ∧ SepL w0 ((l.set i (EndO p (outE E))).set k (FactO (fun L Mu w => J L Mu w ∧ Packs L Mu w OA m (outL E)))) w' := by
  obtain ⟨h1, h2⟩ := listO_at hO
  obtain ⟨h3, h4⟩ := listO_at hJ
  refine (sp_out S h2 h4 hik h1 h3 hS).mono fun e w' h => ?_
  obtain ⟨OA, oc, m, g1, g2, g3, g4, g5⟩ := h
  refine ⟨OA, oc, m, g1, g2, g3, g4, ?_⟩
  have hs : SepL w0 (l.set i (EndO p (outE E))) w' → True := fun _ => trivial
  refine SepL.set (l := l.set i (EndO p (outE E))) ?_
  rw [List.length_set]
  refine g5.cong (fun j hj => ?_)
  unfold updE listO
  by_cases hjk : j = k
  · rw [if_pos hjk, if_pos hjk]
  · rw [if_neg hjk, if_neg hjk, List.getD_eq_getElem?_getD, List.getD_eq_getElem?_getD, List.getElem?_set]
    by_cases hji : j = i
    · subst hji; rw [if_pos rfl, if_pos rfl, if_pos hj]; rfl
    · rw [if_neg hji, if_neg (Ne.symm hji)]
theorem sl_in (S : SepL w0 l w) {i k : Nat} {p : Nat} {E : EndS} {J : LawI} (hO : l[i]? = some (EndO p E)) (hJ : l[k]? = some (FactO J)) (hik : k ≠ i) (hS : StabI J) (x : List Int) (ad : Option Addr) (m c : Nat) (hl : Rd w w.heap.size ad m (u8s x)) (hby : Byt x) (hn : m ≤ 1000000000) (hnc : m ≤ c) (hc : c ≤ 9223372036854775807)
    (hff : E.forged < 1000000000) (hft : E.tot < 1000000000) (hfc : E.delivered + E.cnt < 1000000000) (xs : List (List Int)) (r : Int) (E2 : EndS) (hr : inE E x = ((xs, r), E2)) (n : Nat) (hxn : xs.length = n) :
    Calls Try.prog 19 #[.pointer (some ⟨p, 0, none⟩), .slice ad m c] w fun e w' => ∃ OA oc, e = .returned (.tuple #[.slice OA n oc, .int .i64 r]) ∧ SepL w0 (l.set i (EndO p E2)) w' := by
  obtain ⟨h1, h2⟩ := listO_at hO
  obtain ⟨h3, h4⟩ := listO_at hJ
  refine (sp_in S h2 h4 hik h1 h3 hS x ad m c hl hby hn hnc hc hff hft hfc xs r E2 hr).mono fun e w' h => ?_
  obtain ⟨OA, oc, j, g1, g2, g3, g4, g5⟩ := h
  have hj : j = n := g4.symm.trans hxn
  subst hj
  refine ⟨OA, oc, g1, SepL.set ?_⟩
  have g6 := Sep.fact g5 (k := k) h4 (updE_same _ _ _) hS (fun Mu _ hj => hj.1)
  refine g6.cong (fun j hj => ?_)
  by_cases hjk : j = k
  · subst hjk; rw [updE_same, updE_ne _ _ hik, h3]
  · rw [updE_ne _ _ hjk, updE_ne _ _ hjk]
theorem sl_facts (S : SepL w0 l w) {k : Nat} {J : LawI} (hJ : l[k]? = some (FactO J)) : ∃ Mu : Nat → Prop, J (fun _ => True) Mu w ∧ ∀ b, Mu b → b < w.heap.size := by
  obtain ⟨h3, h4⟩ := listO_at hJ
  exact Sep.get S h4 h3
theorem sl_row (S : SepL w0 l w) {i : Nat} {T : TypeId} {v : Value} {xs : List Value} (hO : l[i]? = some (RowO T v xs)) : w.ownsRow 0 T 1 v xs.length xs := by
  obtain ⟨h1, h2⟩ := listO_at hO
  exact Sep.row S h2 h1
theorem sl_set (S : SepL w0 l w) {i : Nat} {T : TypeId} {v : Value} {xs : List Value} (hO : l[i]? = some (RowO T v xs)) {g m c : Nat} (hV : v = .slice (some ⟨g, 0, none⟩) m c) (j : Nat) (u : Value) : SepL w0 (l.set i (RowO T v (xs.set j u))) (w.setCell ⟨g, j, none⟩ u) := by
  obtain ⟨h1, h2⟩ := listO_at hO
  exact SepL.set (sp_set S h2 h1 hV j u)
end
/-- Packets in a slice, which the law may write: from packet i on they are as they came. -/
def PacO (OA : Option Addr) (n : Nat) (ls : List (List Int)) (i : Nat) : Obj := fun Mu Ft w => ls.length = n ∧ (0 < n → ∃ (g : Nat) (G : Nat → Nat), OA = some ⟨g, 0, none⟩ ∧ Ft g ∧ g < w.heap.size ∧ (∀ j, j < n → G j ≠ g) ∧ (∀ j k, j < k → k < n → G j ≠ G k) ∧
  ∀ j, j < n → Ft (G j) ∧ G j < w.heap.size ∧ ∃ c, w.cell? ⟨g, j, none⟩ = some (.slice (some ⟨G j, 0, none⟩) (ls.getD j []).length c) ∧ (i ≤ j → w.ownsRow 0 5 1 (.slice (some ⟨G j, 0, none⟩) (ls.getD j []).length c) (ls.getD j []).length (u8s (ls.getD j []))))
theorem PacO.ok (OA : Option Addr) (n : Nat) (ls : List (List Int)) (i : Nat) : ObjOk (PacO OA n ls i) := fun Mu Mu' Ft F w w' h hk hF hd hM hM2 hl => by
  refine ⟨h.1, fun h0 => ?_⟩
  obtain ⟨g, G, h1, h2, h3, h4, h5, h6⟩ := h.2 h0
  refine ⟨g, G, h1, h2, Nat.lt_of_lt_of_le h3 hk.size, h4, h5, fun j hj => ?_⟩
  obtain ⟨g1, g2, c, g3, g4⟩ := h6 j hj
  exact ⟨g1, Nat.lt_of_lt_of_le g2 hk.size, c, (hk.cell (p := ⟨g, j, none⟩) h3 (fun hf => hd _ hf h2)).trans g3, fun hij => hk.own (g4 hij) (fun b hb hf => by injection hb with hb; rw [← hb] at hf; exact hd _ hf g1)⟩
theorem SepM.stepNew {w0 w w' : World} {n : Nat} {O : Nat → Obj} {Mu : Nat → Prop} {Ft : Nat → Nat → Prop} (S : SepM w0 n O Mu Ft w) {i : Nat} (hi : i < n) {O' N' : Obj} {Fn : Nat → Prop} (hO : ObjOk O') (hN : ObjOk N') (hK : Kept (Ft i) w w') (hFn : ∀ b, Fn b → w.heap.size ≤ b ∧ b < w'.heap.size) (ho : O' (mor Mu Fn) (Ft i) w') (hn : N' (mor Mu Fn) Fn w') : Sep w0 (n + 1) (updE (updE O i O') n N') w' := by
  have hl : ∀ b, mor Mu Fn b → b < w'.heap.size := fun b hb => hb.elim (fun h => Nat.lt_of_lt_of_le (S.l b h) hK.size) (fun h => (hFn b h).2)
  have hM : ∀ b, b < w.heap.size → mor Mu Fn b → Mu b := fun b hb h => h.elim id (fun h => by have := (hFn b h).1; omega)
  have hlt : ∀ j, j < n → ∀ b, Ft j b → b < w.heap.size := fun j hj b hb => S.l b (S.m j hj b hb)
  have hin : i ≠ n := by omega
  refine ⟨mor Mu Fn, updE Ft n Fn, fun j hj => ?_, fun j hj => ?_, fun j hj b hb => ?_, fun j k hj hk hjk b hb hb2 => ?_, hl, fun b hb => ?_, ext_kept S.e hK (fun b hb => S.g b (S.m i hi b hb))⟩
  · by_cases h : j = n
    · subst h; rw [updE_same]; exact hN
    · rw [updE_ne _ _ h]
      by_cases h2 : j = i
      · subst h2; rw [updE_same]; exact hO
      · rw [updE_ne _ _ h2]; exact S.ok j (by omega)
  · by_cases h : j = n
    · subst h; rw [updE_same, updE_same]; exact hn
    · rw [updE_ne _ _ h, updE_ne _ _ h]
      by_cases h2 : j = i
      · subst h2; rw [updE_same]; exact ho
      · rw [updE_ne _ _ h2]
        exact S.ok j (by omega) _ _ _ _ _ _ (S.o j (by omega)) hK (S.m i hi) (fun b hb => S.d i j hi (by omega) (Ne.symm h2) b hb) hM (fun _ h => Or.inl h) hl
  · by_cases h : j = n
    · subst h; rw [updE_same] at hb; exact Or.inr hb
    · rw [updE_ne _ _ h] at hb; exact Or.inl (S.m j (by omega) b hb)
  · by_cases h : j = n
    · subst h
      rw [updE_same] at hb
      rw [updE_ne _ _ (Ne.symm hjk)] at hb2
      have := hlt k (by omega) b hb2
      have := (hFn b hb).1
      omega
    · rw [updE_ne _ _ h] at hb
      by_cases h3 : k = n
      · subst h3
        rw [updE_same] at hb2
        have := hlt j (by omega) b hb
        have := (hFn b hb2).1
        omega
      · rw [updE_ne _ _ h3] at hb2
        exact S.d j k (by omega) (by omega) hjk b hb hb2
  · rcases hb with hb | hb
    · exact S.g b hb
    · exact Nat.le_trans S.e.size (hFn b hb).1
section
variable {w0 w w' : World} {l : List Obj}
theorem sl_outW (S : SepL w0 l w) {i : Nat} {p : Nat} {E : EndS} (hO : l[i]? = some (EndO p E)) :
    Calls Try.prog 13 #[.pointer (some ⟨p, 0, none⟩)] w fun e w' => ∃ OA oc m, e = .returned (.slice OA m oc) ∧ m ≤ oc ∧ oc ≤ 9223372036854775807 ∧ (outL E).length = m ∧ SepL w0 (l.set i (EndO p (outE E)) ++ [PacO OA m (outL E) 0]) w' := by
  obtain ⟨h1, h2⟩ := listO_at hO
  obtain ⟨Mu, Ft, S⟩ := S
  have ho := S.o i h2
  rw [h1] at ho
  refine (out_any Mu (Ft i) p E w ho).mono ?_
  rintro e w' ⟨OA, oc, m, ovs, rfl, hn, hov, hp, hkk, hE⟩
  have hoc := slice_cap hov
  have hE2 : EndO p (outE E) (mor Mu (fun b => w.heap.size ≤ b ∧ b < w'.heap.size)) (Ft i) w' := hE.less (fun b h => h) (fun b hb => Or.inl (S.m i h2 b hb))
  have hpac : PacO OA m (outL E) 0 (mor Mu (fun b => w.heap.size ≤ b ∧ b < w'.heap.size)) (fun b => w.heap.size ≤ b ∧ b < w'.heap.size) w' := by
    refine ⟨hn, fun h0 => ?_⟩
    obtain ⟨g, g1, g2, g3, g4⟩ := row_at hov h0
    obtain ⟨hpl, G, hG⟩ := hp
    refine ⟨g, G, g1, ⟨g2, g3⟩, g3, fun j hj he => ?_, fun j k hjk hk he => ?_, fun j hj => ?_⟩
    · obtain ⟨_, _, c, _, h6⟩ := hG j (by omega)
      rw [g1] at hov
      exact own_tag h6 hov (by decide) (k := g) (by rw [he]; rfl) rfl
    · obtain ⟨_, h5, _⟩ := hG k (by omega)
      have := h5 j hjk
      omega
    · obtain ⟨h4, _, c, h5, h6⟩ := hG j (by omega)
      have h7 := own_lt h6
      exact ⟨h7, h7.2, c, by rw [g4 j hj, h5], fun _ => own_mono h6 (Nat.zero_le _)⟩
  have hs := S.stepNew h2 (EndO.ok _ _) (PacO.ok _ _ _ _) hkk (fun b hb => hb) hE2 hpac
  refine ⟨OA, oc, m, rfl, hoc.1, hoc.2, hn, SepL.snoc (l := l.set i (EndO p (outE E))) ?_⟩
  rw [List.length_set]
  refine hs.cong (fun j hj => ?_)
  by_cases hjn : j = l.length
  · subst hjn; rw [updE_same, updE_same]
  · rw [updE_ne _ _ hjn, updE_ne _ _ hjn]
    unfold updE listO
    rw [List.getD_eq_getElem?_getD, List.getD_eq_getElem?_getD, List.getElem?_set]
    by_cases hji : j = i
    · subst hji; rw [if_pos rfl, if_pos rfl, if_pos h2]; rfl
    · rw [if_neg hji, if_neg (Ne.symm hji)]
/-- What the law finds at its packet i. -/
theorem sl_pac (S : SepL w0 l w) {k : Nat} {OA : Option Addr} {n i : Nat} {ls : List (List Int)} (hO : l[k]? = some (PacO OA n ls i)) (hi : i < n) : ∃ g G c, OA = some ⟨g, 0, none⟩ ∧ g < w.heap.size ∧ w.cell? ⟨g, i, none⟩ = some (.slice (some ⟨G, 0, none⟩) (ls.getD i []).length c) ∧ w.ownsRow 0 5 1 (.slice (some ⟨G, 0, none⟩) (ls.getD i []).length c) (ls.getD i []).length (u8s (ls.getD i [])) := by
  obtain ⟨h1, h2⟩ := listO_at hO
  obtain ⟨Mu, Ft, S⟩ := S
  have ho := S.o k h2
  rw [h1] at ho
  obtain ⟨g, G, g1, g2, g3, g4, g5, g6⟩ := ho.2 (by omega)
  obtain ⟨_, _, c, h3, h4⟩ := g6 i hi
  exact ⟨g, G i, c, g1, g3, h3, h4 (Nat.le_refl _)⟩
theorem sl_pac_set (S : SepL w0 l w) {k : Nat} {n i g G c m : Nat} {ls : List (List Int)} (hO : l[k]? = some (PacO (some ⟨g, 0, none⟩) n ls i)) (hi : i < n) (hc : w.cell? ⟨g, i, none⟩ = some (.slice (some ⟨G, 0, none⟩) m c)) (v : Value) : SepL w0 (l.set k (PacO (some ⟨g, 0, none⟩) n ls (i + 1))) (w.setCell ⟨G, 0, none⟩ v) := by
  obtain ⟨h1, h2⟩ := listO_at hO
  obtain ⟨Mu, Ft, S⟩ := S
  have ho := S.o k h2
  rw [h1] at ho
  obtain ⟨hlen, hpk⟩ := ho
  obtain ⟨g', G', g1, g2, g3, g4, g5, g6⟩ := hpk (by omega)
  injection g1 with g1
  injection g1 with g1 _
  subst g1
  obtain ⟨hF, hGl, c', h3, h4⟩ := g6 i hi
  rw [hc] at h3
  injection h3 with h3
  injection h3 with h3 _ _
  injection h3 with h3
  injection h3 with h3 _
  subst h3
  have hk : Kept (fun b => b = G' i) w (w.setCell ⟨G' i, 0, none⟩ v) := Kept.setCell (F := fun b => b = G' i) (p := ⟨G' i, 0, none⟩) w rfl v
  have hsz : (w.setCell ⟨G' i, 0, none⟩ v).heap.size = w.heap.size := by simp [World.setCell]
  refine SepL.set (S.step1 h2 (PacO.ok _ _ _ _) (hk.mono (fun b _ hb => by rw [hb]; exact hF)) (Ft' := Ft k) (fun b hb => by rw [hsz]; exact S.l b (S.m k h2 b hb)) (fun _ _ h => h) ⟨hlen, fun h0 => ⟨g, G', rfl, g2, by rw [hsz]; exact g3, g4, g5, fun j hj => ?_⟩⟩)
  obtain ⟨f1, f2, c2, f3, f4⟩ := g6 j hj
  refine ⟨f1, by rw [hsz]; exact f2, c2, (hk.cell (p := ⟨g, j, none⟩) g3 (fun h => g4 i hi h.symm)).trans f3, fun hij => hk.own (f4 (by omega)) (fun b hb h => ?_)⟩
  injection hb with hb
  exact g5 i j (by omega) hj (by rw [← h, ← hb])
end
/-- What the first end holds: a of the messages ms are acknowledged. -/
def wE (window key : Int) (ms : List (List Int)) (a : Nat) : EndS := ⟨window, key, ms.drop a, a, 0, fun _ => none, false, 0, 0, 0⟩
def msN (n : Nat) : List (List Int) := (List.range n).map fun i : Nat => [(i : Int)]
theorem msN_length (n : Nat) : (msN n).length = n := by simp [msN]
theorem msN_succ (n : Nat) : msN (n + 1) = msN n ++ [[(n : Int)]] := by unfold msN; rw [List.range_succ, List.map_append]; rfl
theorem msN_at {n i : Nat} (h : i < n) : (msN n).getD i [] = [(i : Int)] := by
  unfold msN
  rw [List.getD_eq_getElem?_getD, List.getElem?_map, List.getElem?_range h]; rfl
theorem wE_send (window key : Int) (ms : List (List Int)) (m : List Int) : sendE (wE window key ms 0) m = wE window key (ms ++ [m]) 0 := by simp [sendE, wE]
theorem wE_out (window key : Int) (ms : List (List Int)) (a : Nat) : outE (wE window key ms a) = wE window key ms a := rfl
theorem wE_outL (window key : Int) (n a : Nat) : outL (wE window key (msN n) a) = outTo (wE window key (msN n) a) (min (n - a) window.toNat) := by
  unfold outL
  rw [if_neg (fun h => by cases h.2)]
  unfold outK
  simp only [wE, List.length_drop, msN_length]
theorem wE_pkt (window key : Int) (n i : Nat) (h : i < n) : pktE (wE window key (msN n) 0) i = sealL key (packL (i + 1) 0 [(i : Int)]) := by
  unfold pktE
  simp only [wE, List.drop_zero, msN_at h]
  rw [show ((0 : Nat) : Int) + (i : Int) + 1 = (i : Int) + 1 by omega]
theorem outTo_at (E : EndS) {t j : Nat} (h : j < t) : (outTo E t).getD j [] = pktE E j := by
  unfold outTo
  rw [List.getD_eq_getElem?_getD, List.getElem?_map, List.getElem?_range h]; rfl
theorem wE_far (window key : Int) (n : Nat) (hn : n ≤ 1000) : inE (wE window key (msN n) 0) (sealL key (packL 0 ((n : Int) + 1) [])) = (([], 0), wE window key (msN n) 0) := by
  have h := inE_pack (wE window key (msN n) 0) 0 ((n : Int) + 1) [] (by decide) (by decide) (by omega) (by omega) Byt.nil (by simp) (Or.inr rfl)
  refine h.trans ?_
  unfold pktIn
  rw [if_pos]
  left
  simp only [wE, List.drop_zero, msN_length]
  omega
theorem wE_ack (window key : Int) (n k : Nat) (hn : n ≤ 1000) (hk : k ≤ n) : inE (wE window key (msN n) 0) (sealL key (packL 0 (k : Int) [])) = (([], 0), wE window key (msN n) k) := by
  have h := inE_pack (wE window key (msN n) 0) 0 (k : Int) [] (by decide) (by decide) (by omega) (by omega) Byt.nil (by simp) (Or.inr rfl)
  refine h.trans ?_
  unfold pktIn
  rw [if_neg, if_pos rfl]
  · unfold ackE
    by_cases hk0 : 0 < k
    · rw [if_pos (by simp only [wE]; omega)]
      simp only [wE, List.drop_zero]
      congr 2
    · obtain rfl : k = 0 := by omega
      rw [if_neg (by simp [wE])]
  · simp only [wE, List.drop_zero, msN_length]
    omega
/-- An end that has got packet 2 alone. -/
def dE (key : Int) : EndS := (inE (newE 1 key) (sealL key (packL 2 0 [1]))).2
theorem byt1 {i : Int} (h0 : 0 ≤ i) (h1 : i ≤ 255) : Byt [i] := fun y hy => by rw [List.mem_singleton] at hy; rw [hy]; exact ⟨h0, h1⟩
theorem dE_eq (key : Int) : inE (newE 1 key) (sealL key (packL 2 0 [1])) = (([], 0), ⟨1, key, [], 0, 0, fun j => if j = 2 then some [1] else none, true, 0, 1, 1⟩) := by
  have h := inE_pack (newE 1 key) 2 0 [1] (by decide) (by decide) (by decide) (by decide) (byt1 (by decide) (by decide)) (by decide) (Or.inl (by decide))
  refine h.trans ?_
  simp [pktIn, newE, ackE, owesE, putE, deliverN]
theorem dE_two (key : Int) : ∃ xs E', inE ⟨1, key, [], 0, 0, fun j => if j = 2 then some [1] else none, true, 0, 1, 1⟩ (sealL key (packL 1 0 [0])) = ((xs, 0), E') ∧ xs.length = 2 := by
  have h := inE_pack ⟨1, key, [], 0, 0, fun j => if j = 2 then some [1] else none, true, 0, 1, 1⟩ 1 0 [0] (by decide) (by decide) (by decide) (by decide) (byt1 (by decide) (by decide)) (by decide) (Or.inl (by decide))
  exact ⟨[[0], [1]], _, h.trans (by simp [pktIn, ackE, owesE, putE, deliverN, stepD]; rfl), rfl⟩
end Go.Proofs.Ytkgmoklifkojhaa
