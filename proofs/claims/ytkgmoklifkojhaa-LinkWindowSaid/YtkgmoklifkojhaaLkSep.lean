/- Objects in memory, each with blocks of its own that it alone writes; ends of a link as such objects; rows and facts of a law's own. No condition. -/
import Derived.Test.YtkgmoklifkojhaaLkEnds
import Derived.Test.YtkgmoklifkojhaaLkLawA
set_option linter.unusedSimpArgs false
set_option linter.unusedVariables false
namespace Go.Proofs.Ytkgmoklifkojhaa
open Go.RowKit
abbrev Obj := (Nat → Prop) → (Nat → Prop) → World → Prop
/-- What lies in blocks of its own lasts while others write theirs. -/
def ObjOk (O : Obj) : Prop := ∀ Mu Mu' Ft F w w', O Mu Ft w → Kept F w w' → (∀ b, F b → Mu b) → (∀ b, F b → ¬ Ft b) → (∀ b, b < w.heap.size → Mu' b → Mu b) → (∀ b, Mu b → Mu' b) → (∀ b, Mu' b → b < w'.heap.size) → O Mu' Ft w'
structure SepM (w0 : World) (n : Nat) (O : Nat → Obj) (Mu : Nat → Prop) (Ft : Nat → Nat → Prop) (w : World) : Prop where
  ok : ∀ i, i < n → ObjOk (O i)
  o : ∀ i, i < n → O i Mu (Ft i) w
  m : ∀ i, i < n → ∀ b, Ft i b → Mu b
  d : ∀ i j, i < n → j < n → i ≠ j → ∀ b, Ft i b → ¬ Ft j b
  l : ∀ b, Mu b → b < w.heap.size
  g : ∀ b, Mu b → w0.heap.size ≤ b
  e : Ext w0 w
def Sep (w0 : World) (n : Nat) (O : Nat → Obj) (w : World) : Prop := ∃ Mu Ft, SepM w0 n O Mu Ft w
theorem Sep.cong {w0 w : World} {n : Nat} {O O' : Nat → Obj} (S : Sep w0 n O w) (h : ∀ i, i < n → O i = O' i) : Sep w0 n O' w := by
  obtain ⟨Mu, Ft, S⟩ := S
  exact ⟨Mu, Ft, fun i hi => h i hi ▸ S.ok i hi, fun i hi => h i hi ▸ S.o i hi, S.m, S.d, S.l, S.g, S.e⟩
theorem Sep.e {w0 w : World} {n : Nat} {O : Nat → Obj} (S : Sep w0 n O w) : Ext w0 w := by
  obtain ⟨Mu, Ft, S⟩ := S
  exact S.e
/-- New memory alone. -/
theorem SepM.ext {w0 w w' : World} {n : Nat} {O : Nat → Obj} {Mu : Nat → Prop} {Ft : Nat → Nat → Prop} (S : SepM w0 n O Mu Ft w) (hE : Ext w w') : SepM w0 n O Mu Ft w' := by
  have hk : Kept (fun _ => False) w w' := Kept.of_ext hE
  have hl : ∀ b, Mu b → b < w'.heap.size := fun b hb => Nat.lt_of_lt_of_le (S.l b hb) hE.size
  exact ⟨S.ok, fun i hi => S.ok i hi _ _ _ _ _ _ (S.o i hi) hk (fun _ h => h.elim) (fun _ h => h.elim) (fun _ _ h => h) (fun _ h => h) hl, S.m, S.d, hl, S.g, S.e.next hE⟩
theorem Sep.ext {w0 w w' : World} {n : Nat} {O : Nat → Obj} (S : Sep w0 n O w) (hE : Ext w w') : Sep w0 n O w' := by
  obtain ⟨Mu, Ft, S⟩ := S
  exact ⟨Mu, Ft, S.ext hE⟩
/-- Object i writes its blocks (and takes new ones); object k (facts, say) is told of it. -/
theorem SepM.step {w0 w w' : World} {n : Nat} {O : Nat → Obj} {Mu : Nat → Prop} {Ft : Nat → Nat → Prop} (S : SepM w0 n O Mu Ft w) {i k : Nat} (hi : i < n) (hk : k < n) (hik : k ≠ i) {O' J' : Obj} {Mu' Ft' : Nat → Prop} (hO : ObjOk O') (hJ : ObjOk J') (hK : Kept (Ft i) w w')
    (hM : ∀ b, b < w.heap.size → Mu' b → Mu b) (hM2 : ∀ b, Mu b → Mu' b) (hM3 : ∀ b, Mu' b → b < w'.heap.size) (hF : ∀ b, Ft' b → Mu' b) (hFo : ∀ b, b < w.heap.size → Ft' b → Ft i b) (ho : O' Mu' Ft' w') (hj : O k Mu' (Ft k) w' → J' Mu' (Ft k) w') : Sep w0 n (updE (updE O i O') k J') w' := by
  have fr : ∀ j, j < n → j ≠ i → O j Mu' (Ft j) w' := fun j hj hji => S.ok j hj _ _ _ _ _ _ (S.o j hj) hK (S.m i hi) (fun b hb => S.d i j hi hj (Ne.symm hji) b hb) hM hM2 hM3
  have hlt : ∀ j, j < n → ∀ b, Ft j b → b < w.heap.size := fun j hj b hb => S.l b (S.m j hj b hb)
  refine ⟨Mu', updE Ft i Ft', fun j hj => ?_, fun j hj => ?_, fun j hj b hb => ?_, fun j l hj hl hjl b hb hb2 => ?_, hM3, fun b hb => ?_, ext_kept S.e hK (fun b hb => S.g b (S.m i hi b hb))⟩
  · by_cases h1 : j = k
    · subst h1; rw [updE_same]; exact hJ
    · rw [updE_ne _ _ h1]
      by_cases h2 : j = i
      · subst h2; rw [updE_same]; exact hO
      · rw [updE_ne _ _ h2]; exact S.ok j hj
  · by_cases h1 : j = k
    · subst h1; rw [updE_same, updE_ne _ _ hik]; exact hj (fr _ hk hik)
    · rw [updE_ne _ _ h1]
      by_cases h2 : j = i
      · subst h2; rw [updE_same, updE_same]; exact ho
      · rw [updE_ne _ _ h2, updE_ne _ _ h2]; exact fr j hj h2
  · by_cases h2 : j = i
    · subst h2; rw [updE_same] at hb; exact hF b hb
    · rw [updE_ne _ _ h2] at hb; exact hM2 b (S.m j hj b hb)
  · by_cases h2 : j = i
    · subst h2
      rw [updE_same] at hb
      rw [updE_ne _ _ (Ne.symm hjl)] at hb2
      exact S.d j l hj hl hjl b (hFo b (hlt l hl b hb2) hb) hb2
    · rw [updE_ne _ _ h2] at hb
      by_cases h3 : l = i
      · subst h3
        rw [updE_same] at hb2
        exact S.d j l hj hl hjl b hb (hFo b (hlt j hj b hb) hb2)
      · rw [updE_ne _ _ h3] at hb2
        exact S.d j l hj hl hjl b hb hb2
  · rcases Nat.lt_or_ge b w.heap.size with h | h
    · exact S.g b (hM b h hb)
    · exact Nat.le_trans S.e.size h
/-- A new object in new blocks; object k is told of it. -/
theorem SepM.new {w0 w w' : World} {n : Nat} {O : Nat → Obj} {Mu : Nat → Prop} {Ft : Nat → Nat → Prop} (S : SepM w0 n O Mu Ft w) (hE : Ext w w') {O' : Obj} (hO : ObjOk O') {Ft' : Nat → Prop} (hF : ∀ b, Ft' b → w.heap.size ≤ b ∧ b < w'.heap.size) (ho : O' (mor Mu Ft') Ft' w') : Sep w0 (n + 1) (updE O n O') w' := by
  have hk : Kept (fun _ => False) w w' := Kept.of_ext hE
  have hl : ∀ b, mor Mu Ft' b → b < w'.heap.size := fun b hb => hb.elim (fun h => Nat.lt_of_lt_of_le (S.l b h) hE.size) (fun h => (hF b h).2)
  have hlt : ∀ j, j < n → ∀ b, Ft j b → b < w.heap.size := fun j hj b hb => S.l b (S.m j hj b hb)
  refine ⟨mor Mu Ft', updE Ft n Ft', fun j hj => ?_, fun j hj => ?_, fun j hj b hb => ?_, fun j l hj hl hjl b hb hb2 => ?_, hl, fun b hb => ?_, S.e.next hE⟩
  · by_cases h : j = n
    · subst h; rw [updE_same]; exact hO
    · rw [updE_ne _ _ h]; exact S.ok j (by omega)
  · by_cases h : j = n
    · subst h; rw [updE_same, updE_same]; exact ho
    · rw [updE_ne _ _ h, updE_ne _ _ h]
      exact S.ok j (by omega) _ _ _ _ _ _ (S.o j (by omega)) hk (fun _ h => h.elim) (fun _ h => h.elim) (fun b hb h => h.resolve_right (fun h2 => by have := (hF b h2).1; omega)) (fun _ h => Or.inl h) hl
  · by_cases h : j = n
    · subst h; rw [updE_same] at hb; exact Or.inr hb
    · rw [updE_ne _ _ h] at hb; exact Or.inl (S.m j (by omega) b hb)
  · by_cases h : j = n
    · subst h
      rw [updE_same] at hb
      rw [updE_ne _ _ (Ne.symm hjl)] at hb2
      have := hlt l (by omega) b hb2
      have := (hF b hb).1
      omega
    · rw [updE_ne _ _ h] at hb
      by_cases h3 : l = n
      · subst h3
        rw [updE_same] at hb2
        have := hlt j (by omega) b hb
        have := (hF b hb2).1
        omega
      · rw [updE_ne _ _ h3] at hb2
        exact S.d j l (by omega) (by omega) hjl b hb hb2
  · rcases hb with hb | hb
    · exact S.g b hb
    · exact Nat.le_trans S.e.size (hF b hb).1
theorem Sep.new {w0 w w' : World} {n : Nat} {O : Nat → Obj} (S : Sep w0 n O w) (hE : Ext w w') {O' : Obj} (hO : ObjOk O') {Ft' : Nat → Prop} (hF : ∀ b, Ft' b → w.heap.size ≤ b ∧ b < w'.heap.size) (ho : ∀ Mu, (∀ b, Mu b → b < w.heap.size) → O' (mor Mu Ft') Ft' w') : Sep w0 (n + 1) (updE O n O') w' := by
  obtain ⟨Mu, Ft, S⟩ := S
  exact S.new hE hO hF (ho Mu S.l)
/-- Object i writes its blocks. -/
theorem SepM.step1 {w0 w w' : World} {n : Nat} {O : Nat → Obj} {Mu : Nat → Prop} {Ft : Nat → Nat → Prop} (S : SepM w0 n O Mu Ft w) {i : Nat} (hi : i < n) {O' : Obj} {Ft' : Nat → Prop} (hO : ObjOk O') (hK : Kept (Ft i) w w') (hFl : ∀ b, Ft' b → b < w'.heap.size) (hFo : ∀ b, b < w.heap.size → Ft' b → Ft i b) (ho : O' (mor Mu Ft') Ft' w') : Sep w0 n (updE O i O') w' := by
  have hTO : ObjOk (fun _ _ _ => True) := fun _ _ _ _ _ _ _ _ _ _ _ _ _ => trivial
  have S1 : SepM w0 (n + 1) (updE O n (fun _ _ _ => True)) Mu (updE Ft n (fun _ => False)) w := by
    refine ⟨fun j hj => ?_, fun j hj => ?_, fun j hj b hb => ?_, fun j l hj hl hjl b hb hb2 => ?_, S.l, S.g, S.e⟩
    · by_cases h : j = n
      · subst h; rw [updE_same]; exact hTO
      · rw [updE_ne _ _ h]; exact S.ok j (by omega)
    · by_cases h : j = n
      · subst h; rw [updE_same]; trivial
      · rw [updE_ne _ _ h, updE_ne _ _ h]; exact S.o j (by omega)
    · by_cases h : j = n
      · subst h; rw [updE_same] at hb; exact hb.elim
      · rw [updE_ne _ _ h] at hb; exact S.m j (by omega) b hb
    · by_cases h : j = n
      · subst h; rw [updE_same] at hb; exact hb
      · by_cases h3 : l = n
        · subst h3; rw [updE_same] at hb2; exact hb2
        · rw [updE_ne _ _ h] at hb; rw [updE_ne _ _ h3] at hb2; exact S.d j l (by omega) (by omega) hjl b hb hb2
  have hin : i ≠ n := by omega
  have S2 := S1.step (i := i) (k := n) (by omega) (by omega) (by omega) (O' := O') (J' := fun _ _ _ => True) (Mu' := mor Mu Ft') (Ft' := Ft') hO hTO (by rw [updE_ne _ _ hin]; exact hK) (fun b hb h => h.elim id (fun h => S.m i hi b (hFo b hb h))) (fun _ h => Or.inl h) (fun b hb => hb.elim (fun h => Nat.lt_of_lt_of_le (S.l b h) hK.size) (hFl b)) (fun _ h => Or.inr h) (fun b hb h => by rw [updE_ne _ _ hin]; exact hFo b hb h) ho (fun _ => trivial)
  obtain ⟨Mu2, Ft2, S3⟩ := S2
  refine ⟨Mu2, Ft2, fun j hj => ?_, fun j hj => ?_, fun j hj => S3.m j (by omega), fun j l hj hl => S3.d j l (by omega) (by omega), S3.l, S3.g, S3.e⟩
  · have h1 := S3.ok j (by omega)
    rw [updE_ne _ _ (by omega : j ≠ n)] at h1
    by_cases h : j = i
    · subst h; rw [updE_same] at h1 ⊢; exact h1
    · rw [updE_ne _ _ h, updE_ne _ _ (by omega : j ≠ n)] at h1; rw [updE_ne _ _ h]; exact h1
  · have h1 := S3.o j (by omega)
    rw [updE_ne _ _ (by omega : j ≠ n)] at h1
    by_cases h : j = i
    · subst h; rw [updE_same] at h1 ⊢; exact h1
    · rw [updE_ne _ _ h, updE_ne _ _ (by omega : j ≠ n)] at h1; rw [updE_ne _ _ h]; exact h1
/-- An end of a link. -/
def EndO (p : Nat) (E : EndS) : Obj := fun Mu Ft w => EndAt Mu Ft w p E
theorem EndO.ok (p : Nat) (E : EndS) : ObjOk (EndO p E) := fun Mu Mu' Ft F w w' h hk hF hd hM hM2 hl => EndAt.frame h hk hF hd hM hM2 hl
/-- Facts on what is never written. -/
def FactO (J : LawI) : Obj := fun Mu _ w => J (fun _ => True) Mu w
theorem FactO.ok {J : LawI} (h : StabI J) : ObjOk (FactO J) := fun Mu Mu' Ft F w w' h1 hk hF hd hM hM2 hl => h _ _ _ _ _ _ ⟨hk.size, fun _ h => h, hM, fun g hg hm => hk.block g hg (fun hf => hm (hF g hf))⟩ h1
/-- A slice of one-cell elements in a block of its own. -/
def RowO (T : TypeId) (v : Value) (xs : List Value) : Obj := fun Mu Ft w => w.ownsRow 0 T 1 v xs.length xs ∧ ∀ b, v.ownBlock = some b → Ft b
theorem RowO.ok (T : TypeId) (v : Value) (xs : List Value) : ObjOk (RowO T v xs) := fun Mu Mu' Ft F w w' h hk hF hd hM hM2 hl => ⟨hk.own h.1 (fun b hb hf => hd b hf (h.2 b hb)), h.2⟩
section
variable {w0 w : World} {n : Nat} {O : Nat → Obj}
/-- More facts, of what is new. -/
theorem Sep.fact (S : Sep w0 n O w) {k : Nat} (hk : k < n) {J J' : LawI} (hO : O k = FactO J) (hJ' : StabI J') (h : ∀ Mu : Nat → Prop, (∀ b, Mu b → b < w.heap.size) → J (fun _ => True) Mu w → J' (fun _ => True) Mu w) : Sep w0 n (updE O k (FactO J')) w := by
  obtain ⟨Mu, Ft, S⟩ := S
  refine ⟨Mu, Ft, fun j hj => ?_, fun j hj => ?_, S.m, S.d, S.l, S.g, S.e⟩
  · by_cases h2 : j = k
    · subst h2; rw [updE_same]; exact FactO.ok hJ'
    · rw [updE_ne _ _ h2]; exact S.ok j hj
  · by_cases h2 : j = k
    · subst h2; rw [updE_same]
      have := S.o j hj
      rw [hO] at this
      exact h Mu S.l this
    · rw [updE_ne _ _ h2]; exact S.o j hj
/-- As Sep.fact, of what has come since w. -/
theorem Sep.factNew {w' : World} (S : Sep w0 n O w) (hE : Ext w w') {k : Nat} (hk : k < n) {J J' : LawI} (hO : O k = FactO J) (hJ' : StabI J') (h : ∀ Mu : Nat → Prop, (∀ b, Mu b → b < w.heap.size) → J (fun _ => True) Mu w' → J' (fun _ => True) Mu w') : Sep w0 n (updE O k (FactO J')) w' := by
  obtain ⟨Mu, Ft, S⟩ := S
  have S2 := S.ext hE
  refine ⟨Mu, Ft, fun j hj => ?_, fun j hj => ?_, S2.m, S2.d, S2.l, S2.g, S2.e⟩
  · by_cases h2 : j = k
    · subst h2; rw [updE_same]; exact FactO.ok hJ'
    · rw [updE_ne _ _ h2]; exact S.ok j hj
  · by_cases h2 : j = k
    · subst h2; rw [updE_same]
      have := S2.o j hj
      rw [hO] at this
      exact h Mu S.l this
    · rw [updE_ne _ _ h2]; exact S2.o j hj
theorem Sep.get (S : Sep w0 n O w) {k : Nat} (hk : k < n) {J : LawI} (hO : O k = FactO J) : ∃ Mu : Nat → Prop, J (fun _ => True) Mu w ∧ (∀ b, Mu b → b < w.heap.size) := by
  obtain ⟨Mu, Ft, S⟩ := S
  have := S.o k hk
  rw [hO] at this
  exact ⟨Mu, this, S.l⟩
theorem Sep.row (S : Sep w0 n O w) {i : Nat} (hi : i < n) {T : TypeId} {v : Value} {xs : List Value} (hO : O i = RowO T v xs) : w.ownsRow 0 T 1 v xs.length xs := by
  obtain ⟨Mu, Ft, S⟩ := S
  have := S.o i hi
  rw [hO] at this
  exact this.1
theorem sp_send (S : Sep w0 n O w) {i : Nat} (hi : i < n) {p : Nat} {E : EndS} (hO : O i = EndO p E) (m : List Int) (ad : Option Addr) (k c : Nat) (hl : Rd w w.heap.size ad k (u8s m)) (hby : Byt m) (hn : k ≤ 65536) (h10 : E.waiting.length < 1000) (hk : E.acked + E.waiting.length < 1000000000) :
    Calls Try.prog 11 #[.pointer (some ⟨p, 0, none⟩), .slice ad k c] w fun e w' => e = .returned (.int .i64 0) ∧ Sep w0 n (updE O i (EndO p (sendE E m))) w' := by
  obtain ⟨Mu, Ft, S⟩ := S
  have ho := S.o i hi
  rw [hO] at ho
  refine (send_ok Mu (Ft i) p E m ad k c w ho hl hby hn h10 hk).mono ?_
  rintro e w' ⟨rfl, FA', ht, hf, hE⟩
  exact ⟨rfl, S.step1 hi (EndO.ok _ _) ht.kept hf ht.old hE⟩
theorem sp_out (S : Sep w0 n O w) {i k : Nat} (hi : i < n) (hk : k < n) (hik : k ≠ i) {p : Nat} {E : EndS} (hO : O i = EndO p E) {J : LawI} (hJ : O k = FactO J) (hS : StabI J) :
    Calls Try.prog 13 #[.pointer (some ⟨p, 0, none⟩)] w fun e w' => ∃ OA oc m, e = .returned (.slice OA m oc) ∧ m ≤ oc ∧ oc ≤ 9223372036854775807 ∧ (outL E).length = m ∧ Sep w0 n (updE (updE O i (EndO p (outE E))) k (FactO (fun L Mu w => J L Mu w ∧ Packs L Mu w OA m (outL E)))) w' := by
  obtain ⟨Mu, Ft, S⟩ := S
  have ho := S.o i hi
  rw [hO] at ho
  refine (out_any Mu (Ft i) p E w ho).mono ?_
  rintro e w' ⟨OA, oc, m, ovs, rfl, hn, hov, hp, hkk, hE⟩
  have hoc := slice_cap hov
  refine ⟨OA, oc, m, rfl, hoc.1, hoc.2, hn, S.step hi hk hik (EndO.ok _ _) (FactO.ok (hS.and (Packs.stab _ _ _))) hkk (fun _ _ h => h) (fun _ h => h) (fun b hb => Nat.lt_of_lt_of_le (S.l b hb) hkk.size) (S.m i hi) (fun _ _ h => h) (hE.less (fun _ h => Or.inl h) (S.m i hi)) (fun hj => ?_)⟩
  rw [hJ] at hj
  refine ⟨hj, fun h0 => ?_⟩
  obtain ⟨g, h1, h2, h3, h4⟩ := row_at hov h0
  refine ⟨g, h1, trivial, fun hm => by have := S.l g hm; omega, h3, fun j hj => ⟨_, h4 j hj, ?_⟩⟩
  obtain ⟨G, c, h5, h6, h7, h8, h9, h10⟩ := pk_at hp j (by omega)
  exact ⟨G, c, h5, h8, h9, trivial, fun hm => by have := S.l G hm; omega, h7, h10⟩
theorem sp_in (S : Sep w0 n O w) {i k : Nat} (hi : i < n) (hk : k < n) (hik : k ≠ i) {p : Nat} {E : EndS} (hO : O i = EndO p E) {J : LawI} (hJ : O k = FactO J) (hS : StabI J) (x : List Int) (ad : Option Addr) (m c : Nat) (hl : Rd w w.heap.size ad m (u8s x)) (hby : Byt x) (hn : m ≤ 1000000000) (hnc : m ≤ c) (hc : c ≤ 9223372036854775807)
    (hff : E.forged < 1000000000) (hft : E.tot < 1000000000) (hfc : E.delivered + E.cnt < 1000000000) (xs : List (List Int)) (r : Int) (E2 : EndS) (hr : inE E x = ((xs, r), E2)) :
    Calls Try.prog 19 #[.pointer (some ⟨p, 0, none⟩), .slice ad m c] w fun e w' => ∃ OA oc j, e = .returned (.tuple #[.slice OA j oc, .int .i64 r]) ∧ j ≤ oc ∧ oc ≤ 9223372036854775807 ∧ xs.length = j ∧ Sep w0 n (updE (updE O i (EndO p E2)) k (FactO (fun L Mu w => J L Mu w ∧ Mess L Mu w OA j xs))) w' := by
  obtain ⟨Mu, Ft, S⟩ := S
  have ho := S.o i hi
  rw [hO] at ho
  refine (in_any Mu (Ft i) p E x ad m c w ho hl hby hn hnc hc hff hft hfc).mono ?_
  rw [hr]
  rintro e w' ⟨OA, oc, j, ovs, rfl, hk1, hov, hp, hkk, hE⟩
  have hoc := slice_cap hov
  refine ⟨OA, oc, j, rfl, hoc.1, hoc.2, hk1, S.step hi hk hik (EndO.ok _ _) (FactO.ok (hS.and (Mess.stab _ _ _))) hkk (fun _ _ h => h) (fun _ h => h) (fun b hb => Nat.lt_of_lt_of_le (S.l b hb) hkk.size) (S.m i hi) (fun _ _ h => h) hE (fun hj => ?_)⟩
  rw [hJ] at hj
  refine ⟨hj, fun h0 => ?_⟩
  obtain ⟨g, h1, h2, h3, h4⟩ := row_at hov h0
  refine ⟨g, h1, trivial, fun hm => by have := S.l g hm; omega, h3, fun q hq => ?_⟩
  obtain ⟨_, _, A', c', h5, h6, h7, h8⟩ := hp.2 q (by omega)
  exact ⟨A', c', by rw [h4 q hq, h5], h6, h7, h8⟩
theorem sp_waiting (S : Sep w0 n O w) {i : Nat} (hi : i < n) {p : Nat} {E : EndS} (hO : O i = EndO p E) :
    Calls Try.prog 21 #[.pointer (some ⟨p, 0, none⟩)] w fun e w' => e = .returned (.int .i64 E.waiting.length) ∧ w = w' := by
  obtain ⟨Mu, Ft, S⟩ := S
  have ho := S.o i hi
  rw [hO] at ho
  exact (waiting_any Mu (Ft i) p E w ho).mono fun _ _ h => ⟨h.1, h.2.symm⟩
theorem sp_forged (S : Sep w0 n O w) {i : Nat} (hi : i < n) {p : Nat} {E : EndS} (hO : O i = EndO p E) :
    Calls Try.prog 22 #[.pointer (some ⟨p, 0, none⟩)] w fun e w' => e = .returned (.int .i64 E.forged) ∧ w = w' := by
  obtain ⟨Mu, Ft, S⟩ := S
  have ho := S.o i hi
  rw [hO] at ho
  exact (forged_any Mu (Ft i) p E w ho).mono fun _ _ h => ⟨h.1, h.2.symm⟩
/-- A store in a slice. -/
theorem sp_set (S : Sep w0 n O w) {i : Nat} (hi : i < n) {T : TypeId} {v : Value} {xs : List Value} (hO : O i = RowO T v xs) {g m c : Nat} (hV : v = .slice (some ⟨g, 0, none⟩) m c) (j : Nat) (u : Value) : Sep w0 n (updE O i (RowO T v (xs.set j u))) (w.setCell ⟨g, j, none⟩ u) := by
  obtain ⟨Mu, Ft, S⟩ := S
  have ho := S.o i hi
  rw [hO] at ho
  have hb : v.ownBlock = some g := by rw [hV]; rfl
  have hr := ho.1
  have hnl : m = xs.length := by
    rw [hV] at hr
    rcases hr.2 with ⟨h1, _⟩ | ⟨g', cap, cur, h1, _⟩
    · cases h1
    · injection h1
  refine S.step1 hi (RowO.ok _ _ _) (Kept.setCell (p := ⟨g, j, none⟩) w (ho.2 g hb) u) (Ft' := Ft i) (fun b hf => Nat.lt_of_lt_of_le (S.l b (S.m i hi b hf)) (by simp [World.setCell])) (fun _ _ h => h) ⟨?_, ho.2⟩
  rw [hV] at hr ⊢
  rw [List.length_set, ← hnl]
  rw [← hnl] at hr
  exact (hr.stored j u).1
/-- append of one element to a slice. -/
theorem wpList_sp_app {ops : Array Oper} {rest : List Oper} {o : Oper} {a : Act} {Q : Exit → Act → World → Prop} (S : Sep w0 n O w) {k : Nat} (hi : k < n) {T : TypeId} {v : Value} {xs : List Value} (hO : O k = RowO T v xs) (hgd : o.guard = none) (s x : Operand) (t : TypeId)
    (ho : o.op = .call { callee := .builtin .append, args := #[s, x], argTypes := #[t, t] })
    (i : TypeInfo) (z : Value) (bytes : Nat) (ht : Try.prog.underlying t = some (.slice T)) (hinf : Try.prog.info? T = some i) (hz : i.zero = some z)
    (hsize : i.size = 1) (hby : i.bytes = bytes) (hzs : z.cells.size = 1) (m : Nat) (hs : a.eval s = v) (hn : xs.length = m)
    (ad : Addr) (c : Nat) (u : Value) (hx : a.eval x = .slice (some ad) 1 c) (hu : w.cell? (ad.add 0) = some u) (h1 : u.oneCell' = true)
    (hb1 : m + 1 ≤ 1000000) (hb2 : bytes ≤ 1000)
    (h : ∀ A' c' w', Sep w0 n (updE O k (RowO T (.slice A' (m + 1) c') (xs ++ [u]))) w' → wpList Try.prog ops Q rest (a.put o.dst (.slice A' (m + 1) c')) w') : wpList Try.prog ops Q (o :: rest) a w := by
  obtain ⟨Mu, Ft, S⟩ := S
  have hr := S.o k hi
  rw [hO] at hr
  have hrow := hr.1
  rw [hn] at hrow
  have hbb : (m + 1) * bytes ≤ 140737488355328 := Nat.le_trans (Nat.mul_le_mul hb1 hb2) (by decide)
  refine wpList_append_own_at w hgd s x t ho 0 T i z 1 bytes ht hinf hz hsize hby hzs (by omega) v m xs hs hrow ad 1 c [u] hx rfl (fun j v hj => ?_) (fun v hv => by rw [List.mem_singleton] at hv; rw [hv]; exact h1) (by simp only [maxLen]; omega) hbb (Nat.zero_le _) ?_
  · rcases j with _ | j
    · simp only [List.getElem?_cons_zero, Option.some.injEq] at hj
      rw [← hj]; exact hu
    · simp at hj
  · intro v' w' hown hg _ hat
    obtain ⟨A', c', e⟩ := own_slice hown (Nat.succ_pos _)
    subst e
    have hk2 : Kept (Ft k) w w' := Kept.of_grown hg (fun b hb _ => hr.2 b hb)
    refine h A' c' w' (S.step1 hi (RowO.ok _ _ _) hk2 (Ft' := fun b => (Value.slice A' (m + 1) c').ownBlock = some b) (fun b hb => (hown.lt b hb).2) (fun b hb hf => ?_) ⟨by rw [List.length_append, hn]; exact hown, fun b hb => hb⟩)
    rcases hat with h2 | h2
    · rw [h2] at hf; exact hr.2 b hf
    · rw [h2] at hf; injection hf with hf; omega
end
/-- Two ends that a law has made, as objects. -/
theorem LawSt.sep {w0 w : World} {P : Nat → Nat} {E : Nat → EndS} {I : LawI} (S : LawSt w0 P E I w) {J : LawI} (hJ : StabI J) (h : ∀ L Mu, I L Mu w → J (fun _ => True) Mu w) : Sep w0 3 (fun | 0 => EndO (P 0) (E 0) | 1 => EndO (P 1) (E 1) | _ => FactO J) w := by
  obtain ⟨Mu, L, ⟨⟨FA, FB, T⟩, hm, e⟩, hi⟩ := S
  refine ⟨Mu, fun | 0 => FA | 1 => FB | _ => fun _ => False, fun i hi => ?_, fun i hi2 => ?_, fun i hi b hb => ?_, fun i j hi hj hij b h1 h2 => ?_, T.a.1, hm, e⟩
  · rcases i with _ | _ | i
    · exact EndO.ok _ _
    · exact EndO.ok _ _
    · exact FactO.ok hJ
  · rcases i with _ | _ | i
    · exact T.a
    · exact T.b
    · exact h L Mu hi
  · rcases i with _ | _ | i
    · exact T.a.fm b hb
    · exact T.b.fm b hb
    · exact hb.elim
  · rcases i with _ | _ | i
    · rcases j with _ | _ | j
      · exact hij rfl
      · exact T.d b h1 h2
      · exact h2
    · rcases j with _ | _ | j
      · exact T.d b h2 h1
      · exact hij rfl
      · exact h2
    · exact h1
end Go.Proofs.Ytkgmoklifkojhaa
