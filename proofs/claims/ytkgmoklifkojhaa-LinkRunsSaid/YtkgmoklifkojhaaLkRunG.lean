/- The objects of LinkRuns in memory: two ends, two Ends of the reference, the law's slices, and the methods on them. Conditions: numbers below a bound. -/
import Derived.Test.YtkgmoklifkojhaaLkRunS
import Derived.Test.YtkgmoklifkojhaaLkRunE
import Derived.Test.YtkgmoklifkojhaaLkOrdW
set_option linter.unusedSimpArgs false
set_option linter.unusedVariables false
namespace Go.Proofs.Ytkgmoklifkojhaa
open Go.RowKit
theorem rin_any (Mu Ft : Nat → Prop) (p : Nat) (R : RefS) (x : List Int) (A : Option Addr) (n c : Nat) (w : World) (hE : RefO p R Mu Ft w) (hF : ∀ b, Ft b → Mu b) (hml : ∀ b, Mu b → b < w.heap.size) (hl : Rd w w.heap.size A n (u8s x)) (hby : Byt x) (hn : n ≤ 1000000000) (hnc : n ≤ c) (hc : c ≤ 9223372036854775807) (hhl : R.held.length < 1000) (hgot : R.got + R.held.length < 1000000000) (hf : R.forged < 1000000000) :
    Calls Try.prog 20 #[.pointer (some ⟨p, 0, none⟩), .slice A n c] w fun e w' => RInPost Mu Ft w p (inR R x) e w' := by
  rcases openL_two R.key x with h0 | ⟨h1, h2 | h2⟩
  · have hop : openL R.key x = ((openL R.key x).1, 0) := by rw [← h0]
    cases hr : readL (openL R.key x).1 with
    | none => exact rin_none Mu Ft p R x A n c w hE hF hml hl hby hn hnc hc _ hop hr
    | some r =>
      obtain ⟨s, a, m⟩ := r
      exact rin_pkt Mu Ft p R x A n c w hE hF hml hl hby hn hnc hc _ s a m hop hr hhl hgot
  · exact rin_short Mu Ft p R x A n c w hE hF hml hl hby hn hnc hc (by rw [← h1, ← h2])
  · exact rin_forged Mu Ft p R x A n c w hE hF hml hl hby hn hnc hc hf (by rw [← h1, ← h2])
section
variable {w0 w : World} {n : Nat} {O : Nat → Obj}
theorem PkV.msg {L Mu : Nat → Prop} {w : World} {v : Value} {l : List Int} (h : PkV L Mu w v l) (hb : Byt l) (h64 : l.length ≤ 65536) : Msg Mu w v l := by
  obtain ⟨G, c, h1, h2, h3, _, hm, h5, h6⟩ := h
  refine ⟨hb, h64, _, c, h1, h2, h3, h6.1, fun h0 => ?_⟩
  obtain ⟨b, o, hA, hb2, hc⟩ := h6.2 h0
  refine ⟨b, o, hA, hb2, ?_, hc⟩
  injection hA with hA
  injection hA with hA _
  rw [← hA]; exact hm
theorem sp_rsend (S : Sep w0 n O w) {i k : Nat} (hi : i < n) (hk : k < n) {p : Nat} {R : RefS} (hO : O i = RefO p R) {J : LawI} (hJ : O k = FactO J) (m : List Int) (A : Option Addr) (q c : Nat) (hm : ∀ Mu, J (fun _ => True) Mu w → Msg Mu w (.slice A q c) m) (hn : q ≤ 65536) (h10 : R.sent.length < 1000) (h11 : (R.sent.length : Int) - R.acked < 1000) :
    Calls Try.prog 12 #[.pointer (some ⟨p, 0, none⟩), .slice A q c] w fun e w' => e = .returned (.int .i64 0) ∧ Sep w0 n (updE O i (RefO p (sendR R m))) w' := by
  obtain ⟨Mu, Ft, S⟩ := S
  have ho := S.o i hi
  rw [hO] at ho
  have hj := S.o k hk
  rw [hJ] at hj
  refine (rsend_any Mu (Ft i) p R m A q c w ho (S.m i hi) S.l (hm Mu hj) hn h10 h11).mono ?_
  rintro e w' ⟨rfl, FA', ht, hf, hE⟩
  exact ⟨rfl, S.step1 hi (RefO.ok _ _) ht.kept hf ht.old hE⟩
theorem sp_rout (S : Sep w0 n O w) {i k : Nat} (hi : i < n) (hk : k < n) (hik : k ≠ i) {p : Nat} {R : RefS} (hO : O i = RefO p R) {J : LawI} (hJ : O k = FactO J) (hS : StabI J) :
    Calls Try.prog 14 #[.pointer (some ⟨p, 0, none⟩)] w fun e w' => ∃ OA oc m, e = .returned (.slice OA m oc) ∧ m ≤ oc ∧ oc ≤ 9223372036854775807 ∧ (outL (toE R 0)).length = m ∧ Sep w0 n (updE (updE O i (RefO p (outR R))) k (FactO (fun L Mu w => J L Mu w ∧ Packs L Mu w OA m (outL (toE R 0))))) w' := by
  obtain ⟨Mu, Ft, S⟩ := S
  have ho := S.o i hi
  rw [hO] at ho
  refine (rout_any Mu (Ft i) p R w ho (S.m i hi) S.l).mono ?_
  rintro e w' ⟨OA, oc, m, ovs, rfl, hn, hov, hp, hkk, hE⟩
  have hoc := slice_cap hov
  refine ⟨OA, oc, m, rfl, hoc.1, hoc.2, hn, S.step hi hk hik (RefO.ok _ _) (FactO.ok (hS.and (Packs.stab _ _ _))) hkk (fun _ _ h => h) (fun _ h => h) (fun b hb => Nat.lt_of_lt_of_le (S.l b hb) hkk.size) (S.m i hi) (fun _ _ h => h) hE (fun hj => ?_)⟩
  rw [hJ] at hj
  refine ⟨hj, fun h0 => ?_⟩
  obtain ⟨g, h1, h2, h3, h4⟩ := row_at hov h0
  refine ⟨g, h1, trivial, fun hm => by have := S.l g hm; omega, h3, fun j hj => ⟨_, h4 j hj, ?_⟩⟩
  obtain ⟨G, c, h5, h6, h7, h8, h9, h10⟩ := pk_at hp j (by omega)
  exact ⟨G, c, h5, h8, h9, trivial, fun hm => by have := S.l G hm; omega, h7, h10⟩
theorem sp_rin (S : Sep w0 n O w) {i k : Nat} (hi : i < n) (hk : k < n) (hik : k ≠ i) {p : Nat} {R : RefS} (hO : O i = RefO p R) {J : LawI} (hJ : O k = FactO J) (hS : StabI J) (x : List Int) (ad : Option Addr) (m c : Nat) (hl : Rd w w.heap.size ad m (u8s x)) (hby : Byt x) (hn : m ≤ 1000000000) (hnc : m ≤ c) (hc : c ≤ 9223372036854775807)
    (hhl : R.held.length < 1000) (hgot : R.got + R.held.length < 1000000000) (hf : R.forged < 1000000000) (xs : List (List Int)) (r : Int) (R2 : RefS) (hr : inR R x = ((xs, r), R2)) :
    Calls Try.prog 20 #[.pointer (some ⟨p, 0, none⟩), .slice ad m c] w fun e w' => ∃ OA oc j, e = .returned (.tuple #[.slice OA j oc, .int .i64 r]) ∧ j ≤ oc ∧ oc ≤ 9223372036854775807 ∧ xs.length = j ∧ Sep w0 n (updE (updE O i (RefO p R2)) k (FactO (fun L Mu w => J L Mu w ∧ Mess L Mu w OA j xs))) w' := by
  obtain ⟨Mu, Ft, S⟩ := S
  have ho := S.o i hi
  rw [hO] at ho
  refine (rin_any Mu (Ft i) p R x ad m c w ho (S.m i hi) S.l hl hby hn hnc hc hhl hgot hf).mono ?_
  rw [hr]
  rintro e w' ⟨OA, oc, j, ovs, rfl, hk1, hov, Ft', ht, hfl, hnf, hp, hE⟩
  have hoc := slice_cap hov
  have hold : ∀ b, b < w.heap.size → mor Mu Ft' b → Mu b := ht.mor_old (S.m i hi)
  refine ⟨OA, oc, j, rfl, hoc.1, hoc.2, hk1, S.step hi hk hik (RefO.ok _ _) (FactO.ok (hS.and (Mess.stab _ _ _))) ht.kept hold (fun _ h => Or.inl h) (fun b hb => hb.elim (fun h => Nat.lt_of_lt_of_le (S.l b h) ht.kept.size) (hfl b)) (fun _ h => Or.inr h) ht.old hE (fun hj => ?_)⟩
  rw [hJ] at hj
  refine ⟨hj, fun h0 => ?_⟩
  obtain ⟨g, h1, h2, h3, h4⟩ := row_at hov h0
  refine ⟨g, h1, trivial, fun hm => ?_, h3, fun q hq => ?_⟩
  · rcases hm with hm | hm
    · have := S.l g hm; omega
    · exact hnf g (by rw [h1]; rfl) hm
  · obtain ⟨_, _, A', c', h5, h6, h7, h8⟩ := hp.2 q (by omega)
    exact ⟨A', c', by rw [h4 q hq, h5], h6, h7, h8⟩
end
def rT : Nat → TypeId
  | 0 => 33
  | _ => 3
/-- The objects of the law. -/
def RunO (P Q : Nat → Nat) (E : Nat → EndS) (R : Nat → RefS) (V : Nat → Value) (X : Nat → List Value) (J : LawI) : Nat → Obj := fun i => match i with
  | 0 => EndO (P 0) (E 0)
  | 1 => EndO (P 1) (E 1)
  | 2 => FactO J
  | 3 => RefO (Q 0) (R 0)
  | 4 => RefO (Q 1) (R 1)
  | 5 => RowO (rT 0) (V 0) (X 0)
  | _ => RowO (rT 1) (V 1) (X 1)
def RunJ (P Q : Nat → Nat) (ge gm : Nat) (X : Nat → List Value) (pk : List (List Int)) : LawI := fun L Mu w => Cel L Mu w ge (ptrC P) ∧ Cel L Mu w gm (ptrC Q) ∧ Elems (X 0) pk L Mu w
theorem RunJ.stab (P Q : Nat → Nat) (ge gm : Nat) (X : Nat → List Value) (pk : List (List Int)) : StabI (RunJ P Q ge gm X pk) := fun L Mu w L' Mu' w' h ⟨h1, h2, h3⟩ =>
  ⟨Cel.stab ge _ _ _ _ _ _ _ h h1, Cel.stab gm _ _ _ _ _ _ _ h h2, Elems.stab _ _ _ _ _ _ _ _ h h3⟩
section
variable {w0 w : World} {P Q : Nat → Nat} {E : Nat → EndS} {R : Nat → RefS} {V : Nat → Value} {X : Nat → List Value} {J : LawI}
theorem run_end {k : Nat} (hk : k < 2) : RunO P Q E R V X J k = EndO (P k) (E k) := by rcases two_cases hk with rfl | rfl <;> rfl
theorem run_ref {k : Nat} (hk : k < 2) : RunO P Q E R V X J (3 + k) = RefO (Q k) (R k) := by rcases two_cases hk with rfl | rfl <;> rfl
theorem run_row {k : Nat} (hk : k < 2) : RunO P Q E R V X J (5 + k) = RowO (rT k) (V k) (X k) := by rcases two_cases hk with rfl | rfl <;> rfl
theorem run_setE {k : Nat} (hk : k < 2) (E' : EndS) : ∀ i, i < 7 → updE (RunO P Q E R V X J) k (EndO (P k) E') i = RunO P Q (updE E k E') R V X J i := fun i hi => by
  rcases two_cases hk with rfl | rfl <;> rcases i with _ | _ | _ | _ | _ | _ | i <;> simp [updE, RunO]
theorem run_setR {k : Nat} (hk : k < 2) (R' : RefS) : ∀ i, i < 7 → updE (RunO P Q E R V X J) (3 + k) (RefO (Q k) R') i = RunO P Q E (updE R k R') V X J i := fun i hi => by
  rcases two_cases hk with rfl | rfl <;> rcases i with _ | _ | _ | _ | _ | _ | i <;> simp [updE, RunO]
theorem run_setJ (J' : LawI) : ∀ i, i < 7 → updE (RunO P Q E R V X J) 2 (FactO J') i = RunO P Q E R V X J' i := fun i hi => by
  rcases i with _ | _ | _ | _ | _ | _ | i <;> simp [updE, RunO]
theorem run_setV {k : Nat} (hk : k < 2) (v : Value) (xs : List Value) : ∀ i, i < 7 → updE (RunO P Q E R V X J) (5 + k) (RowO (rT k) v xs) i = RunO P Q E R (updE V k v) (updE X k xs) J i := fun i hi => by
  rcases two_cases hk with rfl | rfl <;> rcases i with _ | _ | _ | _ | _ | _ | i <;> simp [updE, RunO]
  all_goals omega
theorem rs_send (S : Sep w0 7 (RunO P Q E R V X J) w) {k : Nat} (hk : k < 2) (m : List Int) (ad : Option Addr) (q c : Nat) (hl : Rd w w.heap.size ad q (u8s m)) (hby : Byt m) (hn : q ≤ 65536) (h10 : (E k).waiting.length < 1000) (hk9 : (E k).acked + (E k).waiting.length < 1000000000) :
    Calls Try.prog 11 #[.pointer (some ⟨P k, 0, none⟩), .slice ad q c] w fun e w' => e = .returned (.int .i64 0) ∧ Sep w0 7 (RunO P Q (updE E k (sendE (E k) m)) R V X J) w' :=
  (sp_send S (by omega) (run_end hk) m ad q c hl hby hn h10 hk9).mono fun e w' h => ⟨h.1, h.2.cong (run_setE hk _)⟩
theorem rs_rsend (S : Sep w0 7 (RunO P Q E R V X J) w) {k : Nat} (hk : k < 2) (m : List Int) (A : Option Addr) (q c : Nat) (hm : ∀ Mu, J (fun _ => True) Mu w → Msg Mu w (.slice A q c) m) (hn : q ≤ 65536) (h10 : (R k).sent.length < 1000) (h11 : ((R k).sent.length : Int) - (R k).acked < 1000) :
    Calls Try.prog 12 #[.pointer (some ⟨Q k, 0, none⟩), .slice A q c] w fun e w' => e = .returned (.int .i64 0) ∧ Sep w0 7 (RunO P Q E (updE R k (sendR (R k) m)) V X J) w' :=
  (sp_rsend S (by omega) (k := 2) (by omega) (run_ref hk) rfl m A q c hm hn h10 h11).mono fun e w' h => ⟨h.1, h.2.cong (run_setR hk _)⟩
theorem rs_out (S : Sep w0 7 (RunO P Q E R V X J) w) (hS : StabI J) {k : Nat} (hk : k < 2) :
    Calls Try.prog 13 #[.pointer (some ⟨P k, 0, none⟩)] w fun e w' => ∃ OA oc m, e = .returned (.slice OA m oc) ∧ m ≤ oc ∧ oc ≤ 9223372036854775807 ∧ (outL (E k)).length = m ∧ Sep w0 7 (RunO P Q (updE E k (outE (E k))) R V X (fun L Mu w => J L Mu w ∧ Packs L Mu w OA m (outL (E k)))) w' :=
  (sp_out S (by omega) (k := 2) (by omega) (by omega) (run_end hk) rfl hS).mono fun e w' h => by
    obtain ⟨OA, oc, m, h1, h2, h3, h4, h5⟩ := h
    refine ⟨OA, oc, m, h1, h2, h3, h4, h5.cong (fun i hi => ?_)⟩
    rw [← run_setJ _ i hi]
    unfold updE
    split
    · rfl
    · exact run_setE hk _ i hi
theorem rs_rout (S : Sep w0 7 (RunO P Q E R V X J) w) (hS : StabI J) {k : Nat} (hk : k < 2) :
    Calls Try.prog 14 #[.pointer (some ⟨Q k, 0, none⟩)] w fun e w' => ∃ OA oc m, e = .returned (.slice OA m oc) ∧ m ≤ oc ∧ oc ≤ 9223372036854775807 ∧ (outL (toE (R k) 0)).length = m ∧ Sep w0 7 (RunO P Q E (updE R k (outR (R k))) V X (fun L Mu w => J L Mu w ∧ Packs L Mu w OA m (outL (toE (R k) 0)))) w' :=
  (sp_rout S (by omega) (k := 2) (by omega) (by omega) (run_ref hk) rfl hS).mono fun e w' h => by
    obtain ⟨OA, oc, m, h1, h2, h3, h4, h5⟩ := h
    refine ⟨OA, oc, m, h1, h2, h3, h4, h5.cong (fun i hi => ?_)⟩
    rw [← run_setJ _ i hi]
    unfold updE
    split
    · rfl
    · exact run_setR hk _ i hi
theorem rs_in (S : Sep w0 7 (RunO P Q E R V X J) w) (hS : StabI J) {k : Nat} (hk : k < 2) (x : List Int) (ad : Option Addr) (m c : Nat) (hl : Rd w w.heap.size ad m (u8s x)) (hby : Byt x) (hn : m ≤ 1000000000) (hnc : m ≤ c) (hc : c ≤ 9223372036854775807)
    (hff : (E k).forged < 1000000000) (hft : (E k).tot < 1000000000) (hfc : (E k).delivered + (E k).cnt < 1000000000) (xs : List (List Int)) (r : Int) (E2 : EndS) (hr : inE (E k) x = ((xs, r), E2)) :
    Calls Try.prog 19 #[.pointer (some ⟨P k, 0, none⟩), .slice ad m c] w fun e w' => ∃ OA oc j, e = .returned (.tuple #[.slice OA j oc, .int .i64 r]) ∧ j ≤ oc ∧ oc ≤ 9223372036854775807 ∧ xs.length = j ∧ Sep w0 7 (RunO P Q (updE E k E2) R V X (fun L Mu w => J L Mu w ∧ Mess L Mu w OA j xs)) w' :=
  (sp_in S (by omega) (k := 2) (by omega) (by omega) (run_end hk) rfl hS x ad m c hl hby hn hnc hc hff hft hfc xs r E2 hr).mono fun e w' h => by
    obtain ⟨OA, oc, m, h1, h2, h3, h4, h5⟩ := h
    refine ⟨OA, oc, m, h1, h2, h3, h4, h5.cong (fun i hi => ?_)⟩
    rw [← run_setJ _ i hi]
    unfold updE
    split
    · rfl
    · exact run_setE hk _ i hi
theorem rs_rin (S : Sep w0 7 (RunO P Q E R V X J) w) (hS : StabI J) {k : Nat} (hk : k < 2) (x : List Int) (ad : Option Addr) (m c : Nat) (hl : Rd w w.heap.size ad m (u8s x)) (hby : Byt x) (hn : m ≤ 1000000000) (hnc : m ≤ c) (hc : c ≤ 9223372036854775807)
    (hhl : (R k).held.length < 1000) (hgot : (R k).got + (R k).held.length < 1000000000) (hf : (R k).forged < 1000000000) (xs : List (List Int)) (r : Int) (R2 : RefS) (hr : inR (R k) x = ((xs, r), R2)) :
    Calls Try.prog 20 #[.pointer (some ⟨Q k, 0, none⟩), .slice ad m c] w fun e w' => ∃ OA oc j, e = .returned (.tuple #[.slice OA j oc, .int .i64 r]) ∧ j ≤ oc ∧ oc ≤ 9223372036854775807 ∧ xs.length = j ∧ Sep w0 7 (RunO P Q E (updE R k R2) V X (fun L Mu w => J L Mu w ∧ Mess L Mu w OA j xs)) w' :=
  (sp_rin S (by omega) (k := 2) (by omega) (by omega) (run_ref hk) rfl hS x ad m c hl hby hn hnc hc hhl hgot hf xs r R2 hr).mono fun e w' h => by
    obtain ⟨OA, oc, m, h1, h2, h3, h4, h5⟩ := h
    refine ⟨OA, oc, m, h1, h2, h3, h4, h5.cong (fun i hi => ?_)⟩
    rw [← run_setJ _ i hi]
    unfold updE
    split
    · rfl
    · exact run_setR hk _ i hi
theorem rs_waiting (S : Sep w0 7 (RunO P Q E R V X J) w) {k : Nat} (hk : k < 2) :
    Calls Try.prog 21 #[.pointer (some ⟨P k, 0, none⟩)] w fun e w' => e = .returned (.int .i64 (E k).waiting.length) ∧ w = w' := sp_waiting S (by omega) (run_end hk)
theorem rs_forged (S : Sep w0 7 (RunO P Q E R V X J) w) {k : Nat} (hk : k < 2) :
    Calls Try.prog 22 #[.pointer (some ⟨P k, 0, none⟩)] w fun e w' => e = .returned (.int .i64 (E k).forged) ∧ w = w' := sp_forged S (by omega) (run_end hk)
/-- The cells of a reference's End. -/
theorem rs_ref (S : Sep w0 7 (RunO P Q E R V X J) w) {k : Nat} (hk : k < 2) : ∃ SA sc, w.cell? ⟨Q k, 2, none⟩ = some (.slice SA (R k).sent.length sc) ∧ w.cell? ⟨Q k, 3, none⟩ = some (.int .i64 (R k).acked) ∧ w.cell? ⟨Q k, 7, none⟩ = some (.int .i64 (R k).forged) := by
  obtain ⟨Mu, Ft, S⟩ := S
  have ho := S.o (3 + k) (by omega)
  rw [run_ref hk] at ho
  obtain ⟨SV, HV, vs, hs, I, _⟩ := ho
  obtain ⟨SA, sc, hSV, _, _⟩ := own_form I.row
  subst hSV
  exact ⟨SA, sc, I.blk.cell 2, I.blk.cell 3, I.blk.cell 7⟩
theorem rs_facts (S : Sep w0 7 (RunO P Q E R V X J) w) : ∃ Mu : Nat → Prop, J (fun _ => True) Mu w ∧ ∀ b, Mu b → b < w.heap.size := S.get (k := 2) (by omega) rfl
theorem rs_imp (S : Sep w0 7 (RunO P Q E R V X J) w) {J' : LawI} (hJ' : StabI J') (h : ∀ Mu, J (fun _ => True) Mu w → J' (fun _ => True) Mu w) : Sep w0 7 (RunO P Q E R V X J') w :=
  (S.fact (k := 2) (by omega) rfl hJ' (fun Mu _ hj => h Mu hj)).cong (run_setJ _)
theorem rs_new (S : Sep w0 7 (RunO P Q E R V X J) w) {w' : World} (hE : Ext w w') {J' : LawI} (hJ' : StabI J') (h : ∀ Mu : Nat → Prop, (∀ b, Mu b → b < w.heap.size) → J (fun _ => True) Mu w' → J' (fun _ => True) Mu w') : Sep w0 7 (RunO P Q E R V X J') w' :=
  (S.factNew hE (k := 2) (by omega) rfl hJ' h).cong (run_setJ _)
theorem rs_row (S : Sep w0 7 (RunO P Q E R V X J) w) {k : Nat} (hk : k < 2) : w.ownsRow 0 (rT k) 1 (V k) (X k).length (X k) := S.row (by omega) (run_row hk)
theorem wpList_rs_app {ops : Array Oper} {rest : List Oper} {o : Oper} {a : Act} {F : Exit → Act → World → Prop} (S : Sep w0 7 (RunO P Q E R V X J) w) {k : Nat} (hk : k < 2) {T : TypeId} (hT : rT k = T) (hgd : o.guard = none) (s x : Operand) (t : TypeId)
    (ho : o.op = .call { callee := .builtin .append, args := #[s, x], argTypes := #[t, t] })
    (i : TypeInfo) (z : Value) (bytes : Nat) (ht : Try.prog.underlying t = some (.slice T)) (hinf : Try.prog.info? T = some i) (hz : i.zero = some z)
    (hsize : i.size = 1) (hby : i.bytes = bytes) (hzs : z.cells.size = 1) (m : Nat) (hs : a.eval s = V k) (hn : (X k).length = m)
    (ad : Addr) (c : Nat) (u : Value) (hx : a.eval x = .slice (some ad) 1 c) (hu : w.cell? (ad.add 0) = some u) (h1 : u.oneCell' = true)
    (hb1 : m + 1 ≤ 1000000) (hb2 : bytes ≤ 1000)
    (h : ∀ A' c' w', Sep w0 7 (RunO P Q E R (updE V k (.slice A' (m + 1) c')) (updE X k (X k ++ [u])) J) w' → wpList Try.prog ops F rest (a.put o.dst (.slice A' (m + 1) c')) w') : wpList Try.prog ops F (o :: rest) a w := by
  subst hT
  exact wpList_sp_app S (by omega) (run_row hk) hgd s x t ho i z bytes ht hinf hz hsize hby hzs m hs hn ad c u hx hu h1 hb1 hb2 (fun A' c' w' hS => h A' c' w' (hS.cong (run_setV hk _ _)))
end
/-- Where the law stands at the head of its loop. -/
def RunSt (w0 : World) (P Q : Nat → Nat) (ge gm : Nat) (win : Nat → Int) (key : Int) (m : Nat) (s9 s10 : Value) (w : World) : Prop :=
  ∃ (E : Nat → EndS) (R : Nat → RefS) (pk : List (List Int)) (tos : List Nat) (V : Nat → Value) (X : Nat → List Value), s9 = V 0 ∧ s10 = V 1 ∧ (∀ k, k < 2 → RunR (win k) key (E k) (R k) m) ∧ ((∀ j, j < pk.length → Byt (pk.getD j []) ∧ 12 ≤ (pk.getD j []).length ∧ (pk.getD j []).length ≤ 100) ∧ pk.length ≤ 16 * m ∧ tos.length = pk.length ∧ ∀ t ∈ tos, t < 2) ∧ X 1 = tos.map (fun t : Nat => Value.int .i64 (t : Int)) ∧ Sep w0 7 (RunO P Q E R V X (RunJ P Q ge gm X pk)) w
theorem RunSt.ext {w0 : World} {P Q : Nat → Nat} {ge gm : Nat} {win : Nat → Int} {key : Int} {m : Nat} {s9 s10 : Value} {w w' : World} (h : RunSt w0 P Q ge gm win key m s9 s10 w) (hE : Ext w w') : RunSt w0 P Q ge gm win key m s9 s10 w' := by
  obtain ⟨E, R, pk, tos, V, X, h1, h2, h3, h4, h5, h6⟩ := h
  exact ⟨E, R, pk, tos, V, X, h1, h2, h3, h4, h5, h6.ext hE⟩
theorem RunSt.e {w0 : World} {P Q : Nat → Nat} {ge gm : Nat} {win : Nat → Int} {key : Int} {m : Nat} {s9 s10 : Value} {w : World} (h : RunSt w0 P Q ge gm win key m s9 s10 w) : Ext w0 w := by
  obtain ⟨E, R, pk, tos, V, X, h1, h2, h3, h4, h5, h6⟩ := h
  exact h6.e
def newR (win key : Int) : RefS := ⟨win, key, [], 0, 0, [], false, 0⟩
/-- A new End of the reference, in a new block. -/
theorem refo_new {win key : Int} (w1 : 1 ≤ win) (w2 : win ≤ 16) (k0 : 0 ≤ key) (k1 : key ≤ 18446744073709551615) {w : World} {q : Nat} {Mu : Nat → Prop} (hb : Blk w q 31 [.int .i64 win, .int .u64 key, .slice none 0 0, .int .i64 0, .int .i64 0, .slice none 0 0, .bool false, .int .i64 0]) : RefO q (newR win key) Mu (fun b => b = q) w :=
  ⟨.slice none 0 0, .slice none 0 0, [], [], ⟨hb, World.ownsRow_nil _ _ _ _, Msgs.nil _ _, World.ownsRow_nil _ _ _ _, rfl, Msgs.nil _ _, ⟨w1, w2, k0, k1, Int.le_refl _, Int.le_refl _, by simp [newR], Int.le_refl _, by simp [newR], Int.le_refl _, by simp [newR], by simp [newR], fun x hx => (by cases hx)⟩⟩, fun b h => h.elim id (fun h => h.elim (fun h => (by cases h)) (fun h => (by cases h)))⟩
/-- The start: the law's objects. -/
theorem run_start {w0 w w1 w2 w3 : World} {P : Nat → Nat} {ge : Nat} {win : Nat → Int} {key : Int} (hw : ∀ k, 1 ≤ win k ∧ win k ≤ 16) (k0 : 0 ≤ key) (k1 : key ≤ 18446744073709551615) (S : LawSt w0 P (fun k => newE (win k) key) (fun L Mu w => Cel L Mu w ge (ptrC P)) w)
    {q0 q1 gm : Nat} (E1 : Ext w w1) (g1 : w.heap.size ≤ q0) (b1 : Blk w1 q0 31 [.int .i64 (win 0), .int .u64 key, .slice none 0 0, .int .i64 0, .int .i64 0, .slice none 0 0, .bool false, .int .i64 0])
    (E2 : Ext w1 w2) (g2 : w1.heap.size ≤ q1) (b2 : Blk w2 q1 31 [.int .i64 (win 1), .int .u64 key, .slice none 0 0, .int .i64 0, .int .i64 0, .slice none 0 0, .bool false, .int .i64 0])
    (E3 : Ext w2 w3) (g3 : w2.heap.size ≤ gm) (b3 : Blk w3 gm 26 [.pointer (some ⟨q0, 0, none⟩), .pointer (some ⟨q1, 0, none⟩)]) :
    ∃ Q : Nat → Nat, RunSt w0 P Q ge gm win key 0 (.slice none 0 0) (.slice none 0 0) w3 := by
  have hok := hw
  let Q : Nat → Nat := fun | 0 => q0 | _ => q1
  have S3 := S.sep (J := fun L Mu w => Cel L Mu w ge (ptrC P)) (Cel.stab ge _) (fun L Mu h => ⟨trivial, h.2.1, h.2.2⟩)
  have S4 := S3.new E1 (O' := RefO q0 (newR (win 0) key)) (RefO.ok _ _) (Ft' := fun b => b = q0) (fun b hb => by rw [hb]; exact ⟨g1, b1.lt⟩) (fun Mu hMu => refo_new (hw 0).1 (hw 0).2 k0 k1 b1)
  have S5 := S4.new E2 (O' := RefO q1 (newR (win 1) key)) (RefO.ok _ _) (Ft' := fun b => b = q1) (fun b hb => by rw [hb]; exact ⟨g2, b2.lt⟩) (fun Mu hMu => refo_new (hw 1).1 (hw 1).2 k0 k1 b2)
  have hnil : ∀ T, ObjOk (RowO T (.slice none 0 0) []) := fun T => RowO.ok _ _ _
  have hn2 : ∀ (T : TypeId) (M F : Nat → Prop) (w : World), RowO T (.slice none 0 0) [] M F w := fun T M F w => ⟨World.ownsRow_nil _ _ _ _, fun b hb => (by cases hb)⟩
  have S6 := S5.new (Ext.refl w2) (O' := RowO (rT 0) (.slice none 0 0) []) (hnil _) (Ft' := fun _ => False) (fun b hb => hb.elim) (fun Mu hMu => hn2 _ _ _ _)
  have S7 := S6.new (Ext.refl w2) (O' := RowO (rT 1) (.slice none 0 0) []) (hnil _) (Ft' := fun _ => False) (fun b hb => hb.elim) (fun Mu hMu => hn2 _ _ _ _)
  have S8 : Sep w0 7 (RunO P Q (fun k => newE (win k) key) (fun k => newR (win k) key) (fun _ => .slice none 0 0) (fun _ => []) (fun L Mu w => Cel L Mu w ge (ptrC P))) w2 := S7.cong (fun i hi => by
    rcases i with _ | _ | _ | _ | _ | _ | i <;> simp [updE, RunO, Q]
    omega)
  have S9 := rs_new S8 E3 (RunJ.stab P Q ge gm (fun _ => []) []) (fun Mu hMu hj => ⟨hj, ⟨trivial, fun hm => by have := hMu gm hm; omega, b3.lt, fun j u hj => (b3.cell j).trans hj⟩, Elems.nil _ _ _⟩)
  exact ⟨Q, fun k => newE (win k) key, fun k => newR (win k) key, [], [], fun _ => .slice none 0 0, fun _ => [], rfl, rfl, fun k hk => runr_new _ _, ⟨fun j hj => by simp at hj, by simp, rfl, fun t ht => (by cases ht)⟩, rfl, S9⟩
end Go.Proofs.Ytkgmoklifkojhaa
