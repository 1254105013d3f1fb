/- sign's numbers in the kernel's form: lists of bytes as natural numbers. Conditions: bytes, short lists. -/
import Derived.Test.YtkjckmdiolgmcaaDoorSgP
import Derived.Test.YtkjckmdiolgmcaaDoorSgM
import Derived.Test.YtkjckmdiolgmcaaDoorSgF
import Derived.Test.YtkjckmdiolgmcaaDoorShaK
set_option linter.unusedSimpArgs false
set_option linter.unusedVariables false
namespace Go.Proofs.YtkjckmdiolgmcaaDoor
open Go.RowKit
theorem natI_nat (x : Nat) (l : List Nat) : natI (x :: l) = (x : Int) :: natI l := rfl
theorem natI_byt {l : List Nat} (h : ByN l) : Byt (natI l) := fun x hx => by
  obtain ⟨n, hn, rfl⟩ := List.mem_map.1 hx
  obtain ⟨j, hj, e⟩ := List.mem_iff_getElem.1 hn
  have h2 := h j
  rw [List.getD_eq_getElem?_getD, List.getElem?_eq_getElem hj] at h2
  simp only [Option.getD_some] at h2
  omega
theorem byN_of {l : List Nat} (h : Byt (natI l)) : ByN l := ByN.of_all fun x hx => by
  have := h (x : Int) (List.mem_map.2 ⟨x, hx, rfl⟩)
  omega
theorem shaK_nat {l : List Nat} (h : ByN l) : sha (natI l) = natI (shaK l) := by rw [shaK_eq]; exact shaN_eq h
theorem shaK_by {l : List Nat} (h : ByN l) : ByN (shaK l) := byN_of (by rw [← shaK_nat h]; exact sha_byt _)
def encN (n : Nat) : List Nat := if n < 1 then [128] else if n < 256 then [129, n] else [130, n / 256, n % 256]
theorem blen_small (n : Nat) (h : n < 65536) : blen n = if n < 1 then 0 else if n < 256 then 1 else 2 := by
  unfold blen
  rcases Nat.lt_or_ge n 1 with h0 | h0
  · rw [if_pos h0]
    obtain rfl : n = 0 := by omega
    rfl
  · rw [if_neg (by omega)]
    rcases Nat.lt_or_ge n 256 with h1 | h1
    · rw [if_pos h1]
      simp only [blenF]
      rw [if_neg (by omega), if_pos (by omega)]
    · rw [if_neg (by omega)]
      simp only [blenF]
      rw [if_neg (by omega), if_neg (by omega), if_pos (by omega)]
theorem encN_eq (n : Nat) (h : n < 65536) : encInt (n : Int) = natI (encN n) := by
  have hm : mag (n : Int) = n := by unfold mag; rw [if_neg (by omega)]; rfl
  have hf : ∀ x : Int, flipB (n : Int) x = x := fun x => by unfold flipB; rw [if_neg (by omega)]
  unfold encInt headB tailTo
  rw [hm, hf, blen_small n h]
  unfold encN
  rcases Nat.lt_or_ge n 1 with h0 | h0
  · simp only [h0, if_true]; rfl
  · have h0' : ¬ n < 1 := by omega
    simp only [h0', if_false]
    rcases Nat.lt_or_ge n 256 with h1 | h1
    · simp only [h1, if_true]
      simp [natI, List.range_succ, hf, digit]
      omega
    · have h1' : ¬ n < 256 := by omega
      simp only [h1', if_false]
      simp [natI, List.range_succ, hf, digit]
      omega
theorem encN_by (n : Nat) (h : n < 65536) : ByN (encN n) := ByN.of_all fun x hx => by
  unfold encN at hx
  split at hx
  · simp at hx; omega
  · split at hx
    · simp at hx; omega
    · simp at hx; omega
def intsN (l : List Nat) : List Nat := encN l.length ++ l.flatMap encN
theorem natI_flat (l : List Nat) (h : ∀ x ∈ l, x < 65536) : (l.map fun n : Nat => (n : Int)).flatMap encInt = natI (l.flatMap encN) := by
  induction l with
  | nil => rfl
  | cons x l ih =>
    simp only [List.map_cons, List.flatMap_cons]
    rw [ih (fun y hy => h y (by simp [hy])), encN_eq x (h x (by simp)), natI_app]
theorem byN_flat (l : List Nat) (h : ∀ x ∈ l, x < 65536) : ByN (l.flatMap encN) := by
  induction l with
  | nil => exact ByN.of_all (fun x hx => by simp at hx)
  | cons x l ih =>
    rw [List.flatMap_cons]
    exact (encN_by x (h x (by simp))).app (ih (fun y hy => h y (by simp [hy])))
theorem intsN_eq (l : List Nat) (h : ∀ x ∈ l, x < 65536) (hl : l.length < 65536) : encL encInt (l.map fun n : Nat => (n : Int)) = natI (intsN l) := by
  unfold encL intsN
  rw [natI_flat l h, List.length_map, encN_eq l.length hl, natI_app]
theorem intsN_by (l : List Nat) (h : ∀ x ∈ l, x < 65536) (hl : l.length < 65536) : ByN (intsN l) := (encN_by _ hl).app (byN_flat l h)
/-- A string of bytes. -/
def sB (l : List Nat) : ByteArray := strOf (natI l)
theorem sB_size (l : List Nat) : (sB l).size = l.length := by unfold sB; rw [strOf_size, natI_len]
theorem encsN_eq : ∀ (ps : List (List Nat)), (∀ p ∈ ps, ByN p ∧ p.length < 65536) → encs (ps.map sB) = natI (ps.flatMap fun p => encN p.length ++ p) ∧ ByN (ps.flatMap fun p => encN p.length ++ p)
  | [], _ => ⟨rfl, ByN.of_all (fun x hx => by simp at hx)⟩
  | p :: ps, h => by
    obtain ⟨h1, h2⟩ := encsN_eq ps (fun q hq => h q (by simp [hq]))
    obtain ⟨hp, hl⟩ := h p (by simp)
    constructor
    · simp only [List.map_cons, encs, List.flatMap_cons]
      rw [h1, natI_app, natI_app]
      unfold encB
      rw [sB_size, encN_eq _ hl]
      unfold sB
      rw [bys_strOf _ (natI_byt hp)]
    · rw [List.flatMap_cons]
      exact ((encN_by _ hl).app hp).app h2
def ofN (tag : Nat) (ps : List (List Nat)) : List Nat := (shaK (tag :: ps.flatMap fun p => encN p.length ++ p)).take 16
theorem ofN_eq (tag : Nat) (ht : tag < 256) (ps : List (List Nat)) (h : ∀ p ∈ ps, ByN p ∧ p.length < 65536) : ofD (tag : Int) (ps.map sB) = natI (ofN tag ps) ∧ ByN (ofN tag ps) ∧ (ofN tag ps).length = 16 := by
  obtain ⟨h1, h2⟩ := encsN_eq ps h
  have hb : ByN (tag :: ps.flatMap fun p => encN p.length ++ p) := by
    have : ByN ([tag] ++ ps.flatMap fun p => encN p.length ++ p) := (ByN.of_all (fun x hx => by simp at hx; omega)).app h2
    exact this
  have he : inputB (tag : Int) (ps.map sB) = natI (tag :: ps.flatMap fun p => encN p.length ++ p) := by
    unfold inputB
    rw [h1, natI_nat]
    congr 1
    omega
  have e : ofD (tag : Int) (ps.map sB) = natI (ofN tag ps) := by
    unfold ofD ofN
    rw [he, shaK_nat hb, natI_take]
  refine ⟨e, (shaK_by hb).take 16, ?_⟩
  rw [← natI_len, ← e, ofD_len]
def advN (i c f : Nat) : Nat → List Nat → List Nat
  | 0, v => v
  | n + 1, v => normL (advN i c f n v) fun v => ofN 11 [intsN [i, c, f + n], v]
structure DgN (v : List Nat) : Prop where
  b : ByN v
  l : v.length = 16
theorem intsN_len (l : List Nat) (hl : l.length ≤ 3) : (intsN l).length < 65536 := by
  have he : ∀ n, (encN n).length ≤ 3 := fun n => by unfold encN; split; simp; split <;> simp
  have hf : ∀ l : List Nat, (l.flatMap encN).length ≤ 3 * l.length := fun l => by
    induction l with
    | nil => simp
    | cons x l ih =>
      have := he x
      simp only [List.flatMap_cons, List.length_append, List.length_cons]
      omega
  unfold intsN
  rw [List.length_append]
  have := he l.length
  have := hf l
  omega
theorem advN_eq (i c f : Nat) (hi : i < 65536) (hc : c < 65536) {v : List Nat} (hv : DgN v) : ∀ n, f + n < 65536 → advD (i : Int) (c : Int) f n (natI v) = natI (advN i c f n v) ∧ DgN (advN i c f n v)
  | 0, _ => ⟨rfl, hv⟩
  | n + 1, h => by
    obtain ⟨h1, h2⟩ := advN_eq i c f hi hc hv n (by omega)
    have hx : ∀ x ∈ [i, c, f + n], x < 65536 := fun x hx => by
      simp only [List.mem_cons, List.not_mem_nil, or_false] at hx
      omega
    obtain ⟨e1, e2, e3⟩ := ofN_eq 11 (by decide) [intsN [i, c, f + n], advN i c f n v] (fun p hp => by
      simp only [List.mem_cons, List.not_mem_nil, or_false] at hp
      rcases hp with rfl | rfl
      · exact ⟨intsN_by _ hx (by simp), intsN_len _ (by simp)⟩
      · exact ⟨h2.b, by rw [h2.l]; decide⟩)
    have he : intsN [i, c, f + n] = intsN [i, c, f + n] := rfl
    rw [advN, normL_eq]
    refine ⟨?_, e2, e3⟩
    rw [← e1]
    unfold advD
    rw [h1]
    have e4 := intsN_eq [i, c, f + n] hx (by simp)
    simp only [List.map_cons, List.map_nil] at e4 ⊢
    unfold intsS sB
    rw [e4]
    rfl
/-- The law's seed of 5. -/
def seed5 : ByteArray := strOf (seedL 5)
def p5 (x : Nat) : List Nat := List.replicate 32 (5 ^^^ x) ++ List.replicate 32 x
theorem pad54 : padX (keyL seed5) 54 = natI (p5 54) := by kernel_rfl
theorem pad92 : padX (keyL seed5) 92 = natI (p5 92) := by kernel_rfl
theorem p5_by54 : ByN (p5 54) := ByN.of_all (by decide)
theorem p5_by92 : ByN (p5 92) := ByN.of_all (by decide)
def macN (t : List Nat) : List Nat := normL (shaK (p5 54 ++ t)) fun m => shaK (p5 92 ++ m)
theorem macN_eq {t : List Nat} (h : ByN t) : macL seed5 (sB t) = natI (macN t) ∧ ByN (macN t) := by
  have h1 := p5_by54.app h
  have h2 := p5_by92.app (shaK_by h1)
  unfold macN
  rw [normL_eq]
  refine ⟨?_, shaK_by h2⟩
  unfold macL macI sB
  rw [pad54, pad92, bys_strOf _ (natI_byt h), ← natI_app, shaK_nat h1, ← natI_app, shaK_nat h2]
def startN (i c : Nat) : List Nat := (macN ([99, 104, 97, 105, 110] ++ intsN [i, c])).take 16
theorem startN_eq (i c : Nat) (hi : i < 65536) (hc : c < 65536) : startD seed5 (i : Int) (c : Int) = natI (startN i c) ∧ DgN (startN i c) := by
  have hx : ∀ x ∈ [i, c], x < 65536 := fun x hx => by
    simp only [List.mem_cons, List.not_mem_nil, or_false] at hx
    omega
  have hb : ByN ([99, 104, 97, 105, 110] ++ intsN [i, c]) := (ByN.of_all (by decide)).app (intsN_by _ hx (by simp))
  obtain ⟨e1, e2⟩ := macN_eq hb
  have e : startD seed5 (i : Int) (c : Int) = natI (startN i c) := by
    unfold startD startN
    rw [natI_take, ← e1]
    have e4 := intsN_eq [i, c] hx (by simp)
    simp only [List.map_cons, List.map_nil] at e4
    unfold sB
    rw [natI_app, ← e4]
    rfl
  refine ⟨e, e2.take 16, ?_⟩
  rw [← natI_len, ← e, (startD_dig _ _ _).l]
def topN (i c : Nat) : List Nat := normL (startN i c) fun v => advN i c 0 3 v
theorem topN_eq (i c : Nat) (hi : i < 65536) (hc : c < 65536) : topD seed5 (i : Int) (c : Int) = natI (topN i c) ∧ DgN (topN i c) := by
  obtain ⟨h1, h2⟩ := startN_eq i c hi hc
  unfold topN
  rw [normL_eq]
  unfold topD
  rw [h1]
  exact advN_eq i c 0 hi hc h2 3 (by omega)
def endN (i c a b : Nat) : List Nat := normL (startN i c) fun v => normL (advN i c 0 a v) fun v => advN i c b (3 - b) v
theorem endN_eq (i c a b : Nat) (hi : i < 65536) (hc : c < 65536) (ha : a ≤ 3) (hb : b ≤ 3) : advD (i : Int) (c : Int) b (3 - b) (advD (i : Int) (c : Int) 0 a (startD seed5 (i : Int) (c : Int))) = natI (endN i c a b) ∧ DgN (endN i c a b) := by
  obtain ⟨h1, h2⟩ := startN_eq i c hi hc
  unfold endN
  rw [normL_eq, normL_eq, h1]
  obtain ⟨h3, h4⟩ := advN_eq i c 0 hi hc h2 a (by omega)
  rw [h3]
  exact advN_eq i c b hi hc h4 (3 - b) (by omega)
def leafN (F : List Nat) : List Nat := normL (ofN 3 [F]) fun k => ofN 1 [k]
theorem leafN_eq {F : List Nat} (hF : ByN F) (hl : F.length < 65536) : ofD 1 [strOf (ofD 3 [strOf (natI F)])] = natI (leafN F) ∧ DgN (leafN F) := by
  obtain ⟨e1, e2, e3⟩ := ofN_eq 3 (by decide) [F] (fun p hp => by simp at hp; subst hp; exact ⟨hF, hl⟩)
  obtain ⟨f1, f2, f3⟩ := ofN_eq 1 (by decide) [ofN 3 [F]] (fun p hp => by simp at hp; subst hp; exact ⟨e2, by rw [e3]; decide⟩)
  unfold leafN
  rw [normL_eq]
  refine ⟨?_, f2, f3⟩
  rw [← f1]
  simp only [List.map_cons, List.map_nil] at e1 ⊢
  unfold sB at e1 ⊢
  rw [← e1]
  rfl
def nodeN (a b : List Nat) : List Nat := ofN 2 [a, b]
theorem nodeN_eq {a b : List Nat} (ha : DgN a) (hb : DgN b) : nodeD (natI a) (natI b) = natI (nodeN a b) ∧ DgN (nodeN a b) := by
  obtain ⟨e1, e2, e3⟩ := ofN_eq 2 (by decide) [a, b] (fun p hp => by
    simp only [List.mem_cons, List.not_mem_nil, or_false] at hp
    rcases hp with rfl | rfl
    · exact ⟨ha.b, by rw [ha.l]; decide⟩
    · exact ⟨hb.b, by rw [hb.l]; decide⟩)
  exact ⟨e1, e2, e3⟩
def digestN (p : List Nat) (ix : Nat) (m : List Nat) : List Nat := ofN 4 [p, encN ix, m]
theorem digestN_eq {p : List Nat} (hp : DgN p) (ix : Nat) (hi : ix < 65536) {m : List Nat} (hm : ByN m) (hl : m.length < 65536) : digestD (natI p) (ix : Int) (sB m) = natI (digestN p ix m) ∧ DgN (digestN p ix m) := by
  obtain ⟨e1, e2, e3⟩ := ofN_eq 4 (by decide) [p, encN ix, m] (fun q hq => by
    simp only [List.mem_cons, List.not_mem_nil, or_false] at hq
    rcases hq with rfl | rfl | rfl
    · exact ⟨hp.b, by rw [hp.l]; decide⟩
    · exact ⟨encN_by _ hi, by unfold encN; split; simp; split <;> simp⟩
    · exact ⟨hm, hl⟩)
  refine ⟨?_, e2, e3⟩
  unfold digestN
  rw [← e1]
  unfold digestD
  rw [encN_eq ix hi]
  rfl
end Go.Proofs.YtkjckmdiolgmcaaDoor
