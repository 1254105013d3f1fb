/- Digests compared by == and !=. Conditions: digests of 16 bytes. -/
import Derived.Test.YtkjckmdiolgmcaaDoorSgA
import Derived.DeepKeys4
import Derived.Laws.StructEq
set_option linter.unusedSimpArgs false
set_option linter.unusedVariables false
namespace Go.Proofs.YtkjckmdiolgmcaaDoor
open Go.RowKit
theorem mapM_some {α β : Type} (f : α → Option β) : ∀ (l : List α), (∀ x ∈ l, ∃ y, f x = some y) → ∃ ys, l.mapM f = some ys
  | [], _ => ⟨[], rfl⟩
  | x :: l, h => by
    obtain ⟨y, hy⟩ := h x (by simp)
    obtain ⟨ys, hys⟩ := mapM_some f l (fun z hz => h z (by simp [hz]))
    exact ⟨y :: ys, by simp [List.mapM_cons, hy, hys]⟩
theorem keyOf_dig {P : Program} {t e : TypeId} (ht : P.underlying t = some (.array 16 e)) (he : P.underlying e = some (.int .u8)) (hk : P.keyType t = true) (hc : P.cellsOf t = 16) (hce : P.cellsOf e = 1) (hs : 1 < P.types.size) (d : List Int) (hl : d.length = 16) (hb : Byt d) :
    ∃ l, keyOf P t (.agg (u8s d).toArray) = some l := by
  obtain ⟨n, hn⟩ : ∃ n, P.types.size = n + 1 := ⟨P.types.size - 1, by omega⟩
  have hcl : (u8s d).length = 16 := by rw [u8s_len]; exact hl
  have hf : (Value.agg (u8s d).toArray).formed P t = true := by
    unfold Value.formed
    rw [ht]
    simp only [List.size_toArray, hcl, hc]
    rfl
  obtain ⟨ys, hys⟩ := mapM_some (fun i => P.keyLits (n + 1) e (((u8s d).drop (i * P.cellsOf e)).take (P.cellsOf e))) (List.range 16) (fun i hi => by
    have hi2 : i < d.length := by rw [hl]; exact List.mem_range.1 hi
    have hx := hb (d[i]) (List.getElem_mem hi2)
    refine ⟨[.int .u8 d[i]], ?_⟩
    have e1 : ((u8s d).drop (i * P.cellsOf e)).take (P.cellsOf e) = [.int .u8 d[i]] := by
      rw [hce, Nat.mul_one]
      have hi3 : i < (u8s d).length := by rw [u8s_len]; exact hi2
      rw [List.drop_eq_getElem_cons hi3]
      simp [u8s]
    rw [e1]
    have hw : (Lit.int .u8 d[i]).wf = true := by
      simp [Lit.wf, IntKind.min, IntKind.max, IntKind.bits, IntKind.signed]
      omega
    simp [Program.keyLits, he, hw])
  refine ⟨.string (keyBytes ys.flatten), ?_⟩
  unfold keyOf
  rw [ht]
  simp only [hk, hf, Bool.and_self, if_true]
  rw [hn]
  unfold Program.keyLits
  simp only [ht, Value.cells, hcl, hc, if_true, hys, Option.map_some]
theorem dig_key (d : List Int) (h : Dig d) : ∃ l, keyOf Tryd.prog 23 (.agg (u8s d).toArray) = some l :=
  keyOf_dig Tryd.underlying23 Tryd.underlying5 (by kernel_rfl) (by kernel_rfl) (by kernel_rfl) (of_decide_eq_true (by kernel_rfl)) d h.l h.b
theorem u8s_inj {a b : List Int} (h : u8s a = u8s b) : a = b := by
  induction a generalizing b with
  | nil => cases b with
    | nil => rfl
    | cons y b => cases h
  | cons x a ih => cases b with
    | nil => cases h
    | cons y b =>
      simp only [u8s, List.map_cons, List.cons.injEq, Value.int.injEq, true_and] at h
      rw [h.1, ih h.2]
theorem dig_equal (a b : List Int) (ha : Dig a) (hb : Dig b) (W : World) : (Op.equalIn 10000 23 (.agg (u8s a).toArray) (.agg (u8s b).toArray)).run Tryd.prog W = .ok (decide (a = b)) W := by
  obtain ⟨la, hla⟩ := dig_key a ha
  obtain ⟨lb, hlb⟩ := dig_key b hb
  have hk : Tryd.prog.keyTypeAt 2 23 = true := by kernel_rfl
  have hwide : (match Tryd.prog.underlying 23 with | some (.array _ _) | some (.struct _) => true | _ => false) = true := by kernel_rfl
  have hti : Tryd.prog.tiled 2 23 = true := by kernel_rfl
  obtain ⟨r, hr, hiff⟩ := run_equal_deep W (m := 2) (by decide) hk hwide hla hlb
  have e : r = decide (a = b) := by
    by_cases h : a = b
    · subst h
      rw [decide_eq_true rfl]
      rw [hla] at hlb
      injection hlb with hlb
      exact hiff.2 hlb
    · rw [decide_eq_false h]
      cases hr2 : r with
      | false => rfl
      | true =>
        exfalso
        apply h
        have h2 := hiff.1 hr2
        rw [← h2] at hlb
        have h3 := keyOf_inj_deep hti hwide hla hlb
        injection h3 with h3
        exact u8s_inj (by simpa using congrArg Array.toList h3)
  rw [← e]
  exact hr
end Go.Proofs.YtkjckmdiolgmcaaDoor
