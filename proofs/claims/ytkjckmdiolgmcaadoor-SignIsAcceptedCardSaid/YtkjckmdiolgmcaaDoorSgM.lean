/- sign's memo: the map from (level, number) to a digest. Conditions: levels up to 6, numbers below 64. -/
import Derived.Test.YtkjckmdiolgmcaaDoorSgC
import Derived.Maps.OwnSet
import Derived.DeepKeys4
set_option linter.unusedSimpArgs false
set_option linter.unusedVariables false
namespace Go.Proofs.YtkjckmdiolgmcaaDoor
open Go.RowKit
/-- The tree over a seed: the node with number k at level l. -/
def nodeV (seed : ByteArray) : Nat → Nat → List Int
  | 0, k => leafD (fun c => topD seed (k : Int) (c : Int))
  | l + 1, k => nodeD (nodeV seed l (2 * k)) (nodeV seed l (2 * k + 1))
theorem nodeV_dig (seed : ByteArray) : ∀ l k, Dig (nodeV seed l k)
  | 0, k => ofD_dig _ _
  | l + 1, k => ofD_dig _ _
def keyV (l k : Nat) : Value := .agg #[.int .i64 (l : Int), .int .i64 (k : Int)]
def keyN (l k : Nat) : Lit := .string (keyBytes [.int .i64 (l : Int), .int .i64 (k : Int)])
theorem keyA : Maps.Keyed Tryd.prog 63 := Maps.Keyed.of_law (deep_law (m := 2) (by decide) (by kernel_rfl) (by kernel_rfl) (by kernel_rfl))
theorem i64_wf {x : Int} (h : I64 x) : (Lit.int .i64 x).wf = true := by
  unfold I64 at h
  simp [Lit.wf, IntKind.min, IntKind.max, IntKind.bits, IntKind.signed]
  omega
theorem keyOf_arr {P : Program} {t e : TypeId} (ht : P.underlying t = some (.array 2 e)) (he : P.underlying e = some (.int .i64)) (hk : P.keyType t = true) (hc : P.cellsOf t = 2) (hce : P.cellsOf e = 1) (hs : 0 < P.types.size) {v : Value} {a b : Int} (hv : v = .agg #[.int .i64 a, .int .i64 b]) (hf : v.formed P t = true) (ha : (Lit.int .i64 a).wf = true) (hb : (Lit.int .i64 b).wf = true) :
    keyOf P t v = some (.string (keyBytes [.int .i64 a, .int .i64 b])) := by
  obtain ⟨n, hn⟩ : ∃ n, P.types.size = n + 1 := ⟨P.types.size - 1, by omega⟩
  unfold keyOf
  rw [ht]
  simp only [hk, hf, Bool.and_self, if_true]
  rw [hv, hn]
  simp only [Program.keyLits, ht, he, Value.cells, hc, hce, List.length_cons, List.length_nil]
  simp [List.range_succ, Program.keyLits, he, ha, hb]
theorem keyN_of {l k : Nat} (hl : l ≤ 6) (hk : k < 64) : keyOf Tryd.prog 63 (keyV l k) = some (keyN l k) :=
  keyOf_arr Tryd.underlying63 Tryd.underlying3 (by kernel_rfl) (by kernel_rfl) (by kernel_rfl) (of_decide_eq_true (by kernel_rfl)) rfl (by kernel_rfl) (i64_wf ⟨by omega, by omega⟩) (i64_wf ⟨by omega, by omega⟩)
theorem keyN_inj {l k l' k' : Nat} (hl : l ≤ 6) (hk : k < 64) (hl' : l' ≤ 6) (hk' : k' < 64) (h : keyN l k = keyN l' k') : l = l' ∧ k = k' := by
  have h1 := keyN_of hl hk
  rw [h] at h1
  have h2 := keyA.inj h1 (keyN_of hl' hk')
  unfold keyV at h2
  simp at h2
  omega
def heldR (v : Value) : Option (DataW Value × List MemPlace) := some (.held v, [])
def memoE (seed : ByteArray) (l k : Nat) : Lit × DataW Value := (keyN l k, .held (.agg (u8s (nodeV seed l k)).toArray))
/-- Block hm is the memo: whatever it holds is right. -/
def Memo (w : World) (seed : ByteArray) (hm : Nat) : Prop :=
  ∃ L : List (Lit × DataW Value), w.ownsMap Tryd.prog 63 heldR hm 448 (.map L) ∧ ∀ p ∈ L, ∃ l k : Nat, l ≤ 6 ∧ k < 64 ∧ p = memoE seed l k
theorem Memo.lt {w : World} {seed : ByteArray} {hm : Nat} (h : Memo w seed hm) : hm < w.heap.size := by
  obtain ⟨L, h1, _⟩ := h
  exact h1.lt
theorem Memo.kept {w w' : World} {seed : ByteArray} {hm : Nat} {F : Nat → Prop} (hh : Memo w seed hm) (hk : Kept F w w') (hf : ¬ F hm) : Memo w' seed hm := by
  obtain ⟨L, ⟨es, clock, hb, r⟩, h2⟩ := hh
  exact ⟨L, ⟨es, clock, (hk.block hm (Array.getElem?_eq_some_iff.1 hb).1 hf).trans hb, r⟩, h2⟩
theorem Memo.ext {w w' : World} {seed : ByteArray} {hm : Nat} (hh : Memo w seed hm) (hE : Ext w w') : Memo w' seed hm := hh.kept (Kept.of_ext (F := fun _ => False) hE) (fun h => h)
theorem Memo.ne_cell {w : World} {seed : ByteArray} {hm : Nat} (h : Memo w seed hm) {p : Addr} {v : Value} (hc : w.cell? p = some v) : p.block ≠ hm := by
  rintro rfl
  obtain ⟨L, ⟨es, clock, hb, _⟩, _⟩ := h
  unfold World.cell? at hc
  rw [hb] at hc
  cases hc
theorem Memo.made (w : World) (seed : ByteArray) : Memo (w.alloc (.map #[] 0)) seed w.heap.size :=
  ⟨[], (World.ownsMap_made w _ _ _).mono (Nat.zero_le _), fun p hp => by cases hp⟩
theorem few_of_ne {α : Type} [DecidableEq α] : ∀ (l S : List α), l.Pairwise (fun a b => a ≠ b) → (∀ x ∈ l, x ∈ S) → l.length ≤ S.length
  | [], _, _, _ => Nat.zero_le _
  | x :: l, S, hp, hS => by
    have hx := hS x (by simp)
    have hp2 := List.pairwise_cons.1 hp
    have h := few_of_ne l (S.erase x) hp2.2 (fun y hy => (List.mem_erase_of_ne (fun e => hp2.1 y hy e.symm)).2 (hS y (by simp [hy])))
    rw [List.length_erase_of_mem hx] at h
    have := List.length_pos_of_mem hx
    simp only [List.length_cons]
    omega
def allK : List (Nat × Nat) := (List.range 7).flatMap fun l => (List.range 64).map fun k => (l, k)
theorem allK_mem {l k : Nat} (hl : l ≤ 6) (hk : k < 64) : (l, k) ∈ allK := by
  unfold allK
  simp only [List.mem_flatMap, List.mem_map, List.mem_range, Prod.mk.injEq]
  exact ⟨l, by omega, k, hk, rfl, rfl⟩
theorem allK_len : allK.length = 448 := by kernel_rfl
theorem memo_few {seed : ByteArray} {L : List (Lit × DataW Value)} (hT : L.Pairwise (fun p q => p.1 ≠ q.1)) (h : ∀ p ∈ L, ∃ l k : Nat, l ≤ 6 ∧ k < 64 ∧ p = memoE seed l k) : L.length ≤ 448 := by
  classical
  have h1 := few_of_ne (L.map (·.1)) (allK.map fun x => keyN x.1 x.2) (by rw [List.pairwise_map]; exact hT) (fun x hx => by
    obtain ⟨p, hp, rfl⟩ := List.mem_map.1 hx
    obtain ⟨l, k, hl, hk, rfl⟩ := h p hp
    exact List.mem_map.2 ⟨(l, k), allK_mem hl hk, rfl⟩)
  rw [List.length_map, List.length_map, allK_len] at h1
  exact h1
/-- 'v, is := memo[..]': either it is there, and right, or it is not. -/
theorem memo_look {w : World} {seed : ByteArray} {hm : Nat} (hh : Memo w seed hm) {l k : Nat} (hl : l ≤ 6) (hk : k < 64) :
    (Instr.lookup 61 (.map (some hm)) (keyV l k) true).run Tryd.prog w = .ok (.tuple #[.agg (u8s (nodeV seed l k)).toArray, .bool true]) w ∨
    ∃ U : List Int, U.length = 16 ∧ (Instr.lookup 61 (.map (some hm)) (keyV l k) true).run Tryd.prog w = .ok (.tuple #[.agg (u8s U).toArray, .bool false]) w := by
  obtain ⟨L, h1, h3⟩ := hh
  have hz : (zeroValue 23).run Tryd.prog w = .ok (.agg (u8s (List.replicate 16 0)).toArray) w := by kernel_rfl
  obtain ⟨v, ps, hrun, hv⟩ := h1.look_ok keyA Tryd.underlying61 hz (zd := .held (.agg (u8s (List.replicate 16 0)).toArray)) (zp := []) rfl (keyN_of hl hk)
  simp only [heldR, Option.some.injEq, Prod.mk.injEq] at hv
  have hv1 := hv.1
  cases hc : Maps.has (.map L : DataW Value) (keyN l k) with
  | false =>
    rw [Maps.atKey_of_not_has hc] at hv1
    injection hv1 with e
    rw [hc, e] at hrun
    exact Or.inr ⟨_, by simp, hrun⟩
  | true =>
    rw [hc] at hrun
    rw [Maps.has_eq, List.any_eq_true] at hc
    have hat : ∃ p, L.find? (fun p => p.1.sameKey (keyN l k)) = some p := by
      cases hf : L.find? (fun p => p.1.sameKey (keyN l k)) with
      | some p => exact ⟨p, rfl⟩
      | none =>
        obtain ⟨p, hp, hs⟩ := hc
        have := List.find?_eq_none.1 hf p hp
        exact absurd hs this
    obtain ⟨p, hf⟩ := hat
    have e1 : p.1 = keyN l k := WideAt.sameKey_eq (by have h := List.find?_some hf; exact h)
    obtain ⟨l', k', hl', hk', e2⟩ := h3 p (List.mem_of_find?_eq_some hf)
    have e3 : keyN l' k' = keyN l k := by rw [← e1, e2]; rfl
    obtain ⟨rfl, rfl⟩ := keyN_inj hl' hk' hl hk e3
    have hv2 : (DataW.held v : DataW Value) = p.2 := by
      rw [hv1]
      simp [DataW.atKey, hf]
    rw [e2] at hv2
    unfold memoE at hv2
    injection hv2 with e
    rw [e] at hrun
    exact Or.inl hrun
section
variable {ops : Array Oper} {rest : List Oper} {o : Oper} {a : Act} {w : World} {Q : Exit → Act → World → Prop}
/-- 'memo[..] = v', the right v. -/
theorem wpList_memo_put (hg : o.guard = none) (m x y : Operand) (hop : o.op = Op.mapUpdate 61 m x y) {hm : Nat} {seed : ByteArray} (hmv : a.eval m = .map (some hm)) (hh : Memo w seed hm) (l k : Nat) (hx : a.eval x = keyV l k) (hy : a.eval y = .agg (u8s (nodeV seed l k)).toArray) (hl : l ≤ 6) (hk : k < 64)
    (hK : ∀ w', Memo w' seed hm → Kept (fun b => b = hm) w w' → wpList Tryd.prog ops Q rest (a.put o.dst undef) w') : wpList Tryd.prog ops Q (o :: rest) a w := by
  obtain ⟨L, h1, h2⟩ := hh
  refine wpList_mapUpdate_own w hg m x y 61 hop 63 23 keyA Tryd.underlying61 heldR hm 448 (.map L) hmv h1 (by decide) (keyV l k) _ (keyN l k) hx hy (keyN_of hl hk) (.held (.agg (u8s (nodeV seed l k)).toArray)) [] rfl ?_
  intro w' h4 hgr
  have hT := h4.tidy keyA
  have hP : ∀ p ∈ DataW.insert (keyN l k, (.held (.agg (u8s (nodeV seed l k)).toArray) : DataW Value)) (L.filter fun p => !p.1.sameKey (keyN l k)), ∃ l k : Nat, l ≤ 6 ∧ k < 64 ∧ p = memoE seed l k := by
    intro p hp
    rcases ChangeMaps.mem_insert_iff.1 hp with rfl | hp
    · exact ⟨l, k, hl, hk, rfl⟩
    · exact h2 p (List.mem_filter.1 hp).1
  have e : (DataW.map L : DataW Value).put (keyN l k) (.held (.agg (u8s (nodeV seed l k)).toArray)) = .map (DataW.insert (keyN l k, (.held (.agg (u8s (nodeV seed l k)).toArray) : DataW Value)) (L.filter fun p => !p.1.sameKey (keyN l k))) := rfl
  rw [e] at h4 hT
  obtain ⟨L2, e2, hT2⟩ := hT
  injection e2 with e2
  rw [← e2] at hT2
  refine hK w' ⟨_, ?_, hP⟩ (Kept.of_grown hgr (fun b hb _ => by injection hb with hb; exact hb.symm))
  have hf := memo_few hT2 hP
  obtain ⟨es, clock, hb, F, hs, hD⟩ := h4
  refine ⟨es, clock, hb, F, ?_, hD⟩
  injection hD with hD
  rw [hD, length_sorted] at hf
  simpa using hf
end
end Go.Proofs.YtkjckmdiolgmcaaDoor
