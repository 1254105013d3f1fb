/- b[n:] of a slice of bytes, whatever is left of its capacity. No condition. -/
import Derived.Test.YtjeecfjeooehhaaGreatDoorGF
set_option linter.unusedSimpArgs false
set_option linter.unusedVariables false
namespace Go.Proofs.YtjeecfjeooehhaaGreatDoor
open Go.RowKit
/-- The address of b[u:]. -/
def restA (A : Option Addr) (c u : Nat) : Option Addr := if c = u then A else A.map (·.add u)
section
variable {P : Program} {ops : Array Oper} {rest : List Oper} {o : Oper} {a : Act} {w : World} {Q : Exit → Act → World → Prop}
theorem wp_slice_rest {K : Act → World → Prop} (ty : TypeId) (x lo : Operand) (ho : o.op = .slice ty x (some lo) none none) (ht : P.underlying ty = some (.slice (P.elem ty))) (hz : ∀ w, (sizeOf (P.elem ty)).run P w = .ok 1 w) {A : Option Addr} {n c u : Nat} (hx : a.eval x = .slice A n c) (hlo : a.eval lo = .int .i64 (u : Int)) (hu : u ≤ n)
    {A2 : Option Addr} (hA : A2 = restA A c u) {m2 c2 : Nat} (hm : m2 = n - u) (hc2 : c2 = c - u) (h : K (a.put o.dst (.slice A2 m2 c2)) w) : o.wp P a w K Q := by
  unfold Oper.wp execOp
  have e := run_slice_l (P := P) w ty A n c ht .i64 (u : Int) (by omega) (by omega)
  simp only [ho, hx, hlo, Option.map_some, Option.map_none, Sem.run_bind, run_sliceAt_slice w ty _ _ _ _ ht, e, hz, Result.andThen_ok, Int.toNat_natCast, sliced, Nat.mul_one]
  subst hA hm hc2
  exact h
theorem wpList_slice_rest (hg : o.guard = none) (ty : TypeId) (x lo : Operand) (ho : o.op = .slice ty x (some lo) none none) (ht : P.underlying ty = some (.slice (P.elem ty))) (hz : ∀ w, (sizeOf (P.elem ty)).run P w = .ok 1 w) {A : Option Addr} {n c u : Nat} (hx : a.eval x = .slice A n c) (hlo : a.eval lo = .int .i64 (u : Int)) (hu : u ≤ n)
    {A2 : Option Addr} (hA : A2 = restA A c u) {m2 c2 : Nat} (hm : m2 = n - u) (hc2 : c2 = c - u) (h : wpList P ops Q rest (a.put o.dst (.slice A2 m2 c2)) w) : wpList P ops Q (o :: rest) a w :=
  wpList_plain hg fun _ hK => wp_slice_rest ty x lo ho ht hz hx hlo hu hA hm hc2 (hK _ _ h)
end
/-- A struct built, where its cells are known. -/
theorem wpList_build_eq {P : Program} {ops : Array Oper} {rest : List Oper} {o : Oper} {a : Act} {w : World} {Q : Exit → Act → World → Prop} (hw : Region.wanted o (yielded ops a.tmps) = true) (t : TypeId) (parts : Array (Nat × Operand)) (ho : o.op = .build t parts) (vs : List (Nat × Value)) (hv : (parts.map fun (i, x) => (i, a.eval x)).toList = vs) (cells : List Value)
    (hf : P.built t vs = some cells.toArray) (h : wpList P ops Q rest (a.put o.dst (.agg cells.toArray)) w) : wpList P ops Q (o :: rest) a w :=
  BigFrame.wpList_want hw fun _ hK => wp_build t parts ho (by rw [hv, hf]; rfl) (by rw [hv, hf]; exact hK _ _ h)
theorem rd_restA {w : World} {B n c u : Nat} {A A2 : Option Addr} {l : List Int} (h : Rd w B A n (u8s l)) (hA : A2 = restA A c u) {m2 : Nat} (hm : m2 = n - u) (hu : u ≤ n) (hnc : n ≤ c) : Rd w B A2 m2 (u8s (l.drop u)) := by
  subst hA hm
  refine ⟨by have := h.1; simp only [u8s, List.length_map, List.length_drop] at this ⊢; omega, fun hn => ?_⟩
  obtain ⟨b, o, hA, hb, hc⟩ := h.2 (by omega)
  refine ⟨b, o + u, ?_, hb, fun j v hv => ?_⟩
  · unfold restA
    rw [if_neg (by omega), hA]
    simp [Addr.add]
  · rw [Nat.add_assoc]
    refine hc (u + j) v ?_
    rw [← hv]
    simp only [u8s, List.map_drop, List.getElem?_drop]
theorem results_blk_bit {P : Program} {fn : Func} {p u : Tmp} {ty : TypeId} (h : fn.results = #[ResultVar.cell p ty, .tmp u]) (tmps : Array Value) (w : World) (g : Nat) (t : TypeId) (cs : List Value) (d : TypeDesc) (hp : tmps.getD p undef = .pointer (some ⟨g, 0, none⟩))
    (hb : Blk w g t cs) (hu : P.underlying ty = some d) (hd : d.isRow = true) (hi : (P.info? ty).map (·.size) = some cs.length) : (results fn tmps).run P w = .ok (.tuple #[.agg cs.toArray, tmps.getD u undef]) w := by
  have hp' : tmps[p]?.getD undef = .pointer (some ⟨g, 0, none⟩) := by simpa using hp
  simp [results, h, hp', asAddr, run_loadVar_row w g t ty cs.toArray (0, 0) d hb hu (by cases d <;> first | rfl | cases hd) (by rw [hi, List.size_toArray])]
end Go.Proofs.YtjeecfjeooehhaaGreatDoor
