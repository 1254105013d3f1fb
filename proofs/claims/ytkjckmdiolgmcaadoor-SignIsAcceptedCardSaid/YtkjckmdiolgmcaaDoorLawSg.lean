/- What sign's laws share: the table as the rows list it; a digest that came in. No condition. -/
import Derived.Test.YtkjckmdiolgmcaaDoorLaw
import Derived.Test.YtkjckmdiolgmcaaDoorSgA
import Derived.Test.YtkjckmdiolgmcaaDoorCards
import Derived.Test.YtkjckmdiolgmcaaDoorTie
import Derived.Deep.DeepHandedRow
import Derived.WideKeyArr2
set_option linter.unusedSimpArgs false
set_option linter.unusedVariables false
namespace Go.Proofs.YtkjckmdiolgmcaaDoor
open Go.RowKit Go.WideShapes Go.ChangeShapes
theorem own : ownKnob Tryd.prog.godebug = none := by kernel_rfl
theorem laidOut : laidOutB Tryd.prog = true := by kernel_rfl
theorem gK : Tryd.prog.globalNamed "splicery/hash.constants" = some 0 := by kernel_rfl
theorem gKt : (Tryd.prog.globals[0]?).map (·.type) = some 85 := by kernel_rfl
theorem cells64 : Tryd.prog.cellsOf 85 = 64 := by kernel_rfl
theorem cellsu32 : Tryd.prog.cellsOf 70 = 1 := by kernel_rfl
theorem laid_k {W : World} {rest : List (String × DataW Unit)} (h : laidMet Tryd.prog (("splicery/hash.constants", Rows.laid_splicery_hash_constants) :: rest) W) : KTab W :=
  tab_of_is (Lib.tabIs_of_head (k := .u32) (zs := kc) gK gKt Tryd.underlying85 Tryd.underlying70 cellsu32 cells64 h) gK
theorem arr16 : WideMaps.ArrKey Tryd.prog 23 5 16 := ⟨Tryd.underlying23, by kernel_rfl, by kernel_rfl, by kernel_rfl⟩
theorem mapM_each {α β : Type} (f : α → Option β) : ∀ (l : List α) (ys : List β), l.mapM f = some ys → ∀ x ∈ l, ∃ y, f x = some y
  | [], _, _, x, hx => by cases hx
  | a :: l, ys, h, x, hx => by
    rw [List.mapM_cons] at h
    simp only [bind, Option.bind_eq_some_iff, pure, Option.some.injEq] at h
    obtain ⟨y, hy, zs, hz, _⟩ := h
    rcases List.mem_cons.1 hx with rfl | hx
    · exact ⟨y, hy⟩
    · exact mapM_each f l zs hz x hx
def intI : Value → Int
  | .int _ x => x
  | _ => 0
theorem open_dig {H : Type} {enc : TypeId × Value → H} {W : World} {base b0 : Nat} {sp : Nat → Bool} {held : Bool} {r : Reach} {v : Value} {d : DataW H} {ps : List MemPlace} (hval : Value.okWide Tryd.prog W r b0 23 v) (hd : DataW.Trod enc Tryd.prog W base sp held 23 v d ps) :
    ∃ l : List Int, v = .agg (u8s l).toArray ∧ Dig l := by
  obtain ⟨xs, rfl, hn⟩ := WideMaps.okWide_arr arr16 hval
  obtain ⟨fuel, hf⟩ := hd
  have hall : ∀ i, i < 16 → ∃ x : Int, xs.toList[i]? = some (.int .u8 x) ∧ 0 ≤ x ∧ x ≤ 255 := by
    cases fuel with
    | zero => simp [DataW.trod] at hf
    | succ m =>
      rw [DataW.trod_step] at hf
      unfold DataW.trodStep at hf
      simp only [arr16.hu, Value.cells] at hf
      rw [if_pos (by rw [arr16.size]; simpa using hn)] at hf
      simp only [Option.map_eq_some_iff] at hf
      obtain ⟨ys, hy, e1⟩ := hf
      intro i hi
      obtain ⟨y, hy2⟩ := mapM_each _ _ _ hy i (List.mem_range.2 hi)
      obtain ⟨x, ex, _, hw⟩ := DataW.trod_int Tryd.underlying5 hy2
      rw [arr16.one, Nat.mul_one] at ex
      have hi2 : i < xs.toList.length := by simpa [hn] using hi
      rw [List.drop_eq_getElem_cons hi2] at ex
      simp only [List.take_succ_cons, List.take_zero, List.cons.injEq, and_true] at ex
      refine ⟨x, by rw [List.getElem?_eq_getElem hi2, ex], ?_⟩
      simp [Lit.wf, IntKind.min, IntKind.max, IntKind.bits, IntKind.signed] at hw
      omega
  refine ⟨xs.toList.map intI, ?_, ?_, ?_⟩
  · congr 1
    apply Array.ext'
    rw [List.toList_toArray]
    apply List.ext_getElem?
    intro i
    unfold u8s
    rw [List.map_map, List.getElem?_map]
    by_cases hi : i < 16
    · obtain ⟨x, hx, _⟩ := hall i hi
      rw [hx]
      rfl
    · rw [List.getElem?_eq_none (by simpa [hn] using hi)]
      rfl
  · simpa using hn
  · intro x hx
    obtain ⟨u, hu, rfl⟩ := List.mem_map.1 hx
    obtain ⟨j, hj, e⟩ := List.mem_iff_getElem.1 hu
    obtain ⟨y, hy, hb⟩ := hall j (by simpa [hn] using hj)
    rw [List.getElem?_eq_getElem hj, e] at hy
    injection hy with hy
    rw [hy]
    exact hb
end Go.Proofs.YtkjckmdiolgmcaaDoor
