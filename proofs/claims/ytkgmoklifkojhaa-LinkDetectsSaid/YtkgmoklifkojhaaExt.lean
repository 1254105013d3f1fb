/- Worlds that extend another one: nothing that was there has changed. No condition. -/
import Derived.Test.YtkgmoklifkojhaaRow
namespace Go.Proofs.Ytkgmoklifkojhaa
open Go.RowKit
/-- What lay in a is in w as it was. -/
abbrev Ext (a w : World) : Prop := Below a.heap.size a w
theorem Ext.refl (a : World) : Ext a a := Below.refl _ _
theorem Ext.next {a w w' : World} (h : Ext a w) (hb : Below w.heap.size w w') : Ext a w' := Below.trans h (Below.mono hb (Below.size h))
theorem Ext.alloc {a w : World} (h : Ext a w) (o : Obj) : Ext a (w.alloc o) := Below.alloc h (Below.size h) o
theorem Ext.drew {a w : World} (h : Ext a w) : Ext a w.drew := Below.drew h
theorem Ext.setRow {a w : World} (h : Ext a w) {g : Nat} (hg : a.heap.size ≤ g) (cs : Array Value) : Ext a (w.setRow g cs) := below_row h hg cs
theorem Blk.ext {a w : World} {g : Nat} {t : TypeId} {cs : List Value} (hb : Blk a g t cs) (h : Ext a w) : Blk w g t cs := Blk.below hb h hb.lt
theorem Rd.ext {a w : World} {A : Option Addr} {n : Nat} {xs : List Value} (hb : Rd a a.heap.size A n xs) (h : Ext a w) : Rd w a.heap.size A n xs := hb.below h
theorem Rd.ext' {a w : World} {A : Option Addr} {n : Nat} {xs : List Value} (hb : Rd a a.heap.size A n xs) (h : Ext a w) : Rd w w.heap.size A n xs := (hb.below h).more h.size
theorem Blk.one {w : World} {g : Nat} {t : TypeId} {v : Value} (hb : Blk w g t [v]) : w.cell? ⟨g, 0, none⟩ = some v := hb.cell 0
theorem Blk.rd {w : World} {g : Nat} {t : TypeId} {cs : List Value} (hb : Blk w g t cs) {n : Nat} (hn : cs.length = n) : Rd w w.heap.size (some ⟨g, 0, none⟩) n cs :=
  ⟨hn, fun _ => ⟨g, 0, rfl, hb.lt, fun j u hu => by rw [hb.cell, Nat.zero_add]; exact hu⟩⟩
theorem Rd.fresh_fr (w : World) (C : Array Value) (t : TypeId) (fr : Nat × Nat) (cs : List Value) (n : Nat) (hC : C.toList = cs) (hn : cs.length = n) : Rd (w.alloc (.cells C t fr)) (w.alloc (.cells C t fr)).heap.size (some ⟨w.heap.size, 0, none⟩) n cs :=
  ⟨hn, fun _ => ⟨w.heap.size, 0, rfl, by simp, fun j u hu => by
    rw [cell_of_row _ _ _ C t fr (heap_alloc_new w _), Nat.zero_add, ← hu, ← hC, Array.getElem?_toList]⟩⟩
theorem Rd.slice {w : World} {B b o n : Nat} {xs : List Value} (h : Rd w B (some ⟨b, o, none⟩) n xs) (k m : Nat) (hk : k + m ≤ n) : Rd w B (some ⟨b, o + k, none⟩) m ((xs.drop k).take m) := by
  refine ⟨by rw [List.length_take, List.length_drop, h.1]; omega, fun hm => ?_⟩
  obtain ⟨b', o', hA, hb, hc⟩ := h.2 (by omega)
  simp only [Option.some.injEq, Addr.mk.injEq, and_true] at hA
  obtain ⟨rfl, rfl⟩ := hA
  refine ⟨b, o + k, rfl, hb, fun j u hu => ?_⟩
  have hj : j < m := by
    have := (List.getElem?_eq_some_iff.1 hu).1
    rw [List.length_take] at this; omega
  rw [List.getElem?_take, if_pos hj, List.getElem?_drop] at hu
  rw [Nat.add_assoc]
  exact hc _ _ hu
theorem Ext.drewN {a w : World} (h : Ext a w) (n : Nat) : Ext a (w.drewN n) := below_drewN h n
theorem u8s_one' (l : List Int) : ∀ v ∈ u8s l, v.oneCell' = true := u8s_one l
section
variable {P : Program} {ops : Array Oper} {rest : List Oper} {o : Oper} {a : Act} {w : World} {Q : Exit → Act → World → Prop}
theorem all_one {U : List Value} (h1 : ∀ v ∈ U, v.oneCell' = true) : U.toArray.all (·.oneCell') = true := Array.all_eq_true'.2 (fun v hv => h1 v (by simpa using hv))
/-- A whole row stored into a block that is known whole: the world behind it is a letter. -/
theorem wpList_store_blk (hgd : o.guard = none) (ty : TypeId) (x y : Operand) (ho : o.op = Op.store ty x y) (g : Nat) (U : List Value) (hx : a.eval x = .pointer (some ⟨g, 0, none⟩)) (hy : a.eval y = .agg U.toArray)
    {t : TypeId} {Z : List Value} (hb : Blk w g t Z) (hi : (P.info? ty).map (·.size) = some U.length) (hl : Z.length = U.length) (h1 : ∀ v ∈ U, v.oneCell' = true)
    (h : ∀ w2, Hid (w2 = w.setRow g U.toArray) → Blk w2 g t U → wpList P ops Q rest (a.put o.dst undef) w2) : wpList P ops Q (o :: rest) a w :=
  wpList_store_row hgd ty x y ho g U.toArray hx hy t Z.toArray hb (by rw [hi, List.size_toArray]) (by simpa using hl) (all_one h1) (h _ (Lib.hid rfl) (hb.setRow U))
/-- The same into a block that has just been made. -/
theorem wpList_store_fresh (hgd : o.guard = none) (ty : TypeId) (x y : Operand) (ho : o.op = Op.store ty x y) (ob : Obj) (g : Nat) (hg : g = w.heap.size) (Z U : List Value) (t : TypeId) (hx : a.eval x = .pointer (some ⟨g, 0, none⟩)) (hy : a.eval y = .agg U.toArray)
    (hob : ob = .cells Z.toArray t) (hi : (P.info? ty).map (·.size) = some U.length) (hl : Z.length = U.length) (h1 : ∀ v ∈ U, v.oneCell' = true)
    (h : ∀ w2, Blk w2 g t U → Ext w w2 → w.heap.size < w2.heap.size → wpList P ops Q rest (a.put o.dst undef) w2) : wpList P ops Q (o :: rest) a (w.alloc ob) := by
  subst hg hob
  have hb := Blk.fresh w t Z
  have he : Ext w ((w.alloc (.cells Z.toArray t)).setRow w.heap.size U.toArray) := ((Ext.refl w).alloc _).setRow (Nat.le_refl _) _
  exact wpList_store_row hgd ty x y ho w.heap.size U.toArray hx hy t Z.toArray hb (by rw [hi, List.size_toArray]) (by simpa using hl) (all_one h1) (h _ (hb.setRow U) he (hb.setRow U).lt)
theorem wpList_load_blk (hgd : o.guard = none) (ty : TypeId) (x : Operand) (ho : o.op = Op.load ty x) (g : Nat) (hx : a.eval x = .pointer (some ⟨g, 0, none⟩)) {t : TypeId} {cs : List Value} (hb : Blk w g t cs) {d : TypeDesc} (hu : P.underlying ty = some d)
    (hd : d.isRow = true) (hi : (P.info? ty).map (·.size) = some cs.length) (h : wpList P ops Q rest (a.put o.dst (.agg cs.toArray)) w) : wpList P ops Q (o :: rest) a w :=
  wpList_load_mid hgd ty x ho g 0 hx cs d hb.range hu hd hi h
end
/-- A row stored at its block, as the walk of a drawn region asks it. -/
theorem run_store_blk {P : Program} {w : World} {g : Nat} {t : TypeId} {Z U : List Value} (h : Blk w g t Z) (hl : Z.length = U.length) (h1 : ∀ v ∈ U, v.oneCell' = true) :
    (storeCells ⟨g, 0, none⟩ U).run P w = .ok () (w.setRow g U.toArray) := by
  have := run_storeRow (P := P) h U.toArray (by simpa using hl.symm) (all_one h1)
  simpa using this
/-- A row read at its block, whatever guard the operation has, if it says yes. -/
theorem wpList_load_want {P : Program} {ops : Array Oper} {rest : List Oper} {o : Oper} {a : Act} {w : World} {Q : Exit → Act → World → Prop} (hw : Region.wanted o (yielded ops a.tmps) = true) (ty : TypeId) (x : Operand) (ho : o.op = Op.load ty x) (g : Nat)
    (hx : a.eval x = .pointer (some ⟨g, 0, none⟩)) {t : TypeId} {cs : List Value} (hb : Blk w g t cs) {d : TypeDesc} (hu : P.underlying ty = some d) (hd : d.isRow = true) (hi : (P.info? ty).map (·.size) = some cs.length)
    (h : wpList P ops Q rest (a.put o.dst (.agg cs.toArray)) w) : wpList P ops Q (o :: rest) a w :=
  BigFrame.wpList_want hw fun _ hK => wp_load_mid ty x ho g 0 hx cs d hb.range hu hd hi (hK _ _ h)
/-- A whole row, read at a pointer. -/
def rowOf (n : Nat) (w : World) (v : Value) : Option Value :=
  match v with
  | .pointer (some ⟨g, 0, none⟩) => (match w.heap[g]? with | some (.cells cs _ _) => if cs.size = n then some (.agg cs) else none | _ => none)
  | _ => none
def wpBare (P : Program) (o : Oper) (a : Act) (w : World) (K : Act → World → Prop) (Q : Exit → Act → World → Prop) : Prop := Oper.wp P o a w K Q
theorem Blk.rowOf {w : World} {g : Nat} {t : TypeId} {cs : List Value} (h : Blk w g t cs) {n : Nat} (hn : cs.length = n) : rowOf n w (.pointer (some ⟨g, 0, none⟩)) = some (.agg cs.toArray) := by
  unfold Blk at h
  simp only [Go.Proofs.Ytkgmoklifkojhaa.rowOf, h, List.size_toArray, if_pos hn]
/-- The load of a row by looking: a rule for the walk of a drawn region, at a type whose row is known. -/
theorem wp_load_of {P : Program} (ty : TypeId) (n : Nat) {d : TypeDesc} (hu : P.underlying ty = some d) (hd : d.isRow = true) (hi : (P.info? ty).map (·.size) = some n)
    (dst : Option Tmp) (x : Operand) (ty' : TypeId) (pos : String) (after) (guard) (a : Act) (w : World) (K : Act → World → Prop) (Q : Exit → Act → World → Prop) :
    Oper.wp P { dst := dst, op := Op.load ty x, type := ty', pos := pos, after := after, guard := guard } a w K Q =
      match rowOf n w (a.eval x) with
      | some v => K (a.put dst v) w
      | none => wpBare P { dst := dst, op := Op.load ty x, type := ty', pos := pos, after := after, guard := guard } a w K Q := by
  cases h : rowOf n w (a.eval x) with
  | none => rfl
  | some v =>
    unfold rowOf at h
    split at h
    · rename_i g hx
      split at h
      · rename_i cs t fr hg
        split at h
        · rename_i hs
          injection h with h; subst h
          unfold Oper.wp execOp
          simp only [hx, Instr.loadAt, Instr.sureAddr, Sem.run_bind, Sem.run_pure, Result.andThen_ok, run_loadVar_row w g t ty cs fr _ hg hu (by cases d <;> first | rfl | cases hd) (hi.trans (congrArg some hs.symm))]
          rfl
        · cases h
      · cases h
    · cases h
theorem results_blk {P : Program} {fn : Func} {p : Tmp} {ty : TypeId} (h : fn.results = #[ResultVar.cell p ty]) (tmps : Array Value) (w : World) (g : Nat) (t : TypeId) (cs : List Value) (d : TypeDesc) (hp : tmps.getD p undef = .pointer (some ⟨g, 0, none⟩))
    (hb : Blk w g t cs) (hu : P.underlying ty = some d) (hd : d.isRow = true) (hi : (P.info? ty).map (·.size) = some cs.length) : (results fn tmps).run P w = .ok (.agg cs.toArray) w :=
  results_cell_row h tmps w g t cs.toArray (0, 0) d hp hb hu (by cases d <;> first | rfl | cases hd) (by rw [hi, List.size_toArray])
end Go.Proofs.Ytkgmoklifkojhaa
