/- What lies in memory behind an end of a link: blocks that may be written, messages that are never written, a map of held messages. No condition. -/
import Derived.Test.YtkgmoklifkojhaaLkRead
import Derived.Maps.OwnSet
import Derived.Maps.Views
set_option linter.unusedSimpArgs false
set_option linter.unusedVariables false
namespace Go.Proofs.Ytkgmoklifkojhaa
open Go.RowKit
/-- Nothing that was there has changed but for the blocks of F. -/
structure Kept (F : Nat → Prop) (w w' : World) : Prop where
  os : w'.os = w.os
  tape : w'.tape = w.tape
  output : w'.output = w.output
  size : w.heap.size ≤ w'.heap.size
  block : ∀ k, k < w.heap.size → ¬ F k → w'.heap[k]? = w.heap[k]?
theorem Kept.refl (F : Nat → Prop) (w : World) : Kept F w w := ⟨rfl, rfl, rfl, Nat.le_refl _, fun _ _ _ => rfl⟩
theorem Kept.of_ext {F : Nat → Prop} {w w' : World} (h : Ext w w') : Kept F w w' := ⟨h.os, h.tape, h.output, h.size, fun k hk _ => h.block k hk⟩
theorem Kept.next {F G : Nat → Prop} {w w1 w2 : World} (h : Kept F w w1) (h2 : Kept G w1 w2) (hG : ∀ b, b < w.heap.size → G b → F b) : Kept F w w2 :=
  ⟨h2.os.trans h.os, h2.tape.trans h.tape, h2.output.trans h.output, Nat.le_trans h.size h2.size, fun k hk hf => (h2.block k (Nat.lt_of_lt_of_le hk h.size) (fun hg => hf (hG k hk hg))).trans (h.block k hk hf)⟩
theorem Kept.trans {F : Nat → Prop} {w w1 w2 : World} (h : Kept F w w1) (h2 : Kept F w1 w2) : Kept F w w2 := h.next h2 (fun _ _ h => h)
theorem Kept.mono {F G : Nat → Prop} {w w' : World} (h : Kept F w w') (hG : ∀ b, b < w.heap.size → F b → G b) : Kept G w w' := ⟨h.os, h.tape, h.output, h.size, fun k hk hf => h.block k hk (fun h => hf (hG k hk h))⟩
theorem Kept.ext {F : Nat → Prop} {w w' : World} (h : Kept F w w') (hF : ∀ b, F b → w.heap.size ≤ b) : Ext w w' := ⟨h.os, h.tape, h.output, h.size, fun k hk => h.block k hk (fun hf => by have := hF k hf; omega)⟩
theorem Kept.of_grown {F : Nat → Prop} {w w' : World} {row : Option Nat} (h : w.grownBy w' row) (hF : ∀ b, row = some b → b < w.heap.size → F b) : Kept F w w' := ⟨h.os, h.tape, h.output, h.size, fun k hk hf => h.block k hk (fun he => hf (hF k he.symm hk))⟩
theorem Kept.drew (F : Nat → Prop) (w : World) : Kept F w w.drew := Kept.of_ext (Ext.refl w).drew
theorem Kept.setRow {F : Nat → Prop} (w : World) {g : Nat} (hg : F g) (cs : Array Value) : Kept F w (w.setRow g cs) := ⟨rfl, rfl, rfl, by simp, fun k _ hf => setRow_other w g k cs (fun h => hf (by rw [h]; exact hg))⟩
theorem Kept.setCell {F : Nat → Prop} (w : World) {p : Addr} (hg : F p.block) (v : Value) : Kept F w (w.setCell p v) := ⟨rfl, rfl, rfl, by simp [World.setCell], fun k _ hf => Below.heap_setCell w p v k (fun h => hf (by rw [h]; exact hg))⟩
theorem Kept.blk {F : Nat → Prop} {w w' : World} (h : Kept F w w') {g : Nat} {t : TypeId} {cs : List Value} (hb : Blk w g t cs) (hf : ¬ F g) : Blk w' g t cs := (h.block g hb.lt hf).trans hb
theorem Kept.cell {F : Nat → Prop} {w w' : World} (h : Kept F w w') {p : Addr} (hp : p.block < w.heap.size) (hf : ¬ F p.block) : w'.cell? p = w.cell? p := World.cell?_of_block (h.block _ hp hf)
theorem Kept.own {F : Nat → Prop} {w w' : World} (h : Kept F w w') {base : Nat} {e : TypeId} {size : Nat} {v : Value} {n : Nat} {xs : List Value} (ho : w.ownsRow base e size v n xs) (hf : ∀ b, v.ownBlock = some b → ¬ F b) : w'.ownsRow base e size v n xs := by
  refine ⟨ho.1, ho.2.imp id ?_⟩
  rintro ⟨g, cap, cur, rfl, h1, h2, h3⟩
  exact ⟨g, cap, cur, rfl, h1, (h.block g (Array.getElem?_eq_some_iff.1 h2).1 (hf g rfl)).trans h2, h3⟩
/-- A row that is never written: its block is none of Mu. -/
def ImRd (Mu : Nat → Prop) (w : World) (A : Option Addr) (n : Nat) (xs : List Value) : Prop :=
  xs.length = n ∧ (0 < n → ∃ b o, A = some ⟨b, o, none⟩ ∧ b < w.heap.size ∧ ¬ Mu b ∧ ∀ j u, xs[j]? = some u → w.cell? ⟨b, o + j, none⟩ = some u)
theorem ImRd.rd {Mu : Nat → Prop} {w : World} {A : Option Addr} {n : Nat} {xs : List Value} (h : ImRd Mu w A n xs) : Rd w w.heap.size A n xs :=
  ⟨h.1, fun hn => by obtain ⟨b, o, hA, hb, _, hc⟩ := h.2 hn; exact ⟨b, o, hA, hb, hc⟩⟩
theorem ImRd.keep {Mu Mu' F : Nat → Prop} {w w' : World} {A : Option Addr} {n : Nat} {xs : List Value} (h : ImRd Mu w A n xs) (hk : Kept F w w') (hF : ∀ b, F b → Mu b) (hM : ∀ b, b < w.heap.size → Mu' b → Mu b) : ImRd Mu' w' A n xs :=
  ⟨h.1, fun hn => by
    obtain ⟨b, o, hA, hb, hm, hc⟩ := h.2 hn
    exact ⟨b, o, hA, Nat.lt_of_lt_of_le hb hk.size, fun h => hm (hM b hb h), fun j u hu => (hk.cell (p := ⟨b, o + j, none⟩) hb (fun hf => hm (hF b hf))).trans (hc j u hu)⟩⟩
/-- A message: bytes that are never written. -/
def Msg (Mu : Nat → Prop) (w : World) (v : Value) (m : List Int) : Prop :=
  Byt m ∧ m.length ≤ 65536 ∧ ∃ A c, v = .slice A m.length c ∧ m.length ≤ c ∧ c ≤ 9223372036854775807 ∧ ImRd Mu w A m.length (u8s m)
theorem Msg.keep {Mu Mu' F : Nat → Prop} {w w' : World} {v : Value} {m : List Int} (h : Msg Mu w v m) (hk : Kept F w w') (hF : ∀ b, F b → Mu b) (hM : ∀ b, b < w.heap.size → Mu' b → Mu b) : Msg Mu' w' v m := by
  obtain ⟨h1, h2, A, c, h3, h4, h5, h6⟩ := h
  exact ⟨h1, h2, A, c, h3, h4, h5, h6.keep hk hF hM⟩
/-- Messages, each in its place. -/
def Msgs (Mu : Nat → Prop) (w : World) (vs : List Value) (ms : List (List Int)) : Prop := vs.length = ms.length ∧ ∀ j, j < ms.length → Msg Mu w (vs.getD j undef) (ms.getD j [])
theorem Msgs.nil (Mu : Nat → Prop) (w : World) : Msgs Mu w [] [] := ⟨rfl, fun _ h => by simp at h⟩
theorem Msgs.keep {Mu Mu' F : Nat → Prop} {w w' : World} {vs : List Value} {ms : List (List Int)} (h : Msgs Mu w vs ms) (hk : Kept F w w') (hF : ∀ b, F b → Mu b) (hM : ∀ b, b < w.heap.size → Mu' b → Mu b) : Msgs Mu' w' vs ms :=
  ⟨h.1, fun j hj => (h.2 j hj).keep hk hF hM⟩
theorem Msgs.snoc {Mu : Nat → Prop} {w : World} {vs : List Value} {ms : List (List Int)} {v : Value} {m : List Int} (h : Msgs Mu w vs ms) (hv : Msg Mu w v m) : Msgs Mu w (vs ++ [v]) (ms ++ [m]) := by
  refine ⟨by simp [h.1], fun j hj => ?_⟩
  have hl := h.1
  rw [List.getD_eq_getElem?_getD, List.getD_eq_getElem?_getD]
  by_cases hjl : j < ms.length
  · rw [List.getElem?_append_left (by omega), List.getElem?_append_left hjl, ← List.getD_eq_getElem?_getD, ← List.getD_eq_getElem?_getD]
    exact h.2 j hjl
  · simp only [List.length_append, List.length_cons, List.length_nil] at hj
    obtain rfl : j = ms.length := by omega
    rw [List.getElem?_append_right (by omega), List.getElem?_append_right (Nat.le_refl _), hl]
    simpa using hv
theorem Msgs.drop {Mu : Nat → Prop} {w : World} {vs : List Value} {ms : List (List Int)} (h : Msgs Mu w vs ms) (k : Nat) : Msgs Mu w (vs.drop k) (ms.drop k) := by
  refine ⟨by simp [h.1], fun j hj => ?_⟩
  rw [List.length_drop] at hj
  have := h.2 (k + j) (by omega)
  rw [List.getD_eq_getElem?_getD, List.getD_eq_getElem?_getD, List.getElem?_drop, List.getElem?_drop, ← List.getD_eq_getElem?_getD, ← List.getD_eq_getElem?_getD]
  exact this
theorem Msgs.cons {Mu : Nat → Prop} {w : World} {vs : List Value} {ms : List (List Int)} {v : Value} {m : List Int} (h : Msgs Mu w vs ms) (hv : Msg Mu w v m) : Msgs Mu w (v :: vs) (m :: ms) := by
  refine ⟨by simp [h.1], fun j hj => ?_⟩
  cases j with
  | zero => simpa using hv
  | succ j => simpa using h.2 j (by simpa using hj)
/-- How a map's element reads: as the value that it is. -/
def heldR (v : Value) : Option (DataW Value × List MemPlace) := some (.held v, [])
def in64 (i : Int) : Prop := -9223372036854775808 ≤ i ∧ i ≤ 9223372036854775807
theorem in64_wf {i : Int} (h : in64 i) : (Lit.int .i64 i).wf = true := by
  unfold in64 at h
  simp [Lit.wf, IntKind.min, IntKind.max, IntKind.bits, IntKind.signed]
  omega
/-- Block hm is a map from int to slices: at i it holds h i; it has at most s entries (and never had more than n). -/
def HeldMap (w : World) (hm n s : Nat) (h : Int → Option Value) : Prop :=
  ∃ D : DataW Value, w.ownsMap Try.prog 3 heldR hm n D ∧ Maps.size D ≤ s ∧ ∀ i, in64 i → Maps.has D (.int .i64 i) = (h i).isSome ∧ ∀ v, h i = some v → ∀ z, D.atKey (.int .i64 i) z = .held v
theorem keyI : Maps.Keyed Try.prog 3 := Maps.int_keyed Try.underlying3
theorem HeldMap.kept {w w' : World} {hm n s : Nat} {h : Int → Option Value} {F : Nat → Prop} (hh : HeldMap w hm n s h) (hk : Kept F w w') (hf : ¬ F hm) : HeldMap w' hm n s h := by
  obtain ⟨D, h1, h2, h3⟩ := hh
  obtain ⟨es, clock, hb, r⟩ := h1
  exact ⟨D, ⟨es, clock, (hk.block hm (Array.getElem?_eq_some_iff.1 hb).1 hf).trans hb, r⟩, h2, h3⟩
theorem HeldMap.lt {w : World} {hm n s : Nat} {h : Int → Option Value} (hh : HeldMap w hm n s h) : hm < w.heap.size := by
  obtain ⟨D, h1, _⟩ := hh
  exact h1.lt
theorem HeldMap.ne_blk {w : World} {hm n s g : Nat} {h : Int → Option Value} {t : TypeId} {cs : List Value} (hh : HeldMap w hm n s h) (hb : Blk w g t cs) : hm ≠ g := by
  rintro rfl
  obtain ⟨D, ⟨es, clock, h1, _⟩, _⟩ := hh
  unfold Blk at hb
  rw [h1] at hb
  cases hb
theorem HeldMap.made (w : World) : HeldMap (w.alloc (.map #[] 0)) w.heap.size 0 0 (fun _ => none) :=
  ⟨.map [], World.ownsMap_made w _ _ _, Nat.le_refl _, fun i _ => ⟨rfl, fun v h => by cases h⟩⟩
section
variable {ops : Array Oper} {rest : List Oper} {o : Oper} {a : Act} {w : World} {Q : Exit → Act → World → Prop}
theorem wpList_look_held (hg : o.guard = none) (m x : Operand) (hop : o.op = Op.lookup 63 m x true) {hm n s : Nat} {h : Int → Option Value} (hmv : a.eval m = .map (some hm)) (hh : HeldMap w hm n s h) (i : Int) (hx : a.eval x = .int .i64 i) (hi : in64 i)
    (hK : wpList Try.prog ops Q rest (a.put o.dst (.tuple #[(h i).getD (.slice none 0 0), .bool (h i).isSome])) w) : wpList Try.prog ops Q (o :: rest) a w := by
  obtain ⟨D, h1, _, h3⟩ := hh
  refine wpList_lookup_own_ok w hg m x 63 hop 3 33 keyI Try.underlying63 heldR (z := .slice none 0 0) (by kernel_rfl) (.held (.slice none 0 0)) [] rfl hm n D hmv h1 (.int .i64 i) (.int .i64 i) hx (Maps.keyOf_int_mk Try.underlying3 (in64_wf hi)) ?_
  intro v ps hv
  obtain ⟨e1, e2⟩ := h3 i hi
  have hv2 : v = (h i).getD (.slice none 0 0) := by
    simp only [heldR, Option.some.injEq, Prod.mk.injEq] at hv
    cases hc : h i with
    | none =>
      rw [hc] at e1
      rw [Maps.atKey_of_not_has e1] at hv
      have := hv.1
      injection this
    | some u =>
      rw [e2 u hc] at hv
      have := hv.1
      injection this
  rw [hv2, e1]
  exact hK
theorem wpList_put_held (hg : o.guard = none) (m x y : Operand) (hop : o.op = Op.mapUpdate 63 m x y) {hm n s : Nat} {h : Int → Option Value} (hmv : a.eval m = .map (some hm)) (hh : HeldMap w hm n s h) (hn : n < maxLen) (i : Int) (v : Value) (hx : a.eval x = .int .i64 i) (hy : a.eval y = v) (hi : in64 i)
    (hK : ∀ w', HeldMap w' hm (n + 1) (s + 1) (fun j => if j = i then some v else h j) → w.grownBy w' (some hm) → wpList Try.prog ops Q rest (a.put o.dst undef) w') : wpList Try.prog ops Q (o :: rest) a w := by
  obtain ⟨D, h1, h2, h3⟩ := hh
  refine wpList_mapUpdate_own w hg m x y 63 hop 3 33 keyI Try.underlying63 heldR hm n D hmv h1 hn (.int .i64 i) v (.int .i64 i) hx hy (Maps.keyOf_int_mk Try.underlying3 (in64_wf hi)) (.held v) [] rfl ?_
  intro w' h4 hgr
  have hT := h1.tidy keyI
  refine hK w' ⟨_, h4, ?_, fun j hj => ?_⟩ hgr
  · rw [Maps.size_put hT]
    split <;> omega
  · by_cases hji : j = i
    · subst hji
      simp only [if_true]
      exact ⟨Maps.has_put_same hT.isMap (show WideAt.IsKeyLit (.int .i64 j) from trivial) _, fun u hu z => by rw [Maps.atKey_put_same hT.isMap (show WideAt.IsKeyLit (.int .i64 j) from trivial)]; injection hu with hu; rw [hu]⟩
    · simp only [hji, if_false]
      have hne : (Lit.int .i64 j) ≠ (Lit.int .i64 i) := fun h => hji (by injection h)
      rw [Maps.has_put_other hne]
      exact ⟨(h3 j hj).1, fun u hu z => by rw [Maps.atKey_put_other hne]; exact (h3 j hj).2 u hu z⟩
theorem wpList_del_held (hg : o.guard = none) (m x : Operand) (hop : o.op = Op.call { callee := Callee.builtin Builtin.delete, args := #[m, x], argTypes := #[63, 3] }) {hm n s : Nat} {h : Int → Option Value} (hmv : a.eval m = .map (some hm)) (hh : HeldMap w hm n s h) (i : Int) (hx : a.eval x = .int .i64 i) (hi : in64 i)
    (hK : ∀ w', HeldMap w' hm n (if (h i).isSome then s - 1 else s) (fun j => if j = i then none else h j) → w.grownBy w' (some hm) → wpList Try.prog ops Q rest (a.put o.dst (.tuple #[])) w') : wpList Try.prog ops Q (o :: rest) a w := by
  obtain ⟨D, h1, h2, h3⟩ := hh
  refine wpList_delete_own w hg m x 63 3 hop 33 keyI Try.underlying63 heldR hm n D hmv h1 (.int .i64 i) (.int .i64 i) hx (Maps.keyOf_int_mk Try.underlying3 (in64_wf hi)) ?_
  intro w' h4 hgr
  have hT := h1.tidy keyI
  refine hK w' ⟨_, h4, ?_, fun j hj => ?_⟩ hgr.grown
  · have := Maps.size_del (k := .int .i64 i) hT
    rw [(h3 i hi).1] at this
    split
    · rename_i hc; rw [if_pos hc] at this; omega
    · rename_i hc; rw [if_neg hc] at this; omega
  · by_cases hji : j = i
    · subst hji
      simp only [if_true]
      exact ⟨Maps.has_del_same, fun u hu => by cases hu⟩
    · simp only [hji, if_false]
      have hne : (Lit.int .i64 j) ≠ (Lit.int .i64 i) := fun h => hji (by injection h)
      rw [Maps.has_del_other hne]
      exact ⟨(h3 j hj).1, fun u hu z => by rw [Maps.atKey_del_other hne]; exact (h3 j hj).2 u hu z⟩
end
end Go.Proofs.Ytkgmoklifkojhaa
