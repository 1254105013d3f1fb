/- append to a slice without room: the source a slice that reads as a list, nil and empty too. No condition. -/
import Derived.Test.YtkgmoklifkojhaaApp
import Derived.Test.YtkgmoklifkojhaaExt
import Derived.ArgAppend
namespace Go.Proofs.Ytkgmoklifkojhaa
open Go.RowKit
section
variable {P : Program} {w : World}
theorem run_app_tight (t ty e : TypeId) (i : TypeInfo) (z : Value) (bytes : Nat) (ht : P.underlying t = some (.slice e)) (hi : P.info? e = some i) (hz : i.zero = some z) (hsize : i.size = 1) (hby : i.bytes = bytes) (hzs : z.cells.size = 1)
    (b o n : Nat) (xs : List Value) (B : Nat) (hR : Rd w B (some ⟨b, o, none⟩) n xs) (hn0 : 0 < n) (B2 : Nat) (Ad : Option Addr) (m cd : Nat) (news : List Value) (hr : Rd w B2 Ad m news) (h1 : ∀ u ∈ news, u.oneCell' = true) (h63 : n + m ≤ maxLen) (hbytes : (n + m) * bytes ≤ 140737488355328) :
    ∃ A' c' w', (Builtin.append_ #[t, t] ty #[.slice (some ⟨b, o, none⟩) n n, .slice Ad m cd]).run P w = .ok (.slice A' (n + m) c') w' ∧ Rd w' w'.heap.size A' (n + m) (xs ++ news) ∧ n + m ≤ c' ∧ c' ≤ maxLen ∧ Ext w w' := by
  obtain ⟨b', o', hA, hb, hc⟩ := hR.2 hn0
  simp only [Option.some.injEq, Addr.mk.injEq, and_true] at hA
  obtain ⟨rfl, rfl⟩ := hA
  have hRw : Rd w w.heap.size (some ⟨b, o, none⟩) n xs := ⟨hR.1, fun hn => by
    obtain ⟨j, hj⟩ : ∃ j, xs[0]? = some j := ⟨xs[0]'(by rw [hR.1]; exact hn), List.getElem?_eq_getElem _⟩
    have h0 := hc 0 _ hj
    exact ⟨b, o, rfl, World.block_lt_of_cell? w _ h0, hc⟩⟩
  rcases Nat.eq_zero_or_pos m with h0 | h0
  · subst h0
    have hn : news = [] := List.eq_nil_of_length_eq_zero hr.1
    subst hn
    rcases Ad with _ | ad
    · exact ⟨some ⟨b, o, none⟩, n, w, by simp [Builtin.append_, run_underlying ht, sizeOf, typeInfo, hi, Builtin.lenOf, Builtin.firstCells, storeCells], by simpa using hRw, Nat.le_refl _, by omega, Ext.refl w⟩
    · have hrun := run_append_room_cells (P := P) w t ty e i ht hi b o n n ad 0 cd [] (by simp) (fun j u hu => by simp at hu) (fun u hu => by cases hu) (Nat.le_refl _) (fun j hj => by simp at hj) (fun j hj => by simp at hj)
      exact ⟨some ⟨b, o, none⟩, n, w, hrun, by simpa using hRw, Nat.le_refl _, by omega, Ext.refl w⟩
  · obtain ⟨b2, o2, rfl, _, hc2⟩ := hr.2 h0
    obtain ⟨v', w', hrun, hown, hg⟩ := run_append_arg_grows (P := P) w t ty e i z 1 bytes ht hi hz hsize hby hzs (by decide) ⟨b, o, none⟩ n n xs (by rw [hR.1]; omega) (fun j u hu => by rw [Addr.add_mid]; exact hc j u hu) ⟨b2, o2, none⟩ m cd news (by rw [hr.1]; omega) (fun j u hu => by rw [Addr.add_mid]; exact hc2 j u hu) (by omega) h63 hbytes
    have hcap : ∃ A' c', v' = .slice A' (n + m) c' ∧ n + m ≤ c' ∧ c' ≤ maxLen := by
      rcases hown.2 with ⟨rfl, h2⟩ | ⟨g, cap, cur, rfl, _, _, h2, h3, _⟩
      · omega
      · exact ⟨_, _, rfl, h2, h3⟩
    obtain ⟨A', c', rfl, h2, h3⟩ := hcap
    exact ⟨A', c', w', hrun, Rd.of_own hown, h2, h3, ⟨hg.os, hg.tape, hg.output, hg.size, fun k hk => hg.block k hk (by simp)⟩⟩
theorem wpList_app_tight {ops : Array Oper} {rest : List Oper} {op : Oper} {a : Act} {Q : Exit → Act → World → Prop} (hgd : op.guard = none) (s x : Operand) (t : TypeId) (ho : op.op = .call { callee := .builtin .append, args := #[s, x], argTypes := #[t, t] })
    (e : TypeId) (i : TypeInfo) (z : Value) (bytes : Nat) (ht : P.underlying t = some (.slice e)) (hi : P.info? e = some i) (hz : i.zero = some z) (hsize : i.size = 1) (hby : i.bytes = bytes) (hzs : z.cells.size = 1)
    (b o n : Nat) (xs : List Value) (hs : a.eval s = .slice (some ⟨b, o, none⟩) n n) (B : Nat) (hR : Rd w B (some ⟨b, o, none⟩) n xs) (hn0 : 0 < n) (B2 : Nat) (Ad : Option Addr) (m cd : Nat) (news : List Value) (hx : a.eval x = .slice Ad m cd) (hr : Rd w B2 Ad m news) (h1 : ∀ u ∈ news, u.oneCell' = true) (h63 : n + m ≤ maxLen) (hbytes : (n + m) * bytes ≤ 140737488355328)
    (h : ∀ A' c' w', Rd w' w'.heap.size A' (n + m) (xs ++ news) → n + m ≤ c' → c' ≤ maxLen → Ext w w' → wpList P ops Q rest (a.put op.dst (.slice A' (n + m) c')) w') : wpList P ops Q (op :: rest) a w := by
  refine wpList_plain hgd fun K hK => ?_
  obtain ⟨A', c', w', hrun, h2, h3, h4, h5⟩ := run_app_tight (P := P) (w := w) t op.type e i z bytes ht hi hz hsize hby hzs b o n xs B hR hn0 B2 Ad m cd news hr h1 h63 hbytes
  unfold Oper.wp
  simp [execOp, ho, resolve, invoke, builtin, hs, hx, hrun, Result.andThen]
  exact hK _ _ (h A' c' w' h2 h3 h4 h5)
end
end Go.Proofs.Ytkgmoklifkojhaa
