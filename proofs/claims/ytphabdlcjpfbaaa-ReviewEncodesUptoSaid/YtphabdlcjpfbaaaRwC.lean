/- append to a row of bytes of one's own, one byte: whatever row of bytes there is stays a row of bytes. No condition but sizes. -/
import Derived.Test.YtphabdlcjpfbaaaRwB
set_option linter.unusedSimpArgs false
set_option linter.unusedVariables false
namespace Go.Proofs.Ytphabdlcjpfbaaa
open Go.RowKit
/-- Where a byte lay, a byte lies. -/
def BytK (w w' : World) : Prop := ∀ (k j : Nat) (x : Int), 0 ≤ x → x ≤ 255 → w.cell? ⟨k, j, none⟩ = some (.int .u8 x) → ∃ y : Int, 0 ≤ y ∧ y ≤ 255 ∧ w'.cell? ⟨k, j, none⟩ = some (.int .u8 y)
theorem BytK.refl (w : World) : BytK w w := fun k j x h0 h1 h => ⟨x, h0, h1, h⟩
theorem BytK.next {a b c : World} (h1 : BytK a b) (h2 : BytK b c) : BytK a c := fun k j x h0 h3 h => by
  obtain ⟨y, y0, y1, hy⟩ := h1 k j x h0 h3 h
  exact h2 k j y y0 y1 hy
theorem own_base {w : World} {b b' : Nat} {e : TypeId} {size : Nat} {v : Value} {n : Nat} {xs : List Value} (h : w.ownsRow b e size v n xs) (hb : b' ≤ b) : w.ownsRow b' e size v n xs := ⟨h.1, h.2.elim Or.inl fun ⟨g, cap, cur, h1, h2, h3⟩ => Or.inr ⟨g, cap, cur, h1, Nat.le_trans hb h2, h3⟩⟩
theorem encR_pos (r : Rev) : 0 < (encR r).length := by
  have h : 0 < (encInt (([r.shop, r.seq, r.day] : List Int).length : Int)).length := by rw [encInt_length]; omega
  unfold encR
  unfold encL
  simp only [List.length_append]
  omega
theorem cell_lt {w : World} {k j : Nat} {u : Value} (h : w.cell? ⟨k, j, none⟩ = some u) : k < w.heap.size := by
  unfold World.cell? at h
  rcases Nat.lt_or_ge k w.heap.size with h1 | h1
  · exact h1
  · simp [Array.getElem?_eq_none h1] at h
theorem BytK.of_ext {w w' : World} (h : Ext w w') : BytK w w' := fun k j x h0 h1 hx => ⟨x, h0, h1, (h.cell (p := ⟨k, j, none⟩) (cell_lt hx)).trans hx⟩
theorem BytK.setRow (w : World) {g : Nat} {cur : Array Value} {t : TypeId} (hg : w.heap[g]? = some (.cells cur t (0, 0))) (n : Nat) (v : Int) (h0 : 0 ≤ v) (h1 : v ≤ 255) (hn : n < cur.size) : BytK w (w.setRow g (cur.toList.take n ++ [Value.int .u8 v] ++ cur.toList.drop (n + 1)).toArray) := fun k j x hx0 hx1 hx => by
  by_cases hk : k = g
  · subst hk
    have e1 : w.cell? ⟨k, j, none⟩ = cur[j]? := by simp [World.cell?, hg]
    have e2 : ∀ L : List Value, (w.setRow k L.toArray).cell? ⟨k, j, none⟩ = L[j]? := fun L => by
      have := setRow_heap w k cur L.toArray t (0, 0) hg
      simp [World.cell?, this]
    rw [e1] at hx
    rw [e2]
    have hl : cur.toList.length = cur.size := Array.length_toList
    have hx' : cur.toList[j]? = some (.int .u8 x) := by rw [Array.getElem?_toList]; exact hx
    rcases Nat.lt_trichotomy j n with hj | hj | hj
    · refine ⟨x, hx0, hx1, ?_⟩
      rw [List.append_assoc, List.getElem?_append_left (by rw [List.length_take]; omega), List.getElem?_take, if_pos hj]
      exact hx'
    · subst hj
      refine ⟨v, h0, h1, ?_⟩
      rw [List.append_assoc, List.getElem?_append_right (by rw [List.length_take]; omega), List.length_take, Nat.min_eq_left (by omega), Nat.sub_self]
      rfl
    · refine ⟨x, hx0, hx1, ?_⟩
      rw [List.getElem?_append_right (by rw [List.length_append, List.length_take, List.length_singleton]; omega), List.length_append, List.length_take, List.length_singleton, Nat.min_eq_left (by omega), List.getElem?_drop, show n + 1 + (j - (n + 1)) = j by omega]
      exact hx'
  · refine ⟨x, hx0, hx1, ?_⟩
    exact (World.cell?_of_block (setRow_other w g k _ hk)).trans hx
theorem run_toBytes2 {P : Program} (W : World) (src dst e : TypeId) (s : ByteArray) (hs : P.underlying src = some .string) (hd : P.underlying dst = some (.slice e)) (he : P.underlying e = some (.int .u8)) (hsz : s.size ≤ 1000000000000) :
    ∃ c w', (convert src dst (.string s)).run P W = .ok (.slice (some ⟨W.heap.size, 0, none⟩) s.size c) w' ∧ (s.size ≤ c ∧ c ≤ 9223372036854775807) ∧ Rd w' w'.heap.size (some ⟨W.heap.size, 0, none⟩) s.size (u8s (bys s)) ∧ Below W.heap.size W w' := by
  obtain ⟨c, w', h, hR, hB⟩ := run_toBytes W src dst e s hs hd he
  refine ⟨c, w', h, ?_, hR, hB⟩
  have h2 := run_bytes_of_string W src dst e s hs hd he
  rw [h] at h2
  injection h2 with h2 _
  injection h2 with _ _ h2
  rw [h2]
  have h3 := grownCap_ge W s.size 0 e
  have h4 := grownCap_le_maxLen W s.size 0 e (by unfold maxLen; omega)
  unfold maxLen at h4
  exact ⟨h3, h4⟩
/-- A row of bytes, whatever they are. -/
def BRow (w : World) (A : Option Addr) (n : Nat) : Prop := ∃ L : List Int, Byt L ∧ Rd w w.heap.size A n (u8s L)
theorem BRow.ext {w w' : World} {A : Option Addr} {n : Nat} (h : BRow w A n) (hE : Ext w w') : BRow w' A n := by
  obtain ⟨L, h1, h2⟩ := h
  exact ⟨L, h1, h2.ext' hE⟩
theorem BRow.keep {w w' : World} {A : Option Addr} {n : Nat} (h : BRow w A n) (hB : BytK w w') (hs : w.heap.size ≤ w'.heap.size) : BRow w' A n := by
  obtain ⟨L, h1, h2⟩ := h
  have hl : L.length = n := by simpa [u8s] using h2.1
  rcases Nat.eq_zero_or_pos n with h0 | h0
  · subst h0
    exact ⟨[], fun x hx => (by cases hx), ⟨rfl, fun h => absurd h (Nat.lt_irrefl _)⟩⟩
  · obtain ⟨b, o, hA, hb, hc⟩ := h2.2 h0
    have hj : ∀ j : Nat, ∃ y : Int, j < n → 0 ≤ y ∧ y ≤ 255 ∧ w'.cell? ⟨b, o + j, none⟩ = some (.int .u8 y) := fun j => by
      by_cases hjn : j < n
      · have hx : L[j]? = some (L[j]'(by omega)) := List.getElem?_eq_getElem _
        have hby := h1 _ (List.getElem_mem (l := L) (n := j) (by omega))
        obtain ⟨y, y0, y1, hy⟩ := hB b (o + j) _ hby.1 hby.2 (hc j (.int .u8 (L[j]'(by omega))) (by unfold u8s; rw [List.getElem?_map, hx]; rfl))
        exact ⟨y, fun _ => ⟨y0, y1, hy⟩⟩
      · exact ⟨0, fun h => absurd h hjn⟩
    obtain ⟨f, hf⟩ := Classical.axiomOfChoice hj
    refine ⟨(List.range n).map f, fun x hx => ?_, ⟨by simp [u8s], fun _ => ⟨b, o, hA, Nat.lt_of_lt_of_le hb hs, fun j u hu => ?_⟩⟩⟩
    · obtain ⟨j, hjr, rfl⟩ := List.mem_map.1 hx
      exact ⟨(hf j (List.mem_range.1 hjr)).1, (hf j (List.mem_range.1 hjr)).2.1⟩
    · unfold u8s at hu
      rw [List.getElem?_map, List.getElem?_map] at hu
      rcases Nat.lt_or_ge j n with h | h
      · rw [List.getElem?_range h] at hu
        simp only [Option.map_some, Option.some.injEq] at hu
        rw [← hu]
        exact (hf j h).2.2
      · rw [List.getElem?_eq_none (by simpa using h)] at hu
        cases hu
section
variable {P : Program} {w : World}
theorem app_byt (t ty e : TypeId) (i : TypeInfo) (z : Value) (bytes : Nat) (ht : P.underlying t = some (.slice e)) (hi : P.info? e = some i) (hz : i.zero = some z) (hsize : i.size = 1) (hby : i.bytes = bytes)
    (base g n c : Nat) (xs : List Value) (hown : w.ownsRow base e 1 (.slice (some ⟨g, 0, none⟩) n c) n xs)
    (ga : Nat) (v : Int) (h0 : 0 ≤ v) (h1 : v ≤ 255) (hs : w.cell? ⟨ga, 0, none⟩ = some (.int .u8 v))
    (h63 : n + 1 ≤ maxLen) (hbytes : (n + 1) * bytes ≤ 140737488355328) {r : Value} {w' : World}
    (hrun : (Builtin.append_ #[t, t] ty #[.slice (some ⟨g, 0, none⟩) n c, .slice (some ⟨ga, 0, none⟩) 1 1]).run P w = .ok r w') : BytK w w' := by
  have hnews : ∀ j u, ([.int .u8 v] : List Value)[j]? = some u → w.cell? ((⟨ga, 0, none⟩ : Addr).add j) = some u := fun j u hu => by
    match j, hu with
    | 0, hu =>
      simp only [List.getElem?_cons_zero, Option.some.injEq] at hu
      rw [← hu]
      exact hs
  have hown0 := hown
  rcases hown.2 with ⟨hv, _⟩ | ⟨g', cap, cur, hv, hbg, hg, hnc, hcm, hcs, htake⟩
  · cases hv
  · injection hv with h2 h3 h4
    injection h2 with h2
    injection h2 with h2
    subst h2 h4
    by_cases hroom : n + 1 ≤ c
    · have hr := run_append_room (P := P) w t ty e i ht hi g n c cur hg ⟨ga, 0, none⟩ 1 1 [.int .u8 v] (by rw [hsize]; rfl) hnews (fun u hu => by rw [List.mem_singleton] at hu; rw [hu]; rfl) hroom (by rw [hsize]; simp only [List.length_singleton]; omega)
      rw [hr] at hrun
      injection hrun with _ hw
      rw [← hw]
      simp only [hsize, Nat.mul_one, List.length_singleton]
      exact BytK.setRow w hg n v h0 h1 (by omega)
    · have holds : ∀ j u, xs[j]? = some u → w.cell? ((⟨g, 0, none⟩ : Addr).add j) = some u := hown0.cells (g := g) rfl
      unfold maxLen at h63
      have hr := run_append_grow (P := P) w t ty e i z ht hi hz ⟨g, 0, none⟩ n c xs (by rw [hsize]; exact hown0.1) holds ⟨ga, 0, none⟩ 1 1 [.int .u8 v] (by rw [hsize]; rfl) hnews (by omega) (by omega) (growslice_fits (by omega) (by rw [hby]; exact hbytes))
      rw [hr] at hrun
      injection hrun with _ hw
      rw [← hw]
      exact BytK.of_ext ((Ext.refl w).drew.alloc _)
theorem wpList_appB {ops : Array Oper} {rest : List Oper} {o : Oper} {a : Act} {Q : Exit → Act → World → Prop} (hgd : o.guard = none) (s x : Operand) (t : TypeId)
    (ho : o.op = .call { callee := .builtin .append, args := #[s, x], argTypes := #[t, t] })
    (base : Nat) (e : TypeId) (i : TypeInfo) (z : Value) (bytes : Nat) (ht : P.underlying t = some (.slice e)) (hi : P.info? e = some i) (hz : i.zero = some z)
    (hsize : i.size = 1) (hby : i.bytes = bytes) (hzs : z.cells.size = 1)
    (g n c : Nat) (xs : List Value) (hs : a.eval s = .slice (some ⟨g, 0, none⟩) n c) (hown : w.ownsRow base e 1 (.slice (some ⟨g, 0, none⟩) n c) n xs)
    (ga : Nat) (v : Int) (h0 : 0 ≤ v) (h1 : v ≤ 255) (hx : a.eval x = .slice (some ⟨ga, 0, none⟩) 1 1) (hc : w.cell? ⟨ga, 0, none⟩ = some (.int .u8 v))
    (h63 : n + 1 ≤ maxLen) (hbytes : (n + 1) * bytes ≤ 140737488355328) (hbase : base ≤ w.heap.size)
    (h : ∀ A' c' w', w'.ownsRow base e 1 (.slice A' (n + 1) c') (n + 1) (xs ++ [.int .u8 v]) → w.grownBy w' (Value.slice (some ⟨g, 0, none⟩) n c).ownBlock → BytK w w' → wpList P ops Q rest (a.put o.dst (.slice A' (n + 1) c')) w') : wpList P ops Q (o :: rest) a w :=
  wpList_plain hgd fun K hK => by
    obtain ⟨A', c', w', hrun, h2, h3⟩ := run_app (P := P) base t o.type e i z 1 bytes ht hi hz hsize hby hzs (by decide) (some ⟨g, 0, none⟩) n c xs hown (ga + 1) (some ⟨ga, 0, none⟩) 1 1 [.int .u8 v] ⟨rfl, fun _ => ⟨ga, 0, rfl, Nat.lt_succ_self _, fun j u hu => by
      match j, hu with
      | 0, hu =>
        simp only [List.getElem?_cons_zero, Option.some.injEq] at hu
        rw [← hu]
        exact hc⟩⟩ (fun u hu => by rw [List.mem_singleton] at hu; rw [hu]; rfl) h63 hbytes hbase
    have h4 := app_byt (P := P) t o.type e i z bytes ht hi hz hsize hby base g n c xs hown ga v h0 h1 hc h63 hbytes hrun
    unfold Oper.wp execOp
    simp only [ho, resolve, invoke, builtin, Sem.run_bind, Sem.run_pure, Result.andThen_ok, List.map_toArray, List.map_cons, List.map_nil, hs, hx, hrun]
    exact hK _ _ (h A' c' w' h2 h3 h4)
end
end Go.Proofs.Ytphabdlcjpfbaaa
