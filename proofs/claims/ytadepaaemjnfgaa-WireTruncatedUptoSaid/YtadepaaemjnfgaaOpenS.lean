/- Slices of strings and of digests that came in, with bounds by the bulk of what was read. No condition. -/
import Derived.Test.YtadepaaemjnfgaaOpenD
import Derived.Test.YtadepaaemjnfgaaDigA
import Derived.Deep.Slices
namespace Go.Proofs.Ytadepaaemjnfgaa
open Go.RowKit Go.WideShapes Go.ChangeShapes
section
variable {H : Type} {enc : TypeId × Value → H} {P : Program}
/-- The letters of the strings of a list. -/
def lenS : List ByteArray → Nat
  | [] => 0
  | s :: r => s.size + lenS r
theorem bulk_one (d : DataW H) : 1 ≤ Rows.uptoBulk d := by
  cases d with
  | lit l => cases l <;> simp [Rows.uptoBulk]
  | nil => simp [Rows.uptoBulk]
  | ptr d => simp [Rows.uptoBulk]
  | slice elems spare => simp [Rows.uptoBulk]
  | agg parts => simp [Rows.uptoBulk]
  | iface t d => simp [Rows.uptoBulk]
  | map entries => simp [Rows.uptoBulk]
  | held h => simp [Rows.uptoBulk]
theorem bulk_len : ∀ (l : List (DataW H)), l.length ≤ Rows.uptoBulkAll l
  | [] => by simp [Rows.uptoBulkAll]
  | x :: r => by
    have := bulk_len r
    have := bulk_one x
    simp only [Rows.uptoBulkAll, List.length_cons]
    omega
theorem bulk_strs : ∀ (l : List ByteArray), Rows.uptoBulkAll (strs (H := H) l) = lenS l + l.length
  | [] => by simp [strs, Rows.uptoBulkAll, lenS]
  | s :: r => by
    have ih := bulk_strs r
    unfold strs at ih
    have hz : s.data.toList.length = s.size := by rw [Array.length_toList]; rfl
    simp only [strs, List.map_cons, Rows.uptoBulkAll, Rows.uptoBulk, lenS, List.length_cons]
    rw [ih, hz]
    omega
theorem bulk_slice (elems spare : List (DataW H)) : Rows.uptoBulkAll elems + 1 ≤ Rows.uptoBulk (.slice elems spare) := by
  simp only [Rows.uptoBulk]
  omega
theorem bulk_all (d : DataW H) (r : List (DataW H)) : Rows.uptoBulkAll (d :: r) = Rows.uptoBulk d + Rows.uptoBulkAll r := rfl
/-- A slice of strings that came in. -/
theorem open_strlD {W : World} {r : Reach} {b0 : Nat} {t e : TypeId} {v : Value} {d : DataW H} {p : List MemPlace} (ht : P.underlying t = some (.slice e)) (he : P.underlying e = some .string) (hc : P.cellsOf e = 1)
    (hval : Value.okWide P W r b0 t v) (h : DataW.Trod enc P W 0 (fun _ => true) true t v d p) :
    ∃ (A : Option Addr) (n c : Nat) (l : List ByteArray), v = .slice A n c ∧ Rd W W.heap.size A n (l.map Value.string) ∧ l.length + lenS l ≤ Rows.uptoBulk d ∧ n ≤ c ∧ c ≤ maxLen := by
  obtain ⟨a0, n0, c0, rfl⟩ := okWide_slice ht hval
  obtain ⟨fuel, hf⟩ := h
  have hf' : DataW.trod enc P W 0 (fun _ => true) true fuel t [.slice a0 n0 c0] = some (d, p) := hf
  rcases open_strings ht he hc hf' with ⟨hcs, hx⟩ | ⟨a, len, cap, zs, hcs, _, hl, hm, hz, hx, hcell, hwz⟩
  · simp only [List.cons.injEq, Value.slice.injEq, and_true] at hcs
    obtain ⟨rfl, rfl, rfl⟩ := hcs
    exact ⟨none, 0, 0, [], rfl, Rd.nil _ _ _, by simp [lenS], Nat.le_refl _, by decide⟩
  · simp only [List.cons.injEq, Value.slice.injEq, and_true] at hcs
    obtain ⟨rfl, rfl, rfl⟩ := hcs
    simp only [if_true] at hz
    simp only [Prod.mk.injEq] at hx
    refine ⟨some a, n0, c0, zs.take n0, rfl, ⟨by simp; omega, fun hn => ?_⟩, ?_, hl, hm⟩
    · have h0 := hcell 0 (by omega)
      have ha : a.add 0 = a := by unfold Addr.add; simp
      rw [ha] at h0
      have hfm := addr_form h0
      refine ⟨a.block, a.off, by rw [← hfm], World.block_lt_of_cell? W _ h0, fun j u hu => ?_⟩
      have hj : j < n0 := by
        have := (List.getElem?_eq_some_iff.1 hu).1
        simp at this; omega
      have hcj := hcell j (by omega)
      rw [addr_add hfm] at hcj
      rw [hcj, ← hu, List.getElem?_map, List.getElem?_take, if_pos hj, List.getD_eq_getElem?_getD, List.getElem?_eq_getElem (by omega)]
      rfl
    · rw [hx.1]
      have h1 := bulk_slice (strs (H := H) (zs.take n0)) (strs (zs.drop n0))
      rw [bulk_strs] at h1
      omega
def valI : Value → Int
  | .int _ n => n
  | _ => 0
theorem open_dig {W : World} {base : Nat} {sp : Nat → Bool} {held : Bool} {fuel : Nat} {ta e : TypeId} {cs : List Value} {x : DataW H × List MemPlace} (hta : P.underlying ta = some (.array 16 e)) (he : P.underlying e = some (.int .u8)) (hce : P.cellsOf e = 1) (hca : P.cellsOf ta = 16)
    (h : DataW.trod enc P W base sp held fuel ta cs = some x) : (cs.map valI).length = 16 ∧ Byt (cs.map valI) ∧ cs = u8s (cs.map valI) := by
  obtain ⟨xs, m, _, _, hl, hxl, hi⟩ := DataW.trod_array hta h
  rw [hca] at hl
  have key : ∀ i, i < 16 → ∃ n : Int, cs[i]? = some (.int .u8 n) ∧ 0 ≤ n ∧ n ≤ 255 := by
    intro i hlt
    have h1 := hi i hlt
    rw [hce, Nat.mul_one, List.getElem?_eq_getElem (by omega)] at h1
    obtain ⟨n, hn, _, hw⟩ := DataW.trod_int he h1
    refine ⟨n, ?_, ?_⟩
    · have h2 : ((cs.drop i).take 1)[0]? = some (.int .u8 n) := by rw [hn]; rfl
      simpa using h2
    · simp [Lit.wf, IntKind.min, IntKind.max, IntKind.bits, IntKind.signed] at hw
      omega
  refine ⟨by simp [hl], fun y hy => ?_, ?_⟩
  · obtain ⟨v, hv, rfl⟩ := List.mem_map.1 hy
    obtain ⟨i, hil, hiv⟩ := List.mem_iff_getElem.1 hv
    obtain ⟨n, hn, h0, h1⟩ := key i (by omega)
    rw [List.getElem?_eq_getElem hil, hiv] at hn
    injection hn with hn
    rw [hn]
    exact ⟨h0, h1⟩
  · refine List.ext_getElem? fun i => ?_
    unfold u8s
    rw [List.getElem?_map, List.getElem?_map]
    by_cases hlt : i < 16
    · obtain ⟨n, hn, _⟩ := key i hlt
      rw [hn]; rfl
    · rw [List.getElem?_eq_none (by omega)]; rfl
/-- A slice of digests that came in. -/
theorem open_digs {W : World} {r : Reach} {b0 : Nat} {t ta e : TypeId} {v : Value} {d : DataW H} {p : List MemPlace} (ht : P.underlying t = some (.slice ta)) (hta : P.underlying ta = some (.array 16 e)) (he : P.underlying e = some (.int .u8)) (hce : P.cellsOf e = 1) (hca : P.cellsOf ta = 16)
    (hval : Value.okWide P W r b0 t v) (h : DataW.Trod enc P W 0 (fun _ => true) true t v d p) :
    ∃ (A : Option Addr) (n c : Nat) (ds : List (List Int)), v = .slice A n c ∧ RdN W W.heap.size 16 A n (celD ds) ∧ Dig16 ds ∧ ds.length = n ∧ n ≤ Rows.uptoBulk d ∧ n ≤ c ∧ c ≤ maxLen := by
  obtain ⟨a0, n0, c0, rfl⟩ := okWide_slice ht hval
  obtain ⟨fuel, hf⟩ := h
  have hf' : DataW.trod enc P W 0 (fun _ => true) true fuel t [.slice a0 n0 c0] = some (d, p) := hf
  rcases Deep.open_slice ht hf' with ⟨hcs, hx⟩ | ⟨a, len, cap, m, k, D, Pl, hcs, _, hl, hm, hmm, hx, hcell⟩
  · simp only [List.cons.injEq, Value.slice.injEq, and_true] at hcs
    obtain ⟨rfl, rfl, rfl⟩ := hcs
    exact ⟨none, 0, 0, [], rfl, ⟨rfl, fun h => absurd h (by omega)⟩, Dig16.nil, rfl, Nat.zero_le _, Nat.le_refl _, by decide⟩
  · simp only [List.cons.injEq, Value.slice.injEq, and_true] at hcs
    obtain ⟨rfl, rfl, rfl⟩ := hcs
    simp only [if_true] at hmm
    simp only [Prod.mk.injEq] at hx
    have hex : ∀ i, i < n0 → ∃ z : List Int, z.length = 16 ∧ Byt z ∧ W.cells? 0 (a.add (i * 16)) 16 = some (u8s z) := by
      intro i hi
      obtain ⟨cs', h1, h2⟩ := hcell i (by omega)
      rw [hca] at h1
      obtain ⟨h3, h4, h5⟩ := open_dig hta he hce hca h2
      exact ⟨_, h3, h4, by rw [← h5]; exact h1⟩
    let Z : Nat → List Int := fun i => if h : i < n0 then (hex i h).choose else []
    have hZ : ∀ i, i < n0 → (Z i).length = 16 ∧ Byt (Z i) ∧ W.cells? 0 (a.add (i * 16)) 16 = some (u8s (Z i)) := by
      intro i hi
      have := (hex i hi).choose_spec
      simp only [Z, hi, dif_pos]
      exact this
    have hcZ : ∀ i j, i < n0 → j < 16 → W.cell? ((a.add (i * 16)).add j) = some (.int .u8 ((Z i).getD j 0)) := by
      intro i j hi hj
      obtain ⟨h1, h2, h3⟩ := hZ i hi
      have h4 := (World.cells?_some h3).2.2 j hj
      rw [h4, u8s_get _ _ (by omega)]
    have hD : Dig16 ((List.range n0).map Z) := fun z hz => by
      obtain ⟨i, hi, rfl⟩ := List.mem_map.1 hz
      rw [List.mem_range] at hi
      exact ⟨(hZ i hi).1, (hZ i hi).2.1⟩
    have hlen : ((List.range n0).map Z).length = n0 := by simp
    refine ⟨some a, n0, c0, (List.range n0).map Z, rfl, ⟨by rw [celD_length _ (fun z hz => (hD z hz).1), hlen], fun hn => ?_⟩, hD, hlen, ?_, hl, hm⟩
    · have h0 := hcZ 0 0 hn (by omega)
      have ha : (a.add (0 * 16)).add 0 = a := by unfold Addr.add; simp
      rw [ha] at h0
      have hfm := addr_form h0
      refine ⟨a.block, a.off, by rw [← hfm], World.block_lt_of_cell? W _ h0, fun j u hu => ?_⟩
      have hj : j < n0 * 16 := by
        have := (List.getElem?_eq_some_iff.1 hu).1
        rw [celD_length _ (fun z hz => (hD z hz).1), hlen] at this
        exact this
      have hj2 : j / 16 < n0 := by omega
      have hg := celD_get ((List.range n0).map Z) (j / 16) (j % 16) (fun z hz => (hD z hz).1) (by rw [hlen]; exact hj2) (by omega)
      rw [show j / 16 * 16 + j % 16 = j by omega, hu] at hg
      have hcj := hcZ (j / 16) (j % 16) hj2 (by omega)
      rw [addr_add hfm, addr_add rfl] at hcj
      simp only at hcj
      rw [show a.off + j / 16 * 16 + j % 16 = a.off + j by omega] at hcj
      rw [hcj, hg, List.getD_eq_getElem?_getD (l := (List.range n0).map Z), List.getElem?_map, List.getElem?_range hj2]
      rfl
    · rw [hx.1]
      have h1 := bulk_slice ((List.range n0).map D) ((List.range (m - n0)).map fun j => D (n0 + j))
      have h2 := bulk_len ((List.range n0).map D)
      simp at h2
      omega
end
end Go.Proofs.Ytadepaaemjnfgaa
