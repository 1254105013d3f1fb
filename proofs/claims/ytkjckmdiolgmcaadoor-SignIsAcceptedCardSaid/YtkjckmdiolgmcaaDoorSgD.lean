/- Verify's closures: the value at a place of a signature; a chain's top from it. Conditions: places inside the signature. -/
import Derived.Test.YtkjckmdiolgmcaaDoorSgC
set_option linter.unusedSimpArgs false
set_option linter.unusedVariables false
namespace Go.Proofs.YtkjckmdiolgmcaaDoor
open Go.RowKit
attribute [local go_sem ↓] wp_at_zero wp_at_succ
/-- The k-th value of a signature's rest. -/
def valD (X : List Int) (k : Nat) : List Int := (X.drop (16 * k)).take 16
theorem valD_dig {X : List Int} (h : Byt X) {k : Nat} (hk : 16 * k + 16 ≤ X.length) : Dig (valD X k) := ⟨by unfold valD; rw [List.length_take, List.length_drop]; omega, (h.drop _).take _⟩
set_option maxHeartbeats 4000000 in
set_option maxRecDepth 100000 in
theorem value_any (X : List Int) (g n c rb k : Nat) (w : World) (hl : w.cell? ⟨rb, 0, none⟩ = some (.slice (some ⟨g, 0, none⟩) n c)) (hx : Rd w w.heap.size (some ⟨g, 0, none⟩) n (u8s X)) (hk : 16 * k + 16 ≤ n) (hk2 : k ≤ 1000) (hnc : n ≤ c) (hc : c ≤ 9223372036854775807) (hb : rb < w.heap.size) :
    Calls Tryd.prog 22 #[.int .i64 (k : Int), .pointer (some ⟨rb, 0, none⟩)] w fun e w' => e = .returned (.agg (u8s (valD X k)).toArray) ∧ Ext w w' := by
  obtain ⟨i0, hi, hz0, hz1, hz2⟩ := info_parts winfo_u8
  have HX := Lib.hid hx; have HL := Lib.hid hl
  have hxl : X.length = n := by simpa [u8s] using hx.1
  obtain ⟨V, hV⟩ : ∃ V, V = valD X k := ⟨_, rfl⟩
  have HVL : Hid ((u8s V).length = 16) := Lib.hid (by rw [u8s_len, hV]; unfold valD; rw [List.length_take, List.length_drop]; omega)
  have HRG : Hid (∀ W, Ext w W → W.rangeAt g (k * 16) (u8s V)) := Lib.hid (fun W hW j v hv => by
    obtain ⟨b, o, hA, _, hcx⟩ := (hx.ext' hW).2 (by omega)
    injection hA with hA
    injection hA with e1 e2
    subst e1; subst e2
    have h := hcx (16 * k + j) v (by
      rw [hV] at hv
      simp only [u8s, valD, List.map_take, List.map_drop, List.getElem?_take, List.getElem?_drop] at hv ⊢
      split at hv
      · exact hv
      · cases hv)
    rw [Nat.zero_add, Nat.mul_comm 16 k] at h
    exact h)
  have ha := fun (W : World) (a : Option Addr) (cap : Nat) => run_arrayAt (P := Tryd.prog) W 23 5 16 a ((k + 1) * 16 - k * 16) cap Tryd.underlying23 (by omega)
  rw [← hV]
  clear hx hl hV
  go_enter Tryd.func22, Tryd.ntmps22
  go_upto_region 1 with fail
  obtain ⟨w3, hw3⟩ : ∃ x, x = w.alloc (.cells (u8s (List.replicate 16 0)).toArray 23) := ⟨_, rfl⟩
  change Code.wp _ _ _ _ (w.alloc (.cells (u8s (List.replicate 16 0)).toArray 23))
  rw [← hw3]
  have BZ : Hid (Blk w3 w.heap.size 23 (u8s (List.replicate 16 0))) := Lib.hid (by rw [hw3]; exact Blk.fresh' _ _ _ _ _ rfl rfl)
  have E3 : Hid (Ext w w3) := Lib.hid (by rw [hw3]; exact (Ext.refl w).alloc _)
  have xl := (E3.out.cell (p := ⟨rb, 0, none⟩) hb).trans HL.out
  have hr3 := Lib.hid (HRG.out w3 E3.out)
  have q0 : ¬ c = 16 * k := by omega
  clear hw3
  go_wp2_with (first
    | (refine wpList_load_mid rfl 23 (.tmp 11) rfl g (k * 16) rfl (u8s V) _ hr3.out Tryd.underlying23 rfl (dg_info.trans (congrArg some HVL.out.symm)) ?_)
    | (refine wpList_store_blk rfl 23 (.tmp 3) (.tmp 12) (by rfl) w.heap.size (u8s V) rfl rfl BZ.out (dg_info.trans (congrArg some HVL.out.symm)) (by rw [HVL.out]; rfl) (u8s_one _) ?_; intro w9 hw9 hb9))
  exact bodyPost_ret (results_blk Tryd.results22 _ _ w.heap.size 23 (u8s V) _ rfl hb9 Tryd.underlying23 rfl (dg_info.trans (congrArg some HVL.out.symm))) rfl ⟨rfl, by rw [hw9.out]; exact E3.out.setRow (Nat.le_refl _) _⟩
end Go.Proofs.YtkjckmdiolgmcaaDoor
