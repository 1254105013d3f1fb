/- sign's valid and the law's seed. Conditions: a byte. -/
import Derived.Test.YtkjckmdiolgmcaaDoorSgA
import Derived.Test.YtkjckmdiolgmcaaDoorKept
set_option linter.unusedSimpArgs false
set_option linter.unusedVariables false
namespace Go.Proofs.YtkjckmdiolgmcaaDoor
open Go.RowKit
theorem valid_ok (h : Nat) (w : World) (h6 : h ≤ 6) :
    Calls Tryd.prog 14 #[.int .i64 (h : Int)] w fun e w' => e = .returned (.bool true) ∧ w = w' := by
  go_enter Tryd.func14, Tryd.ntmps14
  go_wp2_with fail
  go_ret
  have q : decide ((h : Int) ≤ 6) = true := decide_eq_true (by omega)
  exact ⟨by show Ending.returned (.bool (decide ((h : Int) ≤ 6))) = _; rw [q], rfl⟩
def seedL (x : Int) : List Int := List.replicate 32 x
def seedT (x : Int) (t : Nat) : List Int := List.replicate t x ++ List.replicate (32 - t) 0
theorem seedT_len (x : Int) (t : Nat) (h : t ≤ 32) : (seedT x t).length = 32 := by simp [seedT]; omega
theorem seedT_succ (x : Int) (t : Nat) (h : t < 32) : (u8s (seedT x t)).set t (.int .u8 x) = u8s (seedT x (t + 1)) := by
  unfold seedT u8s
  rw [← List.map_set, List.set_append_right _ _ (by simp)]
  obtain ⟨n, hn⟩ : ∃ n, 32 - t = n + 1 := ⟨31 - t, by omega⟩
  rw [hn, show 32 - (t + 1) = n by omega]
  have e : List.replicate (t + 1) x = List.replicate t x ++ [x] := List.replicate_succ'
  rw [e]
  simp [List.replicate_succ]
theorem sg_ext0 {w w' : World} (h : Ext w w') {t : Nat} (v : Value) : Ext w (w'.setCell ⟨w.heap.size, t, none⟩ v) := ((Kept.of_ext (F := fun b => b = w.heap.size) h).trans (Kept.setCell (F := fun b => b = w.heap.size) (p := ⟨w.heap.size, t, none⟩) w' rfl v)).ext (fun b hb => by rw [hb]; exact Nat.le_refl _)
set_option maxHeartbeats 1000000 in
theorem seed_any (x : Int) (w : World) (h0 : 0 ≤ x) (h1 : x ≤ 255) :
    Calls Tryd.prog 10 #[.int .u8 x] w fun e w' => e = .returned (.string (strOf (seedL x))) ∧ Ext w w' := by
  obtain ⟨i0, hi, hz0, hz1, hz2⟩ := info_parts winfo_u8
  obtain ⟨wm, hmk0, hown, hgm⟩ := run_make_full (P := Tryd.prog) w w.heap.size 43 5 i0 (.int .u8 0) 1 Tryd.underlying43 hi hz0 hz1 .i64 .i64 32 (by rw [hz2]; decide) (by decide) (Nat.le_refl _)
  have hmk : (Instr.makeSlice 43 (.int .i64 32) (.int .i64 32)).run Tryd.prog w = .ok (.slice (some ⟨w.heap.size, 0, none⟩) 32 32) wm := hmk0
  have HO : Hid (wm.ownsRow w.heap.size 5 1 (.slice (some ⟨w.heap.size, 0, none⟩) 32 32) 32 (u8s (seedT x 0))) := Lib.hid (by
    have e : (madeCells (Value.int .u8 0).cells (32 * 1)).toList = u8s (List.replicate 32 0) := by simp [madeCells, Value.cells, u8s]; rfl
    rw [e] at hown
    exact hown)
  have Em : Hid (Ext w wm) := Lib.hid (Below.grown (Ext.refl w) hgm (Nat.le_refl _) (fun k hk => by cases hk))
  clear hi hz0 hz1 hz2 hmk0 hgm hown
  go_enter Tryd.func10, Tryd.ntmps10
  go_wp2_with fail
  go_loopw [4] (fun i wr => ∃ t : Nat, t ≤ 32 ∧ i = .int .i64 (t : Int) ∧ wr.ownsRow w.heap.size 5 1 (.slice (some ⟨w.heap.size, 0, none⟩) 32 32) 32 (u8s (seedT x t)) ∧ Ext w wr) (fun i _ => 32 - (intOf i).toNat)
  case atStart => exact ⟨0, by omega, rfl, HO.out, Em.out⟩
  case round =>
    clear HO Em
    obtain ⟨t, ht, rfl, ho, hE⟩ := hrel
    have HO := Lib.hid ho; have E1 := Lib.hid hE
    clear ho hE
    obtain ⟨wo, rfl⟩ : ∃ y : World, y = wr := ⟨_, rfl⟩
    by_cases hlt : t < 32
    · have c0 : ∃ y, wo.cell? ⟨w.heap.size, t, none⟩ = some (.int .u8 y) := by
        have h := HO.out.cellAt t (by omega)
        rw [h]
        exact ⟨(seedT x t).getD t 0, by simp [u8s, List.getElem?_map, List.getD_eq_getElem?_getD, List.getElem?_eq_getElem (show t < (seedT x t).length by rw [seedT_len x t ht]; exact hlt)]⟩
      obtain ⟨y, c0⟩ := c0
      have f0 := HO.out.frozenAt t
      have HO2 : Hid ((wo.setCell ⟨w.heap.size, t, none⟩ (.int .u8 x)).ownsRow w.heap.size 5 1 (.slice (some ⟨w.heap.size, 0, none⟩) 32 32) 32 (u8s (seedT x (t + 1)))) := Lib.hid (by
        have h := (HO.out.stored t (.int .u8 x)).1
        rw [seedT_succ x t hlt] at h
        exact h)
      have E2 : Hid (Ext w (wo.setCell ⟨w.heap.size, t, none⟩ (.int .u8 x))) := Lib.hid (sg_ext0 E1.out _)
      go_wp2_with fail
      exact ⟨⟨t + 1, by omega, by go_num, HO2.out, E2.out⟩, by simp [intOf]; omega⟩
    · obtain rfl : t = 32 := by omega
      have hcv := run_toStr (P := Tryd.prog) Tryd.underlying43 Tryd.underlying5 Tryd.underlying9 (Rd.of_own HO.out) 32 (fun h => by cases h)
      go_wp2_with fail
      go_ret
      exact ⟨by unfold seedT seedL; simp, E1.out⟩
end Go.Proofs.YtkjckmdiolgmcaaDoor
