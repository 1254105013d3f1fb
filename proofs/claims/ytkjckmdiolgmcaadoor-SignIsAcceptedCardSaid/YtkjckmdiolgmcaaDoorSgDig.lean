/- The digits of a digest: the walk of sign.Digits, and the plain list. Conditions: bytes of a digest. -/
import Derived.Test.YtkjckmdiolgmcaaDoorHashG
import Derived.Deep.DeepCutAuto
import Derived.Deep.CutBlock
set_option linter.unusedSimpArgs false
set_option linter.unusedVariables false
namespace Go.Proofs.YtkjckmdiolgmcaaDoor
open Go.RowKit
def dg (d : List Int) (i : Nat) : Int := (d.getD (i / 4) 0 / 4 ^ (3 - i % 4)) % 4
def dsum (d : List Int) : Nat → Int
  | 0 => 0
  | t + 1 => dsum d t + (3 - dg d t)
def dcell (d : List Int) (t j : Nat) : Int := if j < t then dg d j else 0
def dlist (d : List Int) (t : Nat) : List Int := (List.range 68).map (dcell d t)
def ccell (d : List Int) (u j : Nat) : Int := if j < 64 then dg d j else if 68 ≤ j + u then dsum d 64 / 4 ^ (67 - j) % 4 else 0
def clist (d : List Int) (u : Nat) : List Int := (List.range 68).map (ccell d u)
def digL (d : List Int) : List Int := clist d 4
def i64s (l : List Int) : List Value := l.map (Value.int .i64)
theorem dg_bd (d : List Int) (i : Nat) : 0 ≤ dg d i ∧ dg d i ≤ 3 := by unfold dg; omega
theorem dsum_bd (d : List Int) (t : Nat) : 0 ≤ dsum d t ∧ dsum d t ≤ 3 * t := by
  induction t with
  | zero => simp [dsum]
  | succ t ih => have := dg_bd d t; unfold dsum; omega
theorem i64s_map_get (f : Nat → Int) (n j : Nat) (h : j < n) : (i64s ((List.range n).map f))[j]? = some (.int .i64 (f j)) := by
  simp [i64s, List.getElem?_map, List.getElem?_range h]
theorem i64s_map_set (f g : Nat → Int) (n t : Nat) (x : Int) (hx : x = g t) (h : ∀ j, j < n → j ≠ t → f j = g j) : (i64s ((List.range n).map f)).set t (.int .i64 x) = i64s ((List.range n).map g) := by
  apply List.ext_getElem?
  intro j
  rw [List.getElem?_set]
  by_cases hj : j < n
  · by_cases e : t = j
    · subst e
      rw [if_pos rfl, if_pos (by simp [i64s]; exact hj), i64s_map_get g n t hj, hx]
    · rw [if_neg e, i64s_map_get f n j hj, i64s_map_get g n j hj, h j hj (Ne.symm e)]
  · have e1 : (i64s ((List.range n).map f))[j]? = none := List.getElem?_eq_none (by simp [i64s]; omega)
    have e2 : (i64s ((List.range n).map g))[j]? = none := List.getElem?_eq_none (by simp [i64s]; omega)
    rw [e1, e2]
    by_cases e : t = j
    · rw [if_pos e, if_neg (by simp [i64s]; omega)]
    · rw [if_neg e]
theorem dlist_zero (d : List Int) : i64s (dlist d 0) = List.replicate 68 (.int .i64 0) := by
  apply List.ext_getElem?
  intro j
  by_cases hj : j < 68
  · rw [dlist, i64s_map_get _ _ _ hj, List.getElem?_replicate, if_pos hj]; rfl
  · rw [List.getElem?_eq_none (by simp [i64s, dlist]; omega), List.getElem?_eq_none (by simp; omega)]
theorem dlist_succ (d : List Int) (t : Nat) (h : t < 64) : (i64s (dlist d t)).set t (.int .i64 (dg d t)) = i64s (dlist d (t + 1)) :=
  i64s_map_set _ _ _ _ _ (by simp [dcell]) (fun j _ hj => by
    unfold dcell
    by_cases h1 : j < t
    · rw [if_pos h1, if_pos (by omega)]
    · rw [if_neg h1, if_neg (by omega)])
theorem clist_zero (d : List Int) : dlist d 64 = clist d 0 := by
  unfold dlist clist
  apply List.map_congr_left
  intro j hj
  have hj := List.mem_range.1 hj
  unfold dcell ccell
  by_cases h : j < 64
  · rw [if_pos h, if_pos h]
  · rw [if_neg h, if_neg h, if_neg (by omega)]
theorem clist_succ (d : List Int) (u : Nat) (h : u < 4) : (i64s (clist d u)).set (67 - u) (.int .i64 (dsum d 64 / 4 ^ u % 4)) = i64s (clist d (u + 1)) :=
  i64s_map_set _ _ _ _ _ (by unfold ccell; rw [if_neg (by omega), if_pos (by omega), show 67 - (67 - u) = u by omega]) (fun j hj hne => by
    unfold ccell
    by_cases h1 : j < 64
    · rw [if_pos h1, if_pos h1]
    · rw [if_neg h1, if_neg h1]
      by_cases h2 : 68 ≤ j + u
      · rw [if_pos h2, if_pos (by omega)]
      · rw [if_neg h2, if_neg (by omega)])
set_option maxHeartbeats 4000000 in
set_option maxRecDepth 100000 in
theorem digits_any (d : List Int) (w : World) (hd : d.length = 16) (hb : Byt d) :
    Calls Tryd.prog 7 #[.agg (u8s d).toArray] w fun e w' => ∃ g, e = .returned (.slice (some ⟨g, 0, none⟩) 68 68) ∧ w.heap.size ≤ g ∧ Blk w' g 39 (i64s (digL d)) ∧ Below w.heap.size w w' := by
  have hz : ∀ W, (zeroValue 39).run Tryd.prog W = .ok (.agg (i64s (dlist d 0)).toArray) W := fun W => by
    rw [dlist_zero]
    kernel_rfl
  obtain ⟨Z, hZ⟩ : ∃ Z, Z = i64s (dlist d 0) := ⟨_, rfl⟩
  rw [← hZ] at hz
  go_enter Tryd.func7, Tryd.ntmps7
  go_wp2_with fail
  go_loopw [4, 7] (fun s i wr => ∃ t : Nat, t ≤ 64 ∧ s = .int .i64 (dsum d t) ∧ i = .int .i64 t ∧ Blk wr w.heap.size 23 (u8s d) ∧ Blk wr (w.heap.size + 1) 39 (i64s (dlist d t)) ∧ Below w.heap.size w wr) (fun _ i _ => 64 - (intOf i).toNat)
  case atStart =>
    refine ⟨0, by omega, rfl, rfl, ?_, ?_, ((Below.refl _ _).alloc (Nat.le_refl _) _).alloc (by simp) _⟩
    · exact (Blk.fresh' _ _ _ _ _ rfl rfl).alloc _
    · exact Blk.fresh' _ _ _ _ _ rfl (by simp)
  case round =>
    obtain ⟨t, ht, rfl, rfl, hD, hL, hB⟩ := hrel
    have HD := Lib.hid hD; have HL := Lib.hid hL; have HB := Lib.hid hB
    clear hD hL hB
    obtain ⟨wo, rfl⟩ : ∃ wo : World, wo = wr := ⟨_, rfl⟩
    obtain ⟨s0, hs0⟩ : ∃ x, x = dsum d t := ⟨_, rfl⟩
    have hsb := dsum_bd d t
    rw [← hs0] at hsb ⊢
    obtain ⟨sb0, sb1⟩ := hsb
    by_cases hlt : t < 64
    · obtain ⟨q, r, hqr, hr⟩ : ∃ q r : Nat, t = 4 * q + r ∧ r < 4 := ⟨t / 4, t % 4, by omega, by omega⟩
      obtain ⟨x, hx⟩ : ∃ x, x = d.getD q 0 := ⟨_, rfl⟩
      have hxb : 0 ≤ x ∧ x ≤ 255 := by rw [hx]; exact hb.at_ q
      have cx : wo.cell? ⟨w.heap.size, q, none⟩ = some (.int .u8 x) := by
        rw [HD.out.cell q, hx]
        simp [u8s, List.getElem?_map, List.getD_eq_getElem?_getD, List.getElem?_eq_getElem (show q < d.length by omega)]
      have cz : wo.cell? ⟨w.heap.size + 1, t, none⟩ = some (.int .i64 0) := by
        rw [HL.out.cell t, dlist, i64s_map_get _ _ _ (by omega)]
        simp [dcell]
      have fz := HL.out.frozen t
      have hq1 : (t : Int).tdiv 4 = q := by rw [Int.tdiv_eq_ediv_of_nonneg (by omega)]; omega
      have hqb : q < 16 := by omega
      have HQR := Lib.hid hqr; have HX := Lib.hid hx; have HS0 := Lib.hid hs0
      obtain ⟨x0, x1⟩ := hxb
      rcases (show r = 0 ∨ r = 1 ∨ r = 2 ∨ r = 3 by omega) with rfl | rfl | rfl | rfl
      · have hq2 : (t : Int).tmod 4 = 0 := by rw [Int.tmod_eq_emod_of_nonneg (by omega)]; omega
        have hdg : dg d t = x / 64 % 4 := by
          unfold dg
          rw [show t / 4 = q by omega, show t % 4 = 0 by omega, ← hx]
          simp
        clear hqr hx hs0
        go_upto_region 7 with fail
        obtain ⟨v, hv⟩ : ∃ v, v = x / 64 % 4 := ⟨_, rfl⟩
        rw [← hv] at hdg ⊢
        have hvb : 0 ≤ v ∧ v ≤ 3 := by omega
        obtain ⟨v0, v1⟩ := hvb
        have HDG := Lib.hid hdg
        have HL2 : Hid (Blk (wo.setCell ⟨w.heap.size + 1, t, none⟩ (.int .i64 v)) (w.heap.size + 1) 39 (i64s (dlist d (t + 1)))) := Lib.hid (by
          have h := HL.out.set t (.int .i64 v)
          rw [← HDG.out, dlist_succ d t hlt, HDG.out] at h
          exact h)
        have HD2 : Hid (Blk (wo.setCell ⟨w.heap.size + 1, t, none⟩ (.int .i64 v)) w.heap.size 23 (u8s d)) := Lib.hid (HD.out.far (by simp) _)
        have HB2 : Hid (Below w.heap.size w (wo.setCell ⟨w.heap.size + 1, t, none⟩ (.int .i64 v))) := Lib.hid (HB.out.setCell (by simp) _)
        have c1 : (wo.setCell ⟨w.heap.size + 1, t, none⟩ (.int .i64 v)).cell? ⟨w.heap.size + 1, t, none⟩ = some (.int .i64 v) := by
          rw [HL2.out.cell t, dlist, i64s_map_get _ _ _ (by omega)]
          unfold dcell
          rw [if_pos (by omega), HDG.out]
        have hsum : dsum d (t + 1) = s0 + (3 - v) := by rw [HS0.out, ← HDG.out]; rfl
        have HSUM := Lib.hid hsum
        clear hv hdg cx cz fz HL HD HB hsum hq1 hq2
        generalize wo.setCell ⟨w.heap.size + 1, t, none⟩ (.int .i64 v) = w2 at *
        go_wp2_with fail
        go_roundw
        case rel => exact ⟨t + 1, by omega, by rw [HSUM.out], by go_num, HD2.out, HL2.out, HB2.out⟩
        case measure => simp [intOf]; omega
      · have hq2 : (t : Int).tmod 4 = 1 := by rw [Int.tmod_eq_emod_of_nonneg (by omega)]; omega
        have hdg : dg d t = x / 16 % 4 := by
          unfold dg
          rw [show t / 4 = q by omega, show t % 4 = 1 by omega, ← hx]
          simp
        clear hqr hx hs0
        go_upto_region 7 with fail
        obtain ⟨v, hv⟩ : ∃ v, v = x / 16 % 4 := ⟨_, rfl⟩
        rw [← hv] at hdg ⊢
        have hvb : 0 ≤ v ∧ v ≤ 3 := by omega
        obtain ⟨v0, v1⟩ := hvb
        have HDG := Lib.hid hdg
        have HL2 : Hid (Blk (wo.setCell ⟨w.heap.size + 1, t, none⟩ (.int .i64 v)) (w.heap.size + 1) 39 (i64s (dlist d (t + 1)))) := Lib.hid (by
          have h := HL.out.set t (.int .i64 v)
          rw [← HDG.out, dlist_succ d t hlt, HDG.out] at h
          exact h)
        have HD2 : Hid (Blk (wo.setCell ⟨w.heap.size + 1, t, none⟩ (.int .i64 v)) w.heap.size 23 (u8s d)) := Lib.hid (HD.out.far (by simp) _)
        have HB2 : Hid (Below w.heap.size w (wo.setCell ⟨w.heap.size + 1, t, none⟩ (.int .i64 v))) := Lib.hid (HB.out.setCell (by simp) _)
        have c1 : (wo.setCell ⟨w.heap.size + 1, t, none⟩ (.int .i64 v)).cell? ⟨w.heap.size + 1, t, none⟩ = some (.int .i64 v) := by
          rw [HL2.out.cell t, dlist, i64s_map_get _ _ _ (by omega)]
          unfold dcell
          rw [if_pos (by omega), HDG.out]
        have hsum : dsum d (t + 1) = s0 + (3 - v) := by rw [HS0.out, ← HDG.out]; rfl
        have HSUM := Lib.hid hsum
        clear hv hdg cx cz fz HL HD HB hsum hq1 hq2
        generalize wo.setCell ⟨w.heap.size + 1, t, none⟩ (.int .i64 v) = w2 at *
        go_wp2_with fail
        go_roundw
        case rel => exact ⟨t + 1, by omega, by rw [HSUM.out], by go_num, HD2.out, HL2.out, HB2.out⟩
        case measure => simp [intOf]; omega
      · have hq2 : (t : Int).tmod 4 = 2 := by rw [Int.tmod_eq_emod_of_nonneg (by omega)]; omega
        have hdg : dg d t = x / 4 % 4 := by
          unfold dg
          rw [show t / 4 = q by omega, show t % 4 = 2 by omega, ← hx]
          simp
        clear hqr hx hs0
        go_upto_region 7 with fail
        obtain ⟨v, hv⟩ : ∃ v, v = x / 4 % 4 := ⟨_, rfl⟩
        rw [← hv] at hdg ⊢
        have hvb : 0 ≤ v ∧ v ≤ 3 := by omega
        obtain ⟨v0, v1⟩ := hvb
        have HDG := Lib.hid hdg
        have HL2 : Hid (Blk (wo.setCell ⟨w.heap.size + 1, t, none⟩ (.int .i64 v)) (w.heap.size + 1) 39 (i64s (dlist d (t + 1)))) := Lib.hid (by
          have h := HL.out.set t (.int .i64 v)
          rw [← HDG.out, dlist_succ d t hlt, HDG.out] at h
          exact h)
        have HD2 : Hid (Blk (wo.setCell ⟨w.heap.size + 1, t, none⟩ (.int .i64 v)) w.heap.size 23 (u8s d)) := Lib.hid (HD.out.far (by simp) _)
        have HB2 : Hid (Below w.heap.size w (wo.setCell ⟨w.heap.size + 1, t, none⟩ (.int .i64 v))) := Lib.hid (HB.out.setCell (by simp) _)
        have c1 : (wo.setCell ⟨w.heap.size + 1, t, none⟩ (.int .i64 v)).cell? ⟨w.heap.size + 1, t, none⟩ = some (.int .i64 v) := by
          rw [HL2.out.cell t, dlist, i64s_map_get _ _ _ (by omega)]
          unfold dcell
          rw [if_pos (by omega), HDG.out]
        have hsum : dsum d (t + 1) = s0 + (3 - v) := by rw [HS0.out, ← HDG.out]; rfl
        have HSUM := Lib.hid hsum
        clear hv hdg cx cz fz HL HD HB hsum hq1 hq2
        generalize wo.setCell ⟨w.heap.size + 1, t, none⟩ (.int .i64 v) = w2 at *
        go_wp2_with fail
        go_roundw
        case rel => exact ⟨t + 1, by omega, by rw [HSUM.out], by go_num, HD2.out, HL2.out, HB2.out⟩
        case measure => simp [intOf]; omega
      · have hq2 : (t : Int).tmod 4 = 3 := by rw [Int.tmod_eq_emod_of_nonneg (by omega)]; omega
        have hdg : dg d t = x % 4 := by
          unfold dg
          rw [show t / 4 = q by omega, show t % 4 = 3 by omega, ← hx]
          simp
        clear hqr hx hs0
        go_upto_region 7 with fail
        obtain ⟨v, hv⟩ : ∃ v, v = x % 4 := ⟨_, rfl⟩
        rw [← hv] at hdg ⊢
        have hvb : 0 ≤ v ∧ v ≤ 3 := by omega
        obtain ⟨v0, v1⟩ := hvb
        have HDG := Lib.hid hdg
        have HL2 : Hid (Blk (wo.setCell ⟨w.heap.size + 1, t, none⟩ (.int .i64 v)) (w.heap.size + 1) 39 (i64s (dlist d (t + 1)))) := Lib.hid (by
          have h := HL.out.set t (.int .i64 v)
          rw [← HDG.out, dlist_succ d t hlt, HDG.out] at h
          exact h)
        have HD2 : Hid (Blk (wo.setCell ⟨w.heap.size + 1, t, none⟩ (.int .i64 v)) w.heap.size 23 (u8s d)) := Lib.hid (HD.out.far (by simp) _)
        have HB2 : Hid (Below w.heap.size w (wo.setCell ⟨w.heap.size + 1, t, none⟩ (.int .i64 v))) := Lib.hid (HB.out.setCell (by simp) _)
        have c1 : (wo.setCell ⟨w.heap.size + 1, t, none⟩ (.int .i64 v)).cell? ⟨w.heap.size + 1, t, none⟩ = some (.int .i64 v) := by
          rw [HL2.out.cell t, dlist, i64s_map_get _ _ _ (by omega)]
          unfold dcell
          rw [if_pos (by omega), HDG.out]
        have hsum : dsum d (t + 1) = s0 + (3 - v) := by rw [HS0.out, ← HDG.out]; rfl
        have HSUM := Lib.hid hsum
        clear hv hdg cx cz fz HL HD HB hsum hq1 hq2
        generalize wo.setCell ⟨w.heap.size + 1, t, none⟩ (.int .i64 v) = w2 at *
        go_wp2_with fail
        go_roundw
        case rel => exact ⟨t + 1, by omega, by rw [HSUM.out], by go_num, HD2.out, HL2.out, HB2.out⟩
        case measure => simp [intOf]; omega
    · obtain rfl : t = 64 := by omega
      have HL0 : Hid (Blk wo (w.heap.size + 1) 39 (i64s (clist d 0))) := Lib.hid (by rw [← clist_zero]; exact HL.out)
      have HS0 := Lib.hid hs0
      have hsb2 : s0 ≤ 192 := by omega
      clear HL HD hs0 sb1
      go_wp2_with fail
      go_loopw [4, 6] (fun s i wr => ∃ u : Nat, u ≤ 4 ∧ s = .int .i64 (s0 / 4 ^ u) ∧ i = .int .i64 (67 - (u : Int)) ∧ Blk wr (w.heap.size + 1) 39 (i64s (clist d u)) ∧ Below w.heap.size w wr) (fun _ i _ => (intOf i).toNat)
      case atStart => exact ⟨0, by omega, by simp, by simp, HL0.out, HB.out⟩
      case round =>
        clear HL0 HB
        obtain ⟨u, hu, rfl, rfl, hL, hB⟩ := hrel
        have HL := Lib.hid hL; have HB := Lib.hid hB
        clear hL hB
        obtain ⟨wi, rfl⟩ : ∃ wi : World, wi = wr := ⟨_, rfl⟩
        obtain ⟨s1, hs1⟩ : ∃ x, x = s0 / 4 ^ u := ⟨_, rfl⟩
        have hs2 : 0 ≤ s1 ∧ s1 ≤ s0 := by rw [hs1]; exact ⟨Int.ediv_nonneg sb0 (by exact_mod_cast Nat.zero_le _), Int.ediv_le_self _ sb0⟩
        have hs3 : s0 / 4 ^ (u + 1) = s1 / 4 := by rw [hs1, Int.ediv_ediv_of_nonneg (by exact_mod_cast Nat.zero_le _)]; rfl
        rw [← hs1]
        have HS1 := Lib.hid hs1; have HS3 := Lib.hid hs3
        obtain ⟨a0, a1⟩ := hs2
        clear hs1 hs3
        rcases (show u = 0 ∨ u = 1 ∨ u = 2 ∨ u = 3 ∨ u = 4 by omega) with rfl | rfl | rfl | rfl | rfl
        · have cz : ∃ y, wi.cell? ⟨w.heap.size + 1, 67, none⟩ = some (.int .i64 y) := ⟨_, by rw [HL.out.cell 67, clist, i64s_map_get _ _ _ (by omega)]⟩
          obtain ⟨y, cz⟩ := cz
          have fz := HL.out.frozen 67
          have hset : (i64s (clist d 0)).set 67 (.int .i64 (s1 % 4)) = i64s (clist d (0 + 1)) := by
            rw [show s1 % 4 = dsum d 64 / 4 ^ 0 % 4 by rw [HS1.out, HS0.out]]
            exact clist_succ d 0 (by decide)
          have HL2 : Hid (Blk (wi.setCell ⟨w.heap.size + 1, 67, none⟩ (.int .i64 (s1 % 4))) (w.heap.size + 1) 39 (i64s (clist d (0 + 1)))) := Lib.hid (by rw [← hset]; exact HL.out.set 67 (.int .i64 (s1 % 4)))
          have HB2 : Hid (Below w.heap.size w (wi.setCell ⟨w.heap.size + 1, 67, none⟩ (.int .i64 (s1 % 4)))) := Lib.hid (HB.out.setCell (by simp) _)
          clear hset
          go_wp2_with fail
          go_roundw
          case rel => exact ⟨0 + 1, by omega, by rw [HS3.out], by go_num, HL2.out, HB2.out⟩
          case measure => simp [intOf]
        · have cz : ∃ y, wi.cell? ⟨w.heap.size + 1, 66, none⟩ = some (.int .i64 y) := ⟨_, by rw [HL.out.cell 66, clist, i64s_map_get _ _ _ (by omega)]⟩
          obtain ⟨y, cz⟩ := cz
          have fz := HL.out.frozen 66
          have hset : (i64s (clist d 1)).set 66 (.int .i64 (s1 % 4)) = i64s (clist d (1 + 1)) := by
            rw [show s1 % 4 = dsum d 64 / 4 ^ 1 % 4 by rw [HS1.out, HS0.out]]
            exact clist_succ d 1 (by decide)
          have HL2 : Hid (Blk (wi.setCell ⟨w.heap.size + 1, 66, none⟩ (.int .i64 (s1 % 4))) (w.heap.size + 1) 39 (i64s (clist d (1 + 1)))) := Lib.hid (by rw [← hset]; exact HL.out.set 66 (.int .i64 (s1 % 4)))
          have HB2 : Hid (Below w.heap.size w (wi.setCell ⟨w.heap.size + 1, 66, none⟩ (.int .i64 (s1 % 4)))) := Lib.hid (HB.out.setCell (by simp) _)
          clear hset
          go_wp2_with fail
          go_roundw
          case rel => exact ⟨1 + 1, by omega, by rw [HS3.out], by go_num, HL2.out, HB2.out⟩
          case measure => simp [intOf]
        · have cz : ∃ y, wi.cell? ⟨w.heap.size + 1, 65, none⟩ = some (.int .i64 y) := ⟨_, by rw [HL.out.cell 65, clist, i64s_map_get _ _ _ (by omega)]⟩
          obtain ⟨y, cz⟩ := cz
          have fz := HL.out.frozen 65
          have hset : (i64s (clist d 2)).set 65 (.int .i64 (s1 % 4)) = i64s (clist d (2 + 1)) := by
            rw [show s1 % 4 = dsum d 64 / 4 ^ 2 % 4 by rw [HS1.out, HS0.out]]
            exact clist_succ d 2 (by decide)
          have HL2 : Hid (Blk (wi.setCell ⟨w.heap.size + 1, 65, none⟩ (.int .i64 (s1 % 4))) (w.heap.size + 1) 39 (i64s (clist d (2 + 1)))) := Lib.hid (by rw [← hset]; exact HL.out.set 65 (.int .i64 (s1 % 4)))
          have HB2 : Hid (Below w.heap.size w (wi.setCell ⟨w.heap.size + 1, 65, none⟩ (.int .i64 (s1 % 4)))) := Lib.hid (HB.out.setCell (by simp) _)
          clear hset
          go_wp2_with fail
          go_roundw
          case rel => exact ⟨2 + 1, by omega, by rw [HS3.out], by go_num, HL2.out, HB2.out⟩
          case measure => simp [intOf]
        · have cz : ∃ y, wi.cell? ⟨w.heap.size + 1, 64, none⟩ = some (.int .i64 y) := ⟨_, by rw [HL.out.cell 64, clist, i64s_map_get _ _ _ (by omega)]⟩
          obtain ⟨y, cz⟩ := cz
          have fz := HL.out.frozen 64
          have hset : (i64s (clist d 3)).set 64 (.int .i64 (s1 % 4)) = i64s (clist d (3 + 1)) := by
            rw [show s1 % 4 = dsum d 64 / 4 ^ 3 % 4 by rw [HS1.out, HS0.out]]
            exact clist_succ d 3 (by decide)
          have HL2 : Hid (Blk (wi.setCell ⟨w.heap.size + 1, 64, none⟩ (.int .i64 (s1 % 4))) (w.heap.size + 1) 39 (i64s (clist d (3 + 1)))) := Lib.hid (by rw [← hset]; exact HL.out.set 64 (.int .i64 (s1 % 4)))
          have HB2 : Hid (Below w.heap.size w (wi.setCell ⟨w.heap.size + 1, 64, none⟩ (.int .i64 (s1 % 4)))) := Lib.hid (HB.out.setCell (by simp) _)
          clear hset
          go_wp2_with fail
          go_roundw
          case rel => exact ⟨3 + 1, by omega, by rw [HS3.out], by go_num, HL2.out, HB2.out⟩
          case measure => simp [intOf]
        · go_wp2_with fail
          go_ret
          exact ⟨_, rfl, Nat.le_succ _, HL.out, HB.out⟩
end Go.Proofs.YtkjckmdiolgmcaaDoor
