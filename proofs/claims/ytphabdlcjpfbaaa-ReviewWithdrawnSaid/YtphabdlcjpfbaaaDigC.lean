/- The walks of the reference's GetDigests and SameDigests. No condition beyond a bound on the length. -/
import Derived.Test.YtphabdlcjpfbaaaDigB
import Derived.Test.YtphabdlcjpfbaaaEqA
import Derived.Deep.RegionHeld3
set_option linter.unusedSimpArgs false
set_option linter.unusedVariables false
namespace Go.Proofs.Ytphabdlcjpfbaaa
open Go.RowKit
def updD (l : List Int) (t : Nat) : List Int := l.take t ++ List.replicate (16 - t) 0
theorem updD_set (l : List Int) (t : Nat) (h : t < 16) (hl : l.length = 16) : (u8s (updD l t)).set t (.int .u8 (l.getD t 0)) = u8s (updD l (t + 1)) := by
  unfold updD u8s
  rw [List.map_append, List.set_append_right _ _ (by simp; omega)]
  rw [take_snoc' l t (by omega), List.map_append, List.map_append, List.append_assoc]
  congr 1
  have e : 16 - t = (16 - (t + 1)) + 1 := by omega
  rw [e, List.replicate_succ, List.map_cons]
  simp [Nat.min_eq_left (show t ≤ l.length by omega)]
theorem updD_len (l : List Int) (t : Nat) (h : t ≤ 16) (hl : l.length = 16) : (updD l t).length = 16 := by unfold updD; simp; omega
theorem updD_full (l : List Int) (hl : l.length = 16) : updD l 16 = l := by unfold updD; rw [List.take_of_length_le (by omega)]; simp
theorem grown_setj (w : World) (g j : Nat) (u : Value) : w.grownBy (w.setCell ⟨g, j, none⟩ u) (some g) :=
  ⟨rfl, rfl, rfl, by simp [World.setCell], fun k _ hk => Below.heap_setCell _ _ _ _ (fun h => hk (by rw [h]))⟩
set_option maxHeartbeats 2000000 in
set_option maxRecDepth 100000 in
theorem rgdigests_any (l : List Int) (A0 : Option Addr) (n c : Nat) (w : World) (hl : Rd w w.heap.size A0 n (u8s l)) (hby : Byt l) (hnc : n ≤ c) (hc : c ≤ 9223372036854775807) (hn : n ≤ 1000000000000) :
    Calls Try.prog 67 #[.slice A0 n c] w fun e w' => (∃ A' c', e = .returned (.tuple #[.slice A' (decD l).1.length c', .int .i64 (decD l).2.1, .int .i64 (decD l).2.2]) ∧
      w'.ownsRow w.heap.size 25 16 (.slice A' (decD l).1.length c') (decD l).1.length (celD (decD l).1)) ∧ Below w.heap.size w w' := by
  obtain ⟨i0, hi, hz0, hz1, hz2⟩ := info_parts winfo_digz
  have hlen : l.length = n := by simpa [u8s] using hl.1
  have HL := Lib.hid hl
  rcases cntI_cases l hby 16 (by decide) with ⟨er, hg, he⟩ | ⟨m, k, hg, h1, h9, hk, hm, henc⟩
  · have HC := Lib.hid hg
    have hne2 : er ≠ 0 := by rcases he with rfl | rfl <;> decide
    have HD : Hid (decD l = ([], 0, er)) := Lib.hid (by unfold decD; rw [hg, if_pos hne2])
    have hne : ((er : Int) == 0) = false := by rcases he with rfl | rfl <;> rfl
    clear hg hl hlen he
    go_enter Try.func67, Try.ntmps67
    go_wp2_with (go_at_call 78; (with_reducible refine (rcount16_any l _ n _ w HL.out hby hnc hc hn).mono ?_); rintro e w0 ⟨rfl, hB⟩; rw [HC.out]; unfold tup3; have HB0 : Hid (Ext w w0) := Lib.hid hB; clear hB)
    go_ret3
    exact ⟨⟨none, 0, by rw [HD.out]; rfl, by rw [HD.out]; exact World.ownsRow_nil _ _ _ _⟩, HB0.out⟩
  · have HC := Lib.hid hg
    obtain ⟨b, o, rfl, hb, hcc⟩ := rd_u8 hl (by omega)
    have HCC := Lib.hid hcc
    have HLEN := Lib.hid hlen
    have hk1 : k + m * 16 ≤ n := by omega
    have HD : Hid (decD l = (cutD (l.drop k) m, (k : Int) + 16 * m, 0)) := Lib.hid (by unfold decD; rw [hg]; simp)
    have HCL := Lib.hid (cutD_length (l.drop k))
    have HCS := Lib.hid (cutD_succ (l.drop k))
    obtain ⟨Z, hZ⟩ : ∃ Z, Z = u8s (List.replicate 16 0) := ⟨_, rfl⟩
    have hzr : ∀ W, (zeroValue 25).run Try.prog W = .ok (.agg Z.toArray) W := by rw [hZ]; exact zero16w_run
    have HZ := Lib.hid hZ
    clear hg hl hlen henc hk hcc hZ
    go_enter Try.func67, Try.ntmps67
    go_wp2_with (go_at_call 78; (with_reducible refine (rcount16_any l _ n _ w HL.out hby hnc hc hn).mono ?_); rintro e w0 ⟨rfl, hB⟩; rw [HC.out]; unfold tup3; have HB0 : Hid (Ext w w0) := Lib.hid hB; clear hB)
    go_loopw [9, 6, 8] (fun i s6 s8 wr => ∃ (t p : Nat) (A : Option Addr) (c' : Nat), t ≤ m ∧ Hid (p = k + 16 * t) ∧ i = .int .i64 t ∧ s6 = .int .i64 p ∧ s8 = .slice A t c' ∧ wr.ownsRow w.heap.size 25 16 (.slice A t c') t (celD (cutD (l.drop k) t)) ∧ Below w.heap.size w wr)
      (fun i _ _ _ => m - (intOf i).toNat)
    case atStart => exact ⟨0, k, none, 0, Nat.zero_le _, Lib.hid (by omega), rfl, rfl, rfl, World.ownsRow_nil _ _ _ _, HB0.out⟩
    case round =>
      obtain ⟨t, p, A, c', ht, HP, rfl, rfl, rfl, hown, hB⟩ := hrel
      have hs := hB.size
      obtain ⟨wo, rfl⟩ : ∃ x : World, x = wr := ⟨_, rfl⟩
      by_cases hlt : t < m
      · have hp16 : p + 16 ≤ n := by have := HP.out; omega
        obtain ⟨d, hdd⟩ : ∃ d, d = ((l.drop k).drop (16 * t)).take 16 := ⟨_, rfl⟩
        have hd16 : d.length = 16 := by rw [hdd, List.length_take, List.length_drop, List.length_drop, HLEN.out]; omega
        have HDL := Lib.hid hd16
        have HUL : Hid ((u8s d).length = 16) := Lib.hid (by rw [u8s_length, hd16])
        have HDC : Hid (∀ j, j < 16 → w.cell? ⟨b, o + (p + j), none⟩ = some (.int .u8 (d.getD j 0))) := Lib.hid (fun j hj => by
          rw [HCC.out (p + j) (by omega), hdd, List.drop_drop]
          congr 2
          rw [List.getD_eq_getElem?_getD, List.getD_eq_getElem?_getD, List.getElem?_take, if_pos hj, List.getElem?_drop, HP.out])
        have HCT : Hid (celD (cutD (l.drop k) (t + 1)) = celD (cutD (l.drop k) t) ++ u8s d) := Lib.hid (by rw [HCS.out, celD_snoc, hdd])
        have HNE : Hid ((Value.slice A t c').ownBlock = none ∨ (Value.slice A t c').ownBlock ≠ some wo.heap.size) := Lib.hid (Or.inr (fun h => by have := (hown.lt _ h).2; omega))
        have HUS := Lib.hid (fun j hj => updD_set d j hj hd16)
        have HUN := Lib.hid (fun j hj => updD_len d j hj hd16)
        have HUF := Lib.hid (updD_full d hd16)
        have HU0 : Hid (updD d 0 = List.replicate 16 0) := Lib.hid (by unfold updD; simp)
        clear hdd hd16
        go_wp2_with fail
        go_loopw [11] (fun i wr => ∃ j : Nat, j ≤ 16 ∧ i = .int .i64 j ∧ Hid (Blk wr wo.heap.size 25 (u8s (updD d j))) ∧ wr.ownsRow w.heap.size 25 16 (.slice A t c') t (celD (cutD (l.drop k) t)) ∧ Below w.heap.size w wr)
          (fun i _ => 16 - (intOf i).toNat)
        case atStart => exact ⟨0, Nat.zero_le _, rfl, Lib.hid (by rw [HU0.out]; exact Blk.fresh' _ _ _ _ _ (by rw [HZ.out]) rfl), hown.alloc _, Below.alloc hB hs _⟩
        case round =>
          clear hown hB
          obtain ⟨j, hj, rfl, HBD, hown, hB⟩ := hrel
          have hbl := HBD.out.lt
          by_cases hlj : j < 16
          · have c0 := (hB.cell (p := ⟨b, o + (p + j), none⟩) hb).trans (HDC.out j hlj)
            have f0 := HBD.out.frozen j
            have c1 := HBD.out.cell j
            rw [u8s_get _ j (by rw [HUN.out j hj]; exact hlj)] at c1
            have HUS2 := Lib.hid (HUS.out j hlj)
            generalize d.getD j 0 = x at *
            generalize (updD d j).getD j 0 = y at *
            go_wp2_with fail
            go_roundw
            case rel => exact ⟨j + 1, by omega, by go_num, Lib.hid (by rw [← HUS2.out]; exact HBD.out.set j _), hown.kept (grown_setj _ _ _ _) HNE.out, Below.setCell hB hs _⟩
            case measure => simp [intOf]; omega
          · obtain rfl : j = 16 := by omega
            rw [HUF.out] at HBD
            have hl16 := HUL.out
            have hs3 := hB.size
            go_wp2_with (first
              | (refine wpList_load_blk rfl 25 (.tmp 10) rfl wo.heap.size (by rfl) HBD.out Try.underlying25 rfl (winfo_dig.trans (congrArg some HUL.out.symm)) ?_)
              | (at_builtin; refine wpList_app rfl (.tmp 38) (.tmp 40) 66 rfl w.heap.size 25 i0 (.agg (u8s (List.replicate 16 0)).toArray) 16 16 Try.underlying66 hi hz0 hz1 hz2 rfl (by omega) A t c' _ rfl (hown.alloc _) (wr.heap.size + 1) _ 1 1 (u8s d) rfl (RdN.fresh (u8s d) _ _ 16 1 (by rw [fold_set]; first | exact HUL.out | (rw [HUL.out, HZ.out]; rfl)) rfl HUL.out) (u8s_one d) (by simp only [maxLen]; omega) (by omega) (by simp; omega) ?_; intro A4 c4 w4 hown4 hg4; have hb4 := below_app (Below.alloc hB hs3 _) hg4 (hown.alloc _) (Nat.le_refl _) (by simp; omega)))
            go_roundw
            case rel => exact ⟨t + 1, p + 16, A4, c4, by omega, Lib.hid (by have := HP.out; omega), by go_num, by go_num, rfl, by rw [HCT.out]; exact hown4, hb4⟩
            case measure => simp [intOf]; omega
      · obtain rfl : t = m := by omega
        go_wp2_with fail
        go_ret3
        exact ⟨⟨A, c', by rw [HD.out, HCL.out, HP.out]; simp, by rw [HD.out, HCL.out]; exact hown⟩, hB⟩
end Go.Proofs.Ytphabdlcjpfbaaa
