/- The walks of the reference's Digests and of GetDigests, of the code and of the reference. No condition beyond a bound on the length. -/
import Derived.Test.YtjeecfjeooehhaaGreatDoorDigA
import Derived.Test.YtjeecfjeooehhaaGreatDoorGC
set_option linter.unusedSimpArgs false
set_option linter.unusedVariables false
namespace Go.Proofs.YtjeecfjeooehhaaGreatDoor
open Go.RowKit
theorem take_snoc' (d : List Int) (j : Nat) (h : j < d.length) : d.take (j + 1) = d.take j ++ [d.getD j 0] := by
  have : d[j]? = some (d.getD j 0) := by simp [List.getD_eq_getElem?_getD, List.getElem?_eq_getElem h]
  rw [List.take_add_one, this]; rfl
set_option maxHeartbeats 2000000 in
set_option maxRecDepth 100000 in
theorem rdigests_any (ds : List (List Int)) (A : Option Addr) (n c : Nat) (w : World) (hl : RdN w w.heap.size 16 A n (celD ds)) (hd : Dig16 ds) (hlen : ds.length = n) (hn : n ≤ 1000000000) :
    Calls Tryz.prog 75 #[.slice A n c] w fun e w' => (∃ A' c', e = .returned (.slice A' (encL idD ds).length c') ∧ w'.ownsRow w.heap.size 5 1 (.slice A' (encL idD ds).length c') (encL idD ds).length (u8s (encL idD ds))) ∧ Below w.heap.size w w' := by
  obtain ⟨i0, hi, hz0, hz1, hz2⟩ := info_parts winfo_u8
  have hn0 : (-9223372036854775808 : Int) ≤ (n : Int) := by omega
  have hn1 : (n : Int) ≤ 9223372036854775807 := by omega
  have h9 := encInt_le9 (n : Int) hn0 hn1
  have HCAT : Hid (∀ t, (encTo idD ds t).length ≤ 90000000000) := Lib.hid (fun t => Nat.le_trans (encTo_le _ ds t) (by unfold encL; rw [List.length_append, encD_le ds hd, hlen]; omega))
  have HL := Lib.hid hl
  have HN := Lib.hid hlen
  have HD := Lib.hid hd
  have HT0 : Hid (encTo idD ds 0 = encInt n) := Lib.hid (by unfold encTo; rw [hlen]; simp)
  have HTN : Hid (encTo idD ds n = encL idD ds) := Lib.hid (by rw [← hlen]; exact encTo_full _ ds)
  clear hl hlen hd h9
  go_enter Tryz.func75, Tryz.ntmps75
  go_wp2_with (go_at_call 52; (with_reducible refine (rintL_any (n : Int) w hn0 hn1).mono ?_); rintro e w1 ⟨⟨A1, c1, rfl, hown1⟩, hB1⟩)
  go_loopw [4, 3] (fun i s5 wr => ∃ (t : Nat) (A : Option Addr) (c m : Nat), t ≤ n ∧ i = .int .i64 t ∧ s5 = .slice A m c ∧ m = (encTo idD ds t).length ∧ wr.ownsRow w.heap.size 5 1 (.slice A m c) m (u8s (encTo idD ds t)) ∧ Below w.heap.size w wr)
    (fun i _ _ => n - (intOf i).toNat)
  case atStart => exact ⟨0, _, _, _, Nat.zero_le _, rfl, rfl, by rw [HT0.out], by rw [HT0.out]; exact hown1, hB1⟩
  case round =>
    clear hown1 hB1
    obtain ⟨t, A2, c2, m, ht, rfl, rfl, hm, hown, hB⟩ := hrel
    have hs := hB.size
    obtain ⟨wo, rfl⟩ : ∃ x : World, x = wr := ⟨_, rfl⟩
    by_cases hlt : t < n
    · obtain ⟨-, b, o, rfl, hb, hc⟩ := rd_dig HL.out HD.out (by omega)
      have hx := HD.out.at_ (by rw [HN.out]; exact hlt : t < ds.length)
      have hT := encTo_succ idD ds t [] (by rw [HN.out]; exact hlt)
      have HCC : Hid (∀ j, j < 16 → w.cell? ⟨b, o + t * 16 + j, none⟩ = some (.int .u8 ((ds.getD t []).getD j 0))) := Lib.hid (fun j hj => hc t j hlt hj)
      obtain ⟨d, hdd⟩ : ∃ d, d = ds.getD t [] := ⟨_, rfl⟩
      rw [← hdd] at hx HCC hT
      have HX : Hid (d.length = 16) := Lib.hid hx.1
      have hm2 : m ≤ 90000000000 := by rw [hm]; exact HCAT.out t
      have HT : Hid (encTo idD ds (t + 1) = encTo idD ds t ++ d) := Lib.hid hT
      have HM := Lib.hid hm
      clear hc hT hm hx hdd
      go_wp2_with fail
      go_loopw [5, 3] (fun i s3 wr => ∃ (j : Nat) (A : Option Addr) (c : Nat), j ≤ 16 ∧ i = .int .i64 j ∧ s3 = .slice A (m + j) c ∧ wr.ownsRow w.heap.size 5 1 (.slice A (m + j) c) (m + j) (u8s (encTo idD ds t ++ d.take j)) ∧ Below w.heap.size w wr)
        (fun i _ _ => 16 - (intOf i).toNat)
      case atStart => exact ⟨0, _, _, Nat.zero_le _, rfl, rfl, by rw [List.take_zero, List.append_nil]; exact hown, hB⟩
      case round =>
        clear hown hB
        obtain ⟨j, A3, c3, hj, rfl, rfl, hown, hB⟩ := hrel
        have hs3 := hB.size
        by_cases hlj : j < 16
        · have c0 := (hB.cell (p := ⟨b, o + t * 16 + j, none⟩) hb).trans (HCC.out j hlj)
          have HTK := Lib.hid (take_snoc' d j (by rw [HX.out]; exact hlj))
          generalize d.getD j 0 = x at *
          go_wp2_with (at_builtin; refine wpList_app rfl (.tmp 19) (.tmp 26) 23 rfl w.heap.size 5 i0 (.int .u8 0) 1 1 Tryz.underlying23 hi hz0 hz1 hz2 rfl (by omega) A3 (m + j) c3 _ rfl (hown.alloc _) (wr.heap.size + 1) _ 1 1 [.int .u8 x] rfl (RdN.fresh [.int .u8 x] _ _ 1 1 rfl rfl rfl) (by intro u hu; rw [List.mem_singleton] at hu; subst hu; rfl) (by simp only [maxLen]; omega) (by omega) (by simp; omega) ?_; intro A4 c4 w4 hown4 hg4; have hb4 := below_app (Below.alloc hB hs3 _) hg4 (hown.alloc _) (Nat.le_refl _) (by simp; omega))
          go_roundw
          case rel => exact ⟨j + 1, A4, c4, by omega, by go_num, rfl, by rw [HTK.out, ← List.append_assoc, u8s_append]; exact hown4, hb4⟩
          case measure => simp [intOf]; omega
        · obtain rfl : j = 16 := by omega
          have HTK : Hid (d.take 16 = d) := Lib.hid (List.take_of_length_le (by rw [HX.out]; omega))
          rw [HTK.out, ← HT.out] at hown
          go_wp2_with fail
          go_roundw
          case rel => exact ⟨t + 1, A3, c3, _, by omega, by go_num, rfl, by rw [HT.out, List.length_append, HM.out, HX.out], hown, hB⟩
          case measure => simp [intOf]; omega
    · obtain rfl : t = n := by omega
      have HM := Lib.hid hm
      clear hm
      go_wp2_with fail
      go_ret
      rw [HM.out, HTN.out] at hown
      exact ⟨⟨A2, c2, by rw [HM.out, HTN.out]; rfl, hown⟩, hB⟩
theorem fold_set_from : ∀ (V : List Value) (k : Nat) (Z : Array Value), k + V.length ≤ Z.size → (List.foldl (fun cs x => cs.setIfInBounds x.2 x.1) Z (V.zipIdx k)).toList = Z.toList.take k ++ V ++ Z.toList.drop (k + V.length)
  | [], k, Z, _ => by simp
  | v :: r, k, Z, h => by
    simp only [List.length_cons] at h
    rw [List.zipIdx_cons, List.foldl_cons, fold_set_from r (k + 1) _ (by simp; omega)]
    simp only [Array.toList_setIfInBounds]
    rw [List.drop_set_of_lt (by omega), List.take_add_one, List.take_set_of_le (by omega)]
    simp [List.getElem?_set_self (show k < Z.toList.length by simp; omega), Nat.add_comm, Nat.add_left_comm]
theorem fold_set (V : List Value) (Z : Array Value) (h : V.length = Z.size) : List.foldl (fun cs x => cs.setIfInBounds x.2 x.1) Z V.zipIdx = V.toArray := by
  have h2 := fold_set_from V 0 Z (by omega)
  rw [List.take_zero, List.nil_append, Nat.zero_add, List.drop_of_length_le (by simp; omega), List.append_nil] at h2
  rw [← Array.toList_inj, h2]
theorem cutD_succ (l : List Int) (t : Nat) : cutD l (t + 1) = cutD l t ++ [(l.drop (16 * t)).take 16] := by simp [cutD, List.range_succ]
theorem cutD_length (l : List Int) (t : Nat) : (cutD l t).length = t := by simp [cutD]
theorem winfo_digz : (Tryz.prog.info? 26).map (fun i => (i.zero, i.size, i.bytes)) = some (some (.agg (u8s (List.replicate 16 0)).toArray), 16, 16) := by kernel_rfl
set_option maxHeartbeats 2000000 in
set_option maxRecDepth 100000 in
theorem gdigests_any (l : List Int) (A0 : Option Addr) (n c : Nat) (w : World) (hl : Rd w w.heap.size A0 n (u8s l)) (hby : Byt l) (hnc : n ≤ c) (hc : c ≤ 9223372036854775807) (hn : n ≤ 1000000000000) :
    Calls Tryz.prog 70 #[.slice A0 n c] w fun e w' => (∃ A' c', e = .returned (.tuple #[.slice A' (decD l).1.length c', .int .i64 (decD l).2.1, .int .i64 (decD l).2.2]) ∧
      w'.ownsRow w.heap.size 26 16 (.slice A' (decD l).1.length c') (decD l).1.length (celD (decD l).1)) ∧ Below w.heap.size w w' := by
  obtain ⟨i0, hi, hz0, hz1, hz2⟩ := info_parts winfo_digz
  have hlen : l.length = n := by simpa [u8s] using hl.1
  have HL := Lib.hid hl
  rcases cntI_cases l hby 16 (by decide) with ⟨er, hg, he⟩ | ⟨m, k, hg, h1, h9, hk, hm, henc⟩
  · have HC := Lib.hid hg
    have hne2 : er ≠ 0 := by rcases he with rfl | rfl <;> decide
    have HD : Hid (decD l = ([], 0, er)) := Lib.hid (by unfold decD; rw [hg, if_pos hne2])
    have hne : ((er : Int) == 0) = false := by rcases he with rfl | rfl <;> rfl
    clear hg hl hlen he
    go_enter Tryz.func70, Tryz.ntmps70
    go_wp2_with (go_at_call 116; (with_reducible refine (count16_any l _ n _ w HL.out hby hnc hc).mono ?_); rintro e w0 ⟨⟨a, b0, rfl, hab⟩, rfl⟩; rw [HC.out] at hab; rw [HC.out]; clear hab)
    go_ret3
    exact ⟨⟨none, 0, by rw [HD.out]; rfl, by rw [HD.out]; exact World.ownsRow_nil _ _ _ _⟩, Ext.refl w⟩
  · have HC := Lib.hid hg
    obtain ⟨b, o, rfl, hb, hcc⟩ := rd_u8 hl (by omega)
    have HCC := Lib.hid hcc
    have HLEN := Lib.hid hlen
    have hk1 : k + m * 16 ≤ n := by omega
    have HD : Hid (decD l = (cutD (l.drop k) m, (k : Int) + 16 * m, 0)) := Lib.hid (by unfold decD; rw [hg]; simp)
    have HCL := Lib.hid (cutD_length (l.drop k))
    have HCS := Lib.hid (cutD_succ (l.drop k))
    have ha := fun (W : World) (a : Option Addr) (cap : Nat) => run_arrayAt (P := Tryz.prog) W 26 5 16 a 16 cap Tryz.underlying26 (Nat.le_refl _)
    clear hg hl hlen henc hk hcc
    go_enter Tryz.func70, Tryz.ntmps70
    go_wp2_with (go_at_call 116; (with_reducible refine (count16_any l _ n _ w HL.out hby hnc hc).mono ?_); rintro e w0 ⟨⟨a, b0, rfl, hab⟩, rfl⟩; rw [HC.out] at hab; rw [HC.out]; obtain ⟨rfl, rfl⟩ := hab rfl)
    go_loopw [19, 6, 8] (fun i s6 s8 wr => ∃ (t p : Nat) (A : Option Addr) (c' : Nat), t ≤ m ∧ Hid (p = k + 16 * t) ∧ i = .int .i64 t ∧ s6 = .int .i64 p ∧ s8 = .slice A t c' ∧ wr.ownsRow w.heap.size 26 16 (.slice A t c') t (celD (cutD (l.drop k) t)) ∧ Below w.heap.size w wr)
      (fun i _ _ _ => m - (intOf i).toNat)
    case atStart => exact ⟨0, k, none, 0, Nat.zero_le _, Lib.hid (by omega), rfl, rfl, rfl, World.ownsRow_nil _ _ _ _, Ext.refl w⟩
    case round =>
      obtain ⟨t, p, A, c', ht, HP, rfl, rfl, rfl, hown, hB⟩ := hrel
      have hs := hB.size
      by_cases hlt : t < m
      · have hp16 : p + 16 ≤ n := by have := HP.out; omega
        obtain ⟨d, hdd⟩ : ∃ d, d = ((l.drop k).drop (16 * t)).take 16 := ⟨_, rfl⟩
        have HDD := Lib.hid hdd
        have hd16 : d.length = 16 := by rw [hdd, List.length_take, List.length_drop, List.length_drop, HLEN.out]; omega
        have HUL : Hid ((u8s d).length = 16) := Lib.hid (by rw [u8s_length, hd16])
        have HR : Hid (wr.rangeAt b (o + p) (u8s d)) := Lib.hid (range_dig hd16 (fun j hj => by
          rw [hB.cell (p := ⟨b, o + p + j, none⟩) hb, Nat.add_assoc, HCC.out (p + j) (by omega), hdd, List.drop_drop]
          congr 2
          rw [List.getD_eq_getElem?_getD, List.getD_eq_getElem?_getD, List.getElem?_take, if_pos hj, List.getElem?_drop, HP.out]))
        have HCT : Hid (celD (cutD (l.drop k) (t + 1)) = celD (cutD (l.drop k) t) ++ u8s d) := Lib.hid (by rw [HCS.out, celD_snoc, hdd])
        clear hdd hd16
        have hl16 := HUL.out
        go_wp2_with (first
          | (refine wpList_load_mid rfl 26 (.tmp 27) (by rfl) b (o + p) (by rfl) (u8s d) _ HR.out Tryz.underlying26 rfl (winfo_dig.trans (congrArg some HUL.out.symm)) ?_)
          | (at_builtin; refine wpList_app rfl (.tmp 21) (.tmp 29) 117 rfl w.heap.size 26 i0 (.agg (u8s (List.replicate 16 0)).toArray) 16 16 Tryz.underlying117 hi hz0 hz1 hz2 rfl (by omega) A t c' _ rfl (hown.alloc _) (wr.heap.size + 1) _ 1 1 (u8s d) rfl (RdN.fresh (u8s d) _ _ 16 1 (by rw [fold_set]; exact HUL.out) rfl HUL.out) (u8s_one d) (by simp only [maxLen]; omega) (by omega) (by simp; omega) ?_; intro A4 c4 w4 hown4 hg4; have hb4 := below_app (Below.alloc hB hs _) hg4 (hown.alloc _) (Nat.le_refl _) (by simp; omega)))
        go_roundw
        case rel => exact ⟨t + 1, p + 16, A4, c4, by omega, Lib.hid (by have := HP.out; omega), by go_num, by go_num, rfl, by rw [HCT.out]; exact hown4, hb4⟩
        case measure => simp [intOf]; omega
      · obtain rfl : t = m := by omega
        go_wp2_with fail
        go_ret3
        exact ⟨⟨A, c', by rw [HD.out, HCL.out, HP.out]; simp, by rw [HD.out, HCL.out]; exact hown⟩, hB⟩
end Go.Proofs.YtjeecfjeooehhaaGreatDoor
