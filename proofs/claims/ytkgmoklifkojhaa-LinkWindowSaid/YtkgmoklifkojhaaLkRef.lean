/- The reference's Seal, Bytes, Open. Conditions: sizes that fit the memory. -/
import Derived.Test.YtkgmoklifkojhaaLkPkt
set_option linter.unusedSimpArgs false
set_option linter.unusedVariables false
namespace Go.Proofs.Ytkgmoklifkojhaa
open Go.RowKit
theorem take_u8s_succ (l : List Int) (t : Nat) (h : t < l.length) : u8s (l.take t) ++ [.int .u8 (l.getD t 0)] = u8s (l.take (t + 1)) := by
  have e : l[t]? = some (l.getD t 0) := by simp [List.getD_eq_getElem?_getD, List.getElem?_eq_getElem h]
  rw [List.take_add_one, e]
  simp [u8s]
theorem one_u8' (x : Int) : ∀ u ∈ [Value.int .u8 x], u.oneCell' = true := fun u hu => by
  rw [List.mem_singleton] at hu; subst hu; rfl
theorem RdN.fresh1 (w : World) (v : Value) (t : TypeId) : RdN (w.alloc (.cells #[v] t)) (w.heap.size + 1) 1 (some ⟨w.heap.size, 0, none⟩) 1 [v] :=
  RdN.of_Rd (((Blk.fresh w t [v]).rd rfl).more (by simp))
set_option maxHeartbeats 4000000 in
set_option maxRecDepth 100000 in
theorem rseal_any (key : Int) (_k0 : 0 ≤ key) (_k1 : key ≤ 18446744073709551615) (l : List Int) (A : Option Addr) (n c : Nat) (w : World) (hl : Rd w w.heap.size A n (u8s l)) (hby : Byt l) (hn : n ≤ 10000000000) :
    Calls Try.prog 17 #[.int .u64 key, .slice A n c] w fun e w' => (∃ A' c', e = .returned (.slice A' (sealL key l).length c') ∧ w'.ownsRow w.heap.size 5 1 (.slice A' (sealL key l).length c') (sealL key l).length (u8s (sealL key l))) ∧ Below w.heap.size w w' := by
  obtain ⟨i0, hi, hz0, hz1, hz2⟩ := info_parts winfo_u8
  have hlen : l.length = n := by simpa [u8s] using hl.1
  have HL := Lib.hid hl; have HN := Lib.hid hlen; have HBY := Lib.hid hby
  clear hl hlen hby
  obtain ⟨h0, hh0⟩ : ∃ h, h = seedL key := ⟨_, rfl⟩
  have HH0 : Hid (seedL key = h0) := Lib.hid hh0.symm
  have HSE : Hid (bits .xor .u64 14695981039346656037 key = h0) := Lib.hid hh0.symm
  have hb0 : 0 ≤ h0 ∧ h0 ≤ 18446744073709551615 := by rw [hh0]; exact seedL_bd key
  clear hh0
  go_enter Try.func17, Try.ntmps17
  have hse := HSE.out
  go_wp2_with fail
  clear hse
  go_loopw [5, 6] (fun s5 i wr => ∃ t : Nat, t ≤ n ∧ i = .int .i64 t ∧ s5 = .int .u64 (fnv h0 (l.take t)) ∧ Ext w wr) (fun _ i _ => n - (intOf i).toNat)
  case atStart => exact ⟨0, Nat.zero_le _, rfl, rfl, Ext.refl w⟩
  case round =>
    obtain ⟨t, ht, rfl, rfl, hE⟩ := hrel
    have HE := Lib.hid hE
    clear hE
    by_cases hlt : t < n
    · obtain ⟨b, o, rfl, hb, hc⟩ := rd_u8 HL.out (by omega)
      have c0 := (HE.out.cell (p := ⟨b, o + t, none⟩) hb).trans (hc t hlt)
      have hbx := HBY.out.at_ t
      have hbh := fnv_bd h0 hb0.1 hb0.2 (l.take t)
      have HF := Lib.hid (fnv_succ h0 l t (by rw [HN.out]; exact hlt))
      clear hc
      generalize l.getD t 0 = x at *
      generalize fnv h0 (l.take t) = h at *
      obtain ⟨x0, x1⟩ := hbx
      obtain ⟨y0, y1⟩ := hbh
      go_wp2_with fail
      first
        | (go_roundw
           case rel => exact ⟨t + 1, by omega, by go_num, by rw [HF.out]; rfl, HE.out⟩
           case measure => simp [intOf]; omega)
        | (go_quiet (fail)
           go_wp2_with fail
           refine ⟨⟨t + 1, by omega, by go_num, by rw [HF.out]; rfl, HE.out.drewN _⟩, by simp [intOf]; omega⟩)
    · obtain rfl : t = n := by omega
      have ht2 : l.take t = l := List.take_of_length_le (by rw [HN.out]; exact Nat.le_refl _)
      rw [ht2]
      have hbh := fnv_bd h0 hb0.1 hb0.2 l
      have HSB : Hid (sealB key l = (List.range 8).map fun i => fnv h0 l / 2 ^ (8 * i) % 256) := Lib.hid (by unfold sealB; rw [HH0.out])
      clear ht2
      generalize fnv h0 l = h at *
      obtain ⟨y0, y1⟩ := hbh
      obtain ⟨S, hS⟩ : ∃ S, S = sealB key l := ⟨_, rfl⟩
      have HSL : Hid (S.length = 8) := Lib.hid (by rw [hS]; exact sealB_length key l)
      have HSG : Hid (∀ t, t < 8 → S.getD t 0 = h / 2 ^ (8 * t) % 256) := Lib.hid (fun t ht => by
        rw [hS, HSB.out, List.getD_eq_getElem?_getD, List.getElem?_map, List.getElem?_range ht]; rfl)
      have HSE2 : Hid (l ++ S = sealL key l) := Lib.hid (by rw [hS]; rfl)
      have HSN : Hid ((l ++ S).length = t + 8) := Lib.hid (by rw [List.length_append, HSL.out, HN.out])
      clear hS HSB
      obtain ⟨wo, rfl⟩ : ∃ x : World, x = wr := ⟨_, rfl⟩
      have hs := HE.out.size
      go_wp2_with (at_builtin; refine wpList_app rfl (.tmp 25) (.tmp 26) 33 rfl wo.heap.size 5 i0 (.int .u8 0) 1 1 Try.underlying33 hi hz0 hz1 hz2 rfl (by omega) (some ⟨wo.heap.size, 0, none⟩) 0 0 [] rfl (own_lit wo _ wo.heap.size 5 [] _ 0 rfl rfl (Nat.le_refl _) rfl (by decide)) w.heap.size A t c (u8s l) rfl (RdN.of_Rd (HL.out.below (HE.out.alloc _))) (u8s_one l) (by simp only [maxLen]; omega) (by omega) (by simp) ?_; rw [Nat.zero_add, List.nil_append]; intro A4 c4 w4 hown4 hg4; have hb4 := below_app ((Ext.refl wo).alloc (.cells #[] 5)) hg4 (own_lit wo _ wo.heap.size 5 [] _ 0 rfl rfl (Nat.le_refl _) rfl (by decide)) (Nat.le_refl _) (by simp))
      have HO4 := Lib.hid (own_mono hown4 hs); have E4 : Hid (Ext w w4) := Lib.hid (HE.out.next hb4)
      clear hown4 hb4 hg4
      go_loopw [7, 5, 8] (fun s7 s5 i wr => ∃ (q : Nat) (A : Option Addr) (c : Nat), q ≤ 8 ∧ i = .int .i64 q ∧ s5 = .int .u64 (h / 2 ^ (8 * q)) ∧ s7 = .slice A (t + q) c ∧ wr.ownsRow w.heap.size 5 1 (.slice A (t + q) c) (t + q) (u8s (l ++ S.take q)) ∧ Ext w wr) (fun _ _ i _ => 8 - (intOf i).toNat)
      case atStart => exact ⟨0, A4, c4, by omega, rfl, by simp, rfl, by simpa using HO4.out, E4.out⟩
      case round =>
        clear HO4 E4
        obtain ⟨q, A2, c2, hq, rfl, rfl, rfl, hown, hE⟩ := hrel
        have HOW := Lib.hid hown; have HEQ := Lib.hid hE
        have hs2 := hE.size
        clear hown hE
        by_cases hlt2 : q < 8
        · have HV := Lib.hid (HSG.out q hlt2)
          have HTK := Lib.hid (take_u8s_succ S q (by rw [HSL.out]; exact hlt2))
          have HDV : Hid (h / 2 ^ (8 * q) / 256 = h / 2 ^ (8 * (q + 1))) := Lib.hid (by
            rw [show 8 * (q + 1) = 8 * q + 8 by omega, Int.pow_add, Int.ediv_ediv_of_nonneg (Int.le_of_lt (Int.pow_pos (by decide)))]; rfl)
          have hx0 : 0 ≤ h / 2 ^ (8 * q) := Int.ediv_nonneg y0 (Int.le_of_lt (Int.pow_pos (by decide)))
          have hx1 : h / 2 ^ (8 * q) ≤ 18446744073709551615 := Int.le_trans (Int.ediv_le_self _ y0) y1
          generalize h / 2 ^ (8 * q) = x at *
          go_wp2_with (at_builtin; refine wpList_app rfl (.tmp 32) (.tmp 36) 33 rfl w.heap.size 5 i0 (.int .u8 0) 1 1 Try.underlying33 hi hz0 hz1 hz2 rfl (by omega) A2 (t + q) c2 _ rfl (HOW.out.alloc _) (wr.heap.size + 1) (some ⟨wr.heap.size, 0, none⟩) 1 1 [.int .u8 (x % 256)] rfl (RdN.fresh1 _ _ _) (one_u8' _) (by simp only [maxLen]; omega) (by omega) (by simp; omega) ?_; intro A5 c5 w5 hown5 hg5; have hb5 := below_app (HEQ.out.alloc _) hg5 (HOW.out.alloc _) (Nat.le_refl _) (by simp; omega))
          refine ⟨⟨q + 1, A5, c5, by omega, by go_num, by rw [HDV.out], by rw [Nat.add_assoc], ?_, hb5⟩, by simp [intOf]; omega⟩
          rw [← HV.out] at hown5
          have h5 := hown5
          rw [u8s_append, List.append_assoc, HTK.out, ← u8s_append] at h5
          exact h5
        · obtain rfl : q = 8 := by omega
          have hS8 : S.take 8 = S := List.take_of_length_le (by rw [HSL.out]; exact Nat.le_refl _)
          have ho := HOW.out
          rw [hS8, HSE2.out] at ho
          have hn8 := HSN.out
          rw [HSE2.out] at hn8
          have HO8 := Lib.hid ho; have HN8 := Lib.hid hn8
          clear hS8 ho hn8
          go_wp2_with fail
          go_ret
          refine ⟨⟨A2, c2, by rw [HN8.out]; rfl, by rw [HN8.out]; exact HO8.out⟩, HEQ.out⟩
end Go.Proofs.Ytkgmoklifkojhaa
