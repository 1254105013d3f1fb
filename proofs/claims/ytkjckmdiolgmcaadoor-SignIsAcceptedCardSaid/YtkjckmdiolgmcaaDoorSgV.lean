/- sign's Sign, walked. Conditions: a seed of 32 bytes, a height up to 6, an index of the tree. -/
import Derived.Test.YtkjckmdiolgmcaaDoorSgS
set_option linter.unusedSimpArgs false
set_option linter.unusedVariables false
namespace Go.Proofs.YtkjckmdiolgmcaaDoor
open Go.RowKit
attribute [local go_sem ↓] wp_at_zero wp_at_succ
def dgN (d : List Int) (c : Nat) : Nat := ((digL d).getD c 0).toNat
theorem dgN_le (d : List Int) (c : Nat) : dgN d c ≤ 3 := by
  unfold dgN
  by_cases h : c < 68
  · have := digL_bd d h
    omega
  · rw [List.getD_eq_getElem?_getD, List.getElem?_eq_none (by rw [digL_len]; omega)]
    simp
theorem dgN_cell (d : List Int) {c : Nat} (h : c < 68) : (i64s (digL d))[c]? = some (.int .i64 (dgN d c : Int)) := by
  have hb := digL_bd d h
  unfold dgN i64s
  rw [List.getElem?_map, List.getElem?_eq_getElem (by rw [digL_len]; exact h)]
  rw [List.getD_eq_getElem?_getD, List.getElem?_eq_getElem (by rw [digL_len]; exact h)] at hb ⊢
  simp only [Option.getD_some, Option.map_some] at hb ⊢
  rw [Int.toNat_of_nonneg hb.1]
/-- The number of the neighbour at a level. -/
def sib (i l : Nat) : Nat := (i / 2 ^ l) ^^^ 1
theorem sib_le (i l h : Nat) (hi : i < 2 ^ h) (hl : l < h) (h6 : h ≤ 6) : (sib i l + 1) * 2 ^ l ≤ 64 := by
  obtain ⟨m, hm⟩ : ∃ m, h = l + m := ⟨h - l, by omega⟩
  have h1 : i / 2 ^ l < 2 ^ m := by
    rw [hm, Nat.pow_add] at hi
    exact Nat.div_lt_of_lt_mul hi
  have h2 : sib i l < 2 ^ m := Nat.xor_lt_two_pow h1 (Nat.one_lt_two_pow (by omega))
  have h3 : (sib i l + 1) * 2 ^ l ≤ 2 ^ m * 2 ^ l := Nat.mul_le_mul_right _ h2
  have h5 : 2 ^ m * 2 ^ l = 2 ^ h := by rw [← Nat.pow_add, hm, Nat.add_comm]
  rw [h5] at h3
  have h4 := Nat.pow_le_pow_right (show 0 < 2 by decide) h6
  omega
/-- The value of a chain in a signature. -/
def sgV (seed : ByteArray) (i : Nat) (d : List Int) (c : Nat) : List Int := advD (i : Int) (c : Int) 0 (dgN d c) (startD seed (i : Int) (c : Int))
theorem sgV_dig (seed : ByteArray) (i : Nat) (d : List Int) (c : Nat) : Dig (sgV seed i d c) := advD_dig (startD_dig _ _ _) _
def sgP (seed : ByteArray) (i l : Nat) : List Int := nodeV seed l (sib i l)
/-- The digest that Sign signs. -/
def sgM (seed : ByteArray) (h i : Nat) (msg : ByteArray) : List Int := digestD (nodeV seed h 0) (i : Int) msg
def signL (seed : ByteArray) (h i : Nat) (msg : ByteArray) : List Int := encInt (i : Int) ++ flatD (sgV seed i (sgM seed h i msg)) 68 ++ flatD (sgP seed i) h
theorem byt_app {a b : List Int} (ha : Byt a) (hb : Byt b) : Byt (a ++ b) := fun x hx => by
  rcases List.mem_append.1 hx with h | h
  · exact ha x h
  · exact hb x h
theorem bits_xor1 (s : Nat) (h : s < 64) : bits .xor .i64 (s : Int) 1 = ((s ^^^ 1 : Nat) : Int) := by
  have hx : ∀ s : Fin 64, bits .xor .i64 ((s.val : Nat) : Int) 1 = ((s.val ^^^ 1 : Nat) : Int) := by decide
  exact hx ⟨s, h⟩
set_option maxHeartbeats 8000000 in
set_option maxRecDepth 100000 in
theorem sign_any (seed msg : ByteArray) (h i p : Nat) (w : World) (hs : seed.size = 32) (h6 : h ≤ 6) (hp : p = 2 ^ h) (hip : i < p) (hm : msg.size ≤ 1000000) (hK : KTab w) :
    Calls Tryd.prog 11 #[.string seed, .int .i64 (h : Int), .int .i64 (i : Int), .string msg] w fun e w' => e = .returned (.tuple #[.string (strOf (signL seed h i msg)), .int .i64 0]) ∧ Ext w w' := by
  have HK := Lib.hid hK
  have zz : ∀ W, (zeroValue 23).run Tryd.prog W = .ok (.agg (u8s (List.replicate 16 0)).toArray) W := fun W => by kernel_rfl
  obtain ⟨Z, hZ⟩ : ∃ Z, Z = u8s (List.replicate 16 0) := ⟨_, rfl⟩
  have HZL : Hid (Z.length = 16) := Lib.hid (by rw [hZ]; rfl)
  rw [← hZ] at zz
  have hp64 : p ≤ 64 := by
    have := Nat.pow_le_pow_right (show 0 < 2 by decide) h6
    omega
  have hp2 : (2 : Int) ^ h = (p : Int) := by rw [hp]; exact_mod_cast rfl
  have HS : Hid (seed.size ≤ 1000000) := Lib.hid (by omega)
  have HI : Hid (I64 (i : Int)) := Lib.hid ⟨by omega, by omega⟩
  have HM : Hid (msg.size ≤ 1000000000) := Lib.hid (by omega)
  have hle := encInt_le9 (i : Int) HI.out.1 HI.out.2
  obtain ⟨E, hE⟩ : ∃ E, E = encInt (i : Int) := ⟨_, rfl⟩
  obtain ⟨n, hn⟩ : ∃ n, n = E.length := ⟨_, rfl⟩
  have HE := Lib.hid hE; have HN := Lib.hid hn
  have hn9 : n ≤ 9 := by rw [hn, hE]; exact hle
  have hn0 : 0 < n := by rw [hn, hE, encInt_length]; omega
  have HINT : Hid (∀ W, Calls Tryd.prog 17 #[.int .i64 (i : Int)] W fun e w' => (∃ A c, e = .returned (.slice A n c) ∧ Rd w' w'.heap.size A n (u8s E)) ∧ Ext W w') := Lib.hid (fun W => (wintL_any (i : Int) W HI.out.1 HI.out.2).mono fun e w' h => by
    obtain ⟨⟨A, c, h, ho⟩, hB⟩ := h
    subst hE
    subst hn
    exact ⟨⟨A, c, h, Rd.of_own ho⟩, hB⟩)
  have hpw : Hid ((0 + 1) * 2 ^ h ≤ 64) := Lib.hid (by omega)
  obtain ⟨PV, hPV⟩ : ∃ V, V = nodeV seed h 0 := ⟨_, rfl⟩
  have HPD : Hid (Dig PV) := Lib.hid (by rw [hPV]; exact nodeV_dig _ _ _)
  have HAT : Hid (∀ (mb sb ab hm : Nat) (W : World), NEnv W seed mb sb ab hm → Calls Tryd.prog 27 #[.int .i64 (h : Int), .int .i64 0, .pointer (some ⟨mb, 0, none⟩), .pointer (some ⟨sb, 0, none⟩), .pointer (some ⟨ab, 0, none⟩)] W fun e w' => e = .returned (.agg (u8s PV).toArray) ∧ NR seed hm W w') := Lib.hid (fun mb sb ab hm W hW => by
    rw [hPV]
    exact at_any seed mb sb ab hm h 0 W hW h6 hpw.out)
  obtain ⟨D, hD⟩ : ∃ D, D = sgM seed h i msg := ⟨_, rfl⟩
  have HDD : Hid (Dig D) := Lib.hid (by rw [hD]; exact ofD_dig _ _)
  have HDG : Hid (∀ W, KTab W → Calls Tryd.prog 13 #[.agg (u8s PV).toArray, .int .i64 (i : Int), .string msg] W fun e w' => e = .returned (.agg (u8s D).toArray) ∧ Ext W w') := Lib.hid (fun W hW => by
    rw [hD]
    have h := digest_any PV (i : Int) msg W HPD.out HI.out HM.out hW
    rw [hPV] at h ⊢
    exact h)
  obtain ⟨sv, hsv⟩ : ∃ f, f = sgV seed i D := ⟨_, rfl⟩
  obtain ⟨sp, hsp⟩ : ∃ f, f = sgP seed i := ⟨_, rfl⟩
  have HSV : Hid (∀ t, Dig (sv t)) := Lib.hid (fun t => by rw [hsv]; exact sgV_dig _ _ _ _)
  have HSP : Hid (∀ t, Dig (sp t)) := Lib.hid (fun t => by rw [hsp]; exact nodeV_dig _ _ _)
  have HAD : Hid (∀ t : Nat, t < 68 → ∀ W, KTab W → Calls Tryd.prog 18 #[.int .i64 (i : Int), .int .i64 (t : Int), .int .i64 0, .int .i64 (dgN D t : Int), .agg (u8s (startD seed (i : Int) (t : Int))).toArray] W fun e w' => e = .returned (.agg (u8s (sv t)).toArray) ∧ Ext W w') := Lib.hid (fun t ht W hW => by
    rw [hsv]
    have hd3 := dgN_le D t
    exact advance_any (i : Int) (t : Int) 0 (dgN D t) (startD seed (i : Int) (t : Int)) W HI.out ⟨by omega, by omega⟩ (by decide) (by omega) (startD_dig _ _ _) hW)
  have HPA : Hid (∀ (t : Nat), t < h → ∀ (mb sb ab hm : Nat) (W : World), NEnv W seed mb sb ab hm → Calls Tryd.prog 27 #[.int .i64 (t : Int), .int .i64 ((sib i t : Nat) : Int), .pointer (some ⟨mb, 0, none⟩), .pointer (some ⟨sb, 0, none⟩), .pointer (some ⟨ab, 0, none⟩)] W fun e w' => e = .returned (.agg (u8s (sp t)).toArray) ∧ NR seed hm W w') := Lib.hid (fun t ht mb sb ab hm W hW => by
    rw [hsp]
    exact at_any seed mb sb ab hm t (sib i t) W hW (by omega) (sib_le i t h (by omega) ht h6))
  obtain ⟨L1, hL1⟩ : ∃ L, L = E ++ flatD sv 68 := ⟨_, rfl⟩
  have HL1E := Lib.hid hL1
  have HEND : Hid (L1 ++ flatD sp h = signL seed h i msg) := Lib.hid (by rw [hL1, hE, hsv, hsp, hD]; rfl)
  have HEB : Hid (Byt E) := Lib.hid (by rw [hE]; exact encInt_byt _ HI.out.1 HI.out.2)
  have hNL : n = E.length := hn
  rw [← HEND.out]
  clear HEND hPV hD hsv hsp hNL hL1
  clear hZ hK hE hn hle hp
  go_enter Tryd.func11, Tryd.ntmps11
  go_upto_region 8 with (go_loud (first
    | (go_at_call 14; (with_reducible refine (valid_ok h w h6).mono ?_); rintro e w3 ⟨rfl, rfl⟩)
    | (go_at_call 15; (with_reducible refine (nodes_any seed w HS.out HK.out).mono ?_); rintro e w4 ⟨mb, sb, ab, hm, rfl, hN, hle, hE4⟩; have N4 := Lib.hid hN; have E4 : Hid (Ext w w4) := Lib.hid hE4; have HLE := Lib.hid hle; clear hN hE4 hle)))
  obtain ⟨base, hbase⟩ : ∃ x, x = w4.heap.size := ⟨_, rfl⟩
  have S5 : Hid (SS w seed mb sb ab hm base (w4.alloc (.cells #[.pointer none, .slice none 0 0] 46)) []) := Lib.hid (by
    rw [hbase]
    have hE5 : Ext w4 (w4.alloc (.cells #[.pointer none, .slice none 0 0] 46)) := (Ext.refl w4).alloc _
    exact ⟨E4.out.next hE5, N4.out.ext hE5, Bld.fresh w4.heap.size w4 (Nat.le_refl _), HLE.out, N4.out.lM, N4.out.lS, N4.out.lA, N4.out.memo.lt, Tab.lt N4.out.tab, E4.out.size, by simp⟩)
  go_upto_region 9 with fail
  obtain ⟨w5, hw5⟩ : ∃ x, x = w4.alloc (.cells #[.pointer none, .slice none 0 0] 46) := ⟨_, rfl⟩
  change Code.wp _ _ _ _ (w4.alloc (.cells #[.pointer none, .slice none 0 0] 46))
  rw [← hw5] at S5 ⊢
  rw [← hbase]
  clear hw5 hbase N4 E4 HLE
  go_upto_region 10 with (go_loud (first
    | (go_at_call 17; (with_reducible refine (HINT.out w5).mono ?_); rintro e w6 ⟨⟨A6, c6, rfl, hr⟩, hE6⟩; have S6 := Lib.hid (S5.out.next hE6); have HW := Lib.hid (S6.out.write E A6 n c6 hr (by simp; omega)); clear hr hE6)
    | (go_at_call 16; (with_reducible refine HW.out.mono ?_); rintro e w7 ⟨rfl, hS7, -⟩; have S7 : Hid (SS w seed mb sb ab hm base w7 (E ++ flatD sv 0)) := Lib.hid (by have h0 := hS7; unfold flatD; simpa using h0); clear hS7)))
  clear S5 S6 HW
  go_wp2_with (go_loud (first
    | (go_at_call 27; (with_reducible refine (HAT.out mb sb ab hm w7 S7.out.env).mono ?_); rintro e w8 ⟨rfl, hR8⟩; have S8 := Lib.hid (S7.out.nr hR8); clear hR8)
    | (go_at_call 13; (with_reducible refine (HDG.out w8 S8.out.env.tab).mono ?_); rintro e w9 ⟨rfl, hE9⟩; have S9 := Lib.hid (S8.out.next hE9); clear hE9)
    | (go_at_call 7; (with_reducible refine (digits_any D w9 HDD.out.l HDD.out.b).mono ?_); rintro e wA ⟨gd, rfl, hgd, hbd, hEA⟩; have SA := Lib.hid (S9.out.next hEA); have BD := Lib.hid hbd; have HGD : Hid (base < gd) := Lib.hid (Nat.lt_of_lt_of_le S9.out.l7 hgd); clear hgd hbd hEA)))
  go_loopw [52] (fun x wr => ∃ t : Nat, t ≤ 68 ∧ x = .int .i64 (t : Int) ∧ SS w seed mb sb ab hm base wr (E ++ flatD sv t) ∧ Blk wr gd 39 (i64s (digL D))) (fun x _ => 68 - (intOf x).toNat)
  case atStart => exact ⟨0, by omega, rfl, SA.out, BD.out⟩
  case round =>
    clear SA BD
    obtain ⟨t, ht, rfl, hss, hbd⟩ := hrel
    have S0 := Lib.hid hss; have BD := Lib.hid hbd
    clear hss hbd
    obtain ⟨wo, rfl⟩ : ∃ x : World, x = wr := ⟨_, rfl⟩
    by_cases hlt : t < 68
    · have cg : wo.cell? ⟨gd, t, none⟩ = some (.int .i64 (dgN D t : Int)) := (BD.out.cell t).trans (dgN_cell D hlt)
      have HC := Lib.hid (HAD.out t hlt)
      have HST : Hid (Calls Tryd.prog 19 #[.string seed, .int .i64 (i : Int), .int .i64 (t : Int)] wo fun e w' => e = .returned (.agg (u8s (startD seed (i : Int) (t : Int))).toArray) ∧ Ext wo w') := Lib.hid (start_any seed (i : Int) (t : Int) wo HS.out HI.out ⟨by omega, by omega⟩ S0.out.env.tab)
      generalize dgN D t = dv at *
      have HFS : Hid (flatD sv (t + 1) = flatD sv t ++ sv t) := Lib.hid (flatD_succ sv t)
      have HFL : Hid ((E ++ flatD sv t).length = n + 16 * t) := Lib.hid (by rw [List.length_append, flatD_len sv (fun j _ => HSV.out j), HN.out])
      have HD := Lib.hid (HSV.out t)
      obtain ⟨U, hU⟩ : ∃ U, U = sv t := ⟨_, rfl⟩
      have HU := Lib.hid hU
      have HUL : Hid ((u8s U).length = 16) := Lib.hid (by rw [hU, u8s_len]; exact HD.out.l)
      rw [← hU] at HC
      clear hU
      go_wp2_with (go_loud (first
        | (go_at_call 19; (with_reducible refine HST.out.mono ?_); rintro e w5 ⟨rfl, hE5⟩; have S5 := Lib.hid (S0.out.next hE5); have BD5 := Lib.hid (BD.out.ext hE5); clear hE5)
        | (go_at_call 18; (with_reducible refine (HC.out w5 S5.out.env.tab).mono ?_); rintro e w6 ⟨rfl, hE6⟩; have S6 := Lib.hid (S5.out.next hE6); have BD6 := Lib.hid (BD5.out.ext hE6); clear hE6)
        | ((refine wpList_store_fresh rfl 23 (.tmp 14) (.tmp 64) rfl _ w6.heap.size rfl Z (u8s U) 23 (by rfl) (by rfl) rfl (dg_info.trans (congrArg some HUL.out.symm)) (HZL.out.trans HUL.out.symm) (u8s_one U) ?_); intro w7 hw7 hE7 hz7; have B7 := Lib.hid hw7; have S7 := Lib.hid (S6.out.next hE7); have HW := Lib.hid (S7.out.write U (some ⟨w6.heap.size, 0, none⟩) 16 16 (B7.out.rd HUL.out) (by rw [HFL.out]; omega)); have BD7 := Lib.hid (BD6.out.ext hE7); clear hw7 hE7 hz7)
        | (go_at_call 16; (with_reducible refine HW.out.mono ?_); rintro e w8 ⟨rfl, hS8, hK8⟩; have S8 := Lib.hid hS8; have BD8 := Lib.hid (hK8 _ _ _ (by have := HGD.out; omega) (by decide) BD7.out); clear hS8 hK8)))
      exact ⟨⟨t + 1, by omega, by go_num, by rw [HFS.out, ← HU.out, ← List.append_assoc]; exact S8.out, BD8.out⟩, by simp [intOf]; omega⟩
    · obtain rfl : t = 68 := by omega
      have HLL : Hid (h ≤ 6) := Lib.hid h6
      have HL1 : Hid (L1.length = n + 1088) := Lib.hid (by rw [HL1E.out, List.length_append, flatD_len sv (fun j _ => HSV.out j), HN.out])
      have HLB : Hid (Byt (L1 ++ flatD sp h)) := Lib.hid (by rw [HL1E.out]; exact byt_app (byt_app HEB.out (flatD_byt sv (fun j _ => HSV.out j))) (flatD_byt sp (fun j _ => HSP.out j)))
      have S1 : Hid (SS w seed mb sb ab hm base wo L1) := Lib.hid (by rw [HL1E.out]; exact S0.out)
      clear S0 BD
      rw [show ((68 : Nat) : Int) = 68 from rfl]
      go_wp2_with fail
      go_loopw [69] (fun x wr => ∃ t : Nat, t ≤ h ∧ x = .int .i64 (t : Int) ∧ SS w seed mb sb ab hm base wr (L1 ++ flatD sp t)) (fun x _ => h - (intOf x).toNat)
      case atStart => exact ⟨0, by omega, rfl, by have h0 := S1.out; unfold flatD; simpa using h0⟩
      case round =>
        clear S1 ht
        obtain ⟨t, ht, rfl, hss⟩ := hrel
        have S0 := Lib.hid hss
        clear hss
        obtain ⟨wo, rfl⟩ : ∃ x : World, x = wr := ⟨_, rfl⟩
        by_cases hlt : t < h
        · obtain ⟨s, hs'⟩ : ∃ s, s = i / 2 ^ t := ⟨_, rfl⟩
          have hs64 : s < 64 := by
            have := Nat.div_le_self i (2 ^ t)
            omega
          have hsr : (i : Int) / 2 ^ t = (s : Int) := by rw [hs']; exact_mod_cast rfl
          have hxr : bits .xor .i64 (s : Int) 1 = ((sib i t : Nat) : Int) := by rw [bits_xor1 s hs64, hs']; rfl
          have HC := Lib.hid (HPA.out t hlt mb sb ab hm)
          generalize sib i t = q at *
          clear hs'
          have HFS : Hid (flatD sp (t + 1) = flatD sp t ++ sp t) := Lib.hid (flatD_succ sp t)
          have HFL : Hid ((L1 ++ flatD sp t).length = n + 1088 + 16 * t) := Lib.hid (by rw [List.length_append, flatD_len sp (fun j _ => HSP.out j), HL1.out])
          have HD := Lib.hid (HSP.out t)
          obtain ⟨U, hU⟩ : ∃ U, U = sp t := ⟨_, rfl⟩
          have HU := Lib.hid hU
          have HUL : Hid ((u8s U).length = 16) := Lib.hid (by rw [hU, u8s_len]; exact HD.out.l)
          rw [← hU] at HC
          clear hU
          go_wp2_with (go_loud (first
            | (go_at_call 27; (with_reducible refine (HC.out wo S0.out.env).mono ?_); rintro e w6 ⟨rfl, hR6⟩; have S6 := Lib.hid (S0.out.nr hR6); clear hR6)
            | ((refine wpList_store_fresh rfl 23 (.tmp 16) (.tmp 78) rfl _ w6.heap.size rfl Z (u8s U) 23 (by rfl) (by rfl) rfl (dg_info.trans (congrArg some HUL.out.symm)) (HZL.out.trans HUL.out.symm) (u8s_one U) ?_); intro w7 hw7 hE7 hz7; have B7 := Lib.hid hw7; have S7 := Lib.hid (S6.out.next hE7); have HW := Lib.hid (S7.out.write U (some ⟨w6.heap.size, 0, none⟩) 16 16 (B7.out.rd HUL.out) (by rw [HFL.out]; omega)); skip; clear hw7 hE7 hz7)
            | (go_at_call 16; (with_reducible refine HW.out.mono ?_); rintro e w8 ⟨rfl, hS8, hK8⟩; have S8 := Lib.hid hS8; skip; clear hS8 hK8)))
          go_roundw
          case rel => exact ⟨t + 1, by omega, by go_num, by rw [HFS.out, ← HU.out, ← List.append_assoc]; exact S8.out⟩
          case measure => simp [intOf]; omega
        · obtain rfl : t = h := by omega
          have HFL : Hid ((L1 ++ flatD sp t).length = n + 1088 + 16 * t) := Lib.hid (by rw [List.length_append, flatD_len sp (fun j _ => HSP.out j), HL1.out])
          have HST := Lib.hid (S0.out.string HLB.out (by rw [HFL.out]; omega) (by rw [HFL.out]; omega))
          go_wp2_with (go_loud (go_at_call 20; (with_reducible refine HST.out.mono ?_); rintro e w8 ⟨rfl, hE8⟩))
          go_ret2
          exact ⟨rfl, hE8⟩
end Go.Proofs.YtkjckmdiolgmcaaDoor
