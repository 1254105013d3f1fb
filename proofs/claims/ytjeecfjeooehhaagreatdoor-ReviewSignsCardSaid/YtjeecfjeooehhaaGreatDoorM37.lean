/- The reference's Sign. Conditions: a seed of 32 bytes, a height up to 6, an index in range, a message of at most 1000000 bytes; the table of constants is laid. -/
import Derived.Test.YtjeecfjeooehhaaGreatDoorM35
import Derived.Test.YtjeecfjeooehhaaGreatDoorM33
import Derived.Test.YtjeecfjeooehhaaGreatDoorM36
set_option linter.unusedSimpArgs false
set_option linter.unusedVariables false
set_option maxHeartbeats 16000000
set_option maxRecDepth 100000
namespace Go.Proofs.YtjeecfjeooehhaaGreatDoor
open Go.RowKit
open Lib (hid)
attribute [local go_sem ↓] wp_at_zero wp_at_succ
def DigC (W : World) (g : Nat) (D : List Int) : Prop := ∀ t,t < 68 → W.cell? ⟨g,t,none⟩ = some (.int .i64 (dgN D t : Int))
theorem DigC.ext {a b : World} {g : Nat} {D : List Int} (hE : Ext a b) (h : DigC a g D) : DigC b g D := fun t ht => (hE.cell (p := ⟨g,t,none⟩) (cell_in (h t ht))).trans (h t ht)
theorem rdigits_c (d : List Int) (w : World) (hd : d.length = 16) (hb : Byt d) :
  Calls Tryz.prog 98 #[.agg (u8s d).toArray] w fun e w' => (∃ g c,e = .returned (.slice (some ⟨g,0,none⟩) 68 c) ∧ DigC w' g d) ∧ Ext w w' :=
 (rdigits_any d w hd hb).mono fun e w' hq => by
  obtain ⟨A,c,he,ho,hE⟩ := hq
  obtain ⟨g,rfl,hg1,hg2,hgc⟩ := own_at ho (by decide)
  exact ⟨⟨g,c,he,fun t ht => hgc t _ (dgN_cell d ht)⟩,hE⟩
theorem xor1_odd (s : Nat) (h : s < 64) (ho : s % 2 = 1) : s ^^^ 1 = s - 1 := by
 have hx : ∀ s : Fin 64,s.val % 2 = 1 → s.val ^^^ 1 = s.val - 1 := by decide
 exact hx ⟨s,h⟩ ho
theorem xor1_even (s : Nat) (h : s < 64) (ho : ¬ s % 2 = 1) : s ^^^ 1 = s + 1 := by
 have hx : ∀ s : Fin 64,¬ s.val % 2 = 1 → s.val ^^^ 1 = s.val + 1 := by decide
 exact hx ⟨s,h⟩ ho
theorem half_pow (i t : Nat) : i / 2 ^ t / 2 = i / 2 ^ (t + 1) := by rw [Nat.div_div_eq_div_mul,Nat.pow_succ]
theorem sib_in (i t h : Nat) (hi : i < 2 ^ h) (ht : t < h) (h6 : h ≤ 6) : sib i t < 2 ^ (h - t) := by
 have h1 : i / 2 ^ t < 2 ^ (h - t) := by
  rw [Nat.div_lt_iff_lt_mul (Nat.pow_pos (by decide)),← Nat.pow_add,Nat.sub_add_cancel (by omega)]
  exact hi
 have h2 : 2 ^ (h - t) = 2 * 2 ^ (h - (t + 1)) := by rw [show h - t = (h - (t + 1)) + 1 by omega,Nat.pow_succ];omega
 have h3 := Nat.pow_le_pow_right (show 0 < 2 by decide) (show h - t ≤ 6 by omega)
 have h4 : 2 ^ (h - t) ≤ 64 := h3
 unfold sib
 generalize i / 2 ^ t = s at *
 generalize 2 ^ (h - t) = a at *
 generalize 2 ^ (h - (t + 1)) = b at *
 clear h3
 by_cases ho : s % 2 = 1
 ·rw [xor1_odd _ (by omega) ho];omega
 ·rw [xor1_even _ (by omega) ho];omega
theorem rsign_any (seed msg : ByteArray) (h i p : Nat) (w : World) (hs : seed.size = 32) (h6 : h ≤ 6) (hp : p = 2 ^ h) (hip : i < p) (hm : msg.size ≤ 1000000) (hK : RTab w) :
  Calls Tryz.prog 43 #[.string seed,.int .i64 (h : Int),.int .i64 (i : Int),.string msg] w fun e w' => e = .returned (.tuple #[.string (strOf (signL seed h i msg)),.int .i64 0]) ∧ Ext w w' := by
 have HKW : Hid (∀ W,Ext w W → RTab W) := hid (fun W h => hK.below h)
 have hp64 : p ≤ 64 := by
  have := Nat.pow_le_pow_right (show 0 < 2 by decide) h6
  omega
 have hp2 : (2 : Int) ^ h = (p : Int) := by rw [hp];exact_mod_cast rfl
 have HI : Hid (I64 (i : Int)) := hid ⟨by omega,by omega⟩
 have hle := encInt_le9 (i : Int) HI.out.1 HI.out.2
 obtain ⟨E,hE⟩ : ∃ E,E = encInt (i : Int) := ⟨_,rfl⟩
 have hn9 : E.length ≤ 9 := by rw [hE];exact hle
 have HE9 := hid hn9
 have HE := hid hE
 have HINT : Hid (∀ W,Calls Tryz.prog 52 #[.int .i64 (i : Int)] W fun e w' => (∃ A n c,e = .returned (.slice A n c) ∧ Rd w' w'.heap.size A n (u8s E)) ∧ Ext W w') := hid (fun W => (rint_any (i : Int) W HI.out.1 HI.out.2).mono fun e w' h => by
  obtain ⟨⟨A,c,h,ho⟩,hB⟩ := h
  subst hE
  exact ⟨⟨A,_,c,h,Rd.of_own ho⟩,hB⟩)
 have HFT := hid (fun W => fits_ok seed h W hs h6)
 have HLV : Hid (∀ W,Ext w W → Calls Tryz.prog 97 #[.string seed,.int .i64 (h : Int)] W fun e w' => (∃ g c,e = .returned (.slice (some ⟨g,0,none⟩) (h + 1) c) ∧ Tree w' seed h g) ∧ Ext W w') := hid (fun W hW => levels_tree seed h p W (by omega) h6 hp (HKW.out W hW))
 obtain ⟨PV,hPV⟩ : ∃ V,V = nodeV seed h 0 := ⟨_,rfl⟩
 have HPD : Hid (Dig PV) := hid (by rw [hPV];exact nodeV_dig _ _ _)
 have HVL : Hid ((u8s PV).length = 16) := hid (by rw [u8s_len];exact HPD.out.l)
 have HTR : Hid (∀ W g,Tree W seed h g → ∃ gl cl,W.cell? ⟨g,h,none⟩ = some (.slice (some ⟨gl,0,none⟩) 1 cl) ∧ W.rangeAt gl 0 (u8s PV)) := hid (fun W g hT => by
  obtain ⟨gl,cl,hc,hr⟩ := hT h (Nat.le_refl _)
  rw [Nat.sub_self] at hc hr
  refine ⟨gl,cl,hc,?_⟩
  have := hr 0 (by decide)
  rw [hPV]
  simpa using this)
 obtain ⟨D,hD⟩ : ∃ D,D = sgM seed h i msg := ⟨_,rfl⟩
 have HDD : Hid (Dig D) := hid (by rw [hD];exact ofD_dig _ _)
 have HDG : Hid (∀ W,Ext w W → Calls Tryz.prog 24 #[.agg (u8s PV).toArray,.int .i64 (i : Int),.string msg] W fun e w' => e = .returned (.agg (u8s D).toArray) ∧ Ext W w') := hid (fun W hW => by
  rw [hD]
  have h := rDigest_any PV (i : Int) msg W HPD.out HI.out (by omega) (HKW.out W hW)
  rw [hPV] at h ⊢
  exact h)
 obtain ⟨sv,hsv⟩ : ∃ f,f = sgV seed i D := ⟨_,rfl⟩
 obtain ⟨sp,hsp⟩ : ∃ f,f = sgP seed i := ⟨_,rfl⟩
 have HSV : Hid (∀ t,Dig (sv t)) := hid (fun t => by rw [hsv];exact sgV_dig _ _ _ _)
 have HSP : Hid (∀ t,Dig (sp t)) := hid (fun t => by rw [hsp];exact nodeV_dig _ _ _)
 have HST : Hid (∀ (t : Nat) W,t < 68 → Ext w W → Calls Tryz.prog 100 #[.string seed,.int .i64 (i : Int),.int .i64 (t : Int)] W fun e w' => e = .returned (.agg (u8s (startD seed (i : Int) (t : Int))).toArray) ∧ Ext W w') := hid (fun t W ht hW => rstart_any seed (i : Int) (t : Int) W (by omega) HI.out ⟨by omega,by omega⟩ (HKW.out W hW))
 have HAD : Hid (∀ (t : Nat) W,t < 68 → Ext w W → Calls Tryz.prog 99 #[.int .i64 (i : Int),.int .i64 (t : Int),.int .i64 0,.int .i64 (dgN D t : Int),.agg (u8s (startD seed (i : Int) (t : Int))).toArray] W fun e w' => e = .returned (.agg (u8s (sv t)).toArray) ∧ Ext W w') := hid (fun t W ht hW => by
  rw [hsv]
  have hd3 := dgN_le D t
  exact radvance_any (i : Int) (t : Int) 0 (dgN D t) (startD seed (i : Int) (t : Int)) W HI.out ⟨by omega,by omega⟩ (by decide) (by omega) (startD_dig _ _ _) (HKW.out W hW))
 have HTL : Hid (∀ (t : Nat) W g,t < h → Tree W seed h g → ∃ gl cl,W.cell? ⟨g,t,none⟩ = some (.slice (some ⟨gl,0,none⟩) (2 ^ (h - t)) cl) ∧ W.rangeAt gl (sib i t * 16) (u8s (sp t))) := hid (fun t W g ht hT => by
  obtain ⟨gl,cl,hc,hr⟩ := hT t (by omega)
  rw [hsp]
  exact ⟨gl,cl,hc,hr _ (sib_in i t h (by omega) ht h6)⟩)
 have HSI : Hid (∀ t,t < h → sib i t < 2 ^ (h - t)) := hid (fun t ht => sib_in i t h (by omega) ht h6)
 obtain ⟨L1,hL1⟩ : ∃ L,L = E ++ flatD sv 68 := ⟨_,rfl⟩
 have HL1E := hid hL1
 have HEND : Hid (L1 ++ flatD sp h = signL seed h i msg) := hid (by rw [hL1,hE,hsv,hsp,hD];rfl)
 have HFV : Hid (∀ t : Nat,(flatD sv t).length = 16 * t) := hid (fun t => flatD_len sv (fun j _ => HSV.out j))
 have HFP : Hid (∀ t : Nat,(flatD sp t).length = 16 * t) := hid (fun t => flatD_len sp (fun j _ => HSP.out j))
 rw [← HEND.out]
 clear HEND hPV hD hsv hsp hL1 hK hE hle hp hs hn9
 go_enter Tryz.func43,Tryz.ntmps43
 have hh1 : h < h + 1 := Nat.lt_succ_self h
 go_wp2_with (first
  | (go_at_call 96;(with_reducible refine (HFT.out w).mono ?_);rintro e w3 ⟨rfl,rfl⟩)
  | (go_at_call 97;(with_reducible refine (HLV.out w (Ext.refl w)).mono ?_);rintro e w4 ⟨⟨g,c,rfl,hT⟩,hE4⟩;have E4 : Hid (Ext w w4) := hid hE4;obtain ⟨gl,cl,ccl,hrl⟩ := HTR.out w4 g hT;have T4 := hid hT;have HRL := hid hrl;clear hT hE4 hrl)
  | (refine wpList_midw (by rfl) 26 (.tmp 41) rfl gl 0 rfl (u8s PV) HRL.out Tryz.underlying26 rfl (dg_info.trans (congrArg some HVL.out.symm)) ?_)
  | (go_at_call 24;(with_reducible refine (HDG.out w4 E4.out).mono ?_);rintro e w5 ⟨rfl,hE5⟩;have E5 : Hid (Ext w w5) := hid (E4.out.next hE5);have T5 := hid (T4.out.ext hE5);clear hE5)
  | (go_at_call 98;(with_reducible refine (rdigits_c D w5 HDD.out.l HDD.out.b).mono ?_);rintro e w6 ⟨⟨gd,cd,rfl,hdc⟩,hE6⟩;have E6 : Hid (Ext w w6) := hid (E5.out.next hE6);have T6 := hid (T5.out.ext hE6);have DC6 := hid hdc;clear hE6 hdc)
  | (go_at_call 52;(with_reducible refine (HINT.out w6).mono ?_);rintro e w7 ⟨⟨A7,n7,c7,rfl,hr7⟩,hE7⟩;have hcv := run_toStr (P := Tryz.prog) Tryz.underlying23 Tryz.underlying5 Tryz.underlying9 hr7 c7 (sg_nil _ _ hr7);have E7 : Hid (Ext w w7) := hid (E6.out.next hE7);have T7 := hid (T6.out.ext hE7);have DC7 := hid (DC6.out.ext hE7);clear hE7 hr7))
 clear T4 T5 T6 DC6 E4 E5 E6 ccl HRL HTR HDG HLV HFT HINT hcv
 go_loopw [13,14] (fun s13 s14 wr => ∃ t : Nat,t ≤ 68 ∧ s14 = .int .i64 (t : Int) ∧ s13 = .string (strOf (E ++ flatD sv t)) ∧ Ext w7 wr) (fun _ x _ => 68 - (intOf x).toNat)
 case atStart => exact ⟨0,by omega,rfl,by unfold flatD;simp,Ext.refl _⟩
 case round =>
  obtain ⟨t,ht,rfl,rfl,hE⟩ := hrel
  have E8 := hid hE
  clear hE
  obtain ⟨wo,rfl⟩ : ∃ x : World,x = wr := ⟨_,rfl⟩
  by_cases hlt : t < 68
  ·have HC := hid (fun W hW => HAD.out t W hlt hW)
   have HS := hid (fun W hW => HST.out t W hlt hW)
   have HCD : Hid (∀ W,Ext w7 W → W.cell? ⟨gd,t,none⟩ = some (.int .i64 (dgN D t : Int))) := hid (fun W hW => DC7.out.ext hW t hlt)
   generalize dgN D t = dv at *
   have HD := hid (HSV.out t)
   have HTN : Hid (t + 1 ≤ 68) := hid hlt
   have hs1 : (strOf (E ++ flatD sv t)).size ≤ 2000 := by rw [strOf_size,List.length_append,HFV.out];have := HE9.out;omega
   have hs2 : (strOf (sv t)).size = 16 := dig_size HD.out
   have HSN : Hid (strOf (E ++ flatD sv t) ++ strOf (sv t) = strOf (E ++ flatD sv (t + 1))) := hid (by rw [strOf_two,flatD_succ,List.append_assoc])
   obtain ⟨U,hU⟩ : ∃ U,U = sv t := ⟨_,rfl⟩
   rw [← hU] at HC HD hs2 HSN
   obtain ⟨X,hX⟩ : ∃ X,X = strOf (E ++ flatD sv t) := ⟨_,rfl⟩
   rw [← hX] at hs1 HSN ⊢
   obtain ⟨S,hS⟩ : ∃ S,S = startD seed (i : Int) (t : Int) := ⟨_,rfl⟩
   rw [← hS] at HC HS
   have E8W := hid (E7.out.next E8.out)
   clear hU hX hS
   go_upto_region 14 with fail
   rw [show decide ((t : Int) < 68) = true from decide_eq_true (by have := HTN.out;omega)]
   refine wp_region_flowF 14 ?FW1 (fun us => ?_) (by kernel_rfl) (by kernel_rfl) (fun a b => Ext a b) Ext.refl (fun h1 h2 => h1.next h2) (fun fi v W => match fi with
    | 0 => v = .string X
    | 1 => v = .int .i64 (i : Int)
    | 2 => v = .int .i64 (t : Int)
    | 3 => v = .slice (some ⟨gd,0,none⟩) 68 cd
    | 4 => v = .int .i64 (t : Int)
    | 5 => v = .pointer (some ⟨gd,t,none⟩)
    | 6 => v = .int .i64 (dv : Int)
    | 7 => v = .string seed
    | 8 => v = .int .i64 (i : Int)
    | 9 => v = .int .i64 (t : Int)
    | 10 => v = .agg (u8s S).toArray
    | 11 => v = .agg (u8s U).toArray
    | 12 => v = .string (strOf U)
    | 13 => v = .string (X ++ strOf U)
    | _ => True) ?_ ?_
   case refine_1 =>
    simp only [List.take_succ_cons,List.take_zero,flowAct,Nat.zero_add,Nat.reduceAdd,Act.put,List.setIfInBounds_toArray,List.set_cons_succ,List.set_cons_zero]
    rfl
   ·simp only [List.take_succ_cons,List.take_zero,flowStepsF]
    refine ⟨?_,?_,?_,?_,?_,?_,?_,?_,?_,?_,?_,?_,?_,?_,trivial⟩
    ·intro us W K hE hd hK
     dsimp only at hK ⊢
     have HK := hid hK;have HE := hid hE
     clear hK hd hE
     go_wp2_with fail
     exact K_at (HK.out (.string X) W (fun _ _ => rfl) (Ext.refl W)) (by kernel_rfl)
    ·intro us W K hE hd hK
     dsimp only at hK ⊢
     have HK := hid hK;have HE := hid hE
     clear hK hd hE
     go_wp2_with fail
     exact K_at (HK.out (.int .i64 (i : Int)) W (fun _ _ => rfl) (Ext.refl W)) (by kernel_rfl)
    ·intro us W K hE hd hK
     dsimp only at hK ⊢
     have HK := hid hK;have HE := hid hE
     clear hK hd hE
     go_wp2_with fail
     exact K_at (HK.out (.int .i64 (t : Int)) W (fun _ _ => rfl) (Ext.refl W)) (by kernel_rfl)
    ·intro us W K hE hd hK
     dsimp only at hK ⊢
     have HK := hid hK;have HE := hid hE
     clear hK hd hE
     go_wp2_with fail
     exact K_at (HK.out (.slice (some ⟨gd,0,none⟩) 68 cd) W (fun _ _ => rfl) (Ext.refl W)) (by kernel_rfl)
    ·intro us W K hE hd hK
     dsimp only at hK ⊢
     have HK := hid hK;have HE := hid hE
     clear hK hd hE
     go_wp2_with fail
     exact K_at (HK.out (.int .i64 (t : Int)) W (fun _ _ => rfl) (Ext.refl W)) (by kernel_rfl)
    ·intro us W K hE hd hK
     have d3 := hd 3 (by kernel_rfl)
     have d4 := hd 4 (by kernel_rfl)
     dsimp only at hK ⊢
     rw [d3,d4] at hK ⊢
     have HK := hid hK;have HE := hid hE
     clear hK hd hE d3 d4
     go_wp2_with fail
     exact K_at (HK.out (.pointer (some ⟨gd,t,none⟩)) W (fun _ _ => rfl) (Ext.refl W)) (by kernel_rfl)
    ·intro us W K hE hd hK
     have d5 := hd 5 (by kernel_rfl)
     have cc := HCD.out W (E8.out.next (sg_udrew hE))
     dsimp only at hK ⊢
     rw [d5] at hK ⊢
     have HK := hid hK;have HE := hid hE
     clear hK hd hE d5
     go_wp2_with fail
     exact K_at (HK.out (.int .i64 (dv : Int)) W (fun _ _ => rfl) (Ext.refl W)) (by kernel_rfl)
    ·intro us W K hE hd hK
     dsimp only at hK ⊢
     have HK := hid hK;have HE := hid hE
     clear hK hd hE
     go_wp2_with fail
     exact K_at (HK.out (.string seed) W (fun _ _ => rfl) (Ext.refl W)) (by kernel_rfl)
    ·intro us W K hE hd hK
     dsimp only at hK ⊢
     have HK := hid hK;have HE := hid hE
     clear hK hd hE
     go_wp2_with fail
     exact K_at (HK.out (.int .i64 (i : Int)) W (fun _ _ => rfl) (Ext.refl W)) (by kernel_rfl)
    ·intro us W K hE hd hK
     dsimp only at hK ⊢
     have HK := hid hK;have HE := hid hE
     clear hK hd hE
     go_wp2_with fail
     exact K_at (HK.out (.int .i64 (t : Int)) W (fun _ _ => rfl) (Ext.refl W)) (by kernel_rfl)
    ·intro us W K hE hd hK
     have d7 := hd 7 (by kernel_rfl)
     have d8 := hd 8 (by kernel_rfl)
     have d9 := hd 9 (by kernel_rfl)
     have HSW := hid (HS.out W (E7.out.next (E8.out.next (sg_udrew hE))))
     dsimp only at hK ⊢
     rw [d7,d8,d9] at hK ⊢
     have HK := hid hK;have HE := hid hE
     clear hK hd hE d7 d8 d9
     go_wp2_with ((go_at_call 100;(with_reducible refine HSW.out.mono ?_);rintro e w6 ⟨rfl,hB6⟩))
     exact K_at (HK.out (.agg (u8s S).toArray) w6 (fun _ _ => rfl) hB6) (by kernel_rfl)
    ·intro us W K hE hd hK
     have d1 := hd 1 (by kernel_rfl)
     have d2 := hd 2 (by kernel_rfl)
     have d6 := hd 6 (by kernel_rfl)
     have d10 := hd 10 (by kernel_rfl)
     have HCW := hid (HC.out W (E7.out.next (E8.out.next (sg_udrew hE))))
     dsimp only at hK ⊢
     rw [d1,d2,d6,d10] at hK ⊢
     have HK := hid hK;have HE := hid hE
     clear hK hd hE d1 d2 d6 d10
     go_wp2_with ((go_at_call 99;(with_reducible refine HCW.out.mono ?_);rintro e w6 ⟨rfl,hB6⟩))
     exact K_at (HK.out (.agg (u8s U).toArray) w6 (fun _ _ => rfl) hB6) (by kernel_rfl)
    ·intro us W K hE hd hK
     have d11 := hd 11 (by kernel_rfl)
     dsimp only at hK ⊢
     rw [d11] at hK ⊢
     have HK := hid hK;have HE := hid hE
     clear hK hd hE d11
     go_wp2_with ((go_at_call 51;(with_reducible refine (rtext_any U W HD.out.l).mono ?_);rintro e w6 ⟨rfl,hB6⟩))
     exact K_at (HK.out (.string (strOf U)) w6 (fun _ _ => rfl) hB6) (by kernel_rfl)
    ·intro us W K hE hd hK
     have d0 := hd 0 (by kernel_rfl)
     have d12 := hd 12 (by kernel_rfl)
     dsimp only at hK ⊢
     rw [d0,d12] at hK ⊢
     have HK := hid hK;have HE := hid hE
     clear hK hd hE d0 d12
     go_wp2_with fail
     exact K_at (HK.out (.string (X ++ strOf U)) W (fun _ _ => rfl) (Ext.refl W)) (by kernel_rfl)
   ·intro us W hE hd
    try dsimp only
    have d13 := hd 13 (by decide)
    simp only [List.drop_succ_cons,List.drop_zero]
    rw [d13]
    have EW := hid (E8.out.next (sg_udrew hE))
    clear hd hE d13
    go_wp2_with fail
    exact ⟨⟨t + 1,HTN.out,by go_num,by rw [HSN.out],EW.out⟩,by have := HTN.out;simp [intOf];omega⟩
  ·obtain rfl : t = 68 := by omega
   rw [← HL1E.out]
   have HLL : Hid (L1.length ≤ 1200) := hid (by rw [HL1E.out,List.length_append,HFV.out];have := HE9.out;omega)
   go_wp2_with fail
   go_loopw [13,15,16,17] (fun s13 s15 s16 _ wr => ∃ t : Nat,t ≤ h ∧ s16 = .int .i64 (t : Int) ∧ s15 = .int .i64 ((i / 2 ^ t : Nat) : Int) ∧ s13 = .string (strOf (L1 ++ flatD sp t)) ∧ Ext w7 wr) (fun _ _ x _ _ => h - (intOf x).toNat)
   case atStart => exact ⟨0,by omega,rfl,by simp,by unfold flatD;simp,E8.out⟩
   case round =>
    clear E8
    obtain ⟨t,ht,rfl,rfl,rfl,hE⟩ := hrel
    have E8 := hid hE
    clear hE
    obtain ⟨wo,rfl⟩ : ∃ x : World,x = wr := ⟨_,rfl⟩
    by_cases hlt : t < h
    ·obtain ⟨gl,cl,hcl,hrl⟩ := HTL.out t wo g hlt (T7.out.ext E8.out)
     have HRL := hid hrl
     have HTN : Hid (t + 1 ≤ h) := hid hlt
     have hth1 : t < h + 1 := by omega
     have HD := hid (HSP.out t)
     have hs1 : (strOf (L1 ++ flatD sp t)).size ≤ 2000 := by rw [strOf_size,List.length_append,HFP.out];have := HLL.out;omega
     have hs2 : (strOf (sp t)).size = 16 := dig_size HD.out
     have HSN : Hid (strOf (L1 ++ flatD sp t) ++ strOf (sp t) = strOf (L1 ++ flatD sp (t + 1))) := hid (by rw [strOf_two,flatD_succ,List.append_assoc])
     obtain ⟨U,hU⟩ : ∃ U,U = sp t := ⟨_,rfl⟩
     rw [← hU] at HRL HD hs2 HSN
     obtain ⟨X,hX⟩ : ∃ X,X = strOf (L1 ++ flatD sp t) := ⟨_,rfl⟩
     rw [← hX] at hs1 HSN ⊢
     have HUL : Hid ((u8s U).length = 16) := hid (by rw [u8s_len];exact HD.out.l)
     have hs64 : i / 2 ^ t < 64 := by
      have := Nat.div_le_self i (2 ^ t)
      omega
     have hsl := HSI.out t hlt
     have HHP : Hid (i / 2 ^ t / 2 = i / 2 ^ (t + 1)) := hid (half_pow i t)
     have hsb : sib i t = (i / 2 ^ t) ^^^ 1 := rfl
     obtain ⟨s,hs⟩ : ∃ s,s = i / 2 ^ t := ⟨_,rfl⟩
     rw [← hs] at hs64 HHP hsb ⊢
     have hq : ((s : Nat) : Int).tdiv 2 = ((s / 2 : Nat) : Int) := rfl
     have hr : ((s : Nat) : Int).tmod 2 = ((s % 2 : Nat) : Int) := rfl
     obtain ⟨q,hq'⟩ : ∃ q,q = sib i t := ⟨_,rfl⟩
     rw [← hq'] at HRL hsl hsb
     obtain ⟨m,hm'⟩ : ∃ m,m = 2 ^ (h - t) := ⟨_,rfl⟩
     rw [← hm'] at hcl hsl
     clear hU hX hs hrl hq' hm'
     by_cases hod : s % 2 = 1
     ·have hqs : q + 1 = s := by rw [hsb,xor1_odd s hs64 hod];omega
      have hz1 : decide ((s : Int).tmod 2 = 1) = true := decide_eq_true (by rw [hr];omega)
      clear hsb
      have hq0 : (0 : Int) ≤ (s : Int) - 1 := by omega
      have hwd : IntKind.i64.wrap ((s : Int) - 1) = (q : Int) := by rw [wrap_id _ (by omega) (by omega)];omega
      go_wp2_with (first
       | (refine wpList_midw (by rfl) 26 (.tmp 87) rfl gl (q * 16) rfl (u8s U) HRL.out Tryz.underlying26 rfl (dg_info.trans (congrArg some HUL.out.symm)) ?_)
       | (go_at_call 51;(with_reducible refine (rtext_any U wo HD.out.l).mono ?_);rintro e w9 ⟨rfl,hE9⟩;have E9 : Hid (Ext w7 w9) := hid (E8.out.next hE9);clear hE9))
      go_roundw
      case rel =>
       refine ⟨_,_,_,_,_,_,_,_,_,_,_,_,_,_,_,_,_,_,_,_,_,_,_,_,_,_,_,_,?_,rfl⟩
       exact ⟨t + 1,HTN.out,by go_num,by rw [← HHP.out];rfl,by rw [HSN.out],E9.out⟩
      case measure => have := HTN.out;simp [intOf];omega
     ·have hqs : q = s + 1 := by rw [hsb,xor1_even s hs64 hod]
      have hz1 : decide ((s : Int).tmod 2 = 1) = false := decide_eq_false (by rw [hr];omega)
      clear hsb
      subst hqs
      go_wp2_with (first
       | (refine wpList_midw (by rfl) 26 (.tmp 87) rfl gl ((s + 1) * 16) rfl (u8s U) HRL.out Tryz.underlying26 rfl (dg_info.trans (congrArg some HUL.out.symm)) ?_)
       | (go_at_call 51;(with_reducible refine (rtext_any U wo HD.out.l).mono ?_);rintro e w9 ⟨rfl,hE9⟩;have E9 : Hid (Ext w7 w9) := hid (E8.out.next hE9);clear hE9))
      go_roundw
      case rel =>
       refine ⟨_,_,_,_,_,_,_,_,_,_,_,_,_,_,_,_,_,_,_,_,_,_,_,_,_,_,_,_,?_,rfl⟩
       exact ⟨t + 1,HTN.out,by go_num,by rw [← HHP.out];rfl,by rw [HSN.out],E9.out⟩
      case measure => have := HTN.out;simp [intOf];omega
    ·obtain rfl : t = h := by omega
     go_wp2_with fail
     go_ret2
     exact ⟨rfl,E7.out.next E8.out⟩
end Go.Proofs.YtjeecfjeooehhaaGreatDoor
