/- ReviewSigns: for all arguments the law answers true and leaves them as they were. No condition (the tables are laid). -/
import Derived.Test.YtjeecfjeooehhaaGreatDoorM21
import Derived.Test.YtjeecfjeooehhaaGreatDoorM23
import Derived.Test.YtjeecfjeooehhaaGreatDoorM44
import Derived.Test.YtjeecfjeooehhaaGreatDoorM45
import Derived.Test.YtjeecfjeooehhaaGreatDoorM24
import Derived.Test.YtjeecfjeooehhaaGreatDoorM26
set_option linter.unusedSimpArgs false
set_option linter.unusedVariables false
set_option maxHeartbeats 16000000
set_option maxRecDepth 100000
namespace Go.Proofs.YtjeecfjeooehhaaGreatDoor
open Go.RowKit Go.WideShapes Go.ChangeShapes
open Lib (hid)
theorem rs_tdiv {b : Int} (k : Int) (hk : 0 < k) (h0 : i64 b) : i64 (b.tdiv k) := by
 have h1 : (b.tdiv k).natAbs ≤ b.natAbs := by rw [Int.natAbs_tdiv];exact Nat.div_le_self _ _
 have h2 : -9223372036854775808 ≤ b ∧ b ≤ 9223372036854775807 := h0
 have h3 : 0 ≤ b → 0 ≤ b.tdiv k := fun h => Int.tdiv_nonneg h (by omega)
 show -9223372036854775808 ≤ b.tdiv k ∧ b.tdiv k ≤ 9223372036854775807
 by_cases hb : 0 ≤ b
 ·have := h3 hb;omega
 ·have h4 : b.tdiv k ≤ 0 := by
   have e : b.tdiv k = -((-b).tdiv k) := by rw [Int.neg_tdiv,Int.neg_neg]
   have h5 : 0 ≤ (-b).tdiv k := Int.tdiv_nonneg (by omega) (by omega)
   omega
  omega
theorem revOf_Ws (l : List Int) : RevW (revOf l) := revW_of (by unfold encE;rw [if_pos (revOf_valid l)];rfl)
theorem spoil_sl (r : Rev) (how b : Int) (h : r.sl.size ≤ 1201) : (spoil r how b).sl.size ≤ 1201 := by
 unfold spoil
 split
 all_goals first | exact h | (have := spLen_le b;show (strOf (List.replicate (spLen b) 0)).size ≤ _;rw [strOf_size,List.length_replicate];omega)
theorem seven (ht : Int) (h : i64 ht) (a : Nat) (ha : a < 7) : ∃ H : Int,([.int .i64 2,.int .i64 2,.int .i64 1,.int .i64 0,.int .i64 5,.int .i64 (-1),.int .i64 (min ht 2)] : List Value)[a]'ha = .int .i64 H ∧ i64 H ∧ H ≤ 5 := by
 have h2 : -9223372036854775808 ≤ ht ∧ ht ≤ 9223372036854775807 := h
 match a,ha with
 | 0,_ => exact ⟨2,rfl,⟨by decide,by decide⟩,by decide⟩
 | 1,_ => exact ⟨2,rfl,⟨by decide,by decide⟩,by decide⟩
 | 2,_ => exact ⟨1,rfl,⟨by decide,by decide⟩,by decide⟩
 | 3,_ => exact ⟨0,rfl,⟨by decide,by decide⟩,by decide⟩
 | 4,_ => exact ⟨5,rfl,⟨by decide,by decide⟩,by decide⟩
 | 5,_ => exact ⟨-1,rfl,⟨by decide,by decide⟩,by decide⟩
 | 6,_ => exact ⟨min ht 2,rfl,⟨by omega,by omega⟩,by omega⟩
theorem pub_winfo : (Tryz.prog.info? 56).map (fun i => (i.zero,i.size,i.bytes)) = some (some (.agg (pubC (List.replicate 16 0) 0).toArray),17,24) := by kernel_rfl
theorem pubsC_snoc (L : List (List Int × Int)) (d : List Int) (h : Int) : pubsC (L ++ [(d,h)]) = pubsC L ++ pubC d h := by
 unfold pubsC
 rw [List.flatMap_append]
 simp
section
attribute [local go_sem ↓] wp_at_zero wp_at_succ
theorem walk_signs (l : List Int) (A : Option Addr) (n c : Nat) (how b ht : Int) (w : World) (hl : Rd w w.heap.size A n (l.map (Value.int .i64))) (hwf : ∀ x ∈ l,-9223372036854775808 ≤ x ∧ x ≤ 9223372036854775807) (hh : i64 how) (hb : i64 b) (hht : i64 ht) (hK : KTab w) (hT : RTab w) :
  Calls Tryz.prog 4 #[.slice A n c,.int .i64 how,.int .i64 b,.int .i64 ht] w fun e w' => e = .returned (.bool true) ∧ Ext w w' := by
 obtain ⟨i0,hi,hz0,hz1,hz2⟩ := info_parts pub_winfo
 have HRV := hid (review_far l A n c w hl hwf)
 have HWW : Hid (RevW (revOf l)) := hid (revOf_Ws l)
 have HMN : Hid ((revOf l).ops.length ≤ 4) := hid (revOf_many l)
 have HSL : Hid ((revOf l).sl.size ≤ 1201) := hid (Nat.zero_le _)
 obtain ⟨r,hr⟩ : ∃ r,r = revOf l := ⟨_,rfl⟩
 rw [← hr] at HRV HWW HMN HSL
 have HH := hid hh;have HB := hid hb;have HHT := hid hht
 have HK := hid hK;have HT := hid hT
 have hq9 := rs_tdiv 9 (by decide) hh
 have HQ27 := hid (rs_tdiv 27 (by decide) hh)
 have hk9 := aroI_bd (how.tdiv 9) 3 (by decide)
 have HA9 : Hid (∀ W,Calls Tryz.prog 12 #[.int .i64 (how.tdiv 9),.int .i64 3] W fun e w' => e = .returned (.int .i64 (aroI (how.tdiv 9) 3)) ∧ W = w') := hid (fun W => around_any (how.tdiv 9) 3 W hq9.1 hq9.2 (by decide) (by decide))
 obtain ⟨a9,ha9⟩ : ∃ a,a = aroI (how.tdiv 9) 3 := ⟨_,rfl⟩
 rw [← ha9] at HA9
 have hk7 := aroI_bd ht 7 (by decide)
 obtain ⟨a7,ha7⟩ : ∃ a : Nat,(a : Int) = aroI ht 7 := ⟨(aroI ht 7).toNat,Int.toNat_of_nonneg hk7.1⟩
 have HA7 : Hid (∀ W,Calls Tryz.prog 12 #[.int .i64 ht,.int .i64 7] W fun e w' => e = .returned (.int .i64 (a7 : Int)) ∧ W = w') := hid (fun W => by rw [ha7];exact around_any ht 7 W hht.1 hht.2 (by decide) (by decide))
 have ha77 : a7 < 7 := by omega
 have hk2 := aroI_bd b 2 (by decide)
 obtain ⟨a2,ha2⟩ : ∃ a : Nat,(a : Int) = aroI b 2 := ⟨(aroI b 2).toNat,Int.toNat_of_nonneg hk2.1⟩
 have HA2 : Hid (∀ W,Calls Tryz.prog 12 #[.int .i64 b,.int .i64 2] W fun e w' => e = .returned (.int .i64 (a2 : Int)) ∧ W = w') := hid (fun W => by rw [ha2];exact around_any b 2 W hb.1 hb.2 (by decide) (by decide))
 have ha22 : a2 < 2 := by omega
 obtain ⟨hh0,hh1⟩ := hh
 clear hl hwf hr hb hht hK hT hq9 hk9 ha9 hk7 ha7 hk2 ha2
 have zz : ∀ W,(zeroValue 28).run Tryz.prog W = .ok (.agg Z0.toArray) W := fun W => by kernel_rfl
 go_enter Tryz.func4,Tryz.ntmps4
 go_upto_region 2 with (first
  | (go_at_call 6;(with_reducible refine HRV.out.mono ?_);rintro e w1 ⟨⟨A1,n1,c1,rfl,hv1,hf1⟩,hE1⟩;have V1 := hid hv1;have E1 := hid hE1;have L1 : Hid ((revC r A1 n1 c1).length = 22) := hid (revC_len _ _ _ _ hv1.mean);clear hv1 hf1 hE1)
  | (refine wpList_store_freshw rfl 28 (.tmp 9) (.tmp 22) rfl w1.heap.size rfl Z0 (revC r A1 n1 c1) 28 (by kernel_rfl) (by kernel_rfl) (info_rev.trans (congrArg some L1.out.symm)) (Eq.trans (b := 22) rfl L1.out.symm) (revC_one _ _ _ _) ?_;intro w2 hw2 hE2 hz2;have B2 := hid hw2;have V2 := hid (RevV.ext V1.out hE2);have E2 := hid (E1.out.next hE2);have HGW : Hid (w.heap.size ≤ w1.heap.size) := hid E1.out.size;clear hw2 hE2 hz2))
 obtain ⟨g9,hg9⟩ : ∃ g,g = w1.heap.size := ⟨_,rfl⟩
 rw [← hg9] at B2 HGW ⊢
 clear hg9
 have HN1 : Hid (n1 ≤ 4) := hid (by have h1 := V1.out.len;have h2 := HMN.out;omega)
 simp only [Act.put]
 go_upto_if 26 with (go_at_call 12;(with_reducible refine (HA9.out _).mono ?_);rintro e w3 ⟨rfl,rfl⟩)
 generalize (a9 == (0 : Int)) = cb
 go_cut [] from 23 to 30 (fun wx => ∃ r2 A2 n2 c2,Blk wx g9 28 (revC r2 A2 n2 c2) ∧ RevV wx r2 A2 n2 c2 ∧ RevW r2 ∧ n2 ≤ 38 ∧ r2.sl.size ≤ 1201 ∧ Ext w wx)
 case first =>
  cases cb
  case true =>
   have HSP : Hid (∀ W,Ext w2 W → Calls Tryz.prog 15 #[.agg (revC r A1 n1 c1).toArray,.int .i64 how,.int .i64 b] W fun e w' => (∃ A' n' c',e = .returned (.agg (revC (spoil r how b) A' n' c').toArray) ∧ RevV w' (spoil r how b) A' n' c' ∧ n' ≤ n1 + 34 ∧ ∀ a,A' = some a → W.heap.size ≤ a.block) ∧ Ext W w') := hid (fun W hW => spoilt_far r how b A1 n1 c1 W (V2.out.ext hW) (Nat.le_trans HN1.out (by decide)) HH.out.1 HH.out.2 HB.out.1 HB.out.2)
   have HSW : Hid (RevW (spoil r how b) ∧ (spoil r how b).sl.size ≤ 1201) := hid ⟨spoil_W how HWW.out (Nat.le_trans HMN.out (by decide)) HB.out,spoil_sl r how b HSL.out⟩
   generalize spoil r how b = s at *
   have hlt9 := hid B2.out.lt
   go_wp2_with (first
    | (refine wpList_load_blk rfl 28 (.tmp 9) rfl g9 (by kernel_rfl) B2.out Tryz.underlying28 rfl (info_rev.trans (congrArg some L1.out.symm)) ?_)
    | (go_at_call 15;(with_reducible refine (HSP.out w2 (Ext.refl _)).mono ?_);rintro e w3 ⟨⟨A3,n3,c3,rfl,hv3,hn3,hf3⟩,hE3⟩;have V3 := hid hv3;have HN3 := hid hn3;have HF3 := hid hf3;have L3 : Hid ((revC s A3 n3 c3).length = 22) := hid (revC_len _ _ _ _ hv3.mean);have B3 := hid (B2.out.ext hE3);have E3 := hid (E2.out.next hE3);clear hv3 hE3 hn3 hf3)
    | (refine wpList_store_blk rfl 28 (.tmp 9) (.tmp 30) (by rfl) g9 (revC s A3 n3 c3) (by kernel_rfl) (by kernel_rfl) B3.out (info_rev.trans (congrArg some L3.out.symm)) (L1.out.trans L3.out.symm) (revC_one _ _ _ _) ?_;intro w4 hw4 hb4;have B4 := hid hb4;have K4 : Hid (Kept (fun bb => bb = g9) w3 w4) := hid (by rw [hw4.out];exact Kept.setRow (F := fun bb => bb = g9) w3 rfl _);clear hw4 hb4))
   go_meet
   refine ⟨s,A3,n3,c3,B4.out,?_,HSW.out.1,?_,HSW.out.2,ext_kept E3.out K4.out (fun bb hbb => by rw [hbb];exact HGW.out)⟩
   ·have h1 : RXV w3 ⟨s,A3,n3,c3⟩ := V3.out
    exact RXV.kept h1 K4.out (fun a h0 hA e => by
     have h := HF3.out a hA
     have h2 := hlt9.out
     rw [e] at h
     omega)
   ·have h1 := HN3.out;have h2 := HN1.out;omega
  case false =>
   go_wp2_with fail
   go_meet
   exact ⟨r,A1,n1,c1,B2.out,V2.out,HWW.out,Nat.le_trans HN1.out (by decide),HSL.out,E2.out⟩
 case rest =>
 obtain ⟨r2,A2,n2,c2,hb2,hv2,hw2,hn2,hs2,hE2⟩ := hcut
 have B9 := hid hb2;have V9 := hid hv2;have W9 := hid hw2;have N9 := hid hn2;have S9 := hid hs2;have E9 := hid hE2
 have L9 : Hid ((revC r2 A2 n2 c2).length = 22) := hid (revC_len _ _ _ _ hv2.mean)
 clear hb2 hv2 hw2 hn2 hs2 hE2
 clear HRV HWW HMN HSL B2 V2 E2 V1 E1 L1 HN1
 obtain ⟨w4,rfl⟩ : ∃ x : World,x = wc := ⟨_,rfl⟩
 go_upto_region 4 with fail
 go_cut [10] from 31 to 37 (fun s10 wx => ∃ H : Int,s10 = .int .i64 H ∧ i64 H ∧ H ≤ 5 ∧ Ext w4 wx)
 case first =>
  have HSV := hid (seven ht HHT.out)
  go_wp2_with (go_at_call 12;(with_reducible refine (HA7.out _).mono ?_);rintro e w3 ⟨rfl,rfl⟩)
  go_meet
  obtain ⟨H,h1,h2,h3⟩ := HSV.out a7 ha77
  exact ⟨H,h1,h2,h3,(Ext.refl w4).alloc _⟩
 case rest =>
 obtain ⟨H,rfl,hHi,hH5,hEc⟩ := hcut
 obtain ⟨w5,rfl⟩ : ∃ x : World,x = wc := ⟨_,rfl⟩
 have B5 := hid (B9.out.ext hEc);have V5 := hid (RevV.ext V9.out hEc);have E5 := hid (E9.out.next hEc)
 clear B9 V9 E9 hEc
 have HSD : Hid (∀ W,Calls Tryz.prog 16 #[.int .i64 r2.shop] W fun e w' => (∃ s : ByteArray,e = .returned (.string s) ∧ s.size = 32) ∧ Ext W w') := hid (fun W => rseed_any r2.shop W W9.out.shop)
 have c0 : w5.cell? ⟨g9,0,none⟩ = some (.int .i64 r2.shop) := B5.out.cell 0
 go_upto_region 6 with (go_at_call 16;(with_reducible refine (HSD.out _).mono ?_);rintro e w6 ⟨⟨seed,rfl,hsd⟩,hE6⟩;have SD := hid hsd;have B6 := hid (B5.out.ext hE6);have V6 := hid (RevV.ext V5.out hE6);have E6 := hid (E5.out.next hE6);clear hsd hE6)
 clear c0
 have HS1 : Hid (∀ W,Ext w6 W → Calls Tryz.prog 17 #[.agg #[.string seed,.int .i64 H],.agg (revC r2 A2 n2 c2).toArray] W fun e w' => (∃ A' n' c',e = .returned (.tuple #[.agg (revC (sigR seed H r2) A' n' c').toArray,.int .i64 (sigE H r2)]) ∧ RevV w' (sigR seed H r2) A' n' c' ∧ n' ≤ n2) ∧ Ext W w') := hid (fun W hW => sig_all seed H r2 A2 n2 c2 W SD.out (RevV.ext V6.out hW) W9.out (HK.out.below (E6.out.next hW)))
 have HS2 : Hid (∀ W,Ext w6 W → Calls Tryz.prog 18 #[.string seed,.int .i64 H,.agg (revC r2 A2 n2 c2).toArray] W fun e w' => (∃ A' n' c',e = .returned (.tuple #[.agg (revC (sigR seed H r2) A' n' c').toArray,.int .i64 (sigE H r2)]) ∧ RevV w' (sigR seed H r2) A' n' c' ∧ n' ≤ n2) ∧ Ext W w') := hid (fun W hW => rsig_all seed H r2 A2 n2 c2 W SD.out (RevV.ext V6.out hW) W9.out (HT.out.below (E6.out.next hW)))
 have HYW := hid (sigR_W seed H W9.out)
 generalize sigR seed H r2 = y at *
 generalize sigE H r2 = er at *
 have hee : (er != er) = false := by simp
 go_upto_region 8 with (first
  | (refine wpList_load_blk rfl 28 (.tmp 9) rfl g9 (by kernel_rfl) B6.out Tryz.underlying28 rfl (info_rev.trans (congrArg some L9.out.symm)) ?_)
  | (go_at_call 17;(with_reducible refine (HS1.out w6 (Ext.refl _)).mono ?_);rintro e w7 ⟨⟨A7,n7,c7,rfl,hv7,hn7⟩,hE7⟩;have V7 := hid hv7;have L7 : Hid ((revC y A7 n7 c7).length = 22) := hid (revC_len _ _ _ _ hv7.mean);have E7 := hid hE7;have B7 := hid (B6.out.ext hE7);clear hv7 hn7 hE7)
  | (refine wpList_store_freshw rfl 28 (.tmp 12) (.tmp 47) rfl w7.heap.size rfl Z0 (revC y A7 n7 c7) 28 (by kernel_rfl) (by kernel_rfl) (info_rev.trans (congrArg some L7.out.symm)) (Eq.trans (b := 22) rfl L7.out.symm) (revC_one _ _ _ _) ?_;intro w8 hw8 hE8 hz8;have B12 := hid hw8;have V8 := hid (RevV.ext V7.out hE8);have E8 := hid (E7.out.next hE8);have B8 := hid (B7.out.ext hE8);clear hw8 hE8 hz8)
  | (refine wpList_load_blk rfl 28 (.tmp 9) rfl g9 (by kernel_rfl) B8.out Tryz.underlying28 rfl (info_rev.trans (congrArg some L9.out.symm)) ?_)
  | (go_at_call 18;(with_reducible refine (HS2.out w8 E8.out).mono ?_);rintro e w9 ⟨⟨A9,n9,c9,rfl,hv9,hn9⟩,hE9⟩;have V9 := hid hv9;have N9y := hid hn9;have L9y : Hid ((revC y A9 n9 c9).length = 22) := hid (revC_len _ _ _ _ hv9.mean);have E9 := hid (E8.out.next hE9);have B9 := hid (B8.out.ext hE9);have B129 := hid (B12.out.ext hE9);have V79 := hid (RevV.ext V8.out hE9);clear hv9 hn9 hE9)
  | (refine wpList_store_freshw rfl 28 (.tmp 14) (.tmp 54) rfl w9.heap.size rfl Z0 (revC y A9 n9 c9) 28 (by kernel_rfl) (by kernel_rfl) (info_rev.trans (congrArg some L9y.out.symm)) (Eq.trans (b := 22) rfl L9y.out.symm) (revC_one _ _ _ _) ?_;intro w10 hw10 hE10 hz10;have B14 := hid hw10;have V10 := hid (RevV.ext V9.out hE10);have V7a := hid (RevV.ext V79.out hE10);have E10 := hid (E9.out.next hE10);have B10 := hid (B9.out.ext hE10);have B12a := hid (B129.out.ext hE10);clear hw10 hE10 hz10))
 clear B5 V5 HS1 HS2 V7 B7 B12 V8 B8 V9 B9 B129 V79 E7 E8 E9
 have HSM : Hid (∀ W,Ext w10 W → Calls Tryz.prog 11 #[.agg (revC y A7 n7 c7).toArray,.agg (revC y A9 n9 c9).toArray] W fun e w' => e = .returned (.bool true) ∧ Ext W w') := hid (fun W hW => by
  have h := rsame_any y y A7 A9 n7 c7 n9 c9 W (RevV.ext V7a.out hW) HYW.out.1 (RevV.ext V10.out hW) HYW.out.1
  rw [decide_eq_true rfl] at h
  exact h)
 obtain ⟨g12,hg12⟩ : ∃ g,g = w7.heap.size := ⟨_,rfl⟩
 obtain ⟨g14,hg14⟩ : ∃ g,g = w9.heap.size := ⟨_,rfl⟩
 rw [← hg12] at B12a ⊢
 rw [← hg14] at B14 ⊢
 clear hg12 hg14
 go_upto_region 10 with (first
  | (refine wpList_load_want (by rfl) 28 (.tmp 12) rfl g12 (by kernel_rfl) B12a.out Tryz.underlying28 rfl (info_rev.trans (congrArg some L7.out.symm)) ?_)
  | (refine wpList_load_want (by rfl) 28 (.tmp 14) rfl g14 (by kernel_rfl) B14.out Tryz.underlying28 rfl (info_rev.trans (congrArg some L9y.out.symm)) ?_)
  | (go_at_call 11;(with_reducible refine (HSM.out w10 (Ext.refl _)).mono ?_);rintro e w11 ⟨rfl,hE11⟩;have B11 := hid (B10.out.ext hE11);have B14b := hid (B14.out.ext hE11);have V11 := hid (RevV.ext V10.out hE11);have V6b := hid (RevV.ext V6.out (E10.out.next hE11));have E610 := hid (E10.out.next hE11);clear hE11))
 clear B6 V6 V7a B10 B12a HSM V10 E10 HSD
 have E11 : Hid (Ext w w11) := hid (E6.out.next E610.out)
 obtain ⟨hx,hhx⟩ : ∃ x,x = min (max H 0) 2 := ⟨_,rfl⟩
 have hx02 : 0 ≤ hx ∧ hx ≤ 2 := by omega
 have HPU : Hid (∀ (s : ByteArray) (W : World),s.size = 32 → Ext w11 W → Calls Tryz.prog 19 #[.string s,.int .i64 (min (max H 0) 2)] W fun e w' => (∃ d,Dig d ∧ e = .returned (.tuple #[.agg (pubC d hx).toArray,.int .i64 0])) ∧ Ext W w') := hid (fun s W hs hW => by
  rw [← hhx]
  obtain ⟨hp,rfl⟩ : ∃ h : Nat,hx = (h : Int) := ⟨hx.toNat,by omega⟩
  exact (qpublic_any s hp _ W hs (by omega) rfl (HT.out.below (E11.out.next hW))).mono fun e w' hq => ⟨⟨_,nodeV_dig _ _ _,hq.1⟩,hq.2⟩)
 clear hhx
 have HSD : Hid (∀ (t : Nat) W,t ≤ 3 → Calls Tryz.prog 16 #[.int .i64 (t : Int)] W fun e w' => (∃ s : ByteArray,e = .returned (.string s) ∧ s.size = 32) ∧ Ext W w') := hid (fun t W ht3 => rseed_any t W ⟨by omega,by omega⟩)
 go_wp2_with fail
 go_loopw [16,17,18,19] (fun s16 s17 s18 s19 wr => ∃ (t : Nat) (L : List (List Int × Int)) (A' : Option Addr) (c' : Nat),t ≤ 2 + a2 ∧ s16 = .slice A' t c' ∧ s17 = .int .i64 (t : Int) ∧ L.length = t ∧ wr.ownsRow w11.heap.size 56 17 (.slice A' t c') t (pubsC L) ∧ (∀ x ∈ L,PubOk x) ∧ Ext w11 wr) (fun _ s17 _ _ _ => 3 - (intOf s17).toNat)
 case atStart => exact ⟨0,[],none,0,Nat.zero_le _,rfl,rfl,rfl,World.ownsRow_nil _ _ _ _,(fun x hx => by cases hx),Ext.refl _⟩
 case round =>
  obtain ⟨t,L,A',c',htc,rfl,rfl,hLl,hown,hLP,hE⟩ := hrel
  obtain ⟨wi,rfl⟩ : ∃ x : World,x = wr := ⟨_,rfl⟩
  have HOW := hid hown;have HLL := hid hLl;have HLP := hid hLP;have EI := hid hE
  clear hown hLl hLP hE
  by_cases hlt : t < 2 + a2
  ·have hd1 : decide ((t : Int) < 2 + (a2 : Int)) = true := decide_eq_true (by omega)
   have hd2 : decide (t < 2 + a2) = true := decide_eq_true hlt
   have HLT := hid hlt
   have ht3 : t < 3 := by omega
   clear hlt htc
   go_upto_region 14 with (go_at_call 12;(with_reducible refine (HA2.out _).mono ?_);rintro e w12 ⟨rfl,rfl⟩)
   go_upto_region 15 with (first
    | (go_at_call 16;(with_reducible refine (HSD.out t _ (by omega)).mono ?_);rintro e w12 ⟨⟨s,rfl,hs⟩,hE12⟩;have SS := hid hs;have E12 := hid (EI.out.next hE12);have EW12 := hid hE12;clear hs hE12)
    | (go_at_call 19;(with_reducible refine (HPU.out s w12 SS.out E12.out).mono ?_);rintro e w13 ⟨⟨d,hd,rfl⟩,hE13⟩;have DD := hid hd;have E13 := hid (EW12.out.next hE13);have LP : Hid ((pubC d hx).length = 17) := hid (pubC_len _ _ hd.l);clear hd hE13)
    | (refine wpList_store_freshw rfl 56 (.tmp 18) (.tmp 79) rfl w13.heap.size rfl (pubC (List.replicate 16 0) 0) (pubC d hx) 56 (by kernel_rfl) (by kernel_rfl) (pub_info.trans (congrArg some LP.out.symm)) (Eq.trans (b := 17) rfl LP.out.symm) (pubC_one _ _) ?_;intro w14 hw14 hE14 hz14;have BP := hid hw14;have E14 := hid (E13.out.next hE14);clear hw14 hE14 hz14))
   obtain ⟨gp,hgp⟩ : ∃ g,g = w13.heap.size := ⟨_,rfl⟩
   rw [← hgp] at BP ⊢
   clear hgp
   have HO14 : Hid (w14.ownsRow w11.heap.size 56 17 (.slice A' t c') t (pubsC L)) := hid ((Kept.of_ext (F := fun _ => False) E14.out).own HOW.out (fun _ _ h => h))
   have EI14 : Hid (Ext w11 w14) := hid (EI.out.next E14.out)
   have hlp := LP.out
   go_wp2_with (first
    | (refine wpList_load_blk rfl 56 (.tmp 18) rfl gp (by kernel_rfl) BP.out Tryz.underlying56 rfl (pub_info.trans (congrArg some LP.out.symm)) ?_)
    | (at_builtin;(refine wpList_app rfl (.tmp 81) (.tmp 83) 54 rfl w11.heap.size 56 i0 (.agg (pubC (List.replicate 16 0) 0).toArray) 17 24 Tryz.underlying54 hi hz0 hz1 hz2 rfl (by omega) A' t c' (pubsC L) (by kernel_rfl) (HO14.out.alloc _) (w14.heap.size + 1) (some ⟨w14.heap.size,0,none⟩) 1 1 (pubC d hx) (by kernel_rfl) (RdN.fresh (pubC d hx) _ _ 17 1 (by rw [fold_set];rw [LP.out];rfl) rfl LP.out) (pubC_one _ _) (by simp only [maxLen];omega) (by omega) (by have h1 := EI14.out.size;simp;omega) ?_;intro A7 c7 w15 ho7 hg7;have HO7 := hid ho7;have E7 : Hid (Ext w11 w15) := hid (below_app (EI14.out.alloc _) hg7 (HO14.out.alloc _) (Nat.le_refl _) (by have h1 := EI14.out.size;simp;omega));clear ho7 hg7)))
   refine ⟨⟨t + 1,L ++ [(d,hx)],A7,c7,HLT.out,rfl,by go_num,by rw [List.length_append,HLL.out];rfl,?_,?_,E7.out⟩,by simp [intOf];omega⟩
   ·rw [pubsC_snoc]
    exact HO7.out
   ·intro x hx'
    rcases List.mem_append.1 hx' with h | h
    ·exact HLP.out x h
    ·rw [List.mem_singleton.1 h]
     exact ⟨DD.out,hx02.1,by show hx ≤ 4;omega⟩
  ·have hd1 : decide ((t : Int) < 2 + (a2 : Int)) = false := decide_eq_false (by omega)
   have hd2 : decide (t < 2 + a2) = false := decide_eq_false (by omega)
   have HSP : Hid (∀ W,Ext w11 W → Calls Tryz.prog 15 #[.agg (revC y A9 n9 c9).toArray,.int .i64 (how.tdiv 27),.int .i64 b] W fun e w' => (∃ A' n' c',e = .returned (.agg (revC (spoil y (how.tdiv 27) b) A' n' c').toArray) ∧ RevV w' (spoil y (how.tdiv 27) b) A' n' c') ∧ Ext W w') := hid (fun W hW => (spoilt_any y (how.tdiv 27) b A9 n9 c9 W (V11.out.ext hW) (Nat.le_trans N9y.out (Nat.le_trans N9.out (by decide))) HQ27.out.1 HQ27.out.2 HB.out.1 HB.out.2).mono fun e w' ⟨⟨A',n',c',h1,h2,_⟩,h3⟩ => ⟨⟨A',n',c',h1,h2⟩,h3⟩)
   have HYS : Hid (y.sl.size ≤ 1000000) := hid (Nat.le_trans HYW.out.2 (by decide))
   have HYM : Hid (y.ops.length ≤ 500) := hid (by have h1 := V11.out.len;have h2 := N9y.out;have h3 := N9.out;omega)
   have HZW : Hid (RevW (spoil y (how.tdiv 27) b)) := hid (spoil_W _ HYW.out.1 HYM.out HB.out)
   have HZS : Hid ((spoil y (how.tdiv 27) b).sl.size ≤ 1000000) := hid (Nat.le_trans (spoil_sl y _ b (Nat.le_trans HYW.out.2 (by decide))) (by decide))
   generalize spoil y (how.tdiv 27) b = z at *
   have HRS : Hid (r2.sl.size ≤ 1000000) := hid (Nat.le_trans S9.out (by decide))
   clear hlt htc
   go_upto_region 17 with (first
    | (go_at_call 12;(with_reducible refine (HA2.out _).mono ?_);rintro e w12 ⟨rfl,rfl⟩)
    | (refine wpList_load_blk rfl 28 (.tmp 14) rfl g14 (by kernel_rfl) (B14b.out.ext EI.out) Tryz.underlying28 rfl (info_rev.trans (congrArg some L9y.out.symm)) ?_)
    | (go_at_call 15;(with_reducible refine (HSP.out wi EI.out).mono ?_);rintro e w12 ⟨⟨A12,n12,c12,rfl,hv12⟩,hE12⟩;have V12 := hid hv12;have L12 : Hid ((revC z A12 n12 c12).length = 22) := hid (revC_len _ _ _ _ hv12.mean);have E12 := hid hE12;clear hv12 hE12)
    | (refine wpList_store_freshw rfl 28 (.tmp 20) (.tmp 89) rfl w12.heap.size rfl Z0 (revC z A12 n12 c12) 28 (by kernel_rfl) (by kernel_rfl) (info_rev.trans (congrArg some L12.out.symm)) (Eq.trans (b := 22) rfl L12.out.symm) (revC_one _ _ _ _) ?_;intro w13 hw13 hE13 hz13;have B20 := hid hw13;have V13 := hid (RevV.ext V12.out hE13);have E13 := hid (E12.out.next hE13);clear hw13 hE13 hz13))
   obtain ⟨g20,hg20⟩ : ∃ g,g = w12.heap.size := ⟨_,rfl⟩
   rw [← hg20] at B20 ⊢
   clear hg20
   have EX : Hid (Ext w11 w13) := hid (EI.out.next E13.out)
   have B14c := hid (B14b.out.ext EX.out)
   have B9c := hid (B11.out.ext EX.out)
   have HRD : Hid (∀ W,Ext w13 W → RdN W W.heap.size 17 A' t (pubsC L)) := hid (fun W hW => rdn_own ((Kept.of_ext (F := fun _ => False) (E13.out.next hW)).own HOW.out (fun _ _ h => h)))
   have EWW : Hid (Ext w w13) := hid (E11.out.next EX.out)
   have KP : Hid (∀ W,Ext w13 W → KTab W ∧ RTab W) := hid (fun W hW => ⟨HK.out.below (EWW.out.next hW),HT.out.below (EWW.out.next hW)⟩)
   have VY : Hid (∀ W,Ext w13 W → RevV W y A9 n9 c9) := hid (fun W hW => V11.out.ext (EX.out.next hW))
   have VR : Hid (∀ W,Ext w13 W → RevV W r2 A2 n2 c2) := hid (fun W hW => V6b.out.ext (EX.out.next hW))
   obtain ⟨e1,he1⟩ : ∃ e,e = verE L y := ⟨_,rfl⟩
   obtain ⟨e2,he2⟩ : ∃ e,e = verE L z := ⟨_,rfl⟩
   obtain ⟨e3,he3⟩ : ∃ e,e = verE L r2 := ⟨_,rfl⟩
   have C1 : Hid (∀ W,Ext w13 W → Calls Tryz.prog 20 #[.slice A' t c',.agg (revC y A9 n9 c9).toArray] W fun e w' => e = .returned (.int .i64 e1) ∧ Ext W w') := hid (fun W hW => by rw [he1];exact ver_all y L A9 A' n9 c9 t c' W (VY.out W hW) HYW.out.1 HYS.out HLP.out HLL.out (HRD.out W hW) (KP.out W hW).1)
   have C2 : Hid (∀ W,Ext w13 W → Calls Tryz.prog 21 #[.slice A' t c',.agg (revC y A9 n9 c9).toArray] W fun e w' => e = .returned (.int .i64 e1) ∧ Ext W w') := hid (fun W hW => by rw [he1];exact rver_all y L A9 A' n9 c9 t c' W (VY.out W hW) HYW.out.1 HYS.out HLP.out HLL.out (HRD.out W hW) (KP.out W hW).2)
   have C3 : Hid (∀ W,Ext w13 W → Calls Tryz.prog 20 #[.slice A' t c',.agg (revC z A12 n12 c12).toArray] W fun e w' => e = .returned (.int .i64 e2) ∧ Ext W w') := hid (fun W hW => by rw [he2];exact ver_all z L A12 A' n12 c12 t c' W (V13.out.ext hW) HZW.out HZS.out HLP.out HLL.out (HRD.out W hW) (KP.out W hW).1)
   have C4 : Hid (∀ W,Ext w13 W → Calls Tryz.prog 21 #[.slice A' t c',.agg (revC z A12 n12 c12).toArray] W fun e w' => e = .returned (.int .i64 e2) ∧ Ext W w') := hid (fun W hW => by rw [he2];exact rver_all z L A12 A' n12 c12 t c' W (V13.out.ext hW) HZW.out HZS.out HLP.out HLL.out (HRD.out W hW) (KP.out W hW).2)
   have C5 : Hid (∀ W,Ext w13 W → Calls Tryz.prog 20 #[.slice A' t c',.agg (revC r2 A2 n2 c2).toArray] W fun e w' => e = .returned (.int .i64 e3) ∧ Ext W w') := hid (fun W hW => by rw [he3];exact ver_all r2 L A2 A' n2 c2 t c' W (VR.out W hW) W9.out HRS.out HLP.out HLL.out (HRD.out W hW) (KP.out W hW).1)
   have C6 : Hid (∀ W,Ext w13 W → Calls Tryz.prog 21 #[.slice A' t c',.agg (revC r2 A2 n2 c2).toArray] W fun e w' => e = .returned (.int .i64 e3) ∧ Ext W w') := hid (fun W hW => by rw [he3];exact rver_all r2 L A2 A' n2 c2 t c' W (VR.out W hW) W9.out HRS.out HLP.out HLL.out (HRD.out W hW) (KP.out W hW).2)
   have CL : Hid (∀ W,Calls Tryz.prog 14 #[] W fun e w' => e = .returned (.bool true) ∧ Ext W w') := hid lives_any
   clear he1 he2 he3 HA2 HSP HPU HSD
   clear hd1 hx02 ha22 ha77 hH5 hHi hh0 hh1
   refine wp_region_flowF 29 ?FW1 (fun us => ?_) (by kernel_rfl) (by kernel_rfl) (fun a b => Ext a b) Ext.refl (fun h1 h2 => h1.next h2) (fun i v W => match i with
    | 0 => v = .slice A' t c'
    | 1 => v = .agg (revC y A9 n9 c9).toArray
    | 2 => v = .int .i64 e1
    | 3 => v = .slice A' t c'
    | 4 => v = .agg (revC y A9 n9 c9).toArray
    | 5 => v = .int .i64 e1
    | 6 => v = .bool true
    | 7 => v = .bool true
    | 8 => v = .slice A' t c'
    | 9 => v = .agg (revC z A12 n12 c12).toArray
    | 10 => v = .int .i64 e2
    | 11 => v = .slice A' t c'
    | 12 => v = .agg (revC z A12 n12 c12).toArray
    | 13 => v = .int .i64 e2
    | 14 => v = .bool true
    | 15 => v = .bool true
    | 16 => v = .bool true
    | 17 => v = .slice A' t c'
    | 18 => v = .agg (revC r2 A2 n2 c2).toArray
    | 19 => v = .int .i64 e3
    | 20 => v = .slice A' t c'
    | 21 => v = .agg (revC r2 A2 n2 c2).toArray
    | 22 => v = .int .i64 e3
    | 23 => v = .bool true
    | 24 => v = .bool true
    | 25 => v = .bool true
    | 26 => v = .bool true
    | 27 => v = .bool true
    | 28 => v = .bool true
    | _ => True) ?_ ?_
   case refine_1 =>
    simp only [List.take_succ_cons,List.take_zero,flowAct,Nat.zero_add,Nat.reduceAdd,Act.put,List.setIfInBounds_toArray,List.set_cons_succ,List.set_cons_zero]
    rfl
   ·simp only [List.take_succ_cons,List.take_zero,flowStepsF]
    refine ⟨?_,?_,?_,?_,?_,?_,?_,?_,?_,?_,?_,?_,?_,?_,?_,?_,?_,?_,?_,?_,?_,?_,?_,?_,?_,?_,?_,?_,?_,trivial⟩
    ·intro us W K hE hd hK
     dsimp only at hK ⊢
     have HK := hid hK;have HE := hid hE
     clear hK hd hE
     go_wp2_with fail
     exact K_at (HK.out (.slice A' t c') W (fun _ _ => rfl) (Ext.refl W)) (by kernel_rfl)
    ·intro us W K hE hd hK
     have BW9 := hid (B14c.out.ext (sg_undrew hE))
     dsimp only at hK ⊢
     have HK := hid hK;have HE := hid hE
     clear hK hd hE
     go_wp2_with ((refine wpList_load_want (by rfl) 28 (.tmp 14) rfl g14 (by kernel_rfl) BW9.out Tryz.underlying28 rfl (info_rev.trans (congrArg some L9y.out.symm)) ?_))
     exact K_at (HK.out (.agg (revC y A9 n9 c9).toArray) W (fun _ _ => rfl) (Ext.refl W)) (by kernel_rfl)
    ·intro us W K hE hd hK
     have d0 := hd 0 (by kernel_rfl)
     have d1 := hd 1 (by kernel_rfl)
     dsimp only at hK ⊢
     rw [d0,d1] at hK ⊢
     have HK := hid hK;have HE := hid hE
     clear hK hd hE d0 d1
     go_wp2_with ((go_at_call 20;(with_reducible refine (C1.out W (sg_undrew HE.out)).mono ?_);rintro e w99 ⟨rfl,hB9⟩))
     exact K_at (HK.out (.int .i64 e1) w99 (fun _ _ => rfl) hB9) (by kernel_rfl)
    ·intro us W K hE hd hK
     dsimp only at hK ⊢
     have HK := hid hK;have HE := hid hE
     clear hK hd hE
     go_wp2_with fail
     exact K_at (HK.out (.slice A' t c') W (fun _ _ => rfl) (Ext.refl W)) (by kernel_rfl)
    ·intro us W K hE hd hK
     have BW9 := hid (B14c.out.ext (sg_undrew hE))
     dsimp only at hK ⊢
     have HK := hid hK;have HE := hid hE
     clear hK hd hE
     go_wp2_with ((refine wpList_load_want (by rfl) 28 (.tmp 14) rfl g14 (by kernel_rfl) BW9.out Tryz.underlying28 rfl (info_rev.trans (congrArg some L9y.out.symm)) ?_))
     exact K_at (HK.out (.agg (revC y A9 n9 c9).toArray) W (fun _ _ => rfl) (Ext.refl W)) (by kernel_rfl)
    ·intro us W K hE hd hK
     have d3 := hd 3 (by kernel_rfl)
     have d4 := hd 4 (by kernel_rfl)
     dsimp only at hK ⊢
     rw [d3,d4] at hK ⊢
     have HK := hid hK;have HE := hid hE
     clear hK hd hE d3 d4
     go_wp2_with ((go_at_call 21;(with_reducible refine (C2.out W (sg_undrew HE.out)).mono ?_);rintro e w99 ⟨rfl,hB9⟩))
     exact K_at (HK.out (.int .i64 e1) w99 (fun _ _ => rfl) hB9) (by kernel_rfl)
    ·intro us W K hE hd hK
     have d2 := hd 2 (by kernel_rfl)
     have d5 := hd 5 (by kernel_rfl)
     dsimp only at hK ⊢
     rw [d2,d5] at hK ⊢
     have HK := hid hK;have HE := hid hE
     clear hK hd hE d2 d5
     go_wp2_with fail
     exact K_at (HK.out (.bool true) W (fun _ _ => rfl) (Ext.refl W)) (by kernel_rfl)
    ·intro us W K hE hd hK
     have d6 := hd 6 (by kernel_rfl)
     dsimp only at hK ⊢
     rw [d6] at hK ⊢
     have HK := hid hK;have HE := hid hE
     clear hK hd hE d6
     go_wp2_with fail
     exact K_at (HK.out (.bool true) W (fun _ _ => rfl) (Ext.refl W)) (by kernel_rfl)
    ·intro us W K hE hd hK
     have d7 := hd 7 (by kernel_rfl)
     dsimp only at hK ⊢
     rw [d7] at hK ⊢
     have HK := hid hK;have HE := hid hE
     clear hK hd hE d7
     go_wp2_with fail
     exact K_at (HK.out (.slice A' t c') W (fun _ _ => rfl) (Ext.refl W)) (by kernel_rfl)
    ·intro us W K hE hd hK
     have d7 := hd 7 (by kernel_rfl)
     have BW9 := hid (B20.out.ext (sg_undrew hE))
     dsimp only at hK ⊢
     rw [d7] at hK ⊢
     have HK := hid hK;have HE := hid hE
     clear hK hd hE d7
     go_wp2_with ((refine wpList_load_want (by rfl) 28 (.tmp 20) rfl g20 (by kernel_rfl) BW9.out Tryz.underlying28 rfl (info_rev.trans (congrArg some L12.out.symm)) ?_))
     exact K_at (HK.out (.agg (revC z A12 n12 c12).toArray) W (fun _ _ => rfl) (Ext.refl W)) (by kernel_rfl)
    ·intro us W K hE hd hK
     have d7 := hd 7 (by kernel_rfl)
     have d8 := hd 8 (by kernel_rfl)
     have d9 := hd 9 (by kernel_rfl)
     dsimp only at hK ⊢
     rw [d7,d8,d9] at hK ⊢
     have HK := hid hK;have HE := hid hE
     clear hK hd hE d7 d8 d9
     go_wp2_with ((go_at_call 20;(with_reducible refine (C3.out W (sg_undrew HE.out)).mono ?_);rintro e w99 ⟨rfl,hB9⟩))
     exact K_at (HK.out (.int .i64 e2) w99 (fun _ _ => rfl) hB9) (by kernel_rfl)
    ·intro us W K hE hd hK
     have d7 := hd 7 (by kernel_rfl)
     dsimp only at hK ⊢
     rw [d7] at hK ⊢
     have HK := hid hK;have HE := hid hE
     clear hK hd hE d7
     go_wp2_with fail
     exact K_at (HK.out (.slice A' t c') W (fun _ _ => rfl) (Ext.refl W)) (by kernel_rfl)
    ·intro us W K hE hd hK
     have d7 := hd 7 (by kernel_rfl)
     have BW9 := hid (B20.out.ext (sg_undrew hE))
     dsimp only at hK ⊢
     rw [d7] at hK ⊢
     have HK := hid hK;have HE := hid hE
     clear hK hd hE d7
     go_wp2_with ((refine wpList_load_want (by rfl) 28 (.tmp 20) rfl g20 (by kernel_rfl) BW9.out Tryz.underlying28 rfl (info_rev.trans (congrArg some L12.out.symm)) ?_))
     exact K_at (HK.out (.agg (revC z A12 n12 c12).toArray) W (fun _ _ => rfl) (Ext.refl W)) (by kernel_rfl)
    ·intro us W K hE hd hK
     have d7 := hd 7 (by kernel_rfl)
     have d11 := hd 11 (by kernel_rfl)
     have d12 := hd 12 (by kernel_rfl)
     dsimp only at hK ⊢
     rw [d7,d11,d12] at hK ⊢
     have HK := hid hK;have HE := hid hE
     clear hK hd hE d7 d11 d12
     go_wp2_with ((go_at_call 21;(with_reducible refine (C4.out W (sg_undrew HE.out)).mono ?_);rintro e w99 ⟨rfl,hB9⟩))
     exact K_at (HK.out (.int .i64 e2) w99 (fun _ _ => rfl) hB9) (by kernel_rfl)
    ·intro us W K hE hd hK
     have d7 := hd 7 (by kernel_rfl)
     have d10 := hd 10 (by kernel_rfl)
     have d13 := hd 13 (by kernel_rfl)
     dsimp only at hK ⊢
     rw [d7,d10,d13] at hK ⊢
     have HK := hid hK;have HE := hid hE
     clear hK hd hE d7 d10 d13
     go_wp2_with fail
     exact K_at (HK.out (.bool true) W (fun _ _ => rfl) (Ext.refl W)) (by kernel_rfl)
    ·intro us W K hE hd hK
     have d7 := hd 7 (by kernel_rfl)
     have d14 := hd 14 (by kernel_rfl)
     dsimp only at hK ⊢
     rw [d7,d14] at hK ⊢
     have HK := hid hK;have HE := hid hE
     clear hK hd hE d7 d14
     go_wp2_with fail
     exact K_at (HK.out (.bool true) W (fun _ _ => rfl) (Ext.refl W)) (by kernel_rfl)
    ·intro us W K hE hd hK
     have d15 := hd 15 (by kernel_rfl)
     dsimp only at hK ⊢
     rw [d15] at hK ⊢
     have HK := hid hK;have HE := hid hE
     clear hK hd hE d15
     go_wp2_with fail
     exact K_at (HK.out (.bool true) W (fun _ _ => rfl) (Ext.refl W)) (by kernel_rfl)
    ·intro us W K hE hd hK
     have d16 := hd 16 (by kernel_rfl)
     dsimp only at hK ⊢
     rw [d16] at hK ⊢
     have HK := hid hK;have HE := hid hE
     clear hK hd hE d16
     go_wp2_with fail
     exact K_at (HK.out (.slice A' t c') W (fun _ _ => rfl) (Ext.refl W)) (by kernel_rfl)
    ·intro us W K hE hd hK
     have d16 := hd 16 (by kernel_rfl)
     have BW9 := hid (B9c.out.ext (sg_undrew hE))
     dsimp only at hK ⊢
     rw [d16] at hK ⊢
     have HK := hid hK;have HE := hid hE
     clear hK hd hE d16
     go_wp2_with ((refine wpList_load_want (by rfl) 28 (.tmp 9) rfl g9 (by kernel_rfl) BW9.out Tryz.underlying28 rfl (info_rev.trans (congrArg some L9.out.symm)) ?_))
     exact K_at (HK.out (.agg (revC r2 A2 n2 c2).toArray) W (fun _ _ => rfl) (Ext.refl W)) (by kernel_rfl)
    ·intro us W K hE hd hK
     have d16 := hd 16 (by kernel_rfl)
     have d17 := hd 17 (by kernel_rfl)
     have d18 := hd 18 (by kernel_rfl)
     dsimp only at hK ⊢
     rw [d16,d17,d18] at hK ⊢
     have HK := hid hK;have HE := hid hE
     clear hK hd hE d16 d17 d18
     go_wp2_with ((go_at_call 20;(with_reducible refine (C5.out W (sg_undrew HE.out)).mono ?_);rintro e w99 ⟨rfl,hB9⟩))
     exact K_at (HK.out (.int .i64 e3) w99 (fun _ _ => rfl) hB9) (by kernel_rfl)
    ·intro us W K hE hd hK
     have d16 := hd 16 (by kernel_rfl)
     dsimp only at hK ⊢
     rw [d16] at hK ⊢
     have HK := hid hK;have HE := hid hE
     clear hK hd hE d16
     go_wp2_with fail
     exact K_at (HK.out (.slice A' t c') W (fun _ _ => rfl) (Ext.refl W)) (by kernel_rfl)
    ·intro us W K hE hd hK
     have d16 := hd 16 (by kernel_rfl)
     have BW9 := hid (B9c.out.ext (sg_undrew hE))
     dsimp only at hK ⊢
     rw [d16] at hK ⊢
     have HK := hid hK;have HE := hid hE
     clear hK hd hE d16
     go_wp2_with ((refine wpList_load_want (by rfl) 28 (.tmp 9) rfl g9 (by kernel_rfl) BW9.out Tryz.underlying28 rfl (info_rev.trans (congrArg some L9.out.symm)) ?_))
     exact K_at (HK.out (.agg (revC r2 A2 n2 c2).toArray) W (fun _ _ => rfl) (Ext.refl W)) (by kernel_rfl)
    ·intro us W K hE hd hK
     have d16 := hd 16 (by kernel_rfl)
     have d20 := hd 20 (by kernel_rfl)
     have d21 := hd 21 (by kernel_rfl)
     dsimp only at hK ⊢
     rw [d16,d20,d21] at hK ⊢
     have HK := hid hK;have HE := hid hE
     clear hK hd hE d16 d20 d21
     go_wp2_with ((go_at_call 21;(with_reducible refine (C6.out W (sg_undrew HE.out)).mono ?_);rintro e w99 ⟨rfl,hB9⟩))
     exact K_at (HK.out (.int .i64 e3) w99 (fun _ _ => rfl) hB9) (by kernel_rfl)
    ·intro us W K hE hd hK
     have d16 := hd 16 (by kernel_rfl)
     have d19 := hd 19 (by kernel_rfl)
     have d22 := hd 22 (by kernel_rfl)
     dsimp only at hK ⊢
     rw [d16,d19,d22] at hK ⊢
     have HK := hid hK;have HE := hid hE
     clear hK hd hE d16 d19 d22
     go_wp2_with fail
     exact K_at (HK.out (.bool true) W (fun _ _ => rfl) (Ext.refl W)) (by kernel_rfl)
    ·intro us W K hE hd hK
     have d16 := hd 16 (by kernel_rfl)
     have d23 := hd 23 (by kernel_rfl)
     dsimp only at hK ⊢
     rw [d16,d23] at hK ⊢
     have HK := hid hK;have HE := hid hE
     clear hK hd hE d16 d23
     go_wp2_with fail
     exact K_at (HK.out (.bool true) W (fun _ _ => rfl) (Ext.refl W)) (by kernel_rfl)
    ·intro us W K hE hd hK
     have d24 := hd 24 (by kernel_rfl)
     dsimp only at hK ⊢
     rw [d24] at hK ⊢
     have HK := hid hK;have HE := hid hE
     clear hK hd hE d24
     go_wp2_with fail
     exact K_at (HK.out (.bool true) W (fun _ _ => rfl) (Ext.refl W)) (by kernel_rfl)
    ·intro us W K hE hd hK
     have d25 := hd 25 (by kernel_rfl)
     dsimp only at hK ⊢
     rw [d25] at hK ⊢
     have HK := hid hK;have HE := hid hE
     clear hK hd hE d25
     go_wp2_with ((go_at_call 14;(with_reducible refine (CL.out W).mono ?_);rintro e w99 ⟨rfl,hB9⟩))
     exact K_at (HK.out (.bool true) w99 (fun _ _ => rfl) hB9) (by kernel_rfl)
    ·intro us W K hE hd hK
     have d25 := hd 25 (by kernel_rfl)
     have d26 := hd 26 (by kernel_rfl)
     dsimp only at hK ⊢
     rw [d25,d26] at hK ⊢
     have HK := hid hK;have HE := hid hE
     clear hK hd hE d25 d26
     go_wp2_with fail
     exact K_at (HK.out (.bool true) W (fun _ _ => rfl) (Ext.refl W)) (by kernel_rfl)
    ·intro us W K hE hd hK
     have d27 := hd 27 (by kernel_rfl)
     dsimp only at hK ⊢
     rw [d27] at hK ⊢
     have HK := hid hK;have HE := hid hE
     clear hK hd hE d27
     go_wp2_with fail
     exact K_at (HK.out (.bool true) W (fun _ _ => rfl) (Ext.refl W)) (by kernel_rfl)
   ·intro us W hE hd
    try dsimp only
    have d28 := hd 28 (by decide)
    simp only [List.drop_succ_cons,List.drop_zero]
    rw [d28]
    have EW := hid (EWW.out.next (sg_undrew hE))
    clear hd hE d28
    go_wp2_with fail
    go_ret
    exact ⟨rfl,EW.out⟩
end
end Go.Proofs.YtjeecfjeooehhaaGreatDoor
/- The tables of constants as the rows list them. No condition. -/
namespace Go.Proofs.YtjeecfjeooehhaaGreatDoor
open Go.RowKit Go.WideShapes Go.ChangeShapes
open Lib (hid)
theorem gK : Tryz.prog.globalNamed "splicery/hash.constants" = some 3 := by kernel_rfl
theorem gKt : (Tryz.prog.globals[3]?).map (·.type) = some 227 := by kernel_rfl
theorem gR : Tryz.prog.globalNamed "splicery/spliceryref02.constants" = some 1 := by kernel_rfl
theorem gRt : (Tryz.prog.globals[1]?).map (·.type) = some 227 := by kernel_rfl
theorem cells64 : Tryz.prog.cellsOf 227 = 64 := by kernel_rfl
theorem cellsu32 : Tryz.prog.cellsOf 191 = 1 := by kernel_rfl
theorem laid_k {W : World} {rest : List (String × DataW Unit)} (h : laidMet Tryz.prog (("splicery/hash.constants",Rows.laid_splicery_hash_constants) :: rest) W) : KTab W :=
 tab_of_is (Lib.tabIs_of_head (k := .u32) (zs := kc) gK gKt Tryz.underlying227 Tryz.underlying191 cellsu32 cells64 h) gK
theorem laid_r {W : World} {rest : List (String × DataW Unit)} (h : laidMet Tryz.prog (("splicery/spliceryref02.constants",Rows.laid_splicery_spliceryref02_constants) :: rest) W) : RTab W :=
 tab_of_is (Lib.tabIs_of_head (k := .u32) (zs := kc) gR gRt Tryz.underlying227 Tryz.underlying191 cellsu32 cells64 h) gR
end Go.Proofs.YtjeecfjeooehhaaGreatDoor
