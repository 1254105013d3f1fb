/- The reference's Sign of a review, road by road. Conditions: RevV; a seed of 32 bytes; the table of constants is laid. -/
import Derived.Test.YtjeecfjeooehhaaGreatDoorM39
import Derived.Test.YtjeecfjeooehhaaGreatDoorM40
import Derived.Test.YtjeecfjeooehhaaGreatDoorM11
import Derived.Test.YtjeecfjeooehhaaGreatDoorM15
set_option linter.unusedSimpArgs false
set_option linter.unusedVariables false
set_option maxHeartbeats 16000000
set_option maxRecDepth 100000
namespace Go.Proofs.YtjeecfjeooehhaaGreatDoor
open Go.RowKit
open Lib (hid)
attribute [local go_sem ↓] wp_at_zero wp_at_succ
theorem rsig_invalid (seed : ByteArray) (H : Int) (r : Rev) (A : Option Addr) (n c : Nat) (w : World) (hr : RevV w r A n c) (hv : validE r ≠ 0) :
  Calls Tryz.prog 18 #[.string seed,.int .i64 H,.agg (revC r A n c).toArray] w fun e w' => e = .returned (.tuple #[.agg Z0.toArray,.int .i64 (validE r)]) ∧ Ext w w' := by
 have HCL : Hid ((revC r A n c).length = 22) := hid (revC_len _ _ _ _ hr.mean)
 have HR := hid hr
 have HVL : Hid (∀ W,Ext w W → Calls Tryz.prog 42 #[.agg (revC r A n c).toArray] W fun e w' => e = .returned (.int .i64 (validE r)) ∧ Ext W w') := hid (fun W hW => rvalid_any r A n c W (HR.out.ext hW))
 generalize validE r = V at *
 have hvn : (V != (0 : Int)) = true := by rw [bne_iff_ne];exact hv
 clear hr hv
 go_enter Tryz.func18,Tryz.ntmps18
 go_upto_region 1 with fail
 obtain ⟨w2,hw2⟩ : ∃ x,x = (w.alloc (.cells (revC r A n c).toArray 28)).alloc (.cells Z0.toArray 28) := ⟨_,rfl⟩
 change Code.wp _ _ _ _ ((w.alloc (.cells (revC r A n c).toArray 28)).alloc (.cells Z0.toArray 28))
 rw [← hw2]
 have E2 : Hid (Ext w w2) := hid (by rw [hw2];exact ((Ext.refl w).alloc _).alloc _)
 have BR : Hid (Blk w2 w.heap.size 28 (revC r A n c)) := hid (by rw [hw2];exact (Blk.fresh' _ _ _ _ _ rfl rfl).alloc _)
 have BZ : Hid (Blk w2 (w.heap.size + 1) 28 Z0) := hid (by rw [hw2];exact Blk.fresh' _ _ _ _ _ rfl (by simp))
 clear hw2
 go_wp2_with (first
  | (refine wpList_load_blk rfl 28 (.tmp 5) rfl w.heap.size (by kernel_rfl) BR.out Tryz.underlying28 rfl (info_rev.trans (congrArg some HCL.out.symm)) ?_)
  | (go_at_call 42;(with_reducible refine (HVL.out w2 E2.out).mono ?_);rintro e w3 ⟨rfl,hE3⟩;have E3 : Hid (Ext w w3) := hid (E2.out.next hE3);have BR3 := hid (BR.out.ext hE3);have BZ3 := hid (BZ.out.ext hE3);clear hE3)
  | (refine wpList_build_eq (by rfl) 28 _ rfl _ (by kernel_rfl) Z0 build_rev0 ?_)
  | (refine wpList_store_blk rfl 28 (.tmp 6) (.tmp 17) (by rfl) (w.heap.size + 1) Z0 (by kernel_rfl) (by kernel_rfl) BZ3.out info_rev rfl (revC_one rev0 none 0 0) ?_;intro w9 hw9 hb9;have E9 : Hid (Ext w w9) := hid (by rw [hw9.out];exact E3.out.setRow (Nat.le_succ _) _);clear hw9))
 exact bodyPost_ret (results_blk_tmp Tryz.results18 _ _ (w.heap.size + 1) 28 Z0 _ rfl hb9 Tryz.underlying28 rfl info_rev) rfl ⟨rfl,E9.out⟩
theorem rsig_height (seed : ByteArray) (H : Int) (r : Rev) (A : Option Addr) (n c : Nat) (w : World) (hs : seed.size = 32) (hr : RevV w r A n c) (hv : validE r = 0) (hH : H < 0 ∨ 4 < H) :
  Calls Tryz.prog 18 #[.string seed,.int .i64 H,.agg (revC r A n c).toArray] w fun e w' => e = .returned (.tuple #[.agg Z0.toArray,.int .i64 1]) ∧ Ext w w' := by
 have HCL : Hid ((revC r A n c).length = 22) := hid (revC_len _ _ _ _ hr.mean)
 have HR := hid hr
 have HVL : Hid (∀ W,Ext w W → Calls Tryz.prog 42 #[.agg (revC r A n c).toArray] W fun e w' => e = .returned (.int .i64 0) ∧ Ext W w') := hid (fun W hW => by rw [← hv];exact rvalid_any r A n c W (HR.out.ext hW))
 obtain ⟨P0,hP0⟩ : ∃ P,P = pubC (List.replicate 16 0) 0 := ⟨_,rfl⟩
 have HPL : Hid (P0.length = 17) := hid (by rw [hP0];rfl)
 have HP1 : Hid (∀ v ∈ P0,v.oneCell' = true) := hid (by rw [hP0];exact pubC_one _ _)
 have HPU : Hid (∀ W,Calls Tryz.prog 19 #[.string seed,.int .i64 H] W fun e w' => e = .returned (.tuple #[.agg P0.toArray,.int .i64 1]) ∧ Ext W w') := hid (fun W => by
  rw [hP0]
  rcases hH with h | h
  ·exact qpublic_neg seed H W hs h
  ·exact qpublic_big seed H W hs h)
 clear hr hv hP0
 go_enter Tryz.func18,Tryz.ntmps18
 go_upto_region 1 with fail
 obtain ⟨w2,hw2⟩ : ∃ x,x = (w.alloc (.cells (revC r A n c).toArray 28)).alloc (.cells Z0.toArray 28) := ⟨_,rfl⟩
 change Code.wp _ _ _ _ ((w.alloc (.cells (revC r A n c).toArray 28)).alloc (.cells Z0.toArray 28))
 rw [← hw2]
 have E2 : Hid (Ext w w2) := hid (by rw [hw2];exact ((Ext.refl w).alloc _).alloc _)
 have BR : Hid (Blk w2 w.heap.size 28 (revC r A n c)) := hid (by rw [hw2];exact (Blk.fresh' _ _ _ _ _ rfl rfl).alloc _)
 have BZ : Hid (Blk w2 (w.heap.size + 1) 28 Z0) := hid (by rw [hw2];exact Blk.fresh' _ _ _ _ _ rfl (by simp))
 clear hw2
 go_wp2_with (first
  | (refine wpList_load_blk rfl 28 (.tmp 5) rfl w.heap.size (by kernel_rfl) BR.out Tryz.underlying28 rfl (info_rev.trans (congrArg some HCL.out.symm)) ?_)
  | (go_at_call 42;(with_reducible refine (HVL.out w2 E2.out).mono ?_);rintro e w3 ⟨rfl,hE3⟩;have E3 : Hid (Ext w w3) := hid (E2.out.next hE3);have BR3 := hid (BR.out.ext hE3);have BZ3 := hid (BZ.out.ext hE3);clear hE3)
  | (go_at_call 19;(with_reducible refine (HPU.out w3).mono ?_);rintro e w4 ⟨rfl,hE4⟩;have E4 : Hid (Ext w w4) := hid (E3.out.next hE4);have BZ4 := hid (BZ3.out.ext hE4);clear hE4)
  | (refine wpList_store_fresh rfl 56 (.tmp 9) (.tmp 23) rfl _ w4.heap.size rfl (pubC (List.replicate 16 0) 0) P0 56 (by rfl) (by kernel_rfl) rfl (pub_info.trans (congrArg some HPL.out.symm)) (by rw [HPL.out];rfl) HP1.out ?_;intro w7 hw7 hE7 hz7;have E7 : Hid (Ext w w7) := hid (E4.out.next hE7);have BZ7 := hid (BZ4.out.ext hE7);clear hw7 hE7 hz7)
  | (refine wpList_build_eq (by rfl) 28 _ rfl _ (by kernel_rfl) Z0 build_rev0 ?_)
  | (refine wpList_store_blk rfl 28 (.tmp 6) (.tmp 27) (by rfl) (w.heap.size + 1) Z0 (by kernel_rfl) (by kernel_rfl) BZ7.out info_rev rfl (revC_one rev0 none 0 0) ?_;intro w9 hw9 hb9;have E9 : Hid (Ext w w9) := hid (by rw [hw9.out];exact E7.out.setRow (Nat.le_succ _) _);clear hw9))
 exact bodyPost_ret (results_blk_tmp Tryz.results18 _ _ (w.heap.size + 1) 28 Z0 _ rfl hb9 Tryz.underlying28 rfl info_rev) rfl ⟨rfl,E9.out⟩
theorem rsig_spent (seed : ByteArray) (h p : Nat) (r : Rev) (A : Option Addr) (n c : Nat) (w : World) (hs : seed.size = 32) (hr : RevV w r A n c) (hv : validE r = 0) (h4 : h ≤ 4) (hp : p = 2 ^ h) (hq : (p : Int) < r.seq) (hK : RTab w) :
  Calls Tryz.prog 18 #[.string seed,.int .i64 (h : Int),.agg (revC r A n c).toArray] w fun e w' => e = .returned (.tuple #[.agg Z0.toArray,.int .i64 26]) ∧ Ext w w' := by
 have HCL : Hid ((revC r A n c).length = 22) := hid (revC_len _ _ _ _ hr.mean)
 have HR := hid hr
 have hp16 : p ≤ 16 := by
  have := Nat.pow_le_pow_right (show 0 < 2 by decide) h4
  omega
 have hp2 : (2 : Int) ^ h = (p : Int) := by rw [hp];exact_mod_cast rfl
 have HVL : Hid (∀ W,Ext w W → Calls Tryz.prog 42 #[.agg (revC r A n c).toArray] W fun e w' => e = .returned (.int .i64 0) ∧ Ext W w') := hid (fun W hW => by rw [← hv];exact rvalid_any r A n c W (HR.out.ext hW))
 obtain ⟨P0,hP0⟩ : ∃ P,P = pubC (nodeV seed h 0) (h : Int) := ⟨_,rfl⟩
 have HPL : Hid (P0.length = 17) := hid (by rw [hP0];exact pubC_len _ _ (nodeV_dig _ _ _).l)
 have HP1 : Hid (∀ v ∈ P0,v.oneCell' = true) := hid (by rw [hP0];exact pubC_one _ _)
 have HPU : Hid (∀ W,Ext w W → Calls Tryz.prog 19 #[.string seed,.int .i64 (h : Int)] W fun e w' => e = .returned (.tuple #[.agg P0.toArray,.int .i64 0]) ∧ Ext W w') := hid (fun W hW => by
  rw [hP0]
  exact qpublic_any seed h p W hs h4 hp (hK.below hW))
 have hwp : IntKind.i64.wrap (p : Int) = (p : Int) := wrap_id _ (by omega) (by omega)
 have hd1 : decide ((p : Int) < r.seq) = true := decide_eq_true hq
 clear hr hv hP0 hK hs hp
 go_enter Tryz.func18,Tryz.ntmps18
 go_upto_region 1 with fail
 obtain ⟨w2,hw2⟩ : ∃ x,x = (w.alloc (.cells (revC r A n c).toArray 28)).alloc (.cells Z0.toArray 28) := ⟨_,rfl⟩
 change Code.wp _ _ _ _ ((w.alloc (.cells (revC r A n c).toArray 28)).alloc (.cells Z0.toArray 28))
 rw [← hw2]
 have E2 : Hid (Ext w w2) := hid (by rw [hw2];exact ((Ext.refl w).alloc _).alloc _)
 have BR : Hid (Blk w2 w.heap.size 28 (revC r A n c)) := hid (by rw [hw2];exact (Blk.fresh' _ _ _ _ _ rfl rfl).alloc _)
 have BZ : Hid (Blk w2 (w.heap.size + 1) 28 Z0) := hid (by rw [hw2];exact Blk.fresh' _ _ _ _ _ rfl (by simp))
 clear hw2
 go_upto_region 7 with (first
  | (refine wpList_load_blk rfl 28 (.tmp 5) rfl w.heap.size (by kernel_rfl) BR.out Tryz.underlying28 rfl (info_rev.trans (congrArg some HCL.out.symm)) ?_)
  | (go_at_call 42;(with_reducible refine (HVL.out w2 E2.out).mono ?_);rintro e w3 ⟨rfl,hE3⟩;have E3 : Hid (Ext w w3) := hid (E2.out.next hE3);have BR3 := hid (BR.out.ext hE3);have BZ3 := hid (BZ.out.ext hE3);clear hE3)
  | (go_at_call 19;(with_reducible refine (HPU.out w3 E3.out).mono ?_);rintro e w4 ⟨rfl,hE4⟩;have E4 : Hid (Ext w w4) := hid (E3.out.next hE4);have BR4 := hid (BR3.out.ext hE4);have BZ4 := hid (BZ3.out.ext hE4);clear hE4)
  | (refine wpList_store_fresh rfl 56 (.tmp 9) (.tmp 23) rfl _ w4.heap.size rfl (pubC (List.replicate 16 0) 0) P0 56 (by rfl) (by kernel_rfl) rfl (pub_info.trans (congrArg some HPL.out.symm)) (by rw [HPL.out];rfl) HP1.out ?_;intro w7 hw7 hE7 hz7;have E7 : Hid (Ext w w7) := hid (E4.out.next hE7);have BR7 := hid (BR4.out.ext hE7);have BZ7 := hid (BZ4.out.ext hE7);clear hw7 hE7 hz7))
 have c1 : w7.cell? ⟨w.heap.size,1,none⟩ = some (.int .i64 r.seq) := BR7.out.cell 1
 go_quiet (fail)
 have BZD := hid (BZ7.out.ext ((Ext.refl w7).drewN nq))
 have ED : Hid (Ext w (w7.drewN nq)) := hid (E7.out.next ((Ext.refl w7).drewN nq))
 go_wp2_with (first
  | (refine wpList_build_eq (by rfl) 28 _ rfl _ (by kernel_rfl) Z0 build_rev0 ?_)
  | (refine wpList_store_blk rfl 28 (.tmp 6) (.tmp 34) (by rfl) (w.heap.size + 1) Z0 (by kernel_rfl) (by kernel_rfl) BZD.out info_rev rfl (revC_one rev0 none 0 0) ?_;intro w9 hw9 hb9;have E9 : Hid (Ext w w9) := hid (by rw [hw9.out];exact ED.out.setRow (Nat.le_succ _) _);clear hw9))
 exact bodyPost_ret (results_blk_tmp Tryz.results18 _ _ (w.heap.size + 1) 28 Z0 _ rfl hb9 Tryz.underlying28 rfl info_rev) rfl ⟨rfl,E9.out⟩
def sealed (r : Rev) (s : ByteArray) : Rev := { r with sl := s }
theorem revC_sealed (r : Rev) (s : ByteArray) (A : Option Addr) (n c : Nat) (h : r.mean.length = 16) : (revC r A n c).set 21 (.string s) = revC (sealed r s) A n c := by
 obtain ⟨s0,s1,s2,s3,s4,d,s5⟩ := r
 obtain ⟨x0,x1,x2,x3,x4,x5,x6,x7,x8,x9,xa,xb,xc,xd,xe,xf,rfl⟩ := list16 d h
 rfl
theorem rsig_ok (seed : ByteArray) (h p q : Nat) (r : Rev) (A : Option Addr) (n c : Nat) (w : World) (hs : seed.size = 32) (hr : RevV w r A n c) (hv : validE r = 0) (h4 : h ≤ 4) (hp : p = 2 ^ h) (hq : r.seq = (q : Int)) (hq1 : 1 ≤ q) (hqp : q ≤ p) (hw : RevW r) (hm : (msgS r).size ≤ 1000000) (hK : RTab w) :
  Calls Tryz.prog 18 #[.string seed,.int .i64 (h : Int),.agg (revC r A n c).toArray] w fun e w' => e = .returned (.tuple #[.agg (revC (sealed r (strOf (signL seed h (p - q) (msgS r)))) A n c).toArray,.int .i64 0]) ∧ Ext w w' := by
 have HCL : Hid ((revC r A n c).length = 22) := hid (revC_len _ _ _ _ hr.mean)
 have HR := hid hr
 have hp16 : p ≤ 16 := by
  have := Nat.pow_le_pow_right (show 0 < 2 by decide) h4
  omega
 have hp2 : (2 : Int) ^ h = (p : Int) := by rw [hp];exact_mod_cast rfl
 have HVL : Hid (∀ W,Ext w W → Calls Tryz.prog 42 #[.agg (revC r A n c).toArray] W fun e w' => e = .returned (.int .i64 0) ∧ Ext W w') := hid (fun W hW => by rw [← hv];exact rvalid_any r A n c W (HR.out.ext hW))
 obtain ⟨P0,hP0⟩ : ∃ P,P = pubC (nodeV seed h 0) (h : Int) := ⟨_,rfl⟩
 have HPL : Hid (P0.length = 17) := hid (by rw [hP0];exact pubC_len _ _ (nodeV_dig _ _ _).l)
 have HP1 : Hid (∀ v ∈ P0,v.oneCell' = true) := hid (by rw [hP0];exact pubC_one _ _)
 have HPU : Hid (∀ W,Ext w W → Calls Tryz.prog 19 #[.string seed,.int .i64 (h : Int)] W fun e w' => e = .returned (.tuple #[.agg P0.toArray,.int .i64 0]) ∧ Ext W w') := hid (fun W hW => by
  rw [hP0]
  exact qpublic_any seed h p W hs h4 hp (hK.below hW))
 have hwp : IntKind.i64.wrap (p : Int) = (p : Int) := wrap_id _ (by omega) (by omega)
 obtain ⟨S,hS⟩ : ∃ S,S = strOf (signL seed h (p - q) (msgS r)) := ⟨_,rfl⟩
 obtain ⟨M,hM⟩ : ∃ M,M = msgS r := ⟨_,rfl⟩
 obtain ⟨iq,hiq⟩ : ∃ i : Nat,i = p - q := ⟨_,rfl⟩
 have hsub : (p : Int) - (q : Int) = (iq : Int) := by omega
 have hwi : IntKind.i64.wrap (iq : Int) = (iq : Int) := wrap_id _ (by omega) (by omega)
 have HMS : Hid (∀ W,Ext w W → Calls Tryz.prog 26 #[.agg (revC r A n c).toArray] W fun e w' => e = .returned (.string M) ∧ Ext W w') := hid (fun W hW => by rw [hM];exact rmessage_any r A n c W (HR.out.ext hW) hw)
 have HSG : Hid (∀ W,Ext w W → Calls Tryz.prog 43 #[.string seed,.int .i64 (h : Int),.int .i64 (iq : Int),.string M] W fun e w' => e = .returned (.tuple #[.string S,.int .i64 0]) ∧ Ext W w') := hid (fun W hW => by
  rw [hS,hM,← hiq]
  exact rsign_any seed (msgS r) h iq p W hs (by omega) hp (by omega) hm (hK.below hW))
 have HSE := hid (revC_sealed r S A n c hr.mean)
 have HCS : Hid ((revC (sealed r S) A n c).length = 22) := hid (revC_len _ _ _ _ hr.mean)
 have hd1 : decide ((p : Int) < (q : Int)) = false := decide_eq_false (by omega)
 have hdp : decide (p < q) = false := decide_eq_false (by omega)
 rw [← hS]
 clear hr hv hP0 hK hs hp hS hM hiq hw hm
 go_enter Tryz.func18,Tryz.ntmps18
 go_upto_region 1 with fail
 obtain ⟨w2,hw2⟩ : ∃ x,x = (w.alloc (.cells (revC r A n c).toArray 28)).alloc (.cells Z0.toArray 28) := ⟨_,rfl⟩
 change Code.wp _ _ _ _ ((w.alloc (.cells (revC r A n c).toArray 28)).alloc (.cells Z0.toArray 28))
 rw [← hw2]
 have E2 : Hid (Ext w w2) := hid (by rw [hw2];exact ((Ext.refl w).alloc _).alloc _)
 have BR : Hid (Blk w2 w.heap.size 28 (revC r A n c)) := hid (by rw [hw2];exact (Blk.fresh' _ _ _ _ _ rfl rfl).alloc _)
 have BZ : Hid (Blk w2 (w.heap.size + 1) 28 Z0) := hid (by rw [hw2];exact Blk.fresh' _ _ _ _ _ rfl (by simp))
 clear hw2
 go_upto_region 7 with (first
  | (refine wpList_load_blk rfl 28 (.tmp 5) rfl w.heap.size (by kernel_rfl) BR.out Tryz.underlying28 rfl (info_rev.trans (congrArg some HCL.out.symm)) ?_)
  | (go_at_call 42;(with_reducible refine (HVL.out w2 E2.out).mono ?_);rintro e w3 ⟨rfl,hE3⟩;have E3 : Hid (Ext w w3) := hid (E2.out.next hE3);have BR3 := hid (BR.out.ext hE3);have BZ3 := hid (BZ.out.ext hE3);clear hE3)
  | (go_at_call 19;(with_reducible refine (HPU.out w3 E3.out).mono ?_);rintro e w4 ⟨rfl,hE4⟩;have E4 : Hid (Ext w w4) := hid (E3.out.next hE4);have BR4 := hid (BR3.out.ext hE4);have BZ4 := hid (BZ3.out.ext hE4);clear hE4)
  | (refine wpList_store_fresh rfl 56 (.tmp 9) (.tmp 23) rfl _ w4.heap.size rfl (pubC (List.replicate 16 0) 0) P0 56 (by rfl) (by kernel_rfl) rfl (pub_info.trans (congrArg some HPL.out.symm)) (by rw [HPL.out];rfl) HP1.out ?_;intro w7 hw7 hE7 hz7;have E7 : Hid (Ext w w7) := hid (E4.out.next hE7);have BR7 := hid (BR4.out.ext hE7);have BZ7 := hid (BZ4.out.ext hE7);clear hw7 hE7 hz7))
 have c1 : w7.cell? ⟨w.heap.size,1,none⟩ = some (.int .i64 (q : Int)) := by rw [← hq];exact BR7.out.cell 1
 go_quiet (fail)
 have BRD := hid (BR7.out.ext ((Ext.refl w7).drewN nq))
 have BZD := hid (BZ7.out.ext ((Ext.refl w7).drewN nq))
 have ED : Hid (Ext w (w7.drewN nq)) := hid (E7.out.next ((Ext.refl w7).drewN nq))
 generalize w7.drewN nq = w8 at *
 clear c1
 go_upto_region 9 with fail
 refine wp_region_flowF 15 ?FW9 (fun us => ?_) (by kernel_rfl) (by kernel_rfl) (fun a b => Ext a b) Ext.refl (fun h1 h2 => h1.next h2) (fun i v W => match i with
  | 0 => v = .string seed
  | 1 => v = .int .i64 (h : Int)
  | 2 => v = .int .i64 (h : Int)
  | 3 => v = .int .i64 (p : Int)
  | 4 => v = .pointer (some ⟨w.heap.size,1,none⟩)
  | 5 => v = .int .i64 (q : Int)
  | 6 => v = .int .i64 (iq : Int)
  | 7 => v = .agg (revC r A n c).toArray
  | 8 => v = .string M
  | 9 => v = .tuple #[.string S,.int .i64 0]
  | 10 => v = .tuple #[.string S,.int .i64 0]
  | 11 => v = .string S
  | 12 => v = .int .i64 0
  | 13 => v = .string S
  | 14 => v = .int .i64 0
  | _ => True) ?_ ?_
 case refine_1 =>
  simp only [List.take_succ_cons,List.take_zero,flowAct,Nat.zero_add,Nat.reduceAdd,Act.put,List.setIfInBounds_toArray,List.set_cons_succ,List.set_cons_zero]
  rfl
 ·simp only [List.take_succ_cons,List.take_zero,flowStepsF]
  refine ⟨?_,?_,?_,?_,?_,?_,?_,?_,?_,?_,?_,?_,?_,?_,?_,trivial⟩
  ·intro us W K hE hd hK
   dsimp only at hK ⊢
   have HK := hid hK;have HE := hid hE
   clear hK hd hE
   go_wp2_with fail
   exact K_at (HK.out (.string seed) W (fun _ _ => rfl) (Ext.refl W)) (by kernel_rfl)
  ·intro us W K hE hd hK
   dsimp only at hK ⊢
   have HK := hid hK;have HE := hid hE
   clear hK hd hE
   go_wp2_with fail
   exact K_at (HK.out (.int .i64 (h : Int)) W (fun _ _ => rfl) (Ext.refl W)) (by kernel_rfl)
  ·intro us W K hE hd hK
   dsimp only at hK ⊢
   have HK := hid hK;have HE := hid hE
   clear hK hd hE
   go_wp2_with fail
   exact K_at (HK.out (.int .i64 (h : Int)) W (fun _ _ => rfl) (Ext.refl W)) (by kernel_rfl)
  ·intro us W K hE hd hK
   have d2 := hd 2 (by kernel_rfl)
   dsimp only at hK ⊢
   rw [d2] at hK ⊢
   have HK := hid hK;have HE := hid hE
   clear hK hd hE d2
   go_wp2_with fail
   exact K_at (HK.out (.int .i64 (p : Int)) W (fun _ _ => rfl) (Ext.refl W)) (by kernel_rfl)
  ·intro us W K hE hd hK
   dsimp only at hK ⊢
   have HK := hid hK;have HE := hid hE
   clear hK hd hE
   go_wp2_with fail
   exact K_at (HK.out (.pointer (some ⟨w.heap.size,1,none⟩)) W (fun _ _ => rfl) (Ext.refl W)) (by kernel_rfl)
  ·intro us W K hE hd hK
   have d4 := hd 4 (by kernel_rfl)
   have cc : W.cell? ⟨w.heap.size,1,none⟩ = some (.int .i64 (q : Int)) := by rw [← hq];exact (BRD.out.ext (sg_udrew hE)).cell 1
   dsimp only at hK ⊢
   rw [d4] at hK ⊢
   have HK := hid hK;have HE := hid hE
   clear hK hd hE d4
   go_wp2_with fail
   exact K_at (HK.out (.int .i64 (q : Int)) W (fun _ _ => rfl) (Ext.refl W)) (by kernel_rfl)
  ·intro us W K hE hd hK
   have d3 := hd 3 (by kernel_rfl)
   have d5 := hd 5 (by kernel_rfl)
   dsimp only at hK ⊢
   rw [d3,d5] at hK ⊢
   have HK := hid hK;have HE := hid hE
   clear hK hd hE d3 d5
   go_wp2_with fail
   exact K_at (HK.out (.int .i64 (iq : Int)) W (fun _ _ => rfl) (Ext.refl W)) (by kernel_rfl)
  ·intro us W K hE hd hK
   have BW := hid (BRD.out.ext (sg_udrew hE))
   dsimp only at hK ⊢
   have HK := hid hK;have HE := hid hE
   clear hK hd hE
   go_wp2_with ((refine wpList_load_want (by rfl) 28 (.tmp 5) rfl w.heap.size (by kernel_rfl) BW.out Tryz.underlying28 rfl (info_rev.trans (congrArg some HCL.out.symm)) ?_))
   exact K_at (HK.out (.agg (revC r A n c).toArray) W (fun _ _ => rfl) (Ext.refl W)) (by kernel_rfl)
  ·intro us W K hE hd hK
   have d7 := hd 7 (by kernel_rfl)
   have HMW := hid (HMS.out W (ED.out.next (sg_udrew hE)))
   dsimp only at hK ⊢
   rw [d7] at hK ⊢
   have HK := hid hK;have HE := hid hE
   clear hK hd hE d7
   go_wp2_with ((go_at_call 26;(with_reducible refine HMW.out.mono ?_);rintro e w6 ⟨rfl,hB6⟩))
   exact K_at (HK.out (.string M) w6 (fun _ _ => rfl) hB6) (by kernel_rfl)
  ·intro us W K hE hd hK
   have d0 := hd 0 (by kernel_rfl)
   have d1 := hd 1 (by kernel_rfl)
   have d6 := hd 6 (by kernel_rfl)
   have d8 := hd 8 (by kernel_rfl)
   have HSW := hid (HSG.out W (ED.out.next (sg_udrew hE)))
   dsimp only at hK ⊢
   rw [d0,d1,d6,d8] at hK ⊢
   have HK := hid hK;have HE := hid hE
   clear hK hd hE d0 d1 d6 d8
   go_wp2_with ((go_at_call 43;(with_reducible refine HSW.out.mono ?_);rintro e w6 ⟨rfl,hB6⟩))
   exact K_at (HK.out (.tuple #[.string S,.int .i64 0]) w6 (fun _ _ => rfl) hB6) (by kernel_rfl)
  ·intro us W K hE hd hK
   have d9 := hd 9 (by kernel_rfl)
   dsimp only at hK ⊢
   rw [d9] at hK ⊢
   have HK := hid hK;have HE := hid hE
   clear hK hd hE d9
   go_wp2_with fail
   exact K_at (HK.out (.tuple #[.string S,.int .i64 0]) W (fun _ _ => rfl) (Ext.refl W)) (by kernel_rfl)
  ·intro us W K hE hd hK
   have d10 := hd 10 (by kernel_rfl)
   dsimp only at hK ⊢
   rw [d10] at hK ⊢
   have HK := hid hK;have HE := hid hE
   clear hK hd hE d10
   go_wp2_with fail
   exact K_at (HK.out (.string S) W (fun _ _ => rfl) (Ext.refl W)) (by kernel_rfl)
  ·intro us W K hE hd hK
   have d10 := hd 10 (by kernel_rfl)
   dsimp only at hK ⊢
   rw [d10] at hK ⊢
   have HK := hid hK;have HE := hid hE
   clear hK hd hE d10
   go_wp2_with fail
   exact K_at (HK.out (.int .i64 0) W (fun _ _ => rfl) (Ext.refl W)) (by kernel_rfl)
  ·intro us W K hE hd hK
   have d11 := hd 11 (by kernel_rfl)
   dsimp only at hK ⊢
   rw [d11] at hK ⊢
   have HK := hid hK;have HE := hid hE
   clear hK hd hE d11
   go_wp2_with fail
   exact K_at (HK.out (.string S) W (fun _ _ => rfl) (Ext.refl W)) (by kernel_rfl)
  ·intro us W K hE hd hK
   have d12 := hd 12 (by kernel_rfl)
   dsimp only at hK ⊢
   rw [d12] at hK ⊢
   have HK := hid hK;have HE := hid hE
   clear hK hd hE d12
   go_wp2_with fail
   exact K_at (HK.out (.int .i64 0) W (fun _ _ => rfl) (Ext.refl W)) (by kernel_rfl)
 ·intro us W hE hd
  try dsimp only
  have d13 := hd 13 (by decide)
  have d14 := hd 14 (by decide)
  simp only [List.drop_succ_cons,List.drop_zero]
  rw [d13,d14]
  have EW := hid (sg_udrew hE)
  clear hd hE d13 d14
  have BRW := hid (BRD.out.ext EW.out)
  have BZW := hid (BZD.out.ext EW.out)
  have EWW := hid (ED.out.next EW.out)
  have fz := BRW.out.frozen 21
  have cd : W.cell? ⟨w.heap.size,21,none⟩ = some (.string r.sl) := (BRW.out.cell 21).trans (revC_21 _ _ _ _ HR.out.mean)
  go_upto_region 13 with fail
  obtain ⟨wS,hwS⟩ : ∃ x,x = W.setCell ⟨w.heap.size,21,none⟩ (.string S) := ⟨_,rfl⟩
  change Code.wp _ _ _ _ (W.setCell ⟨w.heap.size,21,none⟩ (.string S))
  rw [← hwS]
  have BS : Hid (Blk wS w.heap.size 28 (revC (sealed r S) A n c)) := hid (by rw [hwS,← HSE.out];exact BRW.out.set 21 _)
  have BZS : Hid (Blk wS (w.heap.size + 1) 28 Z0) := hid (by rw [hwS];exact BZW.out.far (p := ⟨w.heap.size,21,none⟩) (by show w.heap.size + 1 ≠ w.heap.size;omega) _)
  have ES : Hid (Ext w wS) := hid (by rw [hwS];exact EWW.out.setCell (p := ⟨w.heap.size,21,none⟩) (Nat.le_refl _) _)
  clear hwS fz cd
  go_wp2_with (first | (refine wpList_load_blk rfl 28 (.tmp 5) rfl w.heap.size (by kernel_rfl) BS.out Tryz.underlying28 rfl (info_rev.trans (congrArg some HCS.out.symm)) ?_) | (refine wpList_store_blk rfl 28 (.tmp 6) (.tmp 54) (by rfl) (w.heap.size + 1) (revC (sealed r S) A n c) (by kernel_rfl) (by kernel_rfl) BZS.out (info_rev.trans (congrArg some HCS.out.symm)) (Eq.trans (b := 22) rfl HCS.out.symm) (revC_one _ _ _ _) ?_;intro w9 hw9 hb9;have E9 : Hid (Ext w w9) := hid (by rw [hw9.out];exact ES.out.setRow (Nat.le_succ _) _);clear hw9))
  exact bodyPost_ret (results_blk_tmp Tryz.results18 _ _ (w.heap.size + 1) 28 (revC (sealed r S) A n c) _ rfl hb9 Tryz.underlying28 rfl (info_rev.trans (congrArg some HCS.out.symm))) rfl ⟨rfl,E9.out⟩
end Go.Proofs.YtjeecfjeooehhaaGreatDoor
