/- sign's Verify of a signature whose number cannot be read or is out of range. Conditions: a height up to 6, a message and a signature of at most 1000000 bytes. -/
import Derived.Test.YtjeecfjeooehhaaGreatDoorM33
import Derived.Test.YtjeecfjeooehhaaGreatDoorM30
import Derived.Test.YtjeecfjeooehhaaGreatDoorM28
import Derived.Test.YtjeecfjeooehhaaGreatDoorM26
set_option linter.unusedSimpArgs false
set_option linter.unusedVariables false
set_option maxHeartbeats 16000000
set_option maxRecDepth 100000
namespace Go.Proofs.YtjeecfjeooehhaaGreatDoor
open Go.RowKit
open Lib (hid)
attribute [local go_sem ↓] wp_at_zero wp_at_succ
theorem verify_err (pub : List Int) (h : Nat) (er : Int) (msg S : ByteArray) (w : World) (hpub : Dig pub) (h6 : h ≤ 6) (hm : msg.size ≤ 1000000) (hS : S.size ≤ 1000000) (hg : getI (bys S) = (0,0,er)) (her : er = 2 ∨ er = 3) :
  Calls Tryz.prog 25 #[.agg (u8s pub).toArray,.int .i64 (h : Int),.string msg,.string S] w fun e w' => e = .returned (.tuple #[.int .i64 0,.int .i64 er]) ∧ Ext w w' := by
 obtain ⟨sz,hz⟩ : ∃ z,z = S.size := ⟨_,rfl⟩
 have HCV : Hid (∀ W,∃ cb wb,(convert 9 23 (.string S)).run Tryz.prog W = .ok (.slice (some ⟨W.heap.size,0,none⟩) sz cb) wb ∧ Calls Tryz.prog 54 #[.slice (some ⟨W.heap.size,0,none⟩) sz cb] wb (fun e w' => e = .returned (.tuple #[.int .i64 0,.int .i64 0,.int .i64 er]) ∧ wb = w') ∧ Ext W wb) := hid (fun W => by
  obtain ⟨cb,wb,hcb,hc2,hRb,hBb⟩ := run_toBytes2 (P := Tryz.prog) W 9 23 5 S Tryz.underlying9 Tryz.underlying23 Tryz.underlying5 (by omega)
  rw [← hz] at hcb hRb hc2
  have hgi := gint_any (bys S) _ sz cb wb hRb (bys_byt S) hc2.1 hc2.2
  rw [hg] at hgi
  exact ⟨cb,wb,hcb,hgi,hBb⟩)
 clear hg hz
 have hen : (er != (0 : Int)) = true := by rcases her with rfl | rfl <;> decide
 go_enter Tryz.func25,Tryz.ntmps25
 go_upto_region 1 with fail
 obtain ⟨w1,hw1⟩ : ∃ x,x = w.alloc (.cells (u8s pub).toArray 26) := ⟨_,rfl⟩
 change Code.wp _ _ _ _ (w.alloc (.cells (u8s pub).toArray 26))
 rw [← hw1]
 have E1 : Hid (Ext w w1) := hid (by rw [hw1];exact (Ext.refl w).alloc _)
 clear hw1
 obtain ⟨cb,wb,hcb,HGI0,hEb⟩ := HCV.out w1
 have HGI := hid HGI0;have EB := hid hEb
 clear HGI0 hEb HCV
 go_wp2_with (first
  | (go_at_call 53;(with_reducible refine (valid_ok h w1 h6).mono ?_);rintro e w3 ⟨rfl,rfl⟩)
  | (go_at_call 54;(with_reducible refine HGI.out.mono ?_);rintro e w3 ⟨rfl,rfl⟩))
 go_ret2
 exact ⟨rfl,(E1.out.next EB.out).alloc _⟩
theorem verify_range (pub : List Int) (h p m : Nat) (i : Int) (msg S : ByteArray) (X : List Int) (w : World) (hpub : Dig pub) (h6 : h ≤ 6) (hp : p = 2 ^ h) (h0 : -9223372036854775808 ≤ i) (h1 : i ≤ 9223372036854775807) (hip : i < 0 ∨ (p : Int) ≤ i) (hm : msg.size ≤ 1000000) (hS : S = strOf (encInt i ++ X)) (hX : Byt X) (hXm : X.length = m) (hm1 : m ≤ 1000000) :
  Calls Tryz.prog 25 #[.agg (u8s pub).toArray,.int .i64 (h : Int),.string msg,.string S] w fun e w' => e = .returned (.tuple #[.int .i64 0,.int .i64 2]) ∧ Ext w w' := by
 have hmf : ∀ (fn : Fn) (first cap : Array Value) (w : World),(Instr.makeFunc fn first cap).run Tryz.prog w = .ok (.func fn first cap) w := fun _ _ _ _ => rfl
 have hp64 : p ≤ 64 := by
  have := Nat.pow_le_pow_right (show 0 < 2 by decide) h6
  omega
 have hp2 : (2 : Int) ^ h = (p : Int) := by rw [hp];exact_mod_cast rfl
 have HI : Hid (I64 i) := hid ⟨h0,h1⟩
 have hle := encInt_le9 i HI.out.1 HI.out.2
 have hEB := encInt_byt i HI.out.1 HI.out.2
 obtain ⟨n,hn⟩ : ∃ n,n = (encInt i).length := ⟨_,rfl⟩
 have hn9 : n ≤ 9 := by rw [hn];exact hle
 have hn0 : 0 < n := by rw [hn,encInt_length];omega
 have hsz : S.size = n + m := by rw [hS,strOf_size,List.length_append,← hn,hXm]
 have hSB : bys S = encInt i ++ X := by rw [hS];exact bys_strOf _ (sg_byt_app hEB hX)
 have hcut : S.extract n S.size = strOf X := by
  rw [← strOf_bys (S.extract n S.size),bys_extract,hSB]
  congr 1
  rw [hn,List.drop_left]
  rw [List.take_of_length_le]
  rw [hsz,hXm,hn]
  omega
 have hXs : (strOf X).size = m := by rw [strOf_size];exact hXm
 obtain ⟨sz,hz⟩ : ∃ z,z = S.size := ⟨_,rfl⟩
 have hszz : sz = n + m := by rw [hz,hsz]
 have HCV : Hid (∀ W,∃ cb wb,(convert 9 23 (.string S)).run Tryz.prog W = .ok (.slice (some ⟨W.heap.size,0,none⟩) sz cb) wb ∧ Calls Tryz.prog 54 #[.slice (some ⟨W.heap.size,0,none⟩) sz cb] wb (fun e w' => e = .returned (.tuple #[.int .i64 i,.int .i64 (n : Int),.int .i64 0]) ∧ wb = w') ∧ Ext W wb) := hid (fun W => by
  obtain ⟨cb,wb,hcb,hc2,hRb,hBb⟩ := run_toBytes2 (P := Tryz.prog) W 9 23 5 S Tryz.underlying9 Tryz.underlying23 Tryz.underlying5 (by omega)
  rw [hSB] at hRb
  rw [← hz] at hcb hRb hc2
  have hg := gint_any (encInt i ++ X) _ sz cb wb hRb (sg_byt_app hEB hX) hc2.1 hc2.2
  rw [getI_enc i X HI.out.1 HI.out.2,← hn] at hg
  exact ⟨cb,wb,hcb,hg,hBb⟩)
 have HCX : Hid (∀ W,∃ cb wb,(convert 9 23 (.string (strOf X))).run Tryz.prog W = .ok (.slice (some ⟨W.heap.size,0,none⟩) m cb) wb ∧ (m ≤ cb ∧ cb ≤ 9223372036854775807) ∧ Rd wb wb.heap.size (some ⟨W.heap.size,0,none⟩) m (u8s X) ∧ Ext W wb) := hid (fun W => by
  obtain ⟨cb,wb,hcb,hc2,hRb,hBb⟩ := run_toBytes2 (P := Tryz.prog) W 9 23 5 (strOf X) Tryz.underlying9 Tryz.underlying23 Tryz.underlying5 (by omega)
  rw [bys_strOf X hX,hXs] at hRb
  rw [hXs] at hcb hc2
  exact ⟨cb,wb,hcb,hc2,hRb,hBb⟩)
 have hnS : (n : Int) ≤ (S.size : Int) := by omega
 have hnz : n ≤ sz := by omega
 clear hn hp hle hEB hSB hXm hS hszz hz hsz hXs
 go_enter Tryz.func25,Tryz.ntmps25
 go_upto_region 1 with fail
 obtain ⟨w1,hw1⟩ : ∃ x,x = w.alloc (.cells (u8s pub).toArray 26) := ⟨_,rfl⟩
 change Code.wp _ _ _ _ (w.alloc (.cells (u8s pub).toArray 26))
 rw [← hw1]
 have E1 : Hid (Ext w w1) := hid (by rw [hw1];exact (Ext.refl w).alloc _)
 have B1 : Hid (Blk w1 w.heap.size 26 (u8s pub)) := hid (by rw [hw1];exact Blk.fresh' _ _ _ _ _ rfl rfl)
 clear hw1
 obtain ⟨cb,wb,hcb,HGI0,hEb⟩ := HCV.out w1
 have HGI := hid HGI0;have EB := hid hEb
 clear HGI0 hEb
 go_upto_region 8 with ((first
  | (go_at_call 53;(with_reducible refine (valid_ok h w1 h6).mono ?_);rintro e w3 ⟨rfl,rfl⟩)
  | (go_at_call 54;(with_reducible refine HGI.out.mono ?_);rintro e w3 ⟨rfl,rfl⟩)))
 clear hcb HCV
 obtain ⟨w3,hw3⟩ : ∃ x,x = wb.alloc (.cells #[.int .i64 i] 3) := ⟨_,rfl⟩
 change Code.wp _ _ _ _ (wb.alloc (.cells #[.int .i64 i] 3))
 rw [← hw3]
 have EW3 : Hid (Ext wb w3) := hid (by rw [hw3];exact (Ext.refl wb).alloc _)
 have BI : Hid (Blk w3 wb.heap.size 3 [.int .i64 i]) := hid (by rw [hw3];exact Blk.fresh' _ _ _ _ _ rfl rfl)
 clear hw3
 obtain ⟨cx,w4,hcx,hcc,hrx,he4⟩ := HCX.out w3
 have E4 : Hid (Ext w3 w4) := hid he4
 have RX := hid hrx
 obtain ⟨hc1,hc2⟩ := hcc
 clear hrx he4 HCX
 go_upto_region 9 with fail
 clear hcx
 obtain ⟨gx,hgx⟩ : ∃ x,x = w3.heap.size := ⟨_,rfl⟩
 rw [← hgx] at RX ⊢
 obtain ⟨w5,hw5⟩ : ∃ x,x = w4.alloc (.cells #[.slice (some ⟨gx,0,none⟩) m cx] 23) := ⟨_,rfl⟩
 change Code.wp _ _ _ _ (w4.alloc (.cells #[.slice (some ⟨gx,0,none⟩) m cx] 23))
 rw [← hw5]
 have E5 : Hid (Ext w4 w5) := hid (by rw [hw5];exact (Ext.refl w4).alloc _)
 have BR : Hid (Blk w5 w4.heap.size 23 [.slice (some ⟨gx,0,none⟩) m cx]) := hid (by rw [hw5];exact Blk.fresh' _ _ _ _ _ rfl rfl)
 have EA : Hid (Ext w w5) := hid (((E1.out.next EB.out).next EW3.out).next (E4.out.next E5.out))
 have BI5 := hid (BI.out.ext (E4.out.next E5.out))
 clear hw5 hgx
 have ci := BI5.out.one
 have cr := BR.out.one
 have hwp : IntKind.i64.wrap (p : Int) = (p : Int) := wrap_id _ (by omega) (by omega)
 rcases hip with hneg | hbig
 ·have hd0 : decide (i < 0) = true := decide_eq_true hneg
  go_wp2_with fail
  go_quiet (fail)
  go_wp2_with fail
  go_ret2
  exact ⟨rfl,EA.out.drewN _⟩
 ·have hd0 : decide (i < 0) = false := decide_eq_false (by omega)
  have hd1 : decide ((p : Int) ≤ i) = true := decide_eq_true hbig
  go_wp2_with fail
  go_quiet (fail)
  go_wp2_with fail
  go_ret2
  exact ⟨rfl,EA.out.drewN _⟩
end Go.Proofs.YtjeecfjeooehhaaGreatDoor
/- The reference of sign: ints, digest, node, advance, start, leaf. Conditions: sizes; the table of constants is laid. -/
namespace Go.Proofs.YtjeecfjeooehhaaGreatDoor
open Go.RowKit
open Lib (hid)
attribute [local go_sem ↓] wp_at_zero wp_at_succ
theorem rintsS_any (l : List Int) (A : Option Addr) (n c : Nat) (w : World) (hl : Rd w w.heap.size A n (l.map (Value.int .i64))) (hwf : ∀ x ∈ l,-9223372036854775808 ≤ x ∧ x ≤ 9223372036854775807) (hcat : (encL encInt l).length ≤ 100000000000) (hn : n ≤ 9223372036854775807) :
  Calls Tryz.prog 133 #[.slice A n c] w fun e w' => e = .returned (.string (intsS l)) ∧ Ext w w' := by
 have HC := hid (rints_any l A n c w hl hwf hcat hn)
 go_enter Tryz.func133,Tryz.ntmps133
 go_wp2_with ((go_at_call 74;(with_reducible refine HC.out.mono ?_);rintro e w1 ⟨⟨A1,c1,rfl,ho⟩,hB⟩;have hcv := run_toStr (P := Tryz.prog) Tryz.underlying23 Tryz.underlying5 Tryz.underlying9 (Rd.of_own ho) c1 (sg_nil _ _ (Rd.of_own ho));have E1 := hid hB;clear hB ho))
 go_ret
 exact ⟨rfl,E1.out⟩
theorem bys_size (s : ByteArray) : (bys s).length = s.size := by
 have := strOf_size (bys s)
 rw [strOf_bys] at this
 exact this.symm
theorem bys_at (s : ByteArray) (t : Nat) (h : t < s.size) : (bys s).getD t 0 = (((s[t]'h).toNat : Nat) : Int) := by
 have hl : t < s.data.toList.length := by rw [Array.length_toList];exact h
 unfold bys
 rw [List.getD_eq_getElem?_getD,List.getElem?_map,List.getElem?_eq_getElem hl]
 rfl
theorem rdigest_any (s : ByteArray) (w : World) (hs : 16 ≤ s.size) (hs2 : s.size ≤ 1000000000) :
  Calls Tryz.prog 102 #[.string s] w fun e w' => e = .returned (.agg (u8s ((bys s).take 16)).toArray) ∧ Ext w w' := by
 have HS := hid hs;have HS2 := hid hs2
 have HBL : Hid ((bys s).length = s.size) := hid (bys_size s)
 have HT : Hid (upTo (bys s) 16 = (bys s).take 16) := hid (by unfold upTo;rw [Nat.sub_self,List.replicate_zero,List.append_nil])
 clear hs
 go_enter Tryz.func102,Tryz.ntmps102
 go_upto_region 2 with fail
 obtain ⟨w3,hw3⟩ : ∃ x,x = (w.alloc (.cells (u8s (List.replicate 16 0)).toArray 26)).alloc (.cells (u8s (List.replicate 16 0)).toArray 26) := ⟨_,rfl⟩
 change Code.wp _ _ _ _ ((w.alloc (.cells (u8s (List.replicate 16 0)).toArray 26)).alloc (.cells (u8s (List.replicate 16 0)).toArray 26))
 rw [← hw3]
 have BZ : Hid (Blk w3 w.heap.size 26 (u8s (List.replicate 16 0))) := hid (by rw [hw3];exact (Blk.fresh' _ _ _ _ _ rfl rfl).alloc _)
 have BV : Hid (Blk w3 (w.heap.size + 1) 26 (u8s (upTo (bys s) 0))) := hid (by rw [hw3];exact Blk.fresh' _ _ _ _ _ (by unfold upTo;rfl) (by simp))
 have E3 : Hid (Ext w w3) := hid (by rw [hw3];exact ((Ext.refl w).alloc _).alloc _)
 clear hw3
 go_wp2_with fail
 go_loopw [4] (fun x wr => ∃ t : Nat,t ≤ 16 ∧ x = .int .i64 (t : Int) ∧ Blk wr w.heap.size 26 (u8s (List.replicate 16 0)) ∧ Blk wr (w.heap.size + 1) 26 (u8s (upTo (bys s) t)) ∧ Ext w wr) (fun x _ => 16 - (intOf x).toNat)
 case atStart => exact ⟨0,by omega,rfl,BZ.out,BV.out,E3.out⟩
 case round =>
  clear BV BZ E3
  obtain ⟨t,ht,rfl,hbz,hbv,hE⟩ := hrel
  have BV := hid hbv;have BZ := hid hbz;have E3 := hid hE
  clear hbv hbz hE
  obtain ⟨wo,rfl⟩ : ∃ x : World,x = wr := ⟨_,rfl⟩
  by_cases hlt : t < 16
  ·have hts : t < s.size := by have := HS.out;omega
   have fz := BV.out.frozen t
   have cd := BV.out.cell t
   obtain ⟨y,hy⟩ : ∃ y,(u8s (upTo (bys s) t))[t]? = some y := ⟨_,List.getElem?_eq_getElem (by rw [u8s_len];unfold upTo;rw [List.length_append,List.length_take,List.length_replicate,HBL.out];omega)⟩
   rw [hy] at cd
   have HUS := hid (upTo_set (bys s) t hlt (by rw [HBL.out];exact HS.out))
   have hgx : (bys s).getD t 0 = (((s[t]'hts).toNat : Nat) : Int) := bys_at s t hts
   rw [hgx] at HUS
   have HTN : Hid (t + 1 ≤ 16) := hid hlt
   clear hy hgx
   go_wp2_with fail
   refine ⟨⟨t + 1,HTN.out,by go_num,(Kept.setCell (F := fun b => b = w.heap.size + 1) (p := ⟨w.heap.size + 1,t,none⟩) wo rfl _).blk BZ.out (by omega),?_,E3.out.setCell (p := ⟨w.heap.size + 1,t,none⟩) (Nat.le_succ _) _⟩,by have := HTN.out;simp [intOf];omega⟩
   rw [← HUS.out]
   exact BV.out.set t _
  ·obtain rfl : t = 16 := by omega
   have hDL : (u8s ((bys s).take 16)).length = 16 := by rw [u8s_len,List.length_take,HBL.out];have := HS.out;omega
   have HDL := hid hDL
   clear hDL
   rw [HT.out] at BV
   go_wp2_with (first
    | (refine wpList_load_blk rfl 26 (.tmp 3) rfl (w.heap.size + 1) (by kernel_rfl) BV.out Tryz.underlying26 rfl (dg_info.trans (congrArg some HDL.out.symm)) ?_)
    | (refine wpList_store_blk rfl 26 (.tmp 2) (.tmp 14) (by rfl) w.heap.size (u8s ((bys s).take 16)) (by kernel_rfl) (by kernel_rfl) BZ.out (dg_info.trans (congrArg some HDL.out.symm)) (by rw [HDL.out];rfl) (u8s_one _) ?_;intro w9 hw9 hb9))
   exact bodyPost_ret (results_blk Tryz.results102 _ _ w.heap.size 26 (u8s ((bys s).take 16)) _ rfl hb9 Tryz.underlying26 rfl (dg_info.trans (congrArg some HDL.out.symm))) rfl ⟨rfl,by rw [hw9.out];exact E3.out.setRow (Nat.le_refl _) _⟩
theorem rnode_any (a b : List Int) (w : World) (ha : Dig a) (hb : Dig b) (hK : RTab w) :
  Calls Tryz.prog 103 #[.agg (u8s a).toArray,.agg (u8s b).toArray] w fun e w' => e = .returned (.agg (u8s (nodeD a b)).toArray) ∧ Ext w w' := by
 have HK := hid hK;have HA := hid ha;have HB := hid hb
 have HEN := hid (encs_two (strOf a) (strOf b) (by rw [dig_size ha];decide) (by rw [dig_size hb];decide))
 clear hK ha hb
 go_enter Tryz.func103,Tryz.ntmps103
 go_upto_region 1 with fail
 obtain ⟨w3,hw3⟩ : ∃ x,x = ((w.alloc (.cells (u8s a).toArray 26)).alloc (.cells (u8s b).toArray 26)).alloc (.cells (u8s (List.replicate 16 0)).toArray 26) := ⟨_,rfl⟩
 change Code.wp _ _ _ _ (((w.alloc (.cells (u8s a).toArray 26)).alloc (.cells (u8s b).toArray 26)).alloc (.cells (u8s (List.replicate 16 0)).toArray 26))
 rw [← hw3]
 have BA : Hid (Blk w3 w.heap.size 26 (u8s a)) := hid (by rw [hw3];exact ((Blk.fresh' _ _ _ _ _ rfl rfl).alloc _).alloc _)
 have BB : Hid (Blk w3 (w.heap.size + 1) 26 (u8s b)) := hid (by rw [hw3];exact (Blk.fresh' _ _ _ _ _ rfl (by simp)).alloc _)
 have BZ : Hid (Blk w3 (w.heap.size + 2) 26 (u8s (List.replicate 16 0))) := hid (by rw [hw3];exact Blk.fresh' _ _ _ _ _ rfl (by simp))
 have E3 : Hid (Ext w w3) := hid (by rw [hw3];exact (((Ext.refl w).alloc _).alloc _).alloc _)
 clear hw3
 refine wp_region_flowF 6 ?FW1 (fun us => ?_) (by kernel_rfl) (by kernel_rfl) (fun a b => Ext a b) Ext.refl (fun h1 h2 => h1.next h2) (fun i v W => match i with
  | 0 => v = .agg (u8s a).toArray
  | 1 => v = .string (strOf a)
  | 2 => v = .agg (u8s b).toArray
  | 3 => v = .string (strOf b)
  | 4 => ∃ g,v = .slice (some ⟨g,0,none⟩) 2 2 ∧ Rd W W.heap.size (some ⟨g,0,none⟩) 2 (strs [strOf a,strOf b])
  | 5 => v = .agg (u8s (nodeD a b)).toArray
  | _ => True) ?_ ?_
 case refine_1 =>
  simp only [List.take_succ_cons,List.take_zero,flowAct,Nat.zero_add,Nat.reduceAdd,Act.put,List.setIfInBounds_toArray,List.set_cons_succ,List.set_cons_zero]
  rfl
 ·simp only [List.take_succ_cons,List.take_zero,flowStepsF]
  refine ⟨?_,?_,?_,?_,?_,?_,trivial⟩
  ·intro us W K hE hd hK
   have BW := hid (BA.out.ext (sg_udrew hE))
   dsimp only at hK ⊢
   have HK := hid hK;have HE := hid hE
   clear hK hd hE
   go_wp2_with ((refine wpList_load_want (by rfl) 26 (.tmp 2) rfl w.heap.size (by kernel_rfl) BW.out Tryz.underlying26 rfl (dg_info.trans (congrArg some (by rw [u8s_len,HA.out.l]))) ?_))
   exact K_at (HK.out (.agg (u8s a).toArray) W (fun _ _ => rfl) (Ext.refl W)) (by kernel_rfl)
  ·intro us W K hE hd hK
   have d0 := hd 0 (by kernel_rfl)
   dsimp only at hK ⊢
   rw [d0] at hK ⊢
   have HK := hid hK;have HE := hid hE
   clear hK hd hE d0
   go_wp2_with ((go_at_call 51;(with_reducible refine (rtext_any a W HA.out.l).mono ?_);rintro e w6 ⟨rfl,hB6⟩))
   exact K_at (HK.out (.string (strOf a)) w6 (fun _ _ => rfl) hB6) (by kernel_rfl)
  ·intro us W K hE hd hK
   have BW := hid (BB.out.ext (sg_udrew hE))
   dsimp only at hK ⊢
   have HK := hid hK;have HE := hid hE
   clear hK hd hE
   go_wp2_with ((refine wpList_load_want (by rfl) 26 (.tmp 3) rfl (w.heap.size + 1) (by kernel_rfl) BW.out Tryz.underlying26 rfl (dg_info.trans (congrArg some (by rw [u8s_len,HB.out.l]))) ?_))
   exact K_at (HK.out (.agg (u8s b).toArray) W (fun _ _ => rfl) (Ext.refl W)) (by kernel_rfl)
  ·intro us W K hE hd hK
   have d2 := hd 2 (by kernel_rfl)
   dsimp only at hK ⊢
   rw [d2] at hK ⊢
   have HK := hid hK;have HE := hid hE
   clear hK hd hE d2
   go_wp2_with ((go_at_call 51;(with_reducible refine (rtext_any b W HB.out.l).mono ?_);rintro e w6 ⟨rfl,hB6⟩))
   exact K_at (HK.out (.string (strOf b)) w6 (fun _ _ => rfl) hB6) (by kernel_rfl)
  ·intro us W K hE hd hK
   have d1 := hd 1 (by kernel_rfl)
   have d3 := hd 3 (by kernel_rfl)
   dsimp only at hK ⊢
   rw [d1,d3] at hK ⊢
   have HK := hid hK;have HE := hid hE
   clear hK hd hE d1 d3
   go_wp2_with fail
   exact K_at (HK.out (.slice (some ⟨W.heap.size,0,none⟩) 2 2) (W.alloc (.cells #[.string (strOf a),.string (strOf b)] 9)) (fun W2 h2 => ⟨_,rfl,((Blk.fresh W 9 [.string (strOf a),.string (strOf b)]).rd rfl).ext' h2⟩) ((Ext.refl W).alloc _)) (by kernel_rfl)
  ·intro us W K hE hd hK
   obtain ⟨g4,d4,r4⟩ := hd 4 (by kernel_rfl)
   have R4 := hid r4
   have KW := hid (HK.out.below (E3.out.next (sg_udrew hE)))
   dsimp only at hK ⊢
   rw [d4] at hK ⊢
   have HK := hid hK;have HE := hid hE
   clear hK hd hE d4 r4
   go_wp2_with ((go_at_call 50;(with_reducible refine (rof_any 2 [strOf a,strOf b] (some ⟨g4,0,none⟩) 2 2 W R4.out (by decide) HEN.out KW.out).mono ?_);rintro e w6 ⟨he,hB6⟩;(obtain rfl : e = .returned (.agg (u8s (nodeD a b)).toArray) := by rw [he];rfl)))
   exact K_at (HK.out (.agg (u8s (nodeD a b)).toArray) w6 (fun _ _ => rfl) hB6) (by kernel_rfl)
 ·intro us W hE hd
  try dsimp only
  have d5 := hd 5 (by decide)
  simp only [List.drop_succ_cons,List.drop_zero]
  rw [d5]
  have EW := hid (sg_udrew hE)
  have BZW := hid (BZ.out.ext EW.out)
  clear hd hE d5
  go_wp2_with (refine wpList_store_blk rfl 26 (.tmp 4) (.tmp 10) (by rfl) (w.heap.size + 2) (u8s (nodeD a b)) rfl rfl BZW.out (dg_info.trans (congrArg some (by rw [u8s_len];rfl))) (by rw [u8s_len,u8s_len,show (nodeD a b).length = 16 from ofD_len _ _];rfl) (u8s_one _) ?_;intro w9 hw9 hb9)
  exact bodyPost_ret (results_blk Tryz.results103 _ _ (w.heap.size + 2) 26 (u8s (nodeD a b)) _ rfl hb9 Tryz.underlying26 rfl (dg_info.trans (congrArg some (by rw [u8s_len];exact (ofD_len _ _).symm)))) rfl ⟨rfl,by rw [hw9.out];exact (E3.out.next EW.out).setRow (by omega) _⟩
theorem radvance_any (ix ch : Int) (f u : Nat) (vv : List Int) (w : World) (hi : I64 ix) (hc : I64 ch) (hf : f ≤ 1000000) (hu : u ≤ 1000000) (hv : Dig vv) (hK : RTab w) :
  Calls Tryz.prog 99 #[.int .i64 ix,.int .i64 ch,.int .i64 (f : Int),.int .i64 (u : Int),.agg (u8s vv).toArray] w fun e w' => e = .returned (.agg (u8s (advD ix ch f (u - f) vv)).toArray) ∧ Ext w w' := by
 have HK := hid hK;have HI := hid hi;have HC := hid hc;have HV := hid hv
 have HDG : Hid (∀ n,Dig (advD ix ch f n vv)) := hid (advD_dig hv)
 clear hK hi hc hv
 go_enter Tryz.func99,Tryz.ntmps99
 go_upto_region 1 with fail
 obtain ⟨w3,hw3⟩ : ∃ x,x = (w.alloc (.cells (u8s vv).toArray 26)).alloc (.cells (u8s (List.replicate 16 0)).toArray 26) := ⟨_,rfl⟩
 change Code.wp _ _ _ _ ((w.alloc (.cells (u8s vv).toArray 26)).alloc (.cells (u8s (List.replicate 16 0)).toArray 26))
 rw [← hw3]
 have BV : Hid (Blk w3 w.heap.size 26 (u8s vv)) := hid (by rw [hw3];exact (Blk.fresh' _ _ _ _ _ rfl rfl).alloc _)
 have BZ : Hid (Blk w3 (w.heap.size + 1) 26 (u8s (List.replicate 16 0))) := hid (by rw [hw3];exact Blk.fresh' _ _ _ _ _ rfl (by simp))
 have E3 : Hid (Ext w w3) := hid (by rw [hw3];exact ((Ext.refl w).alloc _).alloc _)
 clear hw3
 go_wp2_with fail
 go_loopw [11] (fun x wr => ∃ k : Nat,f ≤ k ∧ (k ≤ u ∨ k = f) ∧ x = .int .i64 (k : Int) ∧ Blk wr w.heap.size 26 (u8s (advD ix ch f (k - f) vv)) ∧ Blk wr (w.heap.size + 1) 26 (u8s (List.replicate 16 0)) ∧ Ext w wr) (fun x _ => u - (intOf x).toNat)
 case atStart => exact ⟨f,Nat.le_refl _,Or.inr rfl,rfl,by rw [Nat.sub_self];exact BV.out,BZ.out,E3.out⟩
 case round =>
  clear BV BZ E3
  obtain ⟨k,hk1,hk2,rfl,hbv,hbz,hE⟩ := hrel
  have BV := hid hbv;have BZ := hid hbz;have E3 := hid hE
  clear hbv hbz hE
  obtain ⟨wo,rfl⟩ : ∃ x : World,x = wr := ⟨_,rfl⟩
  by_cases hlt : k < u
  ·have HLE := hid (ints3_le ix ch (k : Int) HI.out HC.out ⟨by omega,by omega⟩)
   obtain ⟨D1,hD1⟩ : ∃ x,x = advD ix ch f (k - f) vv := ⟨_,rfl⟩
   have HD1 : Hid (Dig D1) := hid (by rw [hD1];exact HDG.out _)
   have HSC : Hid (ofD 11 [intsS [ix,ch,(k : Int)],strOf D1] = advD ix ch f (k + 1 - f) vv) := hid (by rw [advD_succ _ _ _ _ _ hk1,hD1])
   rw [← hD1] at BV
   clear hD1
   obtain ⟨S3,hS3⟩ : ∃ x,x = intsS [ix,ch,(k : Int)] := ⟨_,rfl⟩
   have HS3 := hid hS3
   have HEN : Hid ((encs [S3,strOf D1]).length ≤ 100000000000) := hid (by rw [hS3];exact encs_ints _ (by have := HLE.out;omega) _ HD1.out)
   obtain ⟨D2,hD2⟩ : ∃ x,x = ofD 11 [S3,strOf D1] := ⟨_,rfl⟩
   have HD2 := hid hD2
   have HD2L : Hid (D2.length = 16) := hid (by rw [hD2];exact ofD_len _ _)
   have HWF : Hid (∀ x ∈ [ix,ch,(k : Int)],-9223372036854775808 ≤ x ∧ x ≤ 9223372036854775807) := hid (fun x hx => by
    simp only [List.mem_cons,List.not_mem_nil,or_false] at hx
    rcases hx with rfl | rfl | rfl
    ·exact HI.out
    ·exact HC.out
    ·exact ⟨by omega,by omega⟩)
   have HCAT : Hid ((encL encInt [ix,ch,(k : Int)]).length ≤ 100000000000) := hid (by have := HLE.out;omega)
   clear hD2 hS3
   go_upto_region 4 with fail
   refine wp_region_flowF 9 ?FW4 (fun us => ?_) (by kernel_rfl) (by kernel_rfl) (fun a b => Ext a b) Ext.refl (fun h1 h2 => h1.next h2) (fun i v W => match i with
    | 0 => v = .int .i64 ix
    | 1 => v = .int .i64 ch
    | 2 => v = .int .i64 (k : Int)
    | 3 => ∃ g,v = .slice (some ⟨g,0,none⟩) 3 3 ∧ Rd W W.heap.size (some ⟨g,0,none⟩) 3 ([ix,ch,(k : Int)].map (Value.int .i64))
    | 4 => v = .string S3
    | 5 => v = .agg (u8s D1).toArray
    | 6 => v = .string (strOf D1)
    | 7 => ∃ g,v = .slice (some ⟨g,0,none⟩) 2 2 ∧ Rd W W.heap.size (some ⟨g,0,none⟩) 2 (strs [S3,strOf D1])
    | 8 => v = .agg (u8s D2).toArray
    | _ => True) ?_ ?_
   case refine_1 =>
    simp only [List.take_succ_cons,List.take_zero,flowAct,Nat.zero_add,Nat.reduceAdd,Act.put,List.setIfInBounds_toArray,List.set_cons_succ,List.set_cons_zero]
    rfl
   ·simp only [List.take_succ_cons,List.take_zero,flowStepsF]
    refine ⟨?_,?_,?_,?_,?_,?_,?_,?_,?_,trivial⟩
    ·intro us W K hE hd hK
     dsimp only at hK ⊢
     have HK := hid hK;have HE := hid hE
     clear hK hd hE
     go_wp2_with fail
     exact K_at (HK.out (.int .i64 ix) W (fun _ _ => rfl) (Ext.refl W)) (by kernel_rfl)
    ·intro us W K hE hd hK
     dsimp only at hK ⊢
     have HK := hid hK;have HE := hid hE
     clear hK hd hE
     go_wp2_with fail
     exact K_at (HK.out (.int .i64 ch) W (fun _ _ => rfl) (Ext.refl W)) (by kernel_rfl)
    ·intro us W K hE hd hK
     dsimp only at hK ⊢
     have HK := hid hK;have HE := hid hE
     clear hK hd hE
     go_wp2_with fail
     exact K_at (HK.out (.int .i64 (k : Int)) W (fun _ _ => rfl) (Ext.refl W)) (by kernel_rfl)
    ·intro us W K hE hd hK
     have d0 := hd 0 (by kernel_rfl)
     have d1 := hd 1 (by kernel_rfl)
     have d2 := hd 2 (by kernel_rfl)
     dsimp only at hK ⊢
     rw [d0,d1,d2] at hK ⊢
     have HK := hid hK;have HE := hid hE
     clear hK hd hE d0 d1 d2
     go_wp2_with fail
     exact K_at (HK.out (.slice (some ⟨W.heap.size,0,none⟩) 3 3) (W.alloc (.cells #[.int .i64 ix,.int .i64 ch,.int .i64 (k : Int)] 3)) (fun W2 h2 => ⟨_,rfl,((Blk.fresh W 3 [.int .i64 ix,.int .i64 ch,.int .i64 (k : Int)]).rd rfl).ext' h2⟩) ((Ext.refl W).alloc _)) (by kernel_rfl)
    ·intro us W K hE hd hK
     obtain ⟨g3,d3,r3⟩ := hd 3 (by kernel_rfl)
     have R3 := hid r3
     dsimp only at hK ⊢
     rw [d3] at hK ⊢
     have HK := hid hK;have HE := hid hE
     clear hK hd hE d3 r3
     go_wp2_with ((go_at_call 133;(with_reducible refine (rintsS_any [ix,ch,(k : Int)] (some ⟨g3,0,none⟩) 3 3 W R3.out HWF.out HCAT.out (by decide)).mono ?_);rintro e w6 ⟨rfl,hB6⟩;rw [← HS3.out]))
     exact K_at (HK.out (.string S3) w6 (fun _ _ => rfl) hB6) (by kernel_rfl)
    ·intro us W K hE hd hK
     have BW := hid (BV.out.ext (sg_udrew hE))
     dsimp only at hK ⊢
     have HK := hid hK;have HE := hid hE
     clear hK hd hE
     go_wp2_with ((refine wpList_load_want (by rfl) 26 (.tmp 9) rfl w.heap.size (by kernel_rfl) BW.out Tryz.underlying26 rfl (dg_info.trans (congrArg some (by rw [u8s_len,HD1.out.l]))) ?_))
     exact K_at (HK.out (.agg (u8s D1).toArray) W (fun _ _ => rfl) (Ext.refl W)) (by kernel_rfl)
    ·intro us W K hE hd hK
     have d5 := hd 5 (by kernel_rfl)
     dsimp only at hK ⊢
     rw [d5] at hK ⊢
     have HK := hid hK;have HE := hid hE
     clear hK hd hE d5
     go_wp2_with ((go_at_call 51;(with_reducible refine (rtext_any D1 W HD1.out.l).mono ?_);rintro e w6 ⟨rfl,hB6⟩))
     exact K_at (HK.out (.string (strOf D1)) w6 (fun _ _ => rfl) hB6) (by kernel_rfl)
    ·intro us W K hE hd hK
     have d4 := hd 4 (by kernel_rfl)
     have d6 := hd 6 (by kernel_rfl)
     dsimp only at hK ⊢
     rw [d4,d6] at hK ⊢
     have HK := hid hK;have HE := hid hE
     clear hK hd hE d4 d6
     go_wp2_with fail
     exact K_at (HK.out (.slice (some ⟨W.heap.size,0,none⟩) 2 2) (W.alloc (.cells #[.string (S3),.string (strOf D1)] 9)) (fun W2 h2 => ⟨_,rfl,((Blk.fresh W 9 [.string (S3),.string (strOf D1)]).rd rfl).ext' h2⟩) ((Ext.refl W).alloc _)) (by kernel_rfl)
    ·intro us W K hE hd hK
     obtain ⟨g7,d7,r7⟩ := hd 7 (by kernel_rfl)
     have R7 := hid r7
     have KW := hid (HK.out.below (E3.out.next (sg_udrew hE)))
     dsimp only at hK ⊢
     rw [d7] at hK ⊢
     have HK := hid hK;have HE := hid hE
     clear hK hd hE d7 r7
     go_wp2_with ((go_at_call 50;(with_reducible refine (rof_any 11 [S3,strOf D1] (some ⟨g7,0,none⟩) 2 2 W R7.out (by decide) HEN.out KW.out).mono ?_);rintro e w6 ⟨he,hB6⟩;(obtain rfl : e = .returned (.agg (u8s D2).toArray) := by rw [he,HD2.out];rfl)))
     exact K_at (HK.out (.agg (u8s D2).toArray) w6 (fun _ _ => rfl) hB6) (by kernel_rfl)
   ·intro us W hE hd
    try dsimp only
    have d8 := hd 8 (by decide)
    simp only [List.drop_succ_cons,List.drop_zero]
    rw [d8]
    have EW := hid (sg_udrew hE)
    have BZW := hid (BV.out.ext EW.out)
    have BZ2 := hid (BZ.out.ext EW.out)
    clear hd hE d8
    go_wp2_with (refine wpList_store_blk rfl 26 (.tmp 9) (.tmp 26) (by rfl) w.heap.size (u8s D2) rfl rfl BZW.out (dg_info.trans (congrArg some (by rw [u8s_len,HD2L.out]))) (by rw [u8s_len,u8s_len,HD2L.out,HD1.out.l]) (u8s_one _) ?_;intro w9 hw9 hb9)
    go_roundw
    case rel => exact ⟨k + 1,by omega,Or.inl (by omega),by go_num,by rw [← HSC.out,← HS3.out,← HD2.out];exact hb9,by rw [hw9.out];exact BZ2.out.setRow_far (by omega) _,by rw [hw9.out];exact (E3.out.next EW.out).setRow (Nat.le_refl _) _⟩
    case measure => simp [intOf];omega
  ·have hku : k - f = u - f := by omega
   have HKU := hid hku
   clear hku
   have HDL : Hid ((advD ix ch f (k - f) vv).length = 16) := hid (HDG.out _).l
   have HRE : Hid (advD ix ch f (k - f) vv = advD ix ch f (u - f) vv) := hid (by rw [HKU.out])
   clear HKU
   generalize advD ix ch f (k - f) vv = D1 at *
   go_wp2_with (first
    | (refine wpList_load_blk rfl 26 (.tmp 9) rfl w.heap.size rfl BV.out Tryz.underlying26 rfl (dg_info.trans (congrArg some (by rw [u8s_len,HDL.out]))) ?_)
    | (refine wpList_store_blk rfl 26 (.tmp 10) (.tmp 27) (by rfl) (w.heap.size + 1) (u8s D1) rfl rfl BZ.out (dg_info.trans (congrArg some (by rw [u8s_len,HDL.out]))) (by rw [u8s_len,u8s_len,HDL.out];rfl) (u8s_one _) ?_;intro w9 hw9 hb9))
   exact bodyPost_ret (results_blk Tryz.results99 _ _ (w.heap.size + 1) 26 (u8s D1) _ rfl hb9 Tryz.underlying26 rfl (dg_info.trans (congrArg some (by rw [u8s_len,HDL.out])))) rfl ⟨by rw [HRE.out],by rw [hw9.out];exact E3.out.setRow (Nat.le_succ _) _⟩
theorem strOf_two (a b : List Int) : strOf a ++ strOf b = strOf (a ++ b) := by
 apply ByteArray.ext
 simp [strOf]
theorem rstart_any (seed : ByteArray) (i c : Int) (w : World) (hs : seed.size ≤ 1000000) (hi : I64 i) (hc : I64 c) (hK : RTab w) :
  Calls Tryz.prog 100 #[.string seed,.int .i64 i,.int .i64 c] w fun e w' => e = .returned (.agg (u8s (startD seed i c)).toArray) ∧ Ext w w' := by
 have HK := hid hK;have HI := hid hi;have HC := hid hc
 have HLE := hid (ints_le i c hi hc)
 clear hK hi hc
 go_enter Tryz.func100,Tryz.ntmps100
 go_upto_region 1 with fail
 obtain ⟨w3,hw3⟩ : ∃ x,x = w.alloc (.cells (u8s (List.replicate 16 0)).toArray 26) := ⟨_,rfl⟩
 change Code.wp _ _ _ _ (w.alloc (.cells (u8s (List.replicate 16 0)).toArray 26))
 rw [← hw3]
 have BZ : Hid (Blk w3 w.heap.size 26 (u8s (List.replicate 16 0))) := hid (by rw [hw3];exact Blk.fresh' _ _ _ _ _ rfl rfl)
 have E3 : Hid (Ext w w3) := hid (by rw [hw3];exact (Ext.refl w).alloc _)
 clear hw3
 obtain ⟨w4,hw4⟩ : ∃ x,x = w3.alloc (.cells #[.int .i64 i,.int .i64 c] 3) := ⟨_,rfl⟩
 have R4 : Hid (Rd w4 w4.heap.size (some ⟨w3.heap.size,0,none⟩) 2 ([i,c].map (Value.int .i64))) := hid (by rw [hw4];exact (Blk.fresh w3 3 [.int .i64 i,.int .i64 c]).rd rfl)
 have E4 : Hid (Ext w3 w4) := hid (by rw [hw4];exact (Ext.refl w3).alloc _)
 have HIN := hid (rintsS_any [i,c] (some ⟨w3.heap.size,0,none⟩) 2 2 w4 R4.out (fun x hx => by simp only [List.mem_cons,List.not_mem_nil,or_false] at hx;rcases hx with rfl | rfl <;> first | exact HI.out | exact HC.out) (by have := HLE.out;omega) (by decide))
 have hsz : (intsS [i,c]).size ≤ 27 := by unfold intsS;rw [strOf_size];exact HLE.out
 obtain ⟨M,hM⟩ : ∃ M,M = macL seed (strOf (chainB ++ encL encInt [i,c])) := ⟨_,rfl⟩
 have HMC : Hid (∀ W,RTab W → Calls Tryz.prog 134 #[.string seed,.string ({ data := #[99,104,97,105,110] } ++ intsS [i,c])] W fun e w' => e = .returned (.string (strOf M)) ∧ Ext W w') := hid (fun W hW => by
  have e1 : ({ data := #[99,104,97,105,110] } : ByteArray) ++ intsS [i,c] = strOf (chainB ++ encL encInt [i,c]) := by
   apply ByteArray.ext
   simp [strOf,intsS,chainB]
  rw [e1,hM]
  exact rmac_any seed _ W (by omega) (by rw [strOf_size,List.length_append];have := HLE.out;simp only [chainB,List.length_cons,List.length_nil];omega) hW)
 have HK5 : Hid (∀ W,Ext w W → RTab W) := hid (fun W h => HK.out.below h)
 obtain ⟨T,hT⟩ : ∃ T,T = startD seed i c := ⟨_,rfl⟩
 have HT : Hid (T = startD seed i c) := hid hT
 have HTL : Hid (T.length = 16) := hid (by rw [hT];exact (startD_dig _ _ _).l)
 have HDG : Hid (∀ W,Calls Tryz.prog 102 #[.string (strOf M)] W fun e w' => e = .returned (.agg (u8s T).toArray) ∧ Ext W w') := hid (fun W => by
  have hsz : (strOf M).size = 32 := by rw [strOf_size,hM];exact sha_length _
  have h := rdigest_any (strOf M) W (by omega) (by omega)
  rw [bys_strOf M (by rw [hM];exact sha_byt _)] at h
  rw [hT]
  rw [hM] at h ⊢
  exact h)
 clear hM hT
 subst hw4
 go_wp2_with (first
  | (go_at_call 133;(with_reducible refine HIN.out.mono ?_);rintro e w5 ⟨rfl,hE5⟩;have E5 : Hid (Ext w3 w5) := hid (E4.out.next hE5);clear hE5)
  | (go_at_call 134;(with_reducible refine (HMC.out w5 (HK5.out w5 (E3.out.next E5.out))).mono ?_);rintro e w6 ⟨rfl,hE6⟩;have E6 : Hid (Ext w3 w6) := hid (E5.out.next hE6);clear hE6)
  | (go_at_call 102;(with_reducible refine (HDG.out w6).mono ?_);rintro e w7 ⟨rfl,hE7⟩;have EB : Hid (Ext w w7) := hid (E3.out.next (E6.out.next hE7));have BZW := hid (BZ.out.ext (E6.out.next hE7));clear hE7)
  | (refine wpList_store_blk rfl 26 (.tmp 6) (.tmp 14) (by rfl) w.heap.size (u8s T) rfl rfl BZW.out (dg_info.trans (congrArg some (by rw [u8s_len,HTL.out]))) (by rw [u8s_len,u8s_len,HTL.out];rfl) (u8s_one _) ?_;intro w9 hw9 hb9))
 exact bodyPost_ret (results_blk Tryz.results100 _ _ w.heap.size 26 (u8s T) _ rfl hb9 Tryz.underlying26 rfl (dg_info.trans (congrArg some (by rw [u8s_len,HTL.out])))) rfl ⟨by rw [HT.out],by rw [hw9.out];exact EB.out.setRow (Nat.le_refl _) _⟩
theorem encs_single (a : ByteArray) (ha : a.size ≤ 1000000000) : (encs [a]).length ≤ 100000000000 := by
 have := sg_encB_le a ha
 show (encB a ++ []).length ≤ _
 rw [List.append_nil]
 omega
theorem rleaf_any (seed : ByteArray) (ix : Int) (w : World) (hs : seed.size ≤ 1000000) (hi : I64 ix) (hK : RTab w) :
  Calls Tryz.prog 132 #[.string seed,.int .i64 ix] w fun e w' => e = .returned (.agg (u8s (leafD fun c : Nat => topD seed ix (c : Int))).toArray) ∧ Ext w w' := by
 have HK5 : Hid (∀ W,Ext w W → RTab W) := hid (fun W h => hK.below h)
 have HST : Hid (∀ (t : Nat) W,t < 68 → Ext w W → Calls Tryz.prog 100 #[.string seed,.int .i64 ix,.int .i64 (t : Int)] W fun e w' => e = .returned (.agg (u8s (startD seed ix (t : Int))).toArray) ∧ Ext W w') := hid (fun t W ht hW => rstart_any seed ix t W hs hi ⟨by omega,by omega⟩ (HK5.out W hW))
 have HAD : Hid (∀ (t : Nat) W,t < 68 → Ext w W → Calls Tryz.prog 99 #[.int .i64 ix,.int .i64 (t : Int),.int .i64 0,.int .i64 3,.agg (u8s (startD seed ix (t : Int))).toArray] W fun e w' => e = .returned (.agg (u8s (topD seed ix (t : Int))).toArray) ∧ Ext W w') := hid (fun t W ht hW => radvance_any ix t 0 3 (startD seed ix t) W hi ⟨by omega,by omega⟩ (by decide) (by decide) (startD_dig _ _ _) (HK5.out W hW))
 obtain ⟨val,hval⟩ : ∃ f : Nat → List Int,f = fun c : Nat => topD seed ix (c : Int) := ⟨_,rfl⟩
 have HVD : Hid (∀ t : Nat,Dig (val t)) := hid (fun t => by rw [hval];exact topD_dig _ _ _)
 have HVE : Hid (∀ t : Nat,topD seed ix (t : Int) = val t) := hid (fun t => by rw [hval])
 rw [← hval]
 have HFL : Hid (∀ t : Nat,(flatD val t).length = 16 * t) := hid (fun t => flatD_len val (fun j _ => HVD.out j))
 obtain ⟨K3,hK3⟩ : ∃ k,k = ofD 3 [strOf (flatD val 68)] := ⟨_,rfl⟩
 obtain ⟨L1,hL1⟩ : ∃ k,k = ofD 1 [strOf K3] := ⟨_,rfl⟩
 have HK3 : Hid (K3.length = 16) := hid (by rw [hK3];exact ofD_len _ _)
 have HL1 : Hid (L1.length = 16) := hid (by rw [hL1];exact ofD_len _ _)
 have HLD : Hid (leafD val = L1) := hid (by rw [hL1,hK3];rfl)
 have HO3 : Hid (∀ (g : Nat) W,Ext w W → Rd W W.heap.size (some ⟨g,0,none⟩) 1 (strs [strOf (flatD val 68)]) → Calls Tryz.prog 50 #[.int .i64 3,.slice (some ⟨g,0,none⟩) 1 1] W fun e w' => e = .returned (.agg (u8s K3).toArray) ∧ Ext W w') := hid (fun g W hW hr => by
  rw [hK3]
  exact rof_any 3 [strOf (flatD val 68)] _ 1 1 W hr (by decide) (encs_single _ (by rw [strOf_size,HFL.out];decide)) (HK5.out W hW))
 have HO1 : Hid (∀ (g : Nat) W,Ext w W → Rd W W.heap.size (some ⟨g,0,none⟩) 1 (strs [strOf K3]) → Calls Tryz.prog 50 #[.int .i64 1,.slice (some ⟨g,0,none⟩) 1 1] W fun e w' => e = .returned (.agg (u8s L1).toArray) ∧ Ext W w') := hid (fun g W hW hr => by
  rw [hL1]
  exact rof_any 1 [strOf K3] _ 1 1 W hr (by decide) (encs_single _ (by rw [strOf_size,HK3.out];decide)) (HK5.out W hW))
 clear hK hval hK3 hL1
 go_enter Tryz.func132,Tryz.ntmps132
 go_upto_region 1 with fail
 obtain ⟨w3,hw3⟩ : ∃ x,x = w.alloc (.cells (u8s (List.replicate 16 0)).toArray 26) := ⟨_,rfl⟩
 change Code.wp _ _ _ _ (w.alloc (.cells (u8s (List.replicate 16 0)).toArray 26))
 rw [← hw3]
 have BZ : Hid (Blk w3 w.heap.size 26 (u8s (List.replicate 16 0))) := hid (by rw [hw3];exact Blk.fresh' _ _ _ _ _ rfl rfl)
 have E3 : Hid (Ext w w3) := hid (by rw [hw3];exact (Ext.refl w).alloc _)
 clear hw3
 go_wp2_with fail
 go_loopw [5,6] (fun s5 s6 wr => ∃ t : Nat,t ≤ 68 ∧ s6 = .int .i64 (t : Int) ∧ s5 = .string (strOf (flatD val t)) ∧ Blk wr w.heap.size 26 (u8s (List.replicate 16 0)) ∧ Ext w wr) (fun _ x _ => 68 - (intOf x).toNat)
 case atStart => exact ⟨0,by omega,rfl,by rfl,BZ.out,E3.out⟩
 case round =>
  clear BZ E3
  obtain ⟨t,ht,rfl,rfl,hbz,hE⟩ := hrel
  have BZ := hid hbz;have E3 := hid hE
  clear hbz hE
  obtain ⟨wo,rfl⟩ : ∃ x : World,x = wr := ⟨_,rfl⟩
  by_cases hlt : t < 68
  ·have HS := hid (HST.out t wo hlt E3.out)
   have HA := hid (fun W hW => HAD.out t W hlt hW)
   have HV := hid (HVD.out t)
   have HTN : Hid (t + 1 ≤ 68) := hid hlt
   have HSN : Hid (strOf (flatD val t) ++ strOf (val t) = strOf (flatD val (t + 1))) := hid (by rw [strOf_two,flatD_succ])
   rw [HVE.out] at HA
   have hs1 : (strOf (flatD val t)).size ≤ 1088 := by rw [strOf_size,HFL.out];omega
   have hs2 : (strOf (val t)).size = 16 := dig_size HV.out
   obtain ⟨V,hV⟩ : ∃ V,V = val t := ⟨_,rfl⟩
   rw [← hV] at HA HV HSN hs2
   obtain ⟨S,hS⟩ : ∃ S,S = startD seed ix (t : Int) := ⟨_,rfl⟩
   rw [← hS] at HA HS
   clear hV hS
   go_wp2_with (first
    | (go_at_call 100;(with_reducible refine HS.out.mono ?_);rintro e w5 ⟨rfl,hE5⟩;have E5 : Hid (Ext w w5) := hid (E3.out.next hE5);have B5 := hid (BZ.out.ext hE5);clear hE5)
    | (go_at_call 99;(with_reducible refine (HA.out w5 E5.out).mono ?_);rintro e w6 ⟨rfl,hE6⟩;have E6 : Hid (Ext w w6) := hid (E5.out.next hE6);have B6 := hid (B5.out.ext hE6);clear hE6)
    | (go_at_call 51;(with_reducible refine (rtext_any V w6 HV.out.l).mono ?_);rintro e w7 ⟨rfl,hE7⟩;have E7 : Hid (Ext w w7) := hid (E6.out.next hE7);have B7 := hid (B6.out.ext hE7);clear hE7))
   exact ⟨⟨t + 1,HTN.out,by go_num,by rw [HSN.out],B7.out,E7.out⟩,by have := HTN.out;simp [intOf];omega⟩
  ·obtain rfl : t = 68 := by omega
   go_upto_region 7 with (first
    | (go_at_call 50;(with_reducible refine (HO3.out _ _ (E3.out.alloc _) ((Blk.fresh wo 9 [.string (strOf (flatD val 68))]).rd rfl)).mono ?_);rintro e w5 ⟨rfl,hE5⟩;have E5 : Hid (Ext w w5) := hid ((E3.out.alloc _).next hE5);have B5 := hid (BZ.out.ext (((Ext.refl wo).alloc _).next hE5));clear hE5)
    | (refine wpList_store_fresh rfl 26 (.tmp 7) (.tmp 24) rfl _ w5.heap.size rfl (u8s (List.replicate 16 0)) (u8s K3) 26 (by rfl) (by rfl) rfl (dg_info.trans (congrArg some (by rw [u8s_len,HK3.out]))) (by rw [u8s_len,u8s_len,HK3.out];rfl) (u8s_one _) ?_;intro w6 hw6 hE6 hz6;have B67 := hid hw6;have E6 : Hid (Ext w w6) := hid (E5.out.next hE6);have B6 := hid (B5.out.ext hE6);clear hw6 hE6 hz6))
   go_wp2_with (first
    | (refine wpList_load_blk rfl 26 (.tmp 7) rfl w5.heap.size (by kernel_rfl) B67.out Tryz.underlying26 rfl (dg_info.trans (congrArg some (by rw [u8s_len,HK3.out]))) ?_)
    | (go_at_call 51;(with_reducible refine (rtext_any K3 w6 HK3.out).mono ?_);rintro e w7 ⟨rfl,hE7⟩;have E7 : Hid (Ext w w7) := hid (E6.out.next hE7);have B7 := hid (B6.out.ext hE7);clear hE7)
    | (go_at_call 50;(with_reducible refine (HO1.out _ _ (E7.out.alloc _) ((Blk.fresh w7 9 [.string (strOf K3)]).rd rfl)).mono ?_);rintro e w8 ⟨rfl,hE8⟩;have E8 : Hid (Ext w w8) := hid ((E7.out.alloc _).next hE8);have B8 := hid (B7.out.ext (((Ext.refl w7).alloc _).next hE8));clear hE8)
    | (refine wpList_store_blk rfl 26 (.tmp 4) (.tmp 28) (by rfl) w.heap.size (u8s L1) rfl rfl B8.out (dg_info.trans (congrArg some (by rw [u8s_len,HL1.out]))) (by rw [u8s_len,u8s_len,HL1.out];rfl) (u8s_one _) ?_;intro w9 hw9 hb9))
   exact bodyPost_ret (results_blk Tryz.results132 _ _ w.heap.size 26 (u8s L1) _ rfl hb9 Tryz.underlying26 rfl (dg_info.trans (congrArg some (by rw [u8s_len,HL1.out])))) rfl ⟨by rw [HLD.out],by rw [hw9.out];exact E8.out.setRow (Nat.le_refl _) _⟩
end Go.Proofs.YtjeecfjeooehhaaGreatDoor
