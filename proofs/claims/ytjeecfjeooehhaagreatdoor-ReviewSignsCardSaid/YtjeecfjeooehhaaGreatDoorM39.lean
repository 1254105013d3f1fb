/- The reference's Verify of any signature. Conditions: a height up to 6, a message and a signature of at most 1000000 bytes; the table of constants is laid. -/
import Derived.Test.YtjeecfjeooehhaaGreatDoorM37
import Derived.Test.YtjeecfjeooehhaaGreatDoorM38
import Derived.Test.YtjeecfjeooehhaaGreatDoorM34
set_option linter.unusedSimpArgs false
set_option linter.unusedVariables false
set_option maxHeartbeats 16000000
set_option maxRecDepth 100000
namespace Go.Proofs.YtjeecfjeooehhaaGreatDoor
open Go.RowKit
open Lib (hid)
attribute [local go_sem ↓] wp_at_zero wp_at_succ
theorem rest_val (X : List Int) (hX : Byt X) (k : Nat) (hk : 16 * k + 16 ≤ X.length) : (bys ((strOf X).extract (16 * k) X.length)).take 16 = valD X k ∧ ((strOf X).extract (16 * k) X.length).size = X.length - 16 * k := by
 refine ⟨?_,?_⟩
 ·rw [bys_extract,bys_strOf X hX,List.take_take]
  unfold valD
  congr 1
  omega
 ·rw [ByteArray.size_extract,strOf_size]
  omega
theorem rverify_err (pub : List Int) (h : Nat) (er : Int) (msg S : ByteArray) (w : World) (hpub : Dig pub) (h6 : h ≤ 6) (hm : msg.size ≤ 1000000) (hS : S.size ≤ 1000000) (hg : getI (bys S) = (0,0,er)) (her : er = 2 ∨ er = 3) :
  Calls Tryz.prog 45 #[.agg (u8s pub).toArray,.int .i64 (h : Int),.string msg,.string S] w fun e w' => e = .returned (.tuple #[.int .i64 0,.int .i64 er]) ∧ Ext w w' := by
 obtain ⟨sz,hz⟩ : ∃ z,z = S.size := ⟨_,rfl⟩
 have HCV : Hid (∀ W,∃ cb wb,(convert 9 23 (.string S)).run Tryz.prog W = .ok (.slice (some ⟨W.heap.size,0,none⟩) sz cb) wb ∧ Calls Tryz.prog 101 #[.slice (some ⟨W.heap.size,0,none⟩) sz cb] wb (fun e w' => e = .returned (.tuple #[.int .i64 0,.int .i64 0,.int .i64 er]) ∧ Ext wb w') ∧ Ext W wb) := hid (fun W => by
  obtain ⟨cb,wb,hcb,hc2,hRb,hBb⟩ := run_toBytes2 (P := Tryz.prog) W 9 23 5 S Tryz.underlying9 Tryz.underlying23 Tryz.underlying5 (by omega)
  rw [← hz] at hcb hRb hc2
  have hgi := rgint_any (bys S) _ sz cb wb hRb (bys_byt S) hc2.1 hc2.2
  rw [hg] at hgi
  exact ⟨cb,wb,hcb,hgi,hBb⟩)
 clear hg hz
 have hen : (er != (0 : Int)) = true := by rcases her with rfl | rfl <;> decide
 go_enter Tryz.func45,Tryz.ntmps45
 go_upto_region 1 with fail
 obtain ⟨w1,hw1⟩ : ∃ x,x = w.alloc (.cells (u8s pub).toArray 26) := ⟨_,rfl⟩
 change Code.wp _ _ _ _ (w.alloc (.cells (u8s pub).toArray 26))
 rw [← hw1]
 have E1 : Hid (Ext w w1) := hid (by rw [hw1];exact (Ext.refl w).alloc _)
 have B1 : Hid (Blk w1 w.heap.size 26 (u8s pub)) := hid (by rw [hw1];exact Blk.fresh' _ _ _ _ _ rfl rfl)
 clear hw1
 obtain ⟨cb,wb,hcb,HGI0,hEb⟩ := HCV.out w1
 have HGI := hid HGI0;have EB := hid hEb
 clear HGI0 hEb HCV
 go_wp2_with (go_at_call 101;(with_reducible refine HGI.out.mono ?_);rintro e w3 ⟨rfl,hE3⟩;have E3 : Hid (Ext w1 w3) := hid (EB.out.next hE3);clear hE3)
 go_ret2
 exact ⟨rfl,E1.out.next E3.out⟩
theorem rverify_form (pub : List Int) (h p m : Nat) (i : Int) (msg S : ByteArray) (X : List Int) (w : World) (hpub : Dig pub) (h6 : h ≤ 6) (hp : p = 2 ^ h) (h0 : -9223372036854775808 ≤ i) (h1 : i ≤ 9223372036854775807) (hm : msg.size ≤ 1000000) (hS : S = strOf (encInt i ++ X)) (hX : Byt X) (hXm : X.length = m) (hm1 : m ≤ 1000000) (hne : i < 0 ∨ (p : Int) ≤ i ∨ ¬ (m : Int) = (68 + (h : Int)) * 16) :
  Calls Tryz.prog 45 #[.agg (u8s pub).toArray,.int .i64 (h : Int),.string msg,.string S] w fun e w' => e = .returned (.tuple #[.int .i64 0,.int .i64 2]) ∧ Ext w w' := by
 have hp64 : p ≤ 64 := by
  have := Nat.pow_le_pow_right (show 0 < 2 by decide) h6
  omega
 have hp2 : (2 : Int) ^ h = (p : Int) := by rw [hp];exact_mod_cast rfl
 have hle := encInt_le9 i h0 h1
 have hEB := encInt_byt i h0 h1
 obtain ⟨n,hn⟩ : ∃ n,n = (encInt i).length := ⟨_,rfl⟩
 have hn9 : n ≤ 9 := by rw [hn];exact hle
 have hn0 : 0 < n := by rw [hn,encInt_length];omega
 have hsz : S.size = n + m := by rw [hS,strOf_size,List.length_append,← hn,hXm]
 have hSB : bys S = encInt i ++ X := by rw [hS];exact bys_strOf _ (sg_byt_app hEB hX)
 have hg : getI (bys S) = (i,(n : Int),0) := by rw [hSB,getI_enc i X h0 h1,← hn]
 have hcut : S.extract n S.size = strOf X := by
  rw [← strOf_bys (S.extract n S.size),bys_extract,hSB]
  congr 1
  rw [hn,List.drop_left]
  rw [List.take_of_length_le]
  rw [hsz,hXm,hn]
  omega
 have hXs : (strOf X).size = m := by rw [strOf_size];exact hXm
 obtain ⟨sz,hz⟩ : ∃ z,z = S.size := ⟨_,rfl⟩
 have HCV : Hid (∀ W,∃ cb wb,(convert 9 23 (.string S)).run Tryz.prog W = .ok (.slice (some ⟨W.heap.size,0,none⟩) sz cb) wb ∧ Calls Tryz.prog 101 #[.slice (some ⟨W.heap.size,0,none⟩) sz cb] wb (fun e w' => e = .returned (.tuple #[.int .i64 i,.int .i64 (n : Int),.int .i64 0]) ∧ Ext wb w') ∧ Ext W wb) := hid (fun W => by
  obtain ⟨cb,wb,hcb,hc2,hRb,hBb⟩ := run_toBytes2 (P := Tryz.prog) W 9 23 5 S Tryz.underlying9 Tryz.underlying23 Tryz.underlying5 (by omega)
  rw [← hz] at hcb hRb hc2
  have hgi := rgint_any (bys S) _ sz cb wb hRb (bys_byt S) hc2.1 hc2.2
  rw [hg] at hgi
  exact ⟨cb,wb,hcb,hgi,hBb⟩)
 clear hg hz
 have hnS : (n : Int) ≤ (S.size : Int) := by omega
 clear hsz hSB hEB hle hn hp hS
 by_cases hneg : i < 0
 ·have hd0 : decide (i < 0) = true := decide_eq_true hneg
  go_enter Tryz.func45,Tryz.ntmps45
  go_upto_region 1 with fail
  obtain ⟨w1,hw1⟩ : ∃ x,x = w.alloc (.cells (u8s pub).toArray 26) := ⟨_,rfl⟩
  change Code.wp _ _ _ _ (w.alloc (.cells (u8s pub).toArray 26))
  rw [← hw1]
  have E1 : Hid (Ext w w1) := hid (by rw [hw1];exact (Ext.refl w).alloc _)
  have B1 : Hid (Blk w1 w.heap.size 26 (u8s pub)) := hid (by rw [hw1];exact Blk.fresh' _ _ _ _ _ rfl rfl)
  clear hw1
  obtain ⟨cb,wb,hcb,HGI0,hEb⟩ := HCV.out w1
  have HGI := hid HGI0;have EB := hid hEb
  clear HGI0 hEb HCV
  go_wp2_with (go_at_call 101;(with_reducible refine HGI.out.mono ?_);rintro e w3 ⟨rfl,hE3⟩;have E3 : Hid (Ext w1 w3) := hid (EB.out.next hE3);clear hE3)
  go_ret2
  exact ⟨rfl,E1.out.next E3.out⟩
 ·have hd0 : decide (i < 0) = false := decide_eq_false hneg
  by_cases hbig : (p : Int) ≤ i
  ·have hd1 : decide ((p : Int) ≤ i) = true := decide_eq_true hbig
   go_enter Tryz.func45,Tryz.ntmps45
   go_upto_region 1 with fail
   obtain ⟨w1,hw1⟩ : ∃ x,x = w.alloc (.cells (u8s pub).toArray 26) := ⟨_,rfl⟩
   change Code.wp _ _ _ _ (w.alloc (.cells (u8s pub).toArray 26))
   rw [← hw1]
   have E1 : Hid (Ext w w1) := hid (by rw [hw1];exact (Ext.refl w).alloc _)
   have B1 : Hid (Blk w1 w.heap.size 26 (u8s pub)) := hid (by rw [hw1];exact Blk.fresh' _ _ _ _ _ rfl rfl)
   clear hw1
   obtain ⟨cb,wb,hcb,HGI0,hEb⟩ := HCV.out w1
   have HGI := hid HGI0;have EB := hid hEb
   clear HGI0 hEb HCV
   go_wp2_with (go_at_call 101;(with_reducible refine HGI.out.mono ?_);rintro e w3 ⟨rfl,hE3⟩;have E3 : Hid (Ext w1 w3) := hid (EB.out.next hE3);clear hE3)
   go_ret2
   exact ⟨rfl,E1.out.next E3.out⟩
  ·have hd1 : decide ((p : Int) ≤ i) = false := decide_eq_false hbig
   have hnm : ¬ (m : Int) = (68 + (h : Int)) * 16 := by omega
   obtain ⟨r,hr⟩ : ∃ r : Nat,r = 68 + h := ⟨_,rfl⟩
   obtain ⟨q,hq⟩ : ∃ q : Nat,q = r * 16 := ⟨_,rfl⟩
   have hwr : IntKind.i64.wrap (68 + (h : Int)) = (r : Int) := by rw [wrap_id _ (by omega) (by omega)];omega
   have hwq : IntKind.i64.wrap ((r : Int) * 16) = (q : Int) := by rw [wrap_id _ (by omega) (by omega)];omega
   have hmq : ((m : Int) != (q : Int)) = true := by rw [bne_iff_ne];omega
   clear hr hq hne hnm
   go_enter Tryz.func45,Tryz.ntmps45
   go_upto_region 1 with fail
   obtain ⟨w1,hw1⟩ : ∃ x,x = w.alloc (.cells (u8s pub).toArray 26) := ⟨_,rfl⟩
   change Code.wp _ _ _ _ (w.alloc (.cells (u8s pub).toArray 26))
   rw [← hw1]
   have E1 : Hid (Ext w w1) := hid (by rw [hw1];exact (Ext.refl w).alloc _)
   have B1 : Hid (Blk w1 w.heap.size 26 (u8s pub)) := hid (by rw [hw1];exact Blk.fresh' _ _ _ _ _ rfl rfl)
   clear hw1
   obtain ⟨cb,wb,hcb,HGI0,hEb⟩ := HCV.out w1
   have HGI := hid HGI0;have EB := hid hEb
   clear HGI0 hEb HCV
   go_wp2_with (go_at_call 101;(with_reducible refine HGI.out.mono ?_);rintro e w3 ⟨rfl,hE3⟩;have E3 : Hid (Ext w1 w3) := hid (EB.out.next hE3);clear hE3)
   go_ret2
   exact ⟨rfl,E1.out.next E3.out⟩
theorem rverify_gen (pub : List Int) (h k p m : Nat) (msg S : ByteArray) (X : List Int) (w : World) (hpub : Dig pub) (h6 : h ≤ 6) (hp : p = 2 ^ h) (hip : k < p) (hm : msg.size ≤ 1000000) (hS : S = strOf (encInt (k : Int) ++ X)) (hX : Byt X) (hXm : X.length = m) (hmh : m = (68 + h) * 16) (hK : RTab w) :
  Calls Tryz.prog 45 #[.agg (u8s pub).toArray,.int .i64 (h : Int),.string msg,.string S] w fun e w' => ((rootD pub h k msg X = pub ∧ e = .returned (.tuple #[.int .i64 (k : Int),.int .i64 0])) ∨ (¬ rootD pub h k msg X = pub ∧ e = .returned (.tuple #[.int .i64 0,.int .i64 10]))) ∧ Ext w w' := by
 have HKW : Hid (∀ W,Ext w W → RTab W) := hid (fun W h => hK.below h)
 have HPB := hid hpub
 have hp64 : p ≤ 64 := by
  have := Nat.pow_le_pow_right (show 0 < 2 by decide) h6
  omega
 have hp2 : (2 : Int) ^ h = (p : Int) := by rw [hp];exact_mod_cast rfl
 obtain ⟨i,hi⟩ : ∃ i : Int,i = (k : Int) := ⟨_,rfl⟩
 have h0 : -9223372036854775808 ≤ i := by omega
 have h1 : i ≤ 9223372036854775807 := by omega
 have HI : Hid (I64 (k : Int)) := hid ⟨by omega,by omega⟩
 rw [← hi] at hS
 have hle := encInt_le9 i h0 h1
 have hEB := encInt_byt i h0 h1
 obtain ⟨n,hn⟩ : ∃ n,n = (encInt i).length := ⟨_,rfl⟩
 have hn9 : n ≤ 9 := by rw [hn];exact hle
 have hn0 : 0 < n := by rw [hn,encInt_length];omega
 have hsz : S.size = n + m := by rw [hS,strOf_size,List.length_append,← hn,hXm]
 have hSB : bys S = encInt i ++ X := by rw [hS];exact bys_strOf _ (sg_byt_app hEB hX)
 have hg : getI (bys S) = (i,(n : Int),0) := by rw [hSB,getI_enc i X h0 h1,← hn]
 have hcut : S.extract n S.size = strOf X := by
  rw [← strOf_bys (S.extract n S.size),bys_extract,hSB]
  congr 1
  rw [hn,List.drop_left]
  rw [List.take_of_length_le]
  rw [hsz,hXm,hn]
  omega
 have hXs : (strOf X).size = m := by rw [strOf_size];exact hXm
 obtain ⟨sz,hz⟩ : ∃ z,z = S.size := ⟨_,rfl⟩
 have HCV : Hid (∀ W,∃ cb wb,(convert 9 23 (.string S)).run Tryz.prog W = .ok (.slice (some ⟨W.heap.size,0,none⟩) sz cb) wb ∧ Calls Tryz.prog 101 #[.slice (some ⟨W.heap.size,0,none⟩) sz cb] wb (fun e w' => e = .returned (.tuple #[.int .i64 i,.int .i64 (n : Int),.int .i64 0]) ∧ Ext wb w') ∧ Ext W wb) := hid (fun W => by
  obtain ⟨cb,wb,hcb,hc2,hRb,hBb⟩ := run_toBytes2 (P := Tryz.prog) W 9 23 5 S Tryz.underlying9 Tryz.underlying23 Tryz.underlying5 (by omega)
  rw [← hz] at hcb hRb hc2
  have hgi := rgint_any (bys S) _ sz cb wb hRb (bys_byt S) hc2.1 hc2.2
  rw [hg] at hgi
  exact ⟨cb,wb,hcb,hgi,hBb⟩)
 clear hg hz
 have hnS : (n : Int) ≤ (S.size : Int) := by omega
 obtain ⟨RV,hRV⟩ : ∃ r,r = rootD pub h k msg X := ⟨_,rfl⟩
 have HRV := hid hRV
 rw [← hRV]
 obtain ⟨RS,hRS⟩ : ∃ r,r = strOf X := ⟨_,rfl⟩
 rw [← hRS] at hcut hXs
 have HVD : Hid (∀ c,c < 68 + h → Dig (valD X c)) := hid (fun c hc => valD_dig hX (by omega))
 have HDS : Hid (∀ (c a : Nat) W,c < 68 + h → a = 16 * c → Calls Tryz.prog 102 #[.string (RS.extract a m)] W fun e w' => e = .returned (.agg (u8s (valD X c)).toArray) ∧ Ext W w') := hid (fun c a W hc ha => by
  have hv := rest_val X hX c (by omega)
  rw [hXm,← hRS] at hv
  have h := rdigest_any (RS.extract (16 * c) m) W (by rw [hv.2];omega) (by rw [hv.2];omega)
  rw [hv.1] at h
  rw [ha]
  exact h)
 obtain ⟨D,hD⟩ : ∃ D,D = digestD pub (k : Int) msg := ⟨_,rfl⟩
 have HDD : Hid (Dig D) := hid (by rw [hD];exact ofD_dig _ _)
 have HDG : Hid (∀ W,Ext w W → Calls Tryz.prog 24 #[.agg (u8s pub).toArray,.int .i64 (k : Int),.string msg] W fun e w' => e = .returned (.agg (u8s D).toArray) ∧ Ext W w') := hid (fun W hW => by
  rw [hD]
  exact rDigest_any pub (k : Int) msg W hpub HI.out (by omega) (HKW.out W hW))
 obtain ⟨val,hval⟩ : ∃ f,f = endD (k : Int) X (dgN D) := ⟨_,rfl⟩
 have HVA : Hid (∀ t,t < 68 → Dig (val t)) := hid (fun t ht => by rw [hval];exact endD_dig (HVD.out t (by omega)))
 have HAD : Hid (∀ (t : Nat) W,t < 68 → Ext w W → Calls Tryz.prog 99 #[.int .i64 (k : Int),.int .i64 (t : Int),.int .i64 (dgN D t : Int),.int .i64 3,.agg (u8s (valD X t)).toArray] W fun e w' => e = .returned (.agg (u8s (val t)).toArray) ∧ Ext W w') := hid (fun t W ht hW => by
  rw [hval]
  have hd3 := dgN_le D t
  exact radvance_any (k : Int) (t : Int) (dgN D t) 3 (valD X t) W HI.out ⟨by omega,by omega⟩ (by omega) (by decide) (HVD.out t (by omega)) (HKW.out W hW))
 have HFV : Hid (∀ t : Nat,t ≤ 68 → (flatD val t).length = 16 * t) := hid (fun t ht => flatD_len val (fun j hj => HVA.out j (by omega)))
 obtain ⟨K3,hK3⟩ : ∃ k,k = ofD 3 [strOf (flatD val 68)] := ⟨_,rfl⟩
 obtain ⟨LV,hLV⟩ : ∃ k,k = ofD 1 [strOf K3] := ⟨_,rfl⟩
 have HK3 : Hid (K3.length = 16) := hid (by rw [hK3];exact ofD_len _ _)
 have HLD : Hid (Dig LV) := hid (by rw [hLV];exact ofD_dig _ _)
 have HO3 : Hid (∀ (g : Nat) W,Ext w W → Rd W W.heap.size (some ⟨g,0,none⟩) 1 (strs [strOf (flatD val 68)]) → Calls Tryz.prog 50 #[.int .i64 3,.slice (some ⟨g,0,none⟩) 1 1] W fun e w' => e = .returned (.agg (u8s K3).toArray) ∧ Ext W w') := hid (fun g W hW hr => by
  rw [hK3]
  exact rof_any 3 [strOf (flatD val 68)] _ 1 1 W hr (by decide) (encs_single _ (by rw [strOf_size,HFV.out 68 (Nat.le_refl _)];decide)) (HKW.out W hW))
 have HO1 : Hid (∀ (g : Nat) W,Ext w W → Rd W W.heap.size (some ⟨g,0,none⟩) 1 (strs [strOf K3]) → Calls Tryz.prog 50 #[.int .i64 1,.slice (some ⟨g,0,none⟩) 1 1] W fun e w' => e = .returned (.agg (u8s LV).toArray) ∧ Ext W w') := hid (fun g W hW hr => by
  rw [hLV]
  exact rof_any 1 [strOf K3] _ 1 1 W hr (by decide) (encs_single _ (by rw [strOf_size,HK3.out];decide)) (HKW.out W hW))
 have HRT : Hid (climbD X k LV h = RV) := hid (by rw [hRV,hLV,hK3,hval,hD];rfl)
 have HCD : Hid (∀ l,Dig (climbD X k LV l)) := hid (climbD_dig X k LV HLD.out)
 have HM6 : Hid (m = (68 + h) * 16) := hid hmh
 have hm2 : m ≤ 2000 := by omega
 have hd0 : decide ((k : Int) < 0) = false := decide_eq_false (by omega)
 have hd1 : decide ((p : Int) ≤ (k : Int)) = false := decide_eq_false (by omega)
 have hwp : IntKind.i64.wrap (p : Int) = (p : Int) := wrap_id _ (by omega) (by omega)
 have HPL : Hid ((u8s pub).length = 16) := hid (by rw [u8s_len];exact HPB.out.l)
 clear hsz hSB hEB hle hn hp hS hRV hRS hD hval hK3 hLV hK hX hXm hpub
 subst hi
 go_enter Tryz.func45,Tryz.ntmps45
 go_upto_region 1 with fail
 obtain ⟨w1,hw1⟩ : ∃ x,x = w.alloc (.cells (u8s pub).toArray 26) := ⟨_,rfl⟩
 change Code.wp _ _ _ _ (w.alloc (.cells (u8s pub).toArray 26))
 rw [← hw1]
 have E1 : Hid (Ext w w1) := hid (by rw [hw1];exact (Ext.refl w).alloc _)
 have B1 : Hid (Blk w1 w.heap.size 26 (u8s pub)) := hid (by rw [hw1];exact Blk.fresh' _ _ _ _ _ rfl rfl)
 clear hw1
 obtain ⟨cb,wb,hcb,HGI0,hEb⟩ := HCV.out w1
 have HGI := hid HGI0;have EB := hid hEb
 clear HGI0 hEb HCV
 obtain ⟨r,hr⟩ : ∃ r : Nat,r = 68 + h := ⟨_,rfl⟩
 obtain ⟨q,hq⟩ : ∃ q : Nat,q = r * 16 := ⟨_,rfl⟩
 have hwr : IntKind.i64.wrap (68 + (h : Int)) = (r : Int) := by rw [wrap_id _ (by omega) (by omega)];omega
 have hwq : IntKind.i64.wrap ((r : Int) * 16) = (q : Int) := by rw [wrap_id _ (by omega) (by omega)];omega
 have hmq : ((m : Int) != (q : Int)) = false := by rw [bne_eq_false_iff_eq];omega
 clear hr hq hmh
 go_wp2_with (first
  | (go_at_call 101;(with_reducible refine HGI.out.mono ?_);rintro e w3 ⟨rfl,hE3⟩;have E3 : Hid (Ext w1 w3) := hid (EB.out.next hE3);clear hE3)
  | (refine wpList_load_blk rfl 26 (.tmp 4) rfl w.heap.size (by kernel_rfl) (B1.out.ext E3.out) Tryz.underlying26 rfl (dg_info.trans (congrArg some HPL.out.symm)) ?_)
  | (go_at_call 24;(with_reducible refine (HDG.out w3 (E1.out.next E3.out)).mono ?_);rintro e w4 ⟨rfl,hE4⟩;have E4 : Hid (Ext w1 w4) := hid (E3.out.next hE4);clear hE4)
  | (go_at_call 98;(with_reducible refine (rdigits_c D w4 HDD.out.l HDD.out.b).mono ?_);rintro e w5 ⟨⟨gd,cd,rfl,hdc⟩,hE5⟩;have E5 : Hid (Ext w1 w5) := hid (E4.out.next hE5);have DC5 := hid hdc;clear hE5 hdc))
 have BP5 := hid (B1.out.ext E5.out)
 have EW5 := hid (E1.out.next E5.out)
 clear hcb HGI EB E3 E4 E5 E1 B1 HDG hd0 hd1 hwp hwr hwq hmq hcut hnS
 go_loopw [15,16] (fun s15 s16 wr => ∃ t : Nat,t ≤ 68 ∧ s16 = .int .i64 (t : Int) ∧ s15 = .string (strOf (flatD val t)) ∧ Ext w5 wr) (fun _ x _ => 68 - (intOf x).toNat)
 case atStart => exact ⟨0,by omega,rfl,by rfl,Ext.refl _⟩
 case round =>
  obtain ⟨t,ht,rfl,rfl,hE⟩ := hrel
  have E8 := hid hE
  clear hE
  obtain ⟨wo,rfl⟩ : ∃ x : World,x = wr := ⟨_,rfl⟩
  by_cases hlt : t < 68
  ·have HC := hid (fun W hW => HAD.out t W hlt hW)
   have HS := hid (fun (a : Nat) W (ha : a = 16 * t) => HDS.out t a W (by omega) ha)
   have HCD : Hid (∀ W,Ext w5 W → W.cell? ⟨gd,t,none⟩ = some (.int .i64 (dgN D t : Int))) := hid (fun W hW => DC5.out.ext hW t hlt)
   have hdv3 := dgN_le D t
   generalize dgN D t = dv at *
   have HD := hid (HVA.out t hlt)
   have HTN : Hid (t + 1 ≤ 68) := hid hlt
   have hs1 : (strOf (flatD val t)).size ≤ 2000 := by rw [strOf_size,HFV.out t ht];omega
   have hs2 : (strOf (val t)).size = 16 := dig_size HD.out
   have HSN : Hid (strOf (flatD val t) ++ strOf (val t) = strOf (flatD val (t + 1))) := hid (by rw [strOf_two,flatD_succ])
   obtain ⟨U,hU⟩ : ∃ U,U = val t := ⟨_,rfl⟩
   rw [← hU] at HC HD hs2 HSN
   obtain ⟨Y,hY⟩ : ∃ Y,Y = strOf (flatD val t) := ⟨_,rfl⟩
   rw [← hY] at hs1 HSN ⊢
   obtain ⟨Z,hZ⟩ : ∃ Z,Z = valD X t := ⟨_,rfl⟩
   rw [← hZ] at HC HS
   have hcm : 16 * t ≤ m := by have := HM6.out;omega
   have hcmz : (16 : Int) * (t : Int) ≤ (RS.size : Int) := by omega
   clear hU hY hZ
   go_upto_region 16 with fail
   rw [show decide ((t : Int) < 68) = true from decide_eq_true (by have := HTN.out;omega)]
   refine wp_region_flowF 15 ?FW1 (fun us => ?_) (by kernel_rfl) (by kernel_rfl) (fun a b => Ext a b) Ext.refl (fun h1 h2 => h1.next h2) (fun fi v W => match fi with
    | 0 => v = .string Y
    | 1 => v = .int .i64 (k : Int)
    | 2 => v = .int .i64 (t : Int)
    | 3 => v = .slice (some ⟨gd,0,none⟩) 68 cd
    | 4 => v = .int .i64 (t : Int)
    | 5 => v = .pointer (some ⟨gd,t,none⟩)
    | 6 => v = .int .i64 (dv : Int)
    | 7 => v = .string RS
    | 8 => v = .int .i64 (t : Int)
    | 9 => v = .int .i64 (16 * (t : Int))
    | 10 => v = .string (RS.extract (16 * t) m)
    | 11 => v = .agg (u8s Z).toArray
    | 12 => v = .agg (u8s U).toArray
    | 13 => v = .string (strOf U)
    | 14 => v = .string (Y ++ strOf U)
    | _ => True) ?_ ?_
   case refine_1 =>
    simp only [List.take_succ_cons,List.take_zero,flowAct,Nat.zero_add,Nat.reduceAdd,Act.put,List.setIfInBounds_toArray,List.set_cons_succ,List.set_cons_zero]
    rfl
   ·simp only [List.take_succ_cons,List.take_zero,flowStepsF]
    refine ⟨?_,?_,?_,?_,?_,?_,?_,?_,?_,?_,?_,?_,?_,?_,?_,trivial⟩
    ·intro us W K hE hd hK
     dsimp only at hK ⊢
     have HK := hid hK;have HE := hid hE
     clear hK hd hE
     go_wp2_with fail
     exact K_at (HK.out (.string Y) W (fun _ _ => rfl) (Ext.refl W)) (by kernel_rfl)
    ·intro us W K hE hd hK
     dsimp only at hK ⊢
     have HK := hid hK;have HE := hid hE
     clear hK hd hE
     go_wp2_with fail
     exact K_at (HK.out (.int .i64 (k : Int)) W (fun _ _ => rfl) (Ext.refl W)) (by kernel_rfl)
    ·intro us W K hE hd hK
     dsimp only at hK ⊢
     have HK := hid hK;have HE := hid hE
     clear hK hd hE
     go_wp2_with fail
     exact K_at (HK.out (.int .i64 (t : Int)) W (fun _ _ => rfl) (Ext.refl W)) (by kernel_rfl)
    ·intro us W K hE hd hK
     dsimp only at hK ⊢
     have HK := hid hK;have HE := hid hE
     clear hK hd hE
     go_wp2_with fail
     exact K_at (HK.out (.slice (some ⟨gd,0,none⟩) 68 cd) W (fun _ _ => rfl) (Ext.refl W)) (by kernel_rfl)
    ·intro us W K hE hd hK
     dsimp only at hK ⊢
     have HK := hid hK;have HE := hid hE
     clear hK hd hE
     go_wp2_with fail
     exact K_at (HK.out (.int .i64 (t : Int)) W (fun _ _ => rfl) (Ext.refl W)) (by kernel_rfl)
    ·intro us W K hE hd hK
     have d3 := hd 3 (by kernel_rfl)
     have d4 := hd 4 (by kernel_rfl)
     dsimp only at hK ⊢
     rw [d3,d4] at hK ⊢
     have HK := hid hK;have HE := hid hE
     clear hK hd hE d3 d4
     go_wp2_with fail
     exact K_at (HK.out (.pointer (some ⟨gd,t,none⟩)) W (fun _ _ => rfl) (Ext.refl W)) (by kernel_rfl)
    ·intro us W K hE hd hK
     have d5 := hd 5 (by kernel_rfl)
     have cc := HCD.out W (E8.out.next (sg_udrew hE))
     dsimp only at hK ⊢
     rw [d5] at hK ⊢
     have HK := hid hK;have HE := hid hE
     clear hK hd hE d5
     go_wp2_with fail
     exact K_at (HK.out (.int .i64 (dv : Int)) W (fun _ _ => rfl) (Ext.refl W)) (by kernel_rfl)
    ·intro us W K hE hd hK
     dsimp only at hK ⊢
     have HK := hid hK;have HE := hid hE
     clear hK hd hE
     go_wp2_with fail
     exact K_at (HK.out (.string RS) W (fun _ _ => rfl) (Ext.refl W)) (by kernel_rfl)
    ·intro us W K hE hd hK
     dsimp only at hK ⊢
     have HK := hid hK;have HE := hid hE
     clear hK hd hE
     go_wp2_with fail
     exact K_at (HK.out (.int .i64 (t : Int)) W (fun _ _ => rfl) (Ext.refl W)) (by kernel_rfl)
    ·intro us W K hE hd hK
     have d8 := hd 8 (by kernel_rfl)
     dsimp only at hK ⊢
     rw [d8] at hK ⊢
     have HK := hid hK;have HE := hid hE
     clear hK hd hE d8
     go_wp2_with fail
     exact K_at (HK.out (.int .i64 (16 * (t : Int))) W (fun _ _ => rfl) (Ext.refl W)) (by kernel_rfl)
    ·intro us W K hE hd hK
     have d7 := hd 7 (by kernel_rfl)
     have d9 := hd 9 (by kernel_rfl)
     dsimp only at hK ⊢
     rw [d7,d9] at hK ⊢
     have HK := hid hK;have HE := hid hE
     clear hK hd hE d7 d9
     go_wp2_with fail
     exact K_at (HK.out (.string (RS.extract (16 * t) m)) W (fun _ _ => rfl) (Ext.refl W)) (by kernel_rfl)
    ·intro us W K hE hd hK
     have d10 := hd 10 (by kernel_rfl)
     have HSW := hid (HS.out (16 * t) W rfl)
     dsimp only at hK ⊢
     rw [d10] at hK ⊢
     have HK := hid hK;have HE := hid hE
     clear hK hd hE d10
     go_wp2_with ((go_at_call 102;(with_reducible refine HSW.out.mono ?_);rintro e w6 ⟨rfl,hB6⟩))
     exact K_at (HK.out (.agg (u8s Z).toArray) w6 (fun _ _ => rfl) hB6) (by kernel_rfl)
    ·intro us W K hE hd hK
     have d1 := hd 1 (by kernel_rfl)
     have d2 := hd 2 (by kernel_rfl)
     have d6 := hd 6 (by kernel_rfl)
     have d11 := hd 11 (by kernel_rfl)
     have HCW := hid (HC.out W (EW5.out.next (E8.out.next (sg_udrew hE))))
     dsimp only at hK ⊢
     rw [d1,d2,d6,d11] at hK ⊢
     have HK := hid hK;have HE := hid hE
     clear hK hd hE d1 d2 d6 d11
     go_wp2_with ((go_at_call 99;(with_reducible refine HCW.out.mono ?_);rintro e w6 ⟨rfl,hB6⟩))
     exact K_at (HK.out (.agg (u8s U).toArray) w6 (fun _ _ => rfl) hB6) (by kernel_rfl)
    ·intro us W K hE hd hK
     have d12 := hd 12 (by kernel_rfl)
     dsimp only at hK ⊢
     rw [d12] at hK ⊢
     have HK := hid hK;have HE := hid hE
     clear hK hd hE d12
     go_wp2_with ((go_at_call 51;(with_reducible refine (rtext_any U W HD.out.l).mono ?_);rintro e w6 ⟨rfl,hB6⟩))
     exact K_at (HK.out (.string (strOf U)) w6 (fun _ _ => rfl) hB6) (by kernel_rfl)
    ·intro us W K hE hd hK
     have d0 := hd 0 (by kernel_rfl)
     have d13 := hd 13 (by kernel_rfl)
     dsimp only at hK ⊢
     rw [d0,d13] at hK ⊢
     have HK := hid hK;have HE := hid hE
     clear hK hd hE d0 d13
     go_wp2_with fail
     exact K_at (HK.out (.string (Y ++ strOf U)) W (fun _ _ => rfl) (Ext.refl W)) (by kernel_rfl)
   ·intro us W hE hd
    try dsimp only
    have d14 := hd 14 (by decide)
    simp only [List.drop_succ_cons,List.drop_zero]
    rw [d14]
    have EW := hid (E8.out.next (sg_udrew hE))
    clear hd hE d14
    go_wp2_with fail
    exact ⟨⟨t + 1,HTN.out,by go_num,by rw [HSN.out],EW.out⟩,by have := HTN.out;simp [intOf];omega⟩
  ·obtain rfl : t = 68 := by omega
   have HLL : Hid ((u8s LV).length = 16) := hid (by rw [u8s_len];exact HLD.out.l)
   have EWO := hid (EW5.out.next E8.out)
   go_upto_region 18 with (first
    | (go_at_call 50;(with_reducible refine (HO3.out _ _ (EWO.out.alloc _) ((Blk.fresh wo 9 [.string (strOf (flatD val 68))]).rd rfl)).mono ?_);rintro e w6 ⟨rfl,hE6⟩;have E6 : Hid (Ext w5 w6) := hid ((E8.out.alloc _).next hE6);clear hE6)
    | (refine wpList_store_fresh rfl 26 (.tmp 17) (.tmp 86) rfl _ w6.heap.size rfl (u8s (List.replicate 16 0)) (u8s K3) 26 (by rfl) (by rfl) rfl (dg_info.trans (congrArg some (by rw [u8s_len,HK3.out]))) (by rw [u8s_len,u8s_len,HK3.out];rfl) (u8s_one _) ?_;intro w7 hw7 hE7 hz7;have B7 := hid hw7;have E7 : Hid (Ext w5 w7) := hid (E6.out.next hE7);clear hw7 hE7 hz7))
   go_upto_region 19 with (first
    | (refine wpList_load_blk rfl 26 (.tmp 17) rfl w6.heap.size (by kernel_rfl) B7.out Tryz.underlying26 rfl (dg_info.trans (congrArg some (by rw [u8s_len,HK3.out]))) ?_)
    | (go_at_call 51;(with_reducible refine (rtext_any K3 w7 HK3.out).mono ?_);rintro e w9 ⟨rfl,hE9⟩;have E9 : Hid (Ext w5 w9) := hid (E7.out.next hE9);clear hE9)
    | (go_at_call 50;(with_reducible refine (HO1.out _ _ (EW5.out.next (E9.out.alloc _)) ((Blk.fresh w9 9 [.string (strOf K3)]).rd rfl)).mono ?_);rintro e wA ⟨rfl,hEA⟩;have EA : Hid (Ext w5 wA) := hid ((E9.out.alloc _).next hEA);clear hEA)
    | (refine wpList_store_fresh rfl 26 (.tmp 18) (.tmp 90) rfl _ wA.heap.size rfl (u8s (List.replicate 16 0)) (u8s LV) 26 (by rfl) (by rfl) rfl (dg_info.trans (congrArg some HLL.out.symm)) (by rw [u8s_len,HLL.out];rfl) (u8s_one _) ?_;intro wB hwB hEB hzB;have BV := hid hwB;have EB : Hid (Ext w5 wB) := hid (EA.out.next hEB);clear hwB hEB hzB))
   obtain ⟨tv,htv⟩ : ∃ x,x = wA.heap.size := ⟨_,rfl⟩
   rw [← htv] at BV ⊢
   have HTV : Hid (w5.heap.size ≤ tv) := hid (by rw [htv];exact EA.out.size)
   clear htv E8 E6 E7 E9 EA B7 EWO HO3 HO1
   go_wp2_with fail
   go_loopw [19,20,21] (fun s19 s20 _ wr => ∃ t : Nat,t ≤ h ∧ s20 = .int .i64 (t : Int) ∧ s19 = .int .i64 ((k / 2 ^ t : Nat) : Int) ∧ Blk wr tv 26 (u8s (climbD X k LV t)) ∧ Ext w5 wr) (fun _ x _ _ => h - (intOf x).toNat)
   case atStart => exact ⟨0,by omega,rfl,by simp,BV.out,EB.out⟩
   case round =>
    clear BV EB
    obtain ⟨t,ht,rfl,rfl,hbv,hE⟩ := hrel
    have BV := hid hbv;have E8 := hid hE
    clear hbv hE
    obtain ⟨wo,rfl⟩ : ∃ x : World,x = wr := ⟨_,rfl⟩
    by_cases hlt : t < h
    ·have HTN : Hid (t + 1 ≤ h) := hid hlt
     have HS := hid (fun (a : Nat) W (ha : a = 16 * (68 + t)) => HDS.out (68 + t) a W (by omega) ha)
     have hs64 : k / 2 ^ t < 64 := by
      have := Nat.div_le_self k (2 ^ t)
      omega
     have HHP : Hid (k / 2 ^ t / 2 = k / 2 ^ (t + 1)) := hid (half_pow k t)
     have HSUC : Hid (climbD X k LV (t + 1) = if k / 2 ^ t % 2 = 1 then nodeD (valD X (68 + t)) (climbD X k LV t) else nodeD (climbD X k LV t) (valD X (68 + t))) := hid rfl
     have HD1 : Hid (Dig (valD X (68 + t))) := hid (HVD.out (68 + t) (by omega))
     have HD2 : Hid (Dig (climbD X k LV t)) := hid (HCD.out t)
     have HL3 : Hid ((u8s (climbD X k LV (t + 1))).length = 16) := hid (by rw [u8s_len];exact (HCD.out (t + 1)).l)
     have HL1 : Hid ((u8s (valD X (68 + t))).length = 16) := hid (by rw [u8s_len];exact HD1.out.l)
     have HL2 : Hid ((u8s (climbD X k LV t)).length = 16) := hid (by rw [u8s_len];exact HD2.out.l)
     obtain ⟨D1,hD1⟩ : ∃ d,d = valD X (68 + t) := ⟨_,rfl⟩
     obtain ⟨D2,hD2⟩ : ∃ d,d = climbD X k LV t := ⟨_,rfl⟩
     obtain ⟨D3,hD3⟩ : ∃ d,d = climbD X k LV (t + 1) := ⟨_,rfl⟩
     have HD3 := hid hD3
     obtain ⟨s,hs⟩ : ∃ s,s = k / 2 ^ t := ⟨_,rfl⟩
     rw [← hs] at hs64 HHP HSUC ⊢
     rw [← hD1] at HS HD1 HL1 HSUC
     rw [← hD2] at BV HD2 HL2 HSUC
     rw [← hD3] at HL3 HSUC
     have hr : ((s : Nat) : Int).tmod 2 = ((s % 2 : Nat) : Int) := rfl
     have hcm : (68 + t) * 16 ≤ m := by have := HM6.out;omega
     have hcmz : (68 + (t : Int)) * 16 ≤ (RS.size : Int) := by omega
     clear hD1 hD2 hD3 hs
     by_cases hod : s % 2 = 1
     ·have hz1 : decide ((s : Int).tmod 2 = 1) = true := decide_eq_true (by rw [hr];omega)
      have HNO : Hid (∀ W,Ext w W → Calls Tryz.prog 103 #[.agg (u8s D1).toArray,.agg (u8s D2).toArray] W fun e w' => e = .returned (.agg (u8s D3).toArray) ∧ Ext W w') := hid (fun W hW => by
       rw [HSUC.out,if_pos hod]
       exact rnode_any D1 D2 W HD1.out HD2.out (HKW.out W hW))
      go_wp2_with (first
       | (go_at_call 102;(with_reducible refine (HS.out (16 * (68 + t)) wo rfl).mono ?_);rintro e w6 ⟨rfl,hE6⟩;have E6 : Hid (Ext w5 w6) := hid (E8.out.next hE6);have BV6 := hid (BV.out.ext hE6);clear hE6)
       | (refine wpList_store_fresh rfl 26 (.tmp 21) (.tmp 102) rfl _ w6.heap.size rfl (u8s (List.replicate 16 0)) (u8s D1) 26 (by rfl) (by rfl) rfl (dg_info.trans (congrArg some HL1.out.symm)) (by rw [u8s_len,HL1.out];rfl) (u8s_one _) ?_;intro w7 hw7 hE7 hz7;have B7 := hid hw7;have E7 : Hid (Ext w5 w7) := hid (E6.out.next hE7);have BV7 := hid (BV6.out.ext hE7);clear hw7 hE7 hz7)
       | (refine wpList_load_blk rfl 26 (.tmp 21) rfl w6.heap.size (by kernel_rfl) B7.out Tryz.underlying26 rfl (dg_info.trans (congrArg some HL1.out.symm)) ?_)
       | (refine wpList_load_blk rfl 26 (.tmp 18) rfl tv (by kernel_rfl) BV7.out Tryz.underlying26 rfl (dg_info.trans (congrArg some HL2.out.symm)) ?_)
       | (go_at_call 103;(with_reducible refine (HNO.out w7 (EW5.out.next E7.out)).mono ?_);rintro e w9 ⟨rfl,hE9⟩;have E9 : Hid (Ext w5 w9) := hid (E7.out.next hE9);have BV9 := hid (BV7.out.ext hE9);clear hE9)
       | (refine wpList_store_blk rfl 26 (.tmp 18) (.tmp 108) (by rfl) tv (u8s D3) rfl rfl BV9.out (dg_info.trans (congrArg some HL3.out.symm)) (HL2.out.trans HL3.out.symm) (u8s_one _) ?_;intro wC hwC hbC;have BC := hid hbC;have EC : Hid (Ext w5 wC) := hid (by rw [hwC.out];exact E9.out.setRow HTV.out _);clear hwC hbC))
      exact ⟨⟨t + 1,HTN.out,by go_num,by rw [← HHP.out];rfl,by rw [← HD3.out];exact BC.out,EC.out⟩,by have := HTN.out;simp [intOf];omega⟩
     ·have hz1 : decide ((s : Int).tmod 2 = 1) = false := decide_eq_false (by rw [hr];omega)
      have HNO : Hid (∀ W,Ext w W → Calls Tryz.prog 103 #[.agg (u8s D2).toArray,.agg (u8s D1).toArray] W fun e w' => e = .returned (.agg (u8s D3).toArray) ∧ Ext W w') := hid (fun W hW => by
       rw [HSUC.out,if_neg hod]
       exact rnode_any D2 D1 W HD2.out HD1.out (HKW.out W hW))
      go_wp2_with (first
       | (go_at_call 102;(with_reducible refine (HS.out (16 * (68 + t)) wo rfl).mono ?_);rintro e w6 ⟨rfl,hE6⟩;have E6 : Hid (Ext w5 w6) := hid (E8.out.next hE6);have BV6 := hid (BV.out.ext hE6);clear hE6)
       | (refine wpList_store_fresh rfl 26 (.tmp 21) (.tmp 102) rfl _ w6.heap.size rfl (u8s (List.replicate 16 0)) (u8s D1) 26 (by rfl) (by rfl) rfl (dg_info.trans (congrArg some HL1.out.symm)) (by rw [u8s_len,HL1.out];rfl) (u8s_one _) ?_;intro w7 hw7 hE7 hz7;have B7 := hid hw7;have E7 : Hid (Ext w5 w7) := hid (E6.out.next hE7);have BV7 := hid (BV6.out.ext hE7);clear hw7 hE7 hz7)
       | (refine wpList_load_blk rfl 26 (.tmp 21) rfl w6.heap.size (by kernel_rfl) B7.out Tryz.underlying26 rfl (dg_info.trans (congrArg some HL1.out.symm)) ?_)
       | (refine wpList_load_blk rfl 26 (.tmp 18) rfl tv (by kernel_rfl) BV7.out Tryz.underlying26 rfl (dg_info.trans (congrArg some HL2.out.symm)) ?_)
       | (go_at_call 103;(with_reducible refine (HNO.out w7 (EW5.out.next E7.out)).mono ?_);rintro e w9 ⟨rfl,hE9⟩;have E9 : Hid (Ext w5 w9) := hid (E7.out.next hE9);have BV9 := hid (BV7.out.ext hE9);clear hE9)
       | (refine wpList_store_blk rfl 26 (.tmp 18) (.tmp 111) (by rfl) tv (u8s D3) rfl rfl BV9.out (dg_info.trans (congrArg some HL3.out.symm)) (HL2.out.trans HL3.out.symm) (u8s_one _) ?_;intro wC hwC hbC;have BC := hid hbC;have EC : Hid (Ext w5 wC) := hid (by rw [hwC.out];exact E9.out.setRow HTV.out _);clear hwC hbC))
      exact ⟨⟨t + 1,HTN.out,by go_num,by rw [← HHP.out];rfl,by rw [← HD3.out];exact BC.out,EC.out⟩,by have := HTN.out;simp [intOf];omega⟩
    ·obtain rfl : t = h := by omega
     have HRL : Hid (Dig RV) := hid (by rw [← HRT.out];exact HCD.out _)
     have BVR : Hid (Blk wo tv 26 (u8s RV)) := hid (by rw [← HRT.out];exact BV.out)
     have BPO := hid (BP5.out.ext E8.out)
     have HL2 : Hid ((u8s RV).length = 16) := hid (by rw [u8s_len];exact HRL.out.l)
     have hq := dig_equal RV pub HRL.out HPB.out
     clear BV
     by_cases heq : RV = pub
     ·have hq2 : ∀ W,(Op.equalIn 10000 26 (.agg (u8s RV).toArray) (.agg (u8s pub).toArray)).run Tryz.prog W = .ok true W := fun W => by rw [hq W,decide_eq_true heq]
      have HEQ := hid heq
      clear hq heq
      go_wp2_with (first
       | (refine wpList_load_blk rfl 26 (.tmp 18) rfl tv (by kernel_rfl) BVR.out Tryz.underlying26 rfl (dg_info.trans (congrArg some HL2.out.symm)) ?_)
       | (refine wpList_load_blk rfl 26 (.tmp 4) rfl w.heap.size (by kernel_rfl) BPO.out Tryz.underlying26 rfl (dg_info.trans (congrArg some HPL.out.symm)) ?_))
      go_ret2
      exact ⟨Or.inl ⟨HEQ.out,rfl⟩,EW5.out.next E8.out⟩
     ·have hq2 : ∀ W,(Op.equalIn 10000 26 (.agg (u8s RV).toArray) (.agg (u8s pub).toArray)).run Tryz.prog W = .ok false W := fun W => by rw [hq W,decide_eq_false heq]
      have HEQ := hid heq
      clear hq heq
      go_wp2_with (first
       | (refine wpList_load_blk rfl 26 (.tmp 18) rfl tv (by kernel_rfl) BVR.out Tryz.underlying26 rfl (dg_info.trans (congrArg some HL2.out.symm)) ?_)
       | (refine wpList_load_blk rfl 26 (.tmp 4) rfl w.heap.size (by kernel_rfl) BPO.out Tryz.underlying26 rfl (dg_info.trans (congrArg some HPL.out.symm)) ?_))
      go_ret2
      exact ⟨Or.inr ⟨HEQ.out,rfl⟩,EW5.out.next E8.out⟩
end Go.Proofs.YtjeecfjeooehhaaGreatDoor
/- Verify of any signature as one function, for sign and its reference. Conditions: a height up to 6, a message and a signature of at most 1000000 bytes; the tables of constants are laid. -/
namespace Go.Proofs.YtjeecfjeooehhaaGreatDoor
open Go.RowKit
open Lib (hid)
def verV (pub : List Int) (h : Nat) (msg S : ByteArray) : Int × Int :=
 if (getI (bys S)).2.2 ≠ 0 then (0,(getI (bys S)).2.2)
 else if (getI (bys S)).1 < 0 ∨ ((2 ^ h : Nat) : Int) ≤ (getI (bys S)).1 ∨ ¬ (((bys S).drop (getI (bys S)).2.1.toNat).length : Int) = (68 + (h : Int)) * 16 then (0,2)
 else if rootD pub h (getI (bys S)).1.toNat msg ((bys S).drop (getI (bys S)).2.1.toNat) = pub then ((getI (bys S)).1,0) else (0,10)
theorem ver_cases (pub : List Int) (h : Nat) (msg S : ByteArray) (hS : S.size ≤ 1000000) :
  (∃ er : Int,(er = 2 ∨ er = 3) ∧ getI (bys S) = (0,0,er) ∧ verV pub h msg S = (0,er)) ∨
  (∃ (x : Int) (X : List Int),S = strOf (encInt x ++ X) ∧ -9223372036854775808 ≤ x ∧ x ≤ 9223372036854775807 ∧ Byt X ∧ X.length ≤ 1000000 ∧ (x < 0 ∨ ((2 ^ h : Nat) : Int) ≤ x ∨ ¬ (X.length : Int) = (68 + (h : Int)) * 16) ∧ verV pub h msg S = (0,2)) ∨
  (∃ (k : Nat) (X : List Int),S = strOf (encInt (k : Int) ++ X) ∧ k < 2 ^ h ∧ Byt X ∧ X.length = (68 + h) * 16 ∧ (rootD pub h k msg X = pub ∧ verV pub h msg S = ((k : Int),0) ∨ ¬ rootD pub h k msg X = pub ∧ verV pub h msg S = (0,10))) := by
 have hB := bys_byt S
 rcases getI_cases (bys S) hB with ⟨er,hg,her⟩ | ⟨x,u,hg,hu1,hu9,hu,h0,h1,he⟩
 ·refine Or.inl ⟨er,her,hg,?_⟩
  unfold verV
  rw [hg,if_pos (by rcases her with rfl | rfl <;> decide)]
 ·have hX : Byt ((bys S).drop u) := fun y hy => hB y (List.mem_of_mem_drop hy)
  have hSx : S = strOf (encInt x ++ (bys S).drop u) := by rw [he,List.take_append_drop,strOf_bys]
  have hl : ((bys S).drop u).length ≤ 1000000 := by
   have := bys_size S
   rw [List.length_drop]
   omega
  have hv : verV pub h msg S = if x < 0 ∨ ((2 ^ h : Nat) : Int) ≤ x ∨ ¬ (((bys S).drop u).length : Int) = (68 + (h : Int)) * 16 then (0,2) else if rootD pub h x.toNat msg ((bys S).drop u) = pub then (x,0) else (0,10) := by
   unfold verV
   rw [hg]
   rfl
  by_cases hc : x < 0 ∨ ((2 ^ h : Nat) : Int) ≤ x ∨ ¬ (((bys S).drop u).length : Int) = (68 + (h : Int)) * 16
  ·exact Or.inr (Or.inl ⟨x,_,hSx,h0,h1,hX,hl,hc,by rw [hv,if_pos hc]⟩)
  ·rw [if_neg hc] at hv
   have hx0 : 0 ≤ x := by omega
   obtain ⟨k,rfl⟩ := Int.eq_ofNat_of_zero_le hx0
   refine Or.inr (Or.inr ⟨k,_,hSx,by omega,hX,by omega,?_⟩)
   rw [Int.toNat_natCast] at hv
   by_cases hr : rootD pub h k msg ((bys S).drop u) = pub
   ·exact Or.inl ⟨hr,by rw [hv,if_pos hr]⟩
   ·exact Or.inr ⟨hr,by rw [hv,if_neg hr]⟩
theorem verify_all (pub : List Int) (h : Nat) (msg S : ByteArray) (w : World) (hpub : Dig pub) (h6 : h ≤ 6) (hm : msg.size ≤ 1000000) (hS : S.size ≤ 1000000) (hK : KTab w) :
  Calls Tryz.prog 25 #[.agg (u8s pub).toArray,.int .i64 (h : Int),.string msg,.string S] w fun e w' => e = .returned (.tuple #[.int .i64 (verV pub h msg S).1,.int .i64 (verV pub h msg S).2]) ∧ Ext w w' := by
 rcases ver_cases pub h msg S hS with ⟨er,her,hg,hv⟩ | ⟨x,X,hSx,h0,h1,hX,hl,hc,hv⟩ | ⟨k,X,hSx,hk,hX,hl,hv⟩
 ·rw [hv];exact verify_err pub h er msg S w hpub h6 hm hS hg her
 ·rw [hv]
  by_cases hc2 : x < 0 ∨ ((2 ^ h : Nat) : Int) ≤ x
  ·exact verify_range pub h (2 ^ h) X.length x msg S X w hpub h6 rfl h0 h1 hc2 hm hSx hX rfl hl
  ·have hx0 : 0 ≤ x := by omega
   obtain ⟨k,rfl⟩ := Int.eq_ofNat_of_zero_le hx0
   exact verify_form pub h k (2 ^ h) X.length msg S X w hpub h6 rfl (by omega) hm hSx hX rfl hl (by omega) hK
 ·refine (verify_gen pub h k (2 ^ h) X.length msg S X w hpub h6 rfl hk hm hSx hX rfl hl hK).mono fun e w' hq => ⟨?_,hq.2⟩
  rcases hv with ⟨hr,hv⟩ | ⟨hr,hv⟩ <;> rw [hv] <;> rcases hq.1 with ⟨hr2,he⟩ | ⟨hr2,he⟩ <;> first | exact he | exact absurd hr hr2 | exact absurd hr2 hr
theorem rverify_all (pub : List Int) (h : Nat) (msg S : ByteArray) (w : World) (hpub : Dig pub) (h6 : h ≤ 6) (hm : msg.size ≤ 1000000) (hS : S.size ≤ 1000000) (hK : RTab w) :
  Calls Tryz.prog 45 #[.agg (u8s pub).toArray,.int .i64 (h : Int),.string msg,.string S] w fun e w' => e = .returned (.tuple #[.int .i64 (verV pub h msg S).1,.int .i64 (verV pub h msg S).2]) ∧ Ext w w' := by
 rcases ver_cases pub h msg S hS with ⟨er,her,hg,hv⟩ | ⟨x,X,hSx,h0,h1,hX,hl,hc,hv⟩ | ⟨k,X,hSx,hk,hX,hl,hv⟩
 ·rw [hv];exact rverify_err pub h er msg S w hpub h6 hm hS hg her
 ·rw [hv];exact rverify_form pub h (2 ^ h) X.length x msg S X w hpub h6 rfl h0 h1 hm hSx hX rfl hl hc
 ·refine (rverify_gen pub h k (2 ^ h) X.length msg S X w hpub h6 rfl hk hm hSx hX rfl hl hK).mono fun e w' hq => ⟨?_,hq.2⟩
  rcases hv with ⟨hr,hv⟩ | ⟨hr,hv⟩ <;> rw [hv] <;> rcases hq.1 with ⟨hr2,he⟩ | ⟨hr2,he⟩ <;> first | exact he | exact absurd hr hr2 | exact absurd hr2 hr
end Go.Proofs.YtjeecfjeooehhaaGreatDoor
