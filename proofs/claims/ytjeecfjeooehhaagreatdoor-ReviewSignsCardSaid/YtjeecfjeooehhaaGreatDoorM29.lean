/- The walks of sign's ints, node, advance, start. Conditions: digests of 16 bytes, indices of 64 bits. -/
import Derived.Test.YtjeecfjeooehhaaGreatDoorM27
import Derived.Test.YtjeecfjeooehhaaGreatDoorM28
import Derived.Test.YtjeecfjeooehhaaGreatDoorM3
import Derived.Test.YtjeecfjeooehhaaGreatDoorM4
import Derived.Deep.DeepCutAuto
import Derived.Deep.CutBlock
set_option linter.unusedSimpArgs false
set_option linter.unusedVariables false
set_option maxHeartbeats 16000000
set_option maxRecDepth 100000
namespace Go.Proofs.YtjeecfjeooehhaaGreatDoor
open Go.RowKit
open Lib (hid)
theorem sg_nil {w : World} {B : Nat} (A : Option Addr) (n : Nat) {xs : List Value} (_ : Rd w B A n xs) : n = 0 → A = none ∨ ∃ a,A = some a := fun _ => by cases A <;> simp
theorem sg_udrew {w w' : World} (h : Ext w.drew w') : Ext w w' := (Ext.refl w).drew.next h
def ofD (tag : Int) (l : List ByteArray) : List Int := (sha (inputB tag l)).take 16
theorem ofD_len (tag : Int) (l : List ByteArray) : (ofD tag l).length = 16 := by simp [ofD,sha_length]
theorem ofD_byt (tag : Int) (l : List ByteArray) : Byt (ofD tag l) := (sha_byt _).take 16
structure Dig (d : List Int) : Prop where
 l : d.length = 16
 b : Byt d
theorem ofD_dig (tag : Int) (l : List ByteArray) : Dig (ofD tag l) := ⟨ofD_len _ _,ofD_byt _ _⟩
def intsS (l : List Int) : ByteArray := strOf (encL encInt l)
def nodeD (a b : List Int) : List Int := ofD 2 [strOf a,strOf b]
def advD (i c : Int) (f : Nat) : Nat → List Int → List Int
 | 0,v => v
 | n + 1,v => ofD 11 [intsS [i,c,((f + n : Nat) : Int)],strOf (advD i c f n v)]
theorem advD_dig {i c : Int} {f : Nat} {v : List Int} (h : Dig v) : ∀ n,Dig (advD i c f n v)
 | 0 => h
 | n + 1 => ofD_dig _ _
theorem u8s_len (d : List Int) : (u8s d).length = d.length := by simp [u8s]
theorem dig_size {d : List Int} (h : Dig d) : (strOf d).size = 16 := by rw [strOf_size];exact h.l
theorem sg_encB_le (s : ByteArray) (h : s.size ≤ 1000000000) : (encB s).length ≤ s.size + 9 := by
 unfold encB
 have := encInt_le9 (s.size : Int) (by omega) (by omega)
 rw [List.length_append,bys_length]
 omega
theorem encs_two (a b : ByteArray) (ha : a.size ≤ 1000000000) (hb : b.size ≤ 1000000000) : (encs [a,b]).length ≤ 100000000000 := by
 simp only [encs,List.append_nil,List.length_append]
 have h1 := sg_encB_le a ha
 have h2 := sg_encB_le b hb
 omega
theorem intsS_any (l : List Int) (A : Option Addr) (n c : Nat) (w : World) (hl : Rd w w.heap.size A n (l.map (Value.int .i64))) (hwf : ∀ x ∈ l,-9223372036854775808 ≤ x ∧ x ≤ 9223372036854775807) (hcat : (encL encInt l).length ≤ 100000000000) (hn : n ≤ 9223372036854775807) :
  Calls Tryz.prog 107 #[.slice A n c] w fun e w' => e = .returned (.string (intsS l)) ∧ Ext w w' := by
 have HC := hid (ints_any l A n c w hl hwf hcat hn)
 go_enter Tryz.func107,Tryz.ntmps107
 go_wp2_with ((go_at_call 65;(with_reducible refine HC.out.mono ?_);rintro e w1 ⟨⟨A1,c1,rfl,ho⟩,hB⟩;have hcv := run_toStr (P := Tryz.prog) Tryz.underlying23 Tryz.underlying5 Tryz.underlying9 (Rd.of_own ho) c1 (sg_nil _ _ (Rd.of_own ho));have E1 := hid hB;clear hB ho))
 go_ret
 exact ⟨rfl,E1.out⟩
theorem dg_info : (Tryz.prog.info? 26).map (·.size) = some 16 := by kernel_rfl
theorem node_any (a b : List Int) (w : World) (ha : Dig a) (hb : Dig b) (hK : KTab w) :
  Calls Tryz.prog 61 #[.agg (u8s a).toArray,.agg (u8s b).toArray] w fun e w' => e = .returned (.agg (u8s (nodeD a b)).toArray) ∧ Ext w w' := by
 have HK := hid hK;have HA := hid ha;have HB := hid hb
 have HEN := hid (encs_two (strOf a) (strOf b) (by rw [dig_size ha];decide) (by rw [dig_size hb];decide))
 clear hK ha hb
 go_enter Tryz.func61,Tryz.ntmps61
 go_upto_region 1 with fail
 obtain ⟨w3,hw3⟩ : ∃ x,x = ((w.alloc (.cells (u8s a).toArray 26)).alloc (.cells (u8s b).toArray 26)).alloc (.cells (u8s (List.replicate 16 0)).toArray 26) := ⟨_,rfl⟩
 change Code.wp _ _ _ _ (((w.alloc (.cells (u8s a).toArray 26)).alloc (.cells (u8s b).toArray 26)).alloc (.cells (u8s (List.replicate 16 0)).toArray 26))
 rw [← hw3]
 have BA : Hid (Blk w3 w.heap.size 26 (u8s a)) := hid (by rw [hw3];exact ((Blk.fresh' _ _ _ _ _ rfl rfl).alloc _).alloc _)
 have BB : Hid (Blk w3 (w.heap.size + 1) 26 (u8s b)) := hid (by rw [hw3];exact (Blk.fresh' _ _ _ _ _ rfl (by simp)).alloc _)
 have BZ : Hid (Blk w3 (w.heap.size + 2) 26 (u8s (List.replicate 16 0))) := hid (by rw [hw3];exact Blk.fresh' _ _ _ _ _ rfl (by simp))
 have E3 : Hid (Ext w w3) := hid (by rw [hw3];exact (((Ext.refl w).alloc _).alloc _).alloc _)
 clear hw3
 refine wp_region_flowF 6 ?FW1 (fun us => ?_) (by kernel_rfl) (by kernel_rfl) (fun a b => Ext a b) Ext.refl (fun h1 h2 => h1.next h2) (fun i v W => match i with
  | 0 => v = .slice (some ⟨w.heap.size,0,none⟩) 16 16
  | 1 => v = .string (strOf a)
  | 2 => v = .slice (some ⟨w.heap.size + 1,0,none⟩) 16 16
  | 3 => v = .string (strOf b)
  | 4 => ∃ g,v = .slice (some ⟨g,0,none⟩) 2 2 ∧ Rd W W.heap.size (some ⟨g,0,none⟩) 2 (strs [strOf a,strOf b])
  | 5 => v = .agg (u8s (nodeD a b)).toArray
  | _ => True) ?_ ?_
 case refine_1 =>
  simp only [List.take_succ_cons,List.take_zero,flowAct,Nat.zero_add,Nat.reduceAdd,Act.put,List.setIfInBounds_toArray,List.set_cons_succ,List.set_cons_zero]
  rfl
 ·simp only [List.take_succ_cons,List.take_zero,flowStepsF]
  refine ⟨?_,?_,?_,?_,?_,?_,trivial⟩
  ·intro us W K hE hd hK
   dsimp only at hK ⊢
   have HK := hid hK;have HE := hid hE
   clear hK hd hE
   go_wp2_with fail
   exact K_at (HK.out (.slice (some ⟨w.heap.size,0,none⟩) 16 16) W (fun _ _ => rfl) (Ext.refl W)) (by kernel_rfl)
  ·intro us W K hE hd hK
   have d0 := hd 0 (by kernel_rfl)
   have hcv := run_toStr (P := Tryz.prog) Tryz.underlying23 Tryz.underlying5 Tryz.underlying9 ((BA.out.ext (sg_udrew hE)).rd ((u8s_len _).trans HA.out.l)) 16 (fun h => by cases h)
   dsimp only at hK ⊢
   rw [d0] at hK ⊢
   have HK := hid hK;have HE := hid hE
   clear hK hd hE d0
   go_wp2_with fail
   exact K_at (HK.out (.string (strOf a)) W (fun _ _ => rfl) (Ext.refl W)) (by kernel_rfl)
  ·intro us W K hE hd hK
   dsimp only at hK ⊢
   have HK := hid hK;have HE := hid hE
   clear hK hd hE
   go_wp2_with fail
   exact K_at (HK.out (.slice (some ⟨w.heap.size + 1,0,none⟩) 16 16) W (fun _ _ => rfl) (Ext.refl W)) (by kernel_rfl)
  ·intro us W K hE hd hK
   have d2 := hd 2 (by kernel_rfl)
   have hcv := run_toStr (P := Tryz.prog) Tryz.underlying23 Tryz.underlying5 Tryz.underlying9 ((BB.out.ext (sg_udrew hE)).rd ((u8s_len _).trans HB.out.l)) 16 (fun h => by cases h)
   dsimp only at hK ⊢
   rw [d2] at hK ⊢
   have HK := hid hK;have HE := hid hE
   clear hK hd hE d2
   go_wp2_with fail
   exact K_at (HK.out (.string (strOf b)) W (fun _ _ => rfl) (Ext.refl W)) (by kernel_rfl)
  ·intro us W K hE hd hK
   have d1 := hd 1 (by kernel_rfl)
   have d3 := hd 3 (by kernel_rfl)
   dsimp only at hK ⊢
   rw [d1,d3] at hK ⊢
   have HK := hid hK;have HE := hid hE
   clear hK hd hE d1 d3
   go_wp2_with fail
   exact K_at (HK.out (.slice (some ⟨W.heap.size,0,none⟩) 2 2) (W.alloc (.cells #[.string (strOf a),.string (strOf b)] 9)) (fun W2 h2 => ⟨_,rfl,((Blk.fresh W 9 [.string (strOf a),.string (strOf b)]).rd rfl).ext' h2⟩) ((Ext.refl W).alloc _)) (by kernel_rfl)
  ·intro us W K hE hd hK
   obtain ⟨g4,d4,r4⟩ := hd 4 (by kernel_rfl)
   have R4 := hid r4
   have KW := hid (HK.out.below (E3.out.next (sg_udrew hE)))
   dsimp only at hK ⊢
   rw [d4] at hK ⊢
   have HK := hid hK;have HE := hid hE
   clear hK hd hE d4 r4
   go_wp2_with ((go_at_call 106;(with_reducible refine (of_any 2 [strOf a,strOf b] (some ⟨g4,0,none⟩) 2 2 W R4.out (by decide) HEN.out KW.out).mono ?_);rintro e w6 ⟨rfl,hB6⟩))
   exact K_at (HK.out (.agg (u8s (nodeD a b)).toArray) w6 (fun _ _ => rfl) hB6) (by kernel_rfl)
 ·intro us W hE hd
  try dsimp only
  have d5 := hd 5 (by decide)
  simp only [List.drop_succ_cons,List.drop_zero]
  rw [d5]
  have EW := hid (sg_udrew hE)
  have BZW := hid (BZ.out.ext EW.out)
  clear hd hE d5
  go_wp2_with (refine wpList_store_blk rfl 26 (.tmp 4) (.tmp 10) (by rfl) (w.heap.size + 2) (u8s (nodeD a b)) rfl rfl BZW.out (dg_info.trans (congrArg some (by rw [u8s_len];rfl))) (by rw [u8s_len,u8s_len,show (nodeD a b).length = 16 from ofD_len _ _];rfl) (u8s_one _) ?_;intro w9 hw9 hb9)
  exact bodyPost_ret (results_blk Tryz.results61 _ _ (w.heap.size + 2) 26 (u8s (nodeD a b)) _ rfl hb9 Tryz.underlying26 rfl (dg_info.trans (congrArg some (by rw [u8s_len];exact (ofD_len _ _).symm)))) rfl ⟨rfl,by rw [hw9.out];exact (E3.out.next EW.out).setRow (by omega) _⟩
def I64 (x : Int) : Prop := -9223372036854775808 ≤ x ∧ x ≤ 9223372036854775807
def chainB : List Int := [99,104,97,105,110]
def startD (seed : ByteArray) (i c : Int) : List Int := (macL seed (strOf (chainB ++ encL encInt [i,c]))).take 16
theorem startD_dig (seed : ByteArray) (i c : Int) : Dig (startD seed i c) := ⟨by simp [startD,macL,sha_length],(sha_byt _).take 16⟩
theorem ints_le (i c : Int) (hi : I64 i) (hc : I64 c) : (encL encInt [i,c]).length ≤ 27 := by
 unfold encL
 have h1 := encInt_le9 i hi.1 hi.2
 have h2 := encInt_le9 c hc.1 hc.2
 have h3 := encInt_le9 2 (by decide) (by decide)
 simp only [List.length_append,List.flatMap_cons,List.flatMap_nil,List.length_cons,List.length_nil,List.append_nil]
 have e : (((0 + 1 + 1 : Nat)) : Int) = 2 := rfl
 rw [e]
 omega
attribute [local go_sem ↓] wp_at_zero wp_at_succ
theorem start_any (seed : ByteArray) (i c : Int) (w : World) (hs : seed.size ≤ 1000000) (hi : I64 i) (hc : I64 c) (hK : KTab w) :
  Calls Tryz.prog 93 #[.string seed,.int .i64 i,.int .i64 c] w fun e w' => e = .returned (.agg (u8s (startD seed i c)).toArray) ∧ Ext w w' := by
 have HK := hid hK;have HI := hid hi;have HC := hid hc
 have HLE := hid (ints_le i c hi hc)
 clear hK hi hc
 go_enter Tryz.func93,Tryz.ntmps93
 go_upto_region 1 with fail
 obtain ⟨w3,hw3⟩ : ∃ x,x = w.alloc (.cells (u8s (List.replicate 16 0)).toArray 26) := ⟨_,rfl⟩
 change Code.wp _ _ _ _ (w.alloc (.cells (u8s (List.replicate 16 0)).toArray 26))
 rw [← hw3]
 have BZ : Hid (Blk w3 w.heap.size 26 (u8s (List.replicate 16 0))) := hid (by rw [hw3];exact Blk.fresh' _ _ _ _ _ rfl rfl)
 have E3 : Hid (Ext w w3) := hid (by rw [hw3];exact (Ext.refl w).alloc _)
 clear hw3
 obtain ⟨w4,hw4⟩ : ∃ x,x = w3.alloc (.cells #[.int .i64 i,.int .i64 c] 3) := ⟨_,rfl⟩
 have R4 : Hid (Rd w4 w4.heap.size (some ⟨w3.heap.size,0,none⟩) 2 ([i,c].map (Value.int .i64))) := hid (by rw [hw4];exact (Blk.fresh w3 3 [.int .i64 i,.int .i64 c]).rd rfl)
 have E4 : Hid (Ext w3 w4) := hid (by rw [hw4];exact (Ext.refl w3).alloc _)
 have HIN := hid (intsS_any [i,c] (some ⟨w3.heap.size,0,none⟩) 2 2 w4 R4.out (fun x hx => by simp only [List.mem_cons,List.not_mem_nil,or_false] at hx;rcases hx with rfl | rfl <;> first | exact HI.out | exact HC.out) (by have := HLE.out;omega) (by decide))
 have hsz : (intsS [i,c]).size ≤ 27 := by unfold intsS;rw [strOf_size];exact HLE.out
 obtain ⟨M,hM⟩ : ∃ M,M = macL seed (strOf (chainB ++ encL encInt [i,c])) := ⟨_,rfl⟩
 have HML : Hid (M.length = 32) := hid (by rw [hM];exact sha_length _)
 have HMS : Hid (M.take 16 = startD seed i c) := hid (by rw [hM];rfl)
 have HMC : Hid (∀ W,KTab W → Calls Tryz.prog 131 #[.string seed,.string ({ data := #[99,104,97,105,110] } ++ intsS [i,c])] W fun e w' => e = .returned (.string (strOf M)) ∧ Ext W w') := hid (fun W hW => by
  have e1 : ({ data := #[99,104,97,105,110] } : ByteArray) ++ intsS [i,c] = strOf (chainB ++ encL encInt [i,c]) := by
   apply ByteArray.ext
   simp [strOf,intsS,chainB]
  rw [e1,hM]
  exact mac_any seed _ W (by omega) (by rw [strOf_size,List.length_append];have := HLE.out;simp only [chainB,List.length_cons,List.length_nil];omega) hW)
 have HK5 : Hid (∀ W,Ext w W → KTab W) := hid (fun W h => HK.out.below h)
 obtain ⟨T,hT⟩ : ∃ T,T = startD seed i c := ⟨_,rfl⟩
 have HT : Hid (T = startD seed i c) := hid hT
 have HTL : Hid (T.length = 16) := hid (by rw [hT];exact (startD_dig _ _ _).l)
 have hms : (strOf M).size = 32 := by rw [strOf_size];exact HML.out
 have HEX : Hid ((strOf M).extract 0 16 = strOf T) := hid (by
  rw [← strOf_bys ((strOf M).extract 0 16),bys_extract,bys_strOf M (by rw [hM];exact sha_byt _),hT,← HMS.out]
  rfl)
 have hts : (strOf T).size = 16 := by rw [strOf_size];exact HTL.out
 have HCB : Hid (∀ W,∃ cb wb,(convert 9 23 (.string ((strOf M).extract 0 16))).run Tryz.prog W = .ok (.slice (some ⟨W.heap.size,0,none⟩) 16 cb) wb ∧ wb.rangeAt W.heap.size 0 (u8s T) ∧ Ext W wb) := hid (fun W => by
  obtain ⟨cb,wb,hcb,hRb,hBb⟩ := run_toBytes (P := Tryz.prog) W 9 23 5 (strOf T) Tryz.underlying9 Tryz.underlying23 Tryz.underlying5
  rw [hts] at hcb hRb
  refine ⟨cb,wb,by rw [HEX.out];exact hcb,fun j v hv => ?_,hBb⟩
  obtain ⟨b,oo,hA,_,hc⟩ := hRb.2 (by decide)
  injection hA with hA
  injection hA with e1 e2
  subst e1;subst e2
  exact hc j v (by rw [bys_strOf T (by rw [hT];exact (startD_dig _ _ _).b)];exact hv))
 have ha := fun (W : World) (a : Option Addr) (cap : Nat) => run_arrayAt (P := Tryz.prog) W 26 5 16 a 16 cap Tryz.underlying26 (Nat.le_refl _)
 clear hM hT
 subst hw4
 go_wp2_with (first
  | (go_at_call 107;(with_reducible refine HIN.out.mono ?_);rintro e w5 ⟨rfl,hE5⟩;have E5 : Hid (Ext w3 w5) := hid (E4.out.next hE5);clear hE5)
  | (go_at_call 131;(with_reducible refine (HMC.out w5 (HK5.out w5 (E3.out.next E5.out))).mono ?_);rintro e w6 ⟨rfl,hE6⟩;have E6 : Hid (Ext w3 w6) := hid (E5.out.next hE6);clear hE6;obtain ⟨cb,wb,hcb,hrg,hBb⟩ := HCB.out w6;have HRG := hid hrg;have EB : Hid (Ext w wb) := hid (E3.out.next (E6.out.next hBb));have BZW : Hid (Blk wb w.heap.size 26 (u8s (List.replicate 16 0))) := hid (BZ.out.ext (E6.out.next hBb));clear hrg hBb)
  | (refine wpList_load_mid rfl 26 (.tmp 16) rfl w6.heap.size 0 rfl (u8s T) _ HRG.out Tryz.underlying26 rfl (dg_info.trans (congrArg some (by rw [u8s_len,HTL.out]))) ?_)
  | (refine wpList_store_blk rfl 26 (.tmp 6) (.tmp 17) (by rfl) w.heap.size (u8s T) rfl rfl BZW.out (dg_info.trans (congrArg some (by rw [u8s_len,HTL.out]))) (by rw [u8s_len,u8s_len,HTL.out];rfl) (u8s_one _) ?_;intro w9 hw9 hb9))
 exact bodyPost_ret (results_blk Tryz.results93 _ _ w.heap.size 26 (u8s T) _ rfl hb9 Tryz.underlying26 rfl (dg_info.trans (congrArg some (by rw [u8s_len,HTL.out])))) rfl ⟨by rw [HT.out],by rw [hw9.out];exact EB.out.setRow (Nat.le_refl _) _⟩
theorem encs_ints (l : List Int) (hl : (encL encInt l).length ≤ 1000000) (d : List Int) (hd : Dig d) : (encs [intsS l,strOf d]).length ≤ 100000000000 :=
 encs_two _ _ (by unfold intsS;rw [strOf_size];omega) (by rw [dig_size hd];decide)
theorem ints3_le (i c t : Int) (hi : I64 i) (hc : I64 c) (ht : I64 t) : (encL encInt [i,c,t]).length ≤ 36 := by
 unfold encL
 have h1 := encInt_le9 i hi.1 hi.2
 have h2 := encInt_le9 c hc.1 hc.2
 have h4 := encInt_le9 t ht.1 ht.2
 have h3 := encInt_le9 3 (by decide) (by decide)
 simp only [List.length_append,List.flatMap_cons,List.flatMap_nil,List.length_cons,List.length_nil,List.append_nil]
 have e : (((0 + 1 + 1 + 1 : Nat)) : Int) = 3 := rfl
 rw [e]
 omega
theorem advD_succ (i c : Int) (f k : Nat) (v : List Int) (h : f ≤ k) : advD i c f (k + 1 - f) v = ofD 11 [intsS [i,c,(k : Int)],strOf (advD i c f (k - f) v)] := by
 obtain ⟨n,hn⟩ : ∃ n,n = k - f := ⟨_,rfl⟩
 rw [show k + 1 - f = n + 1 by omega,← hn]
 show ofD 11 [intsS [i,c,((f + n : Nat) : Int)],strOf (advD i c f n v)] = _
 rw [show f + n = k by omega]
theorem advance_any (ix ch : Int) (f u : Nat) (vv : List Int) (w : World) (hi : I64 ix) (hc : I64 ch) (hf : f ≤ 1000000) (hu : u ≤ 1000000) (hv : Dig vv) (hK : KTab w) :
  Calls Tryz.prog 60 #[.int .i64 ix,.int .i64 ch,.int .i64 (f : Int),.int .i64 (u : Int),.agg (u8s vv).toArray] w fun e w' => e = .returned (.agg (u8s (advD ix ch f (u - f) vv)).toArray) ∧ Ext w w' := by
 have HK := hid hK;have HI := hid hi;have HC := hid hc;have HV := hid hv
 have HDG : Hid (∀ n,Dig (advD ix ch f n vv)) := hid (advD_dig hv)
 clear hK hi hc hv
 go_enter Tryz.func60,Tryz.ntmps60
 go_upto_region 1 with fail
 obtain ⟨w3,hw3⟩ : ∃ x,x = (w.alloc (.cells (u8s vv).toArray 26)).alloc (.cells (u8s (List.replicate 16 0)).toArray 26) := ⟨_,rfl⟩
 change Code.wp _ _ _ _ ((w.alloc (.cells (u8s vv).toArray 26)).alloc (.cells (u8s (List.replicate 16 0)).toArray 26))
 rw [← hw3]
 have BV : Hid (Blk w3 w.heap.size 26 (u8s vv)) := hid (by rw [hw3];exact (Blk.fresh' _ _ _ _ _ rfl rfl).alloc _)
 have BZ : Hid (Blk w3 (w.heap.size + 1) 26 (u8s (List.replicate 16 0))) := hid (by rw [hw3];exact Blk.fresh' _ _ _ _ _ rfl (by simp))
 have E3 : Hid (Ext w w3) := hid (by rw [hw3];exact ((Ext.refl w).alloc _).alloc _)
 clear hw3
 go_wp2_with fail
 go_loopw [11] (fun x wr => ∃ k : Nat,f ≤ k ∧ (k ≤ u ∨ k = f) ∧ x = .int .i64 (k : Int) ∧ Blk wr w.heap.size 26 (u8s (advD ix ch f (k - f) vv)) ∧ Blk wr (w.heap.size + 1) 26 (u8s (List.replicate 16 0)) ∧ Ext w wr) (fun x _ => u - (intOf x).toNat)
 case atStart => exact ⟨f,Nat.le_refl _,Or.inr rfl,rfl,by rw [Nat.sub_self];exact BV.out,BZ.out,E3.out⟩
 case round =>
  clear BV BZ E3
  obtain ⟨k,hk1,hk2,rfl,hbv,hbz,hE⟩ := hrel
  have BV := hid hbv;have BZ := hid hbz;have E3 := hid hE
  clear hbv hbz hE
  obtain ⟨wo,rfl⟩ : ∃ x : World,x = wr := ⟨_,rfl⟩
  by_cases hlt : k < u
  ·have HLE := hid (ints3_le ix ch (k : Int) HI.out HC.out ⟨by omega,by omega⟩)
   obtain ⟨D1,hD1⟩ : ∃ x,x = advD ix ch f (k - f) vv := ⟨_,rfl⟩
   have HD1 : Hid (Dig D1) := hid (by rw [hD1];exact HDG.out _)
   have HSC : Hid (ofD 11 [intsS [ix,ch,(k : Int)],strOf D1] = advD ix ch f (k + 1 - f) vv) := hid (by rw [advD_succ _ _ _ _ _ hk1,hD1])
   rw [← hD1] at BV
   clear hD1
   obtain ⟨S3,hS3⟩ : ∃ x,x = intsS [ix,ch,(k : Int)] := ⟨_,rfl⟩
   have HS3 := hid hS3
   have HEN : Hid ((encs [S3,strOf D1]).length ≤ 100000000000) := hid (by rw [hS3];exact encs_ints _ (by have := HLE.out;omega) _ HD1.out)
   obtain ⟨D2,hD2⟩ : ∃ x,x = ofD 11 [S3,strOf D1] := ⟨_,rfl⟩
   have HD2 := hid hD2
   have HD2L : Hid (D2.length = 16) := hid (by rw [hD2];exact ofD_len _ _)
   have HWF : Hid (∀ x ∈ [ix,ch,(k : Int)],-9223372036854775808 ≤ x ∧ x ≤ 9223372036854775807) := hid (fun x hx => by
    simp only [List.mem_cons,List.not_mem_nil,or_false] at hx
    rcases hx with rfl | rfl | rfl
    ·exact HI.out
    ·exact HC.out
    ·exact ⟨by omega,by omega⟩)
   have HCAT : Hid ((encL encInt [ix,ch,(k : Int)]).length ≤ 100000000000) := hid (by have := HLE.out;omega)
   clear hD2 hS3
   go_upto_region 4 with fail
   refine wp_region_flowF 9 ?FW4 (fun us => ?_) (by kernel_rfl) (by kernel_rfl) (fun a b => Ext a b) Ext.refl (fun h1 h2 => h1.next h2) (fun i v W => match i with
    | 0 => v = .int .i64 ix
    | 1 => v = .int .i64 ch
    | 2 => v = .int .i64 (k : Int)
    | 3 => ∃ g,v = .slice (some ⟨g,0,none⟩) 3 3 ∧ Rd W W.heap.size (some ⟨g,0,none⟩) 3 ([ix,ch,(k : Int)].map (Value.int .i64))
    | 4 => v = .string S3
    | 5 => v = .slice (some ⟨w.heap.size,0,none⟩) 16 16
    | 6 => v = .string (strOf D1)
    | 7 => ∃ g,v = .slice (some ⟨g,0,none⟩) 2 2 ∧ Rd W W.heap.size (some ⟨g,0,none⟩) 2 (strs [S3,strOf D1])
    | 8 => v = .agg (u8s D2).toArray
    | _ => True) ?_ ?_
   case refine_1 =>
    simp only [List.take_succ_cons,List.take_zero,flowAct,Nat.zero_add,Nat.reduceAdd,Act.put,List.setIfInBounds_toArray,List.set_cons_succ,List.set_cons_zero]
    rfl
   ·simp only [List.take_succ_cons,List.take_zero,flowStepsF]
    refine ⟨?_,?_,?_,?_,?_,?_,?_,?_,?_,trivial⟩
    ·intro us W K hE hd hK
     dsimp only at hK ⊢
     have HK := hid hK;have HE := hid hE
     clear hK hd hE
     go_wp2_with fail
     exact K_at (HK.out (.int .i64 ix) W (fun _ _ => rfl) (Ext.refl W)) (by kernel_rfl)
    ·intro us W K hE hd hK
     dsimp only at hK ⊢
     have HK := hid hK;have HE := hid hE
     clear hK hd hE
     go_wp2_with fail
     exact K_at (HK.out (.int .i64 ch) W (fun _ _ => rfl) (Ext.refl W)) (by kernel_rfl)
    ·intro us W K hE hd hK
     dsimp only at hK ⊢
     have HK := hid hK;have HE := hid hE
     clear hK hd hE
     go_wp2_with fail
     exact K_at (HK.out (.int .i64 (k : Int)) W (fun _ _ => rfl) (Ext.refl W)) (by kernel_rfl)
    ·intro us W K hE hd hK
     have d0 := hd 0 (by kernel_rfl)
     have d1 := hd 1 (by kernel_rfl)
     have d2 := hd 2 (by kernel_rfl)
     dsimp only at hK ⊢
     rw [d0,d1,d2] at hK ⊢
     have HK := hid hK;have HE := hid hE
     clear hK hd hE d0 d1 d2
     go_wp2_with fail
     exact K_at (HK.out (.slice (some ⟨W.heap.size,0,none⟩) 3 3) (W.alloc (.cells #[.int .i64 ix,.int .i64 ch,.int .i64 (k : Int)] 3)) (fun W2 h2 => ⟨_,rfl,((Blk.fresh W 3 [.int .i64 ix,.int .i64 ch,.int .i64 (k : Int)]).rd rfl).ext' h2⟩) ((Ext.refl W).alloc _)) (by kernel_rfl)
    ·intro us W K hE hd hK
     obtain ⟨g3,d3,r3⟩ := hd 3 (by kernel_rfl)
     have R3 := hid r3
     dsimp only at hK ⊢
     rw [d3] at hK ⊢
     have HK := hid hK;have HE := hid hE
     clear hK hd hE d3 r3
     go_wp2_with ((go_at_call 107;(with_reducible refine (intsS_any [ix,ch,(k : Int)] (some ⟨g3,0,none⟩) 3 3 W R3.out HWF.out HCAT.out (by decide)).mono ?_);rintro e w6 ⟨rfl,hB6⟩;rw [← HS3.out]))
     exact K_at (HK.out (.string S3) w6 (fun _ _ => rfl) hB6) (by kernel_rfl)
    ·intro us W K hE hd hK
     dsimp only at hK ⊢
     have HK := hid hK;have HE := hid hE
     clear hK hd hE
     go_wp2_with fail
     exact K_at (HK.out (.slice (some ⟨w.heap.size,0,none⟩) 16 16) W (fun _ _ => rfl) (Ext.refl W)) (by kernel_rfl)
    ·intro us W K hE hd hK
     have d5 := hd 5 (by kernel_rfl)
     have hcv := run_toStr (P := Tryz.prog) Tryz.underlying23 Tryz.underlying5 Tryz.underlying9 ((BV.out.ext (sg_udrew hE)).rd ((u8s_len _).trans HD1.out.l)) 16 (fun h => by cases h)
     dsimp only at hK ⊢
     rw [d5] at hK ⊢
     have HK := hid hK;have HE := hid hE
     clear hK hd hE d5
     go_wp2_with fail
     exact K_at (HK.out (.string (strOf D1)) W (fun _ _ => rfl) (Ext.refl W)) (by kernel_rfl)
    ·intro us W K hE hd hK
     have d4 := hd 4 (by kernel_rfl)
     have d6 := hd 6 (by kernel_rfl)
     dsimp only at hK ⊢
     rw [d4,d6] at hK ⊢
     have HK := hid hK;have HE := hid hE
     clear hK hd hE d4 d6
     go_wp2_with fail
     exact K_at (HK.out (.slice (some ⟨W.heap.size,0,none⟩) 2 2) (W.alloc (.cells #[.string S3,.string (strOf D1)] 9)) (fun W2 h2 => ⟨_,rfl,((Blk.fresh W 9 [.string S3,.string (strOf D1)]).rd rfl).ext' h2⟩) ((Ext.refl W).alloc _)) (by kernel_rfl)
    ·intro us W K hE hd hK
     obtain ⟨g7,d7,r7⟩ := hd 7 (by kernel_rfl)
     have R7 := hid r7
     have KW := hid (HK.out.below (E3.out.next (sg_udrew hE)))
     dsimp only at hK ⊢
     rw [d7] at hK ⊢
     have HK := hid hK;have HE := hid hE
     clear hK hd hE d7 r7
     go_wp2_with ((go_at_call 106;(with_reducible refine (of_any 11 [S3,strOf D1] (some ⟨g7,0,none⟩) 2 2 W R7.out (by decide) HEN.out KW.out).mono ?_);rintro e w6 ⟨he,hB6⟩;(obtain rfl : e = .returned (.agg (u8s D2).toArray) := by rw [he,HD2.out];rfl)))
     exact K_at (HK.out (.agg (u8s D2).toArray) w6 (fun _ _ => rfl) hB6) (by kernel_rfl)
   ·intro us W hE hd
    try dsimp only
    have d8 := hd 8 (by decide)
    simp only [List.drop_succ_cons,List.drop_zero]
    rw [d8]
    have EW := hid (sg_udrew hE)
    have BZW := hid (BV.out.ext EW.out)
    have BZ2 := hid (BZ.out.ext EW.out)
    clear hd hE d8
    go_wp2_with (refine wpList_store_blk rfl 26 (.tmp 9) (.tmp 26) (by rfl) w.heap.size (u8s D2) rfl rfl BZW.out (dg_info.trans (congrArg some (by rw [u8s_len,HD2L.out]))) (by rw [u8s_len,u8s_len,HD2L.out,HD1.out.l]) (u8s_one _) ?_;intro w9 hw9 hb9)
    go_roundw
    case rel => exact ⟨k + 1,by omega,Or.inl (by omega),by go_num,by rw [← HSC.out,← HS3.out,← HD2.out];exact hb9,by rw [hw9.out];exact BZ2.out.setRow_far (by omega) _,by rw [hw9.out];exact (E3.out.next EW.out).setRow (Nat.le_refl _) _⟩
    case measure => simp [intOf];omega
  ·have hku : k - f = u - f := by omega
   have HKU := hid hku
   clear hku
   have HDL : Hid ((advD ix ch f (k - f) vv).length = 16) := hid (HDG.out _).l
   have HRE : Hid (advD ix ch f (k - f) vv = advD ix ch f (u - f) vv) := hid (by rw [HKU.out])
   clear HKU
   generalize advD ix ch f (k - f) vv = D1 at *
   go_wp2_with (first
    | (refine wpList_load_blk rfl 26 (.tmp 9) rfl w.heap.size rfl BV.out Tryz.underlying26 rfl (dg_info.trans (congrArg some (by rw [u8s_len,HDL.out]))) ?_)
    | (refine wpList_store_blk rfl 26 (.tmp 10) (.tmp 27) (by rfl) (w.heap.size + 1) (u8s D1) rfl rfl BZ.out (dg_info.trans (congrArg some (by rw [u8s_len,HDL.out]))) (by rw [u8s_len,u8s_len,HDL.out];rfl) (u8s_one _) ?_;intro w9 hw9 hb9))
   exact bodyPost_ret (results_blk Tryz.results60 _ _ (w.heap.size + 1) 26 (u8s D1) _ rfl hb9 Tryz.underlying26 rfl (dg_info.trans (congrArg some (by rw [u8s_len,HDL.out])))) rfl ⟨by rw [HRE.out],by rw [hw9.out];exact E3.out.setRow (Nat.le_succ _) _⟩
def digestD (p : List Int) (ix : Int) (m : ByteArray) : List Int := ofD 4 [strOf p,strOf (encInt ix),m]
theorem encs_three (a b c : ByteArray) (ha : a.size ≤ 1000000000) (hb : b.size ≤ 1000000000) (hc : c.size ≤ 1000000000) : (encs [a,b,c]).length ≤ 100000000000 := by
 simp only [encs,List.append_nil,List.length_append]
 have h1 := sg_encB_le a ha
 have h2 := sg_encB_le b hb
 have h3 := sg_encB_le c hc
 omega
theorem digest_any (p : List Int) (ix : Int) (ms : ByteArray) (w : World) (hp : Dig p) (hi : I64 ix) (hm : ms.size ≤ 1000000000) (hK : KTab w) :
  Calls Tryz.prog 57 #[.agg (u8s p).toArray,.int .i64 ix,.string ms] w fun e w' => e = .returned (.agg (u8s (digestD p ix ms)).toArray) ∧ Ext w w' := by
 have HK := hid hK;have HP := hid hp;have HI := hid hi
 have hle := encInt_le9 ix hi.1 hi.2
 have HEN := hid (encs_three (strOf p) (strOf (encInt ix)) ms (by rw [dig_size hp];decide) (by rw [strOf_size];omega) hm)
 obtain ⟨S3,hS3⟩ : ∃ x,x = strOf (encInt ix) := ⟨_,rfl⟩
 have HS3 := hid hS3
 rw [← hS3] at HEN
 obtain ⟨D2,hD2⟩ : ∃ x,x = digestD p ix ms := ⟨_,rfl⟩
 have HD2 : Hid (D2 = ofD 4 [strOf p,S3,ms]) := hid (by rw [hD2,hS3];rfl)
 have HD2L : Hid (D2.length = 16) := hid (by rw [hD2];exact ofD_len _ _)
 have HINT := hid (fun W => wintL_any ix W hi.1 hi.2)
 rw [← hD2]
 clear hK hp hi hle hS3 hD2
 go_enter Tryz.func57,Tryz.ntmps57
 go_upto_region 1 with fail
 obtain ⟨w3,hw3⟩ : ∃ x,x = (w.alloc (.cells (u8s p).toArray 26)).alloc (.cells (u8s (List.replicate 16 0)).toArray 26) := ⟨_,rfl⟩
 change Code.wp _ _ _ _ ((w.alloc (.cells (u8s p).toArray 26)).alloc (.cells (u8s (List.replicate 16 0)).toArray 26))
 rw [← hw3]
 have BV : Hid (Blk w3 w.heap.size 26 (u8s p)) := hid (by rw [hw3];exact (Blk.fresh' _ _ _ _ _ rfl rfl).alloc _)
 have BZ : Hid (Blk w3 (w.heap.size + 1) 26 (u8s (List.replicate 16 0))) := hid (by rw [hw3];exact Blk.fresh' _ _ _ _ _ rfl (by simp))
 have E3 : Hid (Ext w w3) := hid (by rw [hw3];exact ((Ext.refl w).alloc _).alloc _)
 clear hw3
 refine wp_region_flowF 8 ?FW1 (fun us => ?_) (by kernel_rfl) (by kernel_rfl) (fun a b => Ext a b) Ext.refl (fun h1 h2 => h1.next h2) (fun i v W => match i with
  | 0 => v = .slice (some ⟨w.heap.size,0,none⟩) 16 16
  | 1 => v = .string (strOf p)
  | 2 => v = .int .i64 ix
  | 3 => ∃ ga n c,v = .slice ga n c ∧ Rd W W.heap.size ga n (u8s (encInt ix))
  | 4 => v = .string S3
  | 5 => v = .string ms
  | 6 => ∃ g,v = .slice (some ⟨g,0,none⟩) 3 3 ∧ Rd W W.heap.size (some ⟨g,0,none⟩) 3 (strs [strOf p,S3,ms])
  | 7 => v = .agg (u8s D2).toArray
  | _ => True) ?_ ?_
 case refine_1 =>
  simp only [List.take_succ_cons,List.take_zero,flowAct,Nat.zero_add,Nat.reduceAdd,Act.put,List.setIfInBounds_toArray,List.set_cons_succ,List.set_cons_zero]
  rfl
 ·simp only [List.take_succ_cons,List.take_zero,flowStepsF]
  refine ⟨?_,?_,?_,?_,?_,?_,?_,?_,trivial⟩
  ·intro us W K hE hd hK
   dsimp only at hK ⊢
   have HK := hid hK;have HE := hid hE
   clear hK hd hE
   go_wp2_with fail
   exact K_at (HK.out (.slice (some ⟨w.heap.size,0,none⟩) 16 16) W (fun _ _ => rfl) (Ext.refl W)) (by kernel_rfl)
  ·intro us W K hE hd hK
   have d0 := hd 0 (by kernel_rfl)
   have hcv := run_toStr (P := Tryz.prog) Tryz.underlying23 Tryz.underlying5 Tryz.underlying9 ((BV.out.ext (sg_udrew hE)).rd ((u8s_len _).trans HP.out.l)) 16 (fun h => by cases h)
   dsimp only at hK ⊢
   rw [d0] at hK ⊢
   have HK := hid hK;have HE := hid hE
   clear hK hd hE d0
   go_wp2_with fail
   exact K_at (HK.out (.string (strOf p)) W (fun _ _ => rfl) (Ext.refl W)) (by kernel_rfl)
  ·intro us W K hE hd hK
   dsimp only at hK ⊢
   have HK := hid hK;have HE := hid hE
   clear hK hd hE
   go_wp2_with fail
   exact K_at (HK.out (.int .i64 ix) W (fun _ _ => rfl) (Ext.refl W)) (by kernel_rfl)
  ·intro us W K hE hd hK
   have d2 := hd 2 (by kernel_rfl)
   dsimp only at hK ⊢
   rw [d2] at hK ⊢
   have HK := hid hK;have HE := hid hE
   clear hK hd hE d2
   go_wp2_with ((go_at_call 66;(with_reducible refine (HINT.out W).mono ?_);rintro e w6 ⟨⟨A6,c6,rfl,ho⟩,hB⟩;have hB6 := hid hB;have R6 := hid (Rd.of_own ho);clear hB ho))
   exact K_at (HK.out (.slice A6 _ c6) w6 (fun W2 h2 => ⟨_,_,_,rfl,R6.out.ext' h2⟩) hB6.out) (by kernel_rfl)
  ·intro us W K hE hd hK
   obtain ⟨A3,n3,c3,d3,r3⟩ := hd 3 (by kernel_rfl)
   have hcv := run_toStr (P := Tryz.prog) Tryz.underlying23 Tryz.underlying5 Tryz.underlying9 r3 c3 (sg_nil _ _ r3)
   rw [← HS3.out] at hcv
   dsimp only at hK ⊢
   rw [d3] at hK ⊢
   have HK := hid hK;have HE := hid hE
   clear hK hd hE d3 r3
   go_wp2_with fail
   exact K_at (HK.out (.string S3) W (fun _ _ => rfl) (Ext.refl W)) (by kernel_rfl)
  ·intro us W K hE hd hK
   dsimp only at hK ⊢
   have HK := hid hK;have HE := hid hE
   clear hK hd hE
   go_wp2_with fail
   exact K_at (HK.out (.string ms) W (fun _ _ => rfl) (Ext.refl W)) (by kernel_rfl)
  ·intro us W K hE hd hK
   have d1 := hd 1 (by kernel_rfl)
   have d4 := hd 4 (by kernel_rfl)
   have d5 := hd 5 (by kernel_rfl)
   dsimp only at hK ⊢
   rw [d1,d4,d5] at hK ⊢
   have HK := hid hK;have HE := hid hE
   clear hK hd hE d1 d4 d5
   go_wp2_with fail
   exact K_at (HK.out (.slice (some ⟨W.heap.size,0,none⟩) 3 3) (W.alloc (.cells #[.string (strOf p),.string S3,.string ms] 9)) (fun W2 h2 => ⟨_,rfl,((Blk.fresh W 9 [.string (strOf p),.string S3,.string ms]).rd rfl).ext' h2⟩) ((Ext.refl W).alloc _)) (by kernel_rfl)
  ·intro us W K hE hd hK
   obtain ⟨g7,d6,r7⟩ := hd 6 (by kernel_rfl)
   have R7 := hid r7
   have KW := hid (HK.out.below (E3.out.next (sg_udrew hE)))
   dsimp only at hK ⊢
   rw [d6] at hK ⊢
   have HK := hid hK;have HE := hid hE
   clear hK hd hE d6 r7
   go_wp2_with ((go_at_call 106;(with_reducible refine (of_any 4 [strOf p,S3,ms] (some ⟨g7,0,none⟩) 3 3 W R7.out (by decide) HEN.out KW.out).mono ?_);rintro e w6 ⟨he,hB6⟩;(obtain rfl : e = .returned (.agg (u8s D2).toArray) := by rw [he,HD2.out];rfl)))
   exact K_at (HK.out (.agg (u8s D2).toArray) w6 (fun _ _ => rfl) hB6) (by kernel_rfl)
 ·intro us W hE hd
  try dsimp only
  have d7 := hd 7 (by decide)
  simp only [List.drop_succ_cons,List.drop_zero]
  rw [d7]
  have EW := hid (sg_udrew hE)
  have BZ2 := hid (BZ.out.ext EW.out)
  clear hd hE d7
  go_wp2_with (refine wpList_store_blk rfl 26 (.tmp 6) (.tmp 14) (by rfl) (w.heap.size + 1) (u8s D2) rfl rfl BZ2.out (dg_info.trans (congrArg some (by rw [u8s_len,HD2L.out]))) (by rw [u8s_len,u8s_len,HD2L.out];rfl) (u8s_one _) ?_;intro w9 hw9 hb9)
  exact bodyPost_ret (results_blk Tryz.results57 _ _ (w.heap.size + 1) 26 (u8s D2) _ rfl hb9 Tryz.underlying26 rfl (dg_info.trans (congrArg some (by rw [u8s_len,HD2L.out])))) rfl ⟨rfl,by rw [hw9.out];exact (E3.out.next EW.out).setRow (Nat.le_succ _) _⟩
end Go.Proofs.YtjeecfjeooehhaaGreatDoor
