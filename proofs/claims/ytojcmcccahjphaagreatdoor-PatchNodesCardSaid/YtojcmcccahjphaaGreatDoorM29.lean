/- The reference of package patch: valid nodes. Conditions: NodV. -/
import Derived.Test.YtojcmcccahjphaaGreatDoorM9
import Derived.Test.YtojcmcccahjphaaGreatDoorM28
set_option linter.unusedSimpArgs false
set_option linter.unusedVariables false
set_option maxHeartbeats 16000000
set_option maxRecDepth 100000
set_option maxRecDepth 100000
set_option maxHeartbeats 16000000
namespace Go.Proofs.YtojcmcccahjphaaGreatDoor
open Go.RowKit
open Lib (hid)
attribute [local go_sem ↓] wp_at_zero wp_at_succ
theorem all_uptoG {α : Type} (f : α → Bool) (L : List α) (h : ∀ (q : Nat) (x : α),L[q]? = some x → f x = true) : L.all f = true := by
 rw [List.all_eq_true]
 intro x hx
 obtain ⟨q,hq,he⟩ := List.getElem_of_mem hx
 exact h q x (by rw [List.getElem?_eq_getElem hq,he])
theorem all_notG {α : Type} (f : α → Bool) (L : List α) (q : Nat) (x : α) (h : L[q]? = some x) (hf : f x = false) : L.all f = false := by
 rw [Bool.eq_false_iff]
 intro h2
 rw [List.all_eq_true] at h2
 rw [h2 x (List.mem_of_getElem? h)] at hf
 cases hf
theorem rvnode_any (x : NodA) (cs : List Value) (w : World) (hx : NodV w x cs) : Calls Tryz.prog 37 #[.agg cs.toArray] w fun e w' => e = .returned (.bool (rnodeB x)) ∧ Ext w w' := by
 obtain ⟨t,A,n,c,B,m,d,rfl,hS⟩ := hx
 have hkn := idsC_n hS.kids
 have hmn := strs_n hS.nms
 have hnf := hS.kfew
 have hmf := hS.nfew
 obtain ⟨Y,hY⟩ : ∃ y,y = rnodeB x := ⟨_,rfl⟩
 rw [← hY]
 obtain ⟨b1,hb1⟩ : ∃ b,b = rBad1 x := ⟨_,rfl⟩
 obtain ⟨b2,hb2⟩ : ∃ b,b = rBad2 x := ⟨_,rfl⟩
 obtain ⟨b3,hb3⟩ : ∃ b,b = rBad3 x := ⟨_,rfl⟩
 have HF : Hid (Y = if b1 then false else if b2 then false else if b3 then false else x.kids.all idB && x.names.all nameB) := hid (by rw [hY,hb1,hb2,hb3];rfl)
 have HFM : Hid (∀ W,Ext w W → Calls Tryz.prog 35 #[.agg t.toArray] W fun e w' => e = .returned (.bool (formedB x.ty 24)) ∧ Ext W w') := hid (fun W hW => rformed_any x.ty t W (hS.ty.ext hW))
 have HZR : Hid (∀ W,Ext w W → Calls Tryz.prog 36 #[.agg t.toArray] W fun e w' => e = .returned (.bool (zeroB x.ty)) ∧ Ext W w') := hid (fun W hW => rzero_any x.ty t W (hS.ty.ext hW))
 have HVR : Hid (∀ W,Calls Tryz.prog 33 #[.agg #[.int .i64 x.ref.s,.int .i64 x.ref.q,.int .i64 x.ref.i]] W fun e w' => e = .returned (.bool (idB x.ref)) ∧ Ext W w') := hid (fun W => validID_any x.ref W)
 have HRF : Hid (∀ W,Calls Tryz.prog 59 #[.int .i64 x.k] W fun e w' => e = .returned (.bool (rRef x.k)) ∧ W = w') := hid (fun W => refers_any x.k W)
 have HKD : Hid (∀ t : Nat,t < n → ∃ (g p : Nat) (y : Rid),A = some ⟨g,p,none⟩ ∧ x.kids[t]? = some y ∧ (∀ W,Ext w W → W.rangeAt g (p + t * 3) [.int .i64 y.s,.int .i64 y.q,.int .i64 y.i])) := hid (fun t ht => by
  obtain ⟨g,p,hA,hg,hcc⟩ := hS.kids.2 (by omega)
  have hy2 : x.kids[t]? = some (x.kids.getD t rid0) := getD_of (by omega)
  exact ⟨g,p,_,hA,hy2,fun W hW => ids_range (L := x.kids) (fun j u hu => (hW.cell (p := ⟨g,p + j,none⟩) hg).trans (hcc j u hu)) hy2⟩)
 have HNM : Hid (∀ t : Nat,t < m → ∃ (g p : Nat) (y : ByteArray),B = some ⟨g,p,none⟩ ∧ x.names[t]? = some y ∧ (∀ W,Ext w W → W.cell? ⟨g,p + t,none⟩ = some (.string y))) := hid (fun t ht => by
  obtain ⟨g,p,hA,hg,hcc⟩ := hS.nms.2 (by omega)
  have hy2 : x.names[t]? = some (x.names[t]'(by omega)) := List.getElem?_eq_getElem _
  exact ⟨g,p,_,hA,hy2,fun W hW => (hW.cell (p := ⟨g,p + t,none⟩) hg).trans (hcc t _ (by rw [List.getElem?_map,hy2];rfl))⟩)
 obtain ⟨t0,t1,t2,t3,t4,rfl⟩ := list5 t hS.ty.len
 have HNUM : Hid (∀ W,Calls Tryz.prog 57 #[.agg #[.int .i64 x.k,.int .i64 x.n,.int .i64 x.ref.s,.int .i64 x.ref.q,.int .i64 x.ref.i,t0,t1,t2,t3,t4,.slice A n c,.slice B m d]] W fun e w' => e = .returned (.bool (winB x.n (rNum x).1 (rNum x).2)) ∧ Ext W w') := hid (fun W => number_any x.k x.n x.ref.s x.ref.q x.ref.i t0 t1 t2 t3 t4 A n c B m d W)
 have HKID : Hid (∀ W,Calls Tryz.prog 58 #[.agg #[.int .i64 x.k,.int .i64 x.n,.int .i64 x.ref.s,.int .i64 x.ref.q,.int .i64 x.ref.i,t0,t1,t2,t3,t4,.slice A n c,.slice B m d]] W fun e w' => e = .returned (.tuple #[.int .i64 (rKids x).1,.int .i64 (rKids x).2]) ∧ Ext W w') := hid (fun W => kidsR_any x.k x.n x.ref.s x.ref.q x.ref.i t0 t1 t2 t3 t4 A n c B m d W)
 obtain ⟨nb,hnb⟩ : ∃ z,z = winB x.n (rNum x).1 (rNum x).2 := ⟨_,rfl⟩
 obtain ⟨le,hle⟩ : ∃ z,z = (rKids x).1 := ⟨_,rfl⟩
 obtain ⟨mo,hmo⟩ : ∃ z,z = (rKids x).2 := ⟨_,rfl⟩
 obtain ⟨rf,hrf⟩ : ∃ z,z = rRef x.k := ⟨_,rfl⟩
 obtain ⟨nm,hnm⟩ : ∃ z,z = rNames x := ⟨_,rfl⟩
 obtain ⟨rb,hrb⟩ : ∃ z,z = decide (x.ref = ⟨0,0,0⟩) := ⟨_,rfl⟩
 obtain ⟨vb,hvb⟩ : ∃ z,z = idB x.ref := ⟨_,rfl⟩
 obtain ⟨fb,hfb⟩ : ∃ z,z = formedB x.ty 24 := ⟨_,rfl⟩
 obtain ⟨zb,hzb⟩ : ∃ z,z = zeroB x.ty := ⟨_,rfl⟩
 have HB1 : Hid (b1 = (decide (x.k < 0) || (decide (12 < x.k) || !nb))) := hid (by rw [hb1,hnb];rfl)
 have HB2 : Hid (b2 = (decide ((n : Int) < le) || (decide (mo < (n : Int)) || ((rf && !vb) || (!rf && !rb))))) := hid (by rw [hb2,hle,hmo,hrf,hvb,hrb];unfold rBad2;rw [hkn])
 have HB3 : Hid (b3 = ((!decide ((m : Int) = nm)) || ((decide (x.k = 11) && !fb) || (!decide (x.k = 11) && !zb)))) := hid (by rw [hb3,hnm,hfb,hzb];unfold rBad3;rw [hmn])
 have HNMV : Hid (nm = if x.k = 6 then 1 else if x.k = 12 then 2 else if x.k = 10 then (n : Int) - 1 else 0) := hid (by rw [hnm];unfold rNames;rw [hkn])
 rw [← hnb] at HNUM
 rw [← hle,← hmo] at HKID
 rw [← hrf] at HRF
 rw [← hvb] at HVR
 rw [← hfb] at HFM
 rw [← hzb] at HZR
 have HLK : Hid (x.kids.length = n ∧ x.names.length = m) := hid ⟨hkn,hmn⟩
 obtain ⟨k,N,⟨s,q,i⟩,ty,kids,names⟩ := x
 dsimp only at HF HVR HRF HKD HNM HNUM HKID HB1 HB3 HNMV HLK hrb
 have HN : Hid ((!rb) = (true != decide ((⟨s,q,i⟩ : Rid) = ⟨0,0,0⟩))) := hid (by rw [hrb];cases (decide ((⟨s,q,i⟩ : Rid) = ⟨0,0,0⟩)) <;> rfl)
 clear hY hS hkn hmn hb1 hb2 hb3 hnb hle hmo hrf hnm hrb hvb hfb hzb
 show Calls Tryz.prog 37 #[.agg #[.int .i64 k,.int .i64 N,.int .i64 s,.int .i64 q,.int .i64 i,t0,t1,t2,t3,t4,.slice A n c,.slice B m d]] w _
 obtain ⟨w1,hw1⟩ : ∃ x,x = w.alloc (.cells #[.int .i64 k,.int .i64 N,.int .i64 s,.int .i64 q,.int .i64 i,t0,t1,t2,t3,t4,.slice A n c,.slice B m d] 30) := ⟨_,rfl⟩
 have E1 : Hid (Ext w w1) := hid (by rw [hw1];exact (Ext.refl w).alloc _)
 have B1 : Hid (Blk w1 w.heap.size 30 [.int .i64 k,.int .i64 N,.int .i64 s,.int .i64 q,.int .i64 i,t0,t1,t2,t3,t4,.slice A n c,.slice B m d]) := hid (by rw [hw1];exact Blk.fresh' _ _ _ _ _ rfl rfl)
 obtain ⟨g,hg⟩ : ∃ g,g = w.heap.size := ⟨_,rfl⟩
 go_enter Tryz.func37,Tryz.ntmps37
 go_upto_region 1 with fail
 change Code.wp _ _ _ _ (w.alloc (.cells #[.int .i64 k,.int .i64 N,.int .i64 s,.int .i64 q,.int .i64 i,t0,t1,t2,t3,t4,.slice A n c,.slice B m d] 30))
 rw [← hw1]
 rw [← hg] at B1 ⊢
 clear hw1 hg
 have c0 : w1.cell? ⟨g,0,none⟩ = some (.int .i64 k) := B1.out.cell 0
 go_cut [20] from 8 to 19 (fun s20 wx => s20 = .bool b1 ∧ Ext w1 wx)
 case first =>
  have EX : Hid (Ext w1 w1) := hid (Ext.refl _)
  clear HF HFM HZR HVR HRF HKD HNM HKID HB2 HB3 HNMV HLK HN
  rcases Classical.em (k < 0) with h1 | h1
  ·have d1 : decide (k < 0) = true := decide_eq_true h1
   rw [d1] at HB1
   clear h1
   have HQ : Hid (b1 = true) := hid (by rw [HB1.out];rfl)
   go_wp2_with (fail)
   go_meet
   exact ⟨by rw [HQ.out],EX.out⟩
  have d1 : decide (k < 0) = false := decide_eq_false h1
  rw [d1] at HB1
  clear h1
  rcases Classical.em (12 < k) with h2 | h2
  ·have d2 : decide (12 < k) = true := decide_eq_true h2
   rw [d2] at HB1
   clear h2
   have HQ : Hid (b1 = true) := hid (by rw [HB1.out];rfl)
   go_wp2_with (fail)
   go_meet
   exact ⟨by rw [HQ.out],EX.out⟩
  have d2 : decide (12 < k) = false := decide_eq_false h2
  rw [d2] at HB1
  clear h2
  cases nb
  ·have HQ : Hid (b1 = true) := hid (by rw [HB1.out];rfl)
   go_wp2_with (first | (refine wpList_load_want (by rfl) 30 (.tmp 1) rfl g (by kernel_rfl) B1.out Tryz.underlying30 rfl (nod_info.trans rfl) ?_) | (go_at_call 57;(with_reducible refine (HNUM.out w1).mono ?_);rintro e w3 ⟨rfl,hE3⟩;have EX : Hid (Ext w1 w3) := hid hE3;clear hE3))
   go_meet
   exact ⟨by rw [HQ.out],EX.out⟩
  ·have HQ : Hid (b1 = false) := hid (by rw [HB1.out];rfl)
   go_wp2_with (first | (refine wpList_load_want (by rfl) 30 (.tmp 1) rfl g (by kernel_rfl) B1.out Tryz.underlying30 rfl (nod_info.trans rfl) ?_) | (go_at_call 57;(with_reducible refine (HNUM.out w1).mono ?_);rintro e w3 ⟨rfl,hE3⟩;have EX : Hid (Ext w1 w3) := hid hE3;clear hE3))
   go_meet
   exact ⟨by rw [HQ.out],EX.out⟩
 case rest =>
 obtain ⟨rfl,hE2⟩ := hcut
 obtain ⟨w2,rfl⟩ : ∃ x : World,x = wc := ⟨_,rfl⟩
 have E2 : Hid (Ext w w2) := hid (E1.out.next hE2)
 have B2 := hid (B1.out.ext hE2)
 clear hE2 c0 HNUM HB1 B1 E1
 cases b1
 case true =>
  have HQ : Hid (Y = false) := hid (by rw [HF.out];rfl)
  go_wp2_with fail
  go_ret
  exact ⟨by rw [HQ.out];rfl,E2.out⟩
 go_upto_region 4 with (first
  | (refine wpList_load_blk rfl 30 (.tmp 1) rfl g (by kernel_rfl) B2.out Tryz.underlying30 rfl (nod_info.trans rfl) ?_)
  | (go_at_call 58;(with_reducible refine (HKID.out w2).mono ?_);rintro e w3 ⟨rfl,hE3⟩;have E3 : Hid (Ext w w3) := hid (E2.out.next hE3);have B3 := hid (B2.out.ext hE3);clear hE3))
 clear HKID B2 E2
 have c0 : w3.cell? ⟨g,0,none⟩ = some (.int .i64 k) := B3.out.cell 0
 have c10 : w3.cell? ⟨g,10,none⟩ = some (.slice A n c) := B3.out.cell 10
 have RR := hid (range_mid B3.out.range 2 [.int .i64 s,.int .i64 q,.int .i64 i] rfl)
 go_cut [60] from 26 to 59 (fun s60 wx => s60 = .bool b2 ∧ Ext w3 wx)
 case first =>
  have EX : Hid (Ext w3 w3) := hid (Ext.refl _)
  clear HF HFM HZR HKD HNM HB3 HNMV HLK
  rcases Classical.em ((n : Int) < le) with h1 | h1
  ·have d1 : decide ((n : Int) < le) = true := decide_eq_true h1
   rw [d1] at HB2
   clear h1
   have HQ : Hid (b2 = true) := hid (by rw [HB2.out];rfl)
   go_wp2_with (fail)
   go_meet
   exact ⟨by rw [HQ.out],EX.out⟩
  have d1 : decide ((n : Int) < le) = false := decide_eq_false h1
  rw [d1] at HB2
  clear h1
  rcases Classical.em (mo < (n : Int)) with h2 | h2
  ·have d2 : decide (mo < (n : Int)) = true := decide_eq_true h2
   rw [d2] at HB2
   clear h2
   have HQ : Hid (b2 = true) := hid (by rw [HB2.out];rfl)
   go_wp2_with (fail)
   go_meet
   exact ⟨by rw [HQ.out],EX.out⟩
  have d2 : decide (mo < (n : Int)) = false := decide_eq_false h2
  rw [d2] at HB2
  clear h2
  cases rf
  ·cases rb
   ·have HQ : Hid (b2 = true) := hid (by rw [HB2.out];rfl)
    go_wp2_with (first | ((with_reducible refine wpList_load_row 23 g 2 [.int .i64 s,.int .i64 q,.int .i64 i] RR.out Tryz.underlying23 rfl (info_id.trans rfl) ?_ ?_ ?_);kernel_rfl;rfl) | ((with_reducible refine wpList_idNeq s q i 0 0 0 _ HN.out ?_ ?_ ?_ ?_);kernel_rfl;rfl;rfl) | (go_at_call 59;(with_reducible refine (HRF.out w3).mono ?_);rintro e w6 ⟨rfl,rfl⟩) | (go_at_call 33;(with_reducible refine (HVR.out w3).mono ?_);rintro e w6 ⟨rfl,hE6⟩;have EX : Hid (Ext w3 w6) := hid hE6;have B6 := hid (B3.out.ext hE6);have c0 : w6.cell? ⟨g,0,none⟩ = some (.int .i64 k) := B6.out.cell 0;clear hE6) | (go_at_call 59;(with_reducible refine (HRF.out w6).mono ?_);rintro e w7 ⟨rfl,rfl⟩))
    go_meet
    exact ⟨by rw [HQ.out],EX.out⟩
   ·have HQ : Hid (b2 = false) := hid (by rw [HB2.out];rfl)
    go_wp2_with (first | ((with_reducible refine wpList_load_row 23 g 2 [.int .i64 s,.int .i64 q,.int .i64 i] RR.out Tryz.underlying23 rfl (info_id.trans rfl) ?_ ?_ ?_);kernel_rfl;rfl) | ((with_reducible refine wpList_idNeq s q i 0 0 0 _ HN.out ?_ ?_ ?_ ?_);kernel_rfl;rfl;rfl) | (go_at_call 59;(with_reducible refine (HRF.out w3).mono ?_);rintro e w6 ⟨rfl,rfl⟩) | (go_at_call 33;(with_reducible refine (HVR.out w3).mono ?_);rintro e w6 ⟨rfl,hE6⟩;have EX : Hid (Ext w3 w6) := hid hE6;have B6 := hid (B3.out.ext hE6);have c0 : w6.cell? ⟨g,0,none⟩ = some (.int .i64 k) := B6.out.cell 0;clear hE6) | (go_at_call 59;(with_reducible refine (HRF.out w6).mono ?_);rintro e w7 ⟨rfl,rfl⟩))
    go_meet
    exact ⟨by rw [HQ.out],EX.out⟩
  ·cases vb
   ·have HQ : Hid (b2 = true) := hid (by rw [HB2.out];rfl)
    go_wp2_with (first | ((with_reducible refine wpList_load_row 23 g 2 [.int .i64 s,.int .i64 q,.int .i64 i] RR.out Tryz.underlying23 rfl (info_id.trans rfl) ?_ ?_ ?_);kernel_rfl;rfl) | ((with_reducible refine wpList_idNeq s q i 0 0 0 _ HN.out ?_ ?_ ?_ ?_);kernel_rfl;rfl;rfl) | (go_at_call 59;(with_reducible refine (HRF.out w3).mono ?_);rintro e w6 ⟨rfl,rfl⟩) | (go_at_call 33;(with_reducible refine (HVR.out w3).mono ?_);rintro e w6 ⟨rfl,hE6⟩;have EX : Hid (Ext w3 w6) := hid hE6;have B6 := hid (B3.out.ext hE6);have c0 : w6.cell? ⟨g,0,none⟩ = some (.int .i64 k) := B6.out.cell 0;clear hE6) | (go_at_call 59;(with_reducible refine (HRF.out w6).mono ?_);rintro e w7 ⟨rfl,rfl⟩))
    go_meet
    exact ⟨by rw [HQ.out],EX.out⟩
   ·have HQ : Hid (b2 = false) := hid (by rw [HB2.out];rfl)
    go_wp2_with (first | ((with_reducible refine wpList_load_row 23 g 2 [.int .i64 s,.int .i64 q,.int .i64 i] RR.out Tryz.underlying23 rfl (info_id.trans rfl) ?_ ?_ ?_);kernel_rfl;rfl) | ((with_reducible refine wpList_idNeq s q i 0 0 0 _ HN.out ?_ ?_ ?_ ?_);kernel_rfl;rfl;rfl) | (go_at_call 59;(with_reducible refine (HRF.out w3).mono ?_);rintro e w6 ⟨rfl,rfl⟩) | (go_at_call 33;(with_reducible refine (HVR.out w3).mono ?_);rintro e w6 ⟨rfl,hE6⟩;have EX : Hid (Ext w3 w6) := hid hE6;have B6 := hid (B3.out.ext hE6);have c0 : w6.cell? ⟨g,0,none⟩ = some (.int .i64 k) := B6.out.cell 0;clear hE6) | (go_at_call 59;(with_reducible refine (HRF.out w6).mono ?_);rintro e w7 ⟨rfl,rfl⟩))
    go_meet
    exact ⟨by rw [HQ.out],EX.out⟩
 case rest =>
 obtain ⟨rfl,hE4⟩ := hcut
 obtain ⟨w4,rfl⟩ : ∃ x : World,x = wc := ⟨_,rfl⟩
 have E4 : Hid (Ext w w4) := hid (E3.out.next hE4)
 have B4 := hid (B3.out.ext hE4)
 clear hE4 c0 c10 RR HB2 HN HRF HVR B3 E3
 cases b2
 case true =>
  have HQ : Hid (Y = false) := hid (by rw [HF.out];rfl)
  go_wp2_with fail
  go_ret
  exact ⟨by rw [HQ.out];rfl,E4.out⟩
 have c0 : w4.cell? ⟨g,0,none⟩ = some (.int .i64 k) := B4.out.cell 0
 have c10 : w4.cell? ⟨g,10,none⟩ = some (.slice A n c) := B4.out.cell 10
 go_upto_block 0 with fail
 go_cut [5] (fun s5 wx => s5 = .int .i64 nm ∧ w4 = wx)
 case first =>
  clear HF HFM HZR HKD HNM HB3 HLK
  by_cases h6 : k = 6
  ·subst h6
   have HQ : Hid (nm = 1) := hid (by rw [HNMV.out];rfl)
   go_wp2_with fail
   go_meet
   exact ⟨by rw [HQ.out],rfl⟩
  by_cases h12 : k = 12
  ·subst h12
   have HQ : Hid (nm = 2) := hid (by rw [HNMV.out];rfl)
   go_wp2_with fail
   go_meet
   exact ⟨by rw [HQ.out],rfl⟩
  by_cases h10 : k = 10
  ·subst h10
   have HQ : Hid (nm = (n : Int) - 1) := hid (by rw [HNMV.out];rfl)
   have hwi : IntKind.i64.wrap ((n : Int) - 1) = (n : Int) - 1 := wrapp (by omega) (by omega)
   go_wp2_with fail
   go_meet
   exact ⟨by rw [HQ.out],rfl⟩
  have e6 : (k == (6 : Int)) = false := beq_eq_false_iff_ne.2 h6
  have e12 : (k == (12 : Int)) = false := beq_eq_false_iff_ne.2 h12
  have e10 : (k == (10 : Int)) = false := beq_eq_false_iff_ne.2 h10
  have HQ : Hid (nm = 0) := hid (by rw [HNMV.out,if_neg h6,if_neg h12,if_neg h10])
  clear h6 h12 h10
  go_wp2_with fail
  go_meet
  exact ⟨by rw [HQ.out],rfl⟩
 case rest =>
 obtain ⟨rfl,rfl⟩ := hcut
 clear HNMV c10
 go_upto_region 14 with fail
 have c11 : w4.cell? ⟨g,11,none⟩ = some (.slice B m d) := B4.out.cell 11
 have RT := hid (range_mid B4.out.range 5 [t0,t1,t2,t3,t4] rfl)
 go_cut [99] from 73 to 98 (fun s99 wx => s99 = .bool b3 ∧ Ext w4 wx)
 case first =>
  have EX : Hid (Ext w4 w4) := hid (Ext.refl _)
  clear HF HKD HNM HLK
  rcases Classical.em ((m : Int) = nm) with h1 | h1
  ·have HB3' : Hid (b3 = ((decide (k = 11) && !fb) || (!decide (k = 11) && !zb))) := hid (by rw [HB3.out,decide_eq_true h1];rfl)
   have d1 : ((m : Int) != nm) = false := by rw [h1];simp
   clear h1 HB3
   by_cases h11 : k = 11
   ·subst h11
    have HB4 : Hid (b3 = !fb) := hid (by rw [HB3'.out];simp)
    clear HB3'
    cases fb
    ·have HQ : Hid (b3 = true) := hid (by rw [HB4.out];rfl)
     go_wp2_with (first | ((with_reducible refine wpList_load_row 26 g 5 [t0,t1,t2,t3,t4] RT.out Tryz.underlying26 rfl (ty_info.trans rfl) ?_ ?_ ?_);kernel_rfl;rfl) | (go_at_call 35;(with_reducible refine (HFM.out w4 E4.out).mono ?_);rintro e w6 ⟨rfl,hE6⟩;have EX : Hid (Ext w4 w6) := hid hE6;have c0 : w6.cell? ⟨g,0,none⟩ = some (.int .i64 11) := (B4.out.ext hE6).cell 0;clear hE6) | (go_at_call 36;(with_reducible refine (HZR.out w4 E4.out).mono ?_);rintro e w6 ⟨rfl,hE6⟩;have EX : Hid (Ext w4 w6) := hid hE6;clear hE6))
     go_meet
     exact ⟨by rw [HQ.out],EX.out⟩
    ·have HQ : Hid (b3 = false) := hid (by rw [HB4.out];rfl)
     go_wp2_with (first | ((with_reducible refine wpList_load_row 26 g 5 [t0,t1,t2,t3,t4] RT.out Tryz.underlying26 rfl (ty_info.trans rfl) ?_ ?_ ?_);kernel_rfl;rfl) | (go_at_call 35;(with_reducible refine (HFM.out w4 E4.out).mono ?_);rintro e w6 ⟨rfl,hE6⟩;have EX : Hid (Ext w4 w6) := hid hE6;have c0 : w6.cell? ⟨g,0,none⟩ = some (.int .i64 11) := (B4.out.ext hE6).cell 0;clear hE6) | (go_at_call 36;(with_reducible refine (HZR.out w4 E4.out).mono ?_);rintro e w6 ⟨rfl,hE6⟩;have EX : Hid (Ext w4 w6) := hid hE6;clear hE6))
     go_meet
     exact ⟨by rw [HQ.out],EX.out⟩
   ·have e11 : (k == (11 : Int)) = false := beq_eq_false_iff_ne.2 h11
    have f11 : (k != (11 : Int)) = true := bne_iff_ne.2 h11
    have HB4 : Hid (b3 = !zb) := hid (by rw [HB3'.out,decide_eq_false h11];simp)
    clear HB3' h11
    cases zb
    ·have HQ : Hid (b3 = true) := hid (by rw [HB4.out];rfl)
     go_wp2_with (first | ((with_reducible refine wpList_load_row 26 g 5 [t0,t1,t2,t3,t4] RT.out Tryz.underlying26 rfl (ty_info.trans rfl) ?_ ?_ ?_);kernel_rfl;rfl) | (go_at_call 35;(with_reducible refine (HFM.out w4 E4.out).mono ?_);rintro e w6 ⟨rfl,hE6⟩;have EX : Hid (Ext w4 w6) := hid hE6;have c0 : w6.cell? ⟨g,0,none⟩ = some (.int .i64 k) := (B4.out.ext hE6).cell 0;clear hE6) | (go_at_call 36;(with_reducible refine (HZR.out w4 E4.out).mono ?_);rintro e w6 ⟨rfl,hE6⟩;have EX : Hid (Ext w4 w6) := hid hE6;clear hE6))
     go_meet
     exact ⟨by rw [HQ.out],EX.out⟩
    ·have HQ : Hid (b3 = false) := hid (by rw [HB4.out];rfl)
     go_wp2_with (first | ((with_reducible refine wpList_load_row 26 g 5 [t0,t1,t2,t3,t4] RT.out Tryz.underlying26 rfl (ty_info.trans rfl) ?_ ?_ ?_);kernel_rfl;rfl) | (go_at_call 35;(with_reducible refine (HFM.out w4 E4.out).mono ?_);rintro e w6 ⟨rfl,hE6⟩;have EX : Hid (Ext w4 w6) := hid hE6;have c0 : w6.cell? ⟨g,0,none⟩ = some (.int .i64 k) := (B4.out.ext hE6).cell 0;clear hE6) | (go_at_call 36;(with_reducible refine (HZR.out w4 E4.out).mono ?_);rintro e w6 ⟨rfl,hE6⟩;have EX : Hid (Ext w4 w6) := hid hE6;clear hE6))
     go_meet
     exact ⟨by rw [HQ.out],EX.out⟩
  ·have d1 : ((m : Int) != nm) = true := by rw [bne_iff_ne];exact h1
   have HQ : Hid (b3 = true) := hid (by rw [HB3.out,decide_eq_false h1];rfl)
   clear h1
   go_wp2_with (fail)
   go_meet
   exact ⟨by rw [HQ.out],EX.out⟩
 case rest =>
 obtain ⟨rfl,hE5⟩ := hcut
 obtain ⟨w5,rfl⟩ : ∃ x : World,x = wc := ⟨_,rfl⟩
 have E5 : Hid (Ext w w5) := hid (E4.out.next hE5)
 have B5 := hid (B4.out.ext hE5)
 clear hE5 c0 c11 RT HB3 HFM HZR B4 E4
 cases b3
 case true =>
  have HQ : Hid (Y = false) := hid (by rw [HF.out];rfl)
  go_wp2_with fail
  go_ret
  exact ⟨by rw [HQ.out];rfl,E5.out⟩
 have HG : Hid (Y = (kids.all idB && names.all nameB)) := hid (by rw [HF.out];rfl)
 clear HF
 go_wp2_with fail
 go_loopw [6] (fun i6 wr => ∃ t : Nat,t ≤ n ∧ i6 = .int .i64 (t : Int) ∧ Hid (∀ (j : Nat) (y : Rid),j < t → kids[j]? = some y → idB y = true) ∧ Ext w5 wr) (fun i6 _ => n - (intOf i6).toNat)
 case atStart => exact ⟨0,Nat.zero_le _,rfl,hid (fun j y h => absurd h (Nat.not_lt_zero _)),Ext.refl _⟩
 case round =>
  obtain ⟨t,ht,rfl,HALL,hEi⟩ := hrel
  obtain ⟨wi,rfl⟩ : ∃ x : World,x = wr := ⟨_,rfl⟩
  have EI := hid hEi
  clear hEi
  have c10 : wi.cell? ⟨g,10,none⟩ = some (.slice A n c) := (B5.out.ext EI.out).cell 10
  by_cases hlt : t < n
  ·obtain ⟨gk,p,⟨ys,yq,yi⟩,rfl,hy2,hrg⟩ := HKD.out t hlt
   have HRG := hid (hrg wi (E5.out.next EI.out))
   have HY2 := hid hy2
   obtain ⟨ib,hib⟩ : ∃ z,z = idB ⟨ys,yq,yi⟩ := ⟨_,rfl⟩
   have HVK := hid (validID_any ⟨ys,yq,yi⟩ wi)
   dsimp only at HRG HVK
   rw [← hib] at HVK
   have HIB := hid hib
   clear hrg hy2 hib
   cases ib
   ·have HQ : Hid (Y = false) := hid (by rw [HG.out,all_notG idB kids t _ HY2.out HIB.out.symm];rfl)
    go_wp2_with (first
     | ((with_reducible refine wpList_load_row 23 gk (p + t * 3) [.int .i64 ys,.int .i64 yq,.int .i64 yi] HRG.out Tryz.underlying23 rfl (info_id.trans rfl) ?_ ?_ ?_);kernel_rfl;rfl)
     | (go_at_call 33;(with_reducible refine HVK.out.mono ?_);rintro e w6 ⟨rfl,hE6⟩;have E6 : Hid (Ext w w6) := hid ((E5.out.next EI.out).next hE6);clear hE6))
    go_ret
    exact ⟨by rw [HQ.out];rfl,E6.out⟩
   ·go_wp2_with (first
     | ((with_reducible refine wpList_load_row 23 gk (p + t * 3) [.int .i64 ys,.int .i64 yq,.int .i64 yi] HRG.out Tryz.underlying23 rfl (info_id.trans rfl) ?_ ?_ ?_);kernel_rfl;rfl)
     | (go_at_call 33;(with_reducible refine HVK.out.mono ?_);rintro e w6 ⟨rfl,hE6⟩;have E6 : Hid (Ext w5 w6) := hid (EI.out.next hE6);clear hE6))
    go_roundw
    case rel => exact ⟨t + 1,by omega,by go_num,hid (fun j y hj hy => by
     rcases Nat.lt_or_ge j t with h | h
     ·exact HALL.out j y h hy
     ·obtain rfl : j = t := by omega
      rw [HY2.out] at hy
      rw [← Option.some.inj hy]
      exact HIB.out.symm),E6.out⟩
    case measure => simp [intOf];omega
  ·obtain rfl : t = n := by omega
   have HK1 : Hid (kids.all idB = true) := hid (all_uptoG idB kids (fun j y hy => HALL.out j y (by have h1 := (List.getElem?_eq_some_iff.1 hy).1;rw [HLK.out.1] at h1;exact h1) hy))
   have HG2 : Hid (Y = names.all nameB) := hid (by rw [HG.out,HK1.out,Bool.true_and])
   have E7 := hid (E5.out.next EI.out)
   have B7 := hid (B5.out.ext EI.out)
   clear HALL HKD HG HK1 EI B5 E5
   go_upto_region 21 with fail
   clear c10
   go_wp2_with fail
   go_loopw [7] (fun i7 wr => ∃ t : Nat,t ≤ m ∧ i7 = .int .i64 (t : Int) ∧ Hid (∀ (j : Nat) (y : ByteArray),j < t → names[j]? = some y → nameB y = true) ∧ Ext wi wr) (fun i7 _ => m - (intOf i7).toNat)
   case atStart => exact ⟨0,Nat.zero_le _,rfl,hid (fun j y h => absurd h (Nat.not_lt_zero _)),Ext.refl _⟩
   case round =>
    obtain ⟨u,hu,rfl,HALL,hEj⟩ := hrel
    obtain ⟨wj,rfl⟩ : ∃ x : World,x = wr := ⟨_,rfl⟩
    have EJ := hid hEj
    clear hEj
    have c11 : wj.cell? ⟨g,11,none⟩ = some (.slice B m d) := (B7.out.ext EJ.out).cell 11
    by_cases hlt : u < m
    ·obtain ⟨gk,p,y,rfl,hy2,hrg⟩ := HNM.out u hlt
     have cy := hrg wj (E7.out.next EJ.out)
     have HY2 := hid hy2
     obtain ⟨ib,hib⟩ : ∃ z,z = nameB y := ⟨_,rfl⟩
     have HVK := hid (rname_any y wj)
     rw [← hib] at HVK
     have HIB := hid hib
     clear hrg hy2 hib
     cases ib
     ·have HQ : Hid (Y = false) := hid (by rw [HG2.out,all_notG nameB names u _ HY2.out HIB.out.symm])
      go_wp2_with (go_at_call 34;(with_reducible refine HVK.out.mono ?_);rintro e w6 ⟨rfl,rfl⟩)
      go_ret
      exact ⟨by rw [HQ.out];rfl,E7.out.next EJ.out⟩
     ·go_wp2_with (go_at_call 34;(with_reducible refine HVK.out.mono ?_);rintro e w6 ⟨rfl,rfl⟩)
      go_roundw
      case rel => exact ⟨u + 1,by omega,by go_num,hid (fun j y hj hy => by
       rcases Nat.lt_or_ge j u with h | h
       ·exact HALL.out j y h hy
       ·obtain rfl : j = u := by omega
        rw [HY2.out] at hy
        rw [← Option.some.inj hy]
        exact HIB.out.symm),EJ.out⟩
      case measure => simp [intOf];omega
    ·obtain rfl : u = m := by omega
     have HQ : Hid (Y = true) := hid (by rw [HG2.out];exact all_uptoG nameB names (fun j y hy => HALL.out j y (by have h1 := (List.getElem?_eq_some_iff.1 hy).1;rw [HLK.out.2] at h1;exact h1) hy))
     go_wp2_with fail
     go_ret
     exact ⟨by rw [HQ.out];rfl,E7.out.next EJ.out⟩
end Go.Proofs.YtojcmcccahjphaaGreatDoor
