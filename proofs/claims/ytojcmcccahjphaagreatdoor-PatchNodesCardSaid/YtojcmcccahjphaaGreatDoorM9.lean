/- The reference of package patch: well-formed types. Conditions: TyV. -/
import Derived.Test.YtojcmcccahjphaaGreatDoorM8
set_option linter.unusedSimpArgs false
set_option linter.unusedVariables false
set_option maxHeartbeats 16000000
set_option maxRecDepth 100000
set_option maxRecDepth 100000
set_option maxHeartbeats 16000000
namespace Go.Proofs.YtojcmcccahjphaaGreatDoor
open Go.RowKit
open Lib (hid)
attribute [local go_sem ↓] wp_at_zero wp_at_succ
theorem formedB_zero (r : List TyN) : formedB r 0 = false := by cases r <;> rfl
theorem rformed_any (t : List TyN) (cs : List Value) (w : World) (ht : TyV w t cs) : Calls Tryz.prog 35 #[.agg cs.toArray] w fun e w' => e = .returned (.bool (formedB t 24)) ∧ Ext w w' := by
 obtain ⟨b,hb⟩ : ∃ b,b = formedB t 24 := ⟨_,rfl⟩
 have HBB := hid hb
 rw [← hb]
 obtain ⟨p0,p1,p2,p3,p4,rfl⟩ := list5 cs ht.len
 have HT := hid ht
 clear ht hb
 obtain ⟨w1,hw1⟩ : ∃ x,x = w.alloc (.cells #[p0,p1,p2,p3,p4] 26) := ⟨_,rfl⟩
 have E1 : Hid (Ext w w1) := hid (by rw [hw1];exact (Ext.refl w).alloc _)
 have B1 : Hid (Blk w1 w.heap.size 26 [p0,p1,p2,p3,p4]) := hid (by rw [hw1];exact Blk.fresh' _ _ _ _ _ rfl rfl)
 go_enter Tryz.func35,Tryz.ntmps35
 go_upto_region 1 with fail
 change Code.wp _ _ _ _ (w.alloc (.cells #[p0,p1,p2,p3,p4] 26))
 rw [← hw1]
 clear hw1
 obtain ⟨g,hg⟩ : ∃ g,g = w.heap.size := ⟨_,rfl⟩
 have HG : Hid (w.heap.size ≤ g) := hid (by omega)
 rw [← hg] at B1 ⊢
 clear hg
 go_wp2_with fail
 go_loopw [3] (fun i wr => ∃ (d : Nat) (r : List TyN) (ds : List Value),d ≤ 24 ∧ i = .int .i64 (d : Int) ∧ TyV w r ds ∧ b = formedB r (24 - d) ∧ Blk wr g 26 ds ∧ Ext w wr) (fun i _ => 24 - (intOf i).toNat)
 case atStart => exact ⟨0,t,_,by omega,rfl,HT.out,HBB.out,B1.out,E1.out⟩
 case round =>
  obtain ⟨d,r,ds,hd,rfl,hty,hbr,hB,hE⟩ := hrel
  obtain ⟨wi,rfl⟩ : ∃ x : World,x = wr := ⟨_,rfl⟩
  have EI := hid hE
  have HBR := hid hbr
  have HTY := hid hty
  clear hE HBB HT E1 B1
  by_cases hlt : d < 24
  ·have hd1 : decide ((d : Int) < 24) = true := decide_eq_true (by omega)
   have hd2 : decide (d < 24) = true := decide_eq_true hlt
   cases r with
   | nil => exact (HTY.out : TyV w [] ds).elim
   | cons x r =>
    obtain ⟨A,n,c,rfl,hnc,hc,hn⟩ := (HTY.out : TyV w (x :: r) ds).head
    obtain ⟨k,s,q,i⟩ := x
    obtain ⟨db,hdb⟩ : ∃ b,b = decide ((⟨s,q,i⟩ : Rid) = ⟨0,0,0⟩) := ⟨_,rfl⟩
    have HQ : Hid (db = (false != decide ((⟨s,q,i⟩ : Rid) = ⟨0,0,0⟩))) := hid (by rw [hdb];simp)
    have HQN : Hid ((!db) = (true != decide ((⟨s,q,i⟩ : Rid) = ⟨0,0,0⟩))) := hid (by rw [hdb];cases (decide ((⟨s,q,i⟩ : Rid) = ⟨0,0,0⟩)) <;> rfl)
    obtain ⟨vb,hvb⟩ : ∃ b,b = idB ⟨s,q,i⟩ := ⟨_,rfl⟩
    have HV : Hid (∀ W,Calls Tryz.prog 33 #[.agg #[.int .i64 s,.int .i64 q,.int .i64 i]] W fun e w' => e = .returned (.bool vb) ∧ Ext W w') := hid (fun W => by rw [hvb];exact validID_any ⟨s,q,i⟩ W)
    have hz : (24 : Nat) - d = (24 - (d + 1)) + 1 := by omega
    have HF : Hid (b = if k = 0 ∨ k = 1 then (db && decide (n = 0)) else if k = 2 then (db && decide (n = 1) && formedB r (24 - (d + 1))) else (decide (k = 3) && vb && decide (n = 0))) := hid (by
     have h1 : r.isEmpty = decide (n = 0) := by
      rcases hn with ⟨rfl,rfl⟩ | ⟨rfl,hr⟩
      ·rfl
      ·cases r with
       | nil => exact absurd rfl hr
       | cons y r => rfl
     have h2 : (!r.isEmpty) = decide (n = 1) := by
      rcases hn with ⟨rfl,rfl⟩ | ⟨rfl,hr⟩
      ·rfl
      ·cases r with
       | nil => exact absurd rfl hr
       | cons y r => rfl
     rw [HBR.out,hz,hdb,hvb]
     rw [formedB_succ]
     dsimp only
     rw [h1]
     split
     ·rfl
     ·split
      ·rw [← h2,h1]
      ·rfl)
    have HK : Hid (n = 1 → ∃ (gb o : Nat) (q0 q1 q2 q3 q4 : Value),A = some ⟨gb,o,none⟩ ∧ TyV w r [q0,q1,q2,q3,q4] ∧ (∀ W,Ext w W → W.rangeAt gb o [q0,q1,q2,q3,q4])) := hid (fun h1 => by
     subst h1
     have hty2 := HTY.out
     cases r with
     | nil => obtain ⟨A',c',h,_⟩ := hty2;simp [tyC] at h
     | cons y r =>
      obtain ⟨A',c',ds,h,_,_,h4,h5⟩ := hty2
      obtain ⟨rfl,rfl⟩ : A' = A ∧ c' = c := by simp [tyC] at h;exact ⟨h.1.symm,h.2.symm⟩
      obtain ⟨gb,o,hA,hb,hrg⟩ := h4.2 (by decide)
      obtain ⟨q0,q1,q2,q3,q4,rfl⟩ := list5 ds h5.len
      exact ⟨gb,o,q0,q1,q2,q3,q4,hA,h5,fun W hW j u hu => (hW.cell (p := ⟨gb,o + j,none⟩) hb).trans (hrg j u hu)⟩)
    have HN : Hid (n = 0 ∨ n = 1) := hid (by rcases hn with ⟨h,_⟩ | ⟨h,_⟩ <;> omega)
    have HLT := hid hlt
    clear hty hbr hdb hvb hn hz HBR HTY hlt
    unfold tyC at hB
    dsimp only at hB
    have BI := hid hB
    obtain ⟨c0,c1,c2,c3,c4⟩ := ty_cell BI.out
    clear hB
    by_cases h0 : k = 0
    ·subst h0
     rcases HN.out with rfl | rfl
     ·cases db
      ·have HX : Hid (b = false) := hid (by rw [HF.out];rfl)
       go_wp2_with (first | ((with_reducible refine wpList_idEql s q i 0 0 0 _ HQ.out ?_ ?_ ?_ ?_);kernel_rfl;rfl;rfl) | ((with_reducible refine wpList_idNeq s q i 0 0 0 _ HQN.out ?_ ?_ ?_ ?_);kernel_rfl;rfl;rfl) | (go_at_call 33;(with_reducible refine (HV.out wi).mono ?_);rintro e w3 ⟨rfl,hE3⟩;have EI : Hid (Ext w w3) := hid (EI.out.next hE3);clear hE3))
       go_ret
       exact ⟨by rw [HX.out];rfl,EI.out⟩
      ·have HX : Hid (b = true) := hid (by rw [HF.out];rfl)
       go_wp2_with (first | ((with_reducible refine wpList_idEql s q i 0 0 0 _ HQ.out ?_ ?_ ?_ ?_);kernel_rfl;rfl;rfl) | ((with_reducible refine wpList_idNeq s q i 0 0 0 _ HQN.out ?_ ?_ ?_ ?_);kernel_rfl;rfl;rfl) | (go_at_call 33;(with_reducible refine (HV.out wi).mono ?_);rintro e w3 ⟨rfl,hE3⟩;have EI : Hid (Ext w w3) := hid (EI.out.next hE3);clear hE3))
       go_ret
       exact ⟨by rw [HX.out];rfl,EI.out⟩
     ·have HX : Hid (b = false) := hid (by rw [HF.out];simp)
      go_wp2_with (first | ((with_reducible refine wpList_idEql s q i 0 0 0 _ HQ.out ?_ ?_ ?_ ?_);kernel_rfl;rfl;rfl) | ((with_reducible refine wpList_idNeq s q i 0 0 0 _ HQN.out ?_ ?_ ?_ ?_);kernel_rfl;rfl;rfl) | (go_at_call 33;(with_reducible refine (HV.out wi).mono ?_);rintro e w3 ⟨rfl,hE3⟩;have EI : Hid (Ext w w3) := hid (EI.out.next hE3);clear hE3))
      go_ret
      exact ⟨by rw [HX.out];rfl,EI.out⟩
    by_cases h1 : k = 1
    ·subst h1
     rcases HN.out with rfl | rfl
     ·cases db
      ·have HX : Hid (b = false) := hid (by rw [HF.out];rfl)
       go_wp2_with (first | ((with_reducible refine wpList_idEql s q i 0 0 0 _ HQ.out ?_ ?_ ?_ ?_);kernel_rfl;rfl;rfl) | ((with_reducible refine wpList_idNeq s q i 0 0 0 _ HQN.out ?_ ?_ ?_ ?_);kernel_rfl;rfl;rfl) | (go_at_call 33;(with_reducible refine (HV.out wi).mono ?_);rintro e w3 ⟨rfl,hE3⟩;have EI : Hid (Ext w w3) := hid (EI.out.next hE3);clear hE3))
       go_ret
       exact ⟨by rw [HX.out];rfl,EI.out⟩
      ·have HX : Hid (b = true) := hid (by rw [HF.out];rfl)
       go_wp2_with (first | ((with_reducible refine wpList_idEql s q i 0 0 0 _ HQ.out ?_ ?_ ?_ ?_);kernel_rfl;rfl;rfl) | ((with_reducible refine wpList_idNeq s q i 0 0 0 _ HQN.out ?_ ?_ ?_ ?_);kernel_rfl;rfl;rfl) | (go_at_call 33;(with_reducible refine (HV.out wi).mono ?_);rintro e w3 ⟨rfl,hE3⟩;have EI : Hid (Ext w w3) := hid (EI.out.next hE3);clear hE3))
       go_ret
       exact ⟨by rw [HX.out];rfl,EI.out⟩
     ·have HX : Hid (b = false) := hid (by rw [HF.out];simp)
      go_wp2_with (first | ((with_reducible refine wpList_idEql s q i 0 0 0 _ HQ.out ?_ ?_ ?_ ?_);kernel_rfl;rfl;rfl) | ((with_reducible refine wpList_idNeq s q i 0 0 0 _ HQN.out ?_ ?_ ?_ ?_);kernel_rfl;rfl;rfl) | (go_at_call 33;(with_reducible refine (HV.out wi).mono ?_);rintro e w3 ⟨rfl,hE3⟩;have EI : Hid (Ext w w3) := hid (EI.out.next hE3);clear hE3))
      go_ret
      exact ⟨by rw [HX.out];rfl,EI.out⟩
    by_cases h3 : k = 3
    ·subst h3
     rcases HN.out with rfl | rfl
     ·cases vb
      ·have HX : Hid (b = false) := hid (by rw [HF.out];rfl)
       go_wp2_with (first | ((with_reducible refine wpList_idEql s q i 0 0 0 _ HQ.out ?_ ?_ ?_ ?_);kernel_rfl;rfl;rfl) | ((with_reducible refine wpList_idNeq s q i 0 0 0 _ HQN.out ?_ ?_ ?_ ?_);kernel_rfl;rfl;rfl) | (go_at_call 33;(with_reducible refine (HV.out wi).mono ?_);rintro e w3 ⟨rfl,hE3⟩;have EI : Hid (Ext w w3) := hid (EI.out.next hE3);clear hE3))
       go_ret
       exact ⟨by rw [HX.out];rfl,EI.out⟩
      ·have HX : Hid (b = true) := hid (by rw [HF.out];rfl)
       go_wp2_with (first | ((with_reducible refine wpList_idEql s q i 0 0 0 _ HQ.out ?_ ?_ ?_ ?_);kernel_rfl;rfl;rfl) | ((with_reducible refine wpList_idNeq s q i 0 0 0 _ HQN.out ?_ ?_ ?_ ?_);kernel_rfl;rfl;rfl) | (go_at_call 33;(with_reducible refine (HV.out wi).mono ?_);rintro e w3 ⟨rfl,hE3⟩;have EI : Hid (Ext w w3) := hid (EI.out.next hE3);clear hE3))
       go_ret
       exact ⟨by rw [HX.out];rfl,EI.out⟩
     ·have HX : Hid (b = false) := hid (by rw [HF.out];simp)
      go_wp2_with (first | ((with_reducible refine wpList_idEql s q i 0 0 0 _ HQ.out ?_ ?_ ?_ ?_);kernel_rfl;rfl;rfl) | ((with_reducible refine wpList_idNeq s q i 0 0 0 _ HQN.out ?_ ?_ ?_ ?_);kernel_rfl;rfl;rfl) | (go_at_call 33;(with_reducible refine (HV.out wi).mono ?_);rintro e w3 ⟨rfl,hE3⟩;have EI : Hid (Ext w w3) := hid (EI.out.next hE3);clear hE3))
      go_ret
      exact ⟨by rw [HX.out];rfl,EI.out⟩
    by_cases h2 : k = 2
    ·subst h2
     cases db
     ·have HX : Hid (b = false) := hid (by rw [HF.out];rfl)
      go_wp2_with (first | ((with_reducible refine wpList_idEql s q i 0 0 0 _ HQ.out ?_ ?_ ?_ ?_);kernel_rfl;rfl;rfl) | ((with_reducible refine wpList_idNeq s q i 0 0 0 _ HQN.out ?_ ?_ ?_ ?_);kernel_rfl;rfl;rfl) | (go_at_call 33;(with_reducible refine (HV.out wi).mono ?_);rintro e w3 ⟨rfl,hE3⟩;have EI : Hid (Ext w w3) := hid (EI.out.next hE3);clear hE3))
      go_ret
      exact ⟨by rw [HX.out];rfl,EI.out⟩
     rcases HN.out with rfl | rfl
     ·have HX : Hid (b = false) := hid (by rw [HF.out];rfl)
      go_wp2_with (first | ((with_reducible refine wpList_idEql s q i 0 0 0 _ HQ.out ?_ ?_ ?_ ?_);kernel_rfl;rfl;rfl) | ((with_reducible refine wpList_idNeq s q i 0 0 0 _ HQN.out ?_ ?_ ?_ ?_);kernel_rfl;rfl;rfl) | (go_at_call 33;(with_reducible refine (HV.out wi).mono ?_);rintro e w3 ⟨rfl,hE3⟩;have EI : Hid (Ext w w3) := hid (EI.out.next hE3);clear hE3))
      go_ret
      exact ⟨by rw [HX.out];rfl,EI.out⟩
     have HFF : Hid (b = formedB r (24 - (d + 1))) := hid (by rw [HF.out];simp)
     obtain ⟨gb,o,q0,q1,q2,q3,q4,rfl,hty2,hrg⟩ := HK.out rfl
     have HT2 := hid hty2
     have HRG := hid (hrg wi EI.out)
     clear hty2 hrg HK HF HV
     go_wp2_with (first
      | ((with_reducible refine wpList_idEql s q i 0 0 0 _ HQ.out ?_ ?_ ?_ ?_);kernel_rfl;rfl;rfl)
      | ((with_reducible refine wpList_idNeq s q i 0 0 0 _ HQN.out ?_ ?_ ?_ ?_);kernel_rfl;rfl;rfl)
      | ((with_reducible refine wpList_load_row 26 gb o [q0,q1,q2,q3,q4] HRG.out Tryz.underlying26 rfl (ty_info.trans rfl) ?_ ?_ ?_);kernel_rfl;rfl)
      | (refine wpList_store_blk rfl 26 (.tmp 1) (.tmp 52) rfl g [q0,q1,q2,q3,q4] (by kernel_rfl) (by kernel_rfl) BI.out (ty_info.trans rfl) rfl HT2.out.one ?_;intro w5 hw5 hb5;have B5 : Hid (Blk w5 g 26 [q0,q1,q2,q3,q4]) := hid hb5;have E5 : Hid (Ext w w5) := hid (by rw [hw5.out];exact EI.out.setRow HG.out _);clear hw5 hb5))
     have hlt := HLT.out
     go_roundw
     case rel => exact ⟨d + 1,r,_,by omega,by go_num,HT2.out,HFF.out,B5.out,E5.out⟩
     case measure => simp [intOf];omega
    have e0 : (k == (0 : Int)) = false := beq_eq_false_iff_ne.2 h0
    have e1 : (k == (1 : Int)) = false := beq_eq_false_iff_ne.2 h1
    have e2 : (k == (2 : Int)) = false := beq_eq_false_iff_ne.2 h2
    have e3 : (k == (3 : Int)) = false := beq_eq_false_iff_ne.2 h3
    have HX : Hid (b = false) := hid (by rw [HF.out,if_neg (by omega),if_neg h2,decide_eq_false h3];rfl)
    clear h0 h1 h2 h3
    rcases HN.out with rfl | rfl
    ·go_wp2_with (first | ((with_reducible refine wpList_idEql s q i 0 0 0 _ HQ.out ?_ ?_ ?_ ?_);kernel_rfl;rfl;rfl) | ((with_reducible refine wpList_idNeq s q i 0 0 0 _ HQN.out ?_ ?_ ?_ ?_);kernel_rfl;rfl;rfl) | (go_at_call 33;(with_reducible refine (HV.out wi).mono ?_);rintro e w3 ⟨rfl,hE3⟩;have EI : Hid (Ext w w3) := hid (EI.out.next hE3);clear hE3))
     go_ret
     exact ⟨by rw [HX.out];rfl,EI.out⟩
    ·go_wp2_with (first | ((with_reducible refine wpList_idEql s q i 0 0 0 _ HQ.out ?_ ?_ ?_ ?_);kernel_rfl;rfl;rfl) | ((with_reducible refine wpList_idNeq s q i 0 0 0 _ HQN.out ?_ ?_ ?_ ?_);kernel_rfl;rfl;rfl) | (go_at_call 33;(with_reducible refine (HV.out wi).mono ?_);rintro e w3 ⟨rfl,hE3⟩;have EI : Hid (Ext w w3) := hid (EI.out.next hE3);clear hE3))
     go_ret
     exact ⟨by rw [HX.out];rfl,EI.out⟩
  ·obtain rfl : d = 24 := by omega
   have HX : Hid (b = false) := hid (by rw [HBR.out];exact formedB_zero r)
   clear hty hbr hB
   go_wp2_with fail
   go_ret
   exact ⟨by rw [HX.out];rfl,EI.out⟩
end Go.Proofs.YtojcmcccahjphaaGreatDoor
