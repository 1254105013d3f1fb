/- The reference's Valid of a review. Conditions: at most 1000 operations. -/
import Derived.Test.YtjeecfjeooehhaaGreatDoorM7
set_option linter.unusedSimpArgs false
set_option linter.unusedVariables false
set_option maxHeartbeats 16000000
set_option maxRecDepth 100000
namespace Go.Proofs.YtjeecfjeooehhaaGreatDoor
open Go.RowKit
open Lib (hid)
attribute [local go_sem ↓] wp_at_zero wp_at_succ
theorem rvalid_any (r : Rev) (A : Option Addr) (n c : Nat) (w : World) (hr : RevV w r A n c) : Calls Tryz.prog 42 #[.agg (revC r A n c).toArray] w fun e w' => e = .returned (.int .i64 (validE r)) ∧ Ext w w' := by
 have HR := hid hr
 have HLN := hid hr.len
 have hn := hr.few
 obtain ⟨V,hV⟩ : ∃ v,v = validE r := ⟨_,rfl⟩
 obtain ⟨a,ha⟩ : ∃ a,a = rnumB r.shop r.seq := ⟨_,rfl⟩
 obtain ⟨b,hb⟩ : ∃ b,b = winB r.day 1 1048576 := ⟨_,rfl⟩
 have HV5 : Hid ((a && b) = false → V = 5) := hid (fun h => by rw [hV];unfold validE;rw [← ha,← hb,if_pos h])
 have HV4 : Hid ((a && b) = true → 32 < n → V = 4) := hid (fun h h2 => by rw [hV];unfold validE;rw [← ha,← hb,if_neg (by rw [h];decide),HLN.out,if_pos h2])
 have HV1 : Hid ((a && b) = true → n = 0 → V = 1) := hid (fun h h2 => by rw [hV];unfold validE;rw [← ha,← hb,if_neg (by rw [h];decide),HLN.out,if_neg (by omega),if_pos h2])
 have HV0 : Hid ((a && b) = true → ¬ 32 < n → ¬ n = 0 → okB r.ops = true → V = 0) := hid (fun h h2 h3 h4 => by rw [hV];unfold validE;rw [← ha,← hb,if_neg (by rw [h];decide),HLN.out,if_neg h2,if_neg h3,if_pos h4])
 have HVB : Hid ((a && b) = true → ¬ 32 < n → ¬ n = 0 → okB r.ops = false → V = 1) := hid (fun h h2 h3 h4 => by rw [hV];unfold validE;rw [← ha,← hb,if_neg (by rw [h];decide),HLN.out,if_neg h2,if_neg h3,if_neg (by rw [h4];decide)])
 have HAB : Hid ((a && b) = decide (0 ≤ r.shop ∧ r.shop ≤ 7 ∧ 1 ≤ r.seq ∧ r.seq ≤ 16 ∧ 1 ≤ r.day ∧ r.day ≤ 1048576)) := hid (by
  rw [ha,hb]
  unfold rnumB winB
  rw [Bool.eq_iff_iff]
  simp only [Bool.and_eq_true,decide_eq_true_eq]
  omega)
 rw [← hV]
 clear hV ha hb hr
 go_enter Tryz.func42,Tryz.ntmps42
 go_upto_region 1 with fail
 obtain ⟨w1,hw1⟩ : ∃ x,x = w.alloc (.cells (revC r A n c).toArray 28) := ⟨_,rfl⟩
 change Code.wp _ _ _ _ (w.alloc (.cells (revC r A n c).toArray 28))
 rw [← hw1]
 have E1 : Hid (Ext w w1) := hid (by rw [hw1];exact (Ext.refl w).alloc _)
 have BR : Hid (Blk w1 w.heap.size 28 (revC r A n c)) := hid (by rw [hw1];exact Blk.fresh' _ _ _ _ _ rfl rfl)
 clear hw1
 obtain ⟨c0,c1,c2,c3,c4⟩ := rev_cell BR.out
 clear c3
 generalize r.shop = s0 at *
 generalize r.seq = q0 at *
 generalize r.day = d0 at *
 rcases Classical.em (0 ≤ s0) with h1 | h1
 rotate_left
 ·(have hv := hid (HV5.out (by rw [HAB.out];exact decide_eq_false (by omega)));go_wp2_with fail;go_ret;exact ⟨by rw [hv.out];rfl,E1.out⟩)
 rcases Classical.em (s0 ≤ 7) with h2 | h2
 rotate_left
 ·(have hv := hid (HV5.out (by rw [HAB.out];exact decide_eq_false (by omega)));go_wp2_with fail;go_ret;exact ⟨by rw [hv.out];rfl,E1.out⟩)
 rcases Classical.em (1 ≤ q0) with h3 | h3
 rotate_left
 ·(have hv := hid (HV5.out (by rw [HAB.out];exact decide_eq_false (by omega)));go_wp2_with fail;go_ret;exact ⟨by rw [hv.out];rfl,E1.out⟩)
 rcases Classical.em (q0 ≤ 16) with h4 | h4
 rotate_left
 ·(have hv := hid (HV5.out (by rw [HAB.out];exact decide_eq_false (by omega)));go_wp2_with fail;go_ret;exact ⟨by rw [hv.out];rfl,E1.out⟩)
 rcases Classical.em (1 ≤ d0) with h5 | h5
 rotate_left
 ·(have hv := hid (HV5.out (by rw [HAB.out];exact decide_eq_false (by omega)));go_wp2_with fail;go_ret;exact ⟨by rw [hv.out];rfl,E1.out⟩)
 rcases Classical.em (d0 ≤ 1048576) with h6 | h6
 rotate_left
 ·(have hv := hid (HV5.out (by rw [HAB.out];exact decide_eq_false (by omega)));go_wp2_with fail;go_ret;exact ⟨by rw [hv.out];rfl,E1.out⟩)
 have HTT : Hid ((a && b) = true) := hid (by rw [HAB.out];exact decide_eq_true ⟨h1,h2,h3,h4,h5,h6⟩)
 clear HAB
 by_cases h32 : 32 < n
 ·have hv := hid (HV4.out HTT.out h32)
  go_wp2_with fail
  go_ret
  exact ⟨by rw [hv.out];rfl,E1.out⟩
 by_cases h0 : n = 0
 ·have hv := hid (HV1.out HTT.out h0)
  subst h0
  go_wp2_with fail
  go_ret
  exact ⟨by rw [hv.out];rfl,E1.out⟩
 have HVG := hid (HV0.out HTT.out h32 h0);have HVX := hid (HVB.out HTT.out h32 h0)
 have hd32 : decide (32 < (n : Int)) = false := decide_eq_false (by omega)
 have hd0 : ((n : Int) == 0) = false := by rw [beq_eq_false_iff_ne];omega
 have e1 : decide (s0 < 0) = false := decide_eq_false (by omega)
 have e2 : decide (7 < s0) = false := decide_eq_false (by omega)
 have e3 : decide (q0 < 1) = false := decide_eq_false (by omega)
 have e4 : decide (16 < q0) = false := decide_eq_false (by omega)
 have e5 : decide (d0 < 1) = false := decide_eq_false (by omega)
 have e6 : decide (1048576 < d0) = false := decide_eq_false (by omega)
 obtain ⟨g,p,hA,hg,hcc⟩ := HR.out.row.2 (by omega)
 subst hA
 have HG := hid hg;have HCC := hid hcc
 clear hg hcc HV5 HV4 HV1 HV0 HVB h1 h2 h3 h4 h5 h6
 go_wp2_with fail
 clear e1 e2 e3 e4 e5 e6 c0 c1 c2
 go_loopw [3] (fun k wr => ∃ t : Nat,t ≤ n ∧ k = .int .i64 (t : Int) ∧ Ext w1 wr ∧ ∀ j,j < t → goodB r.ops j = true) (fun k _ => n - (intOf k).toNat)
 case atStart => exact ⟨0,by omega,rfl,Ext.refl _,fun j hj => by omega⟩
 case round =>
  obtain ⟨t,ht,rfl,hE,hz⟩ := hrel
  have EO := hid hE;have HZ := hid hz
  clear hE hz c4
  obtain ⟨wo,rfl⟩ : ∃ x : World,x = wr := ⟨_,rfl⟩
  have c4 : wo.cell? ⟨w.heap.size,4,none⟩ = some (.slice (some ⟨g,p,none⟩) n c) := (BR.out.ext EO.out).cell 4
  by_cases hlt : t < n
  ·obtain ⟨⟨s,q,z⟩,hy⟩ : ∃ y,y = r.ops.getD t rid0 := ⟨_,rfl⟩
   have hy2 : r.ops[t]? = some ⟨s,q,z⟩ := by rw [hy];exact getD_of (by rw [HLN.out];exact hlt)
   have HRG : Hid (∀ W,Ext w W → W.rangeAt g (p + t * 3) [.int .i64 s,.int .i64 q,.int .i64 z]) := hid (fun W hW => ids_range (L := r.ops) (x := ⟨s,q,z⟩) (fun j u hu => (hW.cell (p := ⟨g,p + j,none⟩) HG.out).trans (HCC.out j u hu)) hy2)
   have HGD : Hid (goodB r.ops t = (idB ⟨s,q,z⟩ && (decide (t = 0) || lessB (r.ops.getD (t - 1) rid0) ⟨s,q,z⟩))) := hid (by unfold goodB;rw [← hy])
   have HBAD : Hid (goodB r.ops t = false → V = 1) := hid (fun h => HVX.out (okB_not (by rw [HLN.out];exact hlt) h))
   have HGO : Hid (goodB r.ops t = true → ∀ j,j < t + 1 → goodB r.ops j = true) := hid (fun h j hj => by
    rcases Nat.lt_or_ge j t with h1 | h1
    ·exact HZ.out j h1
    ·obtain rfl : j = t := by omega
     exact h)
   have hltI : (t : Int) < (n : Int) := by omega
   clear hy2 HVX HZ
   go_upto_region 10 with fail
   clear c4
   have HVD : Hid (∀ W,Calls Tryz.prog 95 #[.agg #[.int .i64 s,.int .i64 q,.int .i64 z]] W fun e w' => e = .returned (.bool (idB ⟨s,q,z⟩)) ∧ Ext W w') := hid (fun W => validID_any ⟨s,q,z⟩ W)
   clear h32 h0 hd32 hd0
   obtain ⟨a',ha'⟩ : ∃ x,x = idB ⟨s,q,z⟩ := ⟨_,rfl⟩
   rw [← ha'] at HVD HGD
   clear ha'
   cases a'
   ·have HBF : Hid ((false && (decide (t = 0) || lessB (r.ops.getD (t - 1) rid0) ⟨s,q,z⟩)) = false) := hid rfl
    clear hlt
    refine wp_region_flowF 25 ?FW1 (fun us => ?_) (by kernel_rfl) (by kernel_rfl) (fun a b => Ext a b) Ext.refl (fun h1 h2 => h1.next h2) (fun i v W => match i with
     | 0 => v = .pointer (some ⟨w.heap.size,4,none⟩)
     | 1 => v = .slice (some ⟨g,p,none⟩) n c
     | 2 => v = .int .i64 (t : Int)
     | 3 => v = .pointer (some ⟨g,p + t * 3,none⟩)
     | 4 => v = .agg #[.int .i64 s,.int .i64 q,.int .i64 z]
     | 5 => v = .bool false
     | 6 => v = .bool true
     | 7 => v = .bool true
     | 8 => v = undef
     | 9 => v = undef
     | 10 => v = undef
     | 11 => v = undef
     | 12 => v = undef
     | 13 => v = undef
     | 14 => v = undef
     | 15 => v = undef
     | 16 => v = undef
     | 17 => v = undef
     | 18 => v = undef
     | 19 => v = undef
     | 20 => v = undef
     | 21 => v = undef
     | 22 => v = undef
     | 23 => v = undef
     | 24 => v = undef
     | _ => True) ?_ ?_
    case refine_1 =>
     simp only [List.take_succ_cons,List.take_zero,flowAct,Nat.zero_add,Nat.reduceAdd,Act.put,List.setIfInBounds_toArray,List.set_cons_succ,List.set_cons_zero]
     rfl
    ·simp only [List.take_succ_cons,List.take_zero,flowStepsF]
     refine ⟨?_,?_,?_,?_,?_,?_,?_,?_,?_,?_,?_,?_,?_,?_,?_,?_,?_,?_,?_,?_,?_,?_,?_,?_,?_,trivial⟩
     ·intro us W K hE hd hK
      dsimp only at hK ⊢
      have HK := hid hK;have HE := hid hE
      clear hK hd hE
      go_wp2_with fail
      exact K_at (HK.out (.pointer (some ⟨w.heap.size,4,none⟩)) W (fun _ _ => rfl) (Ext.refl W)) (by kernel_rfl)
     ·intro us W K hE hd hK
      have d0 := hd 0 (by kernel_rfl)
      have xk : W.cell? ⟨w.heap.size,4,none⟩ = some (.slice (some ⟨g,p,none⟩) n c) := (BR.out.ext (EO.out.next (sg_undrew hE))).cell 4
      dsimp only at hK ⊢
      rw [d0] at hK ⊢
      have HK := hid hK;have HE := hid hE
      clear hK hd hE d0
      go_wp2_with fail
      exact K_at (HK.out (.slice (some ⟨g,p,none⟩) n c) W (fun _ _ => rfl) (Ext.refl W)) (by kernel_rfl)
     ·intro us W K hE hd hK
      dsimp only at hK ⊢
      have HK := hid hK;have HE := hid hE
      clear hK hd hE
      go_wp2_with fail
      exact K_at (HK.out (.int .i64 (t : Int)) W (fun _ _ => rfl) (Ext.refl W)) (by kernel_rfl)
     ·intro us W K hE hd hK
      have d1 := hd 1 (by kernel_rfl)
      have d2 := hd 2 (by kernel_rfl)
      dsimp only at hK ⊢
      rw [d1,d2] at hK ⊢
      have HK := hid hK;have HE := hid hE
      clear hK hd hE d1 d2
      go_wp2_with fail
      exact K_at (HK.out (.pointer (some ⟨g,p + t * 3,none⟩)) W (fun _ _ => rfl) (Ext.refl W)) (by kernel_rfl)
     ·intro us W K hE hd hK
      have d3 := hd 3 (by kernel_rfl)
      have HPW := hid (HRG.out W (E1.out.next (EO.out.next (sg_undrew hE))))
      dsimp only at hK ⊢
      rw [d3] at hK ⊢
      have HK := hid hK;have HE := hid hE
      clear hK hd hE d3
      go_wp2_with ((refine wpList_midw (by rfl) 68 (.tmp 50) rfl g (p + t * 3) rfl [.int .i64 s,.int .i64 q,.int .i64 z] HPW.out Tryz.underlying68 rfl (info_id.trans rfl) ?_))
      exact K_at (HK.out (.agg #[.int .i64 s,.int .i64 q,.int .i64 z]) W (fun _ _ => rfl) (Ext.refl W)) (by kernel_rfl)
     ·intro us W K hE hd hK
      have d4 := hd 4 (by kernel_rfl)
      dsimp only at hK ⊢
      rw [d4] at hK ⊢
      have HK := hid hK;have HE := hid hE
      clear hK hd hE d4
      go_wp2_with ((go_at_call 95;(with_reducible refine (HVD.out W).mono ?_);rintro e w7 ⟨rfl,hB7⟩))
      exact K_at (HK.out (.bool false) w7 (fun _ _ => rfl) hB7) (by kernel_rfl)
     ·intro us W K hE hd hK
      have d5 := hd 5 (by kernel_rfl)
      dsimp only at hK ⊢
      rw [d5] at hK ⊢
      have HK := hid hK;have HE := hid hE
      clear hK hd hE d5
      go_wp2_with fail
      exact K_at (HK.out (.bool true) W (fun _ _ => rfl) (Ext.refl W)) (by kernel_rfl)
     ·intro us W K hE hd hK
      have d6 := hd 6 (by kernel_rfl)
      dsimp only at hK ⊢
      rw [d6] at hK ⊢
      have HK := hid hK;have HE := hid hE
      clear hK hd hE d6
      go_wp2_with fail
      exact K_at (HK.out (.bool true) W (fun _ _ => rfl) (Ext.refl W)) (by kernel_rfl)
     ·intro us W K hE hd hK
      have d7 := hd 7 (by kernel_rfl)
      dsimp only at hK ⊢
      rw [d7] at hK ⊢
      have HK := hid hK;have HE := hid hE
      clear hK hd hE d7
      go_wp2_with fail
      exact K_at (HK.out (undef) W (fun _ _ => rfl) (Ext.refl W)) (by kernel_rfl)
     ·intro us W K hE hd hK
      have d7 := hd 7 (by kernel_rfl)
      have d8 := hd 8 (by kernel_rfl)
      dsimp only at hK ⊢
      rw [d7,d8] at hK ⊢
      have HK := hid hK;have HE := hid hE
      clear hK hd hE d7 d8
      go_wp2_with fail
      exact K_at (HK.out (undef) W (fun _ _ => rfl) (Ext.refl W)) (by kernel_rfl)
     ·intro us W K hE hd hK
      have d7 := hd 7 (by kernel_rfl)
      have d9 := hd 9 (by kernel_rfl)
      dsimp only at hK ⊢
      rw [d7,d9] at hK ⊢
      have HK := hid hK;have HE := hid hE
      clear hK hd hE d7 d9
      go_wp2_with fail
      exact K_at (HK.out (undef) W (fun _ _ => rfl) (Ext.refl W)) (by kernel_rfl)
     ·intro us W K hE hd hK
      have d10 := hd 10 (by kernel_rfl)
      dsimp only at hK ⊢
      rw [d10] at hK ⊢
      have HK := hid hK;have HE := hid hE
      clear hK hd hE d10
      go_wp2_with fail
      exact K_at (HK.out (undef) W (fun _ _ => rfl) (Ext.refl W)) (by kernel_rfl)
     ·intro us W K hE hd hK
      have d10 := hd 10 (by kernel_rfl)
      have d11 := hd 11 (by kernel_rfl)
      dsimp only at hK ⊢
      rw [d10,d11] at hK ⊢
      have HK := hid hK;have HE := hid hE
      clear hK hd hE d10 d11
      go_wp2_with fail
      exact K_at (HK.out (undef) W (fun _ _ => rfl) (Ext.refl W)) (by kernel_rfl)
     ·intro us W K hE hd hK
      have d10 := hd 10 (by kernel_rfl)
      dsimp only at hK ⊢
      rw [d10] at hK ⊢
      have HK := hid hK;have HE := hid hE
      clear hK hd hE d10
      go_wp2_with fail
      exact K_at (HK.out (undef) W (fun _ _ => rfl) (Ext.refl W)) (by kernel_rfl)
     ·intro us W K hE hd hK
      have d10 := hd 10 (by kernel_rfl)
      have d13 := hd 13 (by kernel_rfl)
      dsimp only at hK ⊢
      rw [d10,d13] at hK ⊢
      have HK := hid hK;have HE := hid hE
      clear hK hd hE d10 d13
      go_wp2_with fail
      exact K_at (HK.out (undef) W (fun _ _ => rfl) (Ext.refl W)) (by kernel_rfl)
     ·intro us W K hE hd hK
      have d10 := hd 10 (by kernel_rfl)
      have d12 := hd 12 (by kernel_rfl)
      have d14 := hd 14 (by kernel_rfl)
      dsimp only at hK ⊢
      rw [d10,d12,d14] at hK ⊢
      have HK := hid hK;have HE := hid hE
      clear hK hd hE d10 d12 d14
      go_wp2_with fail
      exact K_at (HK.out (undef) W (fun _ _ => rfl) (Ext.refl W)) (by kernel_rfl)
     ·intro us W K hE hd hK
      have d10 := hd 10 (by kernel_rfl)
      have d15 := hd 15 (by kernel_rfl)
      dsimp only at hK ⊢
      rw [d10,d15] at hK ⊢
      have HK := hid hK;have HE := hid hE
      clear hK hd hE d10 d15
      go_wp2_with fail
      exact K_at (HK.out (undef) W (fun _ _ => rfl) (Ext.refl W)) (by kernel_rfl)
     ·intro us W K hE hd hK
      have d10 := hd 10 (by kernel_rfl)
      dsimp only at hK ⊢
      rw [d10] at hK ⊢
      have HK := hid hK;have HE := hid hE
      clear hK hd hE d10
      go_wp2_with fail
      exact K_at (HK.out (undef) W (fun _ _ => rfl) (Ext.refl W)) (by kernel_rfl)
     ·intro us W K hE hd hK
      have d10 := hd 10 (by kernel_rfl)
      have d17 := hd 17 (by kernel_rfl)
      dsimp only at hK ⊢
      rw [d10,d17] at hK ⊢
      have HK := hid hK;have HE := hid hE
      clear hK hd hE d10 d17
      go_wp2_with fail
      exact K_at (HK.out (undef) W (fun _ _ => rfl) (Ext.refl W)) (by kernel_rfl)
     ·intro us W K hE hd hK
      have d10 := hd 10 (by kernel_rfl)
      dsimp only at hK ⊢
      rw [d10] at hK ⊢
      have HK := hid hK;have HE := hid hE
      clear hK hd hE d10
      go_wp2_with fail
      exact K_at (HK.out (undef) W (fun _ _ => rfl) (Ext.refl W)) (by kernel_rfl)
     ·intro us W K hE hd hK
      have d10 := hd 10 (by kernel_rfl)
      have d18 := hd 18 (by kernel_rfl)
      have d19 := hd 19 (by kernel_rfl)
      dsimp only at hK ⊢
      rw [d10,d18,d19] at hK ⊢
      have HK := hid hK;have HE := hid hE
      clear hK hd hE d10 d18 d19
      go_wp2_with fail
      exact K_at (HK.out (undef) W (fun _ _ => rfl) (Ext.refl W)) (by kernel_rfl)
     ·intro us W K hE hd hK
      have d10 := hd 10 (by kernel_rfl)
      have d20 := hd 20 (by kernel_rfl)
      dsimp only at hK ⊢
      rw [d10,d20] at hK ⊢
      have HK := hid hK;have HE := hid hE
      clear hK hd hE d10 d20
      go_wp2_with fail
      exact K_at (HK.out (undef) W (fun _ _ => rfl) (Ext.refl W)) (by kernel_rfl)
     ·intro us W K hE hd hK
      have d10 := hd 10 (by kernel_rfl)
      have d16 := hd 16 (by kernel_rfl)
      have d21 := hd 21 (by kernel_rfl)
      dsimp only at hK ⊢
      rw [d10,d16,d21] at hK ⊢
      have HK := hid hK;have HE := hid hE
      clear hK hd hE d10 d16 d21
      go_wp2_with fail
      exact K_at (HK.out (undef) W (fun _ _ => rfl) (Ext.refl W)) (by kernel_rfl)
     ·intro us W K hE hd hK
      have d10 := hd 10 (by kernel_rfl)
      have d22 := hd 22 (by kernel_rfl)
      dsimp only at hK ⊢
      rw [d10,d22] at hK ⊢
      have HK := hid hK;have HE := hid hE
      clear hK hd hE d10 d22
      go_wp2_with fail
      exact K_at (HK.out (undef) W (fun _ _ => rfl) (Ext.refl W)) (by kernel_rfl)
     ·intro us W K hE hd hK
      have d7 := hd 7 (by kernel_rfl)
      have d10 := hd 10 (by kernel_rfl)
      have d23 := hd 23 (by kernel_rfl)
      dsimp only at hK ⊢
      rw [d7,d10,d23] at hK ⊢
      have HK := hid hK;have HE := hid hE
      clear hK hd hE d7 d10 d23
      go_wp2_with fail
      exact K_at (HK.out (undef) W (fun _ _ => rfl) (Ext.refl W)) (by kernel_rfl)
    ·intro us W hE hd
     try dsimp only
     have d7 := hd 7 (by decide)
     have d24 := hd 24 (by decide)
     simp only [List.drop_succ_cons,List.drop_zero]
     rw [d7,d24]
     have EW1 := hid (EO.out.next (sg_undrew hE))
     have EW := hid (E1.out.next EW1.out)
     clear hd hE d7 d24
     have hv := hid (HBAD.out (by rw [HGD.out];exact HBF.out))
     go_wp2_with fail
     go_ret
     exact ⟨by rw [hv.out];rfl,EW.out⟩
   by_cases ht0 : t = 0
   ·have HBF : Hid ((true && (decide (t = 0) || lessB (r.ops.getD (t - 1) rid0) ⟨s,q,z⟩)) = true) := hid (by rw [decide_eq_true ht0];rfl)
    have HTZ : Hid (decide (0 < t) = false) := hid (decide_eq_false (by omega))
    clear ht0
    refine wp_region_flowF 25 ?FW2 (fun us => ?_) (by kernel_rfl) (by kernel_rfl) (fun a b => Ext a b) Ext.refl (fun h1 h2 => h1.next h2) (fun i v W => match i with
     | 0 => v = .pointer (some ⟨w.heap.size,4,none⟩)
     | 1 => v = .slice (some ⟨g,p,none⟩) n c
     | 2 => v = .int .i64 (t : Int)
     | 3 => v = .pointer (some ⟨g,p + t * 3,none⟩)
     | 4 => v = .agg #[.int .i64 s,.int .i64 q,.int .i64 z]
     | 5 => v = .bool true
     | 6 => v = .bool false
     | 7 => v = .bool false
     | 8 => v = .int .i64 (t : Int)
     | 9 => v = .bool false
     | 10 => v = .bool false
     | 11 => v = undef
     | 12 => v = undef
     | 13 => v = undef
     | 14 => v = undef
     | 15 => v = undef
     | 16 => v = undef
     | 17 => v = undef
     | 18 => v = undef
     | 19 => v = undef
     | 20 => v = undef
     | 21 => v = undef
     | 22 => v = undef
     | 23 => v = undef
     | 24 => v = .bool false
     | _ => True) ?_ ?_
    case refine_1 =>
     simp only [List.take_succ_cons,List.take_zero,flowAct,Nat.zero_add,Nat.reduceAdd,Act.put,List.setIfInBounds_toArray,List.set_cons_succ,List.set_cons_zero]
     rfl
    ·simp only [List.take_succ_cons,List.take_zero,flowStepsF]
     refine ⟨?_,?_,?_,?_,?_,?_,?_,?_,?_,?_,?_,?_,?_,?_,?_,?_,?_,?_,?_,?_,?_,?_,?_,?_,?_,trivial⟩
     ·intro us W K hE hd hK
      dsimp only at hK ⊢
      have HK := hid hK;have HE := hid hE
      clear hK hd hE
      go_wp2_with fail
      exact K_at (HK.out (.pointer (some ⟨w.heap.size,4,none⟩)) W (fun _ _ => rfl) (Ext.refl W)) (by kernel_rfl)
     ·intro us W K hE hd hK
      have d0 := hd 0 (by kernel_rfl)
      have xk : W.cell? ⟨w.heap.size,4,none⟩ = some (.slice (some ⟨g,p,none⟩) n c) := (BR.out.ext (EO.out.next (sg_undrew hE))).cell 4
      dsimp only at hK ⊢
      rw [d0] at hK ⊢
      have HK := hid hK;have HE := hid hE
      clear hK hd hE d0
      go_wp2_with fail
      exact K_at (HK.out (.slice (some ⟨g,p,none⟩) n c) W (fun _ _ => rfl) (Ext.refl W)) (by kernel_rfl)
     ·intro us W K hE hd hK
      dsimp only at hK ⊢
      have HK := hid hK;have HE := hid hE
      clear hK hd hE
      go_wp2_with fail
      exact K_at (HK.out (.int .i64 (t : Int)) W (fun _ _ => rfl) (Ext.refl W)) (by kernel_rfl)
     ·intro us W K hE hd hK
      have d1 := hd 1 (by kernel_rfl)
      have d2 := hd 2 (by kernel_rfl)
      dsimp only at hK ⊢
      rw [d1,d2] at hK ⊢
      have HK := hid hK;have HE := hid hE
      clear hK hd hE d1 d2
      go_wp2_with fail
      exact K_at (HK.out (.pointer (some ⟨g,p + t * 3,none⟩)) W (fun _ _ => rfl) (Ext.refl W)) (by kernel_rfl)
     ·intro us W K hE hd hK
      have d3 := hd 3 (by kernel_rfl)
      have HPW := hid (HRG.out W (E1.out.next (EO.out.next (sg_undrew hE))))
      dsimp only at hK ⊢
      rw [d3] at hK ⊢
      have HK := hid hK;have HE := hid hE
      clear hK hd hE d3
      go_wp2_with ((refine wpList_midw (by rfl) 68 (.tmp 50) rfl g (p + t * 3) rfl [.int .i64 s,.int .i64 q,.int .i64 z] HPW.out Tryz.underlying68 rfl (info_id.trans rfl) ?_))
      exact K_at (HK.out (.agg #[.int .i64 s,.int .i64 q,.int .i64 z]) W (fun _ _ => rfl) (Ext.refl W)) (by kernel_rfl)
     ·intro us W K hE hd hK
      have d4 := hd 4 (by kernel_rfl)
      dsimp only at hK ⊢
      rw [d4] at hK ⊢
      have HK := hid hK;have HE := hid hE
      clear hK hd hE d4
      go_wp2_with ((go_at_call 95;(with_reducible refine (HVD.out W).mono ?_);rintro e w7 ⟨rfl,hB7⟩))
      exact K_at (HK.out (.bool true) w7 (fun _ _ => rfl) hB7) (by kernel_rfl)
     ·intro us W K hE hd hK
      have d5 := hd 5 (by kernel_rfl)
      dsimp only at hK ⊢
      rw [d5] at hK ⊢
      have HK := hid hK;have HE := hid hE
      clear hK hd hE d5
      go_wp2_with fail
      exact K_at (HK.out (.bool false) W (fun _ _ => rfl) (Ext.refl W)) (by kernel_rfl)
     ·intro us W K hE hd hK
      have d6 := hd 6 (by kernel_rfl)
      dsimp only at hK ⊢
      rw [d6] at hK ⊢
      have HK := hid hK;have HE := hid hE
      clear hK hd hE d6
      go_wp2_with fail
      exact K_at (HK.out (.bool false) W (fun _ _ => rfl) (Ext.refl W)) (by kernel_rfl)
     ·intro us W K hE hd hK
      have d7 := hd 7 (by kernel_rfl)
      dsimp only at hK ⊢
      rw [d7] at hK ⊢
      have HK := hid hK;have HE := hid hE
      clear hK hd hE d7
      go_wp2_with fail
      exact K_at (HK.out (.int .i64 (t : Int)) W (fun _ _ => rfl) (Ext.refl W)) (by kernel_rfl)
     ·intro us W K hE hd hK
      have d7 := hd 7 (by kernel_rfl)
      have d8 := hd 8 (by kernel_rfl)
      dsimp only at hK ⊢
      rw [d7,d8] at hK ⊢
      have HK := hid hK;have HE := hid hE
      clear hK hd hE d7 d8
      go_wp2_with fail
      exact K_at (HK.out (.bool (decide (0 < t))) W (fun _ _ => by rw [HTZ.out]) (Ext.refl W)) (by kernel_rfl)
     ·intro us W K hE hd hK
      have d7 := hd 7 (by kernel_rfl)
      have d9 := hd 9 (by kernel_rfl)
      dsimp only at hK ⊢
      rw [d7,d9] at hK ⊢
      have HK := hid hK;have HE := hid hE
      clear hK hd hE d7 d9
      go_wp2_with fail
      exact K_at (HK.out (.bool false) W (fun _ _ => rfl) (Ext.refl W)) (by kernel_rfl)
     ·intro us W K hE hd hK
      have d10 := hd 10 (by kernel_rfl)
      dsimp only at hK ⊢
      rw [d10] at hK ⊢
      have HK := hid hK;have HE := hid hE
      clear hK hd hE d10
      go_wp2_with fail
      exact K_at (HK.out (undef) W (fun _ _ => rfl) (Ext.refl W)) (by kernel_rfl)
     ·intro us W K hE hd hK
      have d10 := hd 10 (by kernel_rfl)
      have d11 := hd 11 (by kernel_rfl)
      dsimp only at hK ⊢
      rw [d10,d11] at hK ⊢
      have HK := hid hK;have HE := hid hE
      clear hK hd hE d10 d11
      go_wp2_with fail
      exact K_at (HK.out (undef) W (fun _ _ => rfl) (Ext.refl W)) (by kernel_rfl)
     ·intro us W K hE hd hK
      have d10 := hd 10 (by kernel_rfl)
      dsimp only at hK ⊢
      rw [d10] at hK ⊢
      have HK := hid hK;have HE := hid hE
      clear hK hd hE d10
      go_wp2_with fail
      exact K_at (HK.out (undef) W (fun _ _ => rfl) (Ext.refl W)) (by kernel_rfl)
     ·intro us W K hE hd hK
      have d10 := hd 10 (by kernel_rfl)
      have d13 := hd 13 (by kernel_rfl)
      dsimp only at hK ⊢
      rw [d10,d13] at hK ⊢
      have HK := hid hK;have HE := hid hE
      clear hK hd hE d10 d13
      go_wp2_with fail
      exact K_at (HK.out (undef) W (fun _ _ => rfl) (Ext.refl W)) (by kernel_rfl)
     ·intro us W K hE hd hK
      have d10 := hd 10 (by kernel_rfl)
      have d12 := hd 12 (by kernel_rfl)
      have d14 := hd 14 (by kernel_rfl)
      dsimp only at hK ⊢
      rw [d10,d12,d14] at hK ⊢
      have HK := hid hK;have HE := hid hE
      clear hK hd hE d10 d12 d14
      go_wp2_with fail
      exact K_at (HK.out (undef) W (fun _ _ => rfl) (Ext.refl W)) (by kernel_rfl)
     ·intro us W K hE hd hK
      have d10 := hd 10 (by kernel_rfl)
      have d15 := hd 15 (by kernel_rfl)
      dsimp only at hK ⊢
      rw [d10,d15] at hK ⊢
      have HK := hid hK;have HE := hid hE
      clear hK hd hE d10 d15
      go_wp2_with fail
      exact K_at (HK.out (undef) W (fun _ _ => rfl) (Ext.refl W)) (by kernel_rfl)
     ·intro us W K hE hd hK
      have d10 := hd 10 (by kernel_rfl)
      dsimp only at hK ⊢
      rw [d10] at hK ⊢
      have HK := hid hK;have HE := hid hE
      clear hK hd hE d10
      go_wp2_with fail
      exact K_at (HK.out (undef) W (fun _ _ => rfl) (Ext.refl W)) (by kernel_rfl)
     ·intro us W K hE hd hK
      have d10 := hd 10 (by kernel_rfl)
      have d17 := hd 17 (by kernel_rfl)
      dsimp only at hK ⊢
      rw [d10,d17] at hK ⊢
      have HK := hid hK;have HE := hid hE
      clear hK hd hE d10 d17
      go_wp2_with fail
      exact K_at (HK.out (undef) W (fun _ _ => rfl) (Ext.refl W)) (by kernel_rfl)
     ·intro us W K hE hd hK
      have d10 := hd 10 (by kernel_rfl)
      dsimp only at hK ⊢
      rw [d10] at hK ⊢
      have HK := hid hK;have HE := hid hE
      clear hK hd hE d10
      go_wp2_with fail
      exact K_at (HK.out (undef) W (fun _ _ => rfl) (Ext.refl W)) (by kernel_rfl)
     ·intro us W K hE hd hK
      have d10 := hd 10 (by kernel_rfl)
      have d18 := hd 18 (by kernel_rfl)
      have d19 := hd 19 (by kernel_rfl)
      dsimp only at hK ⊢
      rw [d10,d18,d19] at hK ⊢
      have HK := hid hK;have HE := hid hE
      clear hK hd hE d10 d18 d19
      go_wp2_with fail
      exact K_at (HK.out (undef) W (fun _ _ => rfl) (Ext.refl W)) (by kernel_rfl)
     ·intro us W K hE hd hK
      have d10 := hd 10 (by kernel_rfl)
      have d20 := hd 20 (by kernel_rfl)
      dsimp only at hK ⊢
      rw [d10,d20] at hK ⊢
      have HK := hid hK;have HE := hid hE
      clear hK hd hE d10 d20
      go_wp2_with fail
      exact K_at (HK.out (undef) W (fun _ _ => rfl) (Ext.refl W)) (by kernel_rfl)
     ·intro us W K hE hd hK
      have d10 := hd 10 (by kernel_rfl)
      have d16 := hd 16 (by kernel_rfl)
      have d21 := hd 21 (by kernel_rfl)
      dsimp only at hK ⊢
      rw [d10,d16,d21] at hK ⊢
      have HK := hid hK;have HE := hid hE
      clear hK hd hE d10 d16 d21
      go_wp2_with fail
      exact K_at (HK.out (undef) W (fun _ _ => rfl) (Ext.refl W)) (by kernel_rfl)
     ·intro us W K hE hd hK
      have d10 := hd 10 (by kernel_rfl)
      have d22 := hd 22 (by kernel_rfl)
      dsimp only at hK ⊢
      rw [d10,d22] at hK ⊢
      have HK := hid hK;have HE := hid hE
      clear hK hd hE d10 d22
      go_wp2_with fail
      exact K_at (HK.out (undef) W (fun _ _ => rfl) (Ext.refl W)) (by kernel_rfl)
     ·intro us W K hE hd hK
      have d7 := hd 7 (by kernel_rfl)
      have d10 := hd 10 (by kernel_rfl)
      have d23 := hd 23 (by kernel_rfl)
      dsimp only at hK ⊢
      rw [d7,d10,d23] at hK ⊢
      have HK := hid hK;have HE := hid hE
      clear hK hd hE d7 d10 d23
      go_wp2_with fail
      exact K_at (HK.out (.bool false) W (fun _ _ => rfl) (Ext.refl W)) (by kernel_rfl)
    ·intro us W hE hd
     try dsimp only
     have d7 := hd 7 (by decide)
     have d24 := hd 24 (by decide)
     simp only [List.drop_succ_cons,List.drop_zero]
     rw [d7,d24]
     have EW1 := hid (EO.out.next (sg_undrew hE))
     have EW := hid (E1.out.next EW1.out)
     clear hd hE d7 d24
     have hgo := hid (HGO.out (by rw [HGD.out];exact HBF.out))
     go_wp2_with fail
     exact ⟨⟨t + 1,by omega,by go_num,EW1.out,hgo.out⟩,by simp [intOf];omega⟩
   ·obtain ⟨u,hu⟩ : ∃ u,t = u + 1 := ⟨t - 1,by omega⟩
    obtain ⟨⟨s1,q1,z1⟩,hy1⟩ : ∃ y,y = r.ops.getD u rid0 := ⟨_,rfl⟩
    have hy2 : r.ops[u]? = some ⟨s1,q1,z1⟩ := by rw [hy1];exact getD_of (by rw [HLN.out];omega)
    have HPR : Hid (∀ W,Ext w W → W.rangeAt g (p + u * 3) [.int .i64 s1,.int .i64 q1,.int .i64 z1]) := hid (fun W hW => ids_range (L := r.ops) (x := ⟨s1,q1,z1⟩) (fun j u hu => (hW.cell (p := ⟨g,p + j,none⟩) HG.out).trans (HCC.out j u hu)) hy2)
    have HLS : Hid (∀ W,Calls Tryz.prog 64 #[.agg #[.int .i64 s1,.int .i64 q1,.int .i64 z1],.agg #[.int .i64 s,.int .i64 q,.int .i64 z]] W fun e w' => e = .returned (.bool (lessB ⟨s1,q1,z1⟩ ⟨s,q,z⟩)) ∧ Ext W w') := hid (fun W => less_any ⟨s1,q1,z1⟩ ⟨s,q,z⟩ W)
    have HEQ : Hid ((true && (decide (t = 0) || lessB (r.ops.getD (t - 1) rid0) ⟨s,q,z⟩)) = lessB ⟨s1,q1,z1⟩ ⟨s,q,z⟩) := hid (by rw [decide_eq_false ht0,hu,Nat.add_sub_cancel,← hy1];rfl)
    obtain ⟨lb,hlb⟩ : ∃ x,x = lessB ⟨s1,q1,z1⟩ ⟨s,q,z⟩ := ⟨_,rfl⟩
    rw [← hlb] at HLS HEQ
    have HB0 : Hid (lb = false → (true && (decide (t = 0) || lessB (r.ops.getD (t - 1) rid0) ⟨s,q,z⟩)) = false) := hid (fun h => HEQ.out.trans h)
    have HB1 : Hid (lb = true → (true && (decide (t = 0) || lessB (r.ops.getD (t - 1) rid0) ⟨s,q,z⟩)) = true) := hid (fun h => HEQ.out.trans h)
    have HTZ : Hid (decide (0 < t) = true) := hid (decide_eq_true (by omega))
    have hun : ((t : Int) - 1).toNat = u := by omega
    have ht1 : 1 ≤ t := by omega
    clear hu hy1 hy2 hlb ht0
    refine wp_region_flowF 25 ?FW3 (fun us => ?_) (by kernel_rfl) (by kernel_rfl) (fun a b => Ext a b) Ext.refl (fun h1 h2 => h1.next h2) (fun i v W => match i with
     | 0 => v = .pointer (some ⟨w.heap.size,4,none⟩)
     | 1 => v = .slice (some ⟨g,p,none⟩) n c
     | 2 => v = .int .i64 (t : Int)
     | 3 => v = .pointer (some ⟨g,p + t * 3,none⟩)
     | 4 => v = .agg #[.int .i64 s,.int .i64 q,.int .i64 z]
     | 5 => v = .bool true
     | 6 => v = .bool false
     | 7 => v = .bool false
     | 8 => v = .int .i64 (t : Int)
     | 9 => v = .bool true
     | 10 => v = .bool true
     | 11 => v = .pointer (some ⟨w.heap.size,4,none⟩)
     | 12 => v = .slice (some ⟨g,p,none⟩) n c
     | 13 => v = .int .i64 (t : Int)
     | 14 => v = .int .i64 ((t : Int) - 1)
     | 15 => v = .pointer (some ⟨g,p + u * 3,none⟩)
     | 16 => v = .agg #[.int .i64 s1,.int .i64 q1,.int .i64 z1]
     | 17 => v = .pointer (some ⟨w.heap.size,4,none⟩)
     | 18 => v = .slice (some ⟨g,p,none⟩) n c
     | 19 => v = .int .i64 (t : Int)
     | 20 => v = .pointer (some ⟨g,p + t * 3,none⟩)
     | 21 => v = .agg #[.int .i64 s,.int .i64 q,.int .i64 z]
     | 22 => v = .bool lb
     | 23 => v = .bool (!lb)
     | 24 => v = .bool (!lb)
     | _ => True) ?_ ?_
    case refine_1 =>
     simp only [List.take_succ_cons,List.take_zero,flowAct,Nat.zero_add,Nat.reduceAdd,Act.put,List.setIfInBounds_toArray,List.set_cons_succ,List.set_cons_zero]
     rfl
    ·simp only [List.take_succ_cons,List.take_zero,flowStepsF]
     refine ⟨?_,?_,?_,?_,?_,?_,?_,?_,?_,?_,?_,?_,?_,?_,?_,?_,?_,?_,?_,?_,?_,?_,?_,?_,?_,trivial⟩
     ·intro us W K hE hd hK
      dsimp only at hK ⊢
      have HK := hid hK;have HE := hid hE
      clear hK hd hE
      go_wp2_with fail
      exact K_at (HK.out (.pointer (some ⟨w.heap.size,4,none⟩)) W (fun _ _ => rfl) (Ext.refl W)) (by kernel_rfl)
     ·intro us W K hE hd hK
      have d0 := hd 0 (by kernel_rfl)
      have xk : W.cell? ⟨w.heap.size,4,none⟩ = some (.slice (some ⟨g,p,none⟩) n c) := (BR.out.ext (EO.out.next (sg_undrew hE))).cell 4
      dsimp only at hK ⊢
      rw [d0] at hK ⊢
      have HK := hid hK;have HE := hid hE
      clear hK hd hE d0
      go_wp2_with fail
      exact K_at (HK.out (.slice (some ⟨g,p,none⟩) n c) W (fun _ _ => rfl) (Ext.refl W)) (by kernel_rfl)
     ·intro us W K hE hd hK
      dsimp only at hK ⊢
      have HK := hid hK;have HE := hid hE
      clear hK hd hE
      go_wp2_with fail
      exact K_at (HK.out (.int .i64 (t : Int)) W (fun _ _ => rfl) (Ext.refl W)) (by kernel_rfl)
     ·intro us W K hE hd hK
      have d1 := hd 1 (by kernel_rfl)
      have d2 := hd 2 (by kernel_rfl)
      dsimp only at hK ⊢
      rw [d1,d2] at hK ⊢
      have HK := hid hK;have HE := hid hE
      clear hK hd hE d1 d2
      go_wp2_with fail
      exact K_at (HK.out (.pointer (some ⟨g,p + t * 3,none⟩)) W (fun _ _ => rfl) (Ext.refl W)) (by kernel_rfl)
     ·intro us W K hE hd hK
      have d3 := hd 3 (by kernel_rfl)
      have HPW := hid (HRG.out W (E1.out.next (EO.out.next (sg_undrew hE))))
      dsimp only at hK ⊢
      rw [d3] at hK ⊢
      have HK := hid hK;have HE := hid hE
      clear hK hd hE d3
      go_wp2_with ((refine wpList_midw (by rfl) 68 (.tmp 50) rfl g (p + t * 3) rfl [.int .i64 s,.int .i64 q,.int .i64 z] HPW.out Tryz.underlying68 rfl (info_id.trans rfl) ?_))
      exact K_at (HK.out (.agg #[.int .i64 s,.int .i64 q,.int .i64 z]) W (fun _ _ => rfl) (Ext.refl W)) (by kernel_rfl)
     ·intro us W K hE hd hK
      have d4 := hd 4 (by kernel_rfl)
      dsimp only at hK ⊢
      rw [d4] at hK ⊢
      have HK := hid hK;have HE := hid hE
      clear hK hd hE d4
      go_wp2_with ((go_at_call 95;(with_reducible refine (HVD.out W).mono ?_);rintro e w7 ⟨rfl,hB7⟩))
      exact K_at (HK.out (.bool true) w7 (fun _ _ => rfl) hB7) (by kernel_rfl)
     ·intro us W K hE hd hK
      have d5 := hd 5 (by kernel_rfl)
      dsimp only at hK ⊢
      rw [d5] at hK ⊢
      have HK := hid hK;have HE := hid hE
      clear hK hd hE d5
      go_wp2_with fail
      exact K_at (HK.out (.bool false) W (fun _ _ => rfl) (Ext.refl W)) (by kernel_rfl)
     ·intro us W K hE hd hK
      have d6 := hd 6 (by kernel_rfl)
      dsimp only at hK ⊢
      rw [d6] at hK ⊢
      have HK := hid hK;have HE := hid hE
      clear hK hd hE d6
      go_wp2_with fail
      exact K_at (HK.out (.bool false) W (fun _ _ => rfl) (Ext.refl W)) (by kernel_rfl)
     ·intro us W K hE hd hK
      have d7 := hd 7 (by kernel_rfl)
      dsimp only at hK ⊢
      rw [d7] at hK ⊢
      have HK := hid hK;have HE := hid hE
      clear hK hd hE d7
      go_wp2_with fail
      exact K_at (HK.out (.int .i64 (t : Int)) W (fun _ _ => rfl) (Ext.refl W)) (by kernel_rfl)
     ·intro us W K hE hd hK
      have d7 := hd 7 (by kernel_rfl)
      have d8 := hd 8 (by kernel_rfl)
      dsimp only at hK ⊢
      rw [d7,d8] at hK ⊢
      have HK := hid hK;have HE := hid hE
      clear hK hd hE d7 d8
      go_wp2_with fail
      exact K_at (HK.out (.bool (decide (0 < t))) W (fun _ _ => by rw [HTZ.out]) (Ext.refl W)) (by kernel_rfl)
     ·intro us W K hE hd hK
      have d7 := hd 7 (by kernel_rfl)
      have d9 := hd 9 (by kernel_rfl)
      dsimp only at hK ⊢
      rw [d7,d9] at hK ⊢
      have HK := hid hK;have HE := hid hE
      clear hK hd hE d7 d9
      go_wp2_with fail
      exact K_at (HK.out (.bool true) W (fun _ _ => rfl) (Ext.refl W)) (by kernel_rfl)
     ·intro us W K hE hd hK
      have d10 := hd 10 (by kernel_rfl)
      dsimp only at hK ⊢
      rw [d10] at hK ⊢
      have HK := hid hK;have HE := hid hE
      clear hK hd hE d10
      go_wp2_with fail
      exact K_at (HK.out (.pointer (some ⟨w.heap.size,4,none⟩)) W (fun _ _ => rfl) (Ext.refl W)) (by kernel_rfl)
     ·intro us W K hE hd hK
      have d10 := hd 10 (by kernel_rfl)
      have d11 := hd 11 (by kernel_rfl)
      have xk : W.cell? ⟨w.heap.size,4,none⟩ = some (.slice (some ⟨g,p,none⟩) n c) := (BR.out.ext (EO.out.next (sg_undrew hE))).cell 4
      dsimp only at hK ⊢
      rw [d10,d11] at hK ⊢
      have HK := hid hK;have HE := hid hE
      clear hK hd hE d10 d11
      go_wp2_with fail
      exact K_at (HK.out (.slice (some ⟨g,p,none⟩) n c) W (fun _ _ => rfl) (Ext.refl W)) (by kernel_rfl)
     ·intro us W K hE hd hK
      have d10 := hd 10 (by kernel_rfl)
      dsimp only at hK ⊢
      rw [d10] at hK ⊢
      have HK := hid hK;have HE := hid hE
      clear hK hd hE d10
      go_wp2_with fail
      exact K_at (HK.out (.int .i64 (t : Int)) W (fun _ _ => rfl) (Ext.refl W)) (by kernel_rfl)
     ·intro us W K hE hd hK
      have d10 := hd 10 (by kernel_rfl)
      have d13 := hd 13 (by kernel_rfl)
      dsimp only at hK ⊢
      rw [d10,d13] at hK ⊢
      have HK := hid hK;have HE := hid hE
      clear hK hd hE d10 d13
      go_wp2_with fail
      exact K_at (HK.out (.int .i64 ((t : Int) - 1)) W (fun _ _ => rfl) (Ext.refl W)) (by kernel_rfl)
     ·intro us W K hE hd hK
      have d10 := hd 10 (by kernel_rfl)
      have d12 := hd 12 (by kernel_rfl)
      have d14 := hd 14 (by kernel_rfl)
      dsimp only at hK ⊢
      rw [d10,d12,d14] at hK ⊢
      have HK := hid hK;have HE := hid hE
      clear hK hd hE d10 d12 d14
      go_wp2_with fail
      exact K_at (HK.out (.pointer (some ⟨g,p + u * 3,none⟩)) W (fun _ _ => rfl) (Ext.refl W)) (by kernel_rfl)
     ·intro us W K hE hd hK
      have d10 := hd 10 (by kernel_rfl)
      have d15 := hd 15 (by kernel_rfl)
      have HPW := hid (HPR.out W (E1.out.next (EO.out.next (sg_undrew hE))))
      dsimp only at hK ⊢
      rw [d10,d15] at hK ⊢
      have HK := hid hK;have HE := hid hE
      clear hK hd hE d10 d15
      go_wp2_with ((refine wpList_midw (by rfl) 68 (.tmp 62) rfl g (p + u * 3) rfl [.int .i64 s1,.int .i64 q1,.int .i64 z1] HPW.out Tryz.underlying68 rfl (info_id.trans rfl) ?_))
      exact K_at (HK.out (.agg #[.int .i64 s1,.int .i64 q1,.int .i64 z1]) W (fun _ _ => rfl) (Ext.refl W)) (by kernel_rfl)
     ·intro us W K hE hd hK
      have d10 := hd 10 (by kernel_rfl)
      dsimp only at hK ⊢
      rw [d10] at hK ⊢
      have HK := hid hK;have HE := hid hE
      clear hK hd hE d10
      go_wp2_with fail
      exact K_at (HK.out (.pointer (some ⟨w.heap.size,4,none⟩)) W (fun _ _ => rfl) (Ext.refl W)) (by kernel_rfl)
     ·intro us W K hE hd hK
      have d10 := hd 10 (by kernel_rfl)
      have d17 := hd 17 (by kernel_rfl)
      have xk : W.cell? ⟨w.heap.size,4,none⟩ = some (.slice (some ⟨g,p,none⟩) n c) := (BR.out.ext (EO.out.next (sg_undrew hE))).cell 4
      dsimp only at hK ⊢
      rw [d10,d17] at hK ⊢
      have HK := hid hK;have HE := hid hE
      clear hK hd hE d10 d17
      go_wp2_with fail
      exact K_at (HK.out (.slice (some ⟨g,p,none⟩) n c) W (fun _ _ => rfl) (Ext.refl W)) (by kernel_rfl)
     ·intro us W K hE hd hK
      have d10 := hd 10 (by kernel_rfl)
      dsimp only at hK ⊢
      rw [d10] at hK ⊢
      have HK := hid hK;have HE := hid hE
      clear hK hd hE d10
      go_wp2_with fail
      exact K_at (HK.out (.int .i64 (t : Int)) W (fun _ _ => rfl) (Ext.refl W)) (by kernel_rfl)
     ·intro us W K hE hd hK
      have d10 := hd 10 (by kernel_rfl)
      have d18 := hd 18 (by kernel_rfl)
      have d19 := hd 19 (by kernel_rfl)
      dsimp only at hK ⊢
      rw [d10,d18,d19] at hK ⊢
      have HK := hid hK;have HE := hid hE
      clear hK hd hE d10 d18 d19
      go_wp2_with fail
      exact K_at (HK.out (.pointer (some ⟨g,p + t * 3,none⟩)) W (fun _ _ => rfl) (Ext.refl W)) (by kernel_rfl)
     ·intro us W K hE hd hK
      have d10 := hd 10 (by kernel_rfl)
      have d20 := hd 20 (by kernel_rfl)
      have HPW := hid (HRG.out W (E1.out.next (EO.out.next (sg_undrew hE))))
      dsimp only at hK ⊢
      rw [d10,d20] at hK ⊢
      have HK := hid hK;have HE := hid hE
      clear hK hd hE d10 d20
      go_wp2_with ((refine wpList_midw (by rfl) 68 (.tmp 67) rfl g (p + t * 3) rfl [.int .i64 s,.int .i64 q,.int .i64 z] HPW.out Tryz.underlying68 rfl (info_id.trans rfl) ?_))
      exact K_at (HK.out (.agg #[.int .i64 s,.int .i64 q,.int .i64 z]) W (fun _ _ => rfl) (Ext.refl W)) (by kernel_rfl)
     ·intro us W K hE hd hK
      have d10 := hd 10 (by kernel_rfl)
      have d16 := hd 16 (by kernel_rfl)
      have d21 := hd 21 (by kernel_rfl)
      dsimp only at hK ⊢
      rw [d10,d16,d21] at hK ⊢
      have HK := hid hK;have HE := hid hE
      clear hK hd hE d10 d16 d21
      go_wp2_with ((go_at_call 64;(with_reducible refine (HLS.out W).mono ?_);rintro e w7 ⟨rfl,hB7⟩))
      exact K_at (HK.out (.bool lb) w7 (fun _ _ => rfl) hB7) (by kernel_rfl)
     ·intro us W K hE hd hK
      have d10 := hd 10 (by kernel_rfl)
      have d22 := hd 22 (by kernel_rfl)
      dsimp only at hK ⊢
      rw [d10,d22] at hK ⊢
      have HK := hid hK;have HE := hid hE
      clear hK hd hE d10 d22
      go_wp2_with fail
      exact K_at (HK.out (.bool (!lb)) W (fun _ _ => rfl) (Ext.refl W)) (by kernel_rfl)
     ·intro us W K hE hd hK
      have d7 := hd 7 (by kernel_rfl)
      have d10 := hd 10 (by kernel_rfl)
      have d23 := hd 23 (by kernel_rfl)
      dsimp only at hK ⊢
      rw [d7,d10,d23] at hK ⊢
      have HK := hid hK;have HE := hid hE
      clear hK hd hE d7 d10 d23
      go_wp2_with fail
      exact K_at (HK.out (.bool (!lb)) W (fun _ _ => rfl) (Ext.refl W)) (by kernel_rfl)
    ·intro us W hE hd
     try dsimp only
     have d7 := hd 7 (by decide)
     have d24 := hd 24 (by decide)
     simp only [List.drop_succ_cons,List.drop_zero]
     rw [d7,d24]
     have EW1 := hid (EO.out.next (sg_undrew hE))
     have EW := hid (E1.out.next EW1.out)
     clear hd hE d7 d24
     cases lb
     ·have HBF := hid (HB0.out rfl)
      have hv := hid (HBAD.out (by rw [HGD.out];exact HBF.out))
      go_wp2_with fail
      go_ret
      exact ⟨by rw [hv.out];rfl,EW.out⟩
     ·have HBF := hid (HB1.out rfl)
      have hgo := hid (HGO.out (by rw [HGD.out];exact HBF.out))
      go_wp2_with fail
      exact ⟨⟨t + 1,by omega,by go_num,EW1.out,hgo.out⟩,by simp [intOf];omega⟩
  ·obtain rfl : t = n := by omega
   have hv := hid (HVG.out (okB_of (fun j hj => HZ.out j (by rw [HLN.out] at hj;exact hj))))
   go_wp2_with fail
   go_ret
   exact ⟨by rw [hv.out];rfl,E1.out.next EO.out⟩
end Go.Proofs.YtjeecfjeooehhaaGreatDoor
