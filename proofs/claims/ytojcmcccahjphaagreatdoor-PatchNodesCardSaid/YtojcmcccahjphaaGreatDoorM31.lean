/- The reference of package patch: the message of a patch without needs. Conditions: PatV, PatW. -/
import Derived.Test.YtojcmcccahjphaaGreatDoorM16
import Derived.Test.YtojcmcccahjphaaGreatDoorM30
import Derived.Test.YtojcmcccahjphaaGreatDoorM18
import Derived.Test.YtojcmcccahjphaaGreatDoorM27
set_option linter.unusedSimpArgs false
set_option linter.unusedVariables false
set_option maxHeartbeats 16000000
set_option maxRecDepth 100000
set_option maxRecDepth 100000
set_option maxHeartbeats 16000000
namespace Go.Proofs.YtojcmcccahjphaaGreatDoor
open Go.RowKit
open Lib (hid)
attribute [local go_sem ↓] wp_at_zero wp_at_succ
theorem rpmessage_any (p : PatA) (cs : List Value) (w : World) (hp : PatV w p cs) (hw : PatW p) (hn : p.needs = []) : Calls Tryz.prog 15 #[.agg cs.toArray] w fun e w' => (∃ A c,e = .returned (.slice A (msgP p).length c) ∧ Rd w' w'.heap.size A (msgP p).length (u8s (msgP p)) ∧ (msgP p).length ≤ c ∧ c ≤ maxLen) ∧ Ext w w' := by
 obtain ⟨X,A,n,c,B,m,d,rfl,hS⟩ := hp
 have HEN : Hid (∀ W,Ext w W → Calls Tryz.prog 39 #[.agg #[.int .i64 p.shop,.int .i64 p.seq,.int .i64 p.day,.slice A n c,.int .i64 p.clause,.slice B m d,.string { data := #[] }]] W fun e w' => (∃ A' k c',e = .returned (.slice A' k c') ∧ k = (msgP p).length ∧ Rd w' w'.heap.size A' k (u8s (msgP p)) ∧ k ≤ c' ∧ c' ≤ maxLen) ∧ Ext W w') := hid (fun W hW => (rpbytes_any (barP p) _ W ⟨X,A,n,c,B,m,d,rfl,barP_S (hS.ext hW)⟩ (barP_W hw) hn).mono fun e w' hq => by
  obtain ⟨⟨A',c',he,ho⟩,hE⟩ := hq
  exact ⟨⟨A',_,c',he,rfl,Rd.of_own ho,slice_cap ho⟩,hE⟩)
 clear hS hw
 obtain ⟨M,hM⟩ : ∃ M,M = msgP p := ⟨_,rfl⟩
 rw [← hM] at HEN ⊢
 clear hM
 obtain ⟨shop,seq,day,needs,clause,ops,sl⟩ := p
 dsimp only at HEN
 unfold patCl
 dsimp only
 go_enter Tryz.func15,Tryz.ntmps15
 go_upto_region 1 with fail
 obtain ⟨w1,hw1⟩ : ∃ x,x = w.alloc (.cells #[.int .i64 shop,.int .i64 seq,.int .i64 day,.slice A n c,.int .i64 clause,.slice B m d,.string sl] 37) := ⟨_,rfl⟩
 change Code.wp _ _ _ _ (w.alloc (.cells #[.int .i64 shop,.int .i64 seq,.int .i64 day,.slice A n c,.int .i64 clause,.slice B m d,.string sl] 37))
 rw [← hw1]
 have E1 : Hid (Ext w w1) := hid (by rw [hw1];exact (Ext.refl w).alloc _)
 have B1 : Hid (Blk w1 w.heap.size 37 [.int .i64 shop,.int .i64 seq,.int .i64 day,.slice A n c,.int .i64 clause,.slice B m d,.string sl]) := hid (by rw [hw1];exact Blk.fresh' _ _ _ _ _ rfl rfl)
 clear hw1
 have fz := B1.out.frozen 6
 have cd : w1.cell? ⟨w.heap.size,6,none⟩ = some (.string sl) := B1.out.cell 6
 go_upto_region 2 with fail
 obtain ⟨w2,hw2⟩ : ∃ x,x = w1.setCell ⟨w.heap.size,6,none⟩ (.string { data := #[] }) := ⟨_,rfl⟩
 change Code.wp _ _ _ _ (w1.setCell ⟨w.heap.size,6,none⟩ (.string { data := #[] }))
 rw [← hw2]
 have B2 : Hid (Blk w2 w.heap.size 37 [.int .i64 shop,.int .i64 seq,.int .i64 day,.slice A n c,.int .i64 clause,.slice B m d,.string { data := #[] }]) := hid (by rw [hw2];exact B1.out.set 6 _)
 have E2 : Hid (Ext w w2) := hid (by rw [hw2];exact E1.out.setCell (p := ⟨w.heap.size,6,none⟩) (Nat.le_refl _) _)
 clear hw2 fz cd
 go_wp2_with (first
  | (refine wpList_load_blk rfl 37 (.tmp 1) rfl w.heap.size (by kernel_rfl) B2.out Tryz.underlying37 rfl (pat_info.trans rfl) ?_)
  | (go_at_call 39;(with_reducible refine (HEN.out w2 E2.out).mono ?_);rintro e w3 ⟨⟨A3,k3,c3,rfl,hk3,hr3,hc3⟩,hE3⟩;have HK3 := hid hk3;have R3 := hid hr3;have C3 := hid hc3;have E3 : Hid (Ext w w3) := hid (E2.out.next hE3);clear hE3 hr3 hk3 hc3))
 go_ret
 rw [← HK3.out]
 exact ⟨⟨A3,c3,rfl,R3.out,C3.out⟩,E3.out⟩
end Go.Proofs.YtojcmcccahjphaaGreatDoor
/- The reference of package patch: valid patches that need no other. Conditions: PatV, PatW. -/
set_option maxRecDepth 100000
set_option maxHeartbeats 16000000
namespace Go.Proofs.YtojcmcccahjphaaGreatDoor
open Go.RowKit
open Lib (hid)
attribute [local go_sem ↓] wp_at_zero wp_at_succ
theorem hdB_le (p : PatA) : hdB p = !(decide (p.shop < 0) || (decide (7 < p.shop) || (decide (p.seq < 1) || (decide (16 < p.seq) || (decide (p.day < 1) || (decide (1048576 < p.day) || (decide (p.clause < 0) || decide (255 < p.clause)))))))) := by
 have hw : ∀ a lo hi : Int,winB a lo hi = !(decide (a < lo) || decide (hi < a)) := fun a lo hi => by
  unfold winB
  by_cases h1 : lo ≤ a <;> by_cases h2 : a ≤ hi <;> simp [h1,h2] <;> omega
 unfold hdB rnumB
 rw [hw,hw,hw,hw]
 simp only [← Bool.not_or,Bool.or_assoc]
theorem rpvalidE_any (p : PatA) (cs : List Value) (w : World) (hp : PatV w p cs) (hw : PatW p) (hn : p.needs = []) : Calls Tryz.prog 6 #[.agg cs.toArray] w fun e w' => e = .returned (.int .i64 (validP p)) ∧ Ext w w' := by
 have hp2 := hp
 obtain ⟨X,A,n,c,B,m,d,rfl,hS⟩ := hp
 have HMS : Hid (∀ W,Ext w W → Calls Tryz.prog 15 #[.agg (patCl p (.slice A n c) (.slice B m d)).toArray] W fun e w' => (∃ A c,e = .returned (.slice A (msgP p).length c)) ∧ Ext W w') := hid (fun W hW => (rpmessage_any p _ W (hp2.ext hW) hw hn).mono fun e w' ⟨⟨A',c',h1,_⟩,h2⟩ => ⟨⟨A',c',h1⟩,h2⟩)
 obtain ⟨b0,hb0⟩ : ∃ b,b = hdB p := ⟨_,rfl⟩
 obtain ⟨ml,hml⟩ : ∃ k,k = (msgP p).length := ⟨_,rfl⟩
 obtain ⟨V,hV⟩ : ∃ v,v = validP p := ⟨_,rfl⟩
 have HLM : Hid (p.ops.length = m) := hid hS.len.2.2
 have HVV : Hid (V = if b0 = false then 5 else if 32 < m then 4 else if m = 0 then 1 else if p.ops.all operB = false then 1 else if 6800 < ml then 4 else 0) := hid (by rw [hV,hb0,hml,← HLM.out];rfl)
 rw [← hml] at HMS
 rw [← hV]
 have HOX : Hid (∀ q : Nat,q < m → ∃ (b o : Nat) (x : OX),B = some ⟨b,o,none⟩ ∧ p.ops[q]? = some x.o ∧ x.cs.length = 28 ∧ (∀ v ∈ x.cs,v.oneCell' = true) ∧ (∀ W,Ext w W → W.rangeAt b (o + q * 28) x.cs) ∧ (∀ W,Ext w W → Calls Tryz.prog 14 #[.agg x.cs.toArray] W fun e w' => e = .returned (.bool (operB x.o)) ∧ Ext W w')) := hid (fun q hq => by
  have hl := hS.len
  obtain ⟨b,o,hA,hb,hc⟩ := hS.ops.2 (by omega)
  have hx : X[q]? = some (X[q]'(by omega)) := List.getElem?_eq_getElem _
  have hm : X[q]'(by omega) ∈ X := List.getElem_mem _
  have ho : p.ops[q]? = some (X[q]'(by omega)).o := by
   have h := congrArg (fun l => l[q]?) hS.same
   try dsimp only at h
   rw [List.getElem?_map,hx] at h
   exact h.symm
  refine ⟨b,o,_,hA,ho,(hS.each _ hm).len,(hS.each _ hm).one,fun W hW j v hv => ?_,fun W hW => by rw [← ropB_eq];exact rvop_any _ _ W ((hS.each _ hm).ext hW)⟩
  have hj : j < 28 := by
   have h1 := (List.getElem?_eq_some_iff.1 hv).1
   rw [(hS.each _ hm).len] at h1
   exact h1
  rw [Nat.add_assoc]
  exact (hW.cell (p := ⟨b,o + (q * 28 + j),none⟩) hb).trans (hc (q * 28 + j) v ((flatK_at oxC 28 X (fun y hy => (hS.each y hy).len) q _ hx j hj).trans hv)))
 obtain rfl : n = 0 := by have h := hS.len.1;rw [hn] at h;exact h.symm
 have hmf : m ≤ 1000000 := hS.ofew
 have hmd : m ≤ d := hS.ole
 have HB0 : Hid (b0 = !(decide (p.shop < 0) || (decide (7 < p.shop) || (decide (p.seq < 1) || (decide (16 < p.seq) || (decide (p.day < 1) || (decide (1048576 < p.day) || (decide (p.clause < 0) || decide (255 < p.clause))))))))) := hid (by rw [hb0];exact hdB_le p)
 clear hp2 hS hw hV hml hb0 hn
 obtain ⟨shop,seq,day,needs,clause,ops,sl⟩ := p
 dsimp only at HVV HLM HOX HMS HB0
 unfold patCl at HMS ⊢
 dsimp only at HMS ⊢
 go_enter Tryz.func6,Tryz.ntmps6
 go_upto_region 1 with fail
 obtain ⟨w1,hw1⟩ : ∃ x,x = w.alloc (.cells #[.int .i64 shop,.int .i64 seq,.int .i64 day,.slice A 0 c,.int .i64 clause,.slice B m d,.string sl] 37) := ⟨_,rfl⟩
 change Code.wp _ _ _ _ (w.alloc (.cells #[.int .i64 shop,.int .i64 seq,.int .i64 day,.slice A 0 c,.int .i64 clause,.slice B m d,.string sl] 37))
 rw [← hw1]
 have E1 : Hid (Ext w w1) := hid (by rw [hw1];exact (Ext.refl w).alloc _)
 have B1 : Hid (Blk w1 w.heap.size 37 [.int .i64 shop,.int .i64 seq,.int .i64 day,.slice A 0 c,.int .i64 clause,.slice B m d,.string sl]) := hid (by rw [hw1];exact Blk.fresh' _ _ _ _ _ rfl rfl)
 clear hw1
 have c0 : w1.cell? ⟨w.heap.size,0,none⟩ = some (.int .i64 shop) := B1.out.cell 0
 have c1 : w1.cell? ⟨w.heap.size,1,none⟩ = some (.int .i64 seq) := B1.out.cell 1
 have c2 : w1.cell? ⟨w.heap.size,2,none⟩ = some (.int .i64 day) := B1.out.cell 2
 have c3 : w1.cell? ⟨w.heap.size,3,none⟩ = some (.slice A 0 c) := B1.out.cell 3
 have c4 : w1.cell? ⟨w.heap.size,4,none⟩ = some (.int .i64 clause) := B1.out.cell 4
 have c5 : w1.cell? ⟨w.heap.size,5,none⟩ = some (.slice B m d) := B1.out.cell 5
 go_cut [43] from 6 to 42 (fun s43 wx => s43 = .bool (!b0) ∧ w1 = wx)
 case first =>
  clear HVV HOX HMS HLM
  rcases Classical.em (shop < 0) with h1 | h1
  ·have dZ : decide (shop < 0) = true := decide_eq_true h1
   rw [dZ] at HB0
   clear h1
   have HQ : Hid (b0 = false) := hid (by rw [HB0.out];rfl)
   go_wp2_with fail
   go_meet
   exact ⟨by rw [HQ.out];rfl,rfl⟩
  have dZ : decide (shop < 0) = false := decide_eq_false h1
  rw [dZ] at HB0
  clear h1
  rcases Classical.em (7 < shop) with h1 | h1
  ·have dZ : decide (7 < shop) = true := decide_eq_true h1
   rw [dZ] at HB0
   clear h1
   have HQ : Hid (b0 = false) := hid (by rw [HB0.out];rfl)
   go_wp2_with fail
   go_meet
   exact ⟨by rw [HQ.out];rfl,rfl⟩
  have dZ : decide (7 < shop) = false := decide_eq_false h1
  rw [dZ] at HB0
  clear h1
  rcases Classical.em (seq < 1) with h1 | h1
  ·have dZ : decide (seq < 1) = true := decide_eq_true h1
   rw [dZ] at HB0
   clear h1
   have HQ : Hid (b0 = false) := hid (by rw [HB0.out];rfl)
   go_wp2_with fail
   go_meet
   exact ⟨by rw [HQ.out];rfl,rfl⟩
  have dZ : decide (seq < 1) = false := decide_eq_false h1
  rw [dZ] at HB0
  clear h1
  rcases Classical.em (16 < seq) with h1 | h1
  ·have dZ : decide (16 < seq) = true := decide_eq_true h1
   rw [dZ] at HB0
   clear h1
   have HQ : Hid (b0 = false) := hid (by rw [HB0.out];rfl)
   go_wp2_with fail
   go_meet
   exact ⟨by rw [HQ.out];rfl,rfl⟩
  have dZ : decide (16 < seq) = false := decide_eq_false h1
  rw [dZ] at HB0
  clear h1
  rcases Classical.em (day < 1) with h1 | h1
  ·have dZ : decide (day < 1) = true := decide_eq_true h1
   rw [dZ] at HB0
   clear h1
   have HQ : Hid (b0 = false) := hid (by rw [HB0.out];rfl)
   go_wp2_with fail
   go_meet
   exact ⟨by rw [HQ.out];rfl,rfl⟩
  have dZ : decide (day < 1) = false := decide_eq_false h1
  rw [dZ] at HB0
  clear h1
  rcases Classical.em (1048576 < day) with h1 | h1
  ·have dZ : decide (1048576 < day) = true := decide_eq_true h1
   rw [dZ] at HB0
   clear h1
   have HQ : Hid (b0 = false) := hid (by rw [HB0.out];rfl)
   go_wp2_with fail
   go_meet
   exact ⟨by rw [HQ.out];rfl,rfl⟩
  have dZ : decide (1048576 < day) = false := decide_eq_false h1
  rw [dZ] at HB0
  clear h1
  rcases Classical.em (clause < 0) with h1 | h1
  ·have dZ : decide (clause < 0) = true := decide_eq_true h1
   rw [dZ] at HB0
   clear h1
   have HQ : Hid (b0 = false) := hid (by rw [HB0.out];rfl)
   go_wp2_with fail
   go_meet
   exact ⟨by rw [HQ.out];rfl,rfl⟩
  have dZ : decide (clause < 0) = false := decide_eq_false h1
  rw [dZ] at HB0
  clear h1
  rcases Classical.em (255 < clause) with h1 | h1
  ·have dZ : decide (255 < clause) = true := decide_eq_true h1
   rw [dZ] at HB0
   clear h1
   have HQ : Hid (b0 = false) := hid (by rw [HB0.out];rfl)
   go_wp2_with fail
   go_meet
   exact ⟨by rw [HQ.out];rfl,rfl⟩
  have dZ : decide (255 < clause) = false := decide_eq_false h1
  rw [dZ] at HB0
  clear h1
  have HQ : Hid (b0 = true) := hid (by rw [HB0.out];rfl)
  go_wp2_with fail
  go_meet
  exact ⟨by rw [HQ.out];rfl,rfl⟩
 case rest =>
 obtain ⟨rfl,rfl⟩ := hcut
 clear c0 c1 c2 c4 HB0
 cases b0
 case false =>
  have HQ : Hid (V = 5) := hid (by rw [HVV.out];rfl)
  go_wp2_with fail
  go_ret
  exact ⟨by rw [HQ.out];rfl,E1.out⟩
 have HV1 : Hid (V = if 32 < m then 4 else if m = 0 then 1 else if ops.all operB = false then 1 else if 6800 < ml then 4 else 0) := hid (by rw [HVV.out];rfl)
 by_cases hm32 : 32 < m
 ·have HQ : Hid (V = 4) := hid (by rw [HV1.out,if_pos hm32])
  have h1 : decide ((32 : Int) < (m : Int)) = true := decide_eq_true (by omega)
  have h2 : decide (32 < m) = true := decide_eq_true hm32
  clear hm32
  go_wp2_with fail
  go_ret
  exact ⟨by rw [HQ.out];rfl,E1.out⟩
 have HV2 : Hid (V = if m = 0 then 1 else if ops.all operB = false then 1 else if 6800 < ml then 4 else 0) := hid (by rw [HV1.out,if_neg hm32])
 have h1 : decide ((32 : Int) < (m : Int)) = false := decide_eq_false (by omega)
 have h2 : decide (32 < m) = false := decide_eq_false hm32
 clear hm32 HV1 HVV
 by_cases hm0 : m = 0
 ·have HQ : Hid (V = 1) := hid (by rw [HV2.out,if_pos hm0])
  subst hm0
  go_wp2_with fail
  go_ret
  exact ⟨by rw [HQ.out];rfl,E1.out⟩
 have HV3 : Hid (V = if ops.all operB = false then 1 else if 6800 < ml then 4 else 0) := hid (by rw [HV2.out,if_neg hm0])
 have h3 : ((m : Int) == 0) = false := by rw [beq_eq_false_iff_ne];omega
 have h4 : (m == 0) = false := by rw [beq_eq_false_iff_ne];exact hm0
 clear HV2
 go_upto_region 7 with fail
 clear h1 h2 h3 h4
 go_wp2_with fail
 go_loopw [3,4] (fun i3 _ wr => i3 = .int .i64 0 ∧ w1 = wr) (fun _ _ _ => 0)
 case atStart => exact ⟨rfl,rfl⟩
 case round =>
  obtain ⟨rfl,rfl⟩ := hrel
  go_wp2_with fail
  go_loopw [5] (fun s5 wr => ∃ q : Nat,q ≤ m ∧ s5 = .int .i64 (q : Int) ∧ Hid (∀ j x,j < q → ops[j]? = some x → operB x = true) ∧ Ext w1 wr) (fun s5 _ => m - (intOf s5).toNat)
  case atStart => exact ⟨0,Nat.zero_le _,rfl,hid (fun j x h => absurd h (Nat.not_lt_zero _)),Ext.refl _⟩
  case round =>
   obtain ⟨q,hq,rfl,HALL,hEi⟩ := hrel
   obtain ⟨wi,rfl⟩ : ∃ x : World,x = wr := ⟨_,rfl⟩
   have EI := hid hEi
   clear hEi c3 c5
   have c5 : wi.cell? ⟨w.heap.size,5,none⟩ = some (.slice B m d) := (B1.out.ext EI.out).cell 5
   by_cases hlt : q < m
   ·obtain ⟨b,o,⟨x,ds⟩,hB,hget,hl,hone,hrg,hcl⟩ := HOX.out q hlt
    subst hB
    dsimp only at hget hl hone hrg hcl
    have HRG := hid (hrg wi (E1.out.next EI.out))
    have HL := hid hl;have HCL := hid hcl;have HGET := hid hget
    obtain ⟨ob,hob⟩ : ∃ v,v = operB x := ⟨_,rfl⟩
    rw [← hob] at HCL
    have HOB := hid hob
    clear hget hl hone hrg hcl hob
    cases ob
    ·have HQ : Hid (V = 1) := hid (by rw [HV3.out,if_pos (all_not operB ops q x HGET.out HOB.out.symm)])
     go_wp2_with (first
      | ((with_reducible refine wpList_load_row 33 b (o + q * 28) ds HRG.out Tryz.underlying33 rfl (op_info.trans (congrArg some HL.out.symm)) ?_ ?_ ?_);kernel_rfl;rfl)
      | (go_at_call 14;(with_reducible refine (HCL.out wi (E1.out.next EI.out)).mono ?_);rintro e w6 ⟨rfl,hE6⟩;have E6 : Hid (Ext w w6) := hid ((E1.out.next EI.out).next hE6);clear hE6))
     go_ret
     exact ⟨by rw [HQ.out];rfl,E6.out⟩
    ·go_wp2_with (first
      | ((with_reducible refine wpList_load_row 33 b (o + q * 28) ds HRG.out Tryz.underlying33 rfl (op_info.trans (congrArg some HL.out.symm)) ?_ ?_ ?_);kernel_rfl;rfl)
      | (go_at_call 14;(with_reducible refine (HCL.out wi (E1.out.next EI.out)).mono ?_);rintro e w6 ⟨rfl,hE6⟩;have E6 : Hid (Ext w1 w6) := hid (EI.out.next hE6);clear hE6))
     go_roundw
     case rel => exact ⟨_,_,_,_,_,_,_,_,_,_,_,_,_,_,_,_,⟨q + 1,by omega,by go_num,hid (fun j y hj hy => by
      rcases Nat.lt_or_ge j q with h | h
      ·exact HALL.out j y h hy
      ·obtain rfl : j = q := by omega
       rw [HGET.out] at hy
       rw [← Option.some.inj hy]
       exact HOB.out.symm),E6.out⟩,rfl⟩
     case measure => simp [intOf];omega
   ·obtain rfl : q = m := by omega
    have HV4 : Hid (V = if 6800 < ml then 4 else 0) := hid (by
     have h : ops.all operB = true := all_upto operB ops (fun j x hx => HALL.out j x (by have h1 := (List.getElem?_eq_some_iff.1 hx).1;rw [HLM.out] at h1;exact h1) hx)
     rw [HV3.out,h];rfl)
    have BI := hid (B1.out.ext EI.out)
    have EWI := hid (E1.out.next EI.out)
    by_cases h68 : 6800 < ml
    ·have HQ : Hid (V = 4) := hid (by rw [HV4.out,if_pos h68])
     have h1 : decide ((6800 : Int) < (ml : Int)) = true := decide_eq_true (by omega)
     have h2 : decide (6800 < ml) = true := decide_eq_true h68
     clear h68
     go_wp2_with (first
      | (refine wpList_load_blk rfl 37 (.tmp 1) rfl w.heap.size (by kernel_rfl) BI.out Tryz.underlying37 rfl (pat_info.trans rfl) ?_)
      | (go_at_call 15;(with_reducible refine (HMS.out wi EWI.out).mono ?_);rintro e w6 ⟨⟨A6,c6,rfl⟩,hE6⟩;have E6 : Hid (Ext w w6) := hid (EWI.out.next hE6);clear hE6))
     go_ret
     exact ⟨by rw [HQ.out];rfl,E6.out⟩
    ·have HQ : Hid (V = 0) := hid (by rw [HV4.out,if_neg h68])
     have h1 : decide ((6800 : Int) < (ml : Int)) = false := decide_eq_false (by omega)
     have h2 : decide (6800 < ml) = false := decide_eq_false h68
     clear h68
     go_wp2_with (first
      | (refine wpList_load_blk rfl 37 (.tmp 1) rfl w.heap.size (by kernel_rfl) BI.out Tryz.underlying37 rfl (pat_info.trans rfl) ?_)
      | (go_at_call 15;(with_reducible refine (HMS.out wi EWI.out).mono ?_);rintro e w6 ⟨⟨A6,c6,rfl⟩,hE6⟩;have E6 : Hid (Ext w w6) := hid (EWI.out.next hE6);clear hE6))
     go_ret
     exact ⟨by rw [HQ.out];rfl,E6.out⟩
end Go.Proofs.YtojcmcccahjphaaGreatDoor
/- Package patch: Public refuses short seeds; the documented example. Conditions: the tables of package patch. -/
set_option maxRecDepth 100000
set_option maxHeartbeats 16000000
namespace Go.Proofs.YtojcmcccahjphaaGreatDoor
open Go.RowKit
open Lib (hid)
attribute [local go_sem ↓] wp_at_zero wp_at_succ
theorem q_dg_info : (Tryz.prog.info? 56).map (·.size) = some 16 := by kernel_rfl
theorem q_pub_info : (Tryz.prog.info? 58).map (·.size) = some 17 := by kernel_rfl
theorem q_results_tmp {P : Program} {fn : Func} {p u : Tmp} {ty : TypeId} (h : fn.results = #[ResultVar.cell p ty,.tmp u]) (tmps : Array Value) (w : World) (g : Nat) (t : TypeId) (cs : List Value) (d : TypeDesc) (hp : tmps.getD p undef = .pointer (some ⟨g,0,none⟩))
  (hb : Blk w g t cs) (hu : P.underlying ty = some d) (hd : d.isRow = true) (hi : (P.info? ty).map (·.size) = some cs.length) : (results fn tmps).run P w = .ok (.tuple #[.agg cs.toArray,tmps.getD u undef]) w := by
 have hp' : tmps[p]?.getD undef = .pointer (some ⟨g,0,none⟩) := by simpa using hp
 simp [results,h,hp',asAddr,run_loadVar_row w g t ty cs.toArray (0,0) d hb hu (by cases d <;> first | rfl | cases hd) (by rw [hi,List.size_toArray])]
def dig0 : List Value := u8s (List.replicate 16 0)
def pub0 : List Value := dig0 ++ [.int .i64 0]
theorem dig0_one : ∀ v ∈ dig0,v.oneCell' = true := u8s_one _
theorem pub0_one : ∀ v ∈ pub0,v.oneCell' = true := fun v hv => by
 rcases List.mem_append.1 hv with h | h
 ·exact dig0_one v h
 ·rw [List.mem_singleton.1 h];rfl
theorem spublic_short (seed : ByteArray) (h : Int) (w : World) (n : Nat) (hn : n = seed.size) (hs : ¬ (n : Int) = 32) :
  Calls Tryz.prog 42 #[.string seed,.int .i64 h] w fun e w' => e = .returned (.tuple #[.agg dig0.toArray,.int .i64 1]) ∧ Ext w w' := by
 have zz : ∀ W,(zeroValue 56).run Tryz.prog W = .ok (.agg dig0.toArray) W := fun W => by kernel_rfl
 obtain ⟨Z,hZ⟩ : ∃ Z,Z = dig0 := ⟨_,rfl⟩
 have HZL : Hid (Z.length = 16) := hid (by rw [hZ];rfl)
 have HZ1 : Hid (∀ v ∈ Z,v.oneCell' = true) := hid (by rw [hZ];exact dig0_one)
 rw [← hZ] at zz ⊢
 clear hZ
 have HN := hid hn
 rw [hn] at hs
 clear hn
 go_enter Tryz.func42,Tryz.ntmps42
 go_upto_region 1 with fail
 obtain ⟨w2,hw2⟩ : ∃ x,x = w.alloc (.cells Z.toArray 56) := ⟨_,rfl⟩
 change Code.wp _ _ _ _ (w.alloc (.cells Z.toArray 56))
 rw [← hw2]
 have E2 : Hid (Ext w w2) := hid (by rw [hw2];exact (Ext.refl w).alloc _)
 have BZ : Hid (Blk w2 w.heap.size 56 Z) := hid (by rw [hw2];exact Blk.fresh' _ _ _ _ _ rfl rfl)
 clear hw2
 go_wp2_with ((first
  | (refine wpList_store_blk rfl 56 (.tmp 4) (.tmp 14) (by rfl) w.heap.size Z rfl rfl BZ.out (q_dg_info.trans (congrArg some HZL.out.symm)) rfl HZ1.out ?_;intro w9 hw9 hb9)))
 exact bodyPost_ret (q_results_tmp Tryz.results42 _ _ w.heap.size 56 Z _ rfl hb9 Tryz.underlying56 rfl (q_dg_info.trans (congrArg some HZL.out.symm))) rfl ⟨rfl,by rw [hw9.out];exact E2.out.setRow (Nat.le_refl _) _⟩
theorem kpublic_short (seed : ByteArray) (h : Int) (w : World) (hh : h ≤ 4) (n : Nat) (hn : n = seed.size) (hs : ¬ (n : Int) = 32) :
  Calls Tryz.prog 18 #[.agg #[.string seed,.int .i64 h]] w fun e w' => e = .returned (.tuple #[.agg pub0.toArray,.int .i64 1]) ∧ Ext w w' := by
 have zz : ∀ W,(zeroValue 58).run Tryz.prog W = .ok (.agg pub0.toArray) W := fun W => by kernel_rfl
 have z2 : ∀ W,(zeroValue 56).run Tryz.prog W = .ok (.agg dig0.toArray) W := fun W => by kernel_rfl
 obtain ⟨Z,hZ⟩ : ∃ Z,Z = pub0 := ⟨_,rfl⟩
 obtain ⟨D,hD⟩ : ∃ Z,Z = dig0 := ⟨_,rfl⟩
 have HZL : Hid (Z.length = 17) := hid (by rw [hZ];rfl)
 have HZ1 : Hid (∀ v ∈ Z,v.oneCell' = true) := hid (by rw [hZ];exact pub0_one)
 have HDL : Hid (D.length = 16) := hid (by rw [hD];rfl)
 have HD1 : Hid (∀ v ∈ D,v.oneCell' = true) := hid (by rw [hD];exact dig0_one)
 have HSP : Hid (∀ W,Calls Tryz.prog 42 #[.string seed,.int .i64 h] W fun e w' => e = .returned (.tuple #[.agg D.toArray,.int .i64 1]) ∧ Ext W w') := hid (fun W => by rw [hD];exact spublic_short seed h W n hn hs)
 rw [← hZ] at zz ⊢
 rw [← hD] at z2
 have hd4 : decide ((4 : Int) < h) = false := decide_eq_false (by omega)
 clear hZ hD hn hs hh
 go_enter Tryz.func18,Tryz.ntmps18
 go_upto_region 1 with fail
 obtain ⟨w2,hw2⟩ : ∃ x,x = (w.alloc (.cells #[.string seed,.int .i64 h] 62)).alloc (.cells Z.toArray 58) := ⟨_,rfl⟩
 change Code.wp _ _ _ _ ((w.alloc (.cells #[.string seed,.int .i64 h] 62)).alloc (.cells Z.toArray 58))
 rw [← hw2]
 have E2 : Hid (Ext w w2) := hid (by rw [hw2];exact ((Ext.refl w).alloc _).alloc _)
 obtain ⟨g,hg⟩ : ∃ g,g = w.heap.size := ⟨_,rfl⟩
 have BK : Hid (Blk w2 g 62 [.string seed,.int .i64 h]) := hid (by rw [hw2,hg];exact (Blk.fresh' _ _ _ _ _ rfl rfl).alloc _)
 have BZ : Hid (Blk w2 (g + 1) 58 Z) := hid (by rw [hw2,hg];exact Blk.fresh' _ _ _ _ _ rfl (by simp))
 have HG := hid hg
 rw [← hg]
 clear hw2 hg
 have c0 : w2.cell? ⟨g,0,none⟩ = some (.string seed) := BK.out.cell 0
 have c1 : w2.cell? ⟨g,1,none⟩ = some (.int .i64 h) := BK.out.cell 1
 go_wp2_with (first
  | (go_at_call 42;(with_reducible refine (HSP.out w2).mono ?_);rintro e w3 ⟨rfl,hE3⟩;have X3 := hid hE3;clear hE3)
  | (refine wpList_store_freshw rfl 56 (.tmp 4) (.tmp 16) rfl w3.heap.size rfl D D 56 (by kernel_rfl) (by kernel_rfl) (q_dg_info.trans (congrArg some HDL.out.symm)) rfl HD1.out ?_;intro w4 hw4 hE4 hz4;have E4 : Hid (Ext w w4) := hid ((E2.out.next X3.out).next hE4);have BZ4 := hid (BZ.out.ext (X3.out.next hE4));clear hw4 hE4 hz4)
  | (refine wpList_store_blk rfl 58 (.tmp 2) (.tmp 20) (by rfl) (g + 1) Z rfl rfl BZ4.out (q_pub_info.trans (congrArg some HZL.out.symm)) rfl HZ1.out ?_;intro w9 hw9 hb9;have B9 := hid hb9;have W9 := hid hw9;clear hw9 hb9))
 exact bodyPost_ret (q_results_tmp Tryz.results18 _ _ (g + 1) 58 Z _ rfl B9.out Tryz.underlying58 rfl (q_pub_info.trans (congrArg some HZL.out.symm))) rfl ⟨rfl,by rw [W9.out];exact E4.out.setRow (by have := HG.out;omega) _⟩
end Go.Proofs.YtojcmcccahjphaaGreatDoor
