/- The reference of package patch: two operations, and two patches, that read the same are the same. Conditions: OpV, OpW; PatV, PatW. -/
import Derived.Test.YtojcmcccahjphaaGreatDoorM16
import Derived.Test.YtojcmcccahjphaaGreatDoorM4
import Derived.Test.YtojcmcccahjphaaGreatDoorM2
set_option linter.unusedSimpArgs false
set_option linter.unusedVariables false
set_option maxHeartbeats 16000000
set_option maxRecDepth 100000
set_option maxRecDepth 100000
set_option maxHeartbeats 16000000
namespace Go.Proofs.YtojcmcccahjphaaGreatDoor
open Go.RowKit
open Lib (hid)
attribute [local go_sem ↓] wp_at_zero wp_at_succ
theorem rsameop_any (o : OpA) (ca cb : List Value) (w : World) (ha : OpV w o ca) (hb : OpV w o cb) (hw : OpW o) (hl : (encO o).length ≤ 1000000000) : Calls Tryz.prog 44 #[.agg ca.toArray,.agg cb.toArray] w fun e w' => e = .returned (.bool true) ∧ Ext w w' := by
 obtain ⟨ta,na,aA,n,ac,rfl,hS⟩ := ha
 obtain ⟨tb,nb,bA,n',bc,rfl,hR⟩ := hb
 obtain rfl : n' = n := by have h1 := strs_n hS.txt;have h2 := strs_n hR.txt;omega
 obtain ⟨at0,at1,at2,at3,at4,rfl⟩ := list5 ta hS.ty.len
 obtain ⟨bt0,bt1,bt2,bt3,bt4,rfl⟩ := list5 tb hR.ty.len
 obtain ⟨ae0,ae1,ae2,ae3,ae4,ae5,ae6,ae7,ae8,ae9,ae10,ae11,rfl⟩ := list12 na hS.nod.len
 obtain ⟨be0,be1,be2,be3,be4,be5,be6,be7,be8,be9,be10,be11,rfl⟩ := list12 nb hR.nod.len
 have hle : (encT o.ty).length ≤ 1000000000 ∧ (encN o.node).length ≤ 1000000000 := by unfold encO at hl;simp only [List.length_append] at hl;omega
 obtain ⟨ET,hET⟩ : ∃ e,e = encT o.ty := ⟨_,rfl⟩
 obtain ⟨EN,hEN⟩ : ∃ e,e = encN o.node := ⟨_,rfl⟩
 obtain ⟨kt,hkt⟩ : ∃ e,e = ET.length := ⟨_,rfl⟩
 obtain ⟨kn,hkn⟩ : ∃ e,e = EN.length := ⟨_,rfl⟩
 have HTA : Hid (∀ W,Ext w W → Calls Tryz.prog 64 #[.agg #[at0,at1,at2,at3,at4]] W fun e w' => (∃ A c,e = .returned (.slice A kt c) ∧ Rd w' w'.heap.size A kt (u8s ET)) ∧ Ext W w') := hid (fun W hW => by rw [hkt,hET];exact (rtype_any o.ty _ W (hS.ty.ext hW) hw.ty hle.1).mono fun e w' ⟨⟨A,c,h1,h2⟩,h3⟩ => ⟨⟨A,c,h1,Rd.of_own h2⟩,h3⟩)
 have HTB : Hid (∀ W,Ext w W → Calls Tryz.prog 64 #[.agg #[bt0,bt1,bt2,bt3,bt4]] W fun e w' => (∃ A c,e = .returned (.slice A kt c) ∧ Rd w' w'.heap.size A kt (u8s ET)) ∧ Ext W w') := hid (fun W hW => by rw [hkt,hET];exact (rtype_any o.ty _ W (hR.ty.ext hW) hw.ty hle.1).mono fun e w' ⟨⟨A,c,h1,h2⟩,h3⟩ => ⟨⟨A,c,h1,Rd.of_own h2⟩,h3⟩)
 have HNA : Hid (∀ W,Ext w W → Calls Tryz.prog 65 #[.agg #[ae0,ae1,ae2,ae3,ae4,ae5,ae6,ae7,ae8,ae9,ae10,ae11]] W fun e w' => (∃ A c,e = .returned (.slice A kn c) ∧ Rd w' w'.heap.size A kn (u8s EN)) ∧ Ext W w') := hid (fun W hW => by rw [hkn,hEN];exact (rnodeb_any o.node _ W (hS.nod.ext hW) hw.node hle.2).mono fun e w' ⟨⟨A,c,h1,h2⟩,h3⟩ => ⟨⟨A,c,h1,Rd.of_own h2⟩,h3⟩)
 have HNB : Hid (∀ W,Ext w W → Calls Tryz.prog 65 #[.agg #[be0,be1,be2,be3,be4,be5,be6,be7,be8,be9,be10,be11]] W fun e w' => (∃ A c,e = .returned (.slice A kn c) ∧ Rd w' w'.heap.size A kn (u8s EN)) ∧ Ext W w') := hid (fun W hW => by rw [hkn,hEN];exact (rnodeb_any o.node _ W (hR.nod.ext hW) hw.node hle.2).mono fun e w' ⟨⟨A,c,h1,h2⟩,h3⟩ => ⟨⟨A,c,h1,Rd.of_own h2⟩,h3⟩)
 have HST : Hid (∀ W,Ext w W → Calls Tryz.prog 77 #[.slice aA n' ac,.slice bA n' bc] W fun e w' => e = .returned (.bool true) ∧ Ext W w') := hid (fun W hW => (sameTexts_any o.texts o.texts aA bA n' ac n' bc W (hS.txt.ext' hW) (hR.txt.ext' hW) (by have := hS.tfew;omega)).mono fun e w' ⟨h1,h2⟩ => ⟨by rw [h1,decide_eq_true rfl],h2.below _⟩)
 have HSM : Hid (∀ (W : World) (E : List Int) (k : Nat) (A B : Option Addr) (c d : Nat),Rd W W.heap.size A k (u8s E) → Rd W W.heap.size B k (u8s E) → k ≤ 1000000000 → Calls Tryz.prog 21 #[.slice A k c,.slice B k d] W fun e w' => e = .returned (.bool true) ∧ Ext W w') := hid (fun W E k A B c d h1 h2 h3 => (same_any E E A B k c k d W h1 h2 (by omega)).mono fun e w' ⟨h4,h5⟩ => ⟨by rw [h4,decide_eq_true rfl],h5.below _⟩)
 have HKL : Hid (kt ≤ 1000000000 ∧ kn ≤ 1000000000) := hid ⟨by rw [hkt,hET];exact hle.1,by rw [hkn,hEN];exact hle.2⟩
 clear hS hR hw hl hle hET hEN hkt hkn
 obtain ⟨k,⟨s,q,i⟩,⟨s2,q2,i2⟩,N,M,nam,ty,node,texts⟩ := o
 show Calls Tryz.prog 44 #[.agg #[.int .i64 k,.int .i64 s,.int .i64 q,.int .i64 i,.int .i64 s2,.int .i64 q2,.int .i64 i2,.int .i64 N,.int .i64 M,.string nam,at0,at1,at2,at3,at4,ae0,ae1,ae2,ae3,ae4,ae5,ae6,ae7,ae8,ae9,ae10,ae11,.slice aA n' ac],.agg #[.int .i64 k,.int .i64 s,.int .i64 q,.int .i64 i,.int .i64 s2,.int .i64 q2,.int .i64 i2,.int .i64 N,.int .i64 M,.string nam,bt0,bt1,bt2,bt3,bt4,be0,be1,be2,be3,be4,be5,be6,be7,be8,be9,be10,be11,.slice bA n' bc]] w _
 obtain ⟨w2,hw2⟩ : ∃ x,x = (w.alloc (.cells #[.int .i64 k,.int .i64 s,.int .i64 q,.int .i64 i,.int .i64 s2,.int .i64 q2,.int .i64 i2,.int .i64 N,.int .i64 M,.string nam,at0,at1,at2,at3,at4,ae0,ae1,ae2,ae3,ae4,ae5,ae6,ae7,ae8,ae9,ae10,ae11,.slice aA n' ac] 33)).alloc (.cells #[.int .i64 k,.int .i64 s,.int .i64 q,.int .i64 i,.int .i64 s2,.int .i64 q2,.int .i64 i2,.int .i64 N,.int .i64 M,.string nam,bt0,bt1,bt2,bt3,bt4,be0,be1,be2,be3,be4,be5,be6,be7,be8,be9,be10,be11,.slice bA n' bc] 33) := ⟨_,rfl⟩
 have E2 : Hid (Ext w w2) := hid (by rw [hw2];exact ((Ext.refl w).alloc _).alloc _)
 obtain ⟨g1,hg1⟩ : ∃ g,g = w.heap.size := ⟨_,rfl⟩
 have B1 : Hid (Blk w2 g1 33 [.int .i64 k,.int .i64 s,.int .i64 q,.int .i64 i,.int .i64 s2,.int .i64 q2,.int .i64 i2,.int .i64 N,.int .i64 M,.string nam,at0,at1,at2,at3,at4,ae0,ae1,ae2,ae3,ae4,ae5,ae6,ae7,ae8,ae9,ae10,ae11,.slice aA n' ac]) := hid (by rw [hw2,hg1];exact (Blk.fresh' _ _ _ _ _ rfl rfl).alloc _)
 have B2 : Hid (Blk w2 (g1 + 1) 33 [.int .i64 k,.int .i64 s,.int .i64 q,.int .i64 i,.int .i64 s2,.int .i64 q2,.int .i64 i2,.int .i64 N,.int .i64 M,.string nam,bt0,bt1,bt2,bt3,bt4,be0,be1,be2,be3,be4,be5,be6,be7,be8,be9,be10,be11,.slice bA n' bc]) := hid (by rw [hw2,hg1];exact Blk.fresh' _ _ _ _ _ rfl (by simp))
 have HQ1 : Hid (true = (false != decide ((⟨s,q,i⟩ : Rid) = ⟨s,q,i⟩))) := hid (by rw [decide_eq_true rfl];rfl)
 have HQ2 : Hid (true = (false != decide ((⟨s2,q2,i2⟩ : Rid) = ⟨s2,q2,i2⟩))) := hid (by rw [decide_eq_true rfl];rfl)
 go_enter Tryz.func44,Tryz.ntmps44
 go_upto_region 1 with fail
 change Code.wp _ _ _ _ ((w.alloc (.cells #[.int .i64 k,.int .i64 s,.int .i64 q,.int .i64 i,.int .i64 s2,.int .i64 q2,.int .i64 i2,.int .i64 N,.int .i64 M,.string nam,at0,at1,at2,at3,at4,ae0,ae1,ae2,ae3,ae4,ae5,ae6,ae7,ae8,ae9,ae10,ae11,.slice aA n' ac] 33)).alloc (.cells #[.int .i64 k,.int .i64 s,.int .i64 q,.int .i64 i,.int .i64 s2,.int .i64 q2,.int .i64 i2,.int .i64 N,.int .i64 M,.string nam,bt0,bt1,bt2,bt3,bt4,be0,be1,be2,be3,be4,be5,be6,be7,be8,be9,be10,be11,.slice bA n' bc] 33))
 rw [← hw2]
 rw [← hg1]
 clear hw2 hg1
 simp only [List.append]
 refine wp_region_flowF 66 ?FW1 (fun us => ?_) (by kernel_rfl) (by kernel_rfl) (fun a b => Ext a b) Ext.refl (fun h1 h2 => h1.next h2) (fun fi v W => match fi with
  | 0 => v = .pointer (some ⟨g1,0,none⟩)
  | 1 => v = .int .i64 k
  | 2 => v = .pointer (some ⟨g1 + 1,0,none⟩)
  | 3 => v = .int .i64 k
  | 4 => v = .bool true
  | 5 => v = .bool true
  | 6 => v = .pointer (some ⟨g1,1,none⟩)
  | 7 => v = .agg #[.int .i64 s,.int .i64 q,.int .i64 i]
  | 8 => v = .pointer (some ⟨g1 + 1,1,none⟩)
  | 9 => v = .agg #[.int .i64 s,.int .i64 q,.int .i64 i]
  | 10 => v = .bool true
  | 11 => v = .bool true
  | 12 => v = .bool true
  | 13 => v = .pointer (some ⟨g1,4,none⟩)
  | 14 => v = .agg #[.int .i64 s2,.int .i64 q2,.int .i64 i2]
  | 15 => v = .pointer (some ⟨g1 + 1,4,none⟩)
  | 16 => v = .agg #[.int .i64 s2,.int .i64 q2,.int .i64 i2]
  | 17 => v = .bool true
  | 18 => v = .bool true
  | 19 => v = .bool true
  | 20 => v = .pointer (some ⟨g1,7,none⟩)
  | 21 => v = .int .i64 N
  | 22 => v = .pointer (some ⟨g1 + 1,7,none⟩)
  | 23 => v = .int .i64 N
  | 24 => v = .bool true
  | 25 => v = .bool true
  | 26 => v = .bool true
  | 27 => v = .pointer (some ⟨g1,8,none⟩)
  | 28 => v = .int .i64 M
  | 29 => v = .pointer (some ⟨g1 + 1,8,none⟩)
  | 30 => v = .int .i64 M
  | 31 => v = .bool true
  | 32 => v = .bool true
  | 33 => v = .bool true
  | 34 => v = .pointer (some ⟨g1,9,none⟩)
  | 35 => v = .string nam
  | 36 => v = .pointer (some ⟨g1 + 1,9,none⟩)
  | 37 => v = .string nam
  | 38 => v = .bool true
  | 39 => v = .bool true
  | 40 => v = .bool true
  | 41 => v = .pointer (some ⟨g1,27,none⟩)
  | 42 => v = .slice aA n' ac
  | 43 => v = .pointer (some ⟨g1 + 1,27,none⟩)
  | 44 => v = .slice bA n' bc
  | 45 => v = .bool true
  | 46 => v = .bool true
  | 47 => v = .bool true
  | 48 => v = .pointer (some ⟨g1,10,none⟩)
  | 49 => v = .agg #[at0,at1,at2,at3,at4]
  | 50 => ∃ A c,v = .slice A kt c ∧ Rd W W.heap.size A kt (u8s ET)
  | 51 => v = .pointer (some ⟨g1 + 1,10,none⟩)
  | 52 => v = .agg #[bt0,bt1,bt2,bt3,bt4]
  | 53 => ∃ A c,v = .slice A kt c ∧ Rd W W.heap.size A kt (u8s ET)
  | 54 => v = .bool true
  | 55 => v = .bool true
  | 56 => v = .bool true
  | 57 => v = .pointer (some ⟨g1,15,none⟩)
  | 58 => v = .agg #[ae0,ae1,ae2,ae3,ae4,ae5,ae6,ae7,ae8,ae9,ae10,ae11]
  | 59 => ∃ A c,v = .slice A kn c ∧ Rd W W.heap.size A kn (u8s EN)
  | 60 => v = .pointer (some ⟨g1 + 1,15,none⟩)
  | 61 => v = .agg #[be0,be1,be2,be3,be4,be5,be6,be7,be8,be9,be10,be11]
  | 62 => ∃ A c,v = .slice A kn c ∧ Rd W W.heap.size A kn (u8s EN)
  | 63 => v = .bool true
  | 64 => v = .bool true
  | 65 => v = .bool true
  | _ => True) ?_ ?_
 case refine_1 =>
  simp only [List.take_succ_cons,List.take_zero,flowAct,Nat.zero_add,Nat.reduceAdd,Act.put,List.setIfInBounds_toArray,List.set_cons_succ,List.set_cons_zero]
  rfl
 ·simp only [List.take_succ_cons,List.take_zero,flowStepsF]
  refine ⟨?_,?_,?_,?_,?_,?_,?_,?_,?_,?_,?_,?_,?_,?_,?_,?_,?_,?_,?_,?_,?_,?_,?_,?_,?_,?_,?_,?_,?_,?_,?_,?_,?_,?_,?_,?_,?_,?_,?_,?_,?_,?_,?_,?_,?_,?_,?_,?_,?_,?_,?_,?_,?_,?_,?_,?_,?_,?_,?_,?_,?_,?_,?_,?_,?_,?_,trivial⟩
  ·intro us W K hE hd hK
   dsimp only at hK ⊢
   have HK := hid hK;have HE := hid hE
   clear hK hd hE
   go_wp2_with fail
   exact K_at (HK.out (.pointer (some ⟨g1,0,none⟩)) W (fun _ _ => rfl) (Ext.refl W)) (by kernel_rfl)
  ·intro us W K hE hd hK
   have d0 := hd 0 (by kernel_rfl)
   have cc : W.cell? ⟨g1,0,none⟩ = some (.int .i64 k) := (B1.out.ext (sg_undrew hE)).cell 0
   dsimp only at hK ⊢
   rw [d0] at hK ⊢
   have HK := hid hK;have HE := hid hE
   clear hK hd hE d0
   go_wp2_with fail
   exact K_at (HK.out (.int .i64 k) W (fun _ _ => rfl) (Ext.refl W)) (by kernel_rfl)
  ·intro us W K hE hd hK
   dsimp only at hK ⊢
   have HK := hid hK;have HE := hid hE
   clear hK hd hE
   go_wp2_with fail
   exact K_at (HK.out (.pointer (some ⟨g1 + 1,0,none⟩)) W (fun _ _ => rfl) (Ext.refl W)) (by kernel_rfl)
  ·intro us W K hE hd hK
   have d2 := hd 2 (by kernel_rfl)
   have cc : W.cell? ⟨g1 + 1,0,none⟩ = some (.int .i64 k) := (B2.out.ext (sg_undrew hE)).cell 0
   dsimp only at hK ⊢
   rw [d2] at hK ⊢
   have HK := hid hK;have HE := hid hE
   clear hK hd hE d2
   go_wp2_with fail
   exact K_at (HK.out (.int .i64 k) W (fun _ _ => rfl) (Ext.refl W)) (by kernel_rfl)
  ·intro us W K hE hd hK
   have d1 := hd 1 (by kernel_rfl)
   have d3 := hd 3 (by kernel_rfl)
   dsimp only at hK ⊢
   rw [d1,d3] at hK ⊢
   have HK := hid hK;have HE := hid hE
   clear hK hd hE d1 d3
   go_wp2_with fail
   exact K_at (HK.out (.bool true) W (fun _ _ => rfl) (Ext.refl W)) (by kernel_rfl)
  ·intro us W K hE hd hK
   have d4 := hd 4 (by kernel_rfl)
   dsimp only at hK ⊢
   rw [d4] at hK ⊢
   have HK := hid hK;have HE := hid hE
   clear hK hd hE d4
   go_wp2_with fail
   exact K_at (HK.out (.bool true) W (fun _ _ => rfl) (Ext.refl W)) (by kernel_rfl)
  ·intro us W K hE hd hK
   have d5 := hd 5 (by kernel_rfl)
   dsimp only at hK ⊢
   rw [d5] at hK ⊢
   have HK := hid hK;have HE := hid hE
   clear hK hd hE d5
   go_wp2_with fail
   exact K_at (HK.out (.pointer (some ⟨g1,1,none⟩)) W (fun _ _ => rfl) (Ext.refl W)) (by kernel_rfl)
  ·intro us W K hE hd hK
   have d5 := hd 5 (by kernel_rfl)
   have d6 := hd 6 (by kernel_rfl)
   have RW := hid (range_mid (B1.out.ext (sg_undrew hE)).range 1 [.int .i64 s,.int .i64 q,.int .i64 i] rfl)
   dsimp only at hK ⊢
   rw [d5,d6] at hK ⊢
   have HK := hid hK;have HE := hid hE
   clear hK hd hE d5 d6
   go_wp2_with (((with_reducible refine wpList_load_row 23 (g1) 1 [.int .i64 s,.int .i64 q,.int .i64 i] RW.out Tryz.underlying23 rfl (info_id.trans rfl) ?_ ?_ ?_);kernel_rfl;rfl))
   exact K_at (HK.out (.agg #[.int .i64 s,.int .i64 q,.int .i64 i]) W (fun _ _ => rfl) (Ext.refl W)) (by kernel_rfl)
  ·intro us W K hE hd hK
   have d5 := hd 5 (by kernel_rfl)
   dsimp only at hK ⊢
   rw [d5] at hK ⊢
   have HK := hid hK;have HE := hid hE
   clear hK hd hE d5
   go_wp2_with fail
   exact K_at (HK.out (.pointer (some ⟨g1 + 1,1,none⟩)) W (fun _ _ => rfl) (Ext.refl W)) (by kernel_rfl)
  ·intro us W K hE hd hK
   have d5 := hd 5 (by kernel_rfl)
   have d8 := hd 8 (by kernel_rfl)
   have RW := hid (range_mid (B2.out.ext (sg_undrew hE)).range 1 [.int .i64 s,.int .i64 q,.int .i64 i] rfl)
   dsimp only at hK ⊢
   rw [d5,d8] at hK ⊢
   have HK := hid hK;have HE := hid hE
   clear hK hd hE d5 d8
   go_wp2_with (((with_reducible refine wpList_load_row 23 (g1 + 1) 1 [.int .i64 s,.int .i64 q,.int .i64 i] RW.out Tryz.underlying23 rfl (info_id.trans rfl) ?_ ?_ ?_);kernel_rfl;rfl))
   exact K_at (HK.out (.agg #[.int .i64 s,.int .i64 q,.int .i64 i]) W (fun _ _ => rfl) (Ext.refl W)) (by kernel_rfl)
  ·intro us W K hE hd hK
   have d5 := hd 5 (by kernel_rfl)
   have d7 := hd 7 (by kernel_rfl)
   have d9 := hd 9 (by kernel_rfl)
   dsimp only at hK ⊢
   rw [d5,d7,d9] at hK ⊢
   have HK := hid hK;have HE := hid hE
   clear hK hd hE d5 d7 d9
   go_wp2_with (((with_reducible refine wpList_idEql s q i s q i _ HQ1.out ?_ ?_ ?_ ?_);kernel_rfl;rfl;rfl))
   exact K_at (HK.out (.bool true) W (fun _ _ => rfl) (Ext.refl W)) (by kernel_rfl)
  ·intro us W K hE hd hK
   have d5 := hd 5 (by kernel_rfl)
   have d10 := hd 10 (by kernel_rfl)
   dsimp only at hK ⊢
   rw [d5,d10] at hK ⊢
   have HK := hid hK;have HE := hid hE
   clear hK hd hE d5 d10
   go_wp2_with fail
   exact K_at (HK.out (.bool true) W (fun _ _ => rfl) (Ext.refl W)) (by kernel_rfl)
  ·intro us W K hE hd hK
   have d11 := hd 11 (by kernel_rfl)
   dsimp only at hK ⊢
   rw [d11] at hK ⊢
   have HK := hid hK;have HE := hid hE
   clear hK hd hE d11
   go_wp2_with fail
   exact K_at (HK.out (.bool true) W (fun _ _ => rfl) (Ext.refl W)) (by kernel_rfl)
  ·intro us W K hE hd hK
   have d12 := hd 12 (by kernel_rfl)
   dsimp only at hK ⊢
   rw [d12] at hK ⊢
   have HK := hid hK;have HE := hid hE
   clear hK hd hE d12
   go_wp2_with fail
   exact K_at (HK.out (.pointer (some ⟨g1,4,none⟩)) W (fun _ _ => rfl) (Ext.refl W)) (by kernel_rfl)
  ·intro us W K hE hd hK
   have d12 := hd 12 (by kernel_rfl)
   have d13 := hd 13 (by kernel_rfl)
   have RW := hid (range_mid (B1.out.ext (sg_undrew hE)).range 4 [.int .i64 s2,.int .i64 q2,.int .i64 i2] rfl)
   dsimp only at hK ⊢
   rw [d12,d13] at hK ⊢
   have HK := hid hK;have HE := hid hE
   clear hK hd hE d12 d13
   go_wp2_with (((with_reducible refine wpList_load_row 23 (g1) 4 [.int .i64 s2,.int .i64 q2,.int .i64 i2] RW.out Tryz.underlying23 rfl (info_id.trans rfl) ?_ ?_ ?_);kernel_rfl;rfl))
   exact K_at (HK.out (.agg #[.int .i64 s2,.int .i64 q2,.int .i64 i2]) W (fun _ _ => rfl) (Ext.refl W)) (by kernel_rfl)
  ·intro us W K hE hd hK
   have d12 := hd 12 (by kernel_rfl)
   dsimp only at hK ⊢
   rw [d12] at hK ⊢
   have HK := hid hK;have HE := hid hE
   clear hK hd hE d12
   go_wp2_with fail
   exact K_at (HK.out (.pointer (some ⟨g1 + 1,4,none⟩)) W (fun _ _ => rfl) (Ext.refl W)) (by kernel_rfl)
  ·intro us W K hE hd hK
   have d12 := hd 12 (by kernel_rfl)
   have d15 := hd 15 (by kernel_rfl)
   have RW := hid (range_mid (B2.out.ext (sg_undrew hE)).range 4 [.int .i64 s2,.int .i64 q2,.int .i64 i2] rfl)
   dsimp only at hK ⊢
   rw [d12,d15] at hK ⊢
   have HK := hid hK;have HE := hid hE
   clear hK hd hE d12 d15
   go_wp2_with (((with_reducible refine wpList_load_row 23 (g1 + 1) 4 [.int .i64 s2,.int .i64 q2,.int .i64 i2] RW.out Tryz.underlying23 rfl (info_id.trans rfl) ?_ ?_ ?_);kernel_rfl;rfl))
   exact K_at (HK.out (.agg #[.int .i64 s2,.int .i64 q2,.int .i64 i2]) W (fun _ _ => rfl) (Ext.refl W)) (by kernel_rfl)
  ·intro us W K hE hd hK
   have d12 := hd 12 (by kernel_rfl)
   have d14 := hd 14 (by kernel_rfl)
   have d16 := hd 16 (by kernel_rfl)
   dsimp only at hK ⊢
   rw [d12,d14,d16] at hK ⊢
   have HK := hid hK;have HE := hid hE
   clear hK hd hE d12 d14 d16
   go_wp2_with (((with_reducible refine wpList_idEql s2 q2 i2 s2 q2 i2 _ HQ2.out ?_ ?_ ?_ ?_);kernel_rfl;rfl;rfl))
   exact K_at (HK.out (.bool true) W (fun _ _ => rfl) (Ext.refl W)) (by kernel_rfl)
  ·intro us W K hE hd hK
   have d12 := hd 12 (by kernel_rfl)
   have d17 := hd 17 (by kernel_rfl)
   dsimp only at hK ⊢
   rw [d12,d17] at hK ⊢
   have HK := hid hK;have HE := hid hE
   clear hK hd hE d12 d17
   go_wp2_with fail
   exact K_at (HK.out (.bool true) W (fun _ _ => rfl) (Ext.refl W)) (by kernel_rfl)
  ·intro us W K hE hd hK
   have d18 := hd 18 (by kernel_rfl)
   dsimp only at hK ⊢
   rw [d18] at hK ⊢
   have HK := hid hK;have HE := hid hE
   clear hK hd hE d18
   go_wp2_with fail
   exact K_at (HK.out (.bool true) W (fun _ _ => rfl) (Ext.refl W)) (by kernel_rfl)
  ·intro us W K hE hd hK
   have d19 := hd 19 (by kernel_rfl)
   dsimp only at hK ⊢
   rw [d19] at hK ⊢
   have HK := hid hK;have HE := hid hE
   clear hK hd hE d19
   go_wp2_with fail
   exact K_at (HK.out (.pointer (some ⟨g1,7,none⟩)) W (fun _ _ => rfl) (Ext.refl W)) (by kernel_rfl)
  ·intro us W K hE hd hK
   have d19 := hd 19 (by kernel_rfl)
   have d20 := hd 20 (by kernel_rfl)
   have cc : W.cell? ⟨g1,7,none⟩ = some (.int .i64 N) := (B1.out.ext (sg_undrew hE)).cell 7
   dsimp only at hK ⊢
   rw [d19,d20] at hK ⊢
   have HK := hid hK;have HE := hid hE
   clear hK hd hE d19 d20
   go_wp2_with fail
   exact K_at (HK.out (.int .i64 N) W (fun _ _ => rfl) (Ext.refl W)) (by kernel_rfl)
  ·intro us W K hE hd hK
   have d19 := hd 19 (by kernel_rfl)
   dsimp only at hK ⊢
   rw [d19] at hK ⊢
   have HK := hid hK;have HE := hid hE
   clear hK hd hE d19
   go_wp2_with fail
   exact K_at (HK.out (.pointer (some ⟨g1 + 1,7,none⟩)) W (fun _ _ => rfl) (Ext.refl W)) (by kernel_rfl)
  ·intro us W K hE hd hK
   have d19 := hd 19 (by kernel_rfl)
   have d22 := hd 22 (by kernel_rfl)
   have cc : W.cell? ⟨g1 + 1,7,none⟩ = some (.int .i64 N) := (B2.out.ext (sg_undrew hE)).cell 7
   dsimp only at hK ⊢
   rw [d19,d22] at hK ⊢
   have HK := hid hK;have HE := hid hE
   clear hK hd hE d19 d22
   go_wp2_with fail
   exact K_at (HK.out (.int .i64 N) W (fun _ _ => rfl) (Ext.refl W)) (by kernel_rfl)
  ·intro us W K hE hd hK
   have d19 := hd 19 (by kernel_rfl)
   have d21 := hd 21 (by kernel_rfl)
   have d23 := hd 23 (by kernel_rfl)
   dsimp only at hK ⊢
   rw [d19,d21,d23] at hK ⊢
   have HK := hid hK;have HE := hid hE
   clear hK hd hE d19 d21 d23
   go_wp2_with fail
   exact K_at (HK.out (.bool true) W (fun _ _ => rfl) (Ext.refl W)) (by kernel_rfl)
  ·intro us W K hE hd hK
   have d19 := hd 19 (by kernel_rfl)
   have d24 := hd 24 (by kernel_rfl)
   dsimp only at hK ⊢
   rw [d19,d24] at hK ⊢
   have HK := hid hK;have HE := hid hE
   clear hK hd hE d19 d24
   go_wp2_with fail
   exact K_at (HK.out (.bool true) W (fun _ _ => rfl) (Ext.refl W)) (by kernel_rfl)
  ·intro us W K hE hd hK
   have d25 := hd 25 (by kernel_rfl)
   dsimp only at hK ⊢
   rw [d25] at hK ⊢
   have HK := hid hK;have HE := hid hE
   clear hK hd hE d25
   go_wp2_with fail
   exact K_at (HK.out (.bool true) W (fun _ _ => rfl) (Ext.refl W)) (by kernel_rfl)
  ·intro us W K hE hd hK
   have d26 := hd 26 (by kernel_rfl)
   dsimp only at hK ⊢
   rw [d26] at hK ⊢
   have HK := hid hK;have HE := hid hE
   clear hK hd hE d26
   go_wp2_with fail
   exact K_at (HK.out (.pointer (some ⟨g1,8,none⟩)) W (fun _ _ => rfl) (Ext.refl W)) (by kernel_rfl)
  ·intro us W K hE hd hK
   have d26 := hd 26 (by kernel_rfl)
   have d27 := hd 27 (by kernel_rfl)
   have cc : W.cell? ⟨g1,8,none⟩ = some (.int .i64 M) := (B1.out.ext (sg_undrew hE)).cell 8
   dsimp only at hK ⊢
   rw [d26,d27] at hK ⊢
   have HK := hid hK;have HE := hid hE
   clear hK hd hE d26 d27
   go_wp2_with fail
   exact K_at (HK.out (.int .i64 M) W (fun _ _ => rfl) (Ext.refl W)) (by kernel_rfl)
  ·intro us W K hE hd hK
   have d26 := hd 26 (by kernel_rfl)
   dsimp only at hK ⊢
   rw [d26] at hK ⊢
   have HK := hid hK;have HE := hid hE
   clear hK hd hE d26
   go_wp2_with fail
   exact K_at (HK.out (.pointer (some ⟨g1 + 1,8,none⟩)) W (fun _ _ => rfl) (Ext.refl W)) (by kernel_rfl)
  ·intro us W K hE hd hK
   have d26 := hd 26 (by kernel_rfl)
   have d29 := hd 29 (by kernel_rfl)
   have cc : W.cell? ⟨g1 + 1,8,none⟩ = some (.int .i64 M) := (B2.out.ext (sg_undrew hE)).cell 8
   dsimp only at hK ⊢
   rw [d26,d29] at hK ⊢
   have HK := hid hK;have HE := hid hE
   clear hK hd hE d26 d29
   go_wp2_with fail
   exact K_at (HK.out (.int .i64 M) W (fun _ _ => rfl) (Ext.refl W)) (by kernel_rfl)
  ·intro us W K hE hd hK
   have d26 := hd 26 (by kernel_rfl)
   have d28 := hd 28 (by kernel_rfl)
   have d30 := hd 30 (by kernel_rfl)
   dsimp only at hK ⊢
   rw [d26,d28,d30] at hK ⊢
   have HK := hid hK;have HE := hid hE
   clear hK hd hE d26 d28 d30
   go_wp2_with fail
   exact K_at (HK.out (.bool true) W (fun _ _ => rfl) (Ext.refl W)) (by kernel_rfl)
  ·intro us W K hE hd hK
   have d26 := hd 26 (by kernel_rfl)
   have d31 := hd 31 (by kernel_rfl)
   dsimp only at hK ⊢
   rw [d26,d31] at hK ⊢
   have HK := hid hK;have HE := hid hE
   clear hK hd hE d26 d31
   go_wp2_with fail
   exact K_at (HK.out (.bool true) W (fun _ _ => rfl) (Ext.refl W)) (by kernel_rfl)
  ·intro us W K hE hd hK
   have d32 := hd 32 (by kernel_rfl)
   dsimp only at hK ⊢
   rw [d32] at hK ⊢
   have HK := hid hK;have HE := hid hE
   clear hK hd hE d32
   go_wp2_with fail
   exact K_at (HK.out (.bool true) W (fun _ _ => rfl) (Ext.refl W)) (by kernel_rfl)
  ·intro us W K hE hd hK
   have d33 := hd 33 (by kernel_rfl)
   dsimp only at hK ⊢
   rw [d33] at hK ⊢
   have HK := hid hK;have HE := hid hE
   clear hK hd hE d33
   go_wp2_with fail
   exact K_at (HK.out (.pointer (some ⟨g1,9,none⟩)) W (fun _ _ => rfl) (Ext.refl W)) (by kernel_rfl)
  ·intro us W K hE hd hK
   have d33 := hd 33 (by kernel_rfl)
   have d34 := hd 34 (by kernel_rfl)
   have cc : W.cell? ⟨g1,9,none⟩ = some (.string nam) := (B1.out.ext (sg_undrew hE)).cell 9
   dsimp only at hK ⊢
   rw [d33,d34] at hK ⊢
   have HK := hid hK;have HE := hid hE
   clear hK hd hE d33 d34
   go_wp2_with fail
   exact K_at (HK.out (.string nam) W (fun _ _ => rfl) (Ext.refl W)) (by kernel_rfl)
  ·intro us W K hE hd hK
   have d33 := hd 33 (by kernel_rfl)
   dsimp only at hK ⊢
   rw [d33] at hK ⊢
   have HK := hid hK;have HE := hid hE
   clear hK hd hE d33
   go_wp2_with fail
   exact K_at (HK.out (.pointer (some ⟨g1 + 1,9,none⟩)) W (fun _ _ => rfl) (Ext.refl W)) (by kernel_rfl)
  ·intro us W K hE hd hK
   have d33 := hd 33 (by kernel_rfl)
   have d36 := hd 36 (by kernel_rfl)
   have cc : W.cell? ⟨g1 + 1,9,none⟩ = some (.string nam) := (B2.out.ext (sg_undrew hE)).cell 9
   dsimp only at hK ⊢
   rw [d33,d36] at hK ⊢
   have HK := hid hK;have HE := hid hE
   clear hK hd hE d33 d36
   go_wp2_with fail
   exact K_at (HK.out (.string nam) W (fun _ _ => rfl) (Ext.refl W)) (by kernel_rfl)
  ·intro us W K hE hd hK
   have d33 := hd 33 (by kernel_rfl)
   have d35 := hd 35 (by kernel_rfl)
   have d37 := hd 37 (by kernel_rfl)
   dsimp only at hK ⊢
   rw [d33,d35,d37] at hK ⊢
   have HK := hid hK;have HE := hid hE
   clear hK hd hE d33 d35 d37
   go_wp2_with fail
   exact K_at (HK.out (.bool true) W (fun _ _ => rfl) (Ext.refl W)) (by kernel_rfl)
  ·intro us W K hE hd hK
   have d33 := hd 33 (by kernel_rfl)
   have d38 := hd 38 (by kernel_rfl)
   dsimp only at hK ⊢
   rw [d33,d38] at hK ⊢
   have HK := hid hK;have HE := hid hE
   clear hK hd hE d33 d38
   go_wp2_with fail
   exact K_at (HK.out (.bool true) W (fun _ _ => rfl) (Ext.refl W)) (by kernel_rfl)
  ·intro us W K hE hd hK
   have d39 := hd 39 (by kernel_rfl)
   dsimp only at hK ⊢
   rw [d39] at hK ⊢
   have HK := hid hK;have HE := hid hE
   clear hK hd hE d39
   go_wp2_with fail
   exact K_at (HK.out (.bool true) W (fun _ _ => rfl) (Ext.refl W)) (by kernel_rfl)
  ·intro us W K hE hd hK
   have d40 := hd 40 (by kernel_rfl)
   dsimp only at hK ⊢
   rw [d40] at hK ⊢
   have HK := hid hK;have HE := hid hE
   clear hK hd hE d40
   go_wp2_with fail
   exact K_at (HK.out (.pointer (some ⟨g1,27,none⟩)) W (fun _ _ => rfl) (Ext.refl W)) (by kernel_rfl)
  ·intro us W K hE hd hK
   have d40 := hd 40 (by kernel_rfl)
   have d41 := hd 41 (by kernel_rfl)
   have cc : W.cell? ⟨g1,27,none⟩ = some (.slice aA n' ac) := (B1.out.ext (sg_undrew hE)).cell 27
   dsimp only at hK ⊢
   rw [d40,d41] at hK ⊢
   have HK := hid hK;have HE := hid hE
   clear hK hd hE d40 d41
   go_wp2_with fail
   exact K_at (HK.out (.slice aA n' ac) W (fun _ _ => rfl) (Ext.refl W)) (by kernel_rfl)
  ·intro us W K hE hd hK
   have d40 := hd 40 (by kernel_rfl)
   dsimp only at hK ⊢
   rw [d40] at hK ⊢
   have HK := hid hK;have HE := hid hE
   clear hK hd hE d40
   go_wp2_with fail
   exact K_at (HK.out (.pointer (some ⟨g1 + 1,27,none⟩)) W (fun _ _ => rfl) (Ext.refl W)) (by kernel_rfl)
  ·intro us W K hE hd hK
   have d40 := hd 40 (by kernel_rfl)
   have d43 := hd 43 (by kernel_rfl)
   have cc : W.cell? ⟨g1 + 1,27,none⟩ = some (.slice bA n' bc) := (B2.out.ext (sg_undrew hE)).cell 27
   dsimp only at hK ⊢
   rw [d40,d43] at hK ⊢
   have HK := hid hK;have HE := hid hE
   clear hK hd hE d40 d43
   go_wp2_with fail
   exact K_at (HK.out (.slice bA n' bc) W (fun _ _ => rfl) (Ext.refl W)) (by kernel_rfl)
  ·intro us W K hE hd hK
   have d40 := hd 40 (by kernel_rfl)
   have d42 := hd 42 (by kernel_rfl)
   have d44 := hd 44 (by kernel_rfl)
   have HSW := hid (HST.out W (E2.out.next (sg_undrew hE)))
   dsimp only at hK ⊢
   rw [d40,d42,d44] at hK ⊢
   have HK := hid hK;have HE := hid hE
   clear hK hd hE d40 d42 d44
   go_wp2_with ((go_at_call 77;(with_reducible refine HSW.out.mono ?_);rintro e w6 ⟨rfl,hB6⟩))
   exact K_at (HK.out (.bool true) w6 (fun _ _ => rfl) hB6) (by kernel_rfl)
  ·intro us W K hE hd hK
   have d40 := hd 40 (by kernel_rfl)
   have d45 := hd 45 (by kernel_rfl)
   dsimp only at hK ⊢
   rw [d40,d45] at hK ⊢
   have HK := hid hK;have HE := hid hE
   clear hK hd hE d40 d45
   go_wp2_with fail
   exact K_at (HK.out (.bool true) W (fun _ _ => rfl) (Ext.refl W)) (by kernel_rfl)
  ·intro us W K hE hd hK
   have d46 := hd 46 (by kernel_rfl)
   dsimp only at hK ⊢
   rw [d46] at hK ⊢
   have HK := hid hK;have HE := hid hE
   clear hK hd hE d46
   go_wp2_with fail
   exact K_at (HK.out (.bool true) W (fun _ _ => rfl) (Ext.refl W)) (by kernel_rfl)
  ·intro us W K hE hd hK
   have d47 := hd 47 (by kernel_rfl)
   dsimp only at hK ⊢
   rw [d47] at hK ⊢
   have HK := hid hK;have HE := hid hE
   clear hK hd hE d47
   go_wp2_with fail
   exact K_at (HK.out (.pointer (some ⟨g1,10,none⟩)) W (fun _ _ => rfl) (Ext.refl W)) (by kernel_rfl)
  ·intro us W K hE hd hK
   have d47 := hd 47 (by kernel_rfl)
   have d48 := hd 48 (by kernel_rfl)
   have RW := hid (range_mid (B1.out.ext (sg_undrew hE)).range 10 [at0,at1,at2,at3,at4] rfl)
   dsimp only at hK ⊢
   rw [d47,d48] at hK ⊢
   have HK := hid hK;have HE := hid hE
   clear hK hd hE d47 d48
   go_wp2_with (((with_reducible refine wpList_load_row 26 (g1) 10 [at0,at1,at2,at3,at4] RW.out Tryz.underlying26 rfl (ty_info.trans rfl) ?_ ?_ ?_);kernel_rfl;rfl))
   exact K_at (HK.out (.agg #[at0,at1,at2,at3,at4]) W (fun _ _ => rfl) (Ext.refl W)) (by kernel_rfl)
  ·intro us W K hE hd hK
   have d47 := hd 47 (by kernel_rfl)
   have d49 := hd 49 (by kernel_rfl)
   have HSW := hid (HTA.out W (E2.out.next (sg_undrew hE)))
   dsimp only at hK ⊢
   rw [d47,d49] at hK ⊢
   have HK := hid hK;have HE := hid hE
   clear hK hd hE d47 d49
   go_wp2_with ((go_at_call 64;(with_reducible refine HSW.out.mono ?_);rintro e w6 ⟨⟨A6,c6,rfl,hr6⟩,hB6⟩;have R6 := hid hr6;clear hr6))
   exact K_at (HK.out (.slice A6 kt c6) w6 (fun W2 h2 => ⟨A6,c6,rfl,R6.out.ext' h2⟩) hB6) (by kernel_rfl)
  ·intro us W K hE hd hK
   have d47 := hd 47 (by kernel_rfl)
   dsimp only at hK ⊢
   rw [d47] at hK ⊢
   have HK := hid hK;have HE := hid hE
   clear hK hd hE d47
   go_wp2_with fail
   exact K_at (HK.out (.pointer (some ⟨g1 + 1,10,none⟩)) W (fun _ _ => rfl) (Ext.refl W)) (by kernel_rfl)
  ·intro us W K hE hd hK
   have d47 := hd 47 (by kernel_rfl)
   have d51 := hd 51 (by kernel_rfl)
   have RW := hid (range_mid (B2.out.ext (sg_undrew hE)).range 10 [bt0,bt1,bt2,bt3,bt4] rfl)
   dsimp only at hK ⊢
   rw [d47,d51] at hK ⊢
   have HK := hid hK;have HE := hid hE
   clear hK hd hE d47 d51
   go_wp2_with (((with_reducible refine wpList_load_row 26 (g1 + 1) 10 [bt0,bt1,bt2,bt3,bt4] RW.out Tryz.underlying26 rfl (ty_info.trans rfl) ?_ ?_ ?_);kernel_rfl;rfl))
   exact K_at (HK.out (.agg #[bt0,bt1,bt2,bt3,bt4]) W (fun _ _ => rfl) (Ext.refl W)) (by kernel_rfl)
  ·intro us W K hE hd hK
   have d47 := hd 47 (by kernel_rfl)
   have d52 := hd 52 (by kernel_rfl)
   have HSW := hid (HTB.out W (E2.out.next (sg_undrew hE)))
   dsimp only at hK ⊢
   rw [d47,d52] at hK ⊢
   have HK := hid hK;have HE := hid hE
   clear hK hd hE d47 d52
   go_wp2_with ((go_at_call 64;(with_reducible refine HSW.out.mono ?_);rintro e w6 ⟨⟨A6,c6,rfl,hr6⟩,hB6⟩;have R6 := hid hr6;clear hr6))
   exact K_at (HK.out (.slice A6 kt c6) w6 (fun W2 h2 => ⟨A6,c6,rfl,R6.out.ext' h2⟩) hB6) (by kernel_rfl)
  ·intro us W K hE hd hK
   have d47 := hd 47 (by kernel_rfl)
   obtain ⟨A50,c50,d50,R50⟩ := hd 50 (by kernel_rfl)
   obtain ⟨A53,c53,d53,R53⟩ := hd 53 (by kernel_rfl)
   have HSW := hid (HSM.out W ET kt A50 A53 c50 c53 R50 R53 HKL.out.1)
   dsimp only at hK ⊢
   rw [d47,d50,d53] at hK ⊢
   have HK := hid hK;have HE := hid hE
   clear hK hd hE d47 d50 d53 R50 R53
   go_wp2_with ((go_at_call 21;(with_reducible refine HSW.out.mono ?_);rintro e w6 ⟨rfl,hB6⟩))
   exact K_at (HK.out (.bool true) w6 (fun _ _ => rfl) hB6) (by kernel_rfl)
  ·intro us W K hE hd hK
   have d47 := hd 47 (by kernel_rfl)
   have d54 := hd 54 (by kernel_rfl)
   dsimp only at hK ⊢
   rw [d47,d54] at hK ⊢
   have HK := hid hK;have HE := hid hE
   clear hK hd hE d47 d54
   go_wp2_with fail
   exact K_at (HK.out (.bool true) W (fun _ _ => rfl) (Ext.refl W)) (by kernel_rfl)
  ·intro us W K hE hd hK
   have d55 := hd 55 (by kernel_rfl)
   dsimp only at hK ⊢
   rw [d55] at hK ⊢
   have HK := hid hK;have HE := hid hE
   clear hK hd hE d55
   go_wp2_with fail
   exact K_at (HK.out (.bool true) W (fun _ _ => rfl) (Ext.refl W)) (by kernel_rfl)
  ·intro us W K hE hd hK
   have d56 := hd 56 (by kernel_rfl)
   dsimp only at hK ⊢
   rw [d56] at hK ⊢
   have HK := hid hK;have HE := hid hE
   clear hK hd hE d56
   go_wp2_with fail
   exact K_at (HK.out (.pointer (some ⟨g1,15,none⟩)) W (fun _ _ => rfl) (Ext.refl W)) (by kernel_rfl)
  ·intro us W K hE hd hK
   have d56 := hd 56 (by kernel_rfl)
   have d57 := hd 57 (by kernel_rfl)
   have RW := hid (range_mid (B1.out.ext (sg_undrew hE)).range 15 [ae0,ae1,ae2,ae3,ae4,ae5,ae6,ae7,ae8,ae9,ae10,ae11] rfl)
   dsimp only at hK ⊢
   rw [d56,d57] at hK ⊢
   have HK := hid hK;have HE := hid hE
   clear hK hd hE d56 d57
   go_wp2_with (((with_reducible refine wpList_load_row 30 (g1) 15 [ae0,ae1,ae2,ae3,ae4,ae5,ae6,ae7,ae8,ae9,ae10,ae11] RW.out Tryz.underlying30 rfl (nod_info.trans rfl) ?_ ?_ ?_);kernel_rfl;rfl))
   exact K_at (HK.out (.agg #[ae0,ae1,ae2,ae3,ae4,ae5,ae6,ae7,ae8,ae9,ae10,ae11]) W (fun _ _ => rfl) (Ext.refl W)) (by kernel_rfl)
  ·intro us W K hE hd hK
   have d56 := hd 56 (by kernel_rfl)
   have d58 := hd 58 (by kernel_rfl)
   have HSW := hid (HNA.out W (E2.out.next (sg_undrew hE)))
   dsimp only at hK ⊢
   rw [d56,d58] at hK ⊢
   have HK := hid hK;have HE := hid hE
   clear hK hd hE d56 d58
   go_wp2_with ((go_at_call 65;(with_reducible refine HSW.out.mono ?_);rintro e w6 ⟨⟨A6,c6,rfl,hr6⟩,hB6⟩;have R6 := hid hr6;clear hr6))
   exact K_at (HK.out (.slice A6 kn c6) w6 (fun W2 h2 => ⟨A6,c6,rfl,R6.out.ext' h2⟩) hB6) (by kernel_rfl)
  ·intro us W K hE hd hK
   have d56 := hd 56 (by kernel_rfl)
   dsimp only at hK ⊢
   rw [d56] at hK ⊢
   have HK := hid hK;have HE := hid hE
   clear hK hd hE d56
   go_wp2_with fail
   exact K_at (HK.out (.pointer (some ⟨g1 + 1,15,none⟩)) W (fun _ _ => rfl) (Ext.refl W)) (by kernel_rfl)
  ·intro us W K hE hd hK
   have d56 := hd 56 (by kernel_rfl)
   have d60 := hd 60 (by kernel_rfl)
   have RW := hid (range_mid (B2.out.ext (sg_undrew hE)).range 15 [be0,be1,be2,be3,be4,be5,be6,be7,be8,be9,be10,be11] rfl)
   dsimp only at hK ⊢
   rw [d56,d60] at hK ⊢
   have HK := hid hK;have HE := hid hE
   clear hK hd hE d56 d60
   go_wp2_with (((with_reducible refine wpList_load_row 30 (g1 + 1) 15 [be0,be1,be2,be3,be4,be5,be6,be7,be8,be9,be10,be11] RW.out Tryz.underlying30 rfl (nod_info.trans rfl) ?_ ?_ ?_);kernel_rfl;rfl))
   exact K_at (HK.out (.agg #[be0,be1,be2,be3,be4,be5,be6,be7,be8,be9,be10,be11]) W (fun _ _ => rfl) (Ext.refl W)) (by kernel_rfl)
  ·intro us W K hE hd hK
   have d56 := hd 56 (by kernel_rfl)
   have d61 := hd 61 (by kernel_rfl)
   have HSW := hid (HNB.out W (E2.out.next (sg_undrew hE)))
   dsimp only at hK ⊢
   rw [d56,d61] at hK ⊢
   have HK := hid hK;have HE := hid hE
   clear hK hd hE d56 d61
   go_wp2_with ((go_at_call 65;(with_reducible refine HSW.out.mono ?_);rintro e w6 ⟨⟨A6,c6,rfl,hr6⟩,hB6⟩;have R6 := hid hr6;clear hr6))
   exact K_at (HK.out (.slice A6 kn c6) w6 (fun W2 h2 => ⟨A6,c6,rfl,R6.out.ext' h2⟩) hB6) (by kernel_rfl)
  ·intro us W K hE hd hK
   have d56 := hd 56 (by kernel_rfl)
   obtain ⟨A59,c59,d59,R59⟩ := hd 59 (by kernel_rfl)
   obtain ⟨A62,c62,d62,R62⟩ := hd 62 (by kernel_rfl)
   have HSW := hid (HSM.out W EN kn A59 A62 c59 c62 R59 R62 HKL.out.2)
   dsimp only at hK ⊢
   rw [d56,d59,d62] at hK ⊢
   have HK := hid hK;have HE := hid hE
   clear hK hd hE d56 d59 d62 R59 R62
   go_wp2_with ((go_at_call 21;(with_reducible refine HSW.out.mono ?_);rintro e w6 ⟨rfl,hB6⟩))
   exact K_at (HK.out (.bool true) w6 (fun _ _ => rfl) hB6) (by kernel_rfl)
  ·intro us W K hE hd hK
   have d56 := hd 56 (by kernel_rfl)
   have d63 := hd 63 (by kernel_rfl)
   dsimp only at hK ⊢
   rw [d56,d63] at hK ⊢
   have HK := hid hK;have HE := hid hE
   clear hK hd hE d56 d63
   go_wp2_with fail
   exact K_at (HK.out (.bool true) W (fun _ _ => rfl) (Ext.refl W)) (by kernel_rfl)
  ·intro us W K hE hd hK
   have d64 := hd 64 (by kernel_rfl)
   dsimp only at hK ⊢
   rw [d64] at hK ⊢
   have HK := hid hK;have HE := hid hE
   clear hK hd hE d64
   go_wp2_with fail
   exact K_at (HK.out (.bool true) W (fun _ _ => rfl) (Ext.refl W)) (by kernel_rfl)
 ·intro us W hE hd
  try dsimp only
  have d65 := hd 65 (by decide)
  simp only [List.drop_succ_cons,List.drop_zero]
  rw [d65]
  have EW := hid (E2.out.next (sg_undrew hE))
  clear hd hE d65
  go_wp2_with fail
  go_ret
  exact ⟨rfl,EW.out⟩
end Go.Proofs.YtojcmcccahjphaaGreatDoor
