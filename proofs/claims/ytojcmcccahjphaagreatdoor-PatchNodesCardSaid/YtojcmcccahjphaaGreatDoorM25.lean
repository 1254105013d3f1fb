/- The reader of package patch where the bytes are an encoding: an operation without kids, names and texts. Conditions: sizes. -/
import Derived.Test.YtojcmcccahjphaaGreatDoorM24
set_option linter.unusedSimpArgs false
set_option linter.unusedVariables false
set_option maxHeartbeats 16000000
set_option maxRecDepth 100000
set_option maxRecDepth 100000
set_option maxHeartbeats 8000000
namespace Go.Proofs.YtojcmcccahjphaaGreatDoor
open Go.RowKit
open Lib (hid)
attribute [local go_sem ↓] wp_at_zero wp_at_succ
def opF (k s q z s2 q2 z2 nn m : Int) (nam : ByteArray) (x y : TyN) (nk nu ns nq nz : Int) : OpA := ⟨k,⟨s,q,z⟩,⟨s2,q2,z2⟩,nn,m,nam,[x],nodF y nk nu ns nq nz [],[]⟩
def opFC (k s q z s2 q2 z2 nn m : Int) (nam : ByteArray) (x y : TyN) (nk nu ns nq nz : Int) (A8 A10 : Option Addr) (c8 c10 : Nat) : List Value := opC (opF k s q z s2 q2 z2 nn m nam x y nk nu ns nq nz) (tyC x (.slice none 0 0)) (nodC (nodF y nk nu ns nq nz []) (tyC y (.slice none 0 0)) (.slice none 0 0) (.slice A8 0 c8)) (.slice A10 0 c10)
theorem pop_enc (lo : Nat) (k s q z s2 q2 z2 nn m : Int) (nam : ByteArray) (x y : TyN) (nk nu ns nq nz : Int) (r : List Int) (A : Option Addr) (n c g : Nat) (w : World) (h : RdrL lo w g (encO (opF k s q z s2 q2 z2 nn m nam x y nk nu ns nq nz) ++ r) A n c) (hlo : lo ≤ w.heap.size) (hw : OpW (opF k s q z s2 q2 z2 nn m nam x y nk nu ns nq nz)) :
  Calls Tryz.prog 71 #[.pointer (some ⟨g,0,none⟩)] w fun e w' => (∃ A8 A10 c8 c10,e = .returned (.agg (opFC k s q z s2 q2 z2 nn m nam x y nk nu ns nq nz A8 A10 c8 c10).toArray) ∧ c8 ≤ 9223372036854775807 ∧ c10 ≤ 9223372036854775807) ∧ (∃ A2 n2 c2,RdrL lo w' g r A2 n2 c2) ∧ Kept (fun b => b = g) w w' := by
 obtain ⟨r4,hr4⟩ : ∃ l,l = encL encB ([] : List ByteArray) ++ r := ⟨_,rfl⟩
 obtain ⟨r3,hr3⟩ : ∃ l,l = encN (nodF y nk nu ns nq nz []) ++ r4 := ⟨_,rfl⟩
 obtain ⟨r2,hr2⟩ : ∃ l,l = encT [x] ++ r3 := ⟨_,rfl⟩
 obtain ⟨r1,hr1⟩ : ∃ l,l = encB nam ++ r2 := ⟨_,rfl⟩
 have hl : encO (opF k s q z s2 q2 z2 nn m nam x y nk nu ns nq nz) ++ r = encL encInt [k,s,q,z,s2,q2,z2,nn,m] ++ r1 := by
  rw [hr1,hr2,hr3,hr4]
  unfold encO opF opN thrI
  simp only [List.append_assoc,List.cons_append,List.nil_append]
 rw [hl] at h
 have HIA : Hid (∀ W,Ext w W → Calls Tryz.prog 67 #[.pointer (some ⟨g,0,none⟩),.int .i64 9,.int .i64 1] W fun e w' => (∃ A1 c1,e = .returned (.slice A1 9 c1) ∧ w'.ownsRow W.heap.size 3 1 (.slice A1 9 c1) 9 (([k,s,q,z,s2,q2,z2,nn,m] : List Int).map (Value.int .i64))) ∧ (∃ A2 n2 c2,RdrL lo w' g r1 A2 n2 c2) ∧ Kept (fun b => b = g) W w') := hid (fun W hW => pintsL_enc lo [k,s,q,z,s2,q2,z2,nn,m] r1 A n c g 9 1 W (h.ext hW) (opN_i64 hw) (show 9 ≤ 1000000 by decide) (Or.inr rfl) (Nat.mod_one _) (by decide) (by decide) (by decide))
 have HTX : Hid (∀ (W : World) (A : Option Addr) (n c : Nat),RdrL lo W g r1 A n c → Calls Tryz.prog 72 #[.pointer (some ⟨g,0,none⟩)] W fun e w' => e = .returned (.string nam) ∧ (∃ A2 n2 c2,RdrL lo w' g r2 A2 n2 c2) ∧ Kept (fun b => b = g) W w') := hid (fun W A n c h2 => by
  rw [hr1] at h2
  exact textL_enc lo nam r2 A n c g W h2 hw.name)
 have HTP : Hid (∀ (W : World) (A : Option Addr) (n c : Nat),lo ≤ W.heap.size → RdrL lo W g r2 A n c → Calls Tryz.prog 82 #[.pointer (some ⟨g,0,none⟩),.int .i64 24] W fun e w' => e = .returned (.agg (tyC x (.slice none 0 0)).toArray) ∧ (∃ A2 n2 c2,RdrL lo w' g r3 A2 n2 c2) ∧ Kept (fun b => b = g) W w') := hid (fun W A n c h1 h2 => by
  rw [hr2] at h2
  exact ptyp_enc lo x _ A n c g 24 W h2 h1 hw.ty (by decide) (by decide))
 have HND : Hid (∀ (W : World) (A : Option Addr) (n c : Nat),lo ≤ W.heap.size → RdrL lo W g r3 A n c → Calls Tryz.prog 83 #[.pointer (some ⟨g,0,none⟩)] W fun e w' => (∃ A8 c8,e = .returned (.agg (nodC (nodF y nk nu ns nq nz []) (tyC y (.slice none 0 0)) (.slice none 0 0) (.slice A8 0 c8)).toArray) ∧ c8 ≤ 9223372036854775807) ∧ (∃ A2 n2 c2,RdrL lo w' g r4 A2 n2 c2) ∧ Kept (fun b => b = g) W w') := hid (fun W A n c h1 h2 => by
  rw [hr3] at h2
  exact (pnode_enc lo y nk nu ns nq nz [] r4 A n c g W h2 h1 hw.node (by decide)).mono fun e w' ⟨⟨A8,c8,h3,_,h5,_⟩,h6,h7⟩ => ⟨⟨A8,c8,h3,h5⟩,h6,h7⟩)
 have HST : Hid (∀ (W : World) (A : Option Addr) (n c : Nat),RdrL lo W g r4 A n c → Calls Tryz.prog 84 #[.pointer (some ⟨g,0,none⟩)] W fun e w' => (∃ A1 c1,e = .returned (.slice A1 0 c1) ∧ c1 ≤ 9223372036854775807) ∧ (∃ A2 n2 c2,RdrL lo w' g r A2 n2 c2) ∧ Kept (fun b => b = g) W w') := hid (fun W A n c h2 => by
  rw [hr4] at h2
  exact (pstringsL_enc lo [] r A n c g W h2 (fun s hs => by cases hs) (by decide)).mono fun e w' ⟨⟨A1,c1,h3,h4⟩,h6,h7⟩ => ⟨⟨A1,c1,h3,(slice_cap h4).2⟩,h6,h7⟩)
 have HLO : Hid (g < lo ∧ lo ≤ w.heap.size) := hid ⟨h.lt,hlo⟩
 have zz := zero_op
 obtain ⟨tk,⟨ts,tq,tz⟩⟩ := x
 obtain ⟨yk,⟨ys,yq,yz⟩⟩ := y
 unfold tyC at HTP HND
 dsimp only at HTP HND
 unfold nodC nodF at HND
 dsimp only at HND
 clear h hlo hw hr1 hr2 hr3 hr4 hl
 go_enter Tryz.func71,Tryz.ntmps71
 go_upto_region 1 with fail
 obtain ⟨w1,hw1⟩ : ∃ x,x = w.alloc (.cells ZO.toArray 33) := ⟨_,rfl⟩
 change Code.wp _ _ _ _ (w.alloc (.cells ZO.toArray 33))
 rw [← hw1]
 have E1 : Hid (Ext w w1) := hid (by rw [hw1];exact (Ext.refl w).alloc _)
 have BZ1 : Hid (Blk w1 w.heap.size 33 ZO) := hid (by rw [hw1];exact Blk.fresh' _ _ _ _ _ rfl rfl)
 clear hw1
 go_upto_region 2 with (go_at_call 67;(with_reducible refine (HIA.out w1 E1.out).mono ?_);rintro e w2 ⟨⟨A1,c1,rfl,ho1⟩,⟨A2,n2,c2,hr2⟩,hk2⟩;have HO1 := hid ho1;have R2 := hid hr2;have K2 := hid hk2;clear ho1 hr2 hk2)
 obtain ⟨g1,rfl,hg1a,hg1b,hg1c⟩ := own_cell0 HO1.out (by decide)
 have BZ2 : Hid (Blk w2 w.heap.size 33 ZO) := hid (K2.out.blk BZ1.out (by have := HLO.out;omega))
 have HCC : Hid (∀ W,Ext w2 W → ∀ (j : Nat) (x : Int),([k,s,q,z,s2,q2,z2,nn,m] : List Int)[j]? = some x → W.cell? ⟨g1,j,none⟩ = some (.int .i64 x)) := hid (fun W hW j x hx => (hW.cell (p := ⟨g1,j,none⟩) hg1b).trans (hg1c j x hx))
 have HG1 : Hid (w.heap.size ≤ g1 ∧ g1 < w2.heap.size) := hid ⟨Nat.le_trans E1.out.size hg1a,hg1b⟩
 have K02 : Hid (Kept (fun b => b = g) w w2) := hid ((Kept.of_ext E1.out).trans K2.out)
 clear HO1 hg1a hg1b hg1c BZ1 E1 K2
 refine wp_region_flowF 31 ?FW1 (fun us => ?_) (by kernel_rfl) (by kernel_rfl) (fun a b => Ext a b) Ext.refl (fun h1 h2 => h1.next h2) (fun i v W => match i with
  | 0 => v = .slice (some ⟨g1,0,none⟩) 9 c1
  | 1 => v = .pointer (some ⟨g1,0,none⟩)
  | 2 => v = .int .i64 k
  | 3 => v = .slice (some ⟨g1,0,none⟩) 9 c1
  | 4 => v = .pointer (some ⟨g1,1,none⟩)
  | 5 => v = .int .i64 s
  | 6 => v = .slice (some ⟨g1,0,none⟩) 9 c1
  | 7 => v = .pointer (some ⟨g1,2,none⟩)
  | 8 => v = .int .i64 q
  | 9 => v = .slice (some ⟨g1,0,none⟩) 9 c1
  | 10 => v = .pointer (some ⟨g1,3,none⟩)
  | 11 => v = .int .i64 z
  | 12 => v = .agg (idC ⟨s,q,z⟩).toArray
  | 13 => v = .slice (some ⟨g1,0,none⟩) 9 c1
  | 14 => v = .pointer (some ⟨g1,4,none⟩)
  | 15 => v = .int .i64 s2
  | 16 => v = .slice (some ⟨g1,0,none⟩) 9 c1
  | 17 => v = .pointer (some ⟨g1,5,none⟩)
  | 18 => v = .int .i64 q2
  | 19 => v = .slice (some ⟨g1,0,none⟩) 9 c1
  | 20 => v = .pointer (some ⟨g1,6,none⟩)
  | 21 => v = .int .i64 z2
  | 22 => v = .agg (idC ⟨s2,q2,z2⟩).toArray
  | 23 => v = .slice (some ⟨g1,0,none⟩) 9 c1
  | 24 => v = .pointer (some ⟨g1,7,none⟩)
  | 25 => v = .int .i64 nn
  | 26 => v = .slice (some ⟨g1,0,none⟩) 9 c1
  | 27 => v = .pointer (some ⟨g1,8,none⟩)
  | 28 => v = .int .i64 m
  | 29 => v = .agg ([.int .i64 k,.int .i64 s,.int .i64 q,.int .i64 z,.int .i64 s2,.int .i64 q2,.int .i64 z2,.int .i64 nn,.int .i64 m,.string ⟨#[]⟩,.int .i64 0,.int .i64 0,.int .i64 0,.int .i64 0,.slice none 0 0,.int .i64 0,.int .i64 0,.int .i64 0,.int .i64 0,.int .i64 0,.int .i64 0,.int .i64 0,.int .i64 0,.int .i64 0,.slice none 0 0,.slice none 0 0,.slice none 0 0,.slice none 0 0] : List Value).toArray
  | 30 => ∃ gz : Nat,v = .pointer (some ⟨gz,0,none⟩) ∧ w2.heap.size ≤ gz ∧ Blk W gz 33 ZO
  | _ => True) ?_ ?_
 case refine_1 =>
  simp only [List.take_succ_cons,List.take_zero,flowAct,Nat.zero_add,Nat.reduceAdd,Act.put,List.setIfInBounds_toArray,List.set_cons_succ,List.set_cons_zero]
  rfl
 ·simp only [List.take_succ_cons,List.take_zero,flowStepsF]
  refine ⟨?_,?_,?_,?_,?_,?_,?_,?_,?_,?_,?_,?_,?_,?_,?_,?_,?_,?_,?_,?_,?_,?_,?_,?_,?_,?_,?_,?_,?_,?_,?_,trivial⟩
  ·intro us W K hE hd hK
   dsimp only at hK ⊢
   have HK := hid hK;have HE := hid hE
   clear hK hd hE
   go_wp2_with fail
   exact K_at (HK.out (.slice (some ⟨g1,0,none⟩) 9 c1) W (fun _ _ => rfl) (Ext.refl W)) (by kernel_rfl)
  ·intro us W K hE hd hK
   have d0 := hd 0 (by kernel_rfl)
   dsimp only at hK ⊢
   rw [d0] at hK ⊢
   have HK := hid hK;have HE := hid hE
   clear hK hd hE d0
   go_wp2_with fail
   exact K_at (HK.out (.pointer (some ⟨g1,0,none⟩)) W (fun _ _ => rfl) (Ext.refl W)) (by kernel_rfl)
  ·intro us W K hE hd hK
   have d1 := hd 1 (by kernel_rfl)
   have cc : W.cell? ⟨g1,0,none⟩ = some (.int .i64 k) := HCC.out W (sg_undrew hE) 0 k rfl
   dsimp only at hK ⊢
   rw [d1] at hK ⊢
   have HK := hid hK;have HE := hid hE
   clear hK hd hE d1
   go_wp2_with fail
   exact K_at (HK.out (.int .i64 k) W (fun _ _ => rfl) (Ext.refl W)) (by kernel_rfl)
  ·intro us W K hE hd hK
   dsimp only at hK ⊢
   have HK := hid hK;have HE := hid hE
   clear hK hd hE
   go_wp2_with fail
   exact K_at (HK.out (.slice (some ⟨g1,0,none⟩) 9 c1) W (fun _ _ => rfl) (Ext.refl W)) (by kernel_rfl)
  ·intro us W K hE hd hK
   have d3 := hd 3 (by kernel_rfl)
   dsimp only at hK ⊢
   rw [d3] at hK ⊢
   have HK := hid hK;have HE := hid hE
   clear hK hd hE d3
   go_wp2_with fail
   exact K_at (HK.out (.pointer (some ⟨g1,1,none⟩)) W (fun _ _ => rfl) (Ext.refl W)) (by kernel_rfl)
  ·intro us W K hE hd hK
   have d4 := hd 4 (by kernel_rfl)
   have cc : W.cell? ⟨g1,1,none⟩ = some (.int .i64 s) := HCC.out W (sg_undrew hE) 1 s rfl
   dsimp only at hK ⊢
   rw [d4] at hK ⊢
   have HK := hid hK;have HE := hid hE
   clear hK hd hE d4
   go_wp2_with fail
   exact K_at (HK.out (.int .i64 s) W (fun _ _ => rfl) (Ext.refl W)) (by kernel_rfl)
  ·intro us W K hE hd hK
   dsimp only at hK ⊢
   have HK := hid hK;have HE := hid hE
   clear hK hd hE
   go_wp2_with fail
   exact K_at (HK.out (.slice (some ⟨g1,0,none⟩) 9 c1) W (fun _ _ => rfl) (Ext.refl W)) (by kernel_rfl)
  ·intro us W K hE hd hK
   have d6 := hd 6 (by kernel_rfl)
   dsimp only at hK ⊢
   rw [d6] at hK ⊢
   have HK := hid hK;have HE := hid hE
   clear hK hd hE d6
   go_wp2_with fail
   exact K_at (HK.out (.pointer (some ⟨g1,2,none⟩)) W (fun _ _ => rfl) (Ext.refl W)) (by kernel_rfl)
  ·intro us W K hE hd hK
   have d7 := hd 7 (by kernel_rfl)
   have cc : W.cell? ⟨g1,2,none⟩ = some (.int .i64 q) := HCC.out W (sg_undrew hE) 2 q rfl
   dsimp only at hK ⊢
   rw [d7] at hK ⊢
   have HK := hid hK;have HE := hid hE
   clear hK hd hE d7
   go_wp2_with fail
   exact K_at (HK.out (.int .i64 q) W (fun _ _ => rfl) (Ext.refl W)) (by kernel_rfl)
  ·intro us W K hE hd hK
   dsimp only at hK ⊢
   have HK := hid hK;have HE := hid hE
   clear hK hd hE
   go_wp2_with fail
   exact K_at (HK.out (.slice (some ⟨g1,0,none⟩) 9 c1) W (fun _ _ => rfl) (Ext.refl W)) (by kernel_rfl)
  ·intro us W K hE hd hK
   have d9 := hd 9 (by kernel_rfl)
   dsimp only at hK ⊢
   rw [d9] at hK ⊢
   have HK := hid hK;have HE := hid hE
   clear hK hd hE d9
   go_wp2_with fail
   exact K_at (HK.out (.pointer (some ⟨g1,3,none⟩)) W (fun _ _ => rfl) (Ext.refl W)) (by kernel_rfl)
  ·intro us W K hE hd hK
   have d10 := hd 10 (by kernel_rfl)
   have cc : W.cell? ⟨g1,3,none⟩ = some (.int .i64 z) := HCC.out W (sg_undrew hE) 3 z rfl
   dsimp only at hK ⊢
   rw [d10] at hK ⊢
   have HK := hid hK;have HE := hid hE
   clear hK hd hE d10
   go_wp2_with fail
   exact K_at (HK.out (.int .i64 z) W (fun _ _ => rfl) (Ext.refl W)) (by kernel_rfl)
  ·intro us W K hE hd hK
   have d5 := hd 5 (by kernel_rfl)
   have d8 := hd 8 (by kernel_rfl)
   have d11 := hd 11 (by kernel_rfl)
   dsimp only at hK ⊢
   rw [d5,d8,d11] at hK ⊢
   have HK := hid hK;have HE := hid hE
   clear hK hd hE d5 d8 d11
   go_wp2_with ((refine wpList_build_eq (by rfl) 23 _ rfl _ (by kernel_rfl) _ (build_id s q z) ?_))
   exact K_at (HK.out (.agg (idC ⟨s,q,z⟩).toArray) W (fun _ _ => rfl) (Ext.refl W)) (by kernel_rfl)
  ·intro us W K hE hd hK
   dsimp only at hK ⊢
   have HK := hid hK;have HE := hid hE
   clear hK hd hE
   go_wp2_with fail
   exact K_at (HK.out (.slice (some ⟨g1,0,none⟩) 9 c1) W (fun _ _ => rfl) (Ext.refl W)) (by kernel_rfl)
  ·intro us W K hE hd hK
   have d13 := hd 13 (by kernel_rfl)
   dsimp only at hK ⊢
   rw [d13] at hK ⊢
   have HK := hid hK;have HE := hid hE
   clear hK hd hE d13
   go_wp2_with fail
   exact K_at (HK.out (.pointer (some ⟨g1,4,none⟩)) W (fun _ _ => rfl) (Ext.refl W)) (by kernel_rfl)
  ·intro us W K hE hd hK
   have d14 := hd 14 (by kernel_rfl)
   have cc : W.cell? ⟨g1,4,none⟩ = some (.int .i64 s2) := HCC.out W (sg_undrew hE) 4 s2 rfl
   dsimp only at hK ⊢
   rw [d14] at hK ⊢
   have HK := hid hK;have HE := hid hE
   clear hK hd hE d14
   go_wp2_with fail
   exact K_at (HK.out (.int .i64 s2) W (fun _ _ => rfl) (Ext.refl W)) (by kernel_rfl)
  ·intro us W K hE hd hK
   dsimp only at hK ⊢
   have HK := hid hK;have HE := hid hE
   clear hK hd hE
   go_wp2_with fail
   exact K_at (HK.out (.slice (some ⟨g1,0,none⟩) 9 c1) W (fun _ _ => rfl) (Ext.refl W)) (by kernel_rfl)
  ·intro us W K hE hd hK
   have d16 := hd 16 (by kernel_rfl)
   dsimp only at hK ⊢
   rw [d16] at hK ⊢
   have HK := hid hK;have HE := hid hE
   clear hK hd hE d16
   go_wp2_with fail
   exact K_at (HK.out (.pointer (some ⟨g1,5,none⟩)) W (fun _ _ => rfl) (Ext.refl W)) (by kernel_rfl)
  ·intro us W K hE hd hK
   have d17 := hd 17 (by kernel_rfl)
   have cc : W.cell? ⟨g1,5,none⟩ = some (.int .i64 q2) := HCC.out W (sg_undrew hE) 5 q2 rfl
   dsimp only at hK ⊢
   rw [d17] at hK ⊢
   have HK := hid hK;have HE := hid hE
   clear hK hd hE d17
   go_wp2_with fail
   exact K_at (HK.out (.int .i64 q2) W (fun _ _ => rfl) (Ext.refl W)) (by kernel_rfl)
  ·intro us W K hE hd hK
   dsimp only at hK ⊢
   have HK := hid hK;have HE := hid hE
   clear hK hd hE
   go_wp2_with fail
   exact K_at (HK.out (.slice (some ⟨g1,0,none⟩) 9 c1) W (fun _ _ => rfl) (Ext.refl W)) (by kernel_rfl)
  ·intro us W K hE hd hK
   have d19 := hd 19 (by kernel_rfl)
   dsimp only at hK ⊢
   rw [d19] at hK ⊢
   have HK := hid hK;have HE := hid hE
   clear hK hd hE d19
   go_wp2_with fail
   exact K_at (HK.out (.pointer (some ⟨g1,6,none⟩)) W (fun _ _ => rfl) (Ext.refl W)) (by kernel_rfl)
  ·intro us W K hE hd hK
   have d20 := hd 20 (by kernel_rfl)
   have cc : W.cell? ⟨g1,6,none⟩ = some (.int .i64 z2) := HCC.out W (sg_undrew hE) 6 z2 rfl
   dsimp only at hK ⊢
   rw [d20] at hK ⊢
   have HK := hid hK;have HE := hid hE
   clear hK hd hE d20
   go_wp2_with fail
   exact K_at (HK.out (.int .i64 z2) W (fun _ _ => rfl) (Ext.refl W)) (by kernel_rfl)
  ·intro us W K hE hd hK
   have d15 := hd 15 (by kernel_rfl)
   have d18 := hd 18 (by kernel_rfl)
   have d21 := hd 21 (by kernel_rfl)
   dsimp only at hK ⊢
   rw [d15,d18,d21] at hK ⊢
   have HK := hid hK;have HE := hid hE
   clear hK hd hE d15 d18 d21
   go_wp2_with ((refine wpList_build_eq (by rfl) 23 _ rfl _ (by kernel_rfl) _ (build_id s2 q2 z2) ?_))
   exact K_at (HK.out (.agg (idC ⟨s2,q2,z2⟩).toArray) W (fun _ _ => rfl) (Ext.refl W)) (by kernel_rfl)
  ·intro us W K hE hd hK
   dsimp only at hK ⊢
   have HK := hid hK;have HE := hid hE
   clear hK hd hE
   go_wp2_with fail
   exact K_at (HK.out (.slice (some ⟨g1,0,none⟩) 9 c1) W (fun _ _ => rfl) (Ext.refl W)) (by kernel_rfl)
  ·intro us W K hE hd hK
   have d23 := hd 23 (by kernel_rfl)
   dsimp only at hK ⊢
   rw [d23] at hK ⊢
   have HK := hid hK;have HE := hid hE
   clear hK hd hE d23
   go_wp2_with fail
   exact K_at (HK.out (.pointer (some ⟨g1,7,none⟩)) W (fun _ _ => rfl) (Ext.refl W)) (by kernel_rfl)
  ·intro us W K hE hd hK
   have d24 := hd 24 (by kernel_rfl)
   have cc : W.cell? ⟨g1,7,none⟩ = some (.int .i64 nn) := HCC.out W (sg_undrew hE) 7 nn rfl
   dsimp only at hK ⊢
   rw [d24] at hK ⊢
   have HK := hid hK;have HE := hid hE
   clear hK hd hE d24
   go_wp2_with fail
   exact K_at (HK.out (.int .i64 nn) W (fun _ _ => rfl) (Ext.refl W)) (by kernel_rfl)
  ·intro us W K hE hd hK
   dsimp only at hK ⊢
   have HK := hid hK;have HE := hid hE
   clear hK hd hE
   go_wp2_with fail
   exact K_at (HK.out (.slice (some ⟨g1,0,none⟩) 9 c1) W (fun _ _ => rfl) (Ext.refl W)) (by kernel_rfl)
  ·intro us W K hE hd hK
   have d26 := hd 26 (by kernel_rfl)
   dsimp only at hK ⊢
   rw [d26] at hK ⊢
   have HK := hid hK;have HE := hid hE
   clear hK hd hE d26
   go_wp2_with fail
   exact K_at (HK.out (.pointer (some ⟨g1,8,none⟩)) W (fun _ _ => rfl) (Ext.refl W)) (by kernel_rfl)
  ·intro us W K hE hd hK
   have d27 := hd 27 (by kernel_rfl)
   have cc : W.cell? ⟨g1,8,none⟩ = some (.int .i64 m) := HCC.out W (sg_undrew hE) 8 m rfl
   dsimp only at hK ⊢
   rw [d27] at hK ⊢
   have HK := hid hK;have HE := hid hE
   clear hK hd hE d27
   go_wp2_with fail
   exact K_at (HK.out (.int .i64 m) W (fun _ _ => rfl) (Ext.refl W)) (by kernel_rfl)
  ·intro us W K hE hd hK
   have d2 := hd 2 (by kernel_rfl)
   have d12 := hd 12 (by kernel_rfl)
   have d22 := hd 22 (by kernel_rfl)
   have d25 := hd 25 (by kernel_rfl)
   have d28 := hd 28 (by kernel_rfl)
   dsimp only at hK ⊢
   rw [d2,d12,d22,d25,d28] at hK ⊢
   have HK := hid hK;have HE := hid hE
   clear hK hd hE d2 d12 d22 d25 d28
   go_wp2_with ((refine wpList_build_eq (by rfl) 33 _ rfl _ (by kernel_rfl) _ (build_op k s q z s2 q2 z2 nn m) ?_))
   exact K_at (HK.out (.agg ([.int .i64 k,.int .i64 s,.int .i64 q,.int .i64 z,.int .i64 s2,.int .i64 q2,.int .i64 z2,.int .i64 nn,.int .i64 m,.string ⟨#[]⟩,.int .i64 0,.int .i64 0,.int .i64 0,.int .i64 0,.slice none 0 0,.int .i64 0,.int .i64 0,.int .i64 0,.int .i64 0,.int .i64 0,.int .i64 0,.int .i64 0,.int .i64 0,.int .i64 0,.slice none 0 0,.slice none 0 0,.slice none 0 0,.slice none 0 0] : List Value).toArray) W (fun _ _ => rfl) (Ext.refl W)) (by kernel_rfl)
  ·intro us W K hE hd hK
   have HSW := hid (sg_undrew hE).size
   dsimp only at hK ⊢
   have HK := hid hK;have HE := hid hE
   clear hK hd hE
   go_wp2_with fail
   exact K_at (HK.out (.pointer (some ⟨W.heap.size,0,none⟩)) (W.alloc (.cells ZO.toArray 33)) (fun W2 hW2 => ⟨W.heap.size,rfl,HSW.out,(Blk.fresh' W 33 ZO _ _ rfl rfl).ext hW2⟩) ((Ext.refl W).alloc _)) (by kernel_rfl)
 ·intro us W hE hd
  try dsimp only
  have d12 := hd 29 (by decide)
  obtain ⟨g4,d13,hg4,hb4⟩ := hd 30 (by decide)
  simp only [List.drop_succ_cons,List.drop_zero]
  rw [d12,d13]
  have EW := hid (sg_undrew hE)
  have B4 := hid hb4
  have HG4 := hid hg4
  clear hd hE d12 d13 hb4 hg4
  go_upto_region 3 with (refine wpList_store_blk rfl 33 (.tmp 4) (.tmp 36) rfl g4 [.int .i64 k,.int .i64 s,.int .i64 q,.int .i64 z,.int .i64 s2,.int .i64 q2,.int .i64 z2,.int .i64 nn,.int .i64 m,.string ⟨#[]⟩,.int .i64 0,.int .i64 0,.int .i64 0,.int .i64 0,.slice none 0 0,.int .i64 0,.int .i64 0,.int .i64 0,.int .i64 0,.int .i64 0,.int .i64 0,.int .i64 0,.int .i64 0,.int .i64 0,.slice none 0 0,.slice none 0 0,.slice none 0 0,.slice none 0 0] (by kernel_rfl) (by kernel_rfl) B4.out (op_info.trans rfl) rfl (by intro v hv;simp only [List.mem_cons,List.not_mem_nil,or_false] at hv;rcases hv with rfl | rfl | rfl | rfl | rfl | rfl | rfl | rfl | rfl | rfl | rfl | rfl | rfl | rfl | rfl | rfl | rfl | rfl | rfl | rfl | rfl | rfl | rfl | rfl | rfl | rfl | rfl | rfl <;> rfl) ?_;intro w3 hw3 hb3;have B3 : Hid (Blk w3 g4 33 [.int .i64 k,.int .i64 s,.int .i64 q,.int .i64 z,.int .i64 s2,.int .i64 q2,.int .i64 z2,.int .i64 nn,.int .i64 m,.string ⟨#[]⟩,.int .i64 0,.int .i64 0,.int .i64 0,.int .i64 0,.slice none 0 0,.int .i64 0,.int .i64 0,.int .i64 0,.int .i64 0,.int .i64 0,.int .i64 0,.int .i64 0,.int .i64 0,.int .i64 0,.slice none 0 0,.slice none 0 0,.slice none 0 0,.slice none 0 0]) := hid hb3;have E23 : Hid (Ext w2 w3) := hid (by rw [hw3.out];exact EW.out.setRow HG4.out _);clear hw3 hb3)
  have R3 := hid (R2.out.ext E23.out)
  have BZ3 := hid (BZ2.out.ext E23.out)
  have K03 : Hid (Kept (fun b => b = g) w w3) := hid (K02.out.trans (Kept.of_ext E23.out))
  have HGW : Hid (w.heap.size < w2.heap.size) := hid BZ2.out.lt
  have HG44 : Hid (g4 < w3.heap.size) := hid B3.out.lt
  clear R2 BZ2 K02 EW B4
  have HN4 : Hid (g4 ≠ g ∧ w.heap.size ≠ g ∧ lo ≤ g4 ∧ w.heap.size < g4) := hid (by have h1 := HG4.out;have h2 := HLO.out;have h3 := HGW.out;omega)
  have HL3 : Hid (lo ≤ w3.heap.size) := hid (by have h1 := HLO.out;have h2 := HGW.out;have h3 := E23.out.size;omega)
  go_upto_region 4 with (go_at_call 72;(with_reducible refine (HTX.out w3 _ _ _ R3.out).mono ?_);rintro e w4 ⟨rfl,⟨A4,n4,c4,hr⟩,hk⟩;have R4 := hid hr;have K4 := hid hk;have B4 := hid (hk.blk B3.out HN4.out.1);have BZ4 := hid (hk.blk BZ3.out HN4.out.2.1);have cd9 := B4.out.cell 9;have fz9 := B4.out.frozen 9;clear hr hk)
  obtain ⟨w5,hw5⟩ : ∃ x,x = w4.setCell ⟨g4,9,none⟩ (.string nam) := ⟨_,rfl⟩
  change Code.wp _ _ _ _ (w4.setCell ⟨g4,9,none⟩ (.string nam))
  rw [← hw5]
  have K45 : Hid (Kept (fun b => b = g4) w4 w5) := hid (by rw [hw5];exact Kept.setCell (F := fun b => b = g4) (p := ⟨g4,9,none⟩) w4 rfl _)
  have B5 : Hid (Blk w5 g4 33 [.int .i64 k,.int .i64 s,.int .i64 q,.int .i64 z,.int .i64 s2,.int .i64 q2,.int .i64 z2,.int .i64 nn,.int .i64 m,.string nam,.int .i64 0,.int .i64 0,.int .i64 0,.int .i64 0,.slice none 0 0,.int .i64 0,.int .i64 0,.int .i64 0,.int .i64 0,.int .i64 0,.int .i64 0,.int .i64 0,.int .i64 0,.int .i64 0,.slice none 0 0,.slice none 0 0,.slice none 0 0,.slice none 0 0]) := hid (by rw [hw5];exact B4.out.set 9 _)
  have BZ5 : Hid (Blk w5 w.heap.size 33 ZO) := hid (K45.out.blk BZ4.out (by have := HN4.out;omega))
  have R5 : Hid (RdrL lo w5 g _ A4 n4 c4) := hid (R4.out.off (K45.out.mono (fun b _ h => by have := HN4.out;omega)))
  have K05 : Hid (Kept (fun b => b = g) w w5) := hid ((K03.out.trans K4.out).next K45.out (fun b hb h => by have := HN4.out;omega))
  have HL5 : Hid (lo ≤ w5.heap.size) := hid (Nat.le_trans HL3.out (Nat.le_trans K4.out.size K45.out.size))
  clear hw5 cd9 fz9 R3 R4 BZ3 BZ4 B3 B4 K03 K4 K45 HTX HL3
  go_upto_region 5 with (first
   | (go_at_call 82;(with_reducible refine (HTP.out w5 _ _ _ HL5.out R5.out).mono ?_);rintro e w6 ⟨rfl,⟨A6,n6,c6,hr⟩,hk⟩;have R6 := hid hr;have K6 := hid hk;have B6 := hid (hk.blk B5.out HN4.out.1);have BZ6 := hid (hk.blk BZ5.out HN4.out.2.1);clear hr hk)
   | (refine wpList_store_seg rfl 26 (.tmp 42) (.tmp 41) rfl g4 10 [.int .i64 tk,.int .i64 ts,.int .i64 tq,.int .i64 tz,.slice none 0 0] (by kernel_rfl) (by kernel_rfl) B6.out (ty_info.trans rfl) (show 10 + 5 ≤ 28 by decide) (by intro v hv;simp only [List.mem_cons,List.not_mem_nil,or_false] at hv;rcases hv with rfl | rfl | rfl | rfl | rfl <;> rfl) ?_;intro w7 hw7 hb7;have B7 : Hid (Blk w7 g4 33 [.int .i64 k,.int .i64 s,.int .i64 q,.int .i64 z,.int .i64 s2,.int .i64 q2,.int .i64 z2,.int .i64 nn,.int .i64 m,.string nam,.int .i64 tk,.int .i64 ts,.int .i64 tq,.int .i64 tz,.slice none 0 0,.int .i64 0,.int .i64 0,.int .i64 0,.int .i64 0,.int .i64 0,.int .i64 0,.int .i64 0,.int .i64 0,.int .i64 0,.slice none 0 0,.slice none 0 0,.slice none 0 0,.slice none 0 0]) := hid hb7;have K67 : Hid (Kept (fun b => b = g4) w6 w7) := hid (by rw [hw7.out];exact Kept.setRow (F := fun b => b = g4) w6 rfl _);clear hw7 hb7))
  have BZ7 : Hid (Blk w7 w.heap.size 33 ZO) := hid (K67.out.blk BZ6.out (by have := HN4.out;omega))
  have R7 : Hid (RdrL lo w7 g _ A6 n6 c6) := hid (R6.out.off (K67.out.mono (fun b _ h => by have := HN4.out;omega)))
  have K07 : Hid (Kept (fun b => b = g) w w7) := hid ((K05.out.trans K6.out).next K67.out (fun b hb h => by have := HN4.out;omega))
  have HL7 : Hid (lo ≤ w7.heap.size) := hid (Nat.le_trans HL5.out (Nat.le_trans K6.out.size K67.out.size))
  clear R5 R6 BZ5 BZ6 B5 B6 K05 K6 K67 HTP HL5
  go_upto_region 6 with (first
   | (go_at_call 83;(with_reducible refine (HND.out w7 _ _ _ HL7.out R7.out).mono ?_);rintro e w8 ⟨⟨A8,c8,rfl,hc8⟩,⟨A9,n9,c9,hr⟩,hk⟩;have HC8 := hid hc8;have R8 := hid hr;have K8 := hid hk;have B8 := hid (hk.blk B7.out HN4.out.1);have BZ8 := hid (hk.blk BZ7.out HN4.out.2.1);clear hr hk hc8)
   | (refine wpList_store_seg rfl 30 (.tmp 45) (.tmp 44) rfl g4 15 [.int .i64 nk,.int .i64 nu,.int .i64 ns,.int .i64 nq,.int .i64 nz,.int .i64 yk,.int .i64 ys,.int .i64 yq,.int .i64 yz,.slice none 0 0,.slice none 0 0,.slice A8 0 c8] (by kernel_rfl) (by kernel_rfl) B8.out (nod_info.trans rfl) (show 15 + 12 ≤ 28 by decide) (by intro v hv;simp only [List.mem_cons,List.not_mem_nil,or_false] at hv;rcases hv with rfl | rfl | rfl | rfl | rfl | rfl | rfl | rfl | rfl | rfl | rfl | rfl <;> rfl) ?_;intro w9 hw9 hb9;have B9 : Hid (Blk w9 g4 33 [.int .i64 k,.int .i64 s,.int .i64 q,.int .i64 z,.int .i64 s2,.int .i64 q2,.int .i64 z2,.int .i64 nn,.int .i64 m,.string nam,.int .i64 tk,.int .i64 ts,.int .i64 tq,.int .i64 tz,.slice none 0 0,.int .i64 nk,.int .i64 nu,.int .i64 ns,.int .i64 nq,.int .i64 nz,.int .i64 yk,.int .i64 ys,.int .i64 yq,.int .i64 yz,.slice none 0 0,.slice none 0 0,.slice A8 0 c8,.slice none 0 0]) := hid hb9;have K89 : Hid (Kept (fun b => b = g4) w8 w9) := hid (by rw [hw9.out];exact Kept.setRow (F := fun b => b = g4) w8 rfl _);clear hw9 hb9))
  have BZ9 : Hid (Blk w9 w.heap.size 33 ZO) := hid (K89.out.blk BZ8.out (by have := HN4.out;omega))
  have R9 : Hid (RdrL lo w9 g _ A9 n9 c9) := hid (R8.out.off (K89.out.mono (fun b _ h => by have := HN4.out;omega)))
  have K09 : Hid (Kept (fun b => b = g) w w9) := hid ((K07.out.trans K8.out).next K89.out (fun b hb h => by have := HN4.out;omega))
  clear R7 R8 BZ7 BZ8 B7 B8 K07 K8 K89 HND HL7
  go_upto_region 7 with (go_at_call 84;(with_reducible refine (HST.out w9 _ _ _ R9.out).mono ?_);rintro e w10 ⟨⟨A10,c10,rfl,hc10⟩,⟨A11,n11,c11,hr⟩,hk⟩;have HC10 := hid hc10;have R10 := hid hr;have K10 := hid hk;have B10 := hid (hk.blk B9.out HN4.out.1);have BZ10 := hid (hk.blk BZ9.out HN4.out.2.1);have cd27 := B10.out.cell 27;have fz27 := B10.out.frozen 27;clear hr hk hc10)
  obtain ⟨w11,hw11⟩ : ∃ x,x = w10.setCell ⟨g4,27,none⟩ (.slice A10 0 c10) := ⟨_,rfl⟩
  change Code.wp _ _ _ _ (w10.setCell ⟨g4,27,none⟩ (.slice A10 0 c10))
  rw [← hw11]
  have K11 : Hid (Kept (fun b => b = g4) w10 w11) := hid (by rw [hw11];exact Kept.setCell (F := fun b => b = g4) (p := ⟨g4,27,none⟩) w10 rfl _)
  have B11 : Hid (Blk w11 g4 33 [.int .i64 k,.int .i64 s,.int .i64 q,.int .i64 z,.int .i64 s2,.int .i64 q2,.int .i64 z2,.int .i64 nn,.int .i64 m,.string nam,.int .i64 tk,.int .i64 ts,.int .i64 tq,.int .i64 tz,.slice none 0 0,.int .i64 nk,.int .i64 nu,.int .i64 ns,.int .i64 nq,.int .i64 nz,.int .i64 yk,.int .i64 ys,.int .i64 yq,.int .i64 yz,.slice none 0 0,.slice none 0 0,.slice A8 0 c8,.slice A10 0 c10]) := hid (by rw [hw11];exact B10.out.set 27 _)
  have BZ11 : Hid (Blk w11 w.heap.size 33 ZO) := hid (K11.out.blk BZ10.out (by have := HN4.out;omega))
  have R11 : Hid (RdrL lo w11 g _ A11 n11 c11) := hid (R10.out.off (K11.out.mono (fun b _ h => by have := HN4.out;omega)))
  have K011 : Hid (Kept (fun b => b = g) w w11) := hid ((K09.out.trans K10.out).next K11.out (fun b hb h => by have := HN4.out;omega))
  clear hw11 cd27 fz27 R9 R10 BZ9 BZ10 B9 B10 K09 K10 K11 HST
  go_wp2_with (first
   | (refine wpList_load_blk rfl 33 (.tmp 4) rfl g4 (by kernel_rfl) B11.out Tryz.underlying33 rfl (op_info.trans rfl) ?_)
   | (refine wpList_store_blk rfl 33 (.tmp 2) (.tmp 49) (by rfl) w.heap.size [.int .i64 k,.int .i64 s,.int .i64 q,.int .i64 z,.int .i64 s2,.int .i64 q2,.int .i64 z2,.int .i64 nn,.int .i64 m,.string nam,.int .i64 tk,.int .i64 ts,.int .i64 tq,.int .i64 tz,.slice none 0 0,.int .i64 nk,.int .i64 nu,.int .i64 ns,.int .i64 nq,.int .i64 nz,.int .i64 yk,.int .i64 ys,.int .i64 yq,.int .i64 yz,.slice none 0 0,.slice none 0 0,.slice A8 0 c8,.slice A10 0 c10] (by kernel_rfl) (by kernel_rfl) BZ11.out (op_info.trans rfl) rfl (by intro v hv;simp only [List.mem_cons,List.not_mem_nil,or_false] at hv;rcases hv with rfl | rfl | rfl | rfl | rfl | rfl | rfl | rfl | rfl | rfl | rfl | rfl | rfl | rfl | rfl | rfl | rfl | rfl | rfl | rfl | rfl | rfl | rfl | rfl | rfl | rfl | rfl | rfl <;> rfl) ?_;intro w12 hw12 hb12;have K12 : Hid (Kept (fun b => b = w.heap.size) w11 w12) := hid (by rw [hw12.out];exact Kept.setRow (F := fun b => b = w.heap.size) w11 rfl _);clear hw12))
  exact bodyPost_ret (results_blk Tryz.results71 _ _ w.heap.size 33 [.int .i64 k,.int .i64 s,.int .i64 q,.int .i64 z,.int .i64 s2,.int .i64 q2,.int .i64 z2,.int .i64 nn,.int .i64 m,.string nam,.int .i64 tk,.int .i64 ts,.int .i64 tq,.int .i64 tz,.slice none 0 0,.int .i64 nk,.int .i64 nu,.int .i64 ns,.int .i64 nq,.int .i64 nz,.int .i64 yk,.int .i64 ys,.int .i64 yq,.int .i64 yz,.slice none 0 0,.slice none 0 0,.slice A8 0 c8,.slice A10 0 c10] _ (by rfl) hb12 Tryz.underlying33 rfl (op_info.trans rfl)) rfl ⟨⟨A8,A10,c8,c10,rfl,HC8.out,HC10.out⟩,⟨_,_,_,R11.out.off (K12.out.mono (fun b _ h => by have := HLO.out;omega))⟩,K011.out.next K12.out (fun b hb h => by omega)⟩
end Go.Proofs.YtojcmcccahjphaaGreatDoor
