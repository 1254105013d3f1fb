/- The reader of package patch on the encoding of a patch with one operation (without kids, names, texts) that needs no other. Conditions: sizes. -/
import Derived.Test.YtojcmcccahjphaaGreatDoorM25
import Derived.Test.YtojcmcccahjphaaGreatDoorM20
set_option linter.unusedSimpArgs false
set_option linter.unusedVariables false
set_option maxHeartbeats 16000000
set_option maxRecDepth 100000
set_option maxRecDepth 100000
set_option maxHeartbeats 8000000
namespace Go.Proofs.YtojcmcccahjphaaGreatDoor
open Go.RowKit
open Lib (hid)
attribute [local go_sem ↓] wp_at_zero wp_at_succ
theorem kept_undrew {F : Nat → Prop} {w w' : World} (h : Kept F w.drew w') : Kept F w w' := (Kept.of_ext ((Ext.refl w).drew)).trans h
theorem op_winfo : (Tryz.prog.info? 33).map (fun i => (i.zero,i.size,i.bytes)) = some (some (.agg ZO.toArray),28,312) := by kernel_rfl
theorem RdN.fresh_in {W W2 : World} {e : TypeId} {size k : Nat} {o : Obj} (cs : List Value) (ho : o = .cells cs.toArray e) (hk : cs.length = k * size) (h2 : Ext (W.alloc o) W2) : RdN W2 W2.heap.size size (some ⟨W.heap.size,0,none⟩) k cs := by
 have h := RdN.fresh (W := W) cs o W.heap.size size k ho rfl hk
 have hs : (W.alloc o).heap.size = W.heap.size + 1 := by simp
 rw [← hs] at h
 exact (h.below h2 (Nat.le_refl _)).more h2.size
def oneP (shop seq day cl : Int) (o : OpA) (sl : ByteArray) : PatA := ⟨shop,seq,day,[],cl,[o],sl⟩
theorem ppatch_one (lo : Nat) (k s q z s2 q2 z2 nn m : Int) (nam : ByteArray) (tk ts tq tz yk ys yq yz nk nu ns nq nz : Int) (shop seq day cl : Int) (sl : ByteArray) (r : List Int) (A : Option Addr) (n c g : Nat) (w : World) (h : RdrL lo w g (encP (oneP shop seq day cl (opF k s q z s2 q2 z2 nn m nam ⟨tk,⟨ts,tq,tz⟩⟩ ⟨yk,⟨ys,yq,yz⟩⟩ nk nu ns nq nz) sl) ++ r) A n c) (hlo : lo ≤ w.heap.size) (hw : PatW (oneP shop seq day cl (opF k s q z s2 q2 z2 nn m nam ⟨tk,⟨ts,tq,tz⟩⟩ ⟨yk,⟨ys,yq,yz⟩⟩ nk nu ns nq nz) sl)) :
  Calls Tryz.prog 40 #[.pointer (some ⟨g,0,none⟩)] w fun e w' => (∃ (A8 A10 : Option Addr) (c8 c10 : Nat) (A7 : Option Addr) (c7 : Nat),e = .returned (.agg #[.int .i64 shop,.int .i64 seq,.int .i64 day,.slice none 0 0,.int .i64 cl,.slice A7 1 c7,.string sl]) ∧ c8 ≤ 9223372036854775807 ∧ c10 ≤ 9223372036854775807 ∧ RdN w' w'.heap.size 28 A7 1 [.int .i64 k,.int .i64 s,.int .i64 q,.int .i64 z,.int .i64 s2,.int .i64 q2,.int .i64 z2,.int .i64 nn,.int .i64 m,.string nam,.int .i64 tk,.int .i64 ts,.int .i64 tq,.int .i64 tz,.slice none 0 0,.int .i64 nk,.int .i64 nu,.int .i64 ns,.int .i64 nq,.int .i64 nz,.int .i64 yk,.int .i64 ys,.int .i64 yq,.int .i64 yz,.slice none 0 0,.slice none 0 0,.slice A8 0 c8,.slice A10 0 c10] ∧ 1 ≤ c7 ∧ c7 ≤ 9223372036854775807) ∧ (∃ A2 n2 c2,RdrL lo w' g r A2 n2 c2) ∧ Kept (fun b => b = g) w w' := by
 obtain ⟨i0,hi,hz0,hz1,hz2⟩ := info_parts op_winfo
 obtain ⟨r5,hr5⟩ : ∃ l,l = encB sl ++ r := ⟨_,rfl⟩
 obtain ⟨r4,hr4⟩ : ∃ l,l = encO (opF k s q z s2 q2 z2 nn m nam ⟨tk,⟨ts,tq,tz⟩⟩ ⟨yk,⟨ys,yq,yz⟩⟩ nk nu ns nq nz) ++ r5 := ⟨_,rfl⟩
 obtain ⟨r3,hr3⟩ : ∃ l,l = encInt 1 ++ r4 := ⟨_,rfl⟩
 obtain ⟨r2,hr2⟩ : ∃ l,l = encL encInt ([] : List Int) ++ r3 := ⟨_,rfl⟩
 have hl : encP (oneP shop seq day cl (opF k s q z s2 q2 z2 nn m nam ⟨tk,⟨ts,tq,tz⟩⟩ ⟨yk,⟨ys,yq,yz⟩⟩ nk nu ns nq nz) sl) ++ r = encL encInt [shop,seq,day,cl] ++ r2 := by
  rw [hr2,hr3,hr4,hr5]
  unfold encP oneP needI
  simp only [List.flatMap_nil,List.flatMap_cons,List.append_assoc,List.cons_append,List.nil_append,List.append_nil,List.length_cons,List.length_nil]
  rfl
 rw [hl] at h
 have HIA : Hid (∀ W,Ext w W → Calls Tryz.prog 67 #[.pointer (some ⟨g,0,none⟩),.int .i64 4,.int .i64 1] W fun e w' => (∃ A1 c1,e = .returned (.slice A1 4 c1) ∧ w'.ownsRow W.heap.size 3 1 (.slice A1 4 c1) 4 (([shop,seq,day,cl] : List Int).map (Value.int .i64))) ∧ (∃ A2 n2 c2,RdrL lo w' g r2 A2 n2 c2) ∧ Kept (fun b => b = g) W w') := hid (fun W hW => pintsL_enc lo [shop,seq,day,cl] r2 A n c g 4 1 W (h.ext hW) (four_i64 hw.nums) (show 4 ≤ 1000000 by decide) (Or.inr rfl) (Nat.mod_one _) (by decide) (by decide) (by decide))
 have HIB : Hid (∀ (W : World) (A : Option Addr) (n c : Nat),RdrL lo W g r2 A n c → Calls Tryz.prog 67 #[.pointer (some ⟨g,0,none⟩),.int .i64 0,.int .i64 2] W fun e w' => (∃ A1 c1,e = .returned (.slice A1 0 c1) ∧ w'.ownsRow W.heap.size 3 1 (.slice A1 0 c1) 0 []) ∧ (∃ A2 n2 c2,RdrL lo w' g r3 A2 n2 c2) ∧ Kept (fun b => b = g) W w') := hid (fun W A n c h2 => by
  rw [hr2] at h2
  exact pintsL_enc lo [] _ A n c g 0 2 W h2 (fun x hx => by cases hx) (by decide) (Or.inl rfl) (Nat.zero_mod _) (by decide) (by decide) (by decide))
 have HGN : Hid (∀ (W : World) (A : Option Addr) (n c : Nat),RdrL lo W g r3 A n c → ∃ u : Nat,Calls Tryz.prog 69 #[.slice A n c] W (fun e w' => e = .returned (.tuple #[.int .i64 1,.int .i64 (u : Int),.int .i64 0]) ∧ W = w') ∧ Calls Tryz.prog 70 #[.pointer (some ⟨g,0,none⟩),.int .i64 (u : Int),.int .i64 0] W (fun e w' => e = .returned (.tuple #[]) ∧ (∃ A2 n2 c2,RdrL lo w' g r4 A2 n2 c2) ∧ Kept (fun b => b = g) W w')) := hid (fun W A n c h2 => by
  have hg : getI r3 = (1,((encInt 1).length : Int),0) := by rw [hr3];exact getI_enc 1 r4 (by decide) (by decide)
  have hu : (encInt 1).length ≤ n := by
   have h3 := h2.rd.row.1
   rw [u8s_length,hr3,List.length_append] at h3
   omega
  have hdr : r3.drop (encInt 1).length = r4 := by rw [hr3,List.drop_left]
  have h4 := gint_any _ A n c W h2.rd.row h2.rd.byt h2.rd.nc h2.rd.cap
  unfold tup3 at h4
  rw [hg] at h4
  refine ⟨(encInt 1).length,h4,(took_any _ A n c g _ false 0 W h2.rd hu).mono fun e w' ⟨h5,h6,h7⟩ => ⟨h5,⟨_,_,_,h2.next (l' := r4) (by rw [hdr] at h6;exact h6) (restA_same c _ h2.rd.row hu)⟩,h7⟩⟩)
 have HOP : Hid (∀ (W : World) (A : Option Addr) (n c : Nat),lo ≤ W.heap.size → RdrL lo W g r4 A n c → Calls Tryz.prog 71 #[.pointer (some ⟨g,0,none⟩)] W fun e w' => (∃ A8 A10 c8 c10,e = .returned (.agg #[.int .i64 k,.int .i64 s,.int .i64 q,.int .i64 z,.int .i64 s2,.int .i64 q2,.int .i64 z2,.int .i64 nn,.int .i64 m,.string nam,.int .i64 tk,.int .i64 ts,.int .i64 tq,.int .i64 tz,.slice none 0 0,.int .i64 nk,.int .i64 nu,.int .i64 ns,.int .i64 nq,.int .i64 nz,.int .i64 yk,.int .i64 ys,.int .i64 yq,.int .i64 yz,.slice none 0 0,.slice none 0 0,.slice A8 0 c8,.slice A10 0 c10]) ∧ c8 ≤ 9223372036854775807 ∧ c10 ≤ 9223372036854775807) ∧ (∃ A2 n2 c2,RdrL lo w' g r5 A2 n2 c2) ∧ Kept (fun b => b = g) W w') := hid (fun W A n c h1 h2 => by
  rw [hr4] at h2
  exact pop_enc lo k s q z s2 q2 z2 nn m nam ⟨tk,⟨ts,tq,tz⟩⟩ ⟨yk,⟨ys,yq,yz⟩⟩ nk nu ns nq nz r5 A n c g W h2 h1 (hw.ops _ (List.mem_singleton.2 rfl)))
 have HTX : Hid (∀ (W : World) (A : Option Addr) (n c : Nat),RdrL lo W g r5 A n c → Calls Tryz.prog 72 #[.pointer (some ⟨g,0,none⟩)] W fun e w' => e = .returned (.string sl) ∧ (∃ A2 n2 c2,RdrL lo w' g r A2 n2 c2) ∧ Kept (fun b => b = g) W w') := hid (fun W A n c h2 => by
  rw [hr5] at h2
  exact textL_enc lo sl r A n c g W h2 hw.sl)
 have HCH : Hid (∀ (B : Option Addr) (dd : Nat) (W : World),Calls Tryz.prog 68 #[.slice B 0 dd,.int .i64 2] W fun e w' => e = .returned (.func (.func 81) #[] #[.pointer (some ⟨W.heap.size,0,none⟩),.pointer (some ⟨W.heap.size + 1,0,none⟩)]) ∧ w' = (W.alloc (.cells #[.slice B 0 dd] 43)).alloc (.cells #[.int .i64 2] 3)) := hid (fun B dd W => chunk_any B 0 dd 2 (by decide) W)
 have HLO : Hid (g < lo ∧ lo ≤ w.heap.size) := hid ⟨h.lt,hlo⟩
 have zz := zero_pat
 clear h hlo hw hr2 hr3 hr4 hr5 hl
 refine callsIn_wide.1 (callsIn_of_wp_marks (n := 8) Tryz.func40 rfl trivial (wpIn_wide.2 ?_) rfl)
 simp only [Tryz.ntmps40,List.size_toArray,List.length_cons,List.length_nil,Nat.reduceAdd,Nat.reduceSub,Array.replicate_succ,Array.replicate_zero,List.push_toArray,List.append_toArray,List.nil_append,List.cons_append]
 go_upto_region 1 with fail
 obtain ⟨w1,hw1⟩ : ∃ x,x = w.alloc (.cells P0.toArray 37) := ⟨_,rfl⟩
 change Code.wp _ _ _ _ (w.alloc (.cells P0.toArray 37))
 rw [← hw1]
 have E1 : Hid (Ext w w1) := hid (by rw [hw1];exact (Ext.refl w).alloc _)
 have BZ1 : Hid (Blk w1 w.heap.size 37 P0) := hid (by rw [hw1];exact Blk.fresh' _ _ _ _ _ rfl rfl)
 clear hw1
 go_upto_region 2 with (go_at_call 67;(with_reducible refine (HIA.out w1 E1.out).mono ?_);rintro e w2 ⟨⟨A1,c1,rfl,ho1⟩,⟨A2,n2,c2,hr2⟩,hk2⟩;have HO1 := hid ho1;have R2 := hid hr2;have K2 := hid hk2;clear ho1 hr2 hk2)
 obtain ⟨g1,rfl,hg1a,hg1b,hg1c⟩ := own_cell0 HO1.out (by decide)
 have BZ2 : Hid (Blk w2 w.heap.size 37 P0) := hid (K2.out.blk BZ1.out (by have := HLO.out;omega))
 have HCC : Hid (∀ W,Ext w2 W → ∀ (j : Nat) (x : Int),([shop,seq,day,cl] : List Int)[j]? = some x → W.cell? ⟨g1,j,none⟩ = some (.int .i64 x)) := hid (fun W hW j x hx => (hW.cell (p := ⟨g1,j,none⟩) hg1b).trans (hg1c j x hx))
 have HG1 : Hid (w.heap.size ≤ g1 ∧ g1 < w2.heap.size) := hid ⟨Nat.le_trans E1.out.size hg1a,hg1b⟩
 have K02 : Hid (Kept (fun b => b = g) w w2) := hid ((Kept.of_ext E1.out).trans K2.out)
 clear HO1 hg1a hg1b hg1c BZ1 E1 K2
 refine wp_region_flowF 14 ?FW1 (fun us => ?_) (by kernel_rfl) (by kernel_rfl) (fun a b => Ext a b) Ext.refl (fun h1 h2 => h1.next h2) (fun i v W => match i with
  | 0 => v = .slice (some ⟨g1,0,none⟩) 4 c1
  | 1 => v = .pointer (some ⟨g1,0,none⟩)
  | 2 => v = .int .i64 shop
  | 3 => v = .slice (some ⟨g1,0,none⟩) 4 c1
  | 4 => v = .pointer (some ⟨g1,1,none⟩)
  | 5 => v = .int .i64 seq
  | 6 => v = .slice (some ⟨g1,0,none⟩) 4 c1
  | 7 => v = .pointer (some ⟨g1,2,none⟩)
  | 8 => v = .int .i64 day
  | 9 => v = .slice (some ⟨g1,0,none⟩) 4 c1
  | 10 => v = .pointer (some ⟨g1,3,none⟩)
  | 11 => v = .int .i64 cl
  | 12 => v = .agg ([.int .i64 shop,.int .i64 seq,.int .i64 day,.slice none 0 0,.int .i64 cl,.slice none 0 0,.string ⟨#[]⟩] : List Value).toArray
  | 13 => ∃ gz : Nat,v = .pointer (some ⟨gz,0,none⟩) ∧ w2.heap.size ≤ gz ∧ Blk W gz 37 P0
  | _ => True) ?_ ?_
 case refine_1 =>
  simp only [List.take_succ_cons,List.take_zero,flowAct,Nat.zero_add,Nat.reduceAdd,Act.put,List.setIfInBounds_toArray,List.set_cons_succ,List.set_cons_zero]
  rfl
 ·simp only [List.take_succ_cons,List.take_zero,flowStepsF]
  refine ⟨?_,?_,?_,?_,?_,?_,?_,?_,?_,?_,?_,?_,?_,?_,trivial⟩
  ·intro us W K hE hd hK
   dsimp only at hK ⊢
   have HK := hid hK;have HE := hid hE
   clear hK hd hE
   go_wp2_with fail
   exact K_at (HK.out (.slice (some ⟨g1,0,none⟩) 4 c1) W (fun _ _ => rfl) (Ext.refl W)) (by kernel_rfl)
  ·intro us W K hE hd hK
   have d0 := hd 0 (by kernel_rfl)
   dsimp only at hK ⊢
   rw [d0] at hK ⊢
   have HK := hid hK;have HE := hid hE
   clear hK hd hE d0
   go_wp2_with fail
   exact K_at (HK.out (.pointer (some ⟨g1,0,none⟩)) W (fun _ _ => rfl) (Ext.refl W)) (by kernel_rfl)
  ·intro us W K hE hd hK
   have d1 := hd 1 (by kernel_rfl)
   have cc : W.cell? ⟨g1,0,none⟩ = some (.int .i64 shop) := HCC.out W (sg_undrew hE) 0 shop rfl
   dsimp only at hK ⊢
   rw [d1] at hK ⊢
   have HK := hid hK;have HE := hid hE
   clear hK hd hE d1
   go_wp2_with fail
   exact K_at (HK.out (.int .i64 shop) W (fun _ _ => rfl) (Ext.refl W)) (by kernel_rfl)
  ·intro us W K hE hd hK
   dsimp only at hK ⊢
   have HK := hid hK;have HE := hid hE
   clear hK hd hE
   go_wp2_with fail
   exact K_at (HK.out (.slice (some ⟨g1,0,none⟩) 4 c1) W (fun _ _ => rfl) (Ext.refl W)) (by kernel_rfl)
  ·intro us W K hE hd hK
   have d3 := hd 3 (by kernel_rfl)
   dsimp only at hK ⊢
   rw [d3] at hK ⊢
   have HK := hid hK;have HE := hid hE
   clear hK hd hE d3
   go_wp2_with fail
   exact K_at (HK.out (.pointer (some ⟨g1,1,none⟩)) W (fun _ _ => rfl) (Ext.refl W)) (by kernel_rfl)
  ·intro us W K hE hd hK
   have d4 := hd 4 (by kernel_rfl)
   have cc : W.cell? ⟨g1,1,none⟩ = some (.int .i64 seq) := HCC.out W (sg_undrew hE) 1 seq rfl
   dsimp only at hK ⊢
   rw [d4] at hK ⊢
   have HK := hid hK;have HE := hid hE
   clear hK hd hE d4
   go_wp2_with fail
   exact K_at (HK.out (.int .i64 seq) W (fun _ _ => rfl) (Ext.refl W)) (by kernel_rfl)
  ·intro us W K hE hd hK
   dsimp only at hK ⊢
   have HK := hid hK;have HE := hid hE
   clear hK hd hE
   go_wp2_with fail
   exact K_at (HK.out (.slice (some ⟨g1,0,none⟩) 4 c1) W (fun _ _ => rfl) (Ext.refl W)) (by kernel_rfl)
  ·intro us W K hE hd hK
   have d6 := hd 6 (by kernel_rfl)
   dsimp only at hK ⊢
   rw [d6] at hK ⊢
   have HK := hid hK;have HE := hid hE
   clear hK hd hE d6
   go_wp2_with fail
   exact K_at (HK.out (.pointer (some ⟨g1,2,none⟩)) W (fun _ _ => rfl) (Ext.refl W)) (by kernel_rfl)
  ·intro us W K hE hd hK
   have d7 := hd 7 (by kernel_rfl)
   have cc : W.cell? ⟨g1,2,none⟩ = some (.int .i64 day) := HCC.out W (sg_undrew hE) 2 day rfl
   dsimp only at hK ⊢
   rw [d7] at hK ⊢
   have HK := hid hK;have HE := hid hE
   clear hK hd hE d7
   go_wp2_with fail
   exact K_at (HK.out (.int .i64 day) W (fun _ _ => rfl) (Ext.refl W)) (by kernel_rfl)
  ·intro us W K hE hd hK
   dsimp only at hK ⊢
   have HK := hid hK;have HE := hid hE
   clear hK hd hE
   go_wp2_with fail
   exact K_at (HK.out (.slice (some ⟨g1,0,none⟩) 4 c1) W (fun _ _ => rfl) (Ext.refl W)) (by kernel_rfl)
  ·intro us W K hE hd hK
   have d9 := hd 9 (by kernel_rfl)
   dsimp only at hK ⊢
   rw [d9] at hK ⊢
   have HK := hid hK;have HE := hid hE
   clear hK hd hE d9
   go_wp2_with fail
   exact K_at (HK.out (.pointer (some ⟨g1,3,none⟩)) W (fun _ _ => rfl) (Ext.refl W)) (by kernel_rfl)
  ·intro us W K hE hd hK
   have d10 := hd 10 (by kernel_rfl)
   have cc : W.cell? ⟨g1,3,none⟩ = some (.int .i64 cl) := HCC.out W (sg_undrew hE) 3 cl rfl
   dsimp only at hK ⊢
   rw [d10] at hK ⊢
   have HK := hid hK;have HE := hid hE
   clear hK hd hE d10
   go_wp2_with fail
   exact K_at (HK.out (.int .i64 cl) W (fun _ _ => rfl) (Ext.refl W)) (by kernel_rfl)
  ·intro us W K hE hd hK
   have d2 := hd 2 (by kernel_rfl)
   have d5 := hd 5 (by kernel_rfl)
   have d8 := hd 8 (by kernel_rfl)
   have d11 := hd 11 (by kernel_rfl)
   dsimp only at hK ⊢
   rw [d2,d5,d8,d11] at hK ⊢
   have HK := hid hK;have HE := hid hE
   clear hK hd hE d2 d5 d8 d11
   go_wp2_with ((refine wpList_build_eq (by rfl) 37 _ rfl _ (by kernel_rfl) _ (build_pat shop seq day cl) ?_))
   exact K_at (HK.out (.agg ([.int .i64 shop,.int .i64 seq,.int .i64 day,.slice none 0 0,.int .i64 cl,.slice none 0 0,.string ⟨#[]⟩] : List Value).toArray) W (fun _ _ => rfl) (Ext.refl W)) (by kernel_rfl)
  ·intro us W K hE hd hK
   have HSW := hid (sg_undrew hE).size
   dsimp only at hK ⊢
   have HK := hid hK;have HE := hid hE
   clear hK hd hE
   go_wp2_with fail
   exact K_at (HK.out (.pointer (some ⟨W.heap.size,0,none⟩)) (W.alloc (.cells P0.toArray 37)) (fun W2 hW2 => ⟨W.heap.size,rfl,HSW.out,(Blk.fresh' W 37 P0 _ _ rfl rfl).ext hW2⟩) ((Ext.refl W).alloc _)) (by kernel_rfl)
 ·intro us W hE hd
  try dsimp only
  have d12 := hd 12 (by decide)
  obtain ⟨g4,d13,hg4,hb4⟩ := hd 13 (by decide)
  simp only [List.drop_succ_cons,List.drop_zero]
  rw [d12,d13]
  have EW := hid (sg_undrew hE)
  have B4 := hid hb4
  have HG4 := hid hg4
  clear hd hE d12 d13 hb4 hg4
  go_upto_region 3 with (refine wpList_store_blk rfl 37 (.tmp 4) (.tmp 24) rfl g4 [.int .i64 shop,.int .i64 seq,.int .i64 day,.slice none 0 0,.int .i64 cl,.slice none 0 0,.string ⟨#[]⟩] (by kernel_rfl) (by kernel_rfl) B4.out (info_pat.trans rfl) rfl (by intro v hv;simp only [List.mem_cons,List.not_mem_nil,or_false] at hv;rcases hv with rfl | rfl | rfl | rfl | rfl | rfl | rfl <;> rfl) ?_;intro w3 hw3 hb3;have B3 : Hid (Blk w3 g4 37 [.int .i64 shop,.int .i64 seq,.int .i64 day,.slice none 0 0,.int .i64 cl,.slice none 0 0,.string ⟨#[]⟩]) := hid hb3;have E23 : Hid (Ext w2 w3) := hid (by rw [hw3.out];exact EW.out.setRow HG4.out _);clear hw3 hb3)
  have R3 := hid (R2.out.ext E23.out)
  have BZ3 := hid (BZ2.out.ext E23.out)
  have K03 : Hid (Kept (fun b => b = g) w w3) := hid (K02.out.trans (Kept.of_ext E23.out))
  have HGW : Hid (w.heap.size < w2.heap.size) := hid BZ2.out.lt
  have HG44 : Hid (g4 < w3.heap.size) := hid B3.out.lt
  clear R2 BZ2 K02 EW B4
  have HN4 : Hid (g4 ≠ g ∧ w.heap.size ≠ g ∧ lo ≤ g4 ∧ w.heap.size < g4) := hid (by have h1 := HG4.out;have h2 := HLO.out;have h3 := HGW.out;omega)
  obtain ⟨w5,hw5⟩ : ∃ x : World,x = w3 := ⟨_,rfl⟩
  rw [← hw5] at B3 BZ3 R3 K03 E23 HG44 ⊢
  have B5 := B3;have BZ5 := BZ3;have R5 := R3;have K05 := K03
  clear hw5 B3 BZ3 R3 K03 E23
  go_upto_region 4 with (first
   | (go_at_call 67;(with_reducible refine (HIB.out w5 _ _ _ R5.out).mono ?_);rintro e w6 ⟨⟨A5,c5,rfl,ho5⟩,⟨A6,n6,c6,hr6⟩,hk6⟩;have HO5 := hid ho5;have R6 := hid hr6;have K6 := hid hk6;have B6 := hid (hk6.blk B5.out HN4.out.1);have BZ6 := hid (hk6.blk BZ5.out HN4.out.2.1);clear ho5 hr6 hk6)
   | (go_at_call 68;(with_reducible refine (HCH.out _ _ w6).mono ?_);rintro e w9 ⟨rfl,rfl⟩))
  obtain ⟨w7,hw7⟩ : ∃ x,x = ((w6.alloc (.cells #[.slice A5 0 c5] 43)).alloc (.cells #[.int .i64 2] 3)) := ⟨_,rfl⟩
  change Code.wp _ _ _ _ ((w6.alloc (.cells #[.slice A5 0 c5] 43)).alloc (.cells #[.int .i64 2] 3))
  rw [← hw7]
  have E67 : Hid (Ext w6 w7) := hid (by rw [hw7];exact ((Ext.refl w6).alloc _).alloc _)
  have HSZ : Hid (w7.heap.size = w6.heap.size + 2) := hid (by rw [hw7];simp)
  have HBs : w7.cell? ⟨w6.heap.size,0,none⟩ = some (.slice A5 0 c5) := by rw [hw7];exact ((Blk.fresh' w6 43 [.slice A5 0 c5] _ _ rfl rfl).alloc _).cell 0
  have HBn : w7.cell? ⟨w6.heap.size + 1,0,none⟩ = some (.int .i64 2) := by rw [hw7];exact (Blk.fresh' _ 3 [.int .i64 2] _ _ rfl (by simp)).cell 0
  have R7 := hid (R6.out.ext E67.out)
  have BZ7 := hid (BZ6.out.ext E67.out)
  have B7 := hid (B6.out.ext E67.out)
  have K07 : Hid (Kept (fun b => b = g) w w7) := hid ((K05.out.trans K6.out).trans (Kept.of_ext E67.out))
  have HG47 : Hid (g4 < w7.heap.size ∧ w.heap.size < w7.heap.size ∧ g < w7.heap.size) := hid ⟨B7.out.lt,BZ7.out.lt,R7.out.rd.blk.lt⟩
  have hcp := (slice_cap HO5.out).2
  unfold maxLen at hcp
  have hs6 := HSZ.out
  clear hw7 HIA HIB HCH R5 R6 BZ5 BZ6 B5 B6 K05 K6 E67 HO5
  refine (wpIn_wide (n := 6)).1 ?_
  refine wpIn_rangeFunc_ownF (α := Bel 0) rfl (by decide) (gf := 81) (lb := #[.pointer (some ⟨w6.heap.size,0,none⟩),.pointer (some ⟨w6.heap.size + 1,0,none⟩)]) rfl trivial (enters_of Tryz.func81 (by kernel_rfl) rfl)
   (chunk1_stops w6.heap.size (w6.heap.size + 1) 0 c5 2 0 A5 (by decide) rfl (Nat.zero_le _) (by omega) w7 (by omega) (by omega) HBs HBn 0 0 (fun h => absurd h (Nat.lt_irrefl _))) (fun h k => KpB.trans h k) (fun W l ob ob' hl _ _ _ => ⟨World.cell?_of_block (World.putObj_heap_other (by show w6.heap.size ≠ l;omega)),World.cell?_of_block (World.putObj_heap_other (by show w6.heap.size + 1 ≠ l;omega))⟩) (Below.refl _ _) (fun _ => rfl)
   (fun _ W => Ext w7 W) (fun _ _ _ => False) ?hI (fun _ _ _ _ _ hs _ _ => hs) (Ext.refl _) (fun x => absurd x.2 (Nat.not_lt_zero _)) ?assign ?body ?done ?stop
  case hI =>
   rintro pre W W' row h hg hr
   exact (Kept.of_ext (F := fun _ => False) h).next (Kept.of_grown (F := fun b => row = some b) hg (fun b hb _ => hb)) (fun b hb he => by have := (hr b he).1;omega) |>.ext (fun _ h => h.elim)
  case assign =>
   intro l x W K hK
   exact absurd x.2 (Nat.not_lt_zero _)
  case body =>
   intro l0 pre x W0 _ hlt
   exact absurd hlt (Nat.not_lt_zero _)
  case stop =>
   rintro D cd pre W _ _ h _
   exact h.elim
  case done =>
   rintro D ys W hD rfl hE hKD
   have EW := hid hE;have HKD := hid hKD;have HD := hid hD
   have RW := hid (R7.out.ext hE)
   have BZW := hid (BZ7.out.ext hE)
   have BPW := hid (B7.out.ext hE)
   have KW : Hid (Kept (fun b => b = g) w W) := hid (K07.out.trans (Kept.of_ext hE))
   have HDD : Hid (D ≠ g ∧ D ≠ g4 ∧ D ≠ w.heap.size ∧ D < W.heap.size ∧ lo ≤ D ∧ w.heap.size ≤ D ∧ g4 < W.heap.size ∧ w.heap.size < W.heap.size) := hid (by
    have h1 := HD.out
    have h2 := HG47.out
    have h3 := HLO.out
    have h4 : D < W.heap.size := (Array.getElem?_eq_some_iff.1 HKD.out).1
    have h5 := EW.out.size
    omega)
   clear hE hKD hD HBs HBn R7 BZ7 B7 K07 hcp hs6
   obtain ⟨u,hgi,htk⟩ := HGN.out W _ _ _ RW.out
   have HGI := hid hgi;have HTK := hid htk
   have c0 := RW.out.rd.blk.cell 0
   clear hgi htk
   go_upto_region 8 with (first
    | (go_at_call 69;(with_reducible refine HGI.out.mono ?_);rintro e7 w7' ⟨rfl,rfl⟩)
    | (go_at_call 70;(with_reducible refine HTK.out.mono ?_);rintro e8 w8 ⟨rfl,⟨A8,n8,c8,hr8⟩,hk8⟩;have R8 := hid hr8;have K8 := hid hk8;clear hr8 hk8))
   have c81 := R8.out.rd.blk.cell 1
   have f81 := R8.out.rd.blk.frozen 1
   go_upto_region 9 with fail
   obtain ⟨w9,hw9⟩ : ∃ x,x = w8.setCell ⟨g,1,none⟩ (.bool false) := ⟨_,rfl⟩
   change Code.wp _ _ _ _ (w8.setCell ⟨g,1,none⟩ (.bool false))
   rw [← hw9]
   have K89 : Hid (Kept (fun b => b = g) w8 w9) := hid (by rw [hw9];exact Kept.setCell (F := fun b => b = g) (p := ⟨g,1,none⟩) w8 rfl _)
   have R9 : Hid (RdrL lo w9 g r4 A8 n8 c8) := hid (by
    have hb : Blk w9 g 80 [.slice A8 n8 c8,.bool false] := by rw [hw9];exact R8.out.rd.blk.set 1 _
    exact ⟨⟨hb,R8.out.rd.keep K89.out,R8.out.rd.byt,R8.out.rd.nc,R8.out.rd.cap,R8.out.rd.few⟩,R8.out.loc,R8.out.lt⟩)
   have KW9 : Hid (Kept (fun b => b = g) W w9) := hid (K8.out.trans K89.out)
   have BP9 : Hid (Blk w9 g4 37 [.int .i64 shop,.int .i64 seq,.int .i64 day,.slice none 0 0,.int .i64 cl,.slice none 0 0,.string ⟨#[]⟩]) := hid (KW9.out.blk BPW.out HN4.out.1)
   have BZ9 : Hid (Blk w9 w.heap.size 37 P0) := hid (KW9.out.blk BZW.out HN4.out.2.1)
   have HD9 : Hid (w9.heap[D]? = some (.deferred (some []))) := hid ((KW9.out.block D HDD.out.2.2.2.1 (fun e => HDD.out.1 e)).trans HKD.out)
   have K09 : Hid (Kept (fun b => b = g) w w9) := hid (KW.out.trans KW9.out)
   have HD99 : Hid (D < w9.heap.size ∧ g4 < w9.heap.size ∧ w.heap.size < w9.heap.size ∧ lo ≤ w9.heap.size) := hid (by have h1 := HDD.out;have h2 := KW9.out.size;have h3 := HLO.out;omega)
   have c91 := R9.out.rd.blk.cell 1
   clear hw9 c0 c81 f81 R8 K8 K89 HGI HTK HGN RW BZW BPW KW KW9 HKD
   go_wp2_with fail
   go_loopw [9] (fun s9 wr => (s9 = .int .i64 0 ∧ w9 = wr) ∨ (s9 = .int .i64 1 ∧ ∃ (A8 A10 : Option Addr) (c8 c10 : Nat) (A7 : Option Addr) (c7 : Nat) (A2 : Option Addr) (n2 c2 : Nat),c8 ≤ 9223372036854775807 ∧ c10 ≤ 9223372036854775807 ∧ Blk wr g4 37 [.int .i64 shop,.int .i64 seq,.int .i64 day,.slice none 0 0,.int .i64 cl,.slice A7 1 c7,.string ⟨#[]⟩] ∧ wr.ownsRow w9.heap.size 33 28 (.slice A7 1 c7) 1 [.int .i64 k,.int .i64 s,.int .i64 q,.int .i64 z,.int .i64 s2,.int .i64 q2,.int .i64 z2,.int .i64 nn,.int .i64 m,.string nam,.int .i64 tk,.int .i64 ts,.int .i64 tq,.int .i64 tz,.slice none 0 0,.int .i64 nk,.int .i64 nu,.int .i64 ns,.int .i64 nq,.int .i64 nz,.int .i64 yk,.int .i64 ys,.int .i64 yq,.int .i64 yz,.slice none 0 0,.slice none 0 0,.slice A8 0 c8,.slice A10 0 c10] ∧ RdrL lo wr g r5 A2 n2 c2 ∧ Blk wr w.heap.size 37 P0 ∧ wr.heap[D]? = some (.deferred (some [])) ∧ w9.heap.size ≤ wr.heap.size ∧ Kept (fun b => b = g) w wr)) (fun s9 _ => 1 - (intOf s9).toNat)
   case atStart => exact Or.inl ⟨rfl,rfl⟩
   case round =>
    rcases hrel with ⟨rfl,rfl⟩ | ⟨rfl,A8',A10,c8',c10,A7,c7,A2,n2,c2,h8,h10,hbp,hown,hrd,hbz,hd,hsz,hkk⟩
    ·go_upto_region 12 with fail
     clear c91
     refine wp_region_flowV 7 3 _ (fun i => i == 0 || i == 1 || i == 2 || i == 6) (fun i => i == 4 || i == 5) ?FV12 (fun us => ?_) (by kernel_rfl) (by kernel_rfl) (by kernel_rfl) rfl (fun a b => Kept (fun k => k = g) a b) (fun a b => Ext a b) Ext.refl (fun h => Kept.of_ext h) (fun h1 h2 => h1.trans h2) (fun h1 h2 => h1.next h2) (fun i v W => match i with
      | 0 => v = .pointer (some ⟨g4,5,none⟩)
      | 1 => v = .slice none 0 0
      | 2 => v = .pointer (some ⟨g,0,none⟩)
      | 3 => ∃ (A8 A10 : Option Addr) (c8 c10 : Nat),v = .agg #[.int .i64 k,.int .i64 s,.int .i64 q,.int .i64 z,.int .i64 s2,.int .i64 q2,.int .i64 z2,.int .i64 nn,.int .i64 m,.string nam,.int .i64 tk,.int .i64 ts,.int .i64 tq,.int .i64 tz,.slice none 0 0,.int .i64 nk,.int .i64 nu,.int .i64 ns,.int .i64 nq,.int .i64 nz,.int .i64 yk,.int .i64 ys,.int .i64 yq,.int .i64 yz,.slice none 0 0,.slice none 0 0,.slice A8 0 c8,.slice A10 0 c10] ∧ c8 ≤ 9223372036854775807 ∧ c10 ≤ 9223372036854775807 ∧ (∃ A2 n2 c2,RdrL lo W g r5 A2 n2 c2) ∧ Kept (fun b => b = g) w9 W
      | 4 => ∃ (A8 A10 : Option Addr) (c8 c10 gb : Nat),v = .slice (some ⟨gb,0,none⟩) 1 1 ∧ c8 ≤ 9223372036854775807 ∧ c10 ≤ 9223372036854775807 ∧ RdN W W.heap.size 28 (some ⟨gb,0,none⟩) 1 [.int .i64 k,.int .i64 s,.int .i64 q,.int .i64 z,.int .i64 s2,.int .i64 q2,.int .i64 z2,.int .i64 nn,.int .i64 m,.string nam,.int .i64 tk,.int .i64 ts,.int .i64 tq,.int .i64 tz,.slice none 0 0,.int .i64 nk,.int .i64 nu,.int .i64 ns,.int .i64 nq,.int .i64 nz,.int .i64 yk,.int .i64 ys,.int .i64 yq,.int .i64 yz,.slice none 0 0,.slice none 0 0,.slice A8 0 c8,.slice A10 0 c10]
      | 5 => ∃ (A8 A10 : Option Addr) (c8 c10 : Nat) (A7 : Option Addr) (c7 : Nat),v = .slice A7 1 c7 ∧ c8 ≤ 9223372036854775807 ∧ c10 ≤ 9223372036854775807 ∧ W.ownsRow w9.heap.size 33 28 (.slice A7 1 c7) 1 [.int .i64 k,.int .i64 s,.int .i64 q,.int .i64 z,.int .i64 s2,.int .i64 q2,.int .i64 z2,.int .i64 nn,.int .i64 m,.string nam,.int .i64 tk,.int .i64 ts,.int .i64 tq,.int .i64 tz,.slice none 0 0,.int .i64 nk,.int .i64 nu,.int .i64 ns,.int .i64 nq,.int .i64 nz,.int .i64 yk,.int .i64 ys,.int .i64 yq,.int .i64 yz,.slice none 0 0,.slice none 0 0,.slice A8 0 c8,.slice A10 0 c10]
      | 6 => v = .pointer (some ⟨g4,5,none⟩)
      | _ => True) ?_ ?_
     case refine_1 =>
      simp only [List.take_succ_cons,List.take_zero,flowAct,Nat.zero_add,Nat.reduceAdd,Act.put,List.setIfInBounds_toArray,List.set_cons_succ,List.set_cons_zero]
      rfl
     ·simp only [List.take_succ_cons,List.take_zero,flowStepsV]
      refine ⟨?_,?_,?_,?_,?_,?_,?_,trivial⟩
      ·intro us W K hE1 hE2 hd hK
       simp only [Nat.reduceBEq,Bool.not_true,Bool.not_false,Bool.or_true,Bool.or_false,Bool.true_or,Bool.false_or,cond_true,cond_false] at hK ⊢
       have HK := hid hK;have HE1 := hid hE1
       clear hK hd hE1 hE2
       go_wp2_with fail
       exact K_at (HK.out (.pointer (some ⟨g4,5,none⟩)) W (fun _ _ => rfl) (Ext.refl W)) (by kernel_rfl)
      ·intro us W K hE1 hE2 hd hK
       have d0 := hd 0 (by kernel_rfl) (by kernel_rfl)
       have cc : W.cell? ⟨g4,5,none⟩ = some (.slice none 0 0) := ((kept_undrew hE1).blk BP9.out HN4.out.1).cell 5
       simp only [Nat.reduceBEq,Bool.not_true,Bool.not_false,Bool.or_true,Bool.or_false,Bool.true_or,Bool.false_or,cond_true,cond_false] at hK ⊢
       rw [d0] at hK ⊢
       have HK := hid hK;have HE1 := hid hE1
       clear hK hd hE1 hE2 d0
       go_wp2_with fail
       exact K_at (HK.out (.slice none 0 0) W (fun _ _ => rfl) (Ext.refl W)) (by kernel_rfl)
      ·intro us W K hE1 hE2 hd hK
       simp only [Nat.reduceBEq,Bool.not_true,Bool.not_false,Bool.or_true,Bool.or_false,Bool.true_or,Bool.false_or,cond_true,cond_false] at hK ⊢
       have HK := hid hK;have HE1 := hid hE1
       clear hK hd hE1 hE2
       go_wp2_with fail
       exact K_at (HK.out (.pointer (some ⟨g,0,none⟩)) W (fun _ _ => rfl) (Ext.refl W)) (by kernel_rfl)
      ·intro us W K hE1 hE2 hd hK
       have hE := hE2 (by kernel_rfl)
       have d2 := hd 2 (by kernel_rfl) (by kernel_rfl)
       have HOW := hid (HOP.out W _ _ _ (Nat.le_trans HD99.out.2.2.2 (sg_undrew hE).size) (R9.out.ext (sg_undrew hE)))
       have EWW := hid (sg_undrew hE)
       simp only [Nat.reduceBEq,Bool.not_true,Bool.not_false,Bool.or_true,Bool.or_false,Bool.true_or,Bool.false_or,cond_true,cond_false] at hK ⊢
       rw [d2] at hK ⊢
       have HK := hid hK;have HE1 := hid hE1
       have HE := hid hE
       clear hE
       clear hK hd hE1 hE2 d2
       go_wp2_with ((go_at_call 71;(with_reducible refine HOW.out.mono ?_);rintro e w6 ⟨⟨B8,B10,e8,e10,rfl,h8,h10⟩,⟨A2,n2,c2,hr6⟩,hk6⟩;have H8 := hid h8;have H10 := hid h10;have R6 := hid hr6;have KW6 := hid hk6;have K6 : Hid (Kept (fun b => b = g) w9 w6) := hid ((Kept.of_ext EWW.out).trans hk6);clear h8 h10 hr6 hk6))
       exact K_at (HK.out (.agg #[.int .i64 k,.int .i64 s,.int .i64 q,.int .i64 z,.int .i64 s2,.int .i64 q2,.int .i64 z2,.int .i64 nn,.int .i64 m,.string nam,.int .i64 tk,.int .i64 ts,.int .i64 tq,.int .i64 tz,.slice none 0 0,.int .i64 nk,.int .i64 nu,.int .i64 ns,.int .i64 nq,.int .i64 nz,.int .i64 yk,.int .i64 ys,.int .i64 yq,.int .i64 yz,.slice none 0 0,.slice none 0 0,.slice B8 0 e8,.slice B10 0 e10]) w6 (fun W2 h2 => ⟨B8,B10,e8,e10,rfl,H8.out,H10.out,⟨_,_,_,R6.out.ext h2⟩,K6.out.trans (Kept.of_ext h2)⟩) KW6.out) (by kernel_rfl)
      ·intro us W K hE1 hE2 hd hK
       obtain ⟨B8,B10,e8,e10,d3,h8,h10,_,_⟩ := hd 3 (by kernel_rfl) (by kernel_rfl)
       have H8 := hid h8;have H10 := hid h10
       clear h8 h10
       simp only [Nat.reduceBEq,Bool.not_true,Bool.not_false,Bool.or_true,Bool.or_false,Bool.true_or,Bool.false_or,cond_true,cond_false] at hK ⊢
       rw [d3] at hK ⊢
       have HK := hid hK;have HE1 := hid hE1
       clear hK hd hE1 hE2 d3
       go_wp2_with fail
       exact K_at (HK.out (.slice (some ⟨W.heap.size,0,none⟩) 1 1) (W.alloc (.cells #[.int .i64 k,.int .i64 s,.int .i64 q,.int .i64 z,.int .i64 s2,.int .i64 q2,.int .i64 z2,.int .i64 nn,.int .i64 m,.string nam,.int .i64 tk,.int .i64 ts,.int .i64 tq,.int .i64 tz,.slice none 0 0,.int .i64 nk,.int .i64 nu,.int .i64 ns,.int .i64 nq,.int .i64 nz,.int .i64 yk,.int .i64 ys,.int .i64 yq,.int .i64 yz,.slice none 0 0,.slice none 0 0,.slice B8 0 e8,.slice B10 0 e10] 33)) (fun W2 h2 => ⟨B8,B10,e8,e10,W.heap.size,rfl,H8.out,H10.out,RdN.fresh_in [.int .i64 k,.int .i64 s,.int .i64 q,.int .i64 z,.int .i64 s2,.int .i64 q2,.int .i64 z2,.int .i64 nn,.int .i64 m,.string nam,.int .i64 tk,.int .i64 ts,.int .i64 tq,.int .i64 tz,.slice none 0 0,.int .i64 nk,.int .i64 nu,.int .i64 ns,.int .i64 nq,.int .i64 nz,.int .i64 yk,.int .i64 ys,.int .i64 yq,.int .i64 yz,.slice none 0 0,.slice none 0 0,.slice B8 0 e8,.slice B10 0 e10] rfl rfl h2⟩) ((Ext.refl W).alloc _)) (by kernel_rfl)
      ·intro us W K hE1 hE2 hd hK
       have d1 := hd 1 (by kernel_rfl) (by kernel_rfl)
       obtain ⟨B8,B10,e8,e10,gb,d4,h8,h10,hrow⟩ := hd 4 (by kernel_rfl) (by kernel_rfl)
       have H8 := hid h8;have H10 := hid h10;have HROW := hid hrow
       have HKW := hid (kept_undrew hE1)
       clear h8 h10 hrow
       simp only [Nat.reduceBEq,Bool.not_true,Bool.not_false,Bool.or_true,Bool.or_false,Bool.true_or,Bool.false_or,cond_true,cond_false] at hK ⊢
       rw [d1,d4] at hK ⊢
       have HK := hid hK;have HE1 := hid hE1
       clear hK hd hE1 hE2 d1 d4
       go_wp2_with (at_builtin;(refine wpList_app rfl (.tmp 82) (.tmp 85) 34 rfl w9.heap.size 33 i0 (.agg ZO.toArray) 28 312 Tryz.underlying34 hi hz0 hz1 hz2 rfl (by omega) none 0 0 [] rfl (World.ownsRow_nil _ _ _ _) W.heap.size (some ⟨gb,0,none⟩) 1 1 [.int .i64 k,.int .i64 s,.int .i64 q,.int .i64 z,.int .i64 s2,.int .i64 q2,.int .i64 z2,.int .i64 nn,.int .i64 m,.string nam,.int .i64 tk,.int .i64 ts,.int .i64 tq,.int .i64 tz,.slice none 0 0,.int .i64 nk,.int .i64 nu,.int .i64 ns,.int .i64 nq,.int .i64 nz,.int .i64 yk,.int .i64 ys,.int .i64 yq,.int .i64 yz,.slice none 0 0,.slice none 0 0,.slice B8 0 e8,.slice B10 0 e10] rfl HROW.out (by intro v hv;simp only [List.mem_cons,List.not_mem_nil,or_false] at hv;rcases hv with rfl | rfl | rfl | rfl | rfl | rfl | rfl | rfl | rfl | rfl | rfl | rfl | rfl | rfl | rfl | rfl | rfl | rfl | rfl | rfl | rfl | rfl | rfl | rfl | rfl | rfl | rfl | rfl <;> rfl) (by simp only [maxLen];omega) (by omega) HKW.out.size ?_;intro A7 c7 w7 o7 g7;have HO7 : Hid (w7.ownsRow w9.heap.size 33 28 (.slice A7 1 c7) 1 [.int .i64 k,.int .i64 s,.int .i64 q,.int .i64 z,.int .i64 s2,.int .i64 q2,.int .i64 z2,.int .i64 nn,.int .i64 m,.string nam,.int .i64 tk,.int .i64 ts,.int .i64 tq,.int .i64 tz,.slice none 0 0,.int .i64 nk,.int .i64 nu,.int .i64 ns,.int .i64 nq,.int .i64 nz,.int .i64 yk,.int .i64 ys,.int .i64 yq,.int .i64 yz,.slice none 0 0,.slice none 0 0,.slice B8 0 e8,.slice B10 0 e10]) := hid o7;have HE7 : Hid (Ext W w7) := hid (below_app (Ext.refl W) g7 (World.ownsRow_nil W W.heap.size 33 28) (Nat.le_refl _) (Nat.le_refl _));clear o7 g7))
       exact K_at (HK.out (.slice A7 1 c7) w7 (fun W2 h2 => ⟨B8,B10,e8,e10,A7,c7,rfl,H8.out,H10.out,(Kept.of_ext (F := fun _ => False) h2).own HO7.out (fun _ _ h => h)⟩) HE7.out) (by kernel_rfl)
      ·intro us W K hE1 hE2 hd hK
       simp only [Nat.reduceBEq,Bool.not_true,Bool.not_false,Bool.or_true,Bool.or_false,Bool.true_or,Bool.false_or,cond_true,cond_false] at hK ⊢
       have HK := hid hK;have HE1 := hid hE1
       clear hK hd hE1 hE2
       go_wp2_with fail
       exact K_at (HK.out (.pointer (some ⟨g4,5,none⟩)) W (fun _ _ => rfl) (Ext.refl W)) (by kernel_rfl)
     ·intro us W hE1 hd
      try dsimp only
      have d6 := hd 6 (by decide) (by decide)
      obtain ⟨A8',A10',c8',c10',A7,c7,d5,h8,h10,hown⟩ := hd 5 (by decide) (by decide)
      obtain ⟨_,_,_,_,_,_,_,⟨A2,n2,c2,hrd⟩,hk9⟩ := hd 3 (by decide) (by decide)
      simp only [List.drop_succ_cons,List.drop_zero]
      rw [d6,d5]
      have KX := hid hk9
      have BX := hid (hk9.blk BP9.out HN4.out.1);have BZX := hid (hk9.blk BZ9.out HN4.out.2.1);have RX := hid hrd;have OX' := hid hown;have H8 := hid h8;have H10 := hid h10
      have cd5 := BX.out.cell 5
      have fz5 := BX.out.frozen 5
      clear hd hE1 d6 d5 h8 h10 hown hrd hk9
      go_wp2_with fail
      have KS : Kept (fun b => b = g4) W (W.setCell ⟨g4,5,none⟩ (.slice A7 1 c7)) := Kept.setCell (F := fun b => b = g4) (p := ⟨g4,5,none⟩) W rfl _
      have hDW : W.heap[D]? = some (.deferred (some [])) := (KX.out.block D HD99.out.1 (fun e => HDD.out.1 e)).trans HD9.out
      refine ⟨Or.inr ⟨rfl,A8',A10',c8',c10',A7,c7,A2,n2,c2,H8.out,H10.out,BX.out.set 5 _,KS.own OX'.out (fun b hb h => ?_),RX.out.off (KS.mono (fun b _ h => ?_)),KS.blk BZX.out ?_,(KS.block D (Nat.lt_of_lt_of_le HD99.out.1 KX.out.size) (fun e => HDD.out.2.1 e)).trans hDW,Nat.le_trans KX.out.size KS.size,(K09.out.trans KX.out).next KS (fun b hb h => ?_)⟩,by simp [intOf]⟩
      ·have h1 := own_geq OX'.out hb;have h2 := HD99.out;omega
      ·have h3 := HN4.out;omega
      ·have h3 := HN4.out;omega
      ·have h3 := HN4.out;omega
    ·have H8 := hid h8;have H10 := hid h10;have BP := hid hbp;have OW := hid hown;have RR := hid hrd;have BZ := hid hbz;have HD1 := hid hd;have HS1 := hid hsz;have KK := hid hkk
     obtain ⟨wi,rfl⟩ : ∃ x : World,x = wr := ⟨_,rfl⟩
     clear h8 h10 hbp hown hrd hbz hd hsz hkk c91
     have c91 := RR.out.rd.blk.cell 1
     go_upto_region 14 with (go_at_call 72;(with_reducible refine (HTX.out wi _ _ _ RR.out).mono ?_);rintro e wt ⟨rfl,⟨A11,n11,c11,hr⟩,hk⟩;have RT := hid hr;have KT := hid hk;have BT := hid (hk.blk BP.out HN4.out.1);have BZT := hid (hk.blk BZ.out HN4.out.2.1);have cd6 := BT.out.cell 6;have fz6 := BT.out.frozen 6;clear hr hk)
     obtain ⟨wu,hwu⟩ : ∃ x,x = wt.setCell ⟨g4,6,none⟩ (.string sl) := ⟨_,rfl⟩
     change Code.wp _ _ _ _ (wt.setCell ⟨g4,6,none⟩ (.string sl))
     rw [← hwu]
     have KU : Hid (Kept (fun b => b = g4) wt wu) := hid (by rw [hwu];exact Kept.setCell (F := fun b => b = g4) (p := ⟨g4,6,none⟩) wt rfl _)
     have BU : Hid (Blk wu g4 37 [.int .i64 shop,.int .i64 seq,.int .i64 day,.slice none 0 0,.int .i64 cl,.slice A7 1 c7,.string sl]) := hid (by rw [hwu];exact BT.out.set 6 _)
     have BZU : Hid (Blk wu w.heap.size 37 P0) := hid (KU.out.blk BZT.out (by have := HN4.out;omega))
     clear hwu cd6 fz6 c91
     go_wp2_with (first
      | (refine wpList_load_blk rfl 37 (.tmp 4) rfl g4 (by kernel_rfl) BU.out Tryz.underlying37 rfl (info_pat.trans rfl) ?_)
      | (refine wpList_store_blk rfl 37 (.tmp 2) (.tmp 91) rfl w.heap.size [.int .i64 shop,.int .i64 seq,.int .i64 day,.slice none 0 0,.int .i64 cl,.slice A7 1 c7,.string sl] (by kernel_rfl) (by kernel_rfl) BZU.out (info_pat.trans rfl) rfl (by intro v hv;simp only [List.mem_cons,List.not_mem_nil,or_false] at hv;rcases hv with rfl | rfl | rfl | rfl | rfl | rfl | rfl <;> rfl) ?_;intro w12 hw12 hb12;have B12 := hid hb12))
     have K12 : Kept (fun b => b = w.heap.size) wu w12 := by rw [hw12.out];exact Kept.setRow (F := fun b => b = w.heap.size) wu rfl _
     have hDT : wt.heap[D]? = some (.deferred (some [])) := (KT.out.block D (Nat.lt_of_lt_of_le HD99.out.1 HS1.out) (fun e => HDD.out.1 e)).trans HD1.out
     have hDU : wu.heap[D]? = some (.deferred (some [])) := (KU.out.block D (Nat.lt_of_lt_of_le HD99.out.1 (Nat.le_trans HS1.out KT.out.size)) (fun e => HDD.out.2.1 e)).trans hDT
     have hD12 : w12.heap[D]? = some (.deferred (some [])) := (K12.block D (Nat.lt_of_lt_of_le HD99.out.1 (Nat.le_trans HS1.out (Nat.le_trans KT.out.size KU.out.size))) (fun e => HDD.out.2.2.1 e)).trans hDU
     have K13 : Kept (fun b => b = D) w12 (w12.putObj D (.deferred none)) := Kept.putObj (F := fun b => b = D) w12 rfl (.deferred none)
     have hbF : Blk (w12.putObj D (.deferred none)) w.heap.size 37 [.int .i64 shop,.int .i64 seq,.int .i64 day,.slice none 0 0,.int .i64 cl,.slice A7 1 c7,.string sl] := K13.blk B12.out (fun e => HDD.out.2.2.1 e.symm)
     have KF : Kept (fun b => b = g4 ∨ b = w.heap.size ∨ b = D) wt (w12.putObj D (.deferred none)) := ((KU.out.mono (fun b _ h => Or.inl h)).trans (K12.mono (fun b _ h => Or.inr (Or.inl h)))).trans (K13.mono (fun b _ h => Or.inr (Or.inr h)))
     have hcp7 := slice_cap OW.out
     unfold maxLen at hcp7
     have hOT := KF.own (KT.out.own OW.out (fun b hb h => by have h1 := own_geq OW.out hb;have h2 := HD99.out;have h3 := HLO.out;omega)) (fun b hb h => by have h1 := own_geq OW.out hb;have h2 := HD99.out;omega)
     refine ⟨by simp,.inl ⟨_,_,rfl,run_takeDeferred hD12,?_⟩⟩
     refine ⟨_,results_blk Tryz.results40 _ _ w.heap.size 37 [.int .i64 shop,.int .i64 seq,.int .i64 day,.slice none 0 0,.int .i64 cl,.slice A7 1 c7,.string sl] _ (by rfl) hbF Tryz.underlying37 rfl (info_pat.trans rfl),?_⟩
     refine ⟨⟨A8',A10,c8',c10,A7,c7,rfl,H8.out,H10.out,rdn_own hOT,hcp7.1,hcp7.2⟩,⟨_,_,_,RT.out.off (KF.mono (fun b _ h => ?_))⟩,(KK.out.trans KT.out).next KF (fun b hb h => ?_)⟩
     ·have h1 := HDD.out;have h2 := HLO.out;have h3 := HN4.out;omega
     ·have h1 := HDD.out;have h2 := HLO.out;have h3 := HN4.out;omega
end Go.Proofs.YtojcmcccahjphaaGreatDoor
