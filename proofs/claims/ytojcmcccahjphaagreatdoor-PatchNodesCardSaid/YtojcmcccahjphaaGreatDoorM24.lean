/- The reader of package patch where the bytes are an encoding: a type, a node, an operation, all without kids and names. Conditions: sizes. -/
import Derived.Test.YtojcmcccahjphaaGreatDoorM23
import Derived.Test.YtojcmcccahjphaaGreatDoorM10
import Derived.Test.YtojcmcccahjphaaGreatDoorM14
import Derived.Test.YtojcmcccahjphaaGreatDoorM20
set_option linter.unusedSimpArgs false
set_option linter.unusedVariables false
set_option maxHeartbeats 16000000
set_option maxRecDepth 100000
set_option maxRecDepth 100000
set_option maxHeartbeats 8000000
namespace Go.Proofs.YtojcmcccahjphaaGreatDoor
open Go.RowKit
open Lib (hid)
attribute [local go_sem ↓] wp_at_zero wp_at_succ
structure RdrL (lo : Nat) (w : World) (g : Nat) (l : List Int) (A : Option Addr) (n c : Nat) : Prop where
 rd : Rdr w g l A n c false
 loc : ∀ a,A = some a → a.block < lo
 lt : g < lo
theorem RdrL.ext {lo : Nat} {w w' : World} {g : Nat} {l : List Int} {A : Option Addr} {n c : Nat} (h : RdrL lo w g l A n c) (hE : Ext w w') : RdrL lo w' g l A n c := ⟨h.rd.ext hE,h.loc,h.lt⟩
theorem RdrL.off {lo : Nat} {w w' : World} {g : Nat} {l : List Int} {A : Option Addr} {n c : Nat} (h : RdrL lo w g l A n c) (hk : Kept (fun b => lo ≤ b) w w') : RdrL lo w' g l A n c := by
 refine ⟨⟨hk.blk h.rd.blk (by have := h.lt;omega),⟨h.rd.row.1,fun hn => ?_⟩,h.rd.byt,h.rd.nc,h.rd.cap,h.rd.few⟩,h.loc,h.lt⟩
 obtain ⟨b,o,hA,hb,hc⟩ := h.rd.row.2 hn
 have h2 : b < lo := h.loc _ hA
 exact ⟨b,o,hA,Nat.lt_of_lt_of_le hb hk.size,fun j u hu => (hk.cell (p := ⟨b,o + j,none⟩) hb (by show ¬ lo ≤ b;omega)).trans (hc j u hu)⟩
theorem RdrL.next {lo : Nat} {w w' : World} {g : Nat} {l l' : List Int} {A A2 : Option Addr} {n c n2 c2 : Nat} (h : RdrL lo w g l A n c) (h2 : Rdr w' g l' A2 n2 c2 false) (hs : SameB A A2) : RdrL lo w' g l' A2 n2 c2 := ⟨h2,fun a e => by
 obtain ⟨a',e',hb⟩ := hs.same a e
 have := h.loc a' e'
 omega,h.lt⟩
theorem pintsL_enc (lo : Nat) (xs r : List Int) (A : Option Addr) (n c g many q : Nat) (w : World) (h : RdrL lo w g (encL encInt xs ++ r) A n c) (hx : ∀ x ∈ xs,-9223372036854775808 ≤ x ∧ x ≤ 9223372036854775807) (hn : xs.length ≤ 1000000) (hmany : many = 0 ∨ many = xs.length) (hmod : xs.length % q = 0) (hm : many ≤ 1000) (hq : 1 ≤ q) (hq2 : q ≤ 1000) :
  Calls Tryz.prog 67 #[.pointer (some ⟨g,0,none⟩),.int .i64 (many : Int),.int .i64 (q : Int)] w fun e w' => (∃ A1 c1,e = .returned (.slice A1 xs.length c1) ∧ w'.ownsRow w.heap.size 3 1 (.slice A1 xs.length c1) xs.length (xs.map (Value.int .i64))) ∧ (∃ A2 n2 c2,RdrL lo w' g r A2 n2 c2) ∧ Kept (fun b => b = g) w w' :=
 (pints_enc xs r A n c g many q w h.rd hx hn hmany hmod hm hq hq2).mono fun _ _ ⟨h1,⟨A2,n2,c2,h2,hs⟩,h3⟩ => ⟨h1,⟨A2,n2,c2,h.next h2 hs⟩,h3⟩
theorem textL_enc (lo : Nat) (s : ByteArray) (r : List Int) (A : Option Addr) (n c g : Nat) (w : World) (h : RdrL lo w g (encB s ++ r) A n c) (hs : s.size ≤ 1000000) :
  Calls Tryz.prog 72 #[.pointer (some ⟨g,0,none⟩)] w fun e w' => e = .returned (.string s) ∧ (∃ A2 n2 c2,RdrL lo w' g r A2 n2 c2) ∧ Kept (fun b => b = g) w w' :=
 (text_enc s r A n c g w h.rd hs).mono fun _ _ ⟨h1,⟨A2,n2,c2,h2,hs⟩,h3⟩ => ⟨h1,⟨A2,n2,c2,h.next h2 hs⟩,h3⟩
theorem pstringsL_enc (lo : Nat) (ss : List ByteArray) (r : List Int) (A : Option Addr) (n c g : Nat) (w : World) (h : RdrL lo w g (encL encB ss ++ r) A n c) (hs : ∀ s ∈ ss,s.size ≤ 1000000) (hk : ss.length ≤ 1000000) :
  Calls Tryz.prog 84 #[.pointer (some ⟨g,0,none⟩)] w fun e w' => (∃ A1 c1,e = .returned (.slice A1 ss.length c1) ∧ w'.ownsRow w.heap.size 9 1 (.slice A1 ss.length c1) ss.length (ss.map Value.string)) ∧ (∃ A2 n2 c2,RdrL lo w' g r A2 n2 c2) ∧ Kept (fun b => b = g) w w' :=
 (pstrings_enc ss r A n c g w h.rd hs hk).mono fun _ _ ⟨h1,⟨A2,n2,c2,h2,hs⟩,h3⟩ => ⟨h1,⟨A2,n2,c2,h.next h2 hs⟩,h3⟩
def ZT : List Value := [.int .i64 0,.int .i64 0,.int .i64 0,.int .i64 0,.slice none 0 0]
def ZN : List Value := [.int .i64 0,.int .i64 0,.int .i64 0,.int .i64 0,.int .i64 0,.int .i64 0,.int .i64 0,.int .i64 0,.int .i64 0,.slice none 0 0,.slice none 0 0,.slice none 0 0]
def ZO : List Value := [.int .i64 0,.int .i64 0,.int .i64 0,.int .i64 0,.int .i64 0,.int .i64 0,.int .i64 0,.int .i64 0,.int .i64 0,.string ⟨#[]⟩,.int .i64 0,.int .i64 0,.int .i64 0,.int .i64 0,.slice none 0 0,.int .i64 0,.int .i64 0,.int .i64 0,.int .i64 0,.int .i64 0,.int .i64 0,.int .i64 0,.int .i64 0,.int .i64 0,.slice none 0 0,.slice none 0 0,.slice none 0 0,.slice none 0 0]
theorem zero_typ : ∀ W,(zeroValue 26).run Tryz.prog W = .ok (.agg ZT.toArray) W := fun W => by kernel_rfl
theorem zero_nod : ∀ W,(zeroValue 30).run Tryz.prog W = .ok (.agg ZN.toArray) W := fun W => by kernel_rfl
theorem zero_op : ∀ W,(zeroValue 33).run Tryz.prog W = .ok (.agg ZO.toArray) W := fun W => by kernel_rfl
theorem build_typ (k s q z : Int) : Tryz.prog.built 26 [(0,.int .i64 k),(1,.agg (idC ⟨s,q,z⟩).toArray)] = some ([.int .i64 k,.int .i64 s,.int .i64 q,.int .i64 z,.slice none 0 0] : List Value).toArray := by kernel_rfl
theorem build_nod (k n s q z : Int) : Tryz.prog.built 30 [(0,.int .i64 k),(1,.int .i64 n),(2,.agg (idC ⟨s,q,z⟩).toArray)] = some ([.int .i64 k,.int .i64 n,.int .i64 s,.int .i64 q,.int .i64 z,.int .i64 0,.int .i64 0,.int .i64 0,.int .i64 0,.slice none 0 0,.slice none 0 0,.slice none 0 0] : List Value).toArray := by kernel_rfl
theorem build_op (k s q z s2 q2 z2 n m : Int) : Tryz.prog.built 33 [(0,.int .i64 k),(1,.agg (idC ⟨s,q,z⟩).toArray),(2,.agg (idC ⟨s2,q2,z2⟩).toArray),(3,.int .i64 n),(4,.int .i64 m)] = some ([.int .i64 k,.int .i64 s,.int .i64 q,.int .i64 z,.int .i64 s2,.int .i64 q2,.int .i64 z2,.int .i64 n,.int .i64 m,.string ⟨#[]⟩,.int .i64 0,.int .i64 0,.int .i64 0,.int .i64 0,.slice none 0 0,.int .i64 0,.int .i64 0,.int .i64 0,.int .i64 0,.int .i64 0,.int .i64 0,.int .i64 0,.int .i64 0,.int .i64 0,.slice none 0 0,.slice none 0 0,.slice none 0 0,.slice none 0 0] : List Value).toArray := by kernel_rfl
theorem flat_eq (x : TyN) (r : List Int) : encT [x] ++ r = encL encInt [x.k,x.d.s,x.d.q,x.d.i,0] ++ r := by simp [encT,tyI]
theorem ptyp_enc (lo : Nat) (x : TyN) (r : List Int) (A : Option Addr) (n c g dp : Nat) (w : World) (h : RdrL lo w g (encT [x] ++ r) A n c) (hlo : lo ≤ w.heap.size) (hx : TyW [x]) (hd1 : 1 ≤ dp) (hd2 : dp ≤ 24) :
  Calls Tryz.prog 82 #[.pointer (some ⟨g,0,none⟩),.int .i64 (dp : Int)] w fun e w' => e = .returned (.agg (tyC x (.slice none 0 0)).toArray) ∧ (∃ A2 n2 c2,RdrL lo w' g r A2 n2 c2) ∧ Kept (fun b => b = g) w w' := by
 rw [flat_eq] at h
 have hq := hx x (List.mem_singleton.2 rfl)
 obtain ⟨k,⟨s,q,z⟩⟩ := x
 have HIA : Hid (∀ W,Ext w W → Calls Tryz.prog 67 #[.pointer (some ⟨g,0,none⟩),.int .i64 5,.int .i64 1] W fun e w' => (∃ A1 c1,e = .returned (.slice A1 5 c1) ∧ w'.ownsRow W.heap.size 3 1 (.slice A1 5 c1) 5 (([k,s,q,z,0] : List Int).map (Value.int .i64))) ∧ (∃ A2 n2 c2,RdrL lo w' g r A2 n2 c2) ∧ Kept (fun b => b = g) W w') := hid (fun W hW => pintsL_enc lo [k,s,q,z,0] r A n c g 5 1 W (h.ext hW) (fun y hy => by
  simp only [List.mem_cons,List.not_mem_nil,or_false] at hy
  rcases hy with rfl | rfl | rfl | rfl | rfl
  ·exact hq.1
  ·exact hq.2.1
  ·exact hq.2.2.1
  ·exact hq.2.2.2
  ·exact ⟨by decide,by decide⟩) (show 5 ≤ 1000000 by decide) (Or.inr rfl) (Nat.mod_one _) (by decide) (by decide) (by decide))
 have HLO : Hid (g < lo ∧ lo ≤ w.heap.size) := hid ⟨h.lt,hlo⟩
 have zz := zero_typ
 have hdp : ((dp : Int) == 0) = false := by rw [beq_eq_false_iff_ne];omega
 have hdq : (dp == 0) = false := by rw [beq_eq_false_iff_ne];omega
 unfold tyC
 dsimp only
 clear h hlo hx hq
 go_enter Tryz.func82,Tryz.ntmps82
 go_upto_region 1 with fail
 obtain ⟨w1,hw1⟩ : ∃ x,x = w.alloc (.cells ZT.toArray 26) := ⟨_,rfl⟩
 change Code.wp _ _ _ _ (w.alloc (.cells ZT.toArray 26))
 rw [← hw1]
 have E1 : Hid (Ext w w1) := hid (by rw [hw1];exact (Ext.refl w).alloc _)
 have BZ1 : Hid (Blk w1 w.heap.size 26 ZT) := hid (by rw [hw1];exact Blk.fresh' _ _ _ _ _ rfl rfl)
 clear hw1
 go_upto_region 2 with (go_at_call 67;(with_reducible refine (HIA.out w1 E1.out).mono ?_);rintro e w2 ⟨⟨A1,c1,rfl,ho1⟩,⟨A2,n2,c2,hr2⟩,hk2⟩;have HO1 := hid ho1;have R2 := hid hr2;have K2 := hid hk2;clear ho1 hr2 hk2)
 obtain ⟨g1,rfl,hg1a,hg1b,hg1c⟩ := own_cell0 HO1.out (by decide)
 have BZ2 : Hid (Blk w2 w.heap.size 26 ZT) := hid (K2.out.blk BZ1.out (by have := HLO.out;omega))
 have HCC : Hid (∀ W,Ext w2 W → ∀ (j : Nat) (x : Int),([k,s,q,z,0] : List Int)[j]? = some x → W.cell? ⟨g1,j,none⟩ = some (.int .i64 x)) := hid (fun W hW j x hx => (hW.cell (p := ⟨g1,j,none⟩) hg1b).trans (hg1c j x hx))
 have HG1 : Hid (w.heap.size ≤ g1 ∧ g1 < w2.heap.size) := hid ⟨Nat.le_trans E1.out.size hg1a,hg1b⟩
 have K02 : Hid (Kept (fun b => b = g) w w2) := hid ((Kept.of_ext E1.out).trans K2.out)
 clear HO1 hg1a hg1b hg1c BZ1 E1 K2
 refine wp_region_flowF 15 ?FW1 (fun us => ?_) (by kernel_rfl) (by kernel_rfl) (fun a b => Ext a b) Ext.refl (fun h1 h2 => h1.next h2) (fun i v W => match i with
  | 0 => v = .slice (some ⟨g1,0,none⟩) 5 c1
  | 1 => v = .pointer (some ⟨g1,0,none⟩)
  | 2 => v = .int .i64 k
  | 3 => v = .slice (some ⟨g1,0,none⟩) 5 c1
  | 4 => v = .pointer (some ⟨g1,1,none⟩)
  | 5 => v = .int .i64 s
  | 6 => v = .slice (some ⟨g1,0,none⟩) 5 c1
  | 7 => v = .pointer (some ⟨g1,2,none⟩)
  | 8 => v = .int .i64 q
  | 9 => v = .slice (some ⟨g1,0,none⟩) 5 c1
  | 10 => v = .pointer (some ⟨g1,3,none⟩)
  | 11 => v = .int .i64 z
  | 12 => v = .agg (idC ⟨s,q,z⟩).toArray
  | 13 => v = .agg ([.int .i64 k,.int .i64 s,.int .i64 q,.int .i64 z,.slice none 0 0] : List Value).toArray
  | 14 => ∃ gz : Nat,v = .pointer (some ⟨gz,0,none⟩) ∧ w2.heap.size ≤ gz ∧ Blk W gz 26 ZT
  | _ => True) ?_ ?_
 case refine_1 =>
  simp only [List.take_succ_cons,List.take_zero,flowAct,Nat.zero_add,Nat.reduceAdd,Act.put,List.setIfInBounds_toArray,List.set_cons_succ,List.set_cons_zero]
  rfl
 ·simp only [List.take_succ_cons,List.take_zero,flowStepsF]
  refine ⟨?_,?_,?_,?_,?_,?_,?_,?_,?_,?_,?_,?_,?_,?_,?_,trivial⟩
  ·intro us W K hE hd hK
   dsimp only at hK ⊢
   have HK := hid hK;have HE := hid hE
   clear hK hd hE
   go_wp2_with fail
   exact K_at (HK.out (.slice (some ⟨g1,0,none⟩) 5 c1) W (fun _ _ => rfl) (Ext.refl W)) (by kernel_rfl)
  ·intro us W K hE hd hK
   have d0 := hd 0 (by kernel_rfl)
   dsimp only at hK ⊢
   rw [d0] at hK ⊢
   have HK := hid hK;have HE := hid hE
   clear hK hd hE d0
   go_wp2_with fail
   exact K_at (HK.out (.pointer (some ⟨g1,0,none⟩)) W (fun _ _ => rfl) (Ext.refl W)) (by kernel_rfl)
  ·intro us W K hE hd hK
   have d1 := hd 1 (by kernel_rfl)
   have cc : W.cell? ⟨g1,0,none⟩ = some (.int .i64 k) := HCC.out W (sg_undrew hE) 0 k rfl
   dsimp only at hK ⊢
   rw [d1] at hK ⊢
   have HK := hid hK;have HE := hid hE
   clear hK hd hE d1
   go_wp2_with fail
   exact K_at (HK.out (.int .i64 k) W (fun _ _ => rfl) (Ext.refl W)) (by kernel_rfl)
  ·intro us W K hE hd hK
   dsimp only at hK ⊢
   have HK := hid hK;have HE := hid hE
   clear hK hd hE
   go_wp2_with fail
   exact K_at (HK.out (.slice (some ⟨g1,0,none⟩) 5 c1) W (fun _ _ => rfl) (Ext.refl W)) (by kernel_rfl)
  ·intro us W K hE hd hK
   have d3 := hd 3 (by kernel_rfl)
   dsimp only at hK ⊢
   rw [d3] at hK ⊢
   have HK := hid hK;have HE := hid hE
   clear hK hd hE d3
   go_wp2_with fail
   exact K_at (HK.out (.pointer (some ⟨g1,1,none⟩)) W (fun _ _ => rfl) (Ext.refl W)) (by kernel_rfl)
  ·intro us W K hE hd hK
   have d4 := hd 4 (by kernel_rfl)
   have cc : W.cell? ⟨g1,1,none⟩ = some (.int .i64 s) := HCC.out W (sg_undrew hE) 1 s rfl
   dsimp only at hK ⊢
   rw [d4] at hK ⊢
   have HK := hid hK;have HE := hid hE
   clear hK hd hE d4
   go_wp2_with fail
   exact K_at (HK.out (.int .i64 s) W (fun _ _ => rfl) (Ext.refl W)) (by kernel_rfl)
  ·intro us W K hE hd hK
   dsimp only at hK ⊢
   have HK := hid hK;have HE := hid hE
   clear hK hd hE
   go_wp2_with fail
   exact K_at (HK.out (.slice (some ⟨g1,0,none⟩) 5 c1) W (fun _ _ => rfl) (Ext.refl W)) (by kernel_rfl)
  ·intro us W K hE hd hK
   have d6 := hd 6 (by kernel_rfl)
   dsimp only at hK ⊢
   rw [d6] at hK ⊢
   have HK := hid hK;have HE := hid hE
   clear hK hd hE d6
   go_wp2_with fail
   exact K_at (HK.out (.pointer (some ⟨g1,2,none⟩)) W (fun _ _ => rfl) (Ext.refl W)) (by kernel_rfl)
  ·intro us W K hE hd hK
   have d7 := hd 7 (by kernel_rfl)
   have cc : W.cell? ⟨g1,2,none⟩ = some (.int .i64 q) := HCC.out W (sg_undrew hE) 2 q rfl
   dsimp only at hK ⊢
   rw [d7] at hK ⊢
   have HK := hid hK;have HE := hid hE
   clear hK hd hE d7
   go_wp2_with fail
   exact K_at (HK.out (.int .i64 q) W (fun _ _ => rfl) (Ext.refl W)) (by kernel_rfl)
  ·intro us W K hE hd hK
   dsimp only at hK ⊢
   have HK := hid hK;have HE := hid hE
   clear hK hd hE
   go_wp2_with fail
   exact K_at (HK.out (.slice (some ⟨g1,0,none⟩) 5 c1) W (fun _ _ => rfl) (Ext.refl W)) (by kernel_rfl)
  ·intro us W K hE hd hK
   have d9 := hd 9 (by kernel_rfl)
   dsimp only at hK ⊢
   rw [d9] at hK ⊢
   have HK := hid hK;have HE := hid hE
   clear hK hd hE d9
   go_wp2_with fail
   exact K_at (HK.out (.pointer (some ⟨g1,3,none⟩)) W (fun _ _ => rfl) (Ext.refl W)) (by kernel_rfl)
  ·intro us W K hE hd hK
   have d10 := hd 10 (by kernel_rfl)
   have cc : W.cell? ⟨g1,3,none⟩ = some (.int .i64 z) := HCC.out W (sg_undrew hE) 3 z rfl
   dsimp only at hK ⊢
   rw [d10] at hK ⊢
   have HK := hid hK;have HE := hid hE
   clear hK hd hE d10
   go_wp2_with fail
   exact K_at (HK.out (.int .i64 z) W (fun _ _ => rfl) (Ext.refl W)) (by kernel_rfl)
  ·intro us W K hE hd hK
   have d5 := hd 5 (by kernel_rfl)
   have d8 := hd 8 (by kernel_rfl)
   have d11 := hd 11 (by kernel_rfl)
   dsimp only at hK ⊢
   rw [d5,d8,d11] at hK ⊢
   have HK := hid hK;have HE := hid hE
   clear hK hd hE d5 d8 d11
   go_wp2_with ((refine wpList_build_eq (by rfl) 23 _ rfl _ (by kernel_rfl) _ (build_id s q z) ?_))
   exact K_at (HK.out (.agg (idC ⟨s,q,z⟩).toArray) W (fun _ _ => rfl) (Ext.refl W)) (by kernel_rfl)
  ·intro us W K hE hd hK
   have d2 := hd 2 (by kernel_rfl)
   have d12 := hd 12 (by kernel_rfl)
   dsimp only at hK ⊢
   rw [d2,d12] at hK ⊢
   have HK := hid hK;have HE := hid hE
   clear hK hd hE d2 d12
   go_wp2_with ((refine wpList_build_eq (by rfl) 26 _ rfl _ (by kernel_rfl) _ (build_typ k s q z) ?_))
   exact K_at (HK.out (.agg ([.int .i64 k,.int .i64 s,.int .i64 q,.int .i64 z,.slice none 0 0] : List Value).toArray) W (fun _ _ => rfl) (Ext.refl W)) (by kernel_rfl)
  ·intro us W K hE hd hK
   have HSW := hid (sg_undrew hE).size
   dsimp only at hK ⊢
   have HK := hid hK;have HE := hid hE
   clear hK hd hE
   go_wp2_with fail
   exact K_at (HK.out (.pointer (some ⟨W.heap.size,0,none⟩)) (W.alloc (.cells ZT.toArray 26)) (fun W2 hW2 => ⟨W.heap.size,rfl,HSW.out,(Blk.fresh' W 26 ZT _ _ rfl rfl).ext hW2⟩) ((Ext.refl W).alloc _)) (by kernel_rfl)
 ·intro us W hE hd
  try dsimp only
  have d12 := hd 13 (by decide)
  obtain ⟨g4,d13,hg4,hb4⟩ := hd 14 (by decide)
  simp only [List.drop_succ_cons,List.drop_zero]
  rw [d12,d13]
  have EW := hid (sg_undrew hE)
  have B4 := hid hb4
  have HG4 := hid hg4
  clear hd hE d12 d13 hb4 hg4
  go_upto_region 3 with (refine wpList_store_blk rfl 26 (.tmp 6) (.tmp 22) rfl g4 [.int .i64 k,.int .i64 s,.int .i64 q,.int .i64 z,.slice none 0 0] (by kernel_rfl) (by kernel_rfl) B4.out (ty_info.trans rfl) rfl (by intro v hv;simp only [List.mem_cons,List.not_mem_nil,or_false] at hv;rcases hv with rfl | rfl | rfl | rfl | rfl <;> rfl) ?_;intro w3 hw3 hb3;have B3 : Hid (Blk w3 g4 26 [.int .i64 k,.int .i64 s,.int .i64 q,.int .i64 z,.slice none 0 0]) := hid hb3;have E23 : Hid (Ext w2 w3) := hid (by rw [hw3.out];exact EW.out.setRow HG4.out _);clear hw3 hb3)
  have R3 := hid (R2.out.ext E23.out)
  have BZ3 := hid (BZ2.out.ext E23.out)
  have K03 : Hid (Kept (fun b => b = g) w w3) := hid (K02.out.trans (Kept.of_ext E23.out))
  have HGW : Hid (w.heap.size < w2.heap.size) := hid BZ2.out.lt
  have HG44 : Hid (g4 < w3.heap.size) := hid B3.out.lt
  clear R2 BZ2 K02 EW B4
  have c1r := R3.out.rd.blk.cell 1
  have f1r := R3.out.rd.blk.frozen 1
  have c14 : w3.cell? ⟨g1,4,none⟩ = some (.int .i64 0) := HCC.out w3 E23.out 4 0 rfl
  go_upto_region 4 with fail
  obtain ⟨w4,hw4⟩ : ∃ x,x = w3.setCell ⟨g,1,none⟩ (.bool false) := ⟨_,rfl⟩
  change Code.wp _ _ _ _ (w3.setCell ⟨g,1,none⟩ (.bool false))
  rw [← hw4]
  have K34 : Hid (Kept (fun b => b = g) w3 w4) := hid (by rw [hw4];exact Kept.setCell (F := fun b => b = g) (p := ⟨g,1,none⟩) w3 rfl _)
  have R4 : Hid (RdrL lo w4 g r A2 n2 c2) := hid (by
   have hb : Blk w4 g 80 [.slice A2 n2 c2,.bool false] := by rw [hw4];exact R3.out.rd.blk.set 1 _
   exact ⟨⟨hb,R3.out.rd.keep K34.out,R3.out.rd.byt,R3.out.rd.nc,R3.out.rd.cap,R3.out.rd.few⟩,R3.out.loc,R3.out.lt⟩)
  have HN4 : Hid (g4 ≠ g ∧ g1 ≠ g ∧ w.heap.size ≠ g ∧ g1 < w3.heap.size) := hid (by have h1 := HG4.out;have h2 := HLO.out;have h3 := HGW.out;have h4 := HG1.out;have h5 := E23.out.size;omega)
  have B44 := hid (K34.out.blk B3.out HN4.out.1)
  have BZ4 := hid (K34.out.blk BZ3.out HN4.out.2.2.1)
  have K04 : Hid (Kept (fun b => b = g) w w4) := hid (K03.out.trans K34.out)
  have c24 : w4.cell? ⟨g1,4,none⟩ = some (.int .i64 0) := (K34.out.cell (p := ⟨g1,4,none⟩) HN4.out.2.2.2 (fun e => HN4.out.2.1 e)).trans c14
  have c2r := R4.out.rd.blk.cell 1
  clear hw4 c1r f1r c14 R3 B3 BZ3 K03 K34 HCC
  go_wp2_with (first
   | (refine wpList_load_blk rfl 26 (.tmp 6) rfl g4 (by kernel_rfl) B44.out Tryz.underlying26 rfl (ty_info.trans rfl) ?_)
   | (refine wpList_store_blk rfl 26 (.tmp 4) (.tmp 63) (by rfl) w.heap.size [.int .i64 k,.int .i64 s,.int .i64 q,.int .i64 z,.slice none 0 0] (by kernel_rfl) (by kernel_rfl) BZ4.out (ty_info.trans rfl) rfl (by intro v hv;simp only [List.mem_cons,List.not_mem_nil,or_false] at hv;rcases hv with rfl | rfl | rfl | rfl | rfl <;> rfl) ?_;intro w9 hw9 hb9;have K9 : Hid (Kept (fun b => b = w.heap.size) w4 w9) := hid (by rw [hw9.out];exact Kept.setRow (F := fun b => b = w.heap.size) w4 rfl _);clear hw9))
  exact bodyPost_ret (results_blk Tryz.results82 _ _ w.heap.size 26 [.int .i64 k,.int .i64 s,.int .i64 q,.int .i64 z,.slice none 0 0] _ (by rfl) hb9 Tryz.underlying26 rfl (ty_info.trans rfl)) rfl ⟨rfl,⟨_,_,_,R4.out.off (K9.out.mono (fun b _ h => by have := HLO.out;omega))⟩,K04.out.next K9.out (fun b hb h => by omega)⟩
def nodF (x : TyN) (k nn s q z : Int) (names : List ByteArray) : NodA := ⟨k,nn,⟨s,q,z⟩,[x],[],names⟩
theorem pnode_enc (lo : Nat) (x : TyN) (k nn s q z : Int) (names : List ByteArray) (r : List Int) (A : Option Addr) (n c g : Nat) (w : World) (h : RdrL lo w g (encN (nodF x k nn s q z names) ++ r) A n c) (hlo : lo ≤ w.heap.size) (hw : NodW (nodF x k nn s q z names)) (hnm : names.length ≤ 1000000) :
  Calls Tryz.prog 83 #[.pointer (some ⟨g,0,none⟩)] w fun e w' => (∃ A8 c8,e = .returned (.agg (nodC (nodF x k nn s q z names) (tyC x (.slice none 0 0)) (.slice none 0 0) (.slice A8 names.length c8)).toArray) ∧ names.length ≤ c8 ∧ c8 ≤ 9223372036854775807 ∧ w'.ownsRow w.heap.size 9 1 (.slice A8 names.length c8) names.length (names.map Value.string)) ∧ (∃ A2 n2 c2,RdrL lo w' g r A2 n2 c2) ∧ Kept (fun b => b = g) w w' := by
 obtain ⟨r1,hr1⟩ : ∃ l,l = encT [x] ++ (encL encInt ([] : List Int) ++ (encL encB names ++ r)) := ⟨_,rfl⟩
 have hl : encN (nodF x k nn s q z names) ++ r = encL encInt [k,nn,s,q,z] ++ r1 := by
  rw [hr1]
  unfold encN nodF nodN thrI
  simp only [List.flatMap_nil,List.append_assoc,List.cons_append,List.nil_append]
 rw [hl] at h
 obtain ⟨mn,hmn⟩ : ∃ m,m = names.length := ⟨_,rfl⟩
 have HIA : Hid (∀ W,Ext w W → Calls Tryz.prog 67 #[.pointer (some ⟨g,0,none⟩),.int .i64 5,.int .i64 1] W fun e w' => (∃ A1 c1,e = .returned (.slice A1 5 c1) ∧ w'.ownsRow W.heap.size 3 1 (.slice A1 5 c1) 5 (([k,nn,s,q,z] : List Int).map (Value.int .i64))) ∧ (∃ A2 n2 c2,RdrL lo w' g r1 A2 n2 c2) ∧ Kept (fun b => b = g) W w') := hid (fun W hW => pintsL_enc lo [k,nn,s,q,z] r1 A n c g 5 1 W (h.ext hW) (nodN_i64 hw) (show 5 ≤ 1000000 by decide) (Or.inr rfl) (Nat.mod_one _) (by decide) (by decide) (by decide))
 have HTP : Hid (∀ (W : World) (A : Option Addr) (n c : Nat),lo ≤ W.heap.size → RdrL lo W g r1 A n c → Calls Tryz.prog 82 #[.pointer (some ⟨g,0,none⟩),.int .i64 24] W fun e w' => e = .returned (.agg (tyC x (.slice none 0 0)).toArray) ∧ (∃ A2 n2 c2,RdrL lo w' g (encL encInt ([] : List Int) ++ (encL encB names ++ r)) A2 n2 c2) ∧ Kept (fun b => b = g) W w') := hid (fun W A n c h1 h2 => by
  rw [hr1] at h2
  exact ptyp_enc lo x _ A n c g 24 W h2 h1 hw.ty (by decide) (by decide))
 have HIB : Hid (∀ (W : World) (A : Option Addr) (n c : Nat),RdrL lo W g (encL encInt ([] : List Int) ++ (encL encB names ++ r)) A n c → Calls Tryz.prog 67 #[.pointer (some ⟨g,0,none⟩),.int .i64 0,.int .i64 3] W fun e w' => (∃ A1 c1,e = .returned (.slice A1 0 c1) ∧ w'.ownsRow W.heap.size 3 1 (.slice A1 0 c1) 0 []) ∧ (∃ A2 n2 c2,RdrL lo w' g (encL encB names ++ r) A2 n2 c2) ∧ Kept (fun b => b = g) W w') := hid (fun W A n c h2 => pintsL_enc lo [] _ A n c g 0 3 W h2 (fun x hx => by cases hx) (by decide) (Or.inl rfl) (Nat.zero_mod _) (by decide) (by decide) (by decide))
 have HST : Hid (∀ (W : World) (A : Option Addr) (n c : Nat),RdrL lo W g (encL encB names ++ r) A n c → Calls Tryz.prog 84 #[.pointer (some ⟨g,0,none⟩)] W fun e w' => (∃ A1 c1,e = .returned (.slice A1 mn c1) ∧ w'.ownsRow W.heap.size 9 1 (.slice A1 mn c1) mn (names.map Value.string)) ∧ (∃ A2 n2 c2,RdrL lo w' g r A2 n2 c2) ∧ Kept (fun b => b = g) W w') := hid (fun W A n c h2 => by rw [hmn];exact pstringsL_enc lo names r A n c g W h2 hw.names hnm)
 have HCH : Hid (∀ (B : Option Addr) (dd : Nat) (W : World),Calls Tryz.prog 68 #[.slice B 0 dd,.int .i64 3] W fun e w' => e = .returned (.func (.func 81) #[] #[.pointer (some ⟨W.heap.size,0,none⟩),.pointer (some ⟨W.heap.size + 1,0,none⟩)]) ∧ w' = (W.alloc (.cells #[.slice B 0 dd] 43)).alloc (.cells #[.int .i64 3] 3)) := hid (fun B dd W => chunk_any B 0 dd 3 (by decide) W)
 have HLO : Hid (g < lo ∧ lo ≤ w.heap.size) := hid ⟨h.lt,hlo⟩
 have zz := zero_nod
 rw [← hmn]
 obtain ⟨tk,⟨ts,tq,tz⟩⟩ := x
 unfold tyC at HTP ⊢
 dsimp only at HTP ⊢
 unfold nodC nodF
 dsimp only
 clear h hlo hw hr1 hl hmn hnm
 refine callsIn_wide.1 (callsIn_of_wp_marks (n := 8) Tryz.func83 rfl trivial (wpIn_wide.2 ?_) rfl)
 simp only [Tryz.ntmps83,List.size_toArray,List.length_cons,List.length_nil,Nat.reduceAdd,Nat.reduceSub,Array.replicate_succ,Array.replicate_zero,List.push_toArray,List.append_toArray,List.nil_append,List.cons_append]
 go_upto_region 1 with fail
 obtain ⟨w1,hw1⟩ : ∃ x,x = w.alloc (.cells ZN.toArray 30) := ⟨_,rfl⟩
 change Code.wp _ _ _ _ (w.alloc (.cells ZN.toArray 30))
 rw [← hw1]
 have E1 : Hid (Ext w w1) := hid (by rw [hw1];exact (Ext.refl w).alloc _)
 have BZ1 : Hid (Blk w1 w.heap.size 30 ZN) := hid (by rw [hw1];exact Blk.fresh' _ _ _ _ _ rfl rfl)
 clear hw1
 go_upto_region 2 with (go_at_call 67;(with_reducible refine (HIA.out w1 E1.out).mono ?_);rintro e w2 ⟨⟨A1,c1,rfl,ho1⟩,⟨A2,n2,c2,hr2⟩,hk2⟩;have HO1 := hid ho1;have R2 := hid hr2;have K2 := hid hk2;clear ho1 hr2 hk2)
 obtain ⟨g1,rfl,hg1a,hg1b,hg1c⟩ := own_cell0 HO1.out (by decide)
 have BZ2 : Hid (Blk w2 w.heap.size 30 ZN) := hid (K2.out.blk BZ1.out (by have := HLO.out;omega))
 have HCC : Hid (∀ W,Ext w2 W → ∀ (j : Nat) (x : Int),([k,nn,s,q,z] : List Int)[j]? = some x → W.cell? ⟨g1,j,none⟩ = some (.int .i64 x)) := hid (fun W hW j x hx => (hW.cell (p := ⟨g1,j,none⟩) hg1b).trans (hg1c j x hx))
 have HG1 : Hid (w.heap.size ≤ g1 ∧ g1 < w2.heap.size) := hid ⟨Nat.le_trans E1.out.size hg1a,hg1b⟩
 have K02 : Hid (Kept (fun b => b = g) w w2) := hid ((Kept.of_ext E1.out).trans K2.out)
 clear HO1 hg1a hg1b hg1c BZ1 E1 K2
 refine wp_region_flowF 18 ?FW1 (fun us => ?_) (by kernel_rfl) (by kernel_rfl) (fun a b => Ext a b) Ext.refl (fun h1 h2 => h1.next h2) (fun i v W => match i with
  | 0 => v = .slice (some ⟨g1,0,none⟩) 5 c1
  | 1 => v = .pointer (some ⟨g1,0,none⟩)
  | 2 => v = .int .i64 k
  | 3 => v = .slice (some ⟨g1,0,none⟩) 5 c1
  | 4 => v = .pointer (some ⟨g1,1,none⟩)
  | 5 => v = .int .i64 nn
  | 6 => v = .slice (some ⟨g1,0,none⟩) 5 c1
  | 7 => v = .pointer (some ⟨g1,2,none⟩)
  | 8 => v = .int .i64 s
  | 9 => v = .slice (some ⟨g1,0,none⟩) 5 c1
  | 10 => v = .pointer (some ⟨g1,3,none⟩)
  | 11 => v = .int .i64 q
  | 12 => v = .slice (some ⟨g1,0,none⟩) 5 c1
  | 13 => v = .pointer (some ⟨g1,4,none⟩)
  | 14 => v = .int .i64 z
  | 15 => v = .agg (idC ⟨s,q,z⟩).toArray
  | 16 => v = .agg ([.int .i64 k,.int .i64 nn,.int .i64 s,.int .i64 q,.int .i64 z,.int .i64 0,.int .i64 0,.int .i64 0,.int .i64 0,.slice none 0 0,.slice none 0 0,.slice none 0 0] : List Value).toArray
  | 17 => ∃ gz : Nat,v = .pointer (some ⟨gz,0,none⟩) ∧ w2.heap.size ≤ gz ∧ Blk W gz 30 ZN
  | _ => True) ?_ ?_
 case refine_1 =>
  simp only [List.take_succ_cons,List.take_zero,flowAct,Nat.zero_add,Nat.reduceAdd,Act.put,List.setIfInBounds_toArray,List.set_cons_succ,List.set_cons_zero]
  rfl
 ·simp only [List.take_succ_cons,List.take_zero,flowStepsF]
  refine ⟨?_,?_,?_,?_,?_,?_,?_,?_,?_,?_,?_,?_,?_,?_,?_,?_,?_,?_,trivial⟩
  ·intro us W K hE hd hK
   dsimp only at hK ⊢
   have HK := hid hK;have HE := hid hE
   clear hK hd hE
   go_wp2_with fail
   exact K_at (HK.out (.slice (some ⟨g1,0,none⟩) 5 c1) W (fun _ _ => rfl) (Ext.refl W)) (by kernel_rfl)
  ·intro us W K hE hd hK
   have d0 := hd 0 (by kernel_rfl)
   dsimp only at hK ⊢
   rw [d0] at hK ⊢
   have HK := hid hK;have HE := hid hE
   clear hK hd hE d0
   go_wp2_with fail
   exact K_at (HK.out (.pointer (some ⟨g1,0,none⟩)) W (fun _ _ => rfl) (Ext.refl W)) (by kernel_rfl)
  ·intro us W K hE hd hK
   have d1 := hd 1 (by kernel_rfl)
   have cc : W.cell? ⟨g1,0,none⟩ = some (.int .i64 k) := HCC.out W (sg_undrew hE) 0 k rfl
   dsimp only at hK ⊢
   rw [d1] at hK ⊢
   have HK := hid hK;have HE := hid hE
   clear hK hd hE d1
   go_wp2_with fail
   exact K_at (HK.out (.int .i64 k) W (fun _ _ => rfl) (Ext.refl W)) (by kernel_rfl)
  ·intro us W K hE hd hK
   dsimp only at hK ⊢
   have HK := hid hK;have HE := hid hE
   clear hK hd hE
   go_wp2_with fail
   exact K_at (HK.out (.slice (some ⟨g1,0,none⟩) 5 c1) W (fun _ _ => rfl) (Ext.refl W)) (by kernel_rfl)
  ·intro us W K hE hd hK
   have d3 := hd 3 (by kernel_rfl)
   dsimp only at hK ⊢
   rw [d3] at hK ⊢
   have HK := hid hK;have HE := hid hE
   clear hK hd hE d3
   go_wp2_with fail
   exact K_at (HK.out (.pointer (some ⟨g1,1,none⟩)) W (fun _ _ => rfl) (Ext.refl W)) (by kernel_rfl)
  ·intro us W K hE hd hK
   have d4 := hd 4 (by kernel_rfl)
   have cc : W.cell? ⟨g1,1,none⟩ = some (.int .i64 nn) := HCC.out W (sg_undrew hE) 1 nn rfl
   dsimp only at hK ⊢
   rw [d4] at hK ⊢
   have HK := hid hK;have HE := hid hE
   clear hK hd hE d4
   go_wp2_with fail
   exact K_at (HK.out (.int .i64 nn) W (fun _ _ => rfl) (Ext.refl W)) (by kernel_rfl)
  ·intro us W K hE hd hK
   dsimp only at hK ⊢
   have HK := hid hK;have HE := hid hE
   clear hK hd hE
   go_wp2_with fail
   exact K_at (HK.out (.slice (some ⟨g1,0,none⟩) 5 c1) W (fun _ _ => rfl) (Ext.refl W)) (by kernel_rfl)
  ·intro us W K hE hd hK
   have d6 := hd 6 (by kernel_rfl)
   dsimp only at hK ⊢
   rw [d6] at hK ⊢
   have HK := hid hK;have HE := hid hE
   clear hK hd hE d6
   go_wp2_with fail
   exact K_at (HK.out (.pointer (some ⟨g1,2,none⟩)) W (fun _ _ => rfl) (Ext.refl W)) (by kernel_rfl)
  ·intro us W K hE hd hK
   have d7 := hd 7 (by kernel_rfl)
   have cc : W.cell? ⟨g1,2,none⟩ = some (.int .i64 s) := HCC.out W (sg_undrew hE) 2 s rfl
   dsimp only at hK ⊢
   rw [d7] at hK ⊢
   have HK := hid hK;have HE := hid hE
   clear hK hd hE d7
   go_wp2_with fail
   exact K_at (HK.out (.int .i64 s) W (fun _ _ => rfl) (Ext.refl W)) (by kernel_rfl)
  ·intro us W K hE hd hK
   dsimp only at hK ⊢
   have HK := hid hK;have HE := hid hE
   clear hK hd hE
   go_wp2_with fail
   exact K_at (HK.out (.slice (some ⟨g1,0,none⟩) 5 c1) W (fun _ _ => rfl) (Ext.refl W)) (by kernel_rfl)
  ·intro us W K hE hd hK
   have d9 := hd 9 (by kernel_rfl)
   dsimp only at hK ⊢
   rw [d9] at hK ⊢
   have HK := hid hK;have HE := hid hE
   clear hK hd hE d9
   go_wp2_with fail
   exact K_at (HK.out (.pointer (some ⟨g1,3,none⟩)) W (fun _ _ => rfl) (Ext.refl W)) (by kernel_rfl)
  ·intro us W K hE hd hK
   have d10 := hd 10 (by kernel_rfl)
   have cc : W.cell? ⟨g1,3,none⟩ = some (.int .i64 q) := HCC.out W (sg_undrew hE) 3 q rfl
   dsimp only at hK ⊢
   rw [d10] at hK ⊢
   have HK := hid hK;have HE := hid hE
   clear hK hd hE d10
   go_wp2_with fail
   exact K_at (HK.out (.int .i64 q) W (fun _ _ => rfl) (Ext.refl W)) (by kernel_rfl)
  ·intro us W K hE hd hK
   dsimp only at hK ⊢
   have HK := hid hK;have HE := hid hE
   clear hK hd hE
   go_wp2_with fail
   exact K_at (HK.out (.slice (some ⟨g1,0,none⟩) 5 c1) W (fun _ _ => rfl) (Ext.refl W)) (by kernel_rfl)
  ·intro us W K hE hd hK
   have d12 := hd 12 (by kernel_rfl)
   dsimp only at hK ⊢
   rw [d12] at hK ⊢
   have HK := hid hK;have HE := hid hE
   clear hK hd hE d12
   go_wp2_with fail
   exact K_at (HK.out (.pointer (some ⟨g1,4,none⟩)) W (fun _ _ => rfl) (Ext.refl W)) (by kernel_rfl)
  ·intro us W K hE hd hK
   have d13 := hd 13 (by kernel_rfl)
   have cc : W.cell? ⟨g1,4,none⟩ = some (.int .i64 z) := HCC.out W (sg_undrew hE) 4 z rfl
   dsimp only at hK ⊢
   rw [d13] at hK ⊢
   have HK := hid hK;have HE := hid hE
   clear hK hd hE d13
   go_wp2_with fail
   exact K_at (HK.out (.int .i64 z) W (fun _ _ => rfl) (Ext.refl W)) (by kernel_rfl)
  ·intro us W K hE hd hK
   have d8 := hd 8 (by kernel_rfl)
   have d11 := hd 11 (by kernel_rfl)
   have d14 := hd 14 (by kernel_rfl)
   dsimp only at hK ⊢
   rw [d8,d11,d14] at hK ⊢
   have HK := hid hK;have HE := hid hE
   clear hK hd hE d8 d11 d14
   go_wp2_with ((refine wpList_build_eq (by rfl) 23 _ rfl _ (by kernel_rfl) _ (build_id s q z) ?_))
   exact K_at (HK.out (.agg (idC ⟨s,q,z⟩).toArray) W (fun _ _ => rfl) (Ext.refl W)) (by kernel_rfl)
  ·intro us W K hE hd hK
   have d2 := hd 2 (by kernel_rfl)
   have d5 := hd 5 (by kernel_rfl)
   have d15 := hd 15 (by kernel_rfl)
   dsimp only at hK ⊢
   rw [d2,d5,d15] at hK ⊢
   have HK := hid hK;have HE := hid hE
   clear hK hd hE d2 d5 d15
   go_wp2_with ((refine wpList_build_eq (by rfl) 30 _ rfl _ (by kernel_rfl) _ (build_nod k nn s q z) ?_))
   exact K_at (HK.out (.agg ([.int .i64 k,.int .i64 nn,.int .i64 s,.int .i64 q,.int .i64 z,.int .i64 0,.int .i64 0,.int .i64 0,.int .i64 0,.slice none 0 0,.slice none 0 0,.slice none 0 0] : List Value).toArray) W (fun _ _ => rfl) (Ext.refl W)) (by kernel_rfl)
  ·intro us W K hE hd hK
   have HSW := hid (sg_undrew hE).size
   dsimp only at hK ⊢
   have HK := hid hK;have HE := hid hE
   clear hK hd hE
   go_wp2_with fail
   exact K_at (HK.out (.pointer (some ⟨W.heap.size,0,none⟩)) (W.alloc (.cells ZN.toArray 30)) (fun W2 hW2 => ⟨W.heap.size,rfl,HSW.out,(Blk.fresh' W 30 ZN _ _ rfl rfl).ext hW2⟩) ((Ext.refl W).alloc _)) (by kernel_rfl)
 ·intro us W hE hd
  try dsimp only
  have d12 := hd 16 (by decide)
  obtain ⟨g4,d13,hg4,hb4⟩ := hd 17 (by decide)
  simp only [List.drop_succ_cons,List.drop_zero]
  rw [d12,d13]
  have EW := hid (sg_undrew hE)
  have B4 := hid hb4
  have HG4 := hid hg4
  clear hd hE d12 d13 hb4 hg4
  go_upto_region 3 with (refine wpList_store_blk rfl 30 (.tmp 4) (.tmp 24) rfl g4 [.int .i64 k,.int .i64 nn,.int .i64 s,.int .i64 q,.int .i64 z,.int .i64 0,.int .i64 0,.int .i64 0,.int .i64 0,.slice none 0 0,.slice none 0 0,.slice none 0 0] (by kernel_rfl) (by kernel_rfl) B4.out (nod_info.trans rfl) rfl (by intro v hv;simp only [List.mem_cons,List.not_mem_nil,or_false] at hv;rcases hv with rfl | rfl | rfl | rfl | rfl | rfl | rfl | rfl | rfl | rfl | rfl | rfl <;> rfl) ?_;intro w3 hw3 hb3;have B3 : Hid (Blk w3 g4 30 [.int .i64 k,.int .i64 nn,.int .i64 s,.int .i64 q,.int .i64 z,.int .i64 0,.int .i64 0,.int .i64 0,.int .i64 0,.slice none 0 0,.slice none 0 0,.slice none 0 0]) := hid hb3;have E23 : Hid (Ext w2 w3) := hid (by rw [hw3.out];exact EW.out.setRow HG4.out _);clear hw3 hb3)
  have R3 := hid (R2.out.ext E23.out)
  have BZ3 := hid (BZ2.out.ext E23.out)
  have K03 : Hid (Kept (fun b => b = g) w w3) := hid (K02.out.trans (Kept.of_ext E23.out))
  have HGW : Hid (w.heap.size < w2.heap.size) := hid BZ2.out.lt
  have HG44 : Hid (g4 < w3.heap.size) := hid B3.out.lt
  clear R2 BZ2 K02 EW B4
  have HN4 : Hid (g4 ≠ g ∧ w.heap.size ≠ g ∧ lo ≤ g4 ∧ w.heap.size < g4) := hid (by have h1 := HG4.out;have h2 := HLO.out;have h3 := HGW.out;omega)
  have HL3 : Hid (lo ≤ w3.heap.size) := hid (by have h1 := HLO.out;have h2 := HGW.out;have h3 := E23.out.size;omega)
  go_upto_region 4 with (first
   | (go_at_call 82;(with_reducible refine (HTP.out w3 _ _ _ HL3.out R3.out).mono ?_);rintro e w4 ⟨rfl,⟨A4,n4,c4,hr4⟩,hk4⟩;have R4 := hid hr4;have K4 := hid hk4;have B4 := hid (hk4.blk B3.out HN4.out.1);have BZ4 := hid (hk4.blk BZ3.out HN4.out.2.1);clear hr4 hk4)
   | (refine wpList_store_seg rfl 26 (.tmp 27) (.tmp 26) rfl g4 5 [.int .i64 tk,.int .i64 ts,.int .i64 tq,.int .i64 tz,.slice none 0 0] (by kernel_rfl) (by kernel_rfl) B4.out (ty_info.trans rfl) (show 5 + 5 ≤ 12 by decide) (by intro v hv;simp only [List.mem_cons,List.not_mem_nil,or_false] at hv;rcases hv with rfl | rfl | rfl | rfl | rfl <;> rfl) ?_;intro w5 hw5 hb5;have B5 : Hid (Blk w5 g4 30 [.int .i64 k,.int .i64 nn,.int .i64 s,.int .i64 q,.int .i64 z,.int .i64 tk,.int .i64 ts,.int .i64 tq,.int .i64 tz,.slice none 0 0,.slice none 0 0,.slice none 0 0]) := hid hb5;have K45 : Hid (Kept (fun b => b = g4) w4 w5) := hid (by rw [hw5.out];exact Kept.setRow (F := fun b => b = g4) w4 rfl _);clear hw5 hb5))
  have BZ5 : Hid (Blk w5 w.heap.size 30 ZN) := hid (K45.out.blk BZ4.out (by have := HN4.out;omega))
  have R5 : Hid (RdrL lo w5 g _ A4 n4 c4) := hid (R4.out.off (K45.out.mono (fun b _ h => by have := HN4.out;omega)))
  have K05 : Hid (Kept (fun b => b = g) w w5) := hid ((K03.out.trans K4.out).next K45.out (fun b hb h => by have := HN4.out;omega))
  have HG45 : Hid (w3.heap.size ≤ w5.heap.size) := hid (Nat.le_trans K4.out.size K45.out.size)
  clear R3 R4 BZ3 BZ4 B3 B4 K03 K4 K45 HTP
  go_upto_region 5 with (first
   | (go_at_call 67;(with_reducible refine (HIB.out w5 _ _ _ R5.out).mono ?_);rintro e w6 ⟨⟨A5,c5,rfl,ho5⟩,⟨A6,n6,c6,hr6⟩,hk6⟩;have HO5 := hid ho5;have R6 := hid hr6;have K6 := hid hk6;have B6 := hid (hk6.blk B5.out HN4.out.1);have BZ6 := hid (hk6.blk BZ5.out HN4.out.2.1);clear ho5 hr6 hk6)
   | (go_at_call 68;(with_reducible refine (HCH.out _ _ w6).mono ?_);rintro e w9 ⟨rfl,rfl⟩))
  obtain ⟨w7,hw7⟩ : ∃ x,x = ((w6.alloc (.cells #[.slice A5 0 c5] 43)).alloc (.cells #[.int .i64 3] 3)) := ⟨_,rfl⟩
  change Code.wp _ _ _ _ ((w6.alloc (.cells #[.slice A5 0 c5] 43)).alloc (.cells #[.int .i64 3] 3))
  rw [← hw7]
  have E67 : Hid (Ext w6 w7) := hid (by rw [hw7];exact ((Ext.refl w6).alloc _).alloc _)
  have HSZ : Hid (w7.heap.size = w6.heap.size + 2) := hid (by rw [hw7];simp)
  have HBs : w7.cell? ⟨w6.heap.size,0,none⟩ = some (.slice A5 0 c5) := by rw [hw7];exact ((Blk.fresh' w6 43 [.slice A5 0 c5] _ _ rfl rfl).alloc _).cell 0
  have HBn : w7.cell? ⟨w6.heap.size + 1,0,none⟩ = some (.int .i64 3) := by rw [hw7];exact (Blk.fresh' _ 3 [.int .i64 3] _ _ rfl (by simp)).cell 0
  have R7 := hid (R6.out.ext E67.out)
  have BZ7 := hid (BZ6.out.ext E67.out)
  have B7 := hid (B6.out.ext E67.out)
  have K07 : Hid (Kept (fun b => b = g) w w7) := hid ((K05.out.trans K6.out).trans (Kept.of_ext E67.out))
  have HG47 : Hid (g4 < w7.heap.size ∧ w.heap.size < w7.heap.size ∧ g < w7.heap.size) := hid ⟨B7.out.lt,BZ7.out.lt,R7.out.rd.blk.lt⟩
  have hcp := (slice_cap HO5.out).2
  unfold maxLen at hcp
  have hs6 := HSZ.out
  clear hw7 HIA HIB HCH R5 R6 BZ5 BZ6 B5 B6 K05 K6 E67 HO5
  refine (wpIn_wide (n := 6)).1 ?_
  refine wpIn_rangeFunc_ownF (α := Bel 0) rfl (by decide) (gf := 81) (lb := #[.pointer (some ⟨w6.heap.size,0,none⟩),.pointer (some ⟨w6.heap.size + 1,0,none⟩)]) rfl trivial (enters_of Tryz.func81 (by kernel_rfl) rfl)
   (chunk1_stops w6.heap.size (w6.heap.size + 1) 0 c5 3 0 A5 (by decide) rfl (Nat.zero_le _) (by omega) w7 (by omega) (by omega) HBs HBn 0 0 (fun h => absurd h (Nat.lt_irrefl _))) (fun h k => KpB.trans h k) (fun W l ob ob' hl _ _ _ => ⟨World.cell?_of_block (World.putObj_heap_other (by show w6.heap.size ≠ l;omega)),World.cell?_of_block (World.putObj_heap_other (by show w6.heap.size + 1 ≠ l;omega))⟩) (Below.refl _ _) (fun _ => rfl)
   (fun _ W => Ext w7 W) (fun _ _ _ => False) ?hI (fun _ _ _ _ _ hs _ _ => hs) (Ext.refl _) (fun x => absurd x.2 (Nat.not_lt_zero _)) ?assign ?body ?done ?stop
  case hI =>
   rintro pre W W' row h hg hr
   exact (Kept.of_ext (F := fun _ => False) h).next (Kept.of_grown (F := fun b => row = some b) hg (fun b hb _ => hb)) (fun b hb he => by have := (hr b he).1;omega) |>.ext (fun _ h => h.elim)
  case assign =>
   intro l x W K hK
   exact absurd x.2 (Nat.not_lt_zero _)
  case body =>
   intro l0 pre x W0 _ hlt
   exact absurd hlt (Nat.not_lt_zero _)
  case stop =>
   rintro D cd pre W _ _ h _
   exact h.elim
  case done =>
   rintro D ys W hD rfl hE hKD
   have EW := hid hE;have HKD := hid hKD;have HD := hid hD
   have RW := hid (R7.out.ext hE)
   have BZW := hid (BZ7.out.ext hE)
   have BPW := hid (B7.out.ext hE)
   have KW : Hid (Kept (fun b => b = g) w W) := hid (K07.out.trans (Kept.of_ext hE))
   have HDD : Hid (D ≠ g ∧ D ≠ g4 ∧ D ≠ w.heap.size ∧ D < W.heap.size ∧ lo ≤ D ∧ w.heap.size ≤ D ∧ g4 < W.heap.size ∧ w.heap.size < W.heap.size) := hid (by
    have h1 := HD.out
    have h2 := HG47.out
    have h3 := HLO.out
    have h4 : D < W.heap.size := (Array.getElem?_eq_some_iff.1 HKD.out).1
    have h5 := EW.out.size
    omega)
   clear hE hKD hD HBs HBn R7 BZ7 B7 K07 hcp hs6
   go_upto_region 8 with (go_at_call 84;(with_reducible refine (HST.out W _ _ _ RW.out).mono ?_);rintro e w10 ⟨⟨A8,c8,rfl,ho8⟩,⟨A9,n9,c9,hr9⟩,hk9⟩;have HO8 := hid ho8;have R9 := hid hr9;have K9 := hid hk9;have B9 := hid (hk9.blk BPW.out HN4.out.1);have BZ9 := hid (hk9.blk BZW.out HN4.out.2.1);have cd9 := B9.out.cell 11;have fz9 := B9.out.frozen 11;clear ho8 hr9 hk9)
   obtain ⟨w11,hw11⟩ : ∃ x,x = w10.setCell ⟨g4,11,none⟩ (.slice A8 mn c8) := ⟨_,rfl⟩
   change Code.wp _ _ _ _ (w10.setCell ⟨g4,11,none⟩ (.slice A8 mn c8))
   rw [← hw11]
   have K11 : Hid (Kept (fun b => b = g4) w10 w11) := hid (by rw [hw11];exact Kept.setCell (F := fun b => b = g4) (p := ⟨g4,11,none⟩) w10 rfl _)
   have B11 : Hid (Blk w11 g4 30 [.int .i64 k,.int .i64 nn,.int .i64 s,.int .i64 q,.int .i64 z,.int .i64 tk,.int .i64 ts,.int .i64 tq,.int .i64 tz,.slice none 0 0,.slice none 0 0,.slice A8 mn c8]) := hid (by rw [hw11];exact B9.out.set 11 _)
   have BZ11 : Hid (Blk w11 w.heap.size 30 ZN) := hid (K11.out.blk BZ9.out (by have := HN4.out;omega))
   clear hw11 cd9 fz9
   go_wp2_with (first
    | (refine wpList_load_blk rfl 30 (.tmp 4) rfl g4 (by kernel_rfl) B11.out Tryz.underlying30 rfl (nod_info.trans rfl) ?_)
    | (refine wpList_store_blk rfl 30 (.tmp 2) (.tmp 50) rfl w.heap.size [.int .i64 k,.int .i64 nn,.int .i64 s,.int .i64 q,.int .i64 z,.int .i64 tk,.int .i64 ts,.int .i64 tq,.int .i64 tz,.slice none 0 0,.slice none 0 0,.slice A8 mn c8] (by kernel_rfl) (by kernel_rfl) BZ11.out (nod_info.trans rfl) rfl (by intro v hv;simp only [List.mem_cons,List.not_mem_nil,or_false] at hv;rcases hv with rfl | rfl | rfl | rfl | rfl | rfl | rfl | rfl | rfl | rfl | rfl | rfl <;> rfl) ?_;intro w12 hw12 hb12;have B12 := hid hb12))
   have K12 : Kept (fun b => b = w.heap.size) w11 w12 := by rw [hw12.out];exact Kept.setRow (F := fun b => b = w.heap.size) w11 rfl _
   have hD10 : w10.heap[D]? = some (.deferred (some [])) := (K9.out.block D HDD.out.2.2.2.1 (fun e => HDD.out.1 e)).trans HKD.out
   have hD11 : w11.heap[D]? = some (.deferred (some [])) := (K11.out.block D (Nat.lt_of_lt_of_le HDD.out.2.2.2.1 K9.out.size) (fun e => HDD.out.2.1 e)).trans hD10
   have hD12 : w12.heap[D]? = some (.deferred (some [])) := (K12.block D (Nat.lt_of_lt_of_le HDD.out.2.2.2.1 (Nat.le_trans K9.out.size K11.out.size)) (fun e => HDD.out.2.2.1 e)).trans hD11
   have K13 : Kept (fun b => b = D) w12 (w12.putObj D (.deferred none)) := Kept.putObj (F := fun b => b = D) w12 rfl (.deferred none)
   have hbF : Blk (w12.putObj D (.deferred none)) w.heap.size 30 [.int .i64 k,.int .i64 nn,.int .i64 s,.int .i64 q,.int .i64 z,.int .i64 tk,.int .i64 ts,.int .i64 tq,.int .i64 tz,.slice none 0 0,.slice none 0 0,.slice A8 mn c8] := K13.blk B12.out (fun e => HDD.out.2.2.1 e.symm)
   have KF : Kept (fun b => b = g4 ∨ b = w.heap.size ∨ b = D) w10 (w12.putObj D (.deferred none)) := ((K11.out.mono (fun b _ h => Or.inl h)).trans (K12.mono (fun b _ h => Or.inr (Or.inl h)))).trans (K13.mono (fun b _ h => Or.inr (Or.inr h)))
   refine ⟨by simp,.inl ⟨_,_,rfl,run_takeDeferred hD12,?_⟩⟩
   refine ⟨_,results_blk Tryz.results83 _ _ w.heap.size 30 [.int .i64 k,.int .i64 nn,.int .i64 s,.int .i64 q,.int .i64 z,.int .i64 tk,.int .i64 ts,.int .i64 tq,.int .i64 tz,.slice none 0 0,.slice none 0 0,.slice A8 mn c8] _ (by rfl) hbF Tryz.underlying30 rfl (nod_info.trans rfl),?_⟩
   have hcp8 := slice_cap HO8.out
   unfold maxLen at hcp8
   refine ⟨⟨A8,c8,rfl,hcp8.1,hcp8.2,own_base2 (KF.own HO8.out (fun b hb h => ?_)) KW.out.size⟩,⟨_,_,_,R9.out.off (KF.mono (fun b _ h => ?_))⟩,(KW.out.trans K9.out).next KF (fun b hb h => ?_)⟩
   ·have h1 := own_geq HO8.out hb;have h2 := HDD.out;omega
   ·have h1 := HDD.out;have h2 := HLO.out;have h3 := HN4.out;omega
   ·have h1 := HDD.out;have h2 := HLO.out;have h3 := HN4.out;omega
end Go.Proofs.YtojcmcccahjphaaGreatDoor
