/- The reference of package patch: odd contents of nodes. Conditions: none. -/
import Derived.Test.YtojcmcccahjphaaGreatDoorM21
import Derived.Test.YtojcmcccahjphaaGreatDoorM22
set_option linter.unusedSimpArgs false
set_option linter.unusedVariables false
set_option maxHeartbeats 16000000
set_option maxRecDepth 100000
set_option maxRecDepth 100000
set_option maxHeartbeats 16000000
namespace Go.Proofs.YtojcmcccahjphaaGreatDoor
open Go.RowKit
open Lib (hid)
attribute [local go_sem ↓] wp_at_zero wp_at_succ
theorem tdivk (b k : Int) (h0 : -9223372036854775808 ≤ b) (h1 : b ≤ 9223372036854775807) (hk : 0 < k) : -9223372036854775808 ≤ b.tdiv k ∧ b.tdiv k ≤ 9223372036854775807 := by
 rcases Int.lt_or_le b 0 with h | h
 ·have e : b.tdiv k = -((-b) / k) := by rw [← Int.tdiv_eq_ediv_of_nonneg (by omega),Int.neg_tdiv,Int.neg_neg]
  have h2 : 0 ≤ (-b) / k := Int.ediv_nonneg (by omega) (by omega)
  have h3 : (-b) / k ≤ -b := Int.ediv_le_self _ (by omega)
  rw [e];omega
 ·rw [Int.tdiv_eq_ediv_of_nonneg h]
  have h2 : 0 ≤ b / k := Int.ediv_nonneg h (by omega)
  have h3 : b / k ≤ b := Int.ediv_le_self _ h
  omega
theorem aro_nat (b m : Int) (h0 : -9223372036854775808 ≤ b) (h1 : b ≤ 9223372036854775807) (hm : 0 < m) (hm2 : m ≤ 1000) : ∃ j : Nat,(j : Int) < m ∧ ∀ W,Calls Tryz.prog 8 #[.int .i64 b,.int .i64 m] W fun e w' => e = .returned (.int .i64 (j : Int)) ∧ W = w' := by
 have h := aroI_bd b m hm
 refine ⟨(aroI b m).toNat,by omega,fun W => ?_⟩
 rw [show (((aroI b m).toNat : Nat) : Int) = aroI b m by omega]
 exact around_any b m W h0 h1 hm (by omega)
theorem aro_q (b k m : Int) (h0 : -9223372036854775808 ≤ b) (h1 : b ≤ 9223372036854775807) (hk : 0 < k) (hm : 0 < m) (hm2 : m ≤ 1000) : ∃ j : Nat,(j : Int) < m ∧ ∀ W,Calls Tryz.prog 8 #[.int .i64 (wrap64 (b.tdiv k)),.int .i64 m] W fun e w' => e = .returned (.int .i64 (j : Int)) ∧ W = w' := by
 have q := tdivk b k h0 h1 hk
 have e : wrap64 (b.tdiv k) = b.tdiv k := by unfold wrap64;omega
 rw [e]
 exact aro_nat _ m q.1 q.2 hm hm2
def nodZ : List Value := [.int .i64 0,.int .i64 0,.int .i64 0,.int .i64 0,.int .i64 0,.int .i64 0,.int .i64 0,.int .i64 0,.int .i64 0,.slice none 0 0,.slice none 0 0,.slice none 0 0]
theorem str_apart {w : World} {g b o : Nat} {t : TypeId} {cs : List Value} {y : ByteArray} (hb : Blk w g t cs) (hcs : ∀ s,Value.string s ∉ cs) (hc : w.cell? ⟨b,o,none⟩ = some (.string y)) : b ≠ g := fun e => by
 subst e
 rw [hb.cell] at hc
 exact hcs y (List.mem_of_getElem? hc)
theorem nod_nostr {w : World} {x : NodA} {t : List Value} {A : Option Addr} {n c : Nat} {B : Option Addr} {m d : Nat} (h : TyV w x.ty t) : ∀ s,Value.string s ∉ nodC x t (.slice A n c) (.slice B m d) := fun s hs => by
 obtain ⟨k,N,ref,ty,kids,names⟩ := x
 cases ty with
 | nil => exact h.elim
 | cons y r =>
  obtain ⟨A',n',c',rfl,_⟩ := h.head
  simp [nodC,tyC] at hs
theorem nodZ_nostr : ∀ s,Value.string s ∉ nodZ := fun s hs => by simp [nodZ] at hs
def few9 : List Rid := [⟨1,2,3⟩,⟨0,1,0⟩,⟨7,16,31⟩,⟨1,2,3⟩,⟨1,2,3⟩,⟨1,2,3⟩,⟨1,2,3⟩,⟨1,2,3⟩,⟨1,2,3⟩]
structure OddS (w wx : World) (g g5 g7 gF : Nat) (x : NodA) (t : List Value) (A : Option Addr) (n c : Nat) (B : Option Addr) (m d : Nat) : Prop where
 ext : Ext w wx
 node : Blk wx g7 30 (nodC x t (.slice A n c) (.slice B m d))
 rows : NodR (fun b => b ≠ g7 ∧ b ≠ g) wx x t A n c B m d
 zero : Blk wx g 30 nodZ
 idb : Blk wx g5 23 [.int .i64 1,.int .i64 2,.int .i64 3]
 few : Blk wx gF 23 (idsC few9)
 nw : NodW x
 l1 : x.kids.length ≤ 9
 l2 : x.names.length ≤ 8
 l3 : ∀ s ∈ x.names,s.size ≤ 1
 l4 : x.ty.length ≤ 1001
theorem OddS.upd {w wx w' : World} {g g5 g7 gF : Nat} {x : NodA} {t : List Value} {A : Option Addr} {n c : Nat} {B : Option Addr} {m d : Nat} (h : OddS w wx g g5 g7 gF x t A n c B m d) (hl : w.heap.size ≤ g7) (hg : g ≠ g7) (hg5 : g5 ≠ g7) (hgF : gF ≠ g7) (hK : Kept (fun b => b = g7) wx w')
  {x' : NodA} {t' : List Value} {A' : Option Addr} {n' c' : Nat} {B' : Option Addr} {m' d' : Nat} (hb : Blk w' g7 30 (nodC x' t' (.slice A' n' c') (.slice B' m' d'))) (hr : NodR (fun b => b ≠ g7 ∧ b ≠ g) w' x' t' A' n' c' B' m' d') (hw : NodW x') (l1 : x'.kids.length ≤ 9) (l2 : x'.names.length ≤ 8) (l3 : ∀ s ∈ x'.names,s.size ≤ 1) (l4 : x'.ty.length ≤ 1001) : OddS w w' g g5 g7 gF x' t' A' n' c' B' m' d' :=
 ⟨((Kept.of_ext (F := fun b => b = g7) h.ext).trans hK).ext (fun b hb => by omega),hb,hr,hK.blk h.zero hg,hK.blk h.idb hg5,hK.blk h.few hgF,hw,l1,l2,l3,l4⟩
theorem NodR.upd {g7 g : Nat} {wx w' : World} {x : NodA} {t : List Value} {A : Option Addr} {n c : Nat} {B : Option Addr} {m d : Nat} (h : NodR (fun b => b ≠ g7 ∧ b ≠ g) wx x t A n c B m d) (hK : Kept (fun b => b = g7) wx w') : NodR (fun b => b ≠ g7 ∧ b ≠ g) w' x t A n c B m d :=
 h.keep hK.size (fun b hp hb => hK.block b hb hp.1)
def num13 (b : Int) : List Int := [0,1,2,5,6,7,8,-1,11,12,1099511627776,1099511627777,b]
theorem num13_i64 (b : Int) (h : -9223372036854775808 ≤ b ∧ b ≤ 9223372036854775807) (j : Nat) (hj : (j : Int) < 13) : ∃ N,i64 N ∧ ((num13 b).map (Value.int .i64))[j]? = some (.int .i64 N) := by
 rcases (by omega : j = 0 ∨ j = 1 ∨ j = 2 ∨ j = 3 ∨ j = 4 ∨ j = 5 ∨ j = 6 ∨ j = 7 ∨ j = 8 ∨ j = 9 ∨ j = 10 ∨ j = 11 ∨ j = 12) with rfl | rfl | rfl | rfl | rfl | rfl | rfl | rfl | rfl | rfl | rfl | rfl | rfl <;> exact ⟨_,by unfold i64;omega,rfl⟩
def nam7 : List ByteArray := [⟨#[97]⟩,⟨#[98]⟩,⟨#[99]⟩,⟨#[100]⟩,⟨#[101]⟩,⟨#[102]⟩,⟨#[103]⟩]
theorem nod0_w (k : Int) (N : Int) (hk : i64 k) (hN : i64 N) : NodW ⟨k,N,⟨0,0,0⟩,[⟨0,⟨0,0,0⟩⟩],[],[]⟩ :=
 ⟨⟨hk,hN,by unfold i64;dsimp only;omega,by unfold i64;dsimp only;omega,by unfold i64;dsimp only;omega⟩,fun x hx => by rw [List.mem_singleton.1 hx];exact i64_ty _ (by decide) (by decide),fun y hy => absurd hy (by simp),fun s hs => absurd hs (by simp)⟩
theorem nod0_one (k N : Int) : ∀ v ∈ nodC ⟨k,N,⟨0,0,0⟩,[⟨0,⟨0,0,0⟩⟩],[],[]⟩ [.int .i64 0,.int .i64 0,.int .i64 0,.int .i64 0,.slice none 0 0] (.slice none 0 0) (.slice none 0 0),v.oneCell' = true := by
 intro v hv
 simp only [nodC,List.cons_append,List.nil_append,List.mem_cons,List.not_mem_nil,or_false] at hv
 rcases hv with rfl | rfl | rfl | rfl | rfl | rfl | rfl | rfl | rfl | rfl | rfl | rfl <;> rfl
theorem rodd_any (how b : Int) (w : World) (h0 : -9223372036854775808 ≤ how) (h1 : how ≤ 9223372036854775807) (h2 : -9223372036854775808 ≤ b) (h3 : b ≤ 9223372036854775807) : Calls Tryz.prog 4 #[.int .i64 how,.int .i64 b] w fun e w' => (∃ x cs,e = .returned (.agg cs.toArray) ∧ NodV w' x cs ∧ NodW x ∧ x.kids.length ≤ 9 ∧ x.names.length ≤ 8 ∧ (∀ s ∈ x.names,s.size ≤ 1) ∧ x.ty.length ≤ 1001) ∧ Ext w w' := by
 obtain ⟨k15,hk15,hc15⟩ := aro_nat how 15 h0 h1 (by decide) (by decide)
 obtain ⟨j13,hj13,hc13⟩ := aro_nat b 13 h2 h3 (by decide) (by decide)
 obtain ⟨k10,hk10,hc10⟩ := aro_q how 15 10 h0 h1 (by decide) (by decide) (by decide)
 obtain ⟨k2,hk2,hc2⟩ := aro_q how 150 2 h0 h1 (by decide) (by decide) (by decide)
 obtain ⟨k8,hk8,hc8⟩ := aro_q b 13 8 h2 h3 (by decide) (by decide) (by decide)
 obtain ⟨k5,hk5,hc5⟩ := aro_q b 7 5 h2 h3 (by decide) (by decide) (by decide)
 obtain ⟨k9,hk9,hc9⟩ := aro_q b 11 9 h2 h3 (by decide) (by decide) (by decide)
 obtain ⟨k26,hk26,hc26⟩ := aro_nat b 26 h2 h3 (by decide) (by decide)
 have H15 := hid hc15;have H13 := hid hc13;have H10 := hid hc10;have H2 := hid hc2;have H8 := hid hc8;have H5 := hid hc5;have H9 := hid hc9;have H26 := hid hc26
 clear hc15 hc13 hc10 hc2 hc8 hc5 hc9 hc26
 have HB := hid (And.intro h2 h3)
 clear h0 h1 h2 h3
 have E0 : Hid (Ext w (w.alloc (.cells #[.int .i64 0,.int .i64 0,.int .i64 0,.int .i64 0,.int .i64 0,.int .i64 0,.int .i64 0,.int .i64 0,.int .i64 0,.slice none 0 0,.slice none 0 0,.slice none 0 0] 30))) := hid ((Ext.refl w).alloc _)
 have B0 : Hid (Blk (w.alloc (.cells #[.int .i64 0,.int .i64 0,.int .i64 0,.int .i64 0,.int .i64 0,.int .i64 0,.int .i64 0,.int .i64 0,.int .i64 0,.slice none 0 0,.slice none 0 0,.slice none 0 0] 30)) w.heap.size 30 nodZ) := hid (Blk.fresh' _ _ _ _ _ rfl rfl)
 obtain ⟨w1,hw1⟩ : ∃ x,x = w.alloc (.cells #[.int .i64 0,.int .i64 0,.int .i64 0,.int .i64 0,.int .i64 0,.int .i64 0,.int .i64 0,.int .i64 0,.int .i64 0,.slice none 0 0,.slice none 0 0,.slice none 0 0] 30) := ⟨_,rfl⟩
 rw [← hw1] at E0 B0
 have HS1 : Hid (w1.heap.size = w.heap.size + 1) := hid (by rw [hw1];simp)
 obtain ⟨g,hg⟩ : ∃ g,g = w.heap.size := ⟨_,rfl⟩
 go_enter Tryz.func4,Tryz.ntmps4
 go_upto_region 1 with fail
 change Code.wp _ _ _ _ (w.alloc (.cells #[.int .i64 0,.int .i64 0,.int .i64 0,.int .i64 0,.int .i64 0,.int .i64 0,.int .i64 0,.int .i64 0,.int .i64 0,.slice none 0 0,.slice none 0 0,.slice none 0 0] 30))
 rw [← hw1]
 clear hw1
 rw [← hg] at HS1 B0 ⊢
 obtain ⟨g5,hg5⟩ : ∃ g,g = w1.heap.size := ⟨_,rfl⟩
 go_upto_region 2 with ((refine wpList_store_fresh rfl 23 (.tmp 5) (.tmp 8) rfl _ w1.heap.size rfl [.int .i64 0,.int .i64 0,.int .i64 0] [.int .i64 1,.int .i64 2,.int .i64 3] 23 (by rfl) (by rfl) rfl info_id rfl (idsC_one [⟨1,2,3⟩]) ?_);intro w2 hw2 hE2 hz2;have E2 : Hid (Ext w1 w2) := hid hE2;have Z2 := hid hw2;have HS2 := hid hz2;clear hw2 hE2 hz2)
 have B2 := hid (B0.out.ext E2.out)
 have E02 := hid (E0.out.next E2.out)
 rw [← hg5] at Z2 ⊢
 have HG : Hid (g = w.heap.size ∧ g < g5 ∧ g5 < w2.heap.size) := hid ⟨hg,by have := HS1.out;omega,Z2.out.lt⟩
 clear hg hg5 HS1 B0 E0 E2 HS2
 simp only [Act.put]
 obtain ⟨gF,hgF⟩ : ∃ g,g = w2.heap.size := ⟨_,rfl⟩
 go_upto_region 3 with (refine wpList_load_blk rfl 23 (.tmp 5) rfl g5 (by kernel_rfl) Z2.out Tryz.underlying23 rfl (info_id.trans rfl) ?_)
 obtain ⟨w3,hw3⟩ : ∃ x,x = w2.alloc (.cells #[.int .i64 1,.int .i64 2,.int .i64 3,.int .i64 0,.int .i64 1,.int .i64 0,.int .i64 7,.int .i64 16,.int .i64 31,.int .i64 1,.int .i64 2,.int .i64 3,.int .i64 1,.int .i64 2,.int .i64 3,.int .i64 1,.int .i64 2,.int .i64 3,.int .i64 1,.int .i64 2,.int .i64 3,.int .i64 1,.int .i64 2,.int .i64 3,.int .i64 1,.int .i64 2,.int .i64 3] 23) := ⟨_,rfl⟩
 have BF : Hid (Blk w3 gF 23 (idsC few9)) := hid (by rw [hw3,hgF];exact Blk.fresh' _ _ _ _ _ rfl rfl)
 have E23 : Hid (Ext w2 w3) := hid (by rw [hw3];exact (Ext.refl w2).alloc _)
 have HS3 : Hid (w3.heap.size = gF + 1) := hid (by rw [hw3,hgF];simp)
 rw [← hw3,← hgF]
 have HGF := hid hgF
 clear hw3 hgF
 have E03 := hid (E02.out.next E23.out)
 have B3 := hid (B2.out.ext E23.out)
 have Z3 := hid (Z2.out.ext E23.out)
 clear E02 B2 Z2 E23
 have hwr : IntKind.i64.wrap ((k15 : Int) - 1) = (k15 : Int) - 1 := wrapp (by omega) (by omega)
 obtain ⟨N,hNi,hN⟩ := num13_i64 b HB.out j13 hj13
 have HJ : Hid (j13 < 13) := hid (by omega)
 have w13l : (0 : Int) ≤ (j13 : Int) ∧ (j13 : Int) < 13 := ⟨by omega,hj13⟩
 have c13 : (w3.alloc (.cells #[.int .i64 0,.int .i64 1,.int .i64 2,.int .i64 5,.int .i64 6,.int .i64 7,.int .i64 8,.int .i64 (-1),.int .i64 11,.int .i64 12,.int .i64 1099511627776,.int .i64 1099511627777,.int .i64 b] 3)).cell? ⟨w3.heap.size,j13,none⟩ = some (.int .i64 N) := by
  have hbq : Blk (w3.alloc (.cells #[.int .i64 0,.int .i64 1,.int .i64 2,.int .i64 5,.int .i64 6,.int .i64 7,.int .i64 8,.int .i64 (-1),.int .i64 11,.int .i64 12,.int .i64 1099511627776,.int .i64 1099511627777,.int .i64 b] 3)) w3.heap.size 3 ((num13 b).map (Value.int .i64)) := Blk.fresh' _ _ _ _ _ rfl rfl
  exact (hbq.cell j13).trans hN
 have HN := hid hNi
 clear hN hNi
 obtain ⟨g7,hg7⟩ : ∃ g,g = w3.heap.size + 1 := ⟨_,rfl⟩
 go_upto_region 4 with (first
  | (go_at_call 8;(with_reducible refine (H15.out _).mono ?_);rintro e w6 ⟨rfl,rfl⟩)
  | (go_at_call 8;(with_reducible refine (H13.out _).mono ?_);rintro e w6 ⟨rfl,rfl⟩)
  | ((refine wpList_store_fresh rfl 30 (.tmp 7) (.tmp 28) rfl _ (w3.heap.size + 1) (by simp) nodZ (nodC ⟨(k15 : Int) - 1,N,⟨0,0,0⟩,[⟨0,⟨0,0,0⟩⟩],[],[]⟩ [.int .i64 0,.int .i64 0,.int .i64 0,.int .i64 0,.slice none 0 0] (.slice none 0 0) (.slice none 0 0)) 30 (by rfl) (by rfl) rfl (nod_info.trans rfl) rfl (nod0_one _ _) ?_);intro w4 hw4 hE4 hz4;have B4 := hid hw4;have E4 := hid hE4;clear hw4 hE4 hz4))
 rw [← hg7] at B4 ⊢
 have E34 : Hid (Ext w3 w4) := hid (((Ext.refl w3).alloc _).next E4.out)
 have HD : Hid (w.heap.size ≤ g7 ∧ g ≠ g7 ∧ g5 ≠ g7 ∧ gF ≠ g7 ∧ g ≠ gF ∧ gF < g7 ∧ g < g7) := hid (by have h1 := HG.out;have h2 := HGF.out;have h3 := HS3.out;omega)
 have S4 : Hid (OddS w w4 g g5 g7 gF ⟨(k15 : Int) - 1,N,⟨0,0,0⟩,[⟨0,⟨0,0,0⟩⟩],[],[]⟩ [.int .i64 0,.int .i64 0,.int .i64 0,.int .i64 0,.slice none 0 0] none 0 0 none 0 0) := hid
  ⟨E03.out.next E34.out,B4.out,⟨⟨none,0,rfl,by decide⟩,RdP.nil _ _ _ _,Nat.le_refl _,by decide,by decide,RdP.nil _ _ _ _,Nat.le_refl _,by decide,by decide⟩,B3.out.ext E34.out,Z3.out.ext E34.out,BF.out.ext E34.out,
   nod0_w _ _ (by unfold i64;omega) HN.out,Nat.zero_le _,Nat.zero_le _,fun s hs => absurd hs (by simp),by show 1 ≤ 1001;omega⟩
 have HGG : Hid (g = w.heap.size) := hid HG.out.1
 clear hg7 HG HGF HS3 E03 B3 Z3 BF B4 E4 E34 hwr c13 w13l HJ hj13 H13 H15 HN
 simp only [Act.put]
 have fz := S4.out.node.frozen 10
 have cd : w4.cell? ⟨g7,10,none⟩ = some (.slice none 0 0) := S4.out.node.cell 10
 go_upto_region 5 with (first
  | (go_at_call 8;(with_reducible refine (H10.out _).mono ?_);rintro e w6 ⟨rfl,rfl⟩))
 obtain ⟨w5,hw5⟩ : ∃ x,x = w4.setCell ⟨g7,10,none⟩ (.slice (some ⟨gF,0,none⟩) k10 9) := ⟨_,rfl⟩
 rw [← hw5]
 have K5 : Hid (Kept (fun b => b = g7) w4 w5) := hid (by rw [hw5];exact Kept.setCell (F := fun b => b = g7) (p := ⟨g7,10,none⟩) w4 rfl _)
 have S5 : Hid (OddS w w5 g g5 g7 gF ⟨(k15 : Int) - 1,N,⟨0,0,0⟩,[⟨0,⟨0,0,0⟩⟩],few9.take k10,[]⟩ [.int .i64 0,.int .i64 0,.int .i64 0,.int .i64 0,.slice none 0 0] (some ⟨gF,0,none⟩) k10 9 none 0 0) := hid (by
  have hd := HD.out
  have hr := S4.out.rows.upd K5.out
  have hkl : (few9.take k10).length = k10 := by rw [List.length_take];simp [few9];omega
  have hbF := K5.out.blk S4.out.few hd.2.2.2.1
  refine S4.out.upd hd.1 hd.2.1 hd.2.2.1 hd.2.2.2.1 K5.out (by rw [hw5];exact S4.out.node.set 10 _) ⟨hr.ty,RdP.blk hbF ⟨hd.2.2.2.1,hd.2.2.2.2.1.symm⟩ (by rw [idsC_len,hkl]) (fun j u hu => ?_),by omega,by decide,by omega,hr.nms,hr.nle,hr.ncap,hr.nfew⟩ ⟨S4.out.nw.nums,S4.out.nw.ty,fun y hy => ?_,S4.out.nw.names⟩ (by rw [hkl];omega) S4.out.l2 S4.out.l3 S4.out.l4
  ·rw [Nat.zero_add]
   rw [idsC_take] at hu
   rw [List.getElem?_take] at hu
   split at hu
   ·exact hu
   ·cases hu
  ·have h := List.mem_of_mem_take hy
   simp only [few9,List.mem_cons,List.not_mem_nil,or_false] at h
   rcases h with rfl | rfl | rfl | rfl | rfl | rfl | rfl | rfl | rfl <;> exact ⟨by unfold i64;dsimp only;omega,by unfold i64;dsimp only;omega,by unfold i64;dsimp only;omega⟩)
 clear hw5 fz cd S4 K5 H10
 obtain ⟨z2,hz2⟩ : ∃ z,z = ((k2 : Int) == 1) := ⟨_,rfl⟩
 have hz2' : ((k2 : Int) == 1) = z2 := hz2.symm
 clear hz2
 go_upto_if 38 with (go_at_call 8;(with_reducible refine (H2.out _).mono ?_);rintro e w6 ⟨rfl,rfl⟩)
 clear hz2'
 go_cut [] (fun wx => ∃ x t A n c B m d,OddS w wx g g5 g7 gF x t A n c B m d)
 case first =>
  cases z2
  ·go_wp2_with fail
   go_meet
   exact ⟨_,_,_,_,_,_,_,_,S5.out⟩
  ·go_wp2_with (first
    | (refine wpList_load_blk rfl 23 (.tmp 5) rfl g5 (by kernel_rfl) S5.out.idb Tryz.underlying23 rfl (info_id.trans rfl) ?_)
    | (refine wpList_store_seg rfl 23 (.tmp 40) (.tmp 39) rfl g7 2 [.int .i64 1,.int .i64 2,.int .i64 3] (by kernel_rfl) (by kernel_rfl) S5.out.node (info_id.trans rfl) (show 2 + 3 ≤ 12 by decide) (idsC_one [⟨1,2,3⟩]) ?_;intro w6 hw6 hb6;have B6 := hid hb6;have W6 := hid hw6;clear hw6 hb6))
   go_meet
   have hd := HD.out
   have K6 : Kept (fun b => b = g7) w5 w6 := by rw [W6.out];exact Kept.setRow (F := fun b => b = g7) _ rfl _
   have hr := S5.out.rows.upd K6
   have S6 := S5.out.upd (x' := ⟨(k15 : Int) - 1,N,⟨1,2,3⟩,[⟨0,⟨0,0,0⟩⟩],few9.take k10,[]⟩) (t' := [.int .i64 0,.int .i64 0,.int .i64 0,.int .i64 0,.slice none 0 0]) (A' := some ⟨gF,0,none⟩) (n' := k10) (c' := 9) (B' := none) (m' := 0) (d' := 0) hd.1 hd.2.1 hd.2.2.1 hd.2.2.2.1 K6 B6.out ⟨hr.ty,hr.kids,hr.kle,hr.kcap,hr.kfew,hr.nms,hr.nle,hr.ncap,hr.nfew⟩ ⟨⟨S5.out.nw.nums.1,S5.out.nw.nums.2.1,by unfold i64;dsimp only;omega,by unfold i64;dsimp only;omega,by unfold i64;dsimp only;omega⟩,S5.out.nw.ty,S5.out.nw.kids,S5.out.nw.names⟩ S5.out.l1 S5.out.l2 S5.out.l3 S5.out.l4
   exact ⟨_,_,_,_,_,_,_,_,S6⟩
 case rest =>
 obtain ⟨x,t,A,n,c,B,m,d,hS6⟩ := hcut
 obtain ⟨w6,rfl⟩ : ∃ x : World,x = wc := ⟨_,rfl⟩
 have S6 := hid hS6
 clear hS6 S5 H2 hk2 hk15 hk10
 obtain ⟨k,N,⟨s,q,i⟩,ty,kids,names⟩ := x
 obtain ⟨t0,t1,t2,t3,t4,rfl⟩ := list5 t S6.out.rows.ty.tyV.len
 have EA : Hid (Ext w6 (w6.alloc (.cells #[.string ⟨#[97]⟩,.string ⟨#[98]⟩,.string ⟨#[99]⟩,.string ⟨#[100]⟩,.string ⟨#[101]⟩,.string ⟨#[102]⟩,.string ⟨#[103]⟩] 9))) := hid ((Ext.refl _).alloc _)
 have BA : Hid (Blk (w6.alloc (.cells #[.string ⟨#[97]⟩,.string ⟨#[98]⟩,.string ⟨#[99]⟩,.string ⟨#[100]⟩,.string ⟨#[101]⟩,.string ⟨#[102]⟩,.string ⟨#[103]⟩] 9)) w6.heap.size 9 (nam7.map Value.string)) := hid (Blk.fresh' _ _ _ _ _ rfl rfl)
 have NA := hid (S6.out.node.ext EA.out)
 have fz := NA.out.frozen 11
 have cd : (w6.alloc (.cells #[.string ⟨#[97]⟩,.string ⟨#[98]⟩,.string ⟨#[99]⟩,.string ⟨#[100]⟩,.string ⟨#[101]⟩,.string ⟨#[102]⟩,.string ⟨#[103]⟩] 9)).cell? ⟨g7,11,none⟩ = some (.slice B m d) := NA.out.cell 11
 have HZ6 : Hid (g7 < w6.heap.size) := hid S6.out.node.lt
 go_upto_region 8 with (go_at_call 8;(with_reducible refine (H8.out _).mono ?_);rintro e w7 ⟨rfl,rfl⟩)
 obtain ⟨w7,hw7⟩ : ∃ x,x = (w6.alloc (.cells #[.string ⟨#[97]⟩,.string ⟨#[98]⟩,.string ⟨#[99]⟩,.string ⟨#[100]⟩,.string ⟨#[101]⟩,.string ⟨#[102]⟩,.string ⟨#[103]⟩] 9)).setCell ⟨g7,11,none⟩ (.slice (some ⟨w6.heap.size,0,none⟩) k8 7) := ⟨_,rfl⟩
 rw [← hw7]
 have K7' : Hid (Kept (fun b => b = g7) (w6.alloc (.cells #[.string ⟨#[97]⟩,.string ⟨#[98]⟩,.string ⟨#[99]⟩,.string ⟨#[100]⟩,.string ⟨#[101]⟩,.string ⟨#[102]⟩,.string ⟨#[103]⟩] 9)) w7) := hid (by rw [hw7];exact Kept.setCell (F := fun b => b = g7) (p := ⟨g7,11,none⟩) _ rfl _)
 have K7 : Hid (Kept (fun b => b = g7) w6 w7) := hid ((Kept.of_ext EA.out).trans K7'.out)
 have S7 : Hid (OddS w w7 g g5 g7 gF ⟨k,N,⟨s,q,i⟩,ty,kids,nam7.take k8⟩ [t0,t1,t2,t3,t4] A n c (some ⟨w6.heap.size,0,none⟩) k8 7) := hid (by
  have hd := HD.out
  have hz := HZ6.out
  have hr := S6.out.rows.upd K7.out
  have hkl : (nam7.take k8).length = k8 := by rw [List.length_take];simp [nam7];omega
  have hbN := K7'.out.blk BA.out (show w6.heap.size ≠ g7 by omega)
  have hm1 : ∀ s ∈ nam7.take k8,s.size ≤ 1 := fun s hs => by
   have h := List.mem_of_mem_take hs
   simp only [nam7,List.mem_cons,List.not_mem_nil,or_false] at h
   rcases h with rfl | rfl | rfl | rfl | rfl | rfl | rfl <;> decide
  refine S6.out.upd hd.1 hd.2.1 hd.2.2.1 hd.2.2.2.1 K7.out (by rw [hw7];exact NA.out.set 11 _) ⟨hr.ty,hr.kids,hr.kle,hr.kcap,hr.kfew,RdP.blk hbN ⟨by omega,by have := hd.2.2.2.2.2.2;omega⟩ (by rw [List.length_map,hkl];omega) (fun j u hu => ?_),by omega,by decide,by omega⟩ ⟨S6.out.nw.nums,S6.out.nw.ty,S6.out.nw.kids,fun y hy => Nat.le_trans (hm1 y hy) (by decide)⟩ S6.out.l1 (by rw [hkl];omega) hm1 S6.out.l4
  rw [Nat.zero_add]
  rw [List.map_take,List.getElem?_take] at hu
  split at hu
  ·exact hu
  ·cases hu)
 clear hw7 fz cd S6 K7 K7' EA BA NA H8 HZ6
 obtain ⟨z5,hz5⟩ : ∃ z,z = ((k5 : Int) == 0) := ⟨_,rfl⟩
 have hz5' : ((k5 : Int) == 0) = z5 := hz5.symm
 clear hz5
 go_upto_if 50 with (go_at_call 8;(with_reducible refine (H5.out _).mono ?_);rintro e w8 ⟨rfl,rfl⟩)
 clear hz5' hk8 hk5
 go_cut [] (fun wx => ∃ x t A n c B m d,x.k = k ∧ OddS w wx g g5 g7 gF x t A n c B m d)
 case first =>
  cases z5
  ·go_wp2_with fail
   go_meet
   exact ⟨_,_,_,_,_,_,_,_,rfl,S7.out⟩
  ·obtain ⟨i0,hi,hzz0,hzz1,hzz2⟩ := info_parts winfo_str
   have EA : Hid (Ext w7 (w7.alloc (.cells #[.string ⟨#[]⟩] 9))) := hid ((Ext.refl _).alloc _)
   have BA : Hid (Blk (w7.alloc (.cells #[.string ⟨#[]⟩] 9)) w7.heap.size 9 [.string ⟨#[]⟩]) := hid (Blk.fresh' _ _ _ _ _ rfl rfl)
   have NA := hid (S7.out.node.ext EA.out)
   have cd : (w7.alloc (.cells #[.string ⟨#[]⟩] 9)).cell? ⟨g7,11,none⟩ = some (.slice (some ⟨w6.heap.size,0,none⟩) k8 7) := NA.out.cell 11
   have RA : Hid (Rd (w7.alloc (.cells #[.string ⟨#[]⟩] 9)) (w7.alloc (.cells #[.string ⟨#[]⟩] 9)).heap.size (some ⟨w7.heap.size,0,none⟩) 1 [.string ⟨#[]⟩]) := hid (BA.out.rd rfl)
   have RN : Hid (Rd (w7.alloc (.cells #[.string ⟨#[]⟩] 9)) (w7.alloc (.cells #[.string ⟨#[]⟩] 9)).heap.size (some ⟨w6.heap.size,0,none⟩) k8 ((nam7.take k8).map Value.string)) := hid ((S7.out.rows.nodS.nms).ext' EA.out)
   have hk8' : k8 ≤ 8 := by
    have h : (nam7.take k8).length ≤ 8 := S7.out.l2
    have h2 : ((nam7.take k8).map Value.string).length = k8 := S7.out.rows.nodS.nms.1
    rw [List.length_map] at h2;omega
   go_wp2_with (at_builtin;refine wpList_app_tight rfl (.tmp 51) (.tmp 53) 28 rfl 9 i0 (.string ⟨#[]⟩) 16 Tryz.underlying28 hi hzz0 hzz1 hzz2 rfl w7.heap.size 0 1 [.string ⟨#[]⟩] rfl _ RA.out (by decide) _ (some ⟨w6.heap.size,0,none⟩) k8 7 ((nam7.take k8).map Value.string) rfl RN.out (by intro v hv;obtain ⟨y,_,rfl⟩ := List.mem_map.1 hv;rfl) (by simp only [maxLen];omega) (by omega) ?_;intro A2 c2 w8 hR2 hc2 hm2 hB2;have R2 := hid hR2;have X2 := hid hB2;have hcm2 : c2 ≤ 9223372036854775807 := (by unfold maxLen at hm2;omega);have N8 := hid (NA.out.ext hB2);have fz := N8.out.frozen 11;have cd8 : w8.cell? ⟨g7,11,none⟩ = some (.slice (some ⟨w6.heap.size,0,none⟩) k8 7) := N8.out.cell 11;clear hR2 hB2 hm2)
   have hd := HD.out
   obtain ⟨w9,hw9⟩ : ∃ x,x = w8.setCell ⟨g7,11,none⟩ (.slice A2 (1 + k8) c2) := ⟨_,rfl⟩
   have K9' : Kept (fun b => b = g7) w8 w9 := by rw [hw9];exact Kept.setCell (F := fun b => b = g7) (p := ⟨g7,11,none⟩) _ rfl _
   have K9 : Kept (fun b => b = g7) w7 w9 := (Kept.of_ext (EA.out.next X2.out)).trans K9'
   have hr := S7.out.rows.upd K9
   have hP : RdP (fun b => b ≠ g7 ∧ b ≠ g) w8 1 A2 (1 + k8) (([(⟨#[]⟩ : ByteArray)] ++ nam7.take k8).map Value.string) := ⟨by have h := R2.out.1;rw [List.map_append];simpa using h,fun hn => by
    obtain ⟨b2,o2,hA,hb,hc⟩ := R2.out.2 hn
    have h0 := hc 0 (.string ⟨#[]⟩) rfl
    exact ⟨b2,o2,hA,⟨str_apart N8.out (nod_nostr S7.out.rows.ty.tyV) h0,str_apart (S7.out.zero.ext (EA.out.next X2.out)) nodZ_nostr h0⟩,hb,fun j u hu => hc j u (by rw [List.map_append] at hu;exact hu)⟩⟩
   have hN9 : Blk w9 g7 30 (nodC ⟨k,N,⟨s,q,i⟩,ty,kids,[(⟨#[]⟩ : ByteArray)] ++ nam7.take k8⟩ [t0,t1,t2,t3,t4] (.slice A n c) (.slice A2 (1 + k8) c2)) := by rw [hw9];exact N8.out.set 11 _
   have hm1 : ∀ s ∈ [(⟨#[]⟩ : ByteArray)] ++ nam7.take k8,s.size ≤ 1 := fun s hs => by
    rcases List.mem_append.1 hs with h | h
    ·rw [List.mem_singleton.1 h];decide
    ·exact S7.out.l3 s h
   have hkl : (nam7.take k8).length ≤ 7 := by rw [List.length_take];exact Nat.min_le_right _ _
   have S9 := S7.out.upd (x' := ⟨k,N,⟨s,q,i⟩,ty,kids,[(⟨#[]⟩ : ByteArray)] ++ nam7.take k8⟩) hd.1 hd.2.1 hd.2.2.1 hd.2.2.2.1 K9 hN9 ⟨hr.ty,hr.kids,hr.kle,hr.kcap,hr.kfew,hP.keep K9'.size (fun b hp hb => K9'.block b hb hp.1),hc2,hcm2,by omega⟩ ⟨S7.out.nw.nums,S7.out.nw.ty,S7.out.nw.kids,fun y hy => Nat.le_trans (hm1 y hy) (by decide)⟩ S7.out.l1 (by show ([(⟨#[]⟩ : ByteArray)] ++ nam7.take k8).length ≤ 8;rw [List.length_append,List.length_singleton];omega) hm1 S7.out.l4
   rw [← hw9]
   clear fz cd cd8 hd hw9
   go_meet
   exact ⟨_,_,_,_,_,_,_,_,rfl,S9⟩
 case rest =>
 obtain ⟨x,t',A',n',c',B',m',d',_,hS9⟩ := hcut
 obtain ⟨w9,rfl⟩ : ∃ x : World,x = wc := ⟨_,rfl⟩
 have S9 := hid hS9
 clear hS9 S7 H5
 obtain ⟨k',N',⟨s',q',i'⟩,ty',kids',names'⟩ := x
 obtain ⟨u0,u1,u2,u3,u4,rfl⟩ := list5 t' S9.out.rows.ty.tyV.len
 have c0 : w9.cell? ⟨g7,0,none⟩ = some (.int .i64 k') := S9.out.node.cell 0
 go_upto_region 10 with fail
 go_cut [64] from 56 to 63 (fun s64 wx => (∃ z,s64 = .bool z) ∧ w9 = wx)
 case first =>
  obtain ⟨zk,hzk⟩ : ∃ z,z = (k' == (11 : Int)) := ⟨_,rfl⟩
  have hzk' : (k' == (11 : Int)) = zk := hzk.symm
  obtain ⟨z9,hz9⟩ : ∃ z,z = ((k9 : Int) == 0) := ⟨_,rfl⟩
  have hz9' : ((k9 : Int) == 0) = z9 := hz9.symm
  clear hzk hz9
  cases zk
  ·go_wp2_with (go_at_call 8;(with_reducible refine (H9.out _).mono ?_);rintro e w10 ⟨rfl,rfl⟩)
   go_meet
   exact ⟨⟨_,rfl⟩,rfl⟩
  ·go_wp2_with fail
   go_meet
   exact ⟨⟨_,rfl⟩,rfl⟩
 case rest =>
 obtain ⟨⟨zt,rfl⟩,rfl⟩ := hcut
 clear c0 H9 hk9
 go_upto_if 64 with fail
 go_cut [] (fun wx => ∃ x t A n c B m d,OddS w wx g g5 g7 gF x t A n c B m d)
 case first =>
  cases zt
  ·go_wp2_with fail
   go_meet
   exact ⟨_,_,_,_,_,_,_,_,S9.out⟩
  ·have hw26 : IntKind.i64.wrap (1 + (k26 : Int)) = 1 + (k26 : Int) := wrapp (by omega) (by omega)
   have HDP : Hid (∀ W,Calls Tryz.prog 9 #[.int .i64 (1 + (k26 : Int))] W fun e w' => (∃ t cs,e = .returned (.agg cs.toArray) ∧ TyP (fun b => W.heap.size ≤ b) w' t cs ∧ TyW t ∧ t.length ≤ 1001) ∧ Ext W w') := hid (fun W => deep_any (1 + (k26 : Int)) W (by omega) (by omega))
   go_wp2_with (first
    | (go_at_call 8;(with_reducible refine (H26.out _).mono ?_);rintro e w10 ⟨rfl,rfl⟩)
    | (go_at_call 9;(with_reducible refine (HDP.out _).mono ?_);rintro e w10 ⟨⟨td,cd,rfl,hty,htw,htl⟩,hE10⟩;have HTY := hid hty;have HTW := hid htw;have HTL := hid htl;have X10 := hid hE10;have N10 := hid (S9.out.node.ext hE10);have HO5 : Hid (∀ v ∈ cd,v.oneCell' = true) := hid hty.tyV.one;have HL5 : Hid (cd.length = 5) := hid hty.tyV.len;clear hty htw htl hE10)
    | (refine wpList_store_seg rfl 26 (.tmp 69) (.tmp 68) rfl g7 5 cd (by kernel_rfl) (by kernel_rfl) N10.out (ty_info.trans (congrArg some HL5.out.symm)) (by rw [HL5.out];show 5 + 5 ≤ 12;decide) HO5.out ?_;intro w11 hw11 hb11;have B11 := hid hb11;have W11 := hid hw11;clear hw11 hb11))
   have hd := HD.out
   have hl5 := HL5.out
   have K11' : Kept (fun b => b = g7) w10 w11 := by rw [W11.out];exact Kept.setRow (F := fun b => b = g7) _ rfl _
   have K11 : Kept (fun b => b = g7) w9 w11 := (Kept.of_ext X10.out).trans K11'
   have hr := S9.out.rows.upd K11
   have hsz : g7 < w9.heap.size := S9.out.node.lt
   have hB11 : Blk w11 g7 30 (nodC ⟨k',N',⟨s',q',i'⟩,td,kids',names'⟩ cd (.slice A' n' c') (.slice B' m' d')) := by
    have h := B11.out
    obtain ⟨v0,v1,v2,v3,v4,rfl⟩ := list5 cd hl5
    exact h
   have hTY : TyP (fun b => b ≠ g7 ∧ b ≠ g) w11 td cd := (HTY.out.mono (q := fun b => b ≠ g7 ∧ b ≠ g) (fun b _ hb => by have := S9.out.zero.lt;omega)).keep K11'.size (fun b hp hb => K11'.block b hb hp.1)
   have S11 := S9.out.upd (x' := ⟨k',N',⟨s',q',i'⟩,td,kids',names'⟩) hd.1 hd.2.1 hd.2.2.1 hd.2.2.2.1 K11 hB11 ⟨hTY,hr.kids,hr.kle,hr.kcap,hr.kfew,hr.nms,hr.nle,hr.ncap,hr.nfew⟩ ⟨S9.out.nw.nums,HTW.out,S9.out.nw.kids,S9.out.nw.names⟩ S9.out.l1 S9.out.l2 S9.out.l3 HTL.out
   clear hd hl5 hsz
   go_meet
   exact ⟨_,_,_,_,_,_,_,_,S11⟩
 case rest =>
 obtain ⟨x,t2,A2,n2,c2,B2,m2,d2,hS12⟩ := hcut
 obtain ⟨w12,rfl⟩ : ∃ x : World,x = wc := ⟨_,rfl⟩
 have S12 := hid hS12
 have HO12 : Hid (∀ v ∈ nodC x t2 (.slice A2 n2 c2) (.slice B2 m2 d2),v.oneCell' = true) := hid (NodV.one ⟨_,_,_,_,_,_,_,rfl,hS12.rows.nodS⟩)
 have HL12 : Hid ((nodC x t2 (.slice A2 n2 c2) (.slice B2 m2 d2)).length = 12) := hid (NodV.len ⟨_,_,_,_,_,_,_,rfl,hS12.rows.nodS⟩)
 clear hS12 S9 H26 hk26
 go_wp2_with (first
  | (refine wpList_load_blk rfl 30 (.tmp 7) rfl g7 (by kernel_rfl) S12.out.node Tryz.underlying30 rfl (nod_info.trans (congrArg some HL12.out.symm)) ?_)
  | (refine wpList_store_blk rfl 30 (.tmp 4) (.tmp 70) rfl g (nodC x t2 (.slice A2 n2 c2) (.slice B2 m2 d2)) (by kernel_rfl) (by kernel_rfl) S12.out.zero (nod_info.trans (congrArg some HL12.out.symm)) (Eq.trans (b := 12) rfl HL12.out.symm) HO12.out ?_;intro w13 hw13 hb13;have B13 := hid hb13;have W13 := hid hw13;clear hw13 hb13))
 have K13 : Kept (fun b => b = g) w12 w13 := by rw [W13.out];exact Kept.setRow (F := fun b => b = g) _ rfl _
 have hr : NodR (fun b => b ≠ g7 ∧ b ≠ g) w13 x t2 A2 n2 c2 B2 m2 d2 := S12.out.rows.keep K13.size (fun b hp hb => K13.block b hb hp.2)
 have hE : Ext w w13 := ((Kept.of_ext (F := fun b => b = g) S12.out.ext).trans K13).ext (fun b hb => by have := HGG.out;omega)
 exact bodyPost_ret (results_blk Tryz.results4 _ _ g 30 (nodC x t2 (.slice A2 n2 c2) (.slice B2 m2 d2)) _ rfl B13.out Tryz.underlying30 rfl (nod_info.trans (congrArg some HL12.out.symm))) rfl ⟨⟨x,_,rfl,⟨_,_,_,_,_,_,_,rfl,hr.nodS⟩,S12.out.nw,S12.out.l1,S12.out.l2,S12.out.l3,S12.out.l4⟩,hE⟩
end Go.Proofs.YtojcmcccahjphaaGreatDoor
