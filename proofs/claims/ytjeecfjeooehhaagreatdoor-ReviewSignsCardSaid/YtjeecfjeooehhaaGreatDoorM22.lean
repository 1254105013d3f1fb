/- Spoilt: a review with one thing changed. Conditions: at most 500 operations. -/
import Derived.Test.YtjeecfjeooehhaaGreatDoorM9
set_option linter.unusedSimpArgs false
set_option linter.unusedVariables false
set_option maxHeartbeats 16000000
set_option maxRecDepth 100000
namespace Go.Proofs.YtjeecfjeooehhaaGreatDoor
open Go.RowKit
open Lib (hid)
attribute [local go_sem ↓] wp_at_zero wp_at_succ
def spId (b : Int) : Rid := ⟨aroI b 10 - 1,aroI (b.tdiv 3) 19 - 1,aroI (b.tdiv 5) 35 - 1⟩
def spDay (b : Int) : Int := [0,1,1048576,1048577,b].getD (aroI b 5).toNat 0
def spLen (b : Int) : Nat := ([0,1,1200,1201] : List Nat).getD (aroI b 4).toNat 0
def manyR (k : Nat) : List Rid := (List.range k).map fun i => ⟨1,1 + ((i / 32 : Nat) : Int),((i % 32 : Nat) : Int)⟩
def spoil (r : Rev) (how b : Int) : Rev :=
 match (aroI how 9).toNat with
 | 0 => { r with shop := aroI b 20 - 2 }
 | 1 => { r with seq := aroI b 20 - 2 }
 | 2 => { r with day := spDay b }
 | 3 => { r with ops := [] }
 | 4 => { r with ops := r.ops ++ [spId b] }
 | 5 => { r with ops := spId b :: r.ops }
 | 6 => { r with ops := manyR (31 + (aroI b 4).toNat) }
 | 7 => { r with wd := !r.wd }
 | _ => { r with sl := strOf (List.replicate (spLen b) 0) }
theorem revC_set0 (r : Rev) (A : Option Addr) (n c : Nat) (x : Int) : (revC r A n c).set 0 (.int .i64 x) = revC { r with shop := x } A n c := rfl
theorem revC_set1 (r : Rev) (A : Option Addr) (n c : Nat) (x : Int) : (revC r A n c).set 1 (.int .i64 x) = revC { r with seq := x } A n c := rfl
theorem revC_set2 (r : Rev) (A : Option Addr) (n c : Nat) (x : Int) : (revC r A n c).set 2 (.int .i64 x) = revC { r with day := x } A n c := rfl
theorem revC_set3 (r : Rev) (A : Option Addr) (n c : Nat) (x : Bool) : (revC r A n c).set 3 (.bool x) = revC { r with wd := x } A n c := rfl
theorem revC_set4 (r : Rev) (A A' : Option Addr) (n c n' c' : Nat) (L : List Rid) : (revC r A n c).set 4 (.slice A' n' c') = revC { r with ops := L } A' n' c' := rfl
theorem revC_set21 (r : Rev) (A : Option Addr) (n c : Nat) (x : ByteArray) (h : r.mean.length = 16) : (revC r A n c).set 21 (.string x) = revC { r with sl := x } A n c := by
 unfold revC
 dsimp only
 rw [List.set_append_right _ _ (by simp [u8s,h])]
 simp [u8s,h]
theorem own_ge {w : World} {base : Nat} {e : TypeId} {size : Nat} {v : Value} {n : Nat} {xs : List Value} (ho : w.ownsRow base e size v n xs) {b : Nat} (hb : v.ownBlock = some b) : base ≤ b := by
 rcases ho.2 with ⟨h1,_⟩ | ⟨g,cap,cur,h1,h2,_⟩
 ·rw [h1] at hb;cases hb
 ·rw [h1] at hb
  have e1 : g = b := by simpa [Value.ownBlock] using hb
  omega
structure SpSt (w W : World) (r : Rev) (A : Option Addr) (n c : Nat) (Z : List Value) : Prop where
 ext : Ext w W
 blk : Blk W w.heap.size 28 (revC r A n c)
 res : Blk W (w.heap.size + 1) 28 Z
 row : RdN W W.heap.size 3 A n (idsC r.ops)
 far : ∀ a,A = some a → w.heap.size + 1 < a.block
 le : n ≤ c
 cap : c ≤ 9223372036854775807
 mean : r.mean.length = 16
 mbyt : Byt r.mean
theorem SpSt.next {w W W' : World} {r : Rev} {A : Option Addr} {n c : Nat} {Z : List Value} (h : SpSt w W r A n c Z) (hE : Ext W W') : SpSt w W' r A n c Z :=
 ⟨h.ext.next hE,h.blk.ext hE,h.res.ext hE,(h.row.below hE (Nat.le_refl _)).more hE.size,h.far,h.le,h.cap,h.mean,h.mbyt⟩
theorem SpSt.set {w W : World} {r r' : Rev} {A A' : Option Addr} {n c n' c' : Nat} {Z : List Value} (h : SpSt w W r A n c Z) (j : Nat) (v : Value) (hc : (revC r A n c).set j v = revC r' A' n' c') (hrow : RdN W W.heap.size 3 A' n' (idsC r'.ops)) (hfar : ∀ a,A' = some a → w.heap.size + 1 < a.block) (hle : n' ≤ c') (hcap : c' ≤ 9223372036854775807) (hm : r'.mean = r.mean) :
  SpSt w (W.setCell ⟨w.heap.size,j,none⟩ v) r' A' n' c' Z := by
 refine ⟨h.ext.setCell (p := ⟨w.heap.size,j,none⟩) (Nat.le_refl _) _,?_,?_,rdn_setCell hrow (p := ⟨w.heap.size,j,none⟩) (fun a e => by have := hfar a e;show a.block ≠ w.heap.size;omega) _,hfar,hle,hcap,by rw [hm];exact h.mean,by rw [hm];exact h.mbyt⟩
 ·have h2 := h.blk.set j v
  rw [hc] at h2
  exact h2
 ·exact (Kept.setCell (F := fun b => b = w.heap.size) (p := ⟨w.heap.size,j,none⟩) W rfl v).blk h.res (by omega)
theorem SpSt.put {w W : World} {r : Rev} {A A' : Option Addr} {n c n' c' : Nat} {Z : List Value} {L : List Rid} (hE : Ext w W) (hb : Blk W w.heap.size 28 (revC r A n c)) (hz : Blk W (w.heap.size + 1) 28 Z) (hrow : RdN W W.heap.size 3 A' n' (idsC L)) (hfar : ∀ a,A' = some a → w.heap.size + 1 < a.block) (hle : n' ≤ c') (hcap : c' ≤ 9223372036854775807) (hm : r.mean.length = 16) (hmb : Byt r.mean) :
  SpSt w (W.setCell ⟨w.heap.size,4,none⟩ (.slice A' n' c')) { r with ops := L } A' n' c' Z := by
 refine ⟨hE.setCell (p := ⟨w.heap.size,4,none⟩) (Nat.le_refl _) _,?_,?_,rdn_setCell hrow (p := ⟨w.heap.size,4,none⟩) (fun a e => by have := hfar a e;show a.block ≠ w.heap.size;omega) _,hfar,hle,hcap,hm,hmb⟩
 ·have h2 := hb.set 4 (.slice A' n' c')
  rw [revC_set4 r A A' n c n' c' L] at h2
  exact h2
 ·exact (Kept.setCell (F := fun b => b = w.heap.size) (p := ⟨w.heap.size,4,none⟩) W rfl _).blk hz (by omega)
theorem SpSt.end {w W : World} {r : Rev} {A : Option Addr} {n c : Nat} {Z : List Value} (h : SpSt w W r A n c Z) (hn : n ≤ 1000000000000) (cs : Array Value) : RevV (W.setRow (w.heap.size + 1) cs) r A n c ∧ Ext w (W.setRow (w.heap.size + 1) cs) ∧ ∀ a,A = some a → w.heap.size ≤ a.block :=
 ⟨⟨rdn_setRow h.row (fun a e => by have := h.far a e;omega) _,h.le,h.cap,hn,h.mean,h.mbyt⟩,h.ext.setRow (Nat.le_succ _) _,fun a e => by have := h.far a e;omega⟩
theorem tdiv3 (b : Int) (h0 : -9223372036854775808 ≤ b) (h1 : b ≤ 9223372036854775807) : -9223372036854775808 ≤ b.tdiv 3 ∧ b.tdiv 3 ≤ 9223372036854775807 := by
 rcases Int.le_total 0 b with h | h
 ·rw [Int.tdiv_eq_ediv_of_nonneg h];omega
 ·have e : b.tdiv 3 = -((-b) / 3) := by rw [← Int.tdiv_eq_ediv_of_nonneg (by omega),Int.neg_tdiv,Int.neg_neg]
  rw [e];omega
theorem tdiv5 (b : Int) (h0 : -9223372036854775808 ≤ b) (h1 : b ≤ 9223372036854775807) : -9223372036854775808 ≤ b.tdiv 5 ∧ b.tdiv 5 ≤ 9223372036854775807 := by
 rcases Int.le_total 0 b with h | h
 ·rw [Int.tdiv_eq_ediv_of_nonneg h];omega
 ·have e : b.tdiv 5 = -((-b) / 5) := by rw [← Int.tdiv_eq_ediv_of_nonneg (by omega),Int.neg_tdiv,Int.neg_neg]
  rw [e];omega
theorem manyR_succ (k : Nat) : manyR (k + 1) = manyR k ++ [⟨1,1 + ((k / 32 : Nat) : Int),((k % 32 : Nat) : Int)⟩] := by
 unfold manyR
 rw [List.range_succ,List.map_append]
 rfl
theorem spoilt_far (r : Rev) (how b : Int) (A : Option Addr) (n c : Nat) (w : World) (hr : RevV w r A n c) (hn : n ≤ 500) (hh0 : -9223372036854775808 ≤ how) (hh1 : how ≤ 9223372036854775807) (hb0 : -9223372036854775808 ≤ b) (hb1 : b ≤ 9223372036854775807) :
  Calls Tryz.prog 15 #[.agg (revC r A n c).toArray,.int .i64 how,.int .i64 b] w fun e w' => (∃ A' n' c',e = .returned (.agg (revC (spoil r how b) A' n' c').toArray) ∧ RevV w' (spoil r how b) A' n' c' ∧ n' ≤ n + 34 ∧ ∀ a,A' = some a → w.heap.size ≤ a.block) ∧ Ext w w' := by
 obtain ⟨i0,hi,hz0,hz1,hz2⟩ := info_parts id_info
 have HR := hid hr
 have HLN := hid hr.len
 obtain ⟨k,hk⟩ : ∃ k,k = (aroI how 9).toNat := ⟨_,rfl⟩
 have hkb := aroI_bd how 9 (by decide)
 have hk9 : k < 9 := by omega
 have HA9 : Hid (∀ W,Calls Tryz.prog 12 #[.int .i64 how,.int .i64 9] W fun e w' => e = .returned (.int .i64 (k : Int)) ∧ W = w') := hid (fun W => by rw [hk,Int.toNat_of_nonneg hkb.1];exact around_any how 9 W hh0 hh1 (by decide) (by decide))
 obtain ⟨y20,hy20⟩ : ∃ y,y = aroI b 20 := ⟨_,rfl⟩
 obtain ⟨y10,hy10⟩ : ∃ y,y = aroI b 10 := ⟨_,rfl⟩
 obtain ⟨y19,hy19⟩ : ∃ y,y = aroI (b.tdiv 3) 19 := ⟨_,rfl⟩
 obtain ⟨y35,hy35⟩ : ∃ y,y = aroI (b.tdiv 5) 35 := ⟨_,rfl⟩
 have b20 := aroI_bd b 20 (by decide);have b10 := aroI_bd b 10 (by decide);have b19 := aroI_bd (b.tdiv 3) 19 (by decide);have b35 := aroI_bd (b.tdiv 5) 35 (by decide)
 rw [← hy20] at b20;rw [← hy10] at b10;rw [← hy19] at b19;rw [← hy35] at b35
 have t3 := tdiv3 b hb0 hb1
 have t5 := tdiv5 b hb0 hb1
 have H20 : Hid (∀ W,Calls Tryz.prog 12 #[.int .i64 b,.int .i64 20] W fun e w' => e = .returned (.int .i64 y20) ∧ W = w') := hid (fun W => by rw [hy20];exact around_any b 20 W hb0 hb1 (by decide) (by decide))
 have H10 : Hid (∀ W,Calls Tryz.prog 12 #[.int .i64 b,.int .i64 10] W fun e w' => e = .returned (.int .i64 y10) ∧ W = w') := hid (fun W => by rw [hy10];exact around_any b 10 W hb0 hb1 (by decide) (by decide))
 have H19 : Hid (∀ W,Calls Tryz.prog 12 #[.int .i64 (b.tdiv 3),.int .i64 19] W fun e w' => e = .returned (.int .i64 y19) ∧ W = w') := hid (fun W => by rw [hy19];exact around_any _ 19 W t3.1 t3.2 (by decide) (by decide))
 have H35 : Hid (∀ W,Calls Tryz.prog 12 #[.int .i64 (b.tdiv 5),.int .i64 35] W fun e w' => e = .returned (.int .i64 y35) ∧ W = w') := hid (fun W => by rw [hy35];exact around_any _ 35 W t5.1 t5.2 (by decide) (by decide))
 have HID : Hid (spId b = ⟨y10 - 1,y19 - 1,y35 - 1⟩) := hid (by rw [hy10,hy19,hy35];rfl)
 have hR0 : Hid (∀ W,Ext w W → RdN W W.heap.size 3 A n (idsC r.ops)) := hid (fun W hW => (HR.out.row.below hW (Nat.le_refl _)).more hW.size)
 have zz : ∀ W,(zeroValue 28).run Tryz.prog W = .ok (.agg (([.int .i64 0,.int .i64 0,.int .i64 0,.bool false,.slice none 0 0] : List Value) ++ u8s (List.replicate 16 0) ++ [Value.string ⟨#[]⟩]).toArray) W := fun W => by kernel_rfl
 obtain ⟨Z,hZ⟩ : ∃ Z : List Value,Z = [.int .i64 0,.int .i64 0,.int .i64 0,.bool false,.slice none 0 0] ++ u8s (List.replicate 16 0) ++ [.string ⟨#[]⟩] := ⟨_,rfl⟩
 have HZL : Hid (Z.length = 22) := hid (by rw [hZ];rfl)
 rw [← hZ] at zz
 clear hZ
 have HY20 := hid hy20;have HK := hid hk
 clear hr hkb hy20 hy10 hy19 hy35 hk t3 t5
 go_enter Tryz.func15,Tryz.ntmps15
 go_upto_region 1 with fail
 obtain ⟨w1,hw1⟩ : ∃ x,x = (w.alloc (.cells (revC r A n c).toArray 28)).alloc (.cells Z.toArray 28) := ⟨_,rfl⟩
 change Code.wp _ _ _ _ ((w.alloc (.cells (revC r A n c).toArray 28)).alloc (.cells Z.toArray 28))
 rw [← hw1]
 have E1 : Hid (Ext w w1) := hid (by rw [hw1];exact ((Ext.refl w).alloc _).alloc _)
 have HS1 : Hid (w1.heap.size = w.heap.size + 1 + 1) := hid (by rw [hw1];simp)
 have BR : Hid (Blk w1 w.heap.size 28 (revC r A n c)) := hid (by rw [hw1];exact (Blk.fresh' _ _ _ _ _ rfl rfl).alloc _)
 have BZ : Hid (Blk w1 (w.heap.size + 1) 28 Z) := hid (by rw [hw1];exact Blk.fresh' _ _ _ _ _ rfl (by simp))
 clear hw1
 have BRA : Hid (Blk (w1.alloc (.cells #[] 68)) w.heap.size 28 (revC r A n c)) := hid (BR.out.ext ((Ext.refl w1).alloc _))
 have EA : Hid (Ext w (w1.alloc (.cells #[] 68))) := hid (E1.out.alloc _)
 have c4 : (w1.alloc (.cells #[] 68)).cell? ⟨w.heap.size,4,none⟩ = some (.slice A n c) := BRA.out.cell 4
 have HOL : Hid ((w1.alloc (.cells #[] 68)).ownsRow w1.heap.size 68 3 (.slice (some ⟨w1.heap.size,0,none⟩) 0 0) 0 []) := hid (by
  have h := World.ownsRow_lit (base := w1.heap.size) (size := 3) (e := 68) w1 #[] 0 (Nat.le_refl _) (by decide) (by simp)
  simpa using h)
 go_upto_region 2 with ((first | (at_builtin;refine wpList_app rfl (.tmp 10) (.tmp 12) 24 rfl w1.heap.size 68 i0 (.agg #[.int .i64 0,.int .i64 0,.int .i64 0]) 3 24 Tryz.underlying24 hi hz0 hz1 hz2 rfl (by omega) (some ⟨w1.heap.size,0,none⟩) 0 0 [] rfl HOL.out (w1.alloc (.cells #[] 68)).heap.size A n c (idsC r.ops) rfl (hR0.out _ EA.out) (idsC_one _) (by simp only [maxLen];omega) (by omega) (by simp) ?_;rw [Nat.zero_add,List.nil_append];intro A2 c2 w2 ho2 hg2;have HO2 := hid ho2;have E2 : Hid (Ext w1 w2) := hid (below_app ((Ext.refl w1).alloc _) hg2 HOL.out (Nat.le_refl _) (by simp));have B2 : Hid (Blk w2 w.heap.size 28 (revC r A n c)) := hid (BR.out.ext E2.out);have f4 := B2.out.frozen 4;have c42 : w2.cell? ⟨w.heap.size,4,none⟩ = some (.slice A n c) := B2.out.cell 4;clear ho2 hg2)))
 obtain ⟨w3,hw3⟩ : ∃ x,x = w2.setCell ⟨w.heap.size,4,none⟩ (.slice A2 n c2) := ⟨_,rfl⟩
 rw [← hw3]
 have hcp := slice_cap HO2.out
 unfold maxLen at hcp
 have S2 : Hid (SpSt w w2 r A n c Z → True) := hid (fun _ => trivial)
 have S3 : Hid (SpSt w w3 r A2 n c2 Z) := hid (by
  rw [hw3]
  have hfar : ∀ a,A2 = some a → w.heap.size + 1 < a.block := fun a e => by
   have h1 := own_far HO2.out e
   have h2 := HS1.out
   omega
  have h2 := B2.out.set 4 (.slice A2 n c2)
  rw [revC_set4 r A A2 n c n c2 r.ops] at h2
  exact ⟨(E1.out.next E2.out).setCell (p := ⟨w.heap.size,4,none⟩) (Nat.le_refl _) _,h2,(Kept.setCell (F := fun b => b = w.heap.size) (p := ⟨w.heap.size,4,none⟩) w2 rfl _).blk (BZ.out.ext E2.out) (by omega),rdn_setCell (rdn_own HO2.out) (p := ⟨w.heap.size,4,none⟩) (fun a e => by have := hfar a e;show a.block ≠ w.heap.size;omega) _,hfar,hcp.1,hcp.2,HR.out.mean,HR.out.mbyt⟩)
 have HO3 : Hid (w3.ownsRow w1.heap.size 68 3 (.slice A2 n c2) n (idsC r.ops)) := hid (by
  rw [hw3]
  exact (Kept.setCell (F := fun b => b = w.heap.size) (p := ⟨w.heap.size,4,none⟩) w2 rfl _).own HO2.out (fun b hb h => by have h1 := own_ge HO2.out hb;have h2 := HS1.out;omega))
 have HE13 : Hid (w1.heap.size ≤ w3.heap.size) := hid (by rw [hw3];have := E2.out.size;simp [World.setCell];omega)
 clear hw3 S2 c4 HO2 E2 B2 BRA EA HOL BZ BR
 go_upto_region 6 with ((first
  | (go_at_call 12;(with_reducible refine (H20.out w3).mono ?_);rintro e w7 ⟨rfl,rfl⟩)
  | (go_at_call 12;(with_reducible refine (H10.out w3).mono ?_);rintro e w7 ⟨rfl,rfl⟩)
  | (go_at_call 12;(with_reducible refine (H19.out w3).mono ?_);rintro e w7 ⟨rfl,rfl⟩)
  | (go_at_call 12;(with_reducible refine (H35.out w3).mono ?_);rintro e w7 ⟨rfl,rfl⟩)
  | (refine wpList_store_fresh rfl 68 (.tmp 8) (.tmp 29) rfl _ w3.heap.size rfl [.int .i64 0,.int .i64 0,.int .i64 0] [.int .i64 (y10 - 1),.int .i64 (y19 - 1),.int .i64 (y35 - 1)] 68 (by rfl) (by rfl) rfl (info_id.trans rfl) rfl (idC_one ⟨y10 - 1,y19 - 1,y35 - 1⟩) ?_;intro w4 hw4 hE4 hz4;have E4 : Hid (Ext w3 w4) := hid hE4;have B4 := hid hw4;clear hw4 hE4 hz4)
  | (go_at_call 12;(with_reducible refine (HA9.out w4).mono ?_);rintro e w7 ⟨rfl,rfl⟩)))
 have HS13 : Hid (w.heap.size + 2 ≤ w4.heap.size ∧ w1.heap.size ≤ w4.heap.size) := hid (by have h1 := HS1.out;have h2 := HE13.out;have h3 := E4.out.size;omega)
 have S4 := hid (S3.out.next E4.out)
 have HO4 : Hid (w4.ownsRow w1.heap.size 68 3 (.slice A2 n c2) n (idsC r.ops)) := hid ((Kept.of_ext (F := fun _ => False) E4.out).own HO3.out (fun _ _ h => h))
 rcases (show k = 0 ∨ k = 1 ∨ k = 2 ∨ k = 3 ∨ k = 4 ∨ k = 5 ∨ k = 6 ∨ k = 7 ∨ k = 8 by omega) with rfl | rfl | rfl | rfl | rfl | rfl | rfl | rfl | rfl
 ·have HSP : Hid (spoil r how b = { r with shop := y20 - 2 }) := hid (by unfold spoil;rw [← HK.out,HY20.out];rfl)
  rw [show ((0 : Nat) : Int) = 0 from rfl]
  have fj := S4.out.blk.frozen 0
  have cj : w4.cell? ⟨w.heap.size,0,none⟩ = some (.int .i64 r.shop) := S4.out.blk.cell 0
  have S5 : Hid (SpSt w (w4.setCell ⟨w.heap.size,0,none⟩ (.int .i64 (y20 - 2))) { r with shop := y20 - 2 } A2 n c2 Z) := hid (S4.out.set 0 _ (revC_set0 _ _ _ _ _) S4.out.row S4.out.far S4.out.le S4.out.cap rfl)
  have HC5 : Hid ((revC { r with shop := y20 - 2 } A2 n c2).length = 22) := hid (revC_len _ _ _ _ S5.out.mean)
  go_wp2_with ((first
   | (refine wpList_load_blk rfl 28 (.tmp 3) rfl w.heap.size (by kernel_rfl) S5.out.blk Tryz.underlying28 rfl (info_rev.trans (congrArg some HC5.out.symm)) ?_)
   | (refine wpList_store_blk rfl 28 (.tmp 6) (.tmp 103) (by rfl) (w.heap.size + 1) (revC { r with shop := y20 - 2 } A2 n c2) rfl rfl S5.out.res (info_rev.trans (congrArg some HC5.out.symm)) (HZL.out.trans HC5.out.symm) (revC_one _ _ _ _) ?_;intro w9 hw9 hb9)))
  have hend := S5.out.end (by omega) (revC { r with shop := y20 - 2 } A2 n c2).toArray
  rw [← hw9.out] at hend
  exact bodyPost_ret (results_blk Tryz.results15 _ _ (w.heap.size + 1) 28 (revC { r with shop := y20 - 2 } A2 n c2) _ rfl hb9 Tryz.underlying28 rfl (info_rev.trans (congrArg some HC5.out.symm))) rfl ⟨⟨A2,n,c2,by rw [HSP.out],by rw [HSP.out];exact hend.1,by omega,hend.2.2⟩,hend.2.1⟩
 ·have HSP : Hid (spoil r how b = { r with seq := y20 - 2 }) := hid (by unfold spoil;rw [← HK.out,HY20.out];rfl)
  rw [show ((1 : Nat) : Int) = 1 from rfl]
  have fj := S4.out.blk.frozen 1
  have cj : w4.cell? ⟨w.heap.size,1,none⟩ = some (.int .i64 r.seq) := S4.out.blk.cell 1
  have S5 : Hid (SpSt w (w4.setCell ⟨w.heap.size,1,none⟩ (.int .i64 (y20 - 2))) { r with seq := y20 - 2 } A2 n c2 Z) := hid (S4.out.set 1 _ (revC_set1 _ _ _ _ _) S4.out.row S4.out.far S4.out.le S4.out.cap rfl)
  have HC5 : Hid ((revC { r with seq := y20 - 2 } A2 n c2).length = 22) := hid (revC_len _ _ _ _ S5.out.mean)
  go_wp2_with ((first
   | (refine wpList_load_blk rfl 28 (.tmp 3) rfl w.heap.size (by kernel_rfl) S5.out.blk Tryz.underlying28 rfl (info_rev.trans (congrArg some HC5.out.symm)) ?_)
   | (refine wpList_store_blk rfl 28 (.tmp 6) (.tmp 103) (by rfl) (w.heap.size + 1) (revC { r with seq := y20 - 2 } A2 n c2) rfl rfl S5.out.res (info_rev.trans (congrArg some HC5.out.symm)) (HZL.out.trans HC5.out.symm) (revC_one _ _ _ _) ?_;intro w9 hw9 hb9)))
  have hend := S5.out.end (by omega) (revC { r with seq := y20 - 2 } A2 n c2).toArray
  rw [← hw9.out] at hend
  exact bodyPost_ret (results_blk Tryz.results15 _ _ (w.heap.size + 1) 28 (revC { r with seq := y20 - 2 } A2 n c2) _ rfl hb9 Tryz.underlying28 rfl (info_rev.trans (congrArg some HC5.out.symm))) rfl ⟨⟨A2,n,c2,by rw [HSP.out],by rw [HSP.out];exact hend.1,by omega,hend.2.2⟩,hend.2.1⟩
 ·obtain ⟨y5,hy5⟩ : ∃ y,y = (aroI b 5).toNat := ⟨_,rfl⟩
  have hb5 := aroI_bd b 5 (by decide)
  have hy55 : y5 < 5 := by omega
  have H5 : Hid (∀ W,Calls Tryz.prog 12 #[.int .i64 b,.int .i64 5] W fun e w' => e = .returned (.int .i64 (y5 : Int)) ∧ W = w') := hid (fun W => by rw [hy5,Int.toNat_of_nonneg hb5.1];exact around_any b 5 W hb0 hb1 (by decide) (by decide))
  obtain ⟨d5,hd5⟩ : ∃ d,d = spDay b := ⟨_,rfl⟩
  have HSP : Hid (spoil r how b = { r with day := d5 }) := hid (by unfold spoil;rw [← HK.out,hd5];rfl)
  have hget : ([.int .i64 0,.int .i64 1,.int .i64 1048576,.int .i64 1048577,.int .i64 b] : List Value)[y5]? = some (.int .i64 d5) := by
   rw [hd5];unfold spDay;rw [← hy5]
   rcases (show y5 = 0 ∨ y5 = 1 ∨ y5 = 2 ∨ y5 = 3 ∨ y5 = 4 by omega) with h | h | h | h | h <;> rw [h] <;> rfl
  clear hy5 hb5 hd5
  rw [show ((2 : Nat) : Int) = 2 from rfl]
  have SA : Hid (SpSt w (w4.alloc (.cells #[.int .i64 0,.int .i64 1,.int .i64 1048576,.int .i64 1048577,.int .i64 b] 3)) r A2 n c2 Z) := hid (S4.out.next ((Ext.refl w4).alloc _))
  have ce : (w4.alloc (.cells #[.int .i64 0,.int .i64 1,.int .i64 1048576,.int .i64 1048577,.int .i64 b] 3)).cell? ⟨w4.heap.size,y5,none⟩ = some (.int .i64 d5) := ((Blk.fresh' w4 3 [.int .i64 0,.int .i64 1,.int .i64 1048576,.int .i64 1048577,.int .i64 b] _ _ rfl rfl).cell y5).trans hget
  have fj := SA.out.blk.frozen 2
  have cj : (w4.alloc (.cells #[.int .i64 0,.int .i64 1,.int .i64 1048576,.int .i64 1048577,.int .i64 b] 3)).cell? ⟨w.heap.size,2,none⟩ = some (.int .i64 r.day) := SA.out.blk.cell 2
  have S5 : Hid (SpSt w ((w4.alloc (.cells #[.int .i64 0,.int .i64 1,.int .i64 1048576,.int .i64 1048577,.int .i64 b] 3)).setCell ⟨w.heap.size,2,none⟩ (.int .i64 d5)) { r with day := d5 } A2 n c2 Z) := hid (SA.out.set 2 _ (revC_set2 _ _ _ _ _) SA.out.row SA.out.far SA.out.le SA.out.cap rfl)
  clear hget
  have HC5 : Hid ((revC { r with day := d5 } A2 n c2).length = 22) := hid (revC_len _ _ _ _ S5.out.mean)
  go_wp2_with ((first
   | (go_at_call 12;(with_reducible refine (H5.out _).mono ?_);rintro e w7 ⟨rfl,rfl⟩)
   | (refine wpList_load_blk rfl 28 (.tmp 3) rfl w.heap.size (by kernel_rfl) S5.out.blk Tryz.underlying28 rfl (info_rev.trans (congrArg some HC5.out.symm)) ?_)
   | (refine wpList_store_blk rfl 28 (.tmp 6) (.tmp 103) (by rfl) (w.heap.size + 1) (revC { r with day := d5 } A2 n c2) rfl rfl S5.out.res (info_rev.trans (congrArg some HC5.out.symm)) (HZL.out.trans HC5.out.symm) (revC_one _ _ _ _) ?_;intro w9 hw9 hb9)))
  have hend := S5.out.end (by omega) (revC { r with day := d5 } A2 n c2).toArray
  rw [← hw9.out] at hend
  exact bodyPost_ret (results_blk Tryz.results15 _ _ (w.heap.size + 1) 28 (revC { r with day := d5 } A2 n c2) _ rfl hb9 Tryz.underlying28 rfl (info_rev.trans (congrArg some HC5.out.symm))) rfl ⟨⟨A2,n,c2,by rw [HSP.out],by rw [HSP.out];exact hend.1,by omega,hend.2.2⟩,hend.2.1⟩
 ·have HSP : Hid (spoil r how b = { r with ops := [] }) := hid (by unfold spoil;rw [← HK.out];rfl)
  rw [show ((3 : Nat) : Int) = 3 from rfl]
  have fj := S4.out.blk.frozen 4
  have cj : w4.cell? ⟨w.heap.size,4,none⟩ = some (.slice A2 n c2) := S4.out.blk.cell 4
  have S5 : Hid (SpSt w (w4.setCell ⟨w.heap.size,4,none⟩ (.slice none 0 0)) { r with ops := [] } none 0 0 Z) := hid (S4.out.set 4 _ (revC_set4 _ _ _ _ _ _ _ _) ⟨rfl,fun h => absurd h (Nat.lt_irrefl _)⟩ (fun a e => by cases e) (Nat.le_refl _) (by decide) rfl)
  have HC5 : Hid ((revC { r with ops := [] } none 0 0).length = 22) := hid (revC_len _ _ _ _ S5.out.mean)
  go_wp2_with ((first
   | (refine wpList_load_blk rfl 28 (.tmp 3) rfl w.heap.size (by kernel_rfl) S5.out.blk Tryz.underlying28 rfl (info_rev.trans (congrArg some HC5.out.symm)) ?_)
   | (refine wpList_store_blk rfl 28 (.tmp 6) (.tmp 103) (by rfl) (w.heap.size + 1) (revC { r with ops := [] } none 0 0) rfl rfl S5.out.res (info_rev.trans (congrArg some HC5.out.symm)) (HZL.out.trans HC5.out.symm) (revC_one _ _ _ _) ?_;intro w9 hw9 hb9)))
  have hend := S5.out.end (by omega) (revC { r with ops := [] } none 0 0).toArray
  rw [← hw9.out] at hend
  exact bodyPost_ret (results_blk Tryz.results15 _ _ (w.heap.size + 1) 28 (revC { r with ops := [] } none 0 0) _ rfl hb9 Tryz.underlying28 rfl (info_rev.trans (congrArg some HC5.out.symm))) rfl ⟨⟨none,0,0,by rw [HSP.out],by rw [HSP.out];exact hend.1,by omega,hend.2.2⟩,hend.2.1⟩
 ·have HSP : Hid (spoil r how b = { r with ops := r.ops ++ [⟨y10 - 1,y19 - 1,y35 - 1⟩] }) := hid (by unfold spoil;rw [← HK.out,← HID.out];rfl)
  rw [show ((4 : Nat) : Int) = 4 from rfl]
  have HBA : Hid (Blk (w4.alloc (.cells #[.int .i64 (y10 - 1),.int .i64 (y19 - 1),.int .i64 (y35 - 1)] 68)) w3.heap.size 68 [.int .i64 (y10 - 1),.int .i64 (y19 - 1),.int .i64 (y35 - 1)]) := hid (B4.out.alloc _)
  have cj : w4.cell? ⟨w.heap.size,4,none⟩ = some (.slice A2 n c2) := S4.out.blk.cell 4
  go_upto_region 26 with ((first | (refine wpList_load_blk rfl 68 (.tmp 8) rfl w3.heap.size (by kernel_rfl) B4.out Tryz.underlying68 rfl (info_id.trans rfl) ?_) | (at_builtin;refine wpList_app rfl (.tmp 63) (.tmp 65) 24 rfl w1.heap.size 68 i0 (.agg #[.int .i64 0,.int .i64 0,.int .i64 0]) 3 24 Tryz.underlying24 hi hz0 hz1 hz2 rfl (by omega) A2 n c2 _ rfl (HO4.out.alloc _) (w4.heap.size + 1) (some ⟨w4.heap.size,0,none⟩) 1 1 [.int .i64 (y10 - 1),.int .i64 (y19 - 1),.int .i64 (y35 - 1)] rfl (RdN.fresh _ _ _ 3 1 rfl rfl rfl) (idC_one ⟨y10 - 1,y19 - 1,y35 - 1⟩) (by simp only [maxLen];omega) (by omega) (by have h1 := S4.out.ext.size;have h2 := E4.out.size;have h3 := HS13.out;simp;omega) ?_;intro A5 c5 w5 ho5 hg5;have HO5 := hid ho5;have BP5 : Hid (Blk w5 w.heap.size 28 (revC r A2 n c2)) := hid ((S4.out.blk.alloc _).grown hg5 (fun e => by have h1 := own_ge HO4.out e.symm;have h2 := HS1.out;omega));have BZ5 : Hid (Blk w5 (w.heap.size + 1) 28 Z) := hid ((S4.out.res.alloc _).grown hg5 (fun e => by have h1 := own_ge HO4.out e.symm;have h2 := HS1.out;omega));have E5 : Hid (Ext w w5) := hid (below_app (S4.out.ext.alloc _) hg5 (HO4.out.alloc _) (by have h2 := HS1.out;omega) (by have h1 := S4.out.ext.size;have h2 := E4.out.size;have h3 := HS13.out;simp;omega));have f5 := BP5.out.frozen 4;have c5c : w5.cell? ⟨w.heap.size,4,none⟩ = some (.slice A2 n c2) := BP5.out.cell 4;clear ho5 hg5)))
  have hc5 := slice_cap HO5.out
  unfold maxLen at hc5
  have S5 : Hid (SpSt w (w5.setCell ⟨w.heap.size,4,none⟩ (.slice A5 (n + 1) c5)) { r with ops := r.ops ++ [⟨y10 - 1,y19 - 1,y35 - 1⟩] } A5 (n + 1) c5 Z) := hid (SpSt.put E5.out BP5.out BZ5.out (by rw [idsC_app];exact rdn_own HO5.out) (fun a e => by have h1 := own_far HO5.out e;have h2 := HS1.out;omega) hc5.1 hc5.2 HR.out.mean HR.out.mbyt)
  have HC5 : Hid ((revC { r with ops := r.ops ++ [⟨y10 - 1,y19 - 1,y35 - 1⟩] } A5 (n + 1) c5).length = 22) := hid (revC_len _ _ _ _ S5.out.mean)
  go_wp2_with ((first
   | (refine wpList_load_blk rfl 28 (.tmp 3) rfl w.heap.size (by kernel_rfl) S5.out.blk Tryz.underlying28 rfl (info_rev.trans (congrArg some HC5.out.symm)) ?_)
   | (refine wpList_store_blk rfl 28 (.tmp 6) (.tmp 103) (by rfl) (w.heap.size + 1) (revC { r with ops := r.ops ++ [⟨y10 - 1,y19 - 1,y35 - 1⟩] } A5 (n + 1) c5) rfl rfl S5.out.res (info_rev.trans (congrArg some HC5.out.symm)) (HZL.out.trans HC5.out.symm) (revC_one _ _ _ _) ?_;intro w9 hw9 hb9)))
  have hend := S5.out.end (by omega) (revC { r with ops := r.ops ++ [⟨y10 - 1,y19 - 1,y35 - 1⟩] } A5 (n + 1) c5).toArray
  rw [← hw9.out] at hend
  exact bodyPost_ret (results_blk Tryz.results15 _ _ (w.heap.size + 1) 28 (revC { r with ops := r.ops ++ [⟨y10 - 1,y19 - 1,y35 - 1⟩] } A5 (n + 1) c5) _ rfl hb9 Tryz.underlying28 rfl (info_rev.trans (congrArg some HC5.out.symm))) rfl ⟨⟨A5,(n + 1),c5,by rw [HSP.out],by rw [HSP.out];exact hend.1,by omega,hend.2.2⟩,hend.2.1⟩
 ·have HSP : Hid (spoil r how b = { r with ops := ⟨y10 - 1,y19 - 1,y35 - 1⟩ :: r.ops }) := hid (by unfold spoil;rw [← HK.out,← HID.out];rfl)
  rw [show ((5 : Nat) : Int) = 5 from rfl]
  have HOL : Hid ((w4.alloc (.cells #[.int .i64 (y10 - 1),.int .i64 (y19 - 1),.int .i64 (y35 - 1)] 68)).ownsRow w4.heap.size 68 3 (.slice (some ⟨w4.heap.size,0,none⟩) 1 1) 1 [.int .i64 (y10 - 1),.int .i64 (y19 - 1),.int .i64 (y35 - 1)]) := hid (by
   have h := World.ownsRow_lit (base := w4.heap.size) (size := 3) (e := 68) w4 #[.int .i64 (y10 - 1),.int .i64 (y19 - 1),.int .i64 (y35 - 1)] 1 (Nat.le_refl _) (by decide) (by simp)
   simpa using h)
  have SA : Hid (SpSt w (w4.alloc (.cells #[.int .i64 (y10 - 1),.int .i64 (y19 - 1),.int .i64 (y35 - 1)] 68)) r A2 n c2 Z) := hid (S4.out.next ((Ext.refl w4).alloc _))
  have cj : (w4.alloc (.cells #[.int .i64 (y10 - 1),.int .i64 (y19 - 1),.int .i64 (y35 - 1)] 68)).cell? ⟨w.heap.size,4,none⟩ = some (.slice A2 n c2) := SA.out.blk.cell 4
  go_upto_region 26 with (first | (refine wpList_load_blk rfl 68 (.tmp 8) rfl w3.heap.size (by kernel_rfl) B4.out Tryz.underlying68 rfl (info_id.trans rfl) ?_) | (at_builtin;refine wpList_app rfl (.tmp 71) (.tmp 73) 24 rfl w4.heap.size 68 i0 (.agg #[.int .i64 0,.int .i64 0,.int .i64 0]) 3 24 Tryz.underlying24 hi hz0 hz1 hz2 rfl (by omega) (some ⟨w4.heap.size,0,none⟩) 1 1 _ rfl HOL.out (w4.alloc (.cells #[.int .i64 (y10 - 1),.int .i64 (y19 - 1),.int .i64 (y35 - 1)] 68)).heap.size A2 n c2 (idsC r.ops) rfl SA.out.row (idsC_one _) (by simp only [maxLen];omega) (by omega) (by simp) ?_;intro A5 c5 w5 ho5 hg5;have HO5 := hid ho5;have S5a := hid (S4.out.next (below_app ((Ext.refl w4).alloc _) hg5 HOL.out (Nat.le_refl _) (by simp)));have f5 := S5a.out.blk.frozen 4;have c5c : w5.cell? ⟨w.heap.size,4,none⟩ = some (.slice A2 n c2) := S5a.out.blk.cell 4;clear ho5 hg5))
  have hc5 := slice_cap HO5.out
  unfold maxLen at hc5
  have S5 : Hid (SpSt w (w5.setCell ⟨w.heap.size,4,none⟩ (.slice A5 (1 + n) c5)) { r with ops := ⟨y10 - 1,y19 - 1,y35 - 1⟩ :: r.ops } A5 (1 + n) c5 Z) := hid (SpSt.put S5a.out.ext S5a.out.blk S5a.out.res (rdn_own HO5.out) (fun a e => by have h1 := own_far HO5.out e;have h2 := HS13.out;omega) hc5.1 hc5.2 HR.out.mean HR.out.mbyt)
  have HC5 : Hid ((revC { r with ops := ⟨y10 - 1,y19 - 1,y35 - 1⟩ :: r.ops } A5 (1 + n) c5).length = 22) := hid (revC_len _ _ _ _ S5.out.mean)
  go_wp2_with ((first
   | (refine wpList_load_blk rfl 28 (.tmp 3) rfl w.heap.size (by kernel_rfl) S5.out.blk Tryz.underlying28 rfl (info_rev.trans (congrArg some HC5.out.symm)) ?_)
   | (refine wpList_store_blk rfl 28 (.tmp 6) (.tmp 103) (by rfl) (w.heap.size + 1) (revC { r with ops := ⟨y10 - 1,y19 - 1,y35 - 1⟩ :: r.ops } A5 (1 + n) c5) rfl rfl S5.out.res (info_rev.trans (congrArg some HC5.out.symm)) (HZL.out.trans HC5.out.symm) (revC_one _ _ _ _) ?_;intro w9 hw9 hb9)))
  have hend := S5.out.end (by omega) (revC { r with ops := ⟨y10 - 1,y19 - 1,y35 - 1⟩ :: r.ops } A5 (1 + n) c5).toArray
  rw [← hw9.out] at hend
  exact bodyPost_ret (results_blk Tryz.results15 _ _ (w.heap.size + 1) 28 (revC { r with ops := ⟨y10 - 1,y19 - 1,y35 - 1⟩ :: r.ops } A5 (1 + n) c5) _ rfl hb9 Tryz.underlying28 rfl (info_rev.trans (congrArg some HC5.out.symm))) rfl ⟨⟨A5,(1 + n),c5,by rw [HSP.out],by rw [HSP.out];exact hend.1,by omega,hend.2.2⟩,hend.2.1⟩
 ·obtain ⟨y4,hy4⟩ : ∃ y,y = (aroI b 4).toNat := ⟨_,rfl⟩
  have hb4 := aroI_bd b 4 (by decide)
  have hy44 : y4 ≤ 3 := by omega
  have H4 : Hid (∀ W,Calls Tryz.prog 12 #[.int .i64 b,.int .i64 4] W fun e w' => e = .returned (.int .i64 (y4 : Int)) ∧ W = w') := hid (fun W => by rw [hy4,Int.toNat_of_nonneg hb4.1];exact around_any b 4 W hb0 hb1 (by decide) (by decide))
  have HSP : Hid (spoil r how b = { r with ops := manyR (31 + y4) }) := hid (by unfold spoil;rw [← HK.out,hy4];rfl)
  clear hy4 hb4
  rw [show ((6 : Nat) : Int) = 6 from rfl]
  have fj := S4.out.blk.frozen 4
  have cj : w4.cell? ⟨w.heap.size,4,none⟩ = some (.slice A2 n c2) := S4.out.blk.cell 4
  have S5 : Hid (SpSt w (w4.setCell ⟨w.heap.size,4,none⟩ (.slice none 0 0)) { r with ops := manyR 0 } none 0 0 Z) := hid (S4.out.set 4 _ (revC_set4 _ _ _ _ _ _ _ _) ⟨rfl,fun h => absurd h (Nat.lt_irrefl _)⟩ (fun a e => by cases e) (Nat.le_refl _) (by decide) rfl)
  have HSZ4 : Hid (w1.heap.size ≤ (w4.setCell ⟨w.heap.size,4,none⟩ (.slice none 0 0)).heap.size) := hid (by have := HS13.out.2;simp [World.setCell];omega)
  go_wp2_with fail
  go_loopw [9] (fun x wr => ∃ (t : Nat) (A' : Option Addr) (c' : Nat),t ≤ 31 + y4 ∧ x = .int .i64 (t : Int) ∧ SpSt w wr { r with ops := manyR t } A' t c' Z ∧ wr.ownsRow w1.heap.size 68 3 (.slice A' t c') t (idsC (manyR t)) ∧ w1.heap.size ≤ wr.heap.size) (fun x _ => 31 + y4 - (intOf x).toNat)
  case atStart => exact ⟨0,none,0,by omega,rfl,S5.out,World.ownsRow_nil _ _ _ _,HSZ4.out⟩
  case round =>
   obtain ⟨t,A',c',ht,rfl,hS,hO,hsz⟩ := hrel
   have SO := hid hS;have HO := hid hO;have HSZ := hid hsz
   clear hS hO hsz S5 HSZ4 cj fj
   obtain ⟨wo,rfl⟩ : ∃ x : World,x = wr := ⟨_,rfl⟩
   by_cases hlt : t < 31 + y4
   ·obtain ⟨q,hq⟩ : ∃ q,q = t / 32 := ⟨_,rfl⟩
    obtain ⟨m,hm⟩ : ∃ m,m = t % 32 := ⟨_,rfl⟩
    have hq1 : (t : Int) / 32 = (q : Int) := by omega
    have hm1 : (t : Int) % 32 = (m : Int) := by omega
    have hq2 : (t : Int).tdiv 32 = (q : Int) := by rw [Int.tdiv_eq_ediv_of_nonneg (by omega)];exact hq1
    have hm2 : (t : Int).tmod 32 = (m : Int) := by rw [Int.tmod_eq_emod_of_nonneg (by omega)];exact hm1
    have hqb : q ≤ 100 := by omega
    have HMS : Hid (idsC (manyR (t + 1)) = idsC (manyR t) ++ [.int .i64 1,.int .i64 (1 + (q : Int)),.int .i64 (m : Int)]) := hid (by rw [manyR_succ,idsC_app,← hq,← hm];rfl)
    clear hq hm
    have cj : wo.cell? ⟨w.heap.size,4,none⟩ = some (.slice A' t c') := SO.out.blk.cell 4
    have fj := SO.out.blk.frozen 4
    go_upto_region 22 with ((first | (go_at_call 12;(with_reducible refine (H4.out wo).mono ?_);rintro e w7 ⟨rfl,rfl⟩) | (at_builtin;refine wpList_app rfl (.tmp 87) (.tmp 94) 24 rfl w1.heap.size 68 i0 (.agg #[.int .i64 0,.int .i64 0,.int .i64 0]) 3 24 Tryz.underlying24 hi hz0 hz1 hz2 rfl (by omega) A' t c' _ rfl (HO.out.alloc _) (wo.heap.size + 1) (some ⟨wo.heap.size,0,none⟩) 1 1 [.int .i64 1,.int .i64 (1 + (q : Int)),.int .i64 (m : Int)] rfl (RdN.fresh _ _ _ 3 1 rfl rfl rfl) (idC_one ⟨1,1 + (q : Int),(m : Int)⟩) (by simp only [maxLen];omega) (by omega) (by have h1 := HSZ.out;simp;omega) ?_;intro A5 c5 w5 ho5 hg5;have HO5 := hid ho5;have BP5 : Hid (Blk w5 w.heap.size 28 (revC { r with ops := manyR t } A' t c')) := hid ((SO.out.blk.alloc _).grown hg5 (fun e => by have h1 := own_ge HO.out e.symm;have h2 := HS1.out;omega));have BZ5 : Hid (Blk w5 (w.heap.size + 1) 28 Z) := hid ((SO.out.res.alloc _).grown hg5 (fun e => by have h1 := own_ge HO.out e.symm;have h2 := HS1.out;omega));have E5 : Hid (Ext w w5) := hid (below_app (SO.out.ext.alloc _) hg5 (HO.out.alloc _) (by have h2 := HS1.out;omega) (by have h1 := HSZ.out;simp;omega));have f5 := BP5.out.frozen 4;have c5c : w5.cell? ⟨w.heap.size,4,none⟩ = some (.slice A' t c') := BP5.out.cell 4;have HSZ5 : Hid (w1.heap.size ≤ w5.heap.size) := hid (by have h1 := hg5.size;have h2 := HSZ.out;simp at h1;omega);clear ho5 hg5)))
    have hc5 := slice_cap HO5.out
    unfold maxLen at hc5
    have S6 : Hid (SpSt w (w5.setCell ⟨w.heap.size,4,none⟩ (.slice A5 (t + 1) c5)) { r with ops := manyR (t + 1) } A5 (t + 1) c5 Z) := hid (SpSt.put (r := { r with ops := manyR t }) E5.out BP5.out BZ5.out (by rw [HMS.out];exact rdn_own HO5.out) (fun a e => by have h1 := own_far HO5.out e;have h2 := HS1.out;omega) hc5.1 hc5.2 HR.out.mean HR.out.mbyt)
    have HO6 : Hid ((w5.setCell ⟨w.heap.size,4,none⟩ (.slice A5 (t + 1) c5)).ownsRow w1.heap.size 68 3 (.slice A5 (t + 1) c5) (t + 1) (idsC (manyR (t + 1)))) := hid (by rw [HMS.out];exact (Kept.setCell (F := fun b => b = w.heap.size) (p := ⟨w.heap.size,4,none⟩) w5 rfl _).own HO5.out (fun b hb h => by have h1 := own_ge HO5.out hb;have h2 := HS1.out;omega))
    have HSZ6 : Hid (w1.heap.size ≤ (w5.setCell ⟨w.heap.size,4,none⟩ (.slice A5 (t + 1) c5)).heap.size) := hid (by have h1 := S6.out.ext.size;have h2 := HSZ5.out;simp [World.setCell] at h1 ⊢;omega)
    go_wp2_with fail
    exact ⟨⟨t + 1,A5,c5,by omega,by go_num,S6.out,HO6.out,HSZ6.out⟩,by simp [intOf];omega⟩
   ·obtain rfl : t = 31 + y4 := by omega
    have HC5 : Hid ((revC { r with ops := manyR (31 + y4) } A' (31 + y4) c').length = 22) := hid (revC_len _ _ _ _ SO.out.mean)
    go_wp2_with ((first
   | (go_at_call 12;(with_reducible refine (H4.out wo).mono ?_);rintro e w7 ⟨rfl,rfl⟩)
     | (refine wpList_load_blk rfl 28 (.tmp 3) rfl w.heap.size (by kernel_rfl) SO.out.blk Tryz.underlying28 rfl (info_rev.trans (congrArg some HC5.out.symm)) ?_)
     | (refine wpList_store_blk rfl 28 (.tmp 6) (.tmp 103) (by rfl) (w.heap.size + 1) (revC { r with ops := manyR (31 + y4) } A' (31 + y4) c') rfl rfl SO.out.res (info_rev.trans (congrArg some HC5.out.symm)) (HZL.out.trans HC5.out.symm) (revC_one _ _ _ _) ?_;intro w9 hw9 hb9)))
    have hend := SO.out.end (by omega) (revC { r with ops := manyR (31 + y4) } A' (31 + y4) c').toArray
    rw [← hw9.out] at hend
    exact bodyPost_ret (results_blk Tryz.results15 _ _ (w.heap.size + 1) 28 (revC { r with ops := manyR (31 + y4) } A' (31 + y4) c') _ rfl hb9 Tryz.underlying28 rfl (info_rev.trans (congrArg some HC5.out.symm))) rfl ⟨⟨A',(31 + y4),c',by rw [HSP.out],by rw [HSP.out];exact hend.1,by omega,hend.2.2⟩,hend.2.1⟩
 ·have HSP : Hid (spoil r how b = { r with wd := !r.wd }) := hid (by unfold spoil;rw [← HK.out];rfl)
  rw [show ((7 : Nat) : Int) = 7 from rfl]
  have fj := S4.out.blk.frozen 3
  have cj : w4.cell? ⟨w.heap.size,3,none⟩ = some (.bool r.wd) := S4.out.blk.cell 3
  have S5 : Hid (SpSt w (w4.setCell ⟨w.heap.size,3,none⟩ (.bool (!r.wd))) { r with wd := !r.wd } A2 n c2 Z) := hid (S4.out.set 3 _ (revC_set3 _ _ _ _ _) S4.out.row S4.out.far S4.out.le S4.out.cap rfl)
  have HC5 : Hid ((revC { r with wd := !r.wd } A2 n c2).length = 22) := hid (revC_len _ _ _ _ S5.out.mean)
  go_wp2_with ((first
   | (refine wpList_load_blk rfl 28 (.tmp 3) rfl w.heap.size (by kernel_rfl) S5.out.blk Tryz.underlying28 rfl (info_rev.trans (congrArg some HC5.out.symm)) ?_)
   | (refine wpList_store_blk rfl 28 (.tmp 6) (.tmp 103) (by rfl) (w.heap.size + 1) (revC { r with wd := !r.wd } A2 n c2) rfl rfl S5.out.res (info_rev.trans (congrArg some HC5.out.symm)) (HZL.out.trans HC5.out.symm) (revC_one _ _ _ _) ?_;intro w9 hw9 hb9)))
  have hend := S5.out.end (by omega) (revC { r with wd := !r.wd } A2 n c2).toArray
  rw [← hw9.out] at hend
  exact bodyPost_ret (results_blk Tryz.results15 _ _ (w.heap.size + 1) 28 (revC { r with wd := !r.wd } A2 n c2) _ rfl hb9 Tryz.underlying28 rfl (info_rev.trans (congrArg some HC5.out.symm))) rfl ⟨⟨A2,n,c2,by rw [HSP.out],by rw [HSP.out];exact hend.1,by omega,hend.2.2⟩,hend.2.1⟩
 ·obtain ⟨y4,hy4⟩ : ∃ y,y = (aroI b 4).toNat := ⟨_,rfl⟩
  have hb4 := aroI_bd b 4 (by decide)
  have hy44 : y4 < 4 := by omega
  have H4 : Hid (∀ W,Calls Tryz.prog 12 #[.int .i64 b,.int .i64 4] W fun e w' => e = .returned (.int .i64 (y4 : Int)) ∧ W = w') := hid (fun W => by rw [hy4,Int.toNat_of_nonneg hb4.1];exact around_any b 4 W hb0 hb1 (by decide) (by decide))
  obtain ⟨m,hm⟩ : ∃ m,m = spLen b := ⟨_,rfl⟩
  obtain ⟨S8,hS8⟩ : ∃ d,d = strOf (List.replicate m 0) := ⟨_,rfl⟩
  have HSP : Hid (spoil r how b = { r with sl := S8 }) := hid (by unfold spoil;rw [← HK.out,hS8,hm];rfl)
  have hget : ([.int .i64 0,.int .i64 1,.int .i64 1200,.int .i64 1201] : List Value)[y4]? = some (.int .i64 (m : Int)) ∧ m ≤ 1201 := by
   rw [hm];unfold spLen;rw [← hy4]
   rcases (show y4 = 0 ∨ y4 = 1 ∨ y4 = 2 ∨ y4 = 3 by omega) with h | h | h | h <;> rw [h] <;> exact ⟨rfl,by decide⟩
  clear hy4 hb4 hm
  rw [show ((8 : Nat) : Int) = 8 from rfl]
  obtain ⟨hget,hm12⟩ := hget
  have SA : Hid (SpSt w (w4.alloc (.cells #[.int .i64 0,.int .i64 1,.int .i64 1200,.int .i64 1201] 3)) r A2 n c2 Z) := hid (S4.out.next ((Ext.refl w4).alloc _))
  have ce : (w4.alloc (.cells #[.int .i64 0,.int .i64 1,.int .i64 1200,.int .i64 1201] 3)).cell? ⟨w4.heap.size,y4,none⟩ = some (.int .i64 (m : Int)) := ((Blk.fresh' w4 3 [.int .i64 0,.int .i64 1,.int .i64 1200,.int .i64 1201] _ _ rfl rfl).cell y4).trans hget
  obtain ⟨j0,hj,hj0,hj1,hj2⟩ := info_parts winfo_u8
  obtain ⟨wm,hmk0,hown,hgm⟩ := run_make_full (P := Tryz.prog) (w4.alloc (.cells #[.int .i64 0,.int .i64 1,.int .i64 1200,.int .i64 1201] 3)) (w4.alloc (.cells #[.int .i64 0,.int .i64 1,.int .i64 1200,.int .i64 1201] 3)).heap.size 23 5 j0 (.int .u8 0) 1 Tryz.underlying23 hj hj0 hj1 .i64 .i64 m (by rw [hj2];omega) (by unfold maxLen;omega) (Nat.le_refl _)
  have hmk : (Instr.makeSlice 23 (.int .i64 (m : Int)) (.int .i64 (m : Int))).run Tryz.prog (w4.alloc (.cells #[.int .i64 0,.int .i64 1,.int .i64 1200,.int .i64 1201] 3)) = .ok (.slice (some ⟨(w4.alloc (.cells #[.int .i64 0,.int .i64 1,.int .i64 1200,.int .i64 1201] 3)).heap.size,0,none⟩) m m) wm := hmk0
  have HO : Hid (wm.ownsRow (w4.alloc (.cells #[.int .i64 0,.int .i64 1,.int .i64 1200,.int .i64 1201] 3)).heap.size 5 1 (.slice (some ⟨(w4.alloc (.cells #[.int .i64 0,.int .i64 1,.int .i64 1200,.int .i64 1201] 3)).heap.size,0,none⟩) m m) m (u8s (List.replicate m 0))) := hid (by
   have e : (madeCells (Value.int .u8 0).cells (m * 1)).toList = u8s (List.replicate m 0) := by
    have h0 : ∀ x : Nat,([Value.int .u8 0] : List Value)[x % 1]?.getD default = .int .u8 0 := fun x => by rw [Nat.mod_one];rfl
    simp [madeCells,Value.cells,u8s,h0,List.map_const']
   rw [e] at hown
   exact hown)
  have SM : Hid (SpSt w wm r A2 n c2 Z) := hid (SA.out.next (Below.grown (Ext.refl _) hgm (Nat.le_refl _) (fun k hk => by cases hk)))
  have hcv := run_toStr (P := Tryz.prog) Tryz.underlying23 Tryz.underlying5 Tryz.underlying9 (Rd.of_own HO.out) m (fun _ => Or.inr ⟨_,rfl⟩)
  rw [← hS8,World.size_alloc] at hcv
  have fj := SM.out.blk.frozen 21
  have cj : ∃ y,wm.cell? ⟨w.heap.size,21,none⟩ = some y := ⟨_,(SM.out.blk.cell 21).trans (List.getElem?_eq_getElem (by rw [revC_len _ _ _ _ HR.out.mean];decide))⟩
  obtain ⟨yv,cj⟩ := cj
  have S5 : Hid (SpSt w (wm.setCell ⟨w.heap.size,21,none⟩ (.string S8)) { r with sl := S8 } A2 n c2 Z) := hid (SM.out.set 21 _ (revC_set21 _ _ _ _ _ HR.out.mean) SM.out.row SM.out.far SM.out.le SM.out.cap rfl)
  clear hget hS8 hmk0 hgm hown hj hj0 hj1 hj2
  have HC5 : Hid ((revC { r with sl := S8 } A2 n c2).length = 22) := hid (revC_len _ _ _ _ S5.out.mean)
  go_wp2_with ((first
   | (go_at_call 12;(with_reducible refine (H4.out _).mono ?_);rintro e w7 ⟨rfl,rfl⟩)
   | (refine wpList_load_blk rfl 28 (.tmp 3) rfl w.heap.size (by kernel_rfl) S5.out.blk Tryz.underlying28 rfl (info_rev.trans (congrArg some HC5.out.symm)) ?_)
   | (refine wpList_store_blk rfl 28 (.tmp 6) (.tmp 103) (by rfl) (w.heap.size + 1) (revC { r with sl := S8 } A2 n c2) rfl rfl S5.out.res (info_rev.trans (congrArg some HC5.out.symm)) (HZL.out.trans HC5.out.symm) (revC_one _ _ _ _) ?_;intro w9 hw9 hb9)))
  have hend := S5.out.end (by omega) (revC { r with sl := S8 } A2 n c2).toArray
  rw [← hw9.out] at hend
  exact bodyPost_ret (results_blk Tryz.results15 _ _ (w.heap.size + 1) 28 (revC { r with sl := S8 } A2 n c2) _ rfl hb9 Tryz.underlying28 rfl (info_rev.trans (congrArg some HC5.out.symm))) rfl ⟨⟨A2,n,c2,by rw [HSP.out],by rw [HSP.out];exact hend.1,by omega,hend.2.2⟩,hend.2.1⟩
theorem spoilt_any (r : Rev) (how b : Int) (A : Option Addr) (n c : Nat) (w : World) (hr : RevV w r A n c) (hn : n ≤ 500) (hh0 : -9223372036854775808 ≤ how) (hh1 : how ≤ 9223372036854775807) (hb0 : -9223372036854775808 ≤ b) (hb1 : b ≤ 9223372036854775807) :
  Calls Tryz.prog 15 #[.agg (revC r A n c).toArray,.int .i64 how,.int .i64 b] w fun e w' => (∃ A' n' c',e = .returned (.agg (revC (spoil r how b) A' n' c').toArray) ∧ RevV w' (spoil r how b) A' n' c' ∧ n' ≤ n + 34) ∧ Ext w w' :=
 (spoilt_far r how b A n c w hr hn hh0 hh1 hb0 hb1).mono fun e w' ⟨⟨A',n',c',h1,h2,h3,_⟩,h4⟩ => ⟨⟨A',n',c',h1,h2,h3⟩,h4⟩
end Go.Proofs.YtjeecfjeooehhaaGreatDoor
