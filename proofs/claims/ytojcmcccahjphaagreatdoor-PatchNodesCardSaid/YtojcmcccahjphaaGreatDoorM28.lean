/- The reference of package patch: names, kinds of nodes and operations. Conditions: none. -/
import Derived.Test.YtojcmcccahjphaaGreatDoorM8
import Derived.Test.YtojcmcccahjphaaGreatDoorM27
import Derived.OwnWalk
set_option linter.unusedSimpArgs false
set_option linter.unusedVariables false
set_option maxHeartbeats 16000000
set_option maxRecDepth 100000
set_option maxRecDepth 100000
set_option maxHeartbeats 16000000
namespace Go.Proofs.YtojcmcccahjphaaGreatDoor
open Go.RowKit
open Lib (hid)
attribute [local go_sem ↓] wp_at_zero wp_at_succ
theorem rname_any (s : ByteArray) (w : World) : Calls Tryz.prog 34 #[.string s] w fun e w' => e = .returned (.bool (nameB s)) ∧ w = w' := by
 unfold nameB winB
 obtain ⟨z,hz⟩ : ∃ z,z = s.size := ⟨_,rfl⟩
 have hs : s.size = z := hz.symm
 rw [hs]
 clear hz
 have hh : ∀ p : Prop,p ∨ ¬ p := fun p => Classical.em p
 go_enter Tryz.func34,Tryz.ntmps34
 rcases hh (1 ≤ z) with h1 | h1
 ·have d1 : decide ((1 : Int) ≤ (z : Int)) = true := decide_eq_true (by omega)
  have d2 : decide (1 ≤ z) = true := decide_eq_true h1
  rcases hh (z ≤ 16) with h2 | h2
  ·have d3 : decide ((z : Int) ≤ 16) = true := decide_eq_true (by omega)
   have d4 : decide (z ≤ 16) = true := decide_eq_true h2
   rw [d1,d3]
   clear h1 h2
   go_wp2_with fail
   go_ret
   exact ⟨rfl,rfl⟩
  ·have d3 : decide ((z : Int) ≤ 16) = false := decide_eq_false (by omega)
   have d4 : decide (z ≤ 16) = false := decide_eq_false h2
   rw [d1,d3]
   clear h1 h2
   go_wp2_with fail
   go_ret
   exact ⟨rfl,rfl⟩
 ·have d1 : decide ((1 : Int) ≤ (z : Int)) = false := decide_eq_false (by omega)
  have d2 : decide (1 ≤ z) = false := decide_eq_false h1
  rw [d1]
  clear h1
  go_wp2_with fail
  go_ret
  exact ⟨rfl,rfl⟩
theorem refers_any (k : Int) (w : World) : Calls Tryz.prog 59 #[.int .i64 k] w fun e w' => e = .returned (.bool (rRef k)) ∧ w = w' := by
 by_cases h2 : k = 2
 ·subst h2
  rw [show rRef 2 = true from rfl]
  go_enter Tryz.func59,Tryz.ntmps59
  go_wp2_with fail
  go_ret
  exact ⟨rfl,rfl⟩
 by_cases h3 : k = 3
 ·subst h3
  rw [show rRef 3 = true from rfl]
  go_enter Tryz.func59,Tryz.ntmps59
  go_wp2_with fail
  go_ret
  exact ⟨rfl,rfl⟩
 by_cases h7 : k = 7
 ·subst h7
  rw [show rRef 7 = true from rfl]
  go_enter Tryz.func59,Tryz.ntmps59
  go_wp2_with fail
  go_ret
  exact ⟨rfl,rfl⟩
 by_cases h8 : k = 8
 ·subst h8
  rw [show rRef 8 = true from rfl]
  go_enter Tryz.func59,Tryz.ntmps59
  go_wp2_with fail
  go_ret
  exact ⟨rfl,rfl⟩
 by_cases h9 : k = 9
 ·subst h9
  rw [show rRef 9 = true from rfl]
  go_enter Tryz.func59,Tryz.ntmps59
  go_wp2_with fail
  go_ret
  exact ⟨rfl,rfl⟩
 by_cases h10 : k = 10
 ·subst h10
  rw [show rRef 10 = true from rfl]
  go_enter Tryz.func59,Tryz.ntmps59
  go_wp2_with fail
  go_ret
  exact ⟨rfl,rfl⟩
 have e2 : (k == (2 : Int)) = false := beq_eq_false_iff_ne.2 h2
 have e3 : (k == (3 : Int)) = false := beq_eq_false_iff_ne.2 h3
 have e7 : (k == (7 : Int)) = false := beq_eq_false_iff_ne.2 h7
 have e8 : (k == (8 : Int)) = false := beq_eq_false_iff_ne.2 h8
 have e9 : (k == (9 : Int)) = false := beq_eq_false_iff_ne.2 h9
 have e10 : (k == (10 : Int)) = false := beq_eq_false_iff_ne.2 h10
 rw [show rRef k = false from decide_eq_false (by omega)]
 clear h2 h3 h7 h8 h9 h10
 go_enter Tryz.func59,Tryz.ntmps59
 go_wp2_with fail
 go_ret
 exact ⟨rfl,rfl⟩
def rKidsN (k n : Int) : Int × Int := if k = 3 then (0,6) else if k = 4 then (if n = 9 ∨ n = 11 then (1,1) else (2,2)) else if k = 5 ∨ k = 12 then (3,3) else if k = 6 then (2,2) else if k = 7 then (1,6) else if k = 8 ∨ k = 9 then (1,1) else if k = 10 then (2,7) else if k = 11 then (0,8) else (0,0)
def rNumN (k : Int) : Int × Int := if k = 0 then (-1099511627776,1099511627776) else if k = 1 then (0,1) else if k = 2 then (0,7) else if k = 4 then (0,11) else if k = 8 ∨ k = 9 then (0,5) else (0,0)
theorem kidsR_any (k n s q i : Int) (t0 t1 t2 t3 t4 : Value) (A : Option Addr) (na c : Nat) (B : Option Addr) (m d : Nat) (w : World) : Calls Tryz.prog 58 #[.agg #[.int .i64 k,.int .i64 n,.int .i64 s,.int .i64 q,.int .i64 i,t0,t1,t2,t3,t4,.slice A na c,.slice B m d]] w fun e w' => e = .returned (.tuple #[.int .i64 (rKidsN k n).1,.int .i64 (rKidsN k n).2]) ∧ Ext w w' := by
 by_cases h3 : k = 3
 ·subst h3
  rw [show rKidsN 3 n = (0,6) from rfl]
  obtain ⟨w1,hw1⟩ : ∃ x,x = w.alloc (.cells #[.int .i64 3,.int .i64 n,.int .i64 s,.int .i64 q,.int .i64 i,t0,t1,t2,t3,t4,.slice A na c,.slice B m d] 30) := ⟨_,rfl⟩
  have E1 : Hid (Ext w w1) := hid (by rw [hw1];exact (Ext.refl w).alloc _)
  have B1 : Hid (Blk w1 w.heap.size 30 [.int .i64 3,.int .i64 n,.int .i64 s,.int .i64 q,.int .i64 i,t0,t1,t2,t3,t4,.slice A na c,.slice B m d]) := hid (by rw [hw1];exact Blk.fresh' _ _ _ _ _ rfl rfl)
  go_enter Tryz.func58,Tryz.ntmps58
  go_upto_region 1 with fail
  change Code.wp _ _ _ _ (w.alloc (.cells #[.int .i64 3,.int .i64 n,.int .i64 s,.int .i64 q,.int .i64 i,t0,t1,t2,t3,t4,.slice A na c,.slice B m d] 30))
  rw [← hw1]
  clear hw1
  have c0 := B1.out.cell 0
  have c1 := B1.out.cell 1
  go_wp2_with fail
  go_ret2
  exact ⟨rfl,E1.out⟩
 by_cases h4 : k = 4
 ·subst h4
  by_cases g9 : n = 9
  ·subst g9
   rw [show rKidsN 4 9 = (1,1) from rfl]
   obtain ⟨w1,hw1⟩ : ∃ x,x = w.alloc (.cells #[.int .i64 4,.int .i64 9,.int .i64 s,.int .i64 q,.int .i64 i,t0,t1,t2,t3,t4,.slice A na c,.slice B m d] 30) := ⟨_,rfl⟩
   have E1 : Hid (Ext w w1) := hid (by rw [hw1];exact (Ext.refl w).alloc _)
   have B1 : Hid (Blk w1 w.heap.size 30 [.int .i64 4,.int .i64 9,.int .i64 s,.int .i64 q,.int .i64 i,t0,t1,t2,t3,t4,.slice A na c,.slice B m d]) := hid (by rw [hw1];exact Blk.fresh' _ _ _ _ _ rfl rfl)
   go_enter Tryz.func58,Tryz.ntmps58
   go_upto_region 1 with fail
   change Code.wp _ _ _ _ (w.alloc (.cells #[.int .i64 4,.int .i64 9,.int .i64 s,.int .i64 q,.int .i64 i,t0,t1,t2,t3,t4,.slice A na c,.slice B m d] 30))
   rw [← hw1]
   clear hw1
   have c0 := B1.out.cell 0
   have c1 := B1.out.cell 1
   go_wp2_with fail
   go_ret2
   exact ⟨rfl,E1.out⟩
  by_cases g11 : n = 11
  ·subst g11
   rw [show rKidsN 4 11 = (1,1) from rfl]
   obtain ⟨w1,hw1⟩ : ∃ x,x = w.alloc (.cells #[.int .i64 4,.int .i64 11,.int .i64 s,.int .i64 q,.int .i64 i,t0,t1,t2,t3,t4,.slice A na c,.slice B m d] 30) := ⟨_,rfl⟩
   have E1 : Hid (Ext w w1) := hid (by rw [hw1];exact (Ext.refl w).alloc _)
   have B1 : Hid (Blk w1 w.heap.size 30 [.int .i64 4,.int .i64 11,.int .i64 s,.int .i64 q,.int .i64 i,t0,t1,t2,t3,t4,.slice A na c,.slice B m d]) := hid (by rw [hw1];exact Blk.fresh' _ _ _ _ _ rfl rfl)
   go_enter Tryz.func58,Tryz.ntmps58
   go_upto_region 1 with fail
   change Code.wp _ _ _ _ (w.alloc (.cells #[.int .i64 4,.int .i64 11,.int .i64 s,.int .i64 q,.int .i64 i,t0,t1,t2,t3,t4,.slice A na c,.slice B m d] 30))
   rw [← hw1]
   clear hw1
   have c0 := B1.out.cell 0
   have c1 := B1.out.cell 1
   go_wp2_with fail
   go_ret2
   exact ⟨rfl,E1.out⟩
  have hk4 : rKidsN 4 n = (2,2) := by
   unfold rKidsN
   rw [if_neg (by decide),if_pos rfl,if_neg (by omega)]
  rw [hk4]
  clear hk4
  have f9 : (n == (9 : Int)) = false := beq_eq_false_iff_ne.2 g9
  have f11 : (n == (11 : Int)) = false := beq_eq_false_iff_ne.2 g11
  clear g9 g11
  obtain ⟨w1,hw1⟩ : ∃ x,x = w.alloc (.cells #[.int .i64 4,.int .i64 n,.int .i64 s,.int .i64 q,.int .i64 i,t0,t1,t2,t3,t4,.slice A na c,.slice B m d] 30) := ⟨_,rfl⟩
  have E1 : Hid (Ext w w1) := hid (by rw [hw1];exact (Ext.refl w).alloc _)
  have B1 : Hid (Blk w1 w.heap.size 30 [.int .i64 4,.int .i64 n,.int .i64 s,.int .i64 q,.int .i64 i,t0,t1,t2,t3,t4,.slice A na c,.slice B m d]) := hid (by rw [hw1];exact Blk.fresh' _ _ _ _ _ rfl rfl)
  go_enter Tryz.func58,Tryz.ntmps58
  go_upto_region 1 with fail
  change Code.wp _ _ _ _ (w.alloc (.cells #[.int .i64 4,.int .i64 n,.int .i64 s,.int .i64 q,.int .i64 i,t0,t1,t2,t3,t4,.slice A na c,.slice B m d] 30))
  rw [← hw1]
  clear hw1
  have c0 := B1.out.cell 0
  have c1 := B1.out.cell 1
  go_wp2_with fail
  go_ret2
  exact ⟨rfl,E1.out⟩
 by_cases h5 : k = 5
 ·subst h5
  rw [show rKidsN 5 n = (3,3) from rfl]
  obtain ⟨w1,hw1⟩ : ∃ x,x = w.alloc (.cells #[.int .i64 5,.int .i64 n,.int .i64 s,.int .i64 q,.int .i64 i,t0,t1,t2,t3,t4,.slice A na c,.slice B m d] 30) := ⟨_,rfl⟩
  have E1 : Hid (Ext w w1) := hid (by rw [hw1];exact (Ext.refl w).alloc _)
  have B1 : Hid (Blk w1 w.heap.size 30 [.int .i64 5,.int .i64 n,.int .i64 s,.int .i64 q,.int .i64 i,t0,t1,t2,t3,t4,.slice A na c,.slice B m d]) := hid (by rw [hw1];exact Blk.fresh' _ _ _ _ _ rfl rfl)
  go_enter Tryz.func58,Tryz.ntmps58
  go_upto_region 1 with fail
  change Code.wp _ _ _ _ (w.alloc (.cells #[.int .i64 5,.int .i64 n,.int .i64 s,.int .i64 q,.int .i64 i,t0,t1,t2,t3,t4,.slice A na c,.slice B m d] 30))
  rw [← hw1]
  clear hw1
  have c0 := B1.out.cell 0
  have c1 := B1.out.cell 1
  go_wp2_with fail
  go_ret2
  exact ⟨rfl,E1.out⟩
 by_cases h12 : k = 12
 ·subst h12
  rw [show rKidsN 12 n = (3,3) from rfl]
  obtain ⟨w1,hw1⟩ : ∃ x,x = w.alloc (.cells #[.int .i64 12,.int .i64 n,.int .i64 s,.int .i64 q,.int .i64 i,t0,t1,t2,t3,t4,.slice A na c,.slice B m d] 30) := ⟨_,rfl⟩
  have E1 : Hid (Ext w w1) := hid (by rw [hw1];exact (Ext.refl w).alloc _)
  have B1 : Hid (Blk w1 w.heap.size 30 [.int .i64 12,.int .i64 n,.int .i64 s,.int .i64 q,.int .i64 i,t0,t1,t2,t3,t4,.slice A na c,.slice B m d]) := hid (by rw [hw1];exact Blk.fresh' _ _ _ _ _ rfl rfl)
  go_enter Tryz.func58,Tryz.ntmps58
  go_upto_region 1 with fail
  change Code.wp _ _ _ _ (w.alloc (.cells #[.int .i64 12,.int .i64 n,.int .i64 s,.int .i64 q,.int .i64 i,t0,t1,t2,t3,t4,.slice A na c,.slice B m d] 30))
  rw [← hw1]
  clear hw1
  have c0 := B1.out.cell 0
  have c1 := B1.out.cell 1
  go_wp2_with fail
  go_ret2
  exact ⟨rfl,E1.out⟩
 by_cases h6 : k = 6
 ·subst h6
  rw [show rKidsN 6 n = (2,2) from rfl]
  obtain ⟨w1,hw1⟩ : ∃ x,x = w.alloc (.cells #[.int .i64 6,.int .i64 n,.int .i64 s,.int .i64 q,.int .i64 i,t0,t1,t2,t3,t4,.slice A na c,.slice B m d] 30) := ⟨_,rfl⟩
  have E1 : Hid (Ext w w1) := hid (by rw [hw1];exact (Ext.refl w).alloc _)
  have B1 : Hid (Blk w1 w.heap.size 30 [.int .i64 6,.int .i64 n,.int .i64 s,.int .i64 q,.int .i64 i,t0,t1,t2,t3,t4,.slice A na c,.slice B m d]) := hid (by rw [hw1];exact Blk.fresh' _ _ _ _ _ rfl rfl)
  go_enter Tryz.func58,Tryz.ntmps58
  go_upto_region 1 with fail
  change Code.wp _ _ _ _ (w.alloc (.cells #[.int .i64 6,.int .i64 n,.int .i64 s,.int .i64 q,.int .i64 i,t0,t1,t2,t3,t4,.slice A na c,.slice B m d] 30))
  rw [← hw1]
  clear hw1
  have c0 := B1.out.cell 0
  have c1 := B1.out.cell 1
  go_wp2_with fail
  go_ret2
  exact ⟨rfl,E1.out⟩
 by_cases h7 : k = 7
 ·subst h7
  rw [show rKidsN 7 n = (1,6) from rfl]
  obtain ⟨w1,hw1⟩ : ∃ x,x = w.alloc (.cells #[.int .i64 7,.int .i64 n,.int .i64 s,.int .i64 q,.int .i64 i,t0,t1,t2,t3,t4,.slice A na c,.slice B m d] 30) := ⟨_,rfl⟩
  have E1 : Hid (Ext w w1) := hid (by rw [hw1];exact (Ext.refl w).alloc _)
  have B1 : Hid (Blk w1 w.heap.size 30 [.int .i64 7,.int .i64 n,.int .i64 s,.int .i64 q,.int .i64 i,t0,t1,t2,t3,t4,.slice A na c,.slice B m d]) := hid (by rw [hw1];exact Blk.fresh' _ _ _ _ _ rfl rfl)
  go_enter Tryz.func58,Tryz.ntmps58
  go_upto_region 1 with fail
  change Code.wp _ _ _ _ (w.alloc (.cells #[.int .i64 7,.int .i64 n,.int .i64 s,.int .i64 q,.int .i64 i,t0,t1,t2,t3,t4,.slice A na c,.slice B m d] 30))
  rw [← hw1]
  clear hw1
  have c0 := B1.out.cell 0
  have c1 := B1.out.cell 1
  go_wp2_with fail
  go_ret2
  exact ⟨rfl,E1.out⟩
 by_cases h8 : k = 8
 ·subst h8
  rw [show rKidsN 8 n = (1,1) from rfl]
  obtain ⟨w1,hw1⟩ : ∃ x,x = w.alloc (.cells #[.int .i64 8,.int .i64 n,.int .i64 s,.int .i64 q,.int .i64 i,t0,t1,t2,t3,t4,.slice A na c,.slice B m d] 30) := ⟨_,rfl⟩
  have E1 : Hid (Ext w w1) := hid (by rw [hw1];exact (Ext.refl w).alloc _)
  have B1 : Hid (Blk w1 w.heap.size 30 [.int .i64 8,.int .i64 n,.int .i64 s,.int .i64 q,.int .i64 i,t0,t1,t2,t3,t4,.slice A na c,.slice B m d]) := hid (by rw [hw1];exact Blk.fresh' _ _ _ _ _ rfl rfl)
  go_enter Tryz.func58,Tryz.ntmps58
  go_upto_region 1 with fail
  change Code.wp _ _ _ _ (w.alloc (.cells #[.int .i64 8,.int .i64 n,.int .i64 s,.int .i64 q,.int .i64 i,t0,t1,t2,t3,t4,.slice A na c,.slice B m d] 30))
  rw [← hw1]
  clear hw1
  have c0 := B1.out.cell 0
  have c1 := B1.out.cell 1
  go_wp2_with fail
  go_ret2
  exact ⟨rfl,E1.out⟩
 by_cases h9 : k = 9
 ·subst h9
  rw [show rKidsN 9 n = (1,1) from rfl]
  obtain ⟨w1,hw1⟩ : ∃ x,x = w.alloc (.cells #[.int .i64 9,.int .i64 n,.int .i64 s,.int .i64 q,.int .i64 i,t0,t1,t2,t3,t4,.slice A na c,.slice B m d] 30) := ⟨_,rfl⟩
  have E1 : Hid (Ext w w1) := hid (by rw [hw1];exact (Ext.refl w).alloc _)
  have B1 : Hid (Blk w1 w.heap.size 30 [.int .i64 9,.int .i64 n,.int .i64 s,.int .i64 q,.int .i64 i,t0,t1,t2,t3,t4,.slice A na c,.slice B m d]) := hid (by rw [hw1];exact Blk.fresh' _ _ _ _ _ rfl rfl)
  go_enter Tryz.func58,Tryz.ntmps58
  go_upto_region 1 with fail
  change Code.wp _ _ _ _ (w.alloc (.cells #[.int .i64 9,.int .i64 n,.int .i64 s,.int .i64 q,.int .i64 i,t0,t1,t2,t3,t4,.slice A na c,.slice B m d] 30))
  rw [← hw1]
  clear hw1
  have c0 := B1.out.cell 0
  have c1 := B1.out.cell 1
  go_wp2_with fail
  go_ret2
  exact ⟨rfl,E1.out⟩
 by_cases h10 : k = 10
 ·subst h10
  rw [show rKidsN 10 n = (2,7) from rfl]
  obtain ⟨w1,hw1⟩ : ∃ x,x = w.alloc (.cells #[.int .i64 10,.int .i64 n,.int .i64 s,.int .i64 q,.int .i64 i,t0,t1,t2,t3,t4,.slice A na c,.slice B m d] 30) := ⟨_,rfl⟩
  have E1 : Hid (Ext w w1) := hid (by rw [hw1];exact (Ext.refl w).alloc _)
  have B1 : Hid (Blk w1 w.heap.size 30 [.int .i64 10,.int .i64 n,.int .i64 s,.int .i64 q,.int .i64 i,t0,t1,t2,t3,t4,.slice A na c,.slice B m d]) := hid (by rw [hw1];exact Blk.fresh' _ _ _ _ _ rfl rfl)
  go_enter Tryz.func58,Tryz.ntmps58
  go_upto_region 1 with fail
  change Code.wp _ _ _ _ (w.alloc (.cells #[.int .i64 10,.int .i64 n,.int .i64 s,.int .i64 q,.int .i64 i,t0,t1,t2,t3,t4,.slice A na c,.slice B m d] 30))
  rw [← hw1]
  clear hw1
  have c0 := B1.out.cell 0
  have c1 := B1.out.cell 1
  go_wp2_with fail
  go_ret2
  exact ⟨rfl,E1.out⟩
 by_cases h11 : k = 11
 ·subst h11
  rw [show rKidsN 11 n = (0,8) from rfl]
  obtain ⟨w1,hw1⟩ : ∃ x,x = w.alloc (.cells #[.int .i64 11,.int .i64 n,.int .i64 s,.int .i64 q,.int .i64 i,t0,t1,t2,t3,t4,.slice A na c,.slice B m d] 30) := ⟨_,rfl⟩
  have E1 : Hid (Ext w w1) := hid (by rw [hw1];exact (Ext.refl w).alloc _)
  have B1 : Hid (Blk w1 w.heap.size 30 [.int .i64 11,.int .i64 n,.int .i64 s,.int .i64 q,.int .i64 i,t0,t1,t2,t3,t4,.slice A na c,.slice B m d]) := hid (by rw [hw1];exact Blk.fresh' _ _ _ _ _ rfl rfl)
  go_enter Tryz.func58,Tryz.ntmps58
  go_upto_region 1 with fail
  change Code.wp _ _ _ _ (w.alloc (.cells #[.int .i64 11,.int .i64 n,.int .i64 s,.int .i64 q,.int .i64 i,t0,t1,t2,t3,t4,.slice A na c,.slice B m d] 30))
  rw [← hw1]
  clear hw1
  have c0 := B1.out.cell 0
  have c1 := B1.out.cell 1
  go_wp2_with fail
  go_ret2
  exact ⟨rfl,E1.out⟩
 have e3 : (k == (3 : Int)) = false := beq_eq_false_iff_ne.2 h3
 have e4 : (k == (4 : Int)) = false := beq_eq_false_iff_ne.2 h4
 have e5 : (k == (5 : Int)) = false := beq_eq_false_iff_ne.2 h5
 have e12 : (k == (12 : Int)) = false := beq_eq_false_iff_ne.2 h12
 have e6 : (k == (6 : Int)) = false := beq_eq_false_iff_ne.2 h6
 have e7 : (k == (7 : Int)) = false := beq_eq_false_iff_ne.2 h7
 have e8 : (k == (8 : Int)) = false := beq_eq_false_iff_ne.2 h8
 have e9 : (k == (9 : Int)) = false := beq_eq_false_iff_ne.2 h9
 have e10 : (k == (10 : Int)) = false := beq_eq_false_iff_ne.2 h10
 have e11 : (k == (11 : Int)) = false := beq_eq_false_iff_ne.2 h11
 have hkn : rKidsN k n = (0,0) := by
  unfold rKidsN
  rw [if_neg h3,if_neg h4,if_neg (by omega),if_neg h6,if_neg h7,if_neg (by omega),if_neg h10,if_neg h11]
 rw [hkn]
 clear h3 h4 h5 h12 h6 h7 h8 h9 h10 h11 hkn
 obtain ⟨w1,hw1⟩ : ∃ x,x = w.alloc (.cells #[.int .i64 k,.int .i64 n,.int .i64 s,.int .i64 q,.int .i64 i,t0,t1,t2,t3,t4,.slice A na c,.slice B m d] 30) := ⟨_,rfl⟩
 have E1 : Hid (Ext w w1) := hid (by rw [hw1];exact (Ext.refl w).alloc _)
 have B1 : Hid (Blk w1 w.heap.size 30 [.int .i64 k,.int .i64 n,.int .i64 s,.int .i64 q,.int .i64 i,t0,t1,t2,t3,t4,.slice A na c,.slice B m d]) := hid (by rw [hw1];exact Blk.fresh' _ _ _ _ _ rfl rfl)
 go_enter Tryz.func58,Tryz.ntmps58
 go_upto_region 1 with fail
 change Code.wp _ _ _ _ (w.alloc (.cells #[.int .i64 k,.int .i64 n,.int .i64 s,.int .i64 q,.int .i64 i,t0,t1,t2,t3,t4,.slice A na c,.slice B m d] 30))
 rw [← hw1]
 clear hw1
 have c0 := B1.out.cell 0
 have c1 := B1.out.cell 1
 go_wp2_with fail
 go_ret2
 exact ⟨rfl,E1.out⟩
theorem number_any (k n s q i : Int) (t0 t1 t2 t3 t4 : Value) (A : Option Addr) (na c : Nat) (B : Option Addr) (m d : Nat) (w : World) : Calls Tryz.prog 57 #[.agg #[.int .i64 k,.int .i64 n,.int .i64 s,.int .i64 q,.int .i64 i,t0,t1,t2,t3,t4,.slice A na c,.slice B m d]] w fun e w' => e = .returned (.bool (winB n (rNumN k).1 (rNumN k).2)) ∧ Ext w w' := by
 have hh : ∀ p : Prop,p ∨ ¬ p := fun p => Classical.em p
 by_cases h0 : k = 0
 ·subst h0
  rw [show rNumN 0 = (-1099511627776,1099511627776) from rfl]
  dsimp only
  unfold winB
  rcases hh (-1099511627776 ≤ n) with h1 | h1
  ·have d1 : decide ((-1099511627776 : Int) ≤ n) = true := decide_eq_true h1
   rcases hh (n ≤ 1099511627776) with h2 | h2
   ·have d2 : decide (n ≤ (1099511627776 : Int)) = true := decide_eq_true h2
    rw [d1,d2]
    clear h1 h2
    obtain ⟨w1,hw1⟩ : ∃ x,x = w.alloc (.cells #[.int .i64 0,.int .i64 n,.int .i64 s,.int .i64 q,.int .i64 i,t0,t1,t2,t3,t4,.slice A na c,.slice B m d] 30) := ⟨_,rfl⟩
    have E1 : Hid (Ext w w1) := hid (by rw [hw1];exact (Ext.refl w).alloc _)
    have B1 : Hid (Blk w1 w.heap.size 30 [.int .i64 0,.int .i64 n,.int .i64 s,.int .i64 q,.int .i64 i,t0,t1,t2,t3,t4,.slice A na c,.slice B m d]) := hid (by rw [hw1];exact Blk.fresh' _ _ _ _ _ rfl rfl)
    go_enter Tryz.func57,Tryz.ntmps57
    go_upto_region 1 with fail
    change Code.wp _ _ _ _ (w.alloc (.cells #[.int .i64 0,.int .i64 n,.int .i64 s,.int .i64 q,.int .i64 i,t0,t1,t2,t3,t4,.slice A na c,.slice B m d] 30))
    rw [← hw1]
    clear hw1
    have c0 := B1.out.cell 0
    have c1 := B1.out.cell 1
    go_wp2_with fail
    go_ret
    exact ⟨rfl,E1.out⟩
   ·have d2 : decide (n ≤ (1099511627776 : Int)) = false := decide_eq_false h2
    rw [d1,d2]
    clear h1 h2
    obtain ⟨w1,hw1⟩ : ∃ x,x = w.alloc (.cells #[.int .i64 0,.int .i64 n,.int .i64 s,.int .i64 q,.int .i64 i,t0,t1,t2,t3,t4,.slice A na c,.slice B m d] 30) := ⟨_,rfl⟩
    have E1 : Hid (Ext w w1) := hid (by rw [hw1];exact (Ext.refl w).alloc _)
    have B1 : Hid (Blk w1 w.heap.size 30 [.int .i64 0,.int .i64 n,.int .i64 s,.int .i64 q,.int .i64 i,t0,t1,t2,t3,t4,.slice A na c,.slice B m d]) := hid (by rw [hw1];exact Blk.fresh' _ _ _ _ _ rfl rfl)
    go_enter Tryz.func57,Tryz.ntmps57
    go_upto_region 1 with fail
    change Code.wp _ _ _ _ (w.alloc (.cells #[.int .i64 0,.int .i64 n,.int .i64 s,.int .i64 q,.int .i64 i,t0,t1,t2,t3,t4,.slice A na c,.slice B m d] 30))
    rw [← hw1]
    clear hw1
    have c0 := B1.out.cell 0
    have c1 := B1.out.cell 1
    go_wp2_with fail
    go_ret
    exact ⟨rfl,E1.out⟩
  ·have d1 : decide ((-1099511627776 : Int) ≤ n) = false := decide_eq_false h1
   rw [d1]
   clear h1
   obtain ⟨w1,hw1⟩ : ∃ x,x = w.alloc (.cells #[.int .i64 0,.int .i64 n,.int .i64 s,.int .i64 q,.int .i64 i,t0,t1,t2,t3,t4,.slice A na c,.slice B m d] 30) := ⟨_,rfl⟩
   have E1 : Hid (Ext w w1) := hid (by rw [hw1];exact (Ext.refl w).alloc _)
   have B1 : Hid (Blk w1 w.heap.size 30 [.int .i64 0,.int .i64 n,.int .i64 s,.int .i64 q,.int .i64 i,t0,t1,t2,t3,t4,.slice A na c,.slice B m d]) := hid (by rw [hw1];exact Blk.fresh' _ _ _ _ _ rfl rfl)
   go_enter Tryz.func57,Tryz.ntmps57
   go_upto_region 1 with fail
   change Code.wp _ _ _ _ (w.alloc (.cells #[.int .i64 0,.int .i64 n,.int .i64 s,.int .i64 q,.int .i64 i,t0,t1,t2,t3,t4,.slice A na c,.slice B m d] 30))
   rw [← hw1]
   clear hw1
   have c0 := B1.out.cell 0
   have c1 := B1.out.cell 1
   go_wp2_with fail
   go_ret
   exact ⟨rfl,E1.out⟩
 by_cases h1 : k = 1
 ·subst h1
  rw [show rNumN 1 = (0,1) from rfl]
  dsimp only
  unfold winB
  rcases hh (0 ≤ n) with h1 | h1
  ·have d1 : decide ((0 : Int) ≤ n) = true := decide_eq_true h1
   rcases hh (n ≤ 1) with h2 | h2
   ·have d2 : decide (n ≤ (1 : Int)) = true := decide_eq_true h2
    rw [d1,d2]
    clear h1 h2
    obtain ⟨w1,hw1⟩ : ∃ x,x = w.alloc (.cells #[.int .i64 1,.int .i64 n,.int .i64 s,.int .i64 q,.int .i64 i,t0,t1,t2,t3,t4,.slice A na c,.slice B m d] 30) := ⟨_,rfl⟩
    have E1 : Hid (Ext w w1) := hid (by rw [hw1];exact (Ext.refl w).alloc _)
    have B1 : Hid (Blk w1 w.heap.size 30 [.int .i64 1,.int .i64 n,.int .i64 s,.int .i64 q,.int .i64 i,t0,t1,t2,t3,t4,.slice A na c,.slice B m d]) := hid (by rw [hw1];exact Blk.fresh' _ _ _ _ _ rfl rfl)
    go_enter Tryz.func57,Tryz.ntmps57
    go_upto_region 1 with fail
    change Code.wp _ _ _ _ (w.alloc (.cells #[.int .i64 1,.int .i64 n,.int .i64 s,.int .i64 q,.int .i64 i,t0,t1,t2,t3,t4,.slice A na c,.slice B m d] 30))
    rw [← hw1]
    clear hw1
    have c0 := B1.out.cell 0
    have c1 := B1.out.cell 1
    go_wp2_with fail
    go_ret
    exact ⟨rfl,E1.out⟩
   ·have d2 : decide (n ≤ (1 : Int)) = false := decide_eq_false h2
    rw [d1,d2]
    clear h1 h2
    obtain ⟨w1,hw1⟩ : ∃ x,x = w.alloc (.cells #[.int .i64 1,.int .i64 n,.int .i64 s,.int .i64 q,.int .i64 i,t0,t1,t2,t3,t4,.slice A na c,.slice B m d] 30) := ⟨_,rfl⟩
    have E1 : Hid (Ext w w1) := hid (by rw [hw1];exact (Ext.refl w).alloc _)
    have B1 : Hid (Blk w1 w.heap.size 30 [.int .i64 1,.int .i64 n,.int .i64 s,.int .i64 q,.int .i64 i,t0,t1,t2,t3,t4,.slice A na c,.slice B m d]) := hid (by rw [hw1];exact Blk.fresh' _ _ _ _ _ rfl rfl)
    go_enter Tryz.func57,Tryz.ntmps57
    go_upto_region 1 with fail
    change Code.wp _ _ _ _ (w.alloc (.cells #[.int .i64 1,.int .i64 n,.int .i64 s,.int .i64 q,.int .i64 i,t0,t1,t2,t3,t4,.slice A na c,.slice B m d] 30))
    rw [← hw1]
    clear hw1
    have c0 := B1.out.cell 0
    have c1 := B1.out.cell 1
    go_wp2_with fail
    go_ret
    exact ⟨rfl,E1.out⟩
  ·have d1 : decide ((0 : Int) ≤ n) = false := decide_eq_false h1
   rw [d1]
   clear h1
   obtain ⟨w1,hw1⟩ : ∃ x,x = w.alloc (.cells #[.int .i64 1,.int .i64 n,.int .i64 s,.int .i64 q,.int .i64 i,t0,t1,t2,t3,t4,.slice A na c,.slice B m d] 30) := ⟨_,rfl⟩
   have E1 : Hid (Ext w w1) := hid (by rw [hw1];exact (Ext.refl w).alloc _)
   have B1 : Hid (Blk w1 w.heap.size 30 [.int .i64 1,.int .i64 n,.int .i64 s,.int .i64 q,.int .i64 i,t0,t1,t2,t3,t4,.slice A na c,.slice B m d]) := hid (by rw [hw1];exact Blk.fresh' _ _ _ _ _ rfl rfl)
   go_enter Tryz.func57,Tryz.ntmps57
   go_upto_region 1 with fail
   change Code.wp _ _ _ _ (w.alloc (.cells #[.int .i64 1,.int .i64 n,.int .i64 s,.int .i64 q,.int .i64 i,t0,t1,t2,t3,t4,.slice A na c,.slice B m d] 30))
   rw [← hw1]
   clear hw1
   have c0 := B1.out.cell 0
   have c1 := B1.out.cell 1
   go_wp2_with fail
   go_ret
   exact ⟨rfl,E1.out⟩
 by_cases h2 : k = 2
 ·subst h2
  rw [show rNumN 2 = (0,7) from rfl]
  dsimp only
  unfold winB
  rcases hh (0 ≤ n) with h1 | h1
  ·have d1 : decide ((0 : Int) ≤ n) = true := decide_eq_true h1
   rcases hh (n ≤ 7) with h2 | h2
   ·have d2 : decide (n ≤ (7 : Int)) = true := decide_eq_true h2
    rw [d1,d2]
    clear h1 h2
    obtain ⟨w1,hw1⟩ : ∃ x,x = w.alloc (.cells #[.int .i64 2,.int .i64 n,.int .i64 s,.int .i64 q,.int .i64 i,t0,t1,t2,t3,t4,.slice A na c,.slice B m d] 30) := ⟨_,rfl⟩
    have E1 : Hid (Ext w w1) := hid (by rw [hw1];exact (Ext.refl w).alloc _)
    have B1 : Hid (Blk w1 w.heap.size 30 [.int .i64 2,.int .i64 n,.int .i64 s,.int .i64 q,.int .i64 i,t0,t1,t2,t3,t4,.slice A na c,.slice B m d]) := hid (by rw [hw1];exact Blk.fresh' _ _ _ _ _ rfl rfl)
    go_enter Tryz.func57,Tryz.ntmps57
    go_upto_region 1 with fail
    change Code.wp _ _ _ _ (w.alloc (.cells #[.int .i64 2,.int .i64 n,.int .i64 s,.int .i64 q,.int .i64 i,t0,t1,t2,t3,t4,.slice A na c,.slice B m d] 30))
    rw [← hw1]
    clear hw1
    have c0 := B1.out.cell 0
    have c1 := B1.out.cell 1
    go_wp2_with fail
    go_ret
    exact ⟨rfl,E1.out⟩
   ·have d2 : decide (n ≤ (7 : Int)) = false := decide_eq_false h2
    rw [d1,d2]
    clear h1 h2
    obtain ⟨w1,hw1⟩ : ∃ x,x = w.alloc (.cells #[.int .i64 2,.int .i64 n,.int .i64 s,.int .i64 q,.int .i64 i,t0,t1,t2,t3,t4,.slice A na c,.slice B m d] 30) := ⟨_,rfl⟩
    have E1 : Hid (Ext w w1) := hid (by rw [hw1];exact (Ext.refl w).alloc _)
    have B1 : Hid (Blk w1 w.heap.size 30 [.int .i64 2,.int .i64 n,.int .i64 s,.int .i64 q,.int .i64 i,t0,t1,t2,t3,t4,.slice A na c,.slice B m d]) := hid (by rw [hw1];exact Blk.fresh' _ _ _ _ _ rfl rfl)
    go_enter Tryz.func57,Tryz.ntmps57
    go_upto_region 1 with fail
    change Code.wp _ _ _ _ (w.alloc (.cells #[.int .i64 2,.int .i64 n,.int .i64 s,.int .i64 q,.int .i64 i,t0,t1,t2,t3,t4,.slice A na c,.slice B m d] 30))
    rw [← hw1]
    clear hw1
    have c0 := B1.out.cell 0
    have c1 := B1.out.cell 1
    go_wp2_with fail
    go_ret
    exact ⟨rfl,E1.out⟩
  ·have d1 : decide ((0 : Int) ≤ n) = false := decide_eq_false h1
   rw [d1]
   clear h1
   obtain ⟨w1,hw1⟩ : ∃ x,x = w.alloc (.cells #[.int .i64 2,.int .i64 n,.int .i64 s,.int .i64 q,.int .i64 i,t0,t1,t2,t3,t4,.slice A na c,.slice B m d] 30) := ⟨_,rfl⟩
   have E1 : Hid (Ext w w1) := hid (by rw [hw1];exact (Ext.refl w).alloc _)
   have B1 : Hid (Blk w1 w.heap.size 30 [.int .i64 2,.int .i64 n,.int .i64 s,.int .i64 q,.int .i64 i,t0,t1,t2,t3,t4,.slice A na c,.slice B m d]) := hid (by rw [hw1];exact Blk.fresh' _ _ _ _ _ rfl rfl)
   go_enter Tryz.func57,Tryz.ntmps57
   go_upto_region 1 with fail
   change Code.wp _ _ _ _ (w.alloc (.cells #[.int .i64 2,.int .i64 n,.int .i64 s,.int .i64 q,.int .i64 i,t0,t1,t2,t3,t4,.slice A na c,.slice B m d] 30))
   rw [← hw1]
   clear hw1
   have c0 := B1.out.cell 0
   have c1 := B1.out.cell 1
   go_wp2_with fail
   go_ret
   exact ⟨rfl,E1.out⟩
 by_cases h4 : k = 4
 ·subst h4
  rw [show rNumN 4 = (0,11) from rfl]
  dsimp only
  unfold winB
  rcases hh (0 ≤ n) with h1 | h1
  ·have d1 : decide ((0 : Int) ≤ n) = true := decide_eq_true h1
   rcases hh (n ≤ 11) with h2 | h2
   ·have d2 : decide (n ≤ (11 : Int)) = true := decide_eq_true h2
    rw [d1,d2]
    clear h1 h2
    obtain ⟨w1,hw1⟩ : ∃ x,x = w.alloc (.cells #[.int .i64 4,.int .i64 n,.int .i64 s,.int .i64 q,.int .i64 i,t0,t1,t2,t3,t4,.slice A na c,.slice B m d] 30) := ⟨_,rfl⟩
    have E1 : Hid (Ext w w1) := hid (by rw [hw1];exact (Ext.refl w).alloc _)
    have B1 : Hid (Blk w1 w.heap.size 30 [.int .i64 4,.int .i64 n,.int .i64 s,.int .i64 q,.int .i64 i,t0,t1,t2,t3,t4,.slice A na c,.slice B m d]) := hid (by rw [hw1];exact Blk.fresh' _ _ _ _ _ rfl rfl)
    go_enter Tryz.func57,Tryz.ntmps57
    go_upto_region 1 with fail
    change Code.wp _ _ _ _ (w.alloc (.cells #[.int .i64 4,.int .i64 n,.int .i64 s,.int .i64 q,.int .i64 i,t0,t1,t2,t3,t4,.slice A na c,.slice B m d] 30))
    rw [← hw1]
    clear hw1
    have c0 := B1.out.cell 0
    have c1 := B1.out.cell 1
    go_wp2_with fail
    go_ret
    exact ⟨rfl,E1.out⟩
   ·have d2 : decide (n ≤ (11 : Int)) = false := decide_eq_false h2
    rw [d1,d2]
    clear h1 h2
    obtain ⟨w1,hw1⟩ : ∃ x,x = w.alloc (.cells #[.int .i64 4,.int .i64 n,.int .i64 s,.int .i64 q,.int .i64 i,t0,t1,t2,t3,t4,.slice A na c,.slice B m d] 30) := ⟨_,rfl⟩
    have E1 : Hid (Ext w w1) := hid (by rw [hw1];exact (Ext.refl w).alloc _)
    have B1 : Hid (Blk w1 w.heap.size 30 [.int .i64 4,.int .i64 n,.int .i64 s,.int .i64 q,.int .i64 i,t0,t1,t2,t3,t4,.slice A na c,.slice B m d]) := hid (by rw [hw1];exact Blk.fresh' _ _ _ _ _ rfl rfl)
    go_enter Tryz.func57,Tryz.ntmps57
    go_upto_region 1 with fail
    change Code.wp _ _ _ _ (w.alloc (.cells #[.int .i64 4,.int .i64 n,.int .i64 s,.int .i64 q,.int .i64 i,t0,t1,t2,t3,t4,.slice A na c,.slice B m d] 30))
    rw [← hw1]
    clear hw1
    have c0 := B1.out.cell 0
    have c1 := B1.out.cell 1
    go_wp2_with fail
    go_ret
    exact ⟨rfl,E1.out⟩
  ·have d1 : decide ((0 : Int) ≤ n) = false := decide_eq_false h1
   rw [d1]
   clear h1
   obtain ⟨w1,hw1⟩ : ∃ x,x = w.alloc (.cells #[.int .i64 4,.int .i64 n,.int .i64 s,.int .i64 q,.int .i64 i,t0,t1,t2,t3,t4,.slice A na c,.slice B m d] 30) := ⟨_,rfl⟩
   have E1 : Hid (Ext w w1) := hid (by rw [hw1];exact (Ext.refl w).alloc _)
   have B1 : Hid (Blk w1 w.heap.size 30 [.int .i64 4,.int .i64 n,.int .i64 s,.int .i64 q,.int .i64 i,t0,t1,t2,t3,t4,.slice A na c,.slice B m d]) := hid (by rw [hw1];exact Blk.fresh' _ _ _ _ _ rfl rfl)
   go_enter Tryz.func57,Tryz.ntmps57
   go_upto_region 1 with fail
   change Code.wp _ _ _ _ (w.alloc (.cells #[.int .i64 4,.int .i64 n,.int .i64 s,.int .i64 q,.int .i64 i,t0,t1,t2,t3,t4,.slice A na c,.slice B m d] 30))
   rw [← hw1]
   clear hw1
   have c0 := B1.out.cell 0
   have c1 := B1.out.cell 1
   go_wp2_with fail
   go_ret
   exact ⟨rfl,E1.out⟩
 by_cases h8 : k = 8
 ·subst h8
  rw [show rNumN 8 = (0,5) from rfl]
  dsimp only
  unfold winB
  rcases hh (0 ≤ n) with h1 | h1
  ·have d1 : decide ((0 : Int) ≤ n) = true := decide_eq_true h1
   rcases hh (n ≤ 5) with h2 | h2
   ·have d2 : decide (n ≤ (5 : Int)) = true := decide_eq_true h2
    rw [d1,d2]
    clear h1 h2
    obtain ⟨w1,hw1⟩ : ∃ x,x = w.alloc (.cells #[.int .i64 8,.int .i64 n,.int .i64 s,.int .i64 q,.int .i64 i,t0,t1,t2,t3,t4,.slice A na c,.slice B m d] 30) := ⟨_,rfl⟩
    have E1 : Hid (Ext w w1) := hid (by rw [hw1];exact (Ext.refl w).alloc _)
    have B1 : Hid (Blk w1 w.heap.size 30 [.int .i64 8,.int .i64 n,.int .i64 s,.int .i64 q,.int .i64 i,t0,t1,t2,t3,t4,.slice A na c,.slice B m d]) := hid (by rw [hw1];exact Blk.fresh' _ _ _ _ _ rfl rfl)
    go_enter Tryz.func57,Tryz.ntmps57
    go_upto_region 1 with fail
    change Code.wp _ _ _ _ (w.alloc (.cells #[.int .i64 8,.int .i64 n,.int .i64 s,.int .i64 q,.int .i64 i,t0,t1,t2,t3,t4,.slice A na c,.slice B m d] 30))
    rw [← hw1]
    clear hw1
    have c0 := B1.out.cell 0
    have c1 := B1.out.cell 1
    go_wp2_with fail
    go_ret
    exact ⟨rfl,E1.out⟩
   ·have d2 : decide (n ≤ (5 : Int)) = false := decide_eq_false h2
    rw [d1,d2]
    clear h1 h2
    obtain ⟨w1,hw1⟩ : ∃ x,x = w.alloc (.cells #[.int .i64 8,.int .i64 n,.int .i64 s,.int .i64 q,.int .i64 i,t0,t1,t2,t3,t4,.slice A na c,.slice B m d] 30) := ⟨_,rfl⟩
    have E1 : Hid (Ext w w1) := hid (by rw [hw1];exact (Ext.refl w).alloc _)
    have B1 : Hid (Blk w1 w.heap.size 30 [.int .i64 8,.int .i64 n,.int .i64 s,.int .i64 q,.int .i64 i,t0,t1,t2,t3,t4,.slice A na c,.slice B m d]) := hid (by rw [hw1];exact Blk.fresh' _ _ _ _ _ rfl rfl)
    go_enter Tryz.func57,Tryz.ntmps57
    go_upto_region 1 with fail
    change Code.wp _ _ _ _ (w.alloc (.cells #[.int .i64 8,.int .i64 n,.int .i64 s,.int .i64 q,.int .i64 i,t0,t1,t2,t3,t4,.slice A na c,.slice B m d] 30))
    rw [← hw1]
    clear hw1
    have c0 := B1.out.cell 0
    have c1 := B1.out.cell 1
    go_wp2_with fail
    go_ret
    exact ⟨rfl,E1.out⟩
  ·have d1 : decide ((0 : Int) ≤ n) = false := decide_eq_false h1
   rw [d1]
   clear h1
   obtain ⟨w1,hw1⟩ : ∃ x,x = w.alloc (.cells #[.int .i64 8,.int .i64 n,.int .i64 s,.int .i64 q,.int .i64 i,t0,t1,t2,t3,t4,.slice A na c,.slice B m d] 30) := ⟨_,rfl⟩
   have E1 : Hid (Ext w w1) := hid (by rw [hw1];exact (Ext.refl w).alloc _)
   have B1 : Hid (Blk w1 w.heap.size 30 [.int .i64 8,.int .i64 n,.int .i64 s,.int .i64 q,.int .i64 i,t0,t1,t2,t3,t4,.slice A na c,.slice B m d]) := hid (by rw [hw1];exact Blk.fresh' _ _ _ _ _ rfl rfl)
   go_enter Tryz.func57,Tryz.ntmps57
   go_upto_region 1 with fail
   change Code.wp _ _ _ _ (w.alloc (.cells #[.int .i64 8,.int .i64 n,.int .i64 s,.int .i64 q,.int .i64 i,t0,t1,t2,t3,t4,.slice A na c,.slice B m d] 30))
   rw [← hw1]
   clear hw1
   have c0 := B1.out.cell 0
   have c1 := B1.out.cell 1
   go_wp2_with fail
   go_ret
   exact ⟨rfl,E1.out⟩
 by_cases h9 : k = 9
 ·subst h9
  rw [show rNumN 9 = (0,5) from rfl]
  dsimp only
  unfold winB
  rcases hh (0 ≤ n) with h1 | h1
  ·have d1 : decide ((0 : Int) ≤ n) = true := decide_eq_true h1
   rcases hh (n ≤ 5) with h2 | h2
   ·have d2 : decide (n ≤ (5 : Int)) = true := decide_eq_true h2
    rw [d1,d2]
    clear h1 h2
    obtain ⟨w1,hw1⟩ : ∃ x,x = w.alloc (.cells #[.int .i64 9,.int .i64 n,.int .i64 s,.int .i64 q,.int .i64 i,t0,t1,t2,t3,t4,.slice A na c,.slice B m d] 30) := ⟨_,rfl⟩
    have E1 : Hid (Ext w w1) := hid (by rw [hw1];exact (Ext.refl w).alloc _)
    have B1 : Hid (Blk w1 w.heap.size 30 [.int .i64 9,.int .i64 n,.int .i64 s,.int .i64 q,.int .i64 i,t0,t1,t2,t3,t4,.slice A na c,.slice B m d]) := hid (by rw [hw1];exact Blk.fresh' _ _ _ _ _ rfl rfl)
    go_enter Tryz.func57,Tryz.ntmps57
    go_upto_region 1 with fail
    change Code.wp _ _ _ _ (w.alloc (.cells #[.int .i64 9,.int .i64 n,.int .i64 s,.int .i64 q,.int .i64 i,t0,t1,t2,t3,t4,.slice A na c,.slice B m d] 30))
    rw [← hw1]
    clear hw1
    have c0 := B1.out.cell 0
    have c1 := B1.out.cell 1
    go_wp2_with fail
    go_ret
    exact ⟨rfl,E1.out⟩
   ·have d2 : decide (n ≤ (5 : Int)) = false := decide_eq_false h2
    rw [d1,d2]
    clear h1 h2
    obtain ⟨w1,hw1⟩ : ∃ x,x = w.alloc (.cells #[.int .i64 9,.int .i64 n,.int .i64 s,.int .i64 q,.int .i64 i,t0,t1,t2,t3,t4,.slice A na c,.slice B m d] 30) := ⟨_,rfl⟩
    have E1 : Hid (Ext w w1) := hid (by rw [hw1];exact (Ext.refl w).alloc _)
    have B1 : Hid (Blk w1 w.heap.size 30 [.int .i64 9,.int .i64 n,.int .i64 s,.int .i64 q,.int .i64 i,t0,t1,t2,t3,t4,.slice A na c,.slice B m d]) := hid (by rw [hw1];exact Blk.fresh' _ _ _ _ _ rfl rfl)
    go_enter Tryz.func57,Tryz.ntmps57
    go_upto_region 1 with fail
    change Code.wp _ _ _ _ (w.alloc (.cells #[.int .i64 9,.int .i64 n,.int .i64 s,.int .i64 q,.int .i64 i,t0,t1,t2,t3,t4,.slice A na c,.slice B m d] 30))
    rw [← hw1]
    clear hw1
    have c0 := B1.out.cell 0
    have c1 := B1.out.cell 1
    go_wp2_with fail
    go_ret
    exact ⟨rfl,E1.out⟩
  ·have d1 : decide ((0 : Int) ≤ n) = false := decide_eq_false h1
   rw [d1]
   clear h1
   obtain ⟨w1,hw1⟩ : ∃ x,x = w.alloc (.cells #[.int .i64 9,.int .i64 n,.int .i64 s,.int .i64 q,.int .i64 i,t0,t1,t2,t3,t4,.slice A na c,.slice B m d] 30) := ⟨_,rfl⟩
   have E1 : Hid (Ext w w1) := hid (by rw [hw1];exact (Ext.refl w).alloc _)
   have B1 : Hid (Blk w1 w.heap.size 30 [.int .i64 9,.int .i64 n,.int .i64 s,.int .i64 q,.int .i64 i,t0,t1,t2,t3,t4,.slice A na c,.slice B m d]) := hid (by rw [hw1];exact Blk.fresh' _ _ _ _ _ rfl rfl)
   go_enter Tryz.func57,Tryz.ntmps57
   go_upto_region 1 with fail
   change Code.wp _ _ _ _ (w.alloc (.cells #[.int .i64 9,.int .i64 n,.int .i64 s,.int .i64 q,.int .i64 i,t0,t1,t2,t3,t4,.slice A na c,.slice B m d] 30))
   rw [← hw1]
   clear hw1
   have c0 := B1.out.cell 0
   have c1 := B1.out.cell 1
   go_wp2_with fail
   go_ret
   exact ⟨rfl,E1.out⟩
 have e0 : (k == (0 : Int)) = false := beq_eq_false_iff_ne.2 h0
 have e1 : (k == (1 : Int)) = false := beq_eq_false_iff_ne.2 h1
 have e2 : (k == (2 : Int)) = false := beq_eq_false_iff_ne.2 h2
 have e4 : (k == (4 : Int)) = false := beq_eq_false_iff_ne.2 h4
 have e8 : (k == (8 : Int)) = false := beq_eq_false_iff_ne.2 h8
 have e9 : (k == (9 : Int)) = false := beq_eq_false_iff_ne.2 h9
 have hkn : rNumN k = (0,0) := by
  unfold rNumN
  rw [if_neg h0,if_neg h1,if_neg h2,if_neg h4,if_neg (by omega)]
 rw [hkn]
 dsimp only
 clear h0 h1 h2 h4 h8 h9 hkn
 unfold winB
 rcases hh (0 ≤ n) with h1 | h1
 ·have d1 : decide ((0 : Int) ≤ n) = true := decide_eq_true h1
  rcases hh (n ≤ 0) with h2 | h2
  ·have d2 : decide (n ≤ (0 : Int)) = true := decide_eq_true h2
   rw [d1,d2]
   clear h1 h2
   obtain ⟨w1,hw1⟩ : ∃ x,x = w.alloc (.cells #[.int .i64 k,.int .i64 n,.int .i64 s,.int .i64 q,.int .i64 i,t0,t1,t2,t3,t4,.slice A na c,.slice B m d] 30) := ⟨_,rfl⟩
   have E1 : Hid (Ext w w1) := hid (by rw [hw1];exact (Ext.refl w).alloc _)
   have B1 : Hid (Blk w1 w.heap.size 30 [.int .i64 k,.int .i64 n,.int .i64 s,.int .i64 q,.int .i64 i,t0,t1,t2,t3,t4,.slice A na c,.slice B m d]) := hid (by rw [hw1];exact Blk.fresh' _ _ _ _ _ rfl rfl)
   go_enter Tryz.func57,Tryz.ntmps57
   go_upto_region 1 with fail
   change Code.wp _ _ _ _ (w.alloc (.cells #[.int .i64 k,.int .i64 n,.int .i64 s,.int .i64 q,.int .i64 i,t0,t1,t2,t3,t4,.slice A na c,.slice B m d] 30))
   rw [← hw1]
   clear hw1
   have c0 := B1.out.cell 0
   have c1 := B1.out.cell 1
   go_wp2_with fail
   go_ret
   exact ⟨rfl,E1.out⟩
  ·have d2 : decide (n ≤ (0 : Int)) = false := decide_eq_false h2
   rw [d1,d2]
   clear h1 h2
   obtain ⟨w1,hw1⟩ : ∃ x,x = w.alloc (.cells #[.int .i64 k,.int .i64 n,.int .i64 s,.int .i64 q,.int .i64 i,t0,t1,t2,t3,t4,.slice A na c,.slice B m d] 30) := ⟨_,rfl⟩
   have E1 : Hid (Ext w w1) := hid (by rw [hw1];exact (Ext.refl w).alloc _)
   have B1 : Hid (Blk w1 w.heap.size 30 [.int .i64 k,.int .i64 n,.int .i64 s,.int .i64 q,.int .i64 i,t0,t1,t2,t3,t4,.slice A na c,.slice B m d]) := hid (by rw [hw1];exact Blk.fresh' _ _ _ _ _ rfl rfl)
   go_enter Tryz.func57,Tryz.ntmps57
   go_upto_region 1 with fail
   change Code.wp _ _ _ _ (w.alloc (.cells #[.int .i64 k,.int .i64 n,.int .i64 s,.int .i64 q,.int .i64 i,t0,t1,t2,t3,t4,.slice A na c,.slice B m d] 30))
   rw [← hw1]
   clear hw1
   have c0 := B1.out.cell 0
   have c1 := B1.out.cell 1
   go_wp2_with fail
   go_ret
   exact ⟨rfl,E1.out⟩
 ·have d1 : decide ((0 : Int) ≤ n) = false := decide_eq_false h1
  rw [d1]
  clear h1
  obtain ⟨w1,hw1⟩ : ∃ x,x = w.alloc (.cells #[.int .i64 k,.int .i64 n,.int .i64 s,.int .i64 q,.int .i64 i,t0,t1,t2,t3,t4,.slice A na c,.slice B m d] 30) := ⟨_,rfl⟩
  have E1 : Hid (Ext w w1) := hid (by rw [hw1];exact (Ext.refl w).alloc _)
  have B1 : Hid (Blk w1 w.heap.size 30 [.int .i64 k,.int .i64 n,.int .i64 s,.int .i64 q,.int .i64 i,t0,t1,t2,t3,t4,.slice A na c,.slice B m d]) := hid (by rw [hw1];exact Blk.fresh' _ _ _ _ _ rfl rfl)
  go_enter Tryz.func57,Tryz.ntmps57
  go_upto_region 1 with fail
  change Code.wp _ _ _ _ (w.alloc (.cells #[.int .i64 k,.int .i64 n,.int .i64 s,.int .i64 q,.int .i64 i,t0,t1,t2,t3,t4,.slice A na c,.slice B m d] 30))
  rw [← hw1]
  clear hw1
  have c0 := B1.out.cell 0
  have c1 := B1.out.cell 1
  go_wp2_with fail
  go_ret
  exact ⟨rfl,E1.out⟩
theorem uses_any (k : Int) (w : World) : Calls Tryz.prog 31 #[.int .i64 k] w fun e w' => e = .returned (.tuple #[.string (usesS k),.int .i64 (usesN k),.int .i64 (usesM k)]) ∧ w = w' := by
 by_cases h0 : k = 0
 ·subst h0
  go_enter Tryz.func31,Tryz.ntmps31
  go_wp2_with fail
  go_ret3
  exact ⟨rfl,rfl⟩
 by_cases h1 : k = 1
 ·subst h1
  go_enter Tryz.func31,Tryz.ntmps31
  go_wp2_with fail
  go_ret3
  exact ⟨rfl,rfl⟩
 by_cases h2 : k = 2
 ·subst h2
  go_enter Tryz.func31,Tryz.ntmps31
  go_wp2_with fail
  go_ret3
  exact ⟨rfl,rfl⟩
 by_cases h3 : k = 3
 ·subst h3
  go_enter Tryz.func31,Tryz.ntmps31
  go_wp2_with fail
  go_ret3
  exact ⟨rfl,rfl⟩
 by_cases h4 : k = 4
 ·subst h4
  go_enter Tryz.func31,Tryz.ntmps31
  go_wp2_with fail
  go_ret3
  exact ⟨rfl,rfl⟩
 by_cases h5 : k = 5
 ·subst h5
  go_enter Tryz.func31,Tryz.ntmps31
  go_wp2_with fail
  go_ret3
  exact ⟨rfl,rfl⟩
 by_cases h6 : k = 6
 ·subst h6
  go_enter Tryz.func31,Tryz.ntmps31
  go_wp2_with fail
  go_ret3
  exact ⟨rfl,rfl⟩
 by_cases h11 : k = 11
 ·subst h11
  go_enter Tryz.func31,Tryz.ntmps31
  go_wp2_with fail
  go_ret3
  exact ⟨rfl,rfl⟩
 by_cases h7 : k = 7
 ·subst h7
  go_enter Tryz.func31,Tryz.ntmps31
  go_wp2_with fail
  go_ret3
  exact ⟨rfl,rfl⟩
 by_cases h8 : k = 8
 ·subst h8
  go_enter Tryz.func31,Tryz.ntmps31
  go_wp2_with fail
  go_ret3
  exact ⟨rfl,rfl⟩
 by_cases h9 : k = 9
 ·subst h9
  go_enter Tryz.func31,Tryz.ntmps31
  go_wp2_with fail
  go_ret3
  exact ⟨rfl,rfl⟩
 by_cases h10 : k = 10
 ·subst h10
  go_enter Tryz.func31,Tryz.ntmps31
  go_wp2_with fail
  go_ret3
  exact ⟨rfl,rfl⟩
 by_cases h12 : k = 12
 ·subst h12
  go_enter Tryz.func31,Tryz.ntmps31
  go_wp2_with fail
  go_ret3
  exact ⟨rfl,rfl⟩
 by_cases h13 : k = 13
 ·subst h13
  go_enter Tryz.func31,Tryz.ntmps31
  go_wp2_with fail
  go_ret3
  exact ⟨rfl,rfl⟩
 have e0 : (k == (0 : Int)) = false := beq_eq_false_iff_ne.2 h0
 have e1 : (k == (1 : Int)) = false := beq_eq_false_iff_ne.2 h1
 have e2 : (k == (2 : Int)) = false := beq_eq_false_iff_ne.2 h2
 have e3 : (k == (3 : Int)) = false := beq_eq_false_iff_ne.2 h3
 have e4 : (k == (4 : Int)) = false := beq_eq_false_iff_ne.2 h4
 have e5 : (k == (5 : Int)) = false := beq_eq_false_iff_ne.2 h5
 have e6 : (k == (6 : Int)) = false := beq_eq_false_iff_ne.2 h6
 have e11 : (k == (11 : Int)) = false := beq_eq_false_iff_ne.2 h11
 have e7 : (k == (7 : Int)) = false := beq_eq_false_iff_ne.2 h7
 have e8 : (k == (8 : Int)) = false := beq_eq_false_iff_ne.2 h8
 have e9 : (k == (9 : Int)) = false := beq_eq_false_iff_ne.2 h9
 have e10 : (k == (10 : Int)) = false := beq_eq_false_iff_ne.2 h10
 have e12 : (k == (12 : Int)) = false := beq_eq_false_iff_ne.2 h12
 have e13 : (k == (13 : Int)) = false := beq_eq_false_iff_ne.2 h13
 rw [uses_none (show k < 0 ∨ 14 ≤ k by omega),show usesN k = 0 from (by unfold usesN;rw [if_neg h1,if_neg h2,if_neg h3,if_neg h7,if_neg h8]),show usesM k = 0 from (by unfold usesM;rw [if_neg h3,if_neg h9])]
 clear h0 h1 h2 h3 h4 h5 h6 h11 h7 h8 h9 h10 h12 h13
 go_enter Tryz.func31,Tryz.ntmps31
 go_wp2_with fail
 go_ret3
 exact ⟨rfl,rfl⟩
theorem has_iff (s : ByteArray) (c : UInt8) : hasB s c = true ↔ ∃ j,j < s.size ∧ s.data.toList.getD j 0 = c := by
 unfold hasB
 rw [List.contains_iff_mem]
 have hl : s.data.toList.length = s.size := Array.length_toList
 constructor
 ·intro h
  obtain ⟨j,hj,he⟩ := List.getElem_of_mem h
  exact ⟨j,by omega,by rw [List.getD_eq_getElem?_getD,List.getElem?_eq_getElem hj];exact he⟩
 ·rintro ⟨j,hj,he⟩
  rw [List.getD_eq_getElem?_getD,List.getElem?_eq_getElem (by omega)] at he
  rw [← he]
  exact List.getElem_mem _
theorem has_any (s : ByteArray) (c : UInt8) (cv : Int) (w : World) (hc : cv = (c.toNat : Int)) (hn : s.size ≤ 1000000) : Calls Tryz.prog 32 #[.string s,.int .u8 cv] w fun e w' => e = .returned (.bool (hasB s c)) ∧ w = w' := by
 obtain ⟨b,hb⟩ : ∃ b,b = hasB s c := ⟨_,rfl⟩
 have HI : Hid (b = true ↔ ∃ j,j < s.size ∧ s.data.toList.getD j 0 = c) := hid (by rw [hb];exact has_iff s c)
 rw [← hb]
 clear hb
 have hix : ∀ (t : Nat),t < s.size → ∀ W,(Instr.index 9 (.string s) (.int .i64 (t : Int))).run Tryz.prog W = .ok (.int .u8 ((s.data.toList.getD t 0).toNat : Int)) W := fun t ht W => by
  rw [run_index_string W 9 s .i64 (t : Int) Tryz.underlying9,dif_pos ⟨by omega,by omega⟩]
  have e : s[(t : Int).toNat]'(by omega) = s.data.toList.getD t 0 := by
   rw [List.getD_eq_getElem?_getD,List.getElem?_eq_getElem (show t < s.data.toList.length by rw [Array.length_toList];exact ht)]
   rfl
  rw [e]
 have HX := hid hix
 clear hix
 obtain ⟨z,hz⟩ : ∃ z,z = s.size := ⟨_,rfl⟩
 have hs : s.size = z := hz.symm
 rw [hs] at hn HI HX
 clear hz
 have HC := hid hc
 clear hc
 go_enter Tryz.func32,Tryz.ntmps32
 go_wp2_with fail
 go_loop [5] (fun i => ∃ t : Nat,t ≤ z ∧ i = .int .i64 t ∧ ∀ j,j < t → s.data.toList.getD j 0 ≠ c) (fun i => z - (intOf i).toNat)
 case atStart => exact ⟨0,Nat.zero_le _,rfl,fun j hj => by omega⟩
 case round =>
  obtain ⟨t,ht,rfl,hall⟩ := hrel
  have HA := hid hall
  clear hall
  by_cases hlt : t < z
  ·have hx := HX.out t hlt
   obtain ⟨u,hu⟩ : ∃ u,u = s.data.toList.getD t 0 := ⟨_,rfl⟩
   rw [← hu] at hx
   by_cases he : u = c
   ·have HT : Hid (b = true) := hid (HI.out.2 ⟨t,hlt,by rw [← hu];exact he⟩)
    have hq : ((u.toNat : Int) == cv) = true := by rw [beq_iff_eq,HC.out,he]
    clear hu he
    go_wp2_with fail
    go_ret
    exact ⟨by rw [HT.out];rfl,rfl⟩
   ·have hq : ((u.toNat : Int) == cv) = false := by
     rw [beq_eq_false_iff_ne,HC.out]
     intro h
     exact he (UInt8.toNat_inj.1 (by omega))
    have HA2 : Hid (∀ j,j < t + 1 → s.data.toList.getD j 0 ≠ c) := hid (fun j hj => by
     rcases Nat.lt_or_ge j t with h | h
     ·exact HA.out j h
     ·obtain rfl : j = t := by omega
      rw [← hu]
      exact he)
    clear hu he
    go_wp2_with fail
    go_round
    case rel => exact ⟨t + 1,by omega,by go_num,HA2.out⟩
    case measure => simp [intOf];omega
  ·obtain rfl : t = z := by omega
   have HT : Hid (b = false) := hid (by
    rw [Bool.eq_false_iff]
    intro h
    obtain ⟨j,hj,he⟩ := HI.out.1 h
    exact HA.out j hj he)
   go_wp2_with fail
   go_ret
   exact ⟨by rw [HT.out];rfl,rfl⟩
end Go.Proofs.YtojcmcccahjphaaGreatDoor
