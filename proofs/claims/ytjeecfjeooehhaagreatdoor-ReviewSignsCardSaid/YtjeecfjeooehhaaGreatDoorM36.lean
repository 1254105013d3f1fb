/- The reference's Digits: the same list. Conditions: a digest of 16 bytes. -/
import Derived.Test.YtjeecfjeooehhaaGreatDoorM32
import Derived.Test.YtjeecfjeooehhaaGreatDoorM29
import Derived.Test.YtjeecfjeooehhaaGreatDoorM3
set_option linter.unusedSimpArgs false
set_option linter.unusedVariables false
set_option maxHeartbeats 16000000
set_option maxRecDepth 100000
namespace Go.Proofs.YtjeecfjeooehhaaGreatDoor
open Go.RowKit
open Lib (hid)
theorem sg_int_info : (Tryz.prog.info? 3).map (fun i => (i.zero,i.size,i.bytes)) = some (some (.int .i64 0),1,8) := by kernel_rfl
def preD (d : List Int) (n : Nat) : List Int := (List.range n).map (dg d)
theorem preD_succ (d : List Int) (n : Nat) : preD d (n + 1) = preD d n ++ [dg d n] := by unfold preD;rw [List.range_succ,List.map_append];rfl
theorem i64s_append (a b : List Int) : i64s (a ++ b) = i64s a ++ i64s b := by simp [i64s]
theorem digL_eq (d : List Int) : digL d = preD d 64 ++ [dsum d 64 / 64,dsum d 64 / 16 % 4,dsum d 64 / 4 % 4,dsum d 64 % 4] := by
 have hb := dsum_bd d 64
 refine List.ext_getElem? (fun j => ?_)
 have hp : (preD d 64).length = 64 := by simp [preD]
 by_cases hj : j < 68
 ·have h1 := digL_at d hj
  rw [List.getD_eq_getElem?_getD,List.getElem?_eq_getElem (by rw [digL_len];exact hj)] at h1
  rw [List.getElem?_eq_getElem (by rw [digL_len];exact hj)]
  have h2 : (digL d)[j]'(by rw [digL_len];exact hj) = ccell d 4 j := h1
  rw [h2]
  by_cases h64 : j < 64
  ·rw [List.getElem?_append_left (by omega),ccell_lo d h64]
   unfold preD
   rw [List.getElem?_map,List.getElem?_range h64];rfl
  ·rw [List.getElem?_append_right (by omega),hp]
   rcases (show j = 64 ∨ j = 65 ∨ j = 66 ∨ j = 67 by omega) with rfl | rfl | rfl | rfl
   ·have h := ccell_hi d (j := 3) (by decide)
    rw [show 67 - 3 = 64 from rfl] at h
    rw [h]
    show some (dsum d 64 / 64 % 4) = some (dsum d 64 / 64)
    congr 1
    omega
   ·have h := ccell_hi d (j := 2) (by decide)
    rw [show 67 - 2 = 65 from rfl] at h
    rw [h];rfl
   ·have h := ccell_hi d (j := 1) (by decide)
    rw [show 67 - 1 = 66 from rfl] at h
    rw [h];rfl
   ·have h := ccell_hi d (j := 0) (by decide)
    rw [show 67 - 0 = 67 from rfl] at h
    rw [h]
    show some (dsum d 64 / 1 % 4) = some (dsum d 64 % 4)
    rw [Int.ediv_one]
 ·rw [List.getElem?_eq_none (by rw [digL_len];omega),List.getElem?_eq_none (by simp [hp];omega)]
theorem sg_add_at (g j : Nat) : (⟨g,0,none⟩ : Addr).add j = ⟨g,j,none⟩ := by cases j <;> simp [Addr.add]
theorem sg_own_slice {w : World} {b : Nat} {e : TypeId} {size : Nat} {v : Value} {n : Nat} {xs : List Value} (ho : w.ownsRow b e size v n xs) (hn : 0 < n) : ∃ A c,v = .slice A n c := by
 rcases ho.2 with ⟨_,h⟩ | ⟨g,cap,cur,h,_⟩
 ·omega
 ·exact ⟨_,_,h⟩
theorem rdigits_any (d : List Int) (w : World) (hd : d.length = 16) (hb : Byt d) :
  Calls Tryz.prog 98 #[.agg (u8s d).toArray] w fun e w' => ∃ A c,e = .returned (.slice A 68 c) ∧ w'.ownsRow (w.heap.size + 1) 3 1 (.slice A 68 c) 68 (i64s (digL d)) ∧ Ext w w' := by
 obtain ⟨i0,hi,hz0,hz1,hz2⟩ := info_parts sg_int_info
 go_enter Tryz.func98,Tryz.ntmps98
 go_upto_region 3 with fail
 obtain ⟨w1,hw1⟩ : ∃ x,x = w.alloc (.cells (u8s d).toArray 26) := ⟨_,rfl⟩
 change Code.wp _ _ _ _ (w.alloc (.cells (u8s d).toArray 26))
 rw [← hw1]
 have BD : Hid (Blk w1 w.heap.size 26 (u8s d)) := hid (by rw [hw1];exact Blk.fresh _ _ _)
 have E1 : Hid (Ext w w1) := hid (by rw [hw1];exact (Ext.refl w).alloc _)
 clear hw1
 go_wp2_with fail
 go_loopw [3,4,5] (fun o s i wr => ∃ (t : Nat) (A : Option Addr) (c : Nat),t ≤ 16 ∧ i = .int .i64 (t : Int) ∧ s = .int .i64 (dsum d (4 * t)) ∧ o = .slice A (4 * t) c ∧ wr.ownsRow (w.heap.size + 1) 3 1 (.slice A (4 * t) c) (4 * t) (i64s (preD d (4 * t))) ∧ Blk wr w.heap.size 26 (u8s d) ∧ Ext w wr) (fun _ _ i _ => 16 - (intOf i).toNat)
 case atStart => exact ⟨0,none,0,by omega,rfl,rfl,rfl,World.ownsRow_nil _ _ _ _,BD.out,E1.out⟩
 case round =>
  clear BD E1
  obtain ⟨t,A,c,ht,rfl,rfl,rfl,ho,hD,hE⟩ := hrel
  have HO := hid ho;have BD := hid hD;have E1 := hid hE
  clear ho hD hE
  obtain ⟨wo,rfl⟩ : ∃ x : World,x = wr := ⟨_,rfl⟩
  by_cases hlt : t < 16
  ·obtain ⟨x,hx⟩ : ∃ x,x = d.getD t 0 := ⟨_,rfl⟩
   have hxb : 0 ≤ x ∧ x ≤ 255 := by rw [hx];exact hb.at_ t
   have cx : wo.cell? ⟨w.heap.size,t,none⟩ = some (.int .u8 x) := by
    rw [BD.out.cell t,hx]
    simp [u8s,List.getElem?_map,List.getD_eq_getElem?_getD,List.getElem?_eq_getElem (show t < d.length by omega)]
   obtain ⟨x0,x1⟩ := hxb
   have HX := hid hx
   clear hx
   go_upto_region 8 with fail
   obtain ⟨w4,hw4⟩ : ∃ y,y = wo.alloc (.cells #[.int .i64 (x / 64),.int .i64 (x / 16 % 4),.int .i64 (x / 4 % 4),.int .i64 (x % 4)] 3) := ⟨_,rfl⟩
   change Code.wp _ _ _ _ (wo.alloc (.cells #[.int .i64 (x / 64),.int .i64 (x / 16 % 4),.int .i64 (x / 4 % 4),.int .i64 (x % 4)] 3))
   rw [← hw4]
   obtain ⟨g4,hg4⟩ : ∃ g,g = wo.heap.size := ⟨_,rfl⟩
   rw [← hg4]
   have B4 : Hid (Blk w4 g4 3 (i64s [dg d (4 * t),dg d (4 * t + 1),dg d (4 * t + 2),dg d (4 * t + 3)])) := hid (by
    rw [hw4,hg4]
    have e0 : dg d (4 * t) = x / 64 := by unfold dg;rw [show 4 * t / 4 = t by omega,show 4 * t % 4 = 0 by omega,← HX.out];show x / 64 % 4 = x / 64;omega
    have e1 : dg d (4 * t + 1) = x / 16 % 4 := by unfold dg;rw [show (4 * t + 1) / 4 = t by omega,show (4 * t + 1) % 4 = 1 by omega,← HX.out];rfl
    have e2 : dg d (4 * t + 2) = x / 4 % 4 := by unfold dg;rw [show (4 * t + 2) / 4 = t by omega,show (4 * t + 2) % 4 = 2 by omega,← HX.out];rfl
    have e3 : dg d (4 * t + 3) = x % 4 := by unfold dg;rw [show (4 * t + 3) / 4 = t by omega,show (4 * t + 3) % 4 = 3 by omega,← HX.out];show x / 1 % 4 = x % 4;rw [Int.ediv_one]
    rw [e0,e1,e2,e3]
    exact Blk.fresh _ _ _)
   have E4 : Hid (Ext wo w4) := hid (by rw [hw4];exact (Ext.refl wo).alloc _)
   have G4 : Hid (w.heap.size + 1 ≤ g4) := hid (by rw [hg4];have := BD.out.lt;omega)
   have HNO : Hid ((Value.slice A (4 * t) c).ownBlock ≠ some g4) := hid (fun h => by have := (HO.out.lt g4 h).2;omega)
   clear hw4 hg4 cx HX
   go_wp2_with fail
   generalize decide ((t : Int) < 16) = bt
   go_loopw [3,4,8] (fun o s k wr => ∃ (q : Nat) (A : Option Addr) (c : Nat),q ≤ 4 ∧ k = .int .i64 (q : Int) ∧ s = .int .i64 (dsum d (4 * t + q)) ∧ o = .slice A (4 * t + q) c ∧ wr.ownsRow (w.heap.size + 1) 3 1 (.slice A (4 * t + q) c) (4 * t + q) (i64s (preD d (4 * t + q))) ∧ Blk wr w.heap.size 26 (u8s d) ∧ (∀ j,j < 4 → wr.cell? ⟨g4,j,none⟩ = some (.int .i64 (dg d (4 * t + j)))) ∧ (Value.slice A (4 * t + q) c).ownBlock ≠ some g4 ∧ g4 < wr.heap.size ∧ Ext w wr) (fun _ _ k _ => 4 - (intOf k).toNat)
   case atStart => exact ⟨0,A,c,by omega,rfl,rfl,rfl,(Kept.of_ext (F := fun _ => False) E4.out).own HO.out (fun _ _ h => h),BD.out.ext E4.out,fun j hj => by
    rcases (show j = 0 ∨ j = 1 ∨ j = 2 ∨ j = 3 by omega) with rfl | rfl | rfl | rfl
    ·exact B4.out.cell 0
    ·exact B4.out.cell 1
    ·exact B4.out.cell 2
    ·exact B4.out.cell 3,HNO.out,B4.out.lt,E1.out.next E4.out⟩
   case round =>
    clear HO BD E1 E4 B4 HNO
    obtain ⟨q,A2,c2,hq,rfl,rfl,rfl,ho,hD,hB4,hNO,hgl,hE⟩ := hrel
    have HO := hid ho;have BD := hid hD;have E1 := hid hE;have HB4 := hid hB4;have HN2 := hid hNO
    clear ho hD hE hB4 hNO
    obtain ⟨wi,rfl⟩ : ∃ x : World,x = wr := ⟨_,rfl⟩
    by_cases hlq : q < 4
    ·have c4 := HB4.out q hlq
     obtain ⟨v,hv⟩ : ∃ v,v = dg d (4 * t + q) := ⟨_,rfl⟩
     have hvb : 0 ≤ v ∧ v ≤ 3 := by rw [hv];exact dg_bd _ _
     obtain ⟨v0,v1⟩ := hvb
     obtain ⟨s0,hs0⟩ : ∃ x,x = dsum d (4 * t + q) := ⟨_,rfl⟩
     have hsb := dsum_bd d (4 * t + q)
     rw [← hs0] at hsb ⊢
     obtain ⟨sb0,sb1⟩ := hsb
     have HSS : Hid (dsum d (4 * t + (q + 1)) = s0 + 3 - v) := hid (by rw [hs0,hv];show dsum d (4 * t + q) + (3 - dg d (4 * t + q)) = _;omega)
     have HPP : Hid (i64s (preD d (4 * t + q)) ++ [.int .i64 v] = i64s (preD d (4 * t + (q + 1)))) := hid (by rw [show 4 * t + (q + 1) = 4 * t + q + 1 by omega,preD_succ,i64s_append,hv];rfl)
     rw [← hv] at c4
     obtain ⟨n,hn⟩ : ∃ n,n = 4 * t + q := ⟨_,rfl⟩
     have HN := hid hn
     have hnb : n ≤ 64 := by omega
     rw [← hn] at HO HPP HN2 ⊢
     have HOA : Hid ((wi.alloc (.cells #[.int .i64 v] 3)).ownsRow (w.heap.size + 1) 3 1 (.slice A2 n c2) n (i64s (preD d n))) := hid ((Kept.of_ext (F := fun _ => False) ((Ext.refl wi).alloc _)).own HO.out (fun _ _ h => h))
     have HAD : Hid (∀ j u,[Value.int .i64 v][j]? = some u → (wi.alloc (.cells #[.int .i64 v] 3)).cell? ((⟨wi.heap.size,0,none⟩ : Addr).add j) = some u) := hid (fun j u hj => by
      rw [sg_add_at,(Blk.fresh wi 3 [.int .i64 v]).cell j]
      exact hj)
     have hsz : w.heap.size + 1 ≤ wi.heap.size := by have := BD.out.lt;omega
     clear hv hs0 hn
     go_wp2_with (at_builtin;refine wpList_append_own_at _ rfl (.tmp 32) (.tmp 37) 22 rfl (w.heap.size + 1) 3 i0 (.int .i64 0) 1 8 Tryz.underlying22 hi hz0 hz1 hz2 rfl (by omega) (.slice A2 n c2) n (i64s (preD d n)) rfl HOA.out ⟨wi.heap.size,0,none⟩ 1 1 [.int .i64 v] rfl rfl HAD.out (by simp [Value.oneCell']) (by simp only [maxLen];omega) (by omega) (by simp;omega) ?_;intro v8 w8 ho8 hg8 hn8 hat8;obtain ⟨A8,c8,e8⟩ := sg_own_slice ho8 (Nat.succ_pos _);subst e8;have G8 := hid hg8;have O8 := hid ho8;have HAT := hid hat8;have c8g : w8.cell? ⟨g4,q,none⟩ = some (.int .i64 v) := (World.cell?_of_block (a := ⟨g4,q,none⟩) (hg8.block g4 (by simp;omega) (fun e => HN2.out e.symm))).trans ((((Ext.refl wi).alloc _).cell (p := ⟨g4,q,none⟩) hgl).trans c4);clear hg8 ho8 hat8 hn8)
     have e : 4 * t + (q + 1) = n + 1 := by have := HN.out;omega
     have HPP2 := HPP.out
     have HSS2 := HSS.out
     rw [e] at HPP2 HSS2
     have EA : Ext w (wi.alloc (.cells #[.int .i64 v] 3)) := E1.out.alloc _
     have E8 : Ext w w8 := Below.grown EA G8.out (by simp;have := E1.out.size;omega) (fun k hk => by have := (HO.out.lt k hk).1;omega)
     have B8 : Blk w8 w.heap.size 26 (u8s d) := (BD.out.ext ((Ext.refl wi).alloc _)).grown G8.out (fun h => by have := (HO.out.lt w.heap.size h.symm).1;omega)
     have C8 : ∀ j,j < 4 → w8.cell? ⟨g4,j,none⟩ = some (.int .i64 (dg d (4 * t + j))) := fun j hj => (World.cell?_of_block (a := ⟨g4,j,none⟩) (G8.out.block g4 (by simp;omega) (fun e => HN2.out e.symm))).trans ((((Ext.refl wi).alloc _).cell (p := ⟨g4,j,none⟩) hgl).trans (HB4.out j hj))
     have N8 : (Value.slice A8 (n + 1) c8).ownBlock ≠ some g4 := fun h => by
      rcases HAT.out with h2 | h2
      ·exact HN2.out (h2.symm.trans h)
      ·rw [h] at h2;injection h2 with h2;simp at h2;omega
     exact ⟨⟨q + 1,A8,c8,by omega,by go_num,by rw [e,HSS2],by rw [e],by rw [e,← HPP2];exact O8.out,B8,C8,by rw [e];exact N8,by have := G8.out.size;simp at this;omega,E8⟩,by simp [intOf];omega⟩
    ·obtain rfl : q = 4 := by omega
     go_wp2_with fail
     exact ⟨⟨t + 1,A2,c2,by omega,by go_num,by rw [show 4 * (t + 1) = 4 * t + 4 by omega],by rw [show 4 * (t + 1) = 4 * t + 4 by omega],by rw [show 4 * (t + 1) = 4 * t + 4 by omega];exact HO.out,BD.out,E1.out⟩,by simp [intOf];omega⟩
  ·obtain rfl : t = 16 := by omega
   obtain ⟨S,hS⟩ : ∃ S,S = dsum d (4 * 16) := ⟨_,rfl⟩
   have hsb := dsum_bd d (4 * 16)
   rw [← hS] at hsb ⊢
   obtain ⟨sb0,sb1⟩ := hsb
   have HDL : Hid (i64s (preD d 64) ++ [.int .i64 (S / 64),.int .i64 (S / 16 % 4),.int .i64 (S / 4 % 4),.int .i64 (S % 4)] = i64s (digL d)) := hid (by rw [digL_eq,i64s_append,hS];rfl)
   have HOA : Hid ((wo.alloc (.cells #[.int .i64 (S / 64),.int .i64 (S / 16 % 4),.int .i64 (S / 4 % 4),.int .i64 (S % 4)] 3)).ownsRow (w.heap.size + 1) 3 1 (.slice A 64 c) 64 (i64s (preD d 64))) := hid ((Kept.of_ext (F := fun _ => False) ((Ext.refl wo).alloc _)).own HO.out (fun _ _ h => h))
   have HAD : Hid (∀ j u,[Value.int .i64 (S / 64),.int .i64 (S / 16 % 4),.int .i64 (S / 4 % 4),.int .i64 (S % 4)][j]? = some u → (wo.alloc (.cells #[.int .i64 (S / 64),.int .i64 (S / 16 % 4),.int .i64 (S / 4 % 4),.int .i64 (S % 4)] 3)).cell? ((⟨wo.heap.size,0,none⟩ : Addr).add j) = some u) := hid (fun j u hj => by
    rw [sg_add_at,(Blk.fresh wo 3 [.int .i64 (S / 64),.int .i64 (S / 16 % 4),.int .i64 (S / 4 % 4),.int .i64 (S % 4)]).cell j]
    exact hj)
   have EA : Hid (Ext w (wo.alloc (.cells #[.int .i64 (S / 64),.int .i64 (S / 16 % 4),.int .i64 (S / 4 % 4),.int .i64 (S % 4)] 3))) := hid (E1.out.alloc _)
   have hsz : w.heap.size + 1 ≤ wo.heap.size := by have := BD.out.lt;omega
   clear hS BD
   go_wp2_with (at_builtin;refine wpList_append_own_at _ rfl (.tmp 46) (.tmp 57) 22 rfl (w.heap.size + 1) 3 i0 (.int .i64 0) 1 8 Tryz.underlying22 hi hz0 hz1 hz2 rfl (by omega) (.slice A 64 c) 64 (i64s (preD d 64)) rfl HOA.out ⟨wo.heap.size,0,none⟩ 4 4 [.int .i64 (S / 64),.int .i64 (S / 16 % 4),.int .i64 (S / 4 % 4),.int .i64 (S % 4)] rfl rfl HAD.out (by simp [Value.oneCell']) (by simp only [maxLen];omega) (by omega) (by simp;omega) ?_;intro v8 w8 ho8 hg8 hn8 hat8;obtain ⟨A8,c8,e8⟩ := sg_own_slice ho8 (Nat.succ_pos _);subst e8;have G8 := hid hg8;have O8 := hid ho8;clear hg8 ho8 hat8 hn8)
   go_ret
   have E8 : Ext w w8 := Below.grown EA.out G8.out (by simp;have := E1.out.size;omega) (fun k hk => by have := (HO.out.lt k hk).1;omega)
   exact ⟨A8,c8,rfl,by rw [← HDL.out];exact O8.out,E8⟩
end Go.Proofs.YtjeecfjeooehhaaGreatDoor
