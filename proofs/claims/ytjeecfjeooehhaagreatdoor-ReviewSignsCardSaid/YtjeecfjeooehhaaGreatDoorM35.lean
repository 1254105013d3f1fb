/- The reference's levels and Public. Conditions: a seed of at most a million bytes, heights up to 6; the table of constants is laid. -/
import Derived.Test.YtjeecfjeooehhaaGreatDoorM34
import Derived.Test.YtjeecfjeooehhaaGreatDoorM30
import Derived.Test.YtjeecfjeooehhaaGreatDoorM23
import Derived.Test.YtjeecfjeooehhaaGreatDoorM31
set_option linter.unusedSimpArgs false
set_option linter.unusedVariables false
set_option maxHeartbeats 16000000
set_option maxRecDepth 100000
namespace Go.Proofs.YtjeecfjeooehhaaGreatDoor
open Go.RowKit
open Lib (hid)
attribute [local go_sem ↓] wp_at_zero wp_at_succ
def lvT (seed : ByteArray) (l t : Nat) : List (List Int) := (List.range t).map (nodeV seed l)
theorem lvT_succ (seed : ByteArray) (l t : Nat) : lvT seed l (t + 1) = lvT seed l t ++ [nodeV seed l t] := by
 unfold lvT
 rw [List.range_succ,List.map_append]
 rfl
def digC (L : List (List Int)) : List Value := L.flatMap u8s
theorem digC_snoc (L : List (List Int)) (d : List Int) : digC (L ++ [d]) = digC L ++ u8s d := by
 unfold digC
 rw [List.flatMap_append]
 simp
theorem lvT_dig (seed : ByteArray) (l t : Nat) : ∀ d ∈ lvT seed l t,Dig d := fun d hd => by
 obtain ⟨k,_,rfl⟩ := List.mem_map.1 hd
 exact nodeV_dig _ _ _
theorem lvT_at (seed : ByteArray) (l t k : Nat) (hk : k < t) : (lvT seed l t)[k]? = some (nodeV seed l k) := by
 unfold lvT
 rw [List.getElem?_map,List.getElem?_range hk]
 rfl
theorem dig_range {w : World} {b : Nat} {seed : ByteArray} {l t k : Nat} (hc : ∀ j u,(digC (lvT seed l t))[j]? = some u → w.cell? ⟨b,j,none⟩ = some u) (hk : k < t) : w.rangeAt b (k * 16) (u8s (nodeV seed l k)) := fun j u hu => by
 have hj : j < 16 := by
  have h1 := (List.getElem?_eq_some_iff.1 hu).1
  rw [u8s_len,(nodeV_dig seed l k).l] at h1
  exact h1
 have h := flatK_at u8s 16 (lvT seed l t) (fun d hd => by rw [u8s_len];exact (lvT_dig seed l t d hd).l) k _ (lvT_at seed l t k hk) j hj
 exact hc _ _ (h.trans hu)
def LvRow (base : Nat) (w : World) (seed : ByteArray) (h j : Nat) (v : Value) : Prop := ∃ A c,v = .slice A (2 ^ (h - j)) c ∧ w.ownsRow base 26 16 (.slice A (2 ^ (h - j)) c) (2 ^ (h - j)) (digC (lvT seed j (2 ^ (h - j))))
theorem dig_info2 : (Tryz.prog.info? 26).map (fun i => (i.zero,i.size,i.bytes)) = some (some (.agg (u8s (List.replicate 16 0)).toArray),16,16) := by kernel_rfl
theorem dsl_info : (Tryz.prog.info? 117).map (fun i => (i.zero,i.size,i.bytes)) = some (some (.slice none 0 0),1,24) := by kernel_rfl
theorem newD (W : World) (cs : List Value) (h : cs.length = 16) (X : Array Value) (hX : X = cs.toArray) : RdN (W.alloc (.cells X 26)) (W.alloc (.cells X 26)).heap.size 16 (some ⟨W.heap.size,0,none⟩) 1 cs := by
 subst hX
 have h1 := RdN.fresh (W := W) (e := 26) cs _ W.heap.size 16 1 rfl rfl (by omega)
 exact h1.more (by simp)
theorem levels_any (seed : ByteArray) (h p : Nat) (w : World) (hs : seed.size ≤ 1000000) (h6 : h ≤ 6) (hp : p = 2 ^ h) (hK : RTab w) :
  Calls Tryz.prog 97 #[.string seed,.int .i64 (h : Int)] w fun e w' => (∃ (A : Option Addr) (c : Nat) (xs : List Value),e = .returned (.slice A (h + 1) c) ∧ w'.ownsRow w.heap.size 117 1 (.slice A (h + 1) c) (h + 1) xs ∧ ∀ j v,xs[j]? = some v → LvRow w.heap.size w' seed h j v) ∧ Ext w w' := by
 obtain ⟨i0,hi,hz0,hz1,hz2⟩ := info_parts dig_info2
 obtain ⟨j0,hj,hy0,hy1,hy2⟩ := info_parts dsl_info
 have HK5 : Hid (∀ W,Ext w W → RTab W) := hid (fun W h => hK.below h)
 have hp64 : p ≤ 64 := by
  have := Nat.pow_le_pow_right (show 0 < 2 by decide) h6
  omega
 have hp2 : (2 : Int) ^ h = (p : Int) := by rw [hp];exact_mod_cast rfl
 have HPP := hid hp
 have HLF : Hid (∀ (t : Nat) W,t < 64 → Ext w W → Calls Tryz.prog 132 #[.string seed,.int .i64 (t : Int)] W fun e w' => e = .returned (.agg (u8s (nodeV seed 0 t)).toArray) ∧ Ext W w') := hid (fun t W ht hW => rleaf_any seed t W hs ⟨by omega,by omega⟩ (HK5.out W hW))
 have HND : Hid (∀ (l k : Nat) W,Ext w W → Calls Tryz.prog 103 #[.agg (u8s (nodeV seed l (2 * k))).toArray,.agg (u8s (nodeV seed l (2 * k + 1))).toArray] W fun e w' => e = .returned (.agg (u8s (nodeV seed (l + 1) k)).toArray) ∧ Ext W w') := hid (fun l k W hW => rnode_any _ _ W (nodeV_dig _ _ _) (nodeV_dig _ _ _) (HK5.out W hW))
 clear hK hs hp
 go_enter Tryz.func97,Tryz.ntmps97
 go_wp2_with fail
 go_loopw [5,6] (fun s5 s6 wr => ∃ (t c : Nat) (A : Option Addr),t ≤ p ∧ s6 = .int .i64 (t : Int) ∧ s5 = .slice A t c ∧ wr.ownsRow w.heap.size 26 16 (.slice A t c) t (digC (lvT seed 0 t)) ∧ Ext w wr) (fun _ x _ => p - (intOf x).toNat)
 case atStart => exact ⟨0,0,none,Nat.zero_le _,rfl,rfl,World.ownsRow_nil _ _ _ _,Ext.refl _⟩
 case round =>
  obtain ⟨t,c,A,ht,rfl,rfl,hown,hE⟩ := hrel
  have HO := hid hown;have EO := hid hE
  clear hown hE
  obtain ⟨wo,rfl⟩ : ∃ x : World,x = wr := ⟨_,rfl⟩
  by_cases hlt : t < p
  ·have HL := hid (HLF.out t wo (by omega) EO.out)
   have HDL : Hid ((u8s (nodeV seed 0 t)).length = 16) := hid (by rw [u8s_len];exact (nodeV_dig _ _ _).l)
   have HSN := hid (lvT_succ seed 0 t)
   have HTN : Hid (t + 1 ≤ p) := hid hlt
   obtain ⟨V,hV⟩ : ∃ V,V = nodeV seed 0 t := ⟨_,rfl⟩
   rw [← hV] at HL HDL HSN
   clear hV
   have hv16 := HDL.out
   go_wp2_with (first
    | (go_at_call 132;(with_reducible refine HL.out.mono ?_);rintro e w5 ⟨rfl,hE5⟩;have E5 := hid (EO.out.next hE5);have HO5 : Hid (w5.ownsRow w.heap.size 26 16 (.slice A t c) t (digC (lvT seed 0 t))) := hid ((Kept.of_ext (F := fun _ => False) hE5).own HO.out (fun _ _ h => h));clear hE5)
    | (at_builtin;refine wpList_app rfl (.tmp 17) (.tmp 21) 117 rfl w.heap.size 26 i0 (.agg (u8s (List.replicate 16 0)).toArray) 16 16 Tryz.underlying117 hi hz0 hz1 hz2 rfl (by omega) A t c _ (by kernel_rfl) (HO5.out.alloc _) (w5.heap.size + 1) _ 1 1 (u8s V) (by kernel_rfl) (RdN.fresh (u8s V) _ _ 16 1 (by rw [fold_set];exact HDL.out) rfl HDL.out) (u8s_one _) (by simp only [maxLen];omega) (by omega) (by have := E5.out.size;simp;omega) ?_;intro A7 c7 w7 ho7 hg7;have HO7 := hid ho7;have E7 : Hid (Ext w w7) := hid (below_app (E5.out.alloc _) hg7 (HO5.out.alloc _) (Nat.le_refl _) (by rw [World.size_alloc];have := E5.out.size;omega));clear ho7 hg7))
   exact ⟨⟨t + 1,c7,A7,HTN.out,by go_num,rfl,by rw [HSN.out,digC_snoc];exact HO7.out,E7.out⟩,by have := HTN.out;simp [intOf];omega⟩
  ·obtain rfl : t = p := by omega
   go_upto_region 7 with fail
   obtain ⟨w1,hw1⟩ : ∃ x,x = wo.alloc (.cells #[.slice A t c] 117) := ⟨_,rfl⟩
   change Code.wp _ _ _ _ (wo.alloc (.cells #[.slice A t c] 117))
   rw [← hw1]
   have E01 : Hid (Ext wo w1) := hid (by rw [hw1];exact (Ext.refl wo).alloc _)
   have HB0 : Hid (w.heap.size ≤ wo.heap.size) := hid EO.out.size
   have HO1 : Hid (w1.ownsRow w.heap.size 117 1 (.slice (some ⟨wo.heap.size,0,none⟩) 1 1) 1 [.slice A t c]) := hid (by
    have hx := World.ownsRow_lit (base := w.heap.size) (size := 1) (e := 117) wo #[.slice A t c] 1 EO.out.size (by decide) (by simp)
    rw [hw1]
    simpa using hx)
   have HL1 : Hid (∀ j v,([.slice A t c] : List Value)[j]? = some v → LvRow w.heap.size w1 seed h j v) := hid (fun j v hv => by
    match j,hv with
    | 0,hv =>
     rw [List.getElem?_cons_zero,Option.some.injEq] at hv
     refine ⟨A,c,?_,?_⟩
     ·rw [← hv,HPP.out,Nat.sub_zero]
     ·rw [Nat.sub_zero,← HPP.out]
      exact (Kept.of_ext (F := fun _ => False) E01.out).own HO.out (fun _ _ h => h))
   have E1 : Hid (Ext w w1) := hid (EO.out.next E01.out)
   clear hw1 HO EO E01 HB0 HLF
   go_wp2_with fail
   go_loopw [7,8,9,10] (fun s7 s8 _ _ wr => ∃ (l c : Nat) (A : Option Addr) (xs : List Value),l ≤ h ∧ s8 = .int .i64 (l : Int) ∧ s7 = .slice A (l + 1) c ∧ wr.ownsRow w.heap.size 117 1 (.slice A (l + 1) c) (l + 1) xs ∧ (∀ j v,xs[j]? = some v → LvRow w.heap.size wr seed h j v) ∧ Ext w wr) (fun _ x _ _ _ => h - (intOf x).toNat)
   case atStart => exact ⟨0,1,_,_,Nat.zero_le _,rfl,rfl,HO1.out,HL1.out,E1.out⟩
   case round =>
    clear HO1 HL1 E1
    obtain ⟨l,c2,A2,xs,hl,rfl,rfl,hown,hrow,hE⟩ := hrel
    have HO := hid hown;have HRW := hid hrow;have EO := hid hE
    clear hown hrow hE
    obtain ⟨wl,rfl⟩ : ∃ x : World,x = wr := ⟨_,rfl⟩
    by_cases hlt : l < h
    ·obtain ⟨g,rfl,hg1,hg2,hgc⟩ := own_at HO.out (Nat.succ_pos _)
     have hxl : xs.length = l + 1 := by have := HO.out.1;omega
     obtain ⟨v,hv⟩ : ∃ v,xs[l]? = some v := ⟨_,List.getElem?_eq_getElem (by omega)⟩
     obtain ⟨Al,cl,rfl,hol⟩ := HRW.out l v hv
     obtain ⟨q,hq⟩ : ∃ q,q = 2 ^ (h - (l + 1)) := ⟨_,rfl⟩
     have hq2 : 2 ^ (h - l) = 2 * q := by rw [hq,show h - l = (h - (l + 1)) + 1 by omega,Nat.pow_succ];omega
     have hq32 : q ≤ 32 := by
      have h1 := Nat.pow_le_pow_right (show 0 < 2 by decide) (show h - (l + 1) ≤ 5 by omega)
      omega
     have hq0 : 0 < q := by rw [hq];exact Nat.pos_of_ne_zero (by simp)
     rw [hq2] at hol hv
     obtain ⟨gl,rfl,hgl1,hgl2,hglc⟩ := own_at hol (by omega)
     have HCL : Hid (∀ W,Ext wl W → W.cell? ⟨g,l,none⟩ = some (.slice (some ⟨gl,0,none⟩) (2 * q) cl)) := hid (fun W hW => (hW.cell (p := ⟨g,l,none⟩) hg2).trans (hgc l _ hv))
     have HRG : Hid (∀ (k : Nat) W,k < 2 * q → Ext wl W → W.rangeAt gl (k * 16) (u8s (nodeV seed l k))) := hid (fun k W hk hW => dig_range (t := 2 * q) (fun j u hu => (hW.cell (p := ⟨gl,j,none⟩) hgl2).trans (hglc j u hu)) hk)
     have HQQ := hid hq
     have HXL := hid hxl
     have HBL : Hid (w.heap.size ≤ wl.heap.size) := hid EO.out.size
     have HLH : Hid (l + 1 ≤ h) := hid hlt
     clear hgc hglc hol hv hg2 hgl1 hgl2 hq2 hq hxl
     go_wp2_with fail
     go_loopw [9,10] (fun s9 s10 wr => ∃ (k c : Nat) (A : Option Addr) (z : Int),k ≤ q ∧ z = 2 * (k : Int) ∧ s10 = .int .i64 z ∧ s9 = .slice A k c ∧ wr.ownsRow wl.heap.size 26 16 (.slice A k c) k (digC (lvT seed (l + 1) k)) ∧ Ext wl wr) (fun _ x _ => 2 * q - (intOf x).toNat)
     case atStart => exact ⟨0,0,none,0,Nat.zero_le _,by omega,rfl,rfl,World.ownsRow_nil _ _ _ _,Ext.refl _⟩
     case round =>
      obtain ⟨k,c9,A9,z,hk,hz,rfl,rfl,hown,hE⟩ := hrel
      have HO9 := hid hown;have EI := hid hE
      clear hown hE
      obtain ⟨wi,rfl⟩ : ∃ x : World,x = wr := ⟨_,rfl⟩
      have ccl := HCL.out wi EI.out
      by_cases hkq : k < q
      ·obtain ⟨y,hy⟩ : ∃ y : Nat,y = 2 * k := ⟨_,rfl⟩
       obtain rfl : z = (y : Int) := by omega
       have HR1 : Hid (∀ W,Ext wl W → W.rangeAt gl (y * 16) (u8s (nodeV seed l y))) := hid (fun W hW => HRG.out y W (by omega) hW)
       have HR2 : Hid (∀ W,Ext wl W → W.rangeAt gl ((y + 1) * 16) (u8s (nodeV seed l (y + 1)))) := hid (fun W hW => HRG.out (y + 1) W (by omega) hW)
       have HNK : Hid (∀ W,Ext wl W → Calls Tryz.prog 103 #[.agg (u8s (nodeV seed l y)).toArray,.agg (u8s (nodeV seed l (y + 1))).toArray] W fun e w' => e = .returned (.agg (u8s (nodeV seed (l + 1) k)).toArray) ∧ Ext W w') := hid (fun W hW => by rw [hy];exact HND.out l k W (EO.out.next hW))
       have HSN := hid (lvT_succ seed (l + 1) k)
       have HKN : Hid (k + 1 ≤ q) := hid hkq
       have HY := hid hy
       have hy2 : y + 1 < 2 * q := by omega
       have hyb : (y : Int) + 1 < 2 * (q : Int) := by omega
       clear hy hz
       obtain ⟨V1,hV1⟩ : ∃ V,V = nodeV seed l y := ⟨_,rfl⟩
       obtain ⟨V2,hV2⟩ : ∃ V,V = nodeV seed l (y + 1) := ⟨_,rfl⟩
       obtain ⟨V3,hV3⟩ : ∃ V,V = nodeV seed (l + 1) k := ⟨_,rfl⟩
       have HV1 : Hid ((u8s V1).length = 16) := hid (by rw [hV1,u8s_len];exact (nodeV_dig _ _ _).l)
       have HV2 : Hid ((u8s V2).length = 16) := hid (by rw [hV2,u8s_len];exact (nodeV_dig _ _ _).l)
       have HV3 : Hid ((u8s V3).length = 16) := hid (by rw [hV3,u8s_len];exact (nodeV_dig _ _ _).l)
       rw [← hV1] at HR1 HNK
       rw [← hV2] at HR2 HNK
       rw [← hV3] at HNK HSN
       clear hV1 hV2 hV3
       go_upto_region 14 with fail
       refine wp_region_flowF 18 ?FW1 (fun us => ?_) (by kernel_rfl) (by kernel_rfl) (fun a b => Ext a b) Ext.refl (fun h1 h2 => h1.next h2) (fun i v W => match i with
        | 0 => v = .slice A9 k c9
        | 1 => v = .slice (some ⟨g,0,none⟩) (l + 1) c2
        | 2 => v = .int .i64 (l : Int)
        | 3 => v = .pointer (some ⟨g,l,none⟩)
        | 4 => v = .slice (some ⟨gl,0,none⟩) (2 * q) cl
        | 5 => v = .int .i64 (y : Int)
        | 6 => v = .pointer (some ⟨gl,y * 16,none⟩)
        | 7 => v = .agg (u8s V1).toArray
        | 8 => v = .slice (some ⟨g,0,none⟩) (l + 1) c2
        | 9 => v = .int .i64 (l : Int)
        | 10 => v = .pointer (some ⟨g,l,none⟩)
        | 11 => v = .slice (some ⟨gl,0,none⟩) (2 * q) cl
        | 12 => v = .int .i64 (y : Int)
        | 13 => v = .int .i64 ((y : Int) + 1)
        | 14 => v = .pointer (some ⟨gl,(y + 1) * 16,none⟩)
        | 15 => v = .agg (u8s V2).toArray
        | 16 => v = .agg (u8s V3).toArray
        | 17 => ∃ g : Nat,v = .slice (some ⟨g,0,none⟩) 1 1 ∧ RdN W W.heap.size 16 (some ⟨g,0,none⟩) 1 (u8s V3)
        | _ => True) ?_ ?_
       case refine_1 =>
        simp only [List.take_succ_cons,List.take_zero,flowAct,Nat.zero_add,Nat.reduceAdd,Act.put,List.setIfInBounds_toArray,List.set_cons_succ,List.set_cons_zero]
        rfl
       ·simp only [List.take_succ_cons,List.take_zero,flowStepsF]
        refine ⟨?_,?_,?_,?_,?_,?_,?_,?_,?_,?_,?_,?_,?_,?_,?_,?_,?_,?_,trivial⟩
        ·intro us W K hE hd hK
         dsimp only at hK ⊢
         have HK := hid hK;have HE := hid hE
         clear hK hd hE
         go_wp2_with fail
         exact K_at (HK.out (.slice A9 k c9) W (fun _ _ => rfl) (Ext.refl W)) (by kernel_rfl)
        ·intro us W K hE hd hK
         dsimp only at hK ⊢
         have HK := hid hK;have HE := hid hE
         clear hK hd hE
         go_wp2_with fail
         exact K_at (HK.out (.slice (some ⟨g,0,none⟩) (l + 1) c2) W (fun _ _ => rfl) (Ext.refl W)) (by kernel_rfl)
        ·intro us W K hE hd hK
         dsimp only at hK ⊢
         have HK := hid hK;have HE := hid hE
         clear hK hd hE
         go_wp2_with fail
         exact K_at (HK.out (.int .i64 (l : Int)) W (fun _ _ => rfl) (Ext.refl W)) (by kernel_rfl)
        ·intro us W K hE hd hK
         have d1 := hd 1 (by kernel_rfl)
         have d2 := hd 2 (by kernel_rfl)
         dsimp only at hK ⊢
         rw [d1,d2] at hK ⊢
         have HK := hid hK;have HE := hid hE
         clear hK hd hE d1 d2
         go_wp2_with fail
         exact K_at (HK.out (.pointer (some ⟨g,l,none⟩)) W (fun _ _ => rfl) (Ext.refl W)) (by kernel_rfl)
        ·intro us W K hE hd hK
         have d3 := hd 3 (by kernel_rfl)
         have cc := HCL.out W (EI.out.next (sg_udrew hE))
         dsimp only at hK ⊢
         rw [d3] at hK ⊢
         have HK := hid hK;have HE := hid hE
         clear hK hd hE d3
         go_wp2_with fail
         exact K_at (HK.out (.slice (some ⟨gl,0,none⟩) (2 * q) cl) W (fun _ _ => rfl) (Ext.refl W)) (by kernel_rfl)
        ·intro us W K hE hd hK
         dsimp only at hK ⊢
         have HK := hid hK;have HE := hid hE
         clear hK hd hE
         go_wp2_with fail
         exact K_at (HK.out (.int .i64 (y : Int)) W (fun _ _ => rfl) (Ext.refl W)) (by kernel_rfl)
        ·intro us W K hE hd hK
         have d4 := hd 4 (by kernel_rfl)
         have d5 := hd 5 (by kernel_rfl)
         dsimp only at hK ⊢
         rw [d4,d5] at hK ⊢
         have HK := hid hK;have HE := hid hE
         clear hK hd hE d4 d5
         go_wp2_with fail
         exact K_at (HK.out (.pointer (some ⟨gl,y * 16,none⟩)) W (fun _ _ => rfl) (Ext.refl W)) (by kernel_rfl)
        ·intro us W K hE hd hK
         have d6 := hd 6 (by kernel_rfl)
         have HRW2 := hid (HR1.out W (EI.out.next (sg_udrew hE)))
         dsimp only at hK ⊢
         rw [d6] at hK ⊢
         have HK := hid hK;have HE := hid hE
         clear hK hd hE d6
         go_wp2_with ((refine wpList_midw (by rfl) 26 (.tmp 46) rfl gl (y * 16) rfl (u8s V1) HRW2.out Tryz.underlying26 rfl (dg_info.trans (congrArg some HV1.out.symm)) ?_))
         exact K_at (HK.out (.agg (u8s V1).toArray) W (fun _ _ => rfl) (Ext.refl W)) (by kernel_rfl)
        ·intro us W K hE hd hK
         dsimp only at hK ⊢
         have HK := hid hK;have HE := hid hE
         clear hK hd hE
         go_wp2_with fail
         exact K_at (HK.out (.slice (some ⟨g,0,none⟩) (l + 1) c2) W (fun _ _ => rfl) (Ext.refl W)) (by kernel_rfl)
        ·intro us W K hE hd hK
         dsimp only at hK ⊢
         have HK := hid hK;have HE := hid hE
         clear hK hd hE
         go_wp2_with fail
         exact K_at (HK.out (.int .i64 (l : Int)) W (fun _ _ => rfl) (Ext.refl W)) (by kernel_rfl)
        ·intro us W K hE hd hK
         have d8 := hd 8 (by kernel_rfl)
         have d9 := hd 9 (by kernel_rfl)
         dsimp only at hK ⊢
         rw [d8,d9] at hK ⊢
         have HK := hid hK;have HE := hid hE
         clear hK hd hE d8 d9
         go_wp2_with fail
         exact K_at (HK.out (.pointer (some ⟨g,l,none⟩)) W (fun _ _ => rfl) (Ext.refl W)) (by kernel_rfl)
        ·intro us W K hE hd hK
         have d10 := hd 10 (by kernel_rfl)
         have cc := HCL.out W (EI.out.next (sg_udrew hE))
         dsimp only at hK ⊢
         rw [d10] at hK ⊢
         have HK := hid hK;have HE := hid hE
         clear hK hd hE d10
         go_wp2_with fail
         exact K_at (HK.out (.slice (some ⟨gl,0,none⟩) (2 * q) cl) W (fun _ _ => rfl) (Ext.refl W)) (by kernel_rfl)
        ·intro us W K hE hd hK
         dsimp only at hK ⊢
         have HK := hid hK;have HE := hid hE
         clear hK hd hE
         go_wp2_with fail
         exact K_at (HK.out (.int .i64 (y : Int)) W (fun _ _ => rfl) (Ext.refl W)) (by kernel_rfl)
        ·intro us W K hE hd hK
         have d12 := hd 12 (by kernel_rfl)
         dsimp only at hK ⊢
         rw [d12] at hK ⊢
         have HK := hid hK;have HE := hid hE
         clear hK hd hE d12
         go_wp2_with fail
         exact K_at (HK.out (.int .i64 ((y : Int) + 1)) W (fun _ _ => rfl) (Ext.refl W)) (by kernel_rfl)
        ·intro us W K hE hd hK
         have d11 := hd 11 (by kernel_rfl)
         have d13 := hd 13 (by kernel_rfl)
         dsimp only at hK ⊢
         rw [d11,d13] at hK ⊢
         have HK := hid hK;have HE := hid hE
         clear hK hd hE d11 d13
         go_wp2_with fail
         exact K_at (HK.out (.pointer (some ⟨gl,(y + 1) * 16,none⟩)) W (fun _ _ => rfl) (Ext.refl W)) (by kernel_rfl)
        ·intro us W K hE hd hK
         have d14 := hd 14 (by kernel_rfl)
         have HRW2 := hid (HR2.out W (EI.out.next (sg_udrew hE)))
         dsimp only at hK ⊢
         rw [d14] at hK ⊢
         have HK := hid hK;have HE := hid hE
         clear hK hd hE d14
         go_wp2_with ((refine wpList_midw (by rfl) 26 (.tmp 54) rfl gl ((y + 1) * 16) rfl (u8s V2) HRW2.out Tryz.underlying26 rfl (dg_info.trans (congrArg some HV2.out.symm)) ?_))
         exact K_at (HK.out (.agg (u8s V2).toArray) W (fun _ _ => rfl) (Ext.refl W)) (by kernel_rfl)
        ·intro us W K hE hd hK
         have d7 := hd 7 (by kernel_rfl)
         have d15 := hd 15 (by kernel_rfl)
         have HNW := hid (HNK.out W (EI.out.next (sg_udrew hE)))
         dsimp only at hK ⊢
         rw [d7,d15] at hK ⊢
         have HK := hid hK;have HE := hid hE
         clear hK hd hE d7 d15
         go_wp2_with ((go_at_call 103;(with_reducible refine HNW.out.mono ?_);rintro e w6 ⟨rfl,hB6⟩))
         exact K_at (HK.out (.agg (u8s V3).toArray) w6 (fun _ _ => rfl) hB6) (by kernel_rfl)
        ·intro us W K hE hd hK
         have d16 := hd 16 (by kernel_rfl)
         have hv16 := HV3.out
         dsimp only at hK ⊢
         rw [d16] at hK ⊢
         have HK := hid hK;have HE := hid hE
         clear hK hd hE d16
         go_wp2_with fail
         exact K_at (HK.out (.slice (some ⟨W.heap.size,0,none⟩) 1 1) _ (fun W2 hW2 => ⟨W.heap.size,rfl,((newD W (u8s V3) HV3.out _ (by rw [fold_set];rw [HV3.out];rfl)).below hW2 (Nat.le_refl _)).more hW2.size⟩) ((Ext.refl W).alloc _)) (by kernel_rfl)
       ·intro us W hE hd
        try dsimp only
        obtain ⟨g1,d17,hr1⟩ := hd 17 (by decide)
        have d0 := hd 0 (by decide)
        simp only [List.drop_succ_cons,List.drop_zero]
        rw [d17,d0]
        have EW := hid (EI.out.next (sg_udrew hE))
        have HOW : Hid (W.ownsRow wl.heap.size 26 16 (.slice A9 k c9) k (digC (lvT seed (l + 1) k))) := hid ((Kept.of_ext (F := fun _ => False) (sg_udrew hE)).own HO9.out (fun _ _ h => h))
        have HR1 := hid hr1
        have HSW := hid EW.out.size
        clear hd hE d17 d0 hr1
        go_wp2_with ((first | (at_builtin;refine wpList_app rfl (.tmp 40) (.tmp 57) 117 rfl wl.heap.size 26 i0 (.agg (u8s (List.replicate 16 0)).toArray) 16 16 Tryz.underlying117 hi hz0 hz1 hz2 rfl (by omega) A9 k c9 _ (by kernel_rfl) HOW.out W.heap.size (some ⟨g1,0,none⟩) 1 1 (u8s V3) (by kernel_rfl) HR1.out (u8s_one _) (by simp only [maxLen];omega) (by omega) HSW.out ?_;intro A7 c7 w7 ho7 hg7;have HO7 := hid ho7;have E7 : Hid (Ext wl w7) := hid (below_app EW.out hg7 HOW.out (Nat.le_refl _) HSW.out);clear ho7 hg7)))
        refine ⟨⟨k + 1,c7,A7,(y : Int) + 2,HKN.out,by have := HY.out;omega,rfl,rfl,by rw [HSN.out,digC_snoc];exact HO7.out,E7.out⟩,by have h1 := HKN.out;have h2 := HY.out;simp [intOf];omega⟩
      ·obtain rfl : k = q := by omega
       obtain rfl : z = 2 * (k : Int) := hz
       have HO9W : Hid (wi.ownsRow w.heap.size 26 16 (.slice A9 k c9) k (digC (lvT seed (l + 1) k))) := hid (own_lo HO9.out HBL.out)
       have HOI : Hid (wi.ownsRow w.heap.size 117 1 (.slice (some ⟨g,0,none⟩) (l + 1) c2) (l + 1) xs) := hid ((Kept.of_ext (F := fun _ => False) EI.out).own HO.out (fun _ _ h => h))
       have EWI : Hid (Ext w wi) := hid (EO.out.next EI.out)
       have hfin : ¬ (2 * (k : Int) + 1 < 2 * (k : Int)) := by omega
       clear HCL
       go_wp2_with (at_builtin;refine wpList_app rfl (.tmp 59) (.tmp 61) 154 rfl w.heap.size 117 j0 (.slice none 0 0) 1 24 Tryz.underlying154 hj hy0 hy1 hy2 rfl (by omega) (some ⟨g,0,none⟩) (l + 1) c2 _ (by kernel_rfl) (HOI.out.alloc _) (wi.heap.size + 1) _ 1 1 [.slice A9 k c9] (by kernel_rfl) (RdN.fresh [.slice A9 k c9] _ _ 1 1 rfl rfl rfl) (fun v hv => by rw [List.mem_singleton.1 hv];rfl) (by simp only [maxLen];omega) (by omega) (by have := EWI.out.size;simp;omega) ?_;intro A7 c7 w7 ho7 hg7;have HO7 := hid ho7;have HG7 := hid hg7;have E7 : Hid (Ext w w7) := hid (below_app (EWI.out.alloc _) hg7 (HOI.out.alloc _) (Nat.le_refl _) (by rw [World.size_alloc];have := EWI.out.size;omega));clear ho7 hg7)
       have hKA : ∀ (v : Value) (n : Nat) (ys : List Value),wi.ownsRow w.heap.size 26 16 v n ys → w7.ownsRow w.heap.size 26 16 v n ys := fun v n ys hx => (Kept.of_grown (F := fun b => (Value.slice (some ⟨g,0,none⟩) (l + 1) c2).ownBlock = some b) HG7.out (fun b hb _ => hb)).own (hx.alloc _) (fun b hb he => own_apart (hx.alloc _) (HOI.out.alloc (.cells #[.slice A9 k c9] 117)) (by decide) hb he)
       refine ⟨⟨l + 1,c7,A7,xs ++ [.slice A9 k c9],HLH.out,by go_num,rfl,HO7.out,fun j v hv => ?_,E7.out⟩,by have := HLH.out;simp [intOf];omega⟩
       rcases Nat.lt_or_ge j xs.length with hjx | hjx
       ·rw [List.getElem?_append_left hjx] at hv
        obtain ⟨Aj,cj,rfl,hoj⟩ := HRW.out j v hv
        exact ⟨Aj,cj,rfl,hKA _ _ _ ((Kept.of_ext (F := fun _ => False) EI.out).own hoj (fun _ _ h => h))⟩
       ·rw [List.getElem?_append_right hjx] at hv
        have hj0 : j - xs.length = 0 := by
         have := (List.getElem?_eq_some_iff.1 hv).1
         rw [List.length_singleton] at this
         omega
        rw [hj0,List.getElem?_cons_zero,Option.some.injEq] at hv
        have hjl : j = l + 1 := by have := HXL.out;omega
        subst hjl
        rw [← hv]
        refine ⟨A9,c9,by rw [HQQ.out],?_⟩
        rw [← HQQ.out]
        exact hKA _ _ _ HO9W.out
    ·obtain rfl : l = h := by omega
     go_wp2_with fail
     go_ret
     exact ⟨⟨A2,c2,xs,rfl,HO.out,HRW.out⟩,EO.out⟩
end Go.Proofs.YtjeecfjeooehhaaGreatDoor
/- The reference's fits, Public and Digest. Conditions: sizes; the table of constants is laid. -/
namespace Go.Proofs.YtjeecfjeooehhaaGreatDoor
open Go.RowKit
open Lib (hid)
attribute [local go_sem ↓] wp_at_zero wp_at_succ
theorem cell_in {w : World} {k j : Nat} {u : Value} (h : w.cell? ⟨k,j,none⟩ = some u) : k < w.heap.size := by
 unfold World.cell? at h
 rcases Nat.lt_or_ge k w.heap.size with h1 | h1
 ·exact h1
 ·simp [Array.getElem?_eq_none h1] at h
def Tree (w : World) (seed : ByteArray) (h g : Nat) : Prop := ∀ l,l ≤ h → ∃ gl cl,w.cell? ⟨g,l,none⟩ = some (.slice (some ⟨gl,0,none⟩) (2 ^ (h - l)) cl) ∧ ∀ k,k < 2 ^ (h - l) → w.rangeAt gl (k * 16) (u8s (nodeV seed l k))
theorem rangeAt_ext {a b : World} (hE : Ext a b) {gl p : Nat} {cs : List Value} (h : a.rangeAt gl p cs) : b.rangeAt gl p cs := fun j v hv => by
 have h1 := h j v hv
 have hb : gl < a.heap.size := cell_in h1
 exact (hE.cell (p := ⟨gl,p + j,none⟩) hb).trans h1
theorem Tree.ext {a b : World} {seed : ByteArray} {h g : Nat} (hE : Ext a b) (hT : Tree a seed h g) : Tree b seed h g := fun l hl => by
 obtain ⟨gl,cl,hc,hr⟩ := hT l hl
 have hb : g < a.heap.size := cell_in hc
 exact ⟨gl,cl,(hE.cell (p := ⟨g,l,none⟩) hb).trans hc,fun k hk => rangeAt_ext hE (hr k hk)⟩
theorem tree_of {base : Nat} {w : World} {seed : ByteArray} {h c : Nat} {A : Option Addr} {xs : List Value} (ho : w.ownsRow base 117 1 (.slice A (h + 1) c) (h + 1) xs) (hx : ∀ j v,xs[j]? = some v → LvRow base w seed h j v) : ∃ g,A = some ⟨g,0,none⟩ ∧ Tree w seed h g := by
 obtain ⟨g,rfl,hg1,hg2,hgc⟩ := own_at ho (Nat.succ_pos _)
 refine ⟨g,rfl,fun l hl => ?_⟩
 have hxl : xs.length = h + 1 := by have := ho.1;omega
 obtain ⟨v,hv⟩ : ∃ v,xs[l]? = some v := ⟨_,List.getElem?_eq_getElem (by omega)⟩
 obtain ⟨Al,cl,rfl,hol⟩ := hx l v hv
 obtain ⟨gl,rfl,hgl1,hgl2,hglc⟩ := own_at hol (Nat.pos_of_ne_zero (by simp))
 exact ⟨gl,cl,hgc l _ hv,fun k hk => dig_range (t := 2 ^ (h - l)) (fun j u hu => hglc j u hu) hk⟩
theorem levels_tree (seed : ByteArray) (h p : Nat) (w : World) (hs : seed.size ≤ 1000000) (h6 : h ≤ 6) (hp : p = 2 ^ h) (hK : RTab w) :
  Calls Tryz.prog 97 #[.string seed,.int .i64 (h : Int)] w fun e w' => (∃ g c,e = .returned (.slice (some ⟨g,0,none⟩) (h + 1) c) ∧ Tree w' seed h g) ∧ Ext w w' :=
 (levels_any seed h p w hs h6 hp hK).mono fun e w' hq => by
  obtain ⟨⟨A,c,xs,he,ho,hx⟩,hE⟩ := hq
  obtain ⟨g,rfl,hT⟩ := tree_of ho hx
  exact ⟨⟨g,c,he,hT⟩,hE⟩
theorem fits_ok (seed : ByteArray) (h : Nat) (w : World) (hs : seed.size = 32) (h6 : h ≤ 6) :
  Calls Tryz.prog 96 #[.string seed,.int .i64 (h : Int)] w fun e w' => e = .returned (.bool true) ∧ w = w' := by
 have hz : ((seed.size : Nat) : Int) = 32 := by omega
 have h1 : decide ((0 : Int) ≤ (h : Int)) = true := decide_eq_true (by omega)
 have h2 : decide ((h : Int) ≤ 6) = true := decide_eq_true (by omega)
 have h3 : decide (h ≤ 6) = true := decide_eq_true h6
 go_enter Tryz.func96,Tryz.ntmps96
 go_wp2_with fail
 go_ret
 simp [hs,h6]
theorem fits_no (seed : ByteArray) (H : Int) (w : World) (hs : seed.size = 32) (h0 : H < 0) :
  Calls Tryz.prog 96 #[.string seed,.int .i64 H] w fun e w' => e = .returned (.bool false) ∧ w = w' := by
 have hz : ((seed.size : Nat) : Int) = 32 := by omega
 have h1 : decide ((0 : Int) ≤ H) = false := decide_eq_false (by omega)
 go_enter Tryz.func96,Tryz.ntmps96
 go_wp2_with fail
 go_ret
 simp [hs,show ¬ (0 ≤ H) by omega]
theorem rpublic_any (seed : ByteArray) (h p : Nat) (w : World) (hs : seed.size = 32) (h6 : h ≤ 6) (hp : p = 2 ^ h) (hK : RTab w) :
  Calls Tryz.prog 44 #[.string seed,.int .i64 (h : Int)] w fun e w' => e = .returned (.tuple #[.agg (u8s (nodeV seed h 0)).toArray,.int .i64 0]) ∧ Ext w w' := by
 have HLV : Hid (∀ W,Ext w W → Calls Tryz.prog 97 #[.string seed,.int .i64 (h : Int)] W fun e w' => (∃ g c,e = .returned (.slice (some ⟨g,0,none⟩) (h + 1) c) ∧ Tree w' seed h g) ∧ Ext W w') := hid (fun W hW => levels_tree seed h p W (by omega) h6 hp (hK.below hW))
 have HFT := hid (fun W => fits_ok seed h W hs h6)
 obtain ⟨V,hV⟩ : ∃ V,V = nodeV seed h 0 := ⟨_,rfl⟩
 have HVL : Hid ((u8s V).length = 16) := hid (by rw [hV,u8s_len];exact (nodeV_dig seed _ _).l)
 have HTR : Hid (∀ W g,Tree W seed h g → ∃ gl cl,W.cell? ⟨g,h,none⟩ = some (.slice (some ⟨gl,0,none⟩) 1 cl) ∧ W.rangeAt gl 0 (u8s V)) := hid (fun W g hT => by
  obtain ⟨gl,cl,hc,hr⟩ := hT h (Nat.le_refl _)
  rw [Nat.sub_self] at hc hr
  refine ⟨gl,cl,hc,?_⟩
  have := hr 0 (by decide)
  rw [hV]
  simpa using this)
 rw [← hV]
 clear hV hK hp hs
 go_enter Tryz.func44,Tryz.ntmps44
 go_upto_region 1 with fail
 obtain ⟨w2,hw2⟩ : ∃ x,x = w.alloc (.cells (u8s (List.replicate 16 0)).toArray 26) := ⟨_,rfl⟩
 change Code.wp _ _ _ _ (w.alloc (.cells (u8s (List.replicate 16 0)).toArray 26))
 rw [← hw2]
 have E2 : Hid (Ext w w2) := hid (by rw [hw2];exact (Ext.refl w).alloc _)
 have BZ : Hid (Blk w2 w.heap.size 26 (u8s (List.replicate 16 0))) := hid (by rw [hw2];exact Blk.fresh' _ _ _ _ _ rfl rfl)
 clear hw2
 have hh1 : h < h + 1 := Nat.lt_succ_self h
 go_wp2_with (first
  | (go_at_call 96;(with_reducible refine (HFT.out w2).mono ?_);rintro e w3 ⟨rfl,rfl⟩)
  | (go_at_call 97;(with_reducible refine (HLV.out w2 E2.out).mono ?_);rintro e w4 ⟨⟨g,c,rfl,hT⟩,hE4⟩;have E4 : Hid (Ext w w4) := hid (E2.out.next hE4);have BZ4 := hid (BZ.out.ext hE4);obtain ⟨gl,cl,ccl,hrl⟩ := HTR.out w4 g hT;have HRL := hid hrl;clear hT hE4 hrl)
  | (refine wpList_midw (by rfl) 26 (.tmp 19) rfl gl 0 rfl (u8s V) HRL.out Tryz.underlying26 rfl (dg_info.trans (congrArg some HVL.out.symm)) ?_)
  | (refine wpList_store_blk rfl 26 (.tmp 4) (.tmp 20) (by rfl) w.heap.size (u8s V) rfl rfl BZ4.out (dg_info.trans (congrArg some HVL.out.symm)) (by rw [HVL.out];rfl) (u8s_one _) ?_;intro w9 hw9 hb9))
 exact bodyPost_ret (results_blk_tmp Tryz.results44 _ _ w.heap.size 26 (u8s V) _ rfl hb9 Tryz.underlying26 rfl (dg_info.trans (congrArg some HVL.out.symm))) rfl ⟨rfl,by rw [hw9.out];exact E4.out.setRow (Nat.le_refl _) _⟩
theorem rpublic_no (seed : ByteArray) (H : Int) (w : World) (hs : seed.size = 32) (h0 : H < 0) :
  Calls Tryz.prog 44 #[.string seed,.int .i64 H] w fun e w' => e = .returned (.tuple #[.agg (u8s (List.replicate 16 0)).toArray,.int .i64 1]) ∧ Ext w w' := by
 have HFT := hid (fun W => fits_no seed H W hs h0)
 clear hs h0
 obtain ⟨Z,hZ⟩ : ∃ Z,Z = u8s (List.replicate 16 0) := ⟨_,rfl⟩
 have zz : ∀ W,(zeroValue 26).run Tryz.prog W = .ok (.agg (u8s (List.replicate 16 0)).toArray) W := fun W => by kernel_rfl
 have HZL : Hid (Z.length = 16) := hid (by rw [hZ];rfl)
 have HZ1 : Hid (∀ v ∈ Z,v.oneCell' = true) := hid (by rw [hZ];exact u8s_one _)
 rw [← hZ] at zz ⊢
 clear hZ
 go_enter Tryz.func44,Tryz.ntmps44
 go_upto_region 1 with fail
 obtain ⟨w2,hw2⟩ : ∃ x,x = w.alloc (.cells Z.toArray 26) := ⟨_,rfl⟩
 change Code.wp _ _ _ _ (w.alloc (.cells Z.toArray 26))
 rw [← hw2]
 have E2 : Hid (Ext w w2) := hid (by rw [hw2];exact (Ext.refl w).alloc _)
 have BZ : Hid (Blk w2 w.heap.size 26 Z) := hid (by rw [hw2];exact Blk.fresh' _ _ _ _ _ rfl rfl)
 clear hw2
 go_wp2_with (first
  | (go_at_call 96;(with_reducible refine (HFT.out w2).mono ?_);rintro e w3 ⟨rfl,rfl⟩)
  | (refine wpList_store_blk rfl 26 (.tmp 4) (.tmp 12) (by rfl) w.heap.size Z rfl rfl BZ.out (dg_info.trans (congrArg some HZL.out.symm)) rfl HZ1.out ?_;intro w9 hw9 hb9))
 exact bodyPost_ret (results_blk_tmp Tryz.results44 _ _ w.heap.size 26 Z _ rfl hb9 Tryz.underlying26 rfl (dg_info.trans (congrArg some HZL.out.symm))) rfl ⟨rfl,by rw [hw9.out];exact E2.out.setRow (Nat.le_refl _) _⟩
theorem rDigest_any (p : List Int) (ix : Int) (ms : ByteArray) (w : World) (hp : Dig p) (hi : I64 ix) (hm : ms.size ≤ 1000000000) (hK : RTab w) :
  Calls Tryz.prog 24 #[.agg (u8s p).toArray,.int .i64 ix,.string ms] w fun e w' => e = .returned (.agg (u8s (digestD p ix ms)).toArray) ∧ Ext w w' := by
 have HK := hid hK;have HP := hid hp;have HI := hid hi
 have hle := encInt_le9 ix hi.1 hi.2
 have HEN := hid (encs_three (strOf p) (strOf (encInt ix)) ms (by rw [dig_size hp];decide) (by rw [strOf_size];omega) hm)
 obtain ⟨S3,hS3⟩ : ∃ x,x = strOf (encInt ix) := ⟨_,rfl⟩
 have HS3 := hid hS3
 rw [← hS3] at HEN
 obtain ⟨D2,hD2⟩ : ∃ x,x = digestD p ix ms := ⟨_,rfl⟩
 have HD2 : Hid (D2 = ofD 4 [strOf p,S3,ms]) := hid (by rw [hD2,hS3];rfl)
 have HD2L : Hid (D2.length = 16) := hid (by rw [hD2];exact ofD_len _ _)
 have HINT := hid (fun W => rint_any ix W hi.1 hi.2)
 rw [← hD2]
 clear hK hp hi hle hS3 hD2
 go_enter Tryz.func24,Tryz.ntmps24
 go_upto_region 1 with fail
 obtain ⟨w3,hw3⟩ : ∃ x,x = (w.alloc (.cells (u8s p).toArray 26)).alloc (.cells (u8s (List.replicate 16 0)).toArray 26) := ⟨_,rfl⟩
 change Code.wp _ _ _ _ ((w.alloc (.cells (u8s p).toArray 26)).alloc (.cells (u8s (List.replicate 16 0)).toArray 26))
 rw [← hw3]
 have BV : Hid (Blk w3 w.heap.size 26 (u8s p)) := hid (by rw [hw3];exact (Blk.fresh' _ _ _ _ _ rfl rfl).alloc _)
 have BZ : Hid (Blk w3 (w.heap.size + 1) 26 (u8s (List.replicate 16 0))) := hid (by rw [hw3];exact Blk.fresh' _ _ _ _ _ rfl (by simp))
 have E3 : Hid (Ext w w3) := hid (by rw [hw3];exact ((Ext.refl w).alloc _).alloc _)
 clear hw3
 go_wp2_with (first
  | (refine wpList_load_blk rfl 26 (.tmp 3) rfl w.heap.size (by kernel_rfl) BV.out Tryz.underlying26 rfl (dg_info.trans (congrArg some (by rw [u8s_len,HP.out.l]))) ?_)
  | (go_at_call 51;(with_reducible refine (rtext_any p w3 HP.out.l).mono ?_);rintro e w4 ⟨rfl,hE4⟩;have E4 : Hid (Ext w w4) := hid (E3.out.next hE4);have BZ4 := hid (BZ.out.ext hE4);clear hE4)
  | (go_at_call 52;(with_reducible refine (HINT.out w4).mono ?_);rintro e w5 ⟨⟨A3,c3,rfl,ho⟩,hB⟩;have R5 := Rd.of_own ho;have hcv := run_toStr (P := Tryz.prog) Tryz.underlying23 Tryz.underlying5 Tryz.underlying9 R5 c3 (sg_nil _ _ R5);rw [← HS3.out] at hcv;have E5 : Hid (Ext w w5) := hid (E4.out.next hB);have BZ5 := hid (BZ4.out.ext hB);clear hB ho R5)
  | (go_at_call 50;(with_reducible refine (rof_any 4 [strOf p,S3,ms] (some ⟨w5.heap.size,0,none⟩) 3 3 _ ((Blk.fresh w5 9 [.string (strOf p),.string S3,.string ms]).rd rfl) (by decide) HEN.out (HK.out.below (E5.out.alloc _))).mono ?_);rintro e w6 ⟨he,hE6⟩;(obtain rfl : e = .returned (.agg (u8s D2).toArray) := by rw [he,HD2.out];rfl);have E6 : Hid (Ext w w6) := hid ((E5.out.alloc _).next hE6);have BZ6 := hid (BZ5.out.ext (((Ext.refl w5).alloc _).next hE6));clear hE6 he)
  | (refine wpList_store_blk rfl 26 (.tmp 6) (.tmp 14) (by rfl) (w.heap.size + 1) (u8s D2) rfl rfl BZ6.out (dg_info.trans (congrArg some (by rw [u8s_len,HD2L.out]))) (by rw [u8s_len,u8s_len,HD2L.out];rfl) (u8s_one _) ?_;intro w9 hw9 hb9))
 exact bodyPost_ret (results_blk Tryz.results24 _ _ (w.heap.size + 1) 26 (u8s D2) _ rfl hb9 Tryz.underlying26 rfl (dg_info.trans (congrArg some (by rw [u8s_len,HD2L.out])))) rfl ⟨rfl,by rw [hw9.out];exact E6.out.setRow (Nat.le_succ _) _⟩
end Go.Proofs.YtjeecfjeooehhaaGreatDoor
