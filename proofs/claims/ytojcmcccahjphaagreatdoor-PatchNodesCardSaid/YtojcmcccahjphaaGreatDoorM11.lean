/- Package patch: whether the content of a node is valid. Conditions: NodV; the table of contents is laid. -/
import Derived.Test.YtojcmcccahjphaaGreatDoorM8
import Derived.Test.YtojcmcccahjphaaGreatDoorM10
set_option linter.unusedSimpArgs false
set_option linter.unusedVariables false
set_option maxHeartbeats 16000000
set_option maxRecDepth 100000
set_option maxRecDepth 100000
set_option maxHeartbeats 16000000
namespace Go.Proofs.YtojcmcccahjphaaGreatDoor
open Go.RowKit
open Lib (hid)
attribute [local go_sem ↓] wp_at_zero wp_at_succ
structure Cont where
 lo : Int
 hi : Int
 rf : Bool
 le : Int
 mo : Int
 na : Int
def contL : List Cont := [⟨-1099511627776,1099511627776,false,0,0,0⟩,⟨0,1,false,0,0,0⟩,⟨0,7,true,0,0,0⟩,⟨0,0,true,0,6,0⟩,⟨0,11,false,1,2,0⟩,⟨0,0,false,3,3,0⟩,⟨0,0,false,2,2,1⟩,⟨0,0,true,1,6,0⟩,⟨0,5,true,1,1,0⟩,⟨0,5,true,1,1,0⟩,⟨0,0,true,2,7,0⟩,⟨0,0,false,0,8,0⟩,⟨0,0,false,3,3,2⟩]
def contC (c : Cont) : List Value := [.int .i64 c.lo,.int .i64 c.hi,.bool c.rf,.int .i64 c.le,.int .i64 c.mo,.int .i64 c.na]
def CTab (w : World) : Prop := Tab w 1 (contL.flatMap contC)
theorem CTab.below {w w' : World} (h : CTab w) (hE : Ext w w') : CTab w' := Tab.below h hE (Tab.lt h)
theorem cont_at {w : World} (h : CTab w) {k : Nat} {c : Cont} (hc : contL[k]? = some c) : w.rangeAt 1 (k * 6) (contC c) := fun j v hv => by
 rw [Tab.cell h,← hv]
 exact flatK_at contC 6 contL (fun x _ => rfl) k c hc j (List.getElem?_eq_some_iff.1 hv).1
theorem cont_info : (Tryz.prog.info? 87).map (·.size) = some 6 := by kernel_rfl
def cont0 : Cont := ⟨0,0,false,0,0,0⟩
def contOf (x : NodA) : Cont := contL.getD x.k.toNat cont0
def namesI (x : NodA) : Int := if x.k = 10 then (x.kids.length : Int) - 1 else (contOf x).na
def opBad (x : NodA) : Bool := decide (x.k = 4) && (decide (x.kids.length = 1) != (decide (x.n = 9) || decide (x.n = 11)))
def nodBad (x : NodA) : Bool := !winB x.n (contOf x).lo (contOf x).hi || (!winB (x.kids.length : Int) (contOf x).le (contOf x).mo || (!decide ((x.names.length : Int) = namesI x) || (((contOf x).rf != !decide (x.ref = ⟨0,0,0⟩)) || ((contOf x).rf && !idB x.ref))))
def tyOk (x : NodA) : Bool := if x.k = 11 then formedB x.ty 24 else zeroB x.ty
def nodeB (x : NodA) : Bool := if x.k < 0 then false else if 13 ≤ x.k then false else if opBad x then false else if nodBad x then false else if tyOk x = false then false else x.kids.all idB && x.names.all nameB
theorem any_nall {α : Type} (L : List α) (n : Nat) (hn : L.length = n) (d : α) (f : α → Bool) : (List.range n).any (fun j => !f (L.getD j d)) = !L.all f := by
 rw [Bool.eq_iff_iff]
 simp only [List.any_eq_true,List.mem_range,Bool.not_eq_true',List.all_eq_false]
 constructor
 ·rintro ⟨j,hj,h⟩
  rw [List.getD_eq_getElem?_getD,List.getElem?_eq_getElem (by omega)] at h
  exact ⟨_,List.getElem_mem _,by simpa using h⟩
 ·rintro ⟨x,hx,h⟩
  obtain ⟨j,hj,rfl⟩ := List.getElem_of_mem hx
  refine ⟨j,by omega,?_⟩
  rw [List.getD_eq_getElem?_getD,List.getElem?_eq_getElem hj]
  simpa using h
theorem node1_any (x : Rid) (w : World) : Calls Tryz.prog 46 #[.agg #[.int .i64 x.s,.int .i64 x.q,.int .i64 x.i]] w fun e w' => e = .returned (.bool (!idB x)) ∧ Ext w w' := by
 have HV : Hid (∀ W,Calls Tryz.prog 22 #[.agg #[.int .i64 x.s,.int .i64 x.q,.int .i64 x.i]] W fun e w' => e = .returned (.bool (idB x)) ∧ Ext W w') := hid (fun W => pvalid_any x W)
 generalize idB x = b at *
 obtain ⟨s,q,i⟩ := x
 dsimp only at HV ⊢
 obtain ⟨w1,hw1⟩ : ∃ x,x = w.alloc (.cells #[.int .i64 s,.int .i64 q,.int .i64 i] 23) := ⟨_,rfl⟩
 have E1 : Hid (Ext w w1) := hid (by rw [hw1];exact (Ext.refl w).alloc _)
 have BX : Hid (Blk w1 w.heap.size 23 [.int .i64 s,.int .i64 q,.int .i64 i]) := hid (by rw [hw1];exact Blk.fresh' _ _ _ _ _ rfl rfl)
 go_enter Tryz.func46,Tryz.ntmps46
 go_upto_region 1 with fail
 change Code.wp _ _ _ _ (w.alloc (.cells #[.int .i64 s,.int .i64 q,.int .i64 i] 23))
 rw [← hw1]
 clear hw1
 have c0 := BX.out.cell 0
 have c1 := BX.out.cell 1
 have c2 := BX.out.cell 2
 go_wp2_with (first
  | ((with_reducible refine wpList_load_row 23 w.heap.size 0 [.int .i64 s,.int .i64 q,.int .i64 i] BX.out.range Tryz.underlying23 rfl (info_id.trans rfl) ?_ ?_ ?_);kernel_rfl;rfl)
  | (go_at_call 22;(with_reducible refine (HV.out _).mono ?_);rintro e w3 ⟨rfl,hE3⟩))
 go_ret
 exact ⟨rfl,E1.out.next hE3⟩
theorem node2_any (s : ByteArray) (w : World) : Calls Tryz.prog 47 #[.string s] w fun e w' => e = .returned (.bool (!nameB s)) ∧ Ext w w' := by
 have HV : Hid (∀ W,Calls Tryz.prog 23 #[.string s] W fun e w' => e = .returned (.bool (nameB s)) ∧ W = w') := hid (fun W => pname_any s W)
 generalize nameB s = b at *
 go_enter Tryz.func47,Tryz.ntmps47
 go_wp2_with (go_at_call 23;(with_reducible refine (HV.out _).mono ?_);rintro e w3 ⟨rfl,rfl⟩)
 go_ret
 exact ⟨rfl,Ext.refl _⟩
theorem kids_any (L : List Rid) (A : Option Addr) (n c : Nat) (w : World) (hl : RdN w w.heap.size 3 A n (idsC L)) (hn : n ≤ 1000000) :
  Calls Tryz.prog 45 #[.slice A n c,.func (.func 46) #[] #[]] w fun e w' => e = .returned (.bool (!L.all idB)) ∧ Ext w w' := by
 have hrl := idsC_n hl
 rw [← any_nall L n hrl rid0]
 rcases Nat.eq_zero_or_pos n with h0 | h0
 ·exact containsF_nk (n := n) A c _ w 0 0 (fun h => by omega) (fun j => idC (L.getD j rid0)) (fun j hj => by omega) (fun j hj => by omega) (by omega) (fun j hj => by omega)
 ·obtain ⟨b,p,hA,hb,hrg⟩ := rid_at hl h0
  exact containsF_nk (n := n) A c _ w b p (fun _ => hA) (fun j => idC (L.getD j rid0)) (fun j hj W hW => hrg W (fun a ha => hW.cell ha) j _ (getD_of (by omega))) (fun j hj => rfl) (by omega) (fun j hj W hW => node1_any (L.getD j rid0) W)
theorem names_any (L : List ByteArray) (A : Option Addr) (n c : Nat) (w : World) (hl : Rd w w.heap.size A n (L.map Value.string)) (hn : n ≤ 1000000) :
  Calls Tryz.prog 28 #[.slice A n c,.func (.func 47) #[] #[]] w fun e w' => e = .returned (.bool (!L.all nameB)) ∧ Ext w w' := by
 have hrl := strs_n hl
 rw [← any_nall L n hrl ⟨#[]⟩]
 rcases Nat.eq_zero_or_pos n with h0 | h0
 ·exact containsF_nn (n := n) A c _ w 0 0 (fun h => by omega) (fun j => .string (L.getD j ⟨#[]⟩)) (fun j hj => by omega) (by omega) (fun j hj => by omega)
 ·obtain ⟨b,p,hA,hb,hrg⟩ := hl.2 h0
  exact containsF_nn (n := n) A c _ w b p (fun _ => hA) (fun j => .string (L.getD j ⟨#[]⟩)) (fun j hj W hW => (hW.cell (p := ⟨b,p + j,none⟩) hb).trans (hrg j _ (by rw [List.getElem?_map,List.getD_eq_getElem?_getD,List.getElem?_eq_getElem (by omega)];rfl))) (by omega) (fun j hj W hW => node2_any (L.getD j ⟨#[]⟩) W)
theorem pnode_any (x : NodA) (cs : List Value) (w : World) (hx : NodV w x cs) (hT : CTab w) : Calls Tryz.prog 26 #[.agg cs.toArray] w fun e w' => e = .returned (.bool (nodeB x)) ∧ Ext w w' := by
 obtain ⟨t,A,n,c,B,m,d,rfl,hS⟩ := hx
 have hkn := idsC_n hS.kids
 have hmn := strs_n hS.nms
 have hnf := hS.kfew
 have hmf := hS.nfew
 obtain ⟨b0,hb0⟩ : ∃ b,b = opBad x := ⟨_,rfl⟩
 obtain ⟨b1,hb1⟩ : ∃ b,b = nodBad x := ⟨_,rfl⟩
 obtain ⟨b2,hb2⟩ : ∃ b,b = tyOk x := ⟨_,rfl⟩
 obtain ⟨b3,hb3⟩ : ∃ b,b = x.kids.all idB := ⟨_,rfl⟩
 obtain ⟨b4,hb4⟩ : ∃ b,b = x.names.all nameB := ⟨_,rfl⟩
 have HF : Hid (nodeB x = if x.k < 0 then false else if 13 ≤ x.k then false else if b0 then false else if b1 then false else if b2 = false then false else b3 && b4) := hid (by unfold nodeB;rw [hb0,hb1,hb2,hb3,hb4])
 have HK3 : Hid (∀ W,Ext w W → Calls Tryz.prog 45 #[.slice A n c,.func (.func 46) #[] #[]] W fun e w' => e = .returned (.bool (!b3)) ∧ Ext W w') := hid (fun W hW => by rw [hb3];exact kids_any x.kids A n c W (hS.ext hW).kids hS.kfew)
 have HK4 : Hid (∀ W,Ext w W → Calls Tryz.prog 28 #[.slice B m d,.func (.func 47) #[] #[]] W fun e w' => e = .returned (.bool (!b4)) ∧ Ext W w') := hid (fun W hW => by rw [hb4];exact names_any x.names B m d W (hS.ext hW).nms hS.nfew)
 have HFM : Hid (∀ W,Ext w W → Calls Tryz.prog 24 #[.agg t.toArray,.int .i64 24] W fun e w' => e = .returned (.bool (formedB x.ty 24)) ∧ Ext W w') := hid (fun W hW => formed_any x.ty 24 t W (hS.ty.ext hW) (by decide))
 have HZR : Hid (∀ W,Ext w W → Calls Tryz.prog 25 #[.agg t.toArray] W fun e w' => e = .returned (.bool (zeroB x.ty)) ∧ Ext W w') := hid (fun W hW => zero_any x.ty t W (hS.ty.ext hW))
 have HVR : Hid (∀ W,Calls Tryz.prog 22 #[.agg #[.int .i64 x.ref.s,.int .i64 x.ref.q,.int .i64 x.ref.i]] W fun e w' => e = .returned (.bool (idB x.ref)) ∧ Ext W w') := hid (fun W => pvalid_any x.ref W)
 obtain ⟨t0,t1,t2,t3,t4,rfl⟩ := list5 t hS.ty.len
 obtain ⟨Y,hY⟩ : ∃ y,y = nodeB x := ⟨_,rfl⟩
 rw [← hY] at HF ⊢
 obtain ⟨C,hC⟩ : ∃ C,C = contOf x := ⟨_,rfl⟩
 obtain ⟨nm,hnm⟩ : ∃ z,z = namesI x := ⟨_,rfl⟩
 obtain ⟨rb,hrb⟩ : ∃ z,z = decide (x.ref = ⟨0,0,0⟩) := ⟨_,rfl⟩
 obtain ⟨vb,hvb⟩ : ∃ z,z = idB x.ref := ⟨_,rfl⟩
 obtain ⟨fb,hfb⟩ : ∃ z,z = formedB x.ty 24 := ⟨_,rfl⟩
 obtain ⟨zb,hzb⟩ : ∃ z,z = zeroB x.ty := ⟨_,rfl⟩
 have HB0 : Hid (b0 = (decide (x.k = 4) && (decide (n = 1) != (decide (x.n = 9) || decide (x.n = 11))))) := hid (by rw [hb0];unfold opBad;rw [hkn])
 have HNM : Hid (nm = if x.k = 10 then (n : Int) - 1 else C.na) := hid (by rw [hnm,hC];unfold namesI;rw [hkn])
 have HB1 : Hid (b1 = (!winB x.n C.lo C.hi || (!winB (n : Int) C.le C.mo || (!decide ((m : Int) = nm) || ((C.rf != !rb) || (C.rf && !vb)))))) := hid (by rw [hb1,hC,hnm,hrb,hvb];unfold nodBad;rw [hkn,hmn])
 have HB2 : Hid (b2 = if x.k = 11 then fb else zb) := hid (by rw [hb2,hfb,hzb];rfl)
 have HTC : Hid (0 ≤ x.k → x.k < 13 → ∀ W,Ext w W → W.rangeAt 1 (x.k.toNat * 6) (contC C)) := hid (fun h1 h2 W hW => by
  refine cont_at (hT.below hW) ?_
  rw [hC]
  unfold contOf
  rw [List.getD_eq_getElem?_getD,List.getElem?_eq_getElem (show x.k.toNat < contL.length by simp [contL];omega)]
  rfl)
 rw [← hfb] at HFM
 rw [← hzb] at HZR
 rw [← hvb] at HVR
 obtain ⟨k,N,⟨s,q,i⟩,ty,kids,names⟩ := x
 dsimp only at *
 have HN : Hid ((!rb) = (true != decide ((⟨s,q,i⟩ : Rid) = ⟨0,0,0⟩))) := hid (by rw [hrb];cases (decide ((⟨s,q,i⟩ : Rid) = ⟨0,0,0⟩)) <;> rfl)
 clear hY hS hkn hmn hb0 hb1 hb2 hb3 hb4 hC hnm hrb hvb hfb hzb hT
 obtain ⟨lo,hi,rf,le,mo,na⟩ := C
 dsimp only [contC] at *
 show Calls Tryz.prog 26 #[.agg #[.int .i64 k,.int .i64 N,.int .i64 s,.int .i64 q,.int .i64 i,t0,t1,t2,t3,t4,.slice A n c,.slice B m d]] w _
 obtain ⟨w1,hw1⟩ : ∃ x,x = w.alloc (.cells #[.int .i64 k,.int .i64 N,.int .i64 s,.int .i64 q,.int .i64 i,t0,t1,t2,t3,t4,.slice A n c,.slice B m d] 30) := ⟨_,rfl⟩
 have E1 : Hid (Ext w w1) := hid (by rw [hw1];exact (Ext.refl w).alloc _)
 have B1 : Hid (Blk w1 w.heap.size 30 [.int .i64 k,.int .i64 N,.int .i64 s,.int .i64 q,.int .i64 i,t0,t1,t2,t3,t4,.slice A n c,.slice B m d]) := hid (by rw [hw1];exact Blk.fresh' _ _ _ _ _ rfl rfl)
 have HC1 := nod_cell B1.out
 obtain ⟨g,hg⟩ : ∃ g,g = w.heap.size := ⟨_,rfl⟩
 go_enter Tryz.func26,Tryz.ntmps26
 go_upto_region 1 with fail
 change Code.wp _ _ _ _ (w.alloc (.cells #[.int .i64 k,.int .i64 N,.int .i64 s,.int .i64 q,.int .i64 i,t0,t1,t2,t3,t4,.slice A n c,.slice B m d] 30))
 rw [← hw1]
 rw [← hg] at B1 HC1 ⊢
 have HG : Hid (w.heap.size ≤ g) := hid (by omega)
 clear hw1 hg
 obtain ⟨c0,c1,c2,c3,c4,c5,c6,c7,c8,c9,c10,c11⟩ := HC1
 by_cases hk0 : k < 0
 ·have HY : Hid (Y = false) := hid (HF.out.trans (if_pos hk0))
  have h1 : decide (k < 0) = true := decide_eq_true hk0
  clear hk0
  go_wp2_with fail
  go_ret
  exact ⟨by rw [HY.out];rfl,E1.out⟩
 by_cases hk13 : 13 ≤ k
 ·have HY : Hid (Y = false) := hid (HF.out.trans ((if_neg hk0).trans (if_pos hk13)))
  have h1 : decide (k < 0) = false := decide_eq_false hk0
  have h2 : decide (13 ≤ k) = true := decide_eq_true hk13
  clear hk0 hk13
  go_wp2_with fail
  go_ret
  exact ⟨by rw [HY.out];rfl,E1.out⟩
 have HY : Hid (Y = if b0 then false else if b1 then false else if b2 = false then false else b3 && b4) := hid (HF.out.trans ((if_neg hk0).trans (if_neg hk13)))
 clear HF
 have HRT := hid (HTC.out (by omega) (by omega))
 obtain ⟨kn,rfl⟩ := Int.eq_ofNat_of_zero_le (show 0 ≤ k by omega)
 rw [Int.toNat_natCast] at HRT
 have h1 : decide ((kn : Int) < 0) = false := decide_eq_false hk0
 have h2 : decide (13 ≤ (kn : Int)) = false := decide_eq_false hk13
 have h3 : decide (13 ≤ kn) = false := decide_eq_false (by omega)
 have hkn13 : kn < 13 := by omega
 have HRT1 := hid (HRT.out w1 E1.out)
 clear hk0 hk13 HTC
 go_upto_region 5 with (first
  | ((with_reducible refine wpList_load_row 87 1 (kn * 6) [.int .i64 lo,.int .i64 hi,.bool rf,.int .i64 le,.int .i64 mo,.int .i64 na] HRT1.out Tryz.underlying87 rfl (cont_info.trans rfl) ?_ ?_ ?_);kernel_rfl;rfl)
  | (refine wpList_store_freshw rfl 87 (.tmp 3) (.tmp 16) rfl w1.heap.size rfl [.int .i64 0,.int .i64 0,.bool false,.int .i64 0,.int .i64 0,.int .i64 0] [.int .i64 lo,.int .i64 hi,.bool rf,.int .i64 le,.int .i64 mo,.int .i64 na] 87 (by kernel_rfl) (by kernel_rfl) (cont_info.trans rfl) rfl (by intro v hv;simp only [List.mem_cons,List.not_mem_nil,or_false] at hv;rcases hv with rfl | rfl | rfl | rfl | rfl | rfl <;> rfl) ?_;intro w4 hw4 hE4 hz4;have B4 := hid hw4;have E4 : Hid (Ext w w4) := hid (E1.out.next hE4);have B14 := hid (B1.out.ext hE4);have e5 := hw4.cell 5;clear hw4 hE4 hz4))
 have HC1 := nod_cell B14.out
 obtain ⟨gc,hgc⟩ : ∃ g,g = w1.heap.size := ⟨_,rfl⟩
 rw [← hgc] at B4 ⊢
 clear hgc e5 HRT HRT1 E1 B1 c0 c1 c2 c3 c4 c5 c6 c7 c8 c9 c10 c11
 obtain ⟨c0,c1,c2,c3,c4,c5,c6,c7,c8,c9,c10,c11⟩ := HC1
 go_upto_block 0 with fail
 go_cut [4] from 21 to 41 (fun s4 wx => s4 = .int .i64 nm ∧ b0 = false ∧ w4 = wx)
 case first =>
  by_cases hk10 : kn = 10
  ·subst hk10
   have HNQ : Hid (nm = (n : Int) - 1) := hid (HNM.out.trans (if_pos rfl))
   have HBQ : Hid (b0 = false) := hid (by rw [HB0.out];rfl)
   have hwn : IntKind.i64.wrap ((n : Int) - 1) = (n : Int) - 1 := wrapp (by omega) (by omega)
   go_wp2_with fail
   go_meet
   exact ⟨by rw [HNQ.out],HBQ.out,rfl⟩
  ·have HNQ : Hid (nm = na) := hid (HNM.out.trans (if_neg (by omega)))
   have h10 : (((kn : Nat) : Int) == 10) = false := by rw [beq_eq_false_iff_ne];omega
   by_cases hk4 : kn = 4
   ·subst hk4
    by_cases hn1 : n = 1
    ·subst hn1
     by_cases h9 : N = 9
     ·have HBQ : Hid (b0 = false) := hid (by rw [HB0.out,h9];rfl)
      subst h9
      go_wp2_with fail
      go_meet
      exact ⟨by rw [HNQ.out],HBQ.out,rfl⟩
     ·have h9b : (N == (9 : Int)) = false := beq_eq_false_iff_ne.2 h9
      by_cases h11 : N = 11
      ·have HBQ : Hid (b0 = false) := hid (by rw [HB0.out,h11];rfl)
       subst h11
       clear h9
       go_wp2_with fail
       go_meet
       exact ⟨by rw [HNQ.out],HBQ.out,rfl⟩
      ·have h11b : (N == (11 : Int)) = false := beq_eq_false_iff_ne.2 h11
       have HBQ : Hid (Y = false) := hid (by rw [HY.out,HB0.out,decide_eq_false h9,decide_eq_false h11];rfl)
       clear h9 h11
       go_wp2_with fail
       go_ret
       exact ⟨by rw [HBQ.out];rfl,E4.out⟩
    ·have hn1b : (((n : Nat) : Int) == 1) = false := by rw [beq_eq_false_iff_ne];omega
     by_cases h9 : N = 9
     ·have HBQ : Hid (Y = false) := hid (by rw [HY.out,HB0.out,decide_eq_false hn1,h9];rfl)
      subst h9
      clear hn1
      go_wp2_with fail
      go_ret
      exact ⟨by rw [HBQ.out];rfl,E4.out⟩
     ·have h9b : (N == (9 : Int)) = false := beq_eq_false_iff_ne.2 h9
      by_cases h11 : N = 11
      ·have HBQ : Hid (Y = false) := hid (by rw [HY.out,HB0.out,decide_eq_false hn1,h11];rfl)
       subst h11
       clear h9 hn1
       go_wp2_with fail
       go_ret
       exact ⟨by rw [HBQ.out];rfl,E4.out⟩
      ·have h11b : (N == (11 : Int)) = false := beq_eq_false_iff_ne.2 h11
       have HBQ : Hid (b0 = false) := hid (by rw [HB0.out,decide_eq_false hn1,decide_eq_false h9,decide_eq_false h11];rfl)
       clear h9 h11 hn1
       go_wp2_with fail
       go_meet
       exact ⟨by rw [HNQ.out],HBQ.out,rfl⟩
   ·have h4 : (((kn : Nat) : Int) == 4) = false := by rw [beq_eq_false_iff_ne];omega
    have HBQ : Hid (b0 = false) := hid (by rw [HB0.out,decide_eq_false (by omega : ¬ ((kn : Nat) : Int) = 4)];rfl)
    clear hk4 hk10
    go_wp2_with fail
    go_meet
    exact ⟨by rw [HNQ.out],HBQ.out,rfl⟩
 case rest =>
 obtain ⟨rfl,hb0,rfl⟩ := hcut
 subst hb0
 have HY2 : Hid (Y = if b1 then false else if b2 = false then false else b3 && b4) := hid (by rw [HY.out];rfl)
 obtain ⟨v1,hv1⟩ : ∃ v,v = winB N lo hi := ⟨_,rfl⟩
 obtain ⟨v2,hv2⟩ : ∃ v,v = winB (n : Int) le mo := ⟨_,rfl⟩
 have HW1 : Hid (∀ W,Calls Tryz.prog 11 #[.int .i64 N,.int .i64 lo,.int .i64 hi] W fun e w2 => e = .returned (.bool v1) ∧ W = w2) := hid (fun W => by rw [hv1];exact pwithin_any N lo hi W)
 have HW2 : Hid (∀ W,Calls Tryz.prog 11 #[.int .i64 (n : Int),.int .i64 le,.int .i64 mo] W fun e w2 => e = .returned (.bool v2) ∧ W = w2) := hid (fun W => by rw [hv2];exact pwithin_any n le mo W)
 rw [← hv1,← hv2] at HB1
 clear hv1 hv2 hkn13
 have x1 : ∀ X : ExtW w4,X.at_.cell? ⟨g,1,none⟩ = some (.int .i64 N) := fun X => (B14.out.ext X.ext).cell 1
 have x2 : ∀ X : ExtW w4,X.at_.cell? ⟨g,2,none⟩ = some (.int .i64 s) := fun X => (B14.out.ext X.ext).cell 2
 have x3 : ∀ X : ExtW w4,X.at_.cell? ⟨g,3,none⟩ = some (.int .i64 q) := fun X => (B14.out.ext X.ext).cell 3
 have x4 : ∀ X : ExtW w4,X.at_.cell? ⟨g,4,none⟩ = some (.int .i64 i) := fun X => (B14.out.ext X.ext).cell 4
 have x10 : ∀ X : ExtW w4,X.at_.cell? ⟨g,10,none⟩ = some (.slice A n c) := fun X => (B14.out.ext X.ext).cell 10
 have x11 : ∀ X : ExtW w4,X.at_.cell? ⟨g,11,none⟩ = some (.slice B m d) := fun X => (B14.out.ext X.ext).cell 11
 have y0 : ∀ X : ExtW w4,X.at_.cell? ⟨gc,0,none⟩ = some (.int .i64 lo) := fun X => (B4.out.ext X.ext).cell 0
 have y1 : ∀ X : ExtW w4,X.at_.cell? ⟨gc,1,none⟩ = some (.int .i64 hi) := fun X => (B4.out.ext X.ext).cell 1
 have y2 : ∀ X : ExtW w4,X.at_.cell? ⟨gc,2,none⟩ = some (.bool rf) := fun X => (B4.out.ext X.ext).cell 2
 have y3 : ∀ X : ExtW w4,X.at_.cell? ⟨gc,3,none⟩ = some (.int .i64 le) := fun X => (B4.out.ext X.ext).cell 3
 have y4 : ∀ X : ExtW w4,X.at_.cell? ⟨gc,4,none⟩ = some (.int .i64 mo) := fun X => (B4.out.ext X.ext).cell 4
 clear c0 c1 c2 c3 c4 c5 c6 c7 c8 c9 c10 c11
 go_upto_region 11 with fail
 go_cut [86] from 42 to 85 (fun s86 wx => s86 = .bool b1 ∧ Ext w4 wx)
 case first =>
  refine wp_region_ext (by kernel_rfl) (by kernel_rfl) ?_
  cases v1
  ·have HBQ : Hid (b1 = true) := hid (by rw [HB1.out];rfl)
   repeat (first
    | go_big_quiet_skip
    | (go_big_quiet_want;refine quiet_idEq true _ _ _ rfl s q i 0 0 0 rfl rfl _ HN.out ?_;simp only [Act.put,List.setIfInBounds_toArray,List.set_cons_succ,List.set_cons_zero];go_big_quiet_on)
    | (go_big_quiet_want;go_big_quiet_op;first
     | go_big_quiet_on
     | (apply Exists.intro;refine ⟨fun X => ?_,?_⟩;(first | (go_at_call 11;(with_reducible refine (HW1.out _).mono ?_);rintro e w2 ⟨rfl,rfl⟩;exact ⟨rfl,X,rfl⟩) | (go_at_call 11;(with_reducible refine (HW2.out _).mono ?_);rintro e w2 ⟨rfl,rfl⟩;exact ⟨rfl,X,rfl⟩) | (go_at_call 22;(with_reducible refine (HVR.out _).mono ?_);rintro e w2 ⟨rfl,hE2⟩;exact ⟨rfl,⟨w2,X.ext.next hE2⟩,rfl⟩));go_big_quiet_on)))
   refine wpQuiet_nil ?_
   rintro _ ⟨X,rfl⟩
   have ES := hid X.ext
   generalize X.at_ = ws at *
   go_wp2_with fail
   go_meet
   exact ⟨by rw [HBQ.out],ES.out⟩
  cases v2
  ·have HBQ : Hid (b1 = true) := hid (by rw [HB1.out];rfl)
   repeat (first
    | go_big_quiet_skip
    | (go_big_quiet_want;refine quiet_idEq true _ _ _ rfl s q i 0 0 0 rfl rfl _ HN.out ?_;simp only [Act.put,List.setIfInBounds_toArray,List.set_cons_succ,List.set_cons_zero];go_big_quiet_on)
    | (go_big_quiet_want;go_big_quiet_op;first
     | go_big_quiet_on
     | (apply Exists.intro;refine ⟨fun X => ?_,?_⟩;(first | (go_at_call 11;(with_reducible refine (HW1.out _).mono ?_);rintro e w2 ⟨rfl,rfl⟩;exact ⟨rfl,X,rfl⟩) | (go_at_call 11;(with_reducible refine (HW2.out _).mono ?_);rintro e w2 ⟨rfl,rfl⟩;exact ⟨rfl,X,rfl⟩) | (go_at_call 22;(with_reducible refine (HVR.out _).mono ?_);rintro e w2 ⟨rfl,hE2⟩;exact ⟨rfl,⟨w2,X.ext.next hE2⟩,rfl⟩));go_big_quiet_on)))
   refine wpQuiet_nil ?_
   rintro _ ⟨X,rfl⟩
   have ES := hid X.ext
   generalize X.at_ = ws at *
   go_wp2_with fail
   go_meet
   exact ⟨by rw [HBQ.out],ES.out⟩
  by_cases hm3 : (m : Int) = nm
  ·have hm4 : ((m : Int) != nm) = false := by rw [hm3];simp
   rw [decide_eq_true hm3] at HB1
   clear hm3
   cases rf
   ·cases rb
    ·have HBQ : Hid (b1 = true) := hid (by rw [HB1.out];rfl)
     repeat (first
      | go_big_quiet_skip
      | (go_big_quiet_want;refine quiet_idEq true _ _ _ rfl s q i 0 0 0 rfl rfl _ HN.out ?_;simp only [Act.put,List.setIfInBounds_toArray,List.set_cons_succ,List.set_cons_zero];go_big_quiet_on)
      | (go_big_quiet_want;go_big_quiet_op;first
       | go_big_quiet_on
       | (apply Exists.intro;refine ⟨fun X => ?_,?_⟩;(first | (go_at_call 11;(with_reducible refine (HW1.out _).mono ?_);rintro e w2 ⟨rfl,rfl⟩;exact ⟨rfl,X,rfl⟩) | (go_at_call 11;(with_reducible refine (HW2.out _).mono ?_);rintro e w2 ⟨rfl,rfl⟩;exact ⟨rfl,X,rfl⟩) | (go_at_call 22;(with_reducible refine (HVR.out _).mono ?_);rintro e w2 ⟨rfl,hE2⟩;exact ⟨rfl,⟨w2,X.ext.next hE2⟩,rfl⟩));go_big_quiet_on)))
     refine wpQuiet_nil ?_
     rintro _ ⟨X,rfl⟩
     have ES := hid X.ext
     generalize X.at_ = ws at *
     go_wp2_with fail
     go_meet
     exact ⟨by rw [HBQ.out],ES.out⟩
    ·have HBQ : Hid (b1 = false) := hid (by rw [HB1.out];rfl)
     repeat (first
      | go_big_quiet_skip
      | (go_big_quiet_want;refine quiet_idEq true _ _ _ rfl s q i 0 0 0 rfl rfl _ HN.out ?_;simp only [Act.put,List.setIfInBounds_toArray,List.set_cons_succ,List.set_cons_zero];go_big_quiet_on)
      | (go_big_quiet_want;go_big_quiet_op;first
       | go_big_quiet_on
       | (apply Exists.intro;refine ⟨fun X => ?_,?_⟩;(first | (go_at_call 11;(with_reducible refine (HW1.out _).mono ?_);rintro e w2 ⟨rfl,rfl⟩;exact ⟨rfl,X,rfl⟩) | (go_at_call 11;(with_reducible refine (HW2.out _).mono ?_);rintro e w2 ⟨rfl,rfl⟩;exact ⟨rfl,X,rfl⟩) | (go_at_call 22;(with_reducible refine (HVR.out _).mono ?_);rintro e w2 ⟨rfl,hE2⟩;exact ⟨rfl,⟨w2,X.ext.next hE2⟩,rfl⟩));go_big_quiet_on)))
     refine wpQuiet_nil ?_
     rintro _ ⟨X,rfl⟩
     have ES := hid X.ext
     generalize X.at_ = ws at *
     go_wp2_with fail
     go_meet
     exact ⟨by rw [HBQ.out],ES.out⟩
   ·cases rb
    ·cases vb
     ·have HBQ : Hid (b1 = true) := hid (by rw [HB1.out];rfl)
      repeat (first
       | go_big_quiet_skip
       | (go_big_quiet_want;refine quiet_idEq true _ _ _ rfl s q i 0 0 0 rfl rfl _ HN.out ?_;simp only [Act.put,List.setIfInBounds_toArray,List.set_cons_succ,List.set_cons_zero];go_big_quiet_on)
       | (go_big_quiet_want;go_big_quiet_op;first
        | go_big_quiet_on
        | (apply Exists.intro;refine ⟨fun X => ?_,?_⟩;(first | (go_at_call 11;(with_reducible refine (HW1.out _).mono ?_);rintro e w2 ⟨rfl,rfl⟩;exact ⟨rfl,X,rfl⟩) | (go_at_call 11;(with_reducible refine (HW2.out _).mono ?_);rintro e w2 ⟨rfl,rfl⟩;exact ⟨rfl,X,rfl⟩) | (go_at_call 22;(with_reducible refine (HVR.out _).mono ?_);rintro e w2 ⟨rfl,hE2⟩;exact ⟨rfl,⟨w2,X.ext.next hE2⟩,rfl⟩));go_big_quiet_on)))
      refine wpQuiet_nil ?_
      rintro _ ⟨X,rfl⟩
      have ES := hid X.ext
      generalize X.at_ = ws at *
      go_wp2_with fail
      go_meet
      exact ⟨by rw [HBQ.out],ES.out⟩
     ·have HBQ : Hid (b1 = false) := hid (by rw [HB1.out];rfl)
      repeat (first
       | go_big_quiet_skip
       | (go_big_quiet_want;refine quiet_idEq true _ _ _ rfl s q i 0 0 0 rfl rfl _ HN.out ?_;simp only [Act.put,List.setIfInBounds_toArray,List.set_cons_succ,List.set_cons_zero];go_big_quiet_on)
       | (go_big_quiet_want;go_big_quiet_op;first
        | go_big_quiet_on
        | (apply Exists.intro;refine ⟨fun X => ?_,?_⟩;(first | (go_at_call 11;(with_reducible refine (HW1.out _).mono ?_);rintro e w2 ⟨rfl,rfl⟩;exact ⟨rfl,X,rfl⟩) | (go_at_call 11;(with_reducible refine (HW2.out _).mono ?_);rintro e w2 ⟨rfl,rfl⟩;exact ⟨rfl,X,rfl⟩) | (go_at_call 22;(with_reducible refine (HVR.out _).mono ?_);rintro e w2 ⟨rfl,hE2⟩;exact ⟨rfl,⟨w2,X.ext.next hE2⟩,rfl⟩));go_big_quiet_on)))
      refine wpQuiet_nil ?_
      rintro _ ⟨X,rfl⟩
      have ES := hid X.ext
      generalize X.at_ = ws at *
      go_wp2_with fail
      go_meet
      exact ⟨by rw [HBQ.out],ES.out⟩
    ·have HBQ : Hid (b1 = true) := hid (by rw [HB1.out];rfl)
     repeat (first
      | go_big_quiet_skip
      | (go_big_quiet_want;refine quiet_idEq true _ _ _ rfl s q i 0 0 0 rfl rfl _ HN.out ?_;simp only [Act.put,List.setIfInBounds_toArray,List.set_cons_succ,List.set_cons_zero];go_big_quiet_on)
      | (go_big_quiet_want;go_big_quiet_op;first
       | go_big_quiet_on
       | (apply Exists.intro;refine ⟨fun X => ?_,?_⟩;(first | (go_at_call 11;(with_reducible refine (HW1.out _).mono ?_);rintro e w2 ⟨rfl,rfl⟩;exact ⟨rfl,X,rfl⟩) | (go_at_call 11;(with_reducible refine (HW2.out _).mono ?_);rintro e w2 ⟨rfl,rfl⟩;exact ⟨rfl,X,rfl⟩) | (go_at_call 22;(with_reducible refine (HVR.out _).mono ?_);rintro e w2 ⟨rfl,hE2⟩;exact ⟨rfl,⟨w2,X.ext.next hE2⟩,rfl⟩));go_big_quiet_on)))
     refine wpQuiet_nil ?_
     rintro _ ⟨X,rfl⟩
     have ES := hid X.ext
     generalize X.at_ = ws at *
     go_wp2_with fail
     go_meet
     exact ⟨by rw [HBQ.out],ES.out⟩
  ·have hm4 : ((m : Int) != nm) = true := by rw [bne_iff_ne];exact hm3
   rw [decide_eq_false hm3] at HB1
   clear hm3
   have HBQ : Hid (b1 = true) := hid (by rw [HB1.out];rfl)
   repeat (first
    | go_big_quiet_skip
    | (go_big_quiet_want;refine quiet_idEq true _ _ _ rfl s q i 0 0 0 rfl rfl _ HN.out ?_;simp only [Act.put,List.setIfInBounds_toArray,List.set_cons_succ,List.set_cons_zero];go_big_quiet_on)
    | (go_big_quiet_want;go_big_quiet_op;first
     | go_big_quiet_on
     | (apply Exists.intro;refine ⟨fun X => ?_,?_⟩;(first | (go_at_call 11;(with_reducible refine (HW1.out _).mono ?_);rintro e w2 ⟨rfl,rfl⟩;exact ⟨rfl,X,rfl⟩) | (go_at_call 11;(with_reducible refine (HW2.out _).mono ?_);rintro e w2 ⟨rfl,rfl⟩;exact ⟨rfl,X,rfl⟩) | (go_at_call 22;(with_reducible refine (HVR.out _).mono ?_);rintro e w2 ⟨rfl,hE2⟩;exact ⟨rfl,⟨w2,X.ext.next hE2⟩,rfl⟩));go_big_quiet_on)))
   refine wpQuiet_nil ?_
   rintro _ ⟨X,rfl⟩
   have ES := hid X.ext
   generalize X.at_ = ws at *
   go_wp2_with fail
   go_meet
   exact ⟨by rw [HBQ.out],ES.out⟩
 case rest =>
 obtain ⟨rfl,hE5⟩ := hcut
 obtain ⟨w5,rfl⟩ : ∃ x : World,x = wc := ⟨_,rfl⟩
 have E5 : Hid (Ext w w5) := hid (E4.out.next hE5)
 have B15 := hid (B14.out.ext hE5)
 clear hE5 x1 x2 x3 x4 x10 x11 y0 y1 y2 y3 y4 HW1 HW2 HVR HB1 HNM
 cases b1
 case true =>
  have HYQ : Hid (Y = false) := hid (by rw [HY2.out];rfl)
  go_wp2_with fail
  go_ret
  exact ⟨by rw [HYQ.out];rfl,E5.out⟩
 have HY3 : Hid (Y = if b2 = false then false else b3 && b4) := hid (by rw [HY2.out];rfl)
 have HR5 : Hid (w5.rangeAt g 5 [t0,t1,t2,t3,t4]) := hid (range_mid B15.out.range 5 [t0,t1,t2,t3,t4] rfl)
 have c0 := B15.out.cell 0
 go_upto_region 13 with fail
 go_cut [106] from 87 to 105 (fun s106 wx => s106 = .bool (!b2) ∧ Ext w5 wx)
 case first =>
  by_cases hk11 : kn = 11
  ·subst hk11
   have HBQ : Hid (b2 = fb) := hid (HB2.out.trans (if_pos rfl))
   cases fb
   ·go_wp2_with (first | ((with_reducible refine wpList_load_row 26 g 5 [t0,t1,t2,t3,t4] HR5.out Tryz.underlying26 rfl (ty_info.trans rfl) ?_ ?_ ?_);kernel_rfl;rfl) | (go_at_call 24;(with_reducible refine (HFM.out w5 E5.out).mono ?_);rintro e w6 ⟨rfl,hE6⟩;have E6 := hid hE6;have B16 := hid (B15.out.ext hE6);have f0 := B16.out.cell 0;clear hE6) | (go_at_call 25;(with_reducible refine (HZR.out w5 E5.out).mono ?_);rintro e w6 ⟨rfl,hE6⟩;have E6 := hid hE6;clear hE6))
    go_meet
    exact ⟨by rw [HBQ.out];rfl,E6.out⟩
   ·go_wp2_with (first | ((with_reducible refine wpList_load_row 26 g 5 [t0,t1,t2,t3,t4] HR5.out Tryz.underlying26 rfl (ty_info.trans rfl) ?_ ?_ ?_);kernel_rfl;rfl) | (go_at_call 24;(with_reducible refine (HFM.out w5 E5.out).mono ?_);rintro e w6 ⟨rfl,hE6⟩;have E6 := hid hE6;have B16 := hid (B15.out.ext hE6);have f0 := B16.out.cell 0;clear hE6) | (go_at_call 25;(with_reducible refine (HZR.out w5 E5.out).mono ?_);rintro e w6 ⟨rfl,hE6⟩;have E6 := hid hE6;clear hE6))
    go_meet
    exact ⟨by rw [HBQ.out];rfl,E6.out⟩
  ·have HBQ : Hid (b2 = zb) := hid (HB2.out.trans (if_neg (by omega)))
   have h11 : (((kn : Nat) : Int) == 11) = false := by rw [beq_eq_false_iff_ne];omega
   have h11b : (((kn : Nat) : Int) != 11) = true := by rw [bne_iff_ne];omega
   clear hk11
   cases zb
   ·go_wp2_with (first | ((with_reducible refine wpList_load_row 26 g 5 [t0,t1,t2,t3,t4] HR5.out Tryz.underlying26 rfl (ty_info.trans rfl) ?_ ?_ ?_);kernel_rfl;rfl) | (go_at_call 24;(with_reducible refine (HFM.out w5 E5.out).mono ?_);rintro e w6 ⟨rfl,hE6⟩;have E6 := hid hE6;have B16 := hid (B15.out.ext hE6);have f0 := B16.out.cell 0;clear hE6) | (go_at_call 25;(with_reducible refine (HZR.out w5 E5.out).mono ?_);rintro e w6 ⟨rfl,hE6⟩;have E6 := hid hE6;clear hE6))
    go_meet
    exact ⟨by rw [HBQ.out];rfl,E6.out⟩
   ·go_wp2_with (first | ((with_reducible refine wpList_load_row 26 g 5 [t0,t1,t2,t3,t4] HR5.out Tryz.underlying26 rfl (ty_info.trans rfl) ?_ ?_ ?_);kernel_rfl;rfl) | (go_at_call 24;(with_reducible refine (HFM.out w5 E5.out).mono ?_);rintro e w6 ⟨rfl,hE6⟩;have E6 := hid hE6;have B16 := hid (B15.out.ext hE6);have f0 := B16.out.cell 0;clear hE6) | (go_at_call 25;(with_reducible refine (HZR.out w5 E5.out).mono ?_);rintro e w6 ⟨rfl,hE6⟩;have E6 := hid hE6;clear hE6))
    go_meet
    exact ⟨by rw [HBQ.out];rfl,E6.out⟩
 case rest =>
 obtain ⟨rfl,hE6⟩ := hcut
 obtain ⟨w6,rfl⟩ : ∃ x : World,x = wc := ⟨_,rfl⟩
 have E6 : Hid (Ext w w6) := hid (E5.out.next hE6)
 have B16 := hid (B15.out.ext hE6)
 clear hE6 HR5 c0
 have c10 := B16.out.cell 10
 have c11 := B16.out.cell 11
 cases b2
 case false =>
  have HYQ : Hid (Y = false) := hid (by rw [HY3.out];rfl)
  go_wp2_with fail
  go_ret
  exact ⟨by rw [HYQ.out];rfl,E6.out⟩
 have HY4 : Hid (Y = (b3 && b4)) := hid (by rw [HY3.out];rfl)
 cases b3
 ·go_wp2_with (go_at_call 45;(with_reducible refine (HK3.out w6 E6.out).mono ?_);rintro e w7 ⟨rfl,hE7⟩;have E7 : Hid (Ext w w7) := hid (E6.out.next hE7);have B17 := hid (B16.out.ext hE7);have d11 := B17.out.cell 11;clear hE7)
  go_ret
  exact ⟨by rw [HY4.out];rfl,E7.out⟩
 ·go_wp2_with (first
   | (go_at_call 45;(with_reducible refine (HK3.out w6 E6.out).mono ?_);rintro e w7 ⟨rfl,hE7⟩;have E7 : Hid (Ext w w7) := hid (E6.out.next hE7);have B17 := hid (B16.out.ext hE7);have d11 := B17.out.cell 11;clear hE7)
   | (go_at_call 28;(with_reducible refine (HK4.out w7 E7.out).mono ?_);rintro e w8 ⟨rfl,hE8⟩;have E8 : Hid (Ext w w8) := hid (E7.out.next hE8);clear hE8))
  go_ret
  exact ⟨by rw [HY4.out];cases b4 <;> rfl,E8.out⟩
end Go.Proofs.YtojcmcccahjphaaGreatDoor
