/- patch.encode: the bytes of a patch. Conditions: PatV, PatW. -/
import Derived.Test.YtojcmcccahjphaaGreatDoorM13
import Derived.Laws.EntriesVeiled
set_option linter.unusedSimpArgs false
set_option linter.unusedVariables false
set_option maxHeartbeats 16000000
set_option maxRecDepth 100000
set_option maxRecDepth 100000
set_option maxHeartbeats 16000000
namespace Go.Proofs.YtojcmcccahjphaaGreatDoor
open Go.RowKit
open Lib (hid)
attribute [local go_sem ↓] wp_at_zero wp_at_succ
theorem out_put {base g k m c0 c7 : Nat} {A0 A7 : Option Addr} {L E : List Int} {w W w7 : World} (hbg : base ≤ g) (hbl : Blk w g 49 [.slice A0 k c0]) (EW : Ext w W) (HO7 : w7.ownsRow base 5 1 (.slice A7 (k + m) c7) (k + m) (u8s L ++ u8s E)) (HG7 : W.grownBy w7 (Value.slice A0 k c0).ownBlock) (HAT : (Value.slice A7 (k + m) c7).ownBlock = (Value.slice A0 k c0).ownBlock ∨ (Value.slice A7 (k + m) c7).ownBlock = some W.heap.size) (HB7 : Blk w7 g 49 [.slice A0 k c0]) (hk : k = L.length) (hm : m = E.length) :
  OutS base g (L ++ E) (w7.setCell ⟨g,0,none⟩ (.slice A7 (k + m) c7)) ∧ OutK g w (w7.setCell ⟨g,0,none⟩ (.slice A7 (k + m) c7)) := by
 obtain ⟨w8,hw8⟩ : ∃ x,x = w7.setCell ⟨g,0,none⟩ (.slice A7 (k + m) c7) := ⟨_,rfl⟩
 have HB8 : Blk w8 g 49 [.slice A7 (k + m) c7] := by rw [hw8];exact HB7.set 0 _
 have K78 : Kept (fun b => b = g) w7 w8 := by rw [hw8];exact Kept.setCell (F := fun b => b = g) (p := ⟨g,0,none⟩) w7 rfl _
 have HLE : (L ++ E).length = k + m := by rw [List.length_append,hk,hm]
 have HOB : ∀ b,(Value.slice A7 (k + m) c7).ownBlock = some b → b ≠ g := fun b hb2 e => by
  subst e
  rcases HO7.2 with ⟨hv,_⟩ | ⟨g1,cap,cur,hv,_,hh1,_⟩
  ·rw [hv] at hb2;cases hb2
  ·rw [hv] at hb2
   simp only [Value.ownBlock,Option.some.injEq] at hb2
   subst hb2
   have h2 := HB7
   unfold Blk at h2
   rw [h2] at hh1
   simp only [Option.some.injEq,Obj.cells.injEq] at hh1
   exact absurd hh1.2.1 (by decide)
 have HO8 : w8.ownsRow base 5 1 (.slice A7 (k + m) c7) (k + m) (u8s L ++ u8s E) := K78.own HO7 (fun b hb2 e => HOB b hb2 e)
 have hcell : w.cell? ⟨g,0,none⟩ = some (.slice A0 k c0) := hbl.cell 0
 have KW : Kept (OutF g w) w w8 := (Kept.of_ext (F := OutF g w) EW).next (Kept.of_grown (F := fun b => (Value.slice A0 k c0).ownBlock = some b) HG7 (fun b h _ => h)) (fun b _ h => Or.inr ⟨A0,k,c0,hcell,h⟩) |>.next K78 (fun b _ h => Or.inl h)
 rw [← hw8]
 refine ⟨⟨hbg,A7,c7,by rw [HLE];exact HB8,by rw [HLE,u8s_append];exact HO8⟩,KW,fun b hb2 hf => ?_⟩
 rcases hf with rfl | ⟨A',n',c',h1,h2⟩
 ·exact Or.inl rfl
 ·have h3 : w8.cell? ⟨g,0,none⟩ = some (.slice A7 (k + m) c7) := HB8.cell 0
  rw [h3] at h1
  injection h1 with h1
  rw [← h1] at h2
  exact Or.inr ⟨A0,k,c0,hcell,by
   rcases HAT with h4 | h4
   ·rw [← h4];exact h2
   ·rw [h2] at h4
    injection h4 with h4
    have := EW.size
    omega⟩
theorem pintR (x : Int) (w : World) (h0 : -9223372036854775808 ≤ x) (h1 : x ≤ 9223372036854775807) (l : List Int) (k : Nat) (hl : encInt x = l) (hk : l.length = k) :
  Calls Tryz.prog 52 #[.int .i64 x] w fun e w' => (∃ b o c,e = .returned (.slice (some ⟨b,o,none⟩) k c) ∧ (k ≤ c ∧ c ≤ maxLen) ∧ Rd w' w'.heap.size (some ⟨b,o,none⟩) k (u8s l)) ∧ Ext w w' :=
 (wintL_any x w h0 h1).mono fun e w' h => by
  obtain ⟨⟨A,c,h,ho⟩,hB⟩ := h
  subst hl
  subst hk
  have hr := Rd.of_own ho
  obtain ⟨b,o,hA,hb,hc⟩ := hr.2 (by rw [encInt_length];omega)
  subst hA
  exact ⟨⟨b,o,c,h,slice_cap ho,hr⟩,hB⟩
theorem RdLi.ext {w w' : World} {g o : Nat} {ls : List (List Int)} (h : RdLi w w.heap.size g o ls) (hg : g < w.heap.size) (hE : Ext w w') : RdLi w' w'.heap.size g o ls := fun j hj => by
 obtain ⟨A,c,h1,h2⟩ := h j hj
 exact ⟨A,c,(hE.cell (p := ⟨g,o + j,none⟩) hg).trans h1,h2.ext' hE⟩
theorem rdli4 {W : World} {a b c d : List Int} {a1 b1 c1 d1 : Nat} {cb cc : Nat} {xs : Array Value} (hx : xs = #[.slice (some ⟨a1,0,none⟩) a.length a.length,.slice (some ⟨b1,0,none⟩) b.length cb,.slice (some ⟨c1,0,none⟩) c.length cc,.slice (some ⟨d1,0,none⟩) d.length d.length]) (t : TypeId) (ha : Rd W W.heap.size (some ⟨a1,0,none⟩) a.length (i8s a)) (hb : Rd W W.heap.size (some ⟨b1,0,none⟩) b.length (i8s b)) (hc : Rd W W.heap.size (some ⟨c1,0,none⟩) c.length (i8s c)) (hd : Rd W W.heap.size (some ⟨d1,0,none⟩) d.length (i8s d)) :
  RdLi (W.alloc (.cells xs t)) (W.alloc (.cells xs t)).heap.size W.heap.size 0 [a,b,c,d] := fun j hj => by
 have hE := (Ext.refl W).alloc (.cells xs t)
 have hcell : ∀ j,(W.alloc (.cells xs t)).cell? ⟨W.heap.size,j,none⟩ = xs.toList[j]? := fun j => (Blk.fresh' W t xs.toList _ _ rfl rfl).cell j
 rw [Nat.zero_add]
 match j,hj with
 | 0,_ => exact ⟨_,_,(hcell 0).trans (by rw [hx];rfl),ha.ext' hE⟩
 | 1,_ => exact ⟨_,_,(hcell 1).trans (by rw [hx];rfl),hb.ext' hE⟩
 | 2,_ => exact ⟨_,_,(hcell 2).trans (by rw [hx];rfl),hc.ext' hE⟩
 | 3,_ => exact ⟨_,_,(hcell 3).trans (by rw [hx];rfl),hd.ext' hE⟩
theorem out_row_apart {base g k c0 : Nat} {A0 : Option Addr} {xs : List Value} {W : World} (hb : Blk W g 49 [.slice A0 k c0]) (ho : W.ownsRow base 5 1 (.slice A0 k c0) k xs) : ∀ b,(Value.slice A0 k c0).ownBlock = some b → b ≠ g := fun b hb2 e => by
 subst e
 rcases ho.2 with ⟨hv,_⟩ | ⟨g1,cap,cur,hv,_,hh1,_⟩
 ·rw [hv] at hb2;cases hb2
 ·rw [hv] at hb2
  simp only [Value.ownBlock,Option.some.injEq] at hb2
  subst hb2
  unfold Blk at hb
  rw [hb] at hh1
  simp only [Option.some.injEq,Obj.cells.injEq] at hh1
  exact absurd hh1.2.1 (by decide)
structure EncO (w : World) (g3 g4 g5 gO : Nat) (w4 : World) (CS : List Value) (L : List Int) (W : World) : Prop where
 o : OutS w.heap.size g3 L W
 v : EncV w.heap.size g3 g4 g5 W
 x : Ext w W
 b : Blk W gO 33 CS
 k : OutK g3 w4 W
 ne : gO ≠ g3
theorem EncO.ext {w w4 W W' : World} {g3 g4 g5 gO : Nat} {CS : List Value} {L : List Int} (h : EncO w g3 g4 g5 gO w4 CS L W) (hE : Ext W W') : EncO w g3 g4 g5 gO w4 CS L W' := ⟨h.o.ext hE,h.v.ext hE,h.x.next hE,h.b.ext hE,h.k.trans (OutK.of_ext hE h.o.lt),h.ne⟩
theorem EncO.step {w w4 W W' : World} {g3 g4 g5 gO : Nat} {CS : List Value} {L L' : List Int} (h : EncO w g3 g4 g5 gO w4 CS L W) (ho : OutS w.heap.size g3 L' W') (hk : OutK g3 W W') : EncO w g3 g4 g5 gO w4 CS L' W' := ⟨ho,h.v.keep h.o hk,base_kept h.o hk h.x (Nat.le_refl _),(hk.blk h.b (out_apart h.o h.b h.ne (by decide))).1,h.k.trans hk,h.ne⟩
theorem pbytR (s : ByteArray) (w : World) (hs : s.size ≤ 1000000) (l : List Int) (k : Nat) (hl : encB s = l) (hk : l.length = k) :
  Calls Tryz.prog 55 #[.string s] w fun e w' => (∃ b o c,e = .returned (.slice (some ⟨b,o,none⟩) k c) ∧ (k ≤ c ∧ c ≤ maxLen) ∧ Rd w' w'.heap.size (some ⟨b,o,none⟩) k (u8s l)) ∧ Ext w w' :=
 (wbytes_any s w (by omega)).mono fun e w' h => by
  obtain ⟨⟨A,c,h,ho⟩,hB⟩ := h
  subst hl
  subst hk
  have hr := Rd.of_own ho
  obtain ⟨b,o,hA,hb,hc⟩ := hr.2 (by rw [encB_length];omega)
  subst hA
  exact ⟨⟨b,o,c,h,slice_cap ho,hr⟩,hB⟩
theorem pstrR (ss : List ByteArray) (A0 : Option Addr) (n c0 : Nat) (w : World) (hx : Rd w w.heap.size A0 n (ss.map Value.string)) (hs : ∀ s ∈ ss,s.size ≤ 1000000) (hn : n ≤ 1000000) (l : List Int) (k : Nat) (hl : encL encB ss = l) (hk : l.length = k) (hcat : k ≤ 100000000000) :
  Calls Tryz.prog 56 #[.slice A0 n c0] w fun e w' => (∃ b o c,e = .returned (.slice (some ⟨b,o,none⟩) k c) ∧ (k ≤ c ∧ c ≤ maxLen) ∧ Rd w' w'.heap.size (some ⟨b,o,none⟩) k (u8s l)) ∧ Ext w w' :=
 (strings_any ss A0 n c0 w hx (fun s h => by have := hs s h;omega) (by rw [hl,hk];exact hcat) (by omega)).mono fun e w' h => by
  obtain ⟨⟨A,c,h,ho⟩,hB⟩ := h
  subst hl
  subst hk
  have hr := Rd.of_own ho
  obtain ⟨b,o,hA,hb,hc⟩ := hr.2 (by unfold encL;rw [List.length_append,encInt_length];omega)
  subst hA
  exact ⟨⟨b,o,c,h,slice_cap ho,hr⟩,hB⟩
theorem three_i64 {x : Rid} (h : i64 x.s ∧ i64 x.q ∧ i64 x.i) : ∀ y ∈ thrI x,-9223372036854775808 ≤ y ∧ y ≤ 9223372036854775807 := fun y hy => by
 simp only [thrI,List.mem_cons,List.not_mem_nil,or_false] at hy
 rcases hy with rfl | rfl | rfl
 ·exact h.1
 ·exact h.2.1
 ·exact h.2.2
theorem kids_i64 {L : List Rid} (h : ∀ y ∈ L,i64 y.s ∧ i64 y.q ∧ i64 y.i) : ∀ y ∈ L.flatMap thrI,-9223372036854775808 ≤ y ∧ y ≤ 9223372036854775807 := fun y hy => by
 obtain ⟨x,hx,hxy⟩ := List.mem_flatMap.1 hy
 exact three_i64 (h x hx) y hxy
theorem opN_i64 {x : OpA} (h : OpW x) : ∀ y ∈ opN x,-9223372036854775808 ≤ y ∧ y ≤ 9223372036854775807 := fun y hy => by
 unfold opN at hy
 simp only [List.mem_append,List.mem_cons,List.not_mem_nil,or_false] at hy
 rcases hy with ((rfl | hy) | hy) | (rfl | rfl)
 ·exact h.nums.1
 ·exact three_i64 h.on y hy
 ·exact three_i64 h.to' y hy
 ·exact h.nums.2.1
 ·exact h.nums.2.2
theorem nodN_i64 {x : NodA} (h : NodW x) : ∀ y ∈ nodN x,-9223372036854775808 ≤ y ∧ y ≤ 9223372036854775807 := fun y hy => by
 unfold nodN at hy
 simp only [List.mem_append,List.mem_cons,List.not_mem_nil,or_false] at hy
 rcases hy with (rfl | rfl) | hy
 ·exact h.nums.1
 ·exact h.nums.2.1
 ·exact three_i64 h.nums.2.2 y hy
theorem flat_le {α β : Type} (f : α → List β) : ∀ (l : List α) (q : Nat),((l.take q).flatMap f).length ≤ (l.flatMap f).length
 | [],q => by simp
 | x :: l,0 => by simp
 | x :: l,q + 1 => by
  have := flat_le f l q
  simp only [List.take_succ_cons,List.flatMap_cons,List.length_append]
  omega
theorem rdli2 {W : World} {a b : List Int} {a1 b1 : Nat} {cb : Nat} {xs : Array Value} (hx : xs = #[.slice (some ⟨a1,0,none⟩) a.length a.length,.slice (some ⟨b1,0,none⟩) b.length cb]) (t : TypeId) (ha : Rd W W.heap.size (some ⟨a1,0,none⟩) a.length (i8s a)) (hb : Rd W W.heap.size (some ⟨b1,0,none⟩) b.length (i8s b)) :
  RdLi (W.alloc (.cells xs t)) (W.alloc (.cells xs t)).heap.size W.heap.size 0 [a,b] := fun j hj => by
 have hE := (Ext.refl W).alloc (.cells xs t)
 have hcell : ∀ j,(W.alloc (.cells xs t)).cell? ⟨W.heap.size,j,none⟩ = xs.toList[j]? := fun j => (Blk.fresh' W t xs.toList _ _ rfl rfl).cell j
 rw [Nat.zero_add]
 match j,hj with
 | 0,_ => exact ⟨_,_,(hcell 0).trans (by rw [hx];rfl),ha.ext' hE⟩
 | 1,_ => exact ⟨_,_,(hcell 1).trans (by rw [hx];rfl),hb.ext' hE⟩
theorem needI_i64 {L : List (Int × Int)} (h : ∀ x ∈ L,i64 x.1 ∧ i64 x.2) : ∀ y ∈ needI L,-9223372036854775808 ≤ y ∧ y ≤ 9223372036854775807 := fun y hy => by
 unfold needI at hy
 obtain ⟨x,hx,hxy⟩ := List.mem_flatMap.1 hy
 simp only [List.mem_cons,List.not_mem_nil,or_false] at hxy
 rcases hxy with rfl | rfl
 ·exact (h x hx).1
 ·exact (h x hx).2
theorem four_i64 {a b c d : Int} (h : i64 a ∧ i64 b ∧ i64 c ∧ i64 d) : ∀ x ∈ [a,b,c,d],-9223372036854775808 ≤ x ∧ x ≤ 9223372036854775807 := fun x hx => by
 simp only [List.mem_cons,List.not_mem_nil,or_false] at hx
 rcases hx with rfl | rfl | rfl | rfl
 ·exact h.1
 ·exact h.2.1
 ·exact h.2.2.1
 ·exact h.2.2.2
theorem four_len {a b c d : Int} (h : i64 a ∧ i64 b ∧ i64 c ∧ i64 d) : ([] : List Int).length + (encL encInt [a,b,c,d]).length ≤ 100000000000 := by
 have h1 := encL_le [a,b,c,d] (four_i64 h) (by simp)
 simp only [List.length_cons,List.length_nil] at h1 ⊢
 omega
theorem pencode_any (p : PatA) (cs : List Value) (w : World) (hp : PatV w p cs) (hw : PatW p) : Calls Tryz.prog 30 #[.agg cs.toArray] w fun e w' => (∃ A c,e = .returned (.slice A (encP p).length c) ∧ w'.ownsRow w.heap.size 5 1 (.slice A (encP p).length c) (encP p).length (u8s (encP p))) ∧ Ext w w' := by
 obtain ⟨i0,hi,hz0,hz1,hz2⟩ := info_parts winfo_u8
 obtain ⟨X,A,n,c,B,m,d,rfl,hS⟩ := hp
 obtain ⟨shop,seq,day,needs,clause,ops,sl⟩ := p
 have HS := hid hS;have HW := hid hw
 clear hS hw
 show Calls Tryz.prog 30 #[.agg #[.int .i64 shop,.int .i64 seq,.int .i64 day,.slice A n c,.int .i64 clause,.slice B m d,.string sl]] w _
 go_enter Tryz.func30,Tryz.ntmps30
 go_upto_region 5 with fail
 obtain ⟨w1,hw1⟩ : ∃ x,x = (((w.alloc (.cells #[.int .i64 shop,.int .i64 seq,.int .i64 day,.slice A n c,.int .i64 clause,.slice B m d,.string sl] 37)).alloc (.cells #[.slice none 0 0] 49)).alloc (.cells #[.func (.func 49) #[] #[.pointer (some ⟨w.heap.size + 1,0,none⟩)]] 92)).alloc (.cells #[.func (.func 51) #[] #[.pointer (some ⟨w.heap.size + 1 + 1,0,none⟩),.pointer (some ⟨w.heap.size + 1 + 1 + 1,0,none⟩)]] 93) := ⟨_,rfl⟩
 change Code.wp _ _ _ _ ((((w.alloc (.cells #[.int .i64 shop,.int .i64 seq,.int .i64 day,.slice A n c,.int .i64 clause,.slice B m d,.string sl] 37)).alloc (.cells #[.slice none 0 0] 49)).alloc (.cells #[.func (.func 49) #[] #[.pointer (some ⟨w.heap.size + 1,0,none⟩)]] 92)).alloc (.cells #[.func (.func 51) #[] #[.pointer (some ⟨w.heap.size + 1 + 1,0,none⟩),.pointer (some ⟨w.heap.size + 1 + 1 + 1,0,none⟩)]] 93))
 rw [← hw1]
 have E1 : Hid (Ext w w1) := hid (by rw [hw1];exact ((((Ext.refl w).alloc _).alloc _).alloc _).alloc _)
 have BP : Hid (Blk w1 w.heap.size 37 [.int .i64 shop,.int .i64 seq,.int .i64 day,.slice A n c,.int .i64 clause,.slice B m d,.string sl]) := hid (by rw [hw1];exact (((Blk.fresh' _ _ _ _ _ rfl rfl).alloc _).alloc _).alloc _)
 have BO : Hid (Blk w1 (w.heap.size + 1) 49 [.slice none 0 0]) := hid (by rw [hw1];exact ((Blk.fresh' _ _ _ _ _ rfl (by simp)).alloc _).alloc _)
 have BI : Hid (Blk w1 (w.heap.size + 1 + 1) 92 [.func (.func 49) #[] #[.pointer (some ⟨w.heap.size + 1,0,none⟩)]]) := hid (by rw [hw1];exact (Blk.fresh' _ _ _ _ _ rfl (by simp)).alloc _)
 have BT : Hid (Blk w1 (w.heap.size + 1 + 1 + 1) 93 [.func (.func 51) #[] #[.pointer (some ⟨w.heap.size + 1 + 1,0,none⟩),.pointer (some ⟨w.heap.size + 1 + 1 + 1,0,none⟩)]]) := hid (by rw [hw1];exact Blk.fresh' _ _ _ _ _ rfl (by simp))
 obtain ⟨gp,hgp⟩ : ∃ g,g = w.heap.size := ⟨_,rfl⟩
 obtain ⟨g3,hg3⟩ : ∃ g,g = w.heap.size + 1 := ⟨_,rfl⟩
 obtain ⟨g4,hg4⟩ : ∃ g,g = w.heap.size + 1 + 1 := ⟨_,rfl⟩
 obtain ⟨g5,hg5⟩ : ∃ g,g = w.heap.size + 1 + 1 + 1 := ⟨_,rfl⟩
 rw [← hg5,← hg4,← hg3,← hgp]
 rw [← hg5,← hg4] at BT
 rw [← hg4,← hg3] at BI
 rw [← hg3] at BO
 rw [← hgp] at BP
 have V1 : Hid (EncV w.heap.size g3 g4 g5 w1) := hid ⟨BI.out,BT.out,by omega,by omega⟩
 have O1 : Hid (OutS w.heap.size g3 [] w1) := hid ⟨by omega,none,0,BO.out,World.ownsRow_nil _ _ _ _⟩
 have NP : Hid (gp ≠ g3) := hid (by omega)
 have HB1 : Hid (w.heap.size ≤ w1.heap.size) := hid E1.out.size
 have HEI : Hid (∀ (l : List Int) (A : Option Addr) (k c : Nat) (L : List Int) (W : World),Rd W W.heap.size A k (i8s l) → (∀ x ∈ l,-9223372036854775808 ≤ x ∧ x ≤ 9223372036854775807) → k ≤ 1000000000 → OutS w.heap.size g3 L W → w.heap.size ≤ W.heap.size → L.length + (encL encInt l).length ≤ 100000000000 → Calls Tryz.prog 49 #[.slice A k c,.pointer (some ⟨g3,0,none⟩)] W fun e w' => e = .returned (.tuple #[]) ∧ OutS w.heap.size g3 (L ++ encL encInt l) w' ∧ OutK g3 W w') := hid (fun l A k c L W h1 h2 h3 h4 h5 h6 => eints_any l A k c g3 w.heap.size L W h1 h2 h3 h4 h5 h6)
 clear hw1 BO BI BT hg3 hg4 hg5 hgp
 have c0 := BP.out.cell 0
 have c1 := BP.out.cell 1
 have c2 := BP.out.cell 2
 have c4 := BP.out.cell 4
 have cf : w1.cell? ⟨g4,0,none⟩ = some (.func (.func 49) #[] #[.pointer (some ⟨g3,0,none⟩)]) := V1.out.b4.cell 0
 have HC1 : Hid (Calls Tryz.prog 49 #[.slice (some ⟨w1.heap.size,0,none⟩) 4 4,.pointer (some ⟨g3,0,none⟩)] (w1.alloc (.cells #[.int .i64 shop,.int .i64 seq,.int .i64 day,.int .i64 clause] 3)) fun e w' => e = .returned (.tuple #[]) ∧ OutS w.heap.size g3 (encL encInt [shop,seq,day,clause]) w' ∧ OutK g3 w1 w') := hid ((HEI.out [shop,seq,day,clause] (some ⟨w1.heap.size,0,none⟩) 4 4 [] _ (Rd.fresh_fr w1 #[.int .i64 shop,.int .i64 seq,.int .i64 day,.int .i64 clause] 3 (0,0) _ 4 rfl rfl) (four_i64 HW.out.nums) (by decide) (O1.out.ext ((Ext.refl w1).alloc _)) (Nat.le_trans HB1.out ((Ext.refl w1).alloc _).size) (four_len HW.out.nums)).mono fun e w' h => ⟨h.1,h.2.1,(OutK.of_ext ((Ext.refl w1).alloc _) O1.out.lt).trans h.2.2⟩)
 go_upto_region 6 with ((go_at_call 49;(with_reducible refine HC1.out.mono ?_);rintro e w2 ⟨rfl,hO2,hK2⟩;have O2 := hid hO2;have K2 := hid hK2;clear hO2 hK2))
 have V2 : Hid (EncV w.heap.size g3 g4 g5 w2) := hid (V1.out.keep O1.out K2.out)
 have BP2 : Hid (Blk w2 gp 37 [.int .i64 shop,.int .i64 seq,.int .i64 day,.slice A n c,.int .i64 clause,.slice B m d,.string sl]) := hid (K2.out.blk BP.out (out_apart O1.out BP.out NP.out (by decide))).1
 have X2 : Hid (Ext w w2) := hid (base_kept O1.out K2.out E1.out (Nat.le_refl _))
 have HB2 : Hid (w.heap.size ≤ w2.heap.size) := hid X2.out.size
 clear c0 c1 c2 c4 cf HC1 V1 O1 K2 BP E1 HB1
 obtain ⟨i1,hi',hz0',hz1',hz2'⟩ := info_parts winfo_int
 have HNN : Hid (needs.length = n) := hid HS.out.len.1
 have hnf : n ≤ 1000000 := HS.out.nfew
 have c3 : w2.cell? ⟨gp,3,none⟩ = some (.slice A n c) := BP2.out.cell 3
 have HRX : Hid (∀ (t : Nat) (x : Int × Int),needs[t]? = some x → ∃ b o,A = some ⟨b,o,none⟩ ∧ ∀ W,Ext w W → W.rangeAt b (o + t * 2) [.int .i64 x.1,.int .i64 x.2]) := hid (fun t x hx => by
  have hlt := (List.getElem?_eq_some_iff.1 hx).1
  have hl : needs.length = n := HNN.out
  obtain ⟨b,o,hA,hb,hc⟩ := HS.out.needs.2 (by omega)
  refine ⟨b,o,hA,fun W hW j v hv => ?_⟩
  have hj : j < 2 := (List.getElem?_eq_some_iff.1 hv).1
  rw [Nat.add_assoc]
  exact (hW.cell (p := ⟨b,o + (t * 2 + j),none⟩) hb).trans (hc (t * 2 + j) v ((flatK_at refC 2 needs (fun _ _ => rfl) t x hx j hj).trans hv)))
 have zz : ∀ W,(zeroValue 47).run Tryz.prog W = .ok (.agg #[.int .i64 0,.int .i64 0]) W := fun W => by kernel_rfl
 go_wp2_with fail
 go_loopw [6,8,30] (fun s6 _ s30 wr => ∃ (t m6 c6 : Nat) (A6 : Option Addr),t ≤ n ∧ Hid (m6 = 2 * t) ∧ s30 = .int .i64 (t : Int) ∧ s6 = .slice A6 m6 c6 ∧ wr.ownsRow w2.heap.size 3 1 (.slice A6 m6 c6) m6 (i8s (needI (needs.take t))) ∧ Ext w2 wr) (fun _ _ s30 _ => n - (intOf s30).toNat)
 case atStart => exact ⟨0,0,0,none,Nat.zero_le _,hid rfl,rfl,rfl,World.ownsRow_nil _ _ _ _,Ext.refl _⟩
 case round =>
  obtain ⟨t,m6,c6,A6,ht,hm6,rfl,rfl,hown,hEi⟩ := hrel
  obtain ⟨wi,rfl⟩ : ∃ x : World,x = wr := ⟨_,rfl⟩
  have OW := hid hown;have EI := hid hEi
  clear hown hEi
  by_cases hlt : t < n
  ·have hget : needs[t]? = some (needs[t]'(by have := HNN.out;omega)) := List.getElem?_eq_getElem _
   obtain ⟨x,hx⟩ : ∃ x,x = needs[t]'(by have := HNN.out;omega) := ⟨_,rfl⟩
   rw [← hx] at hget
   obtain ⟨b,o,hA,hrg⟩ := HRX.out t x hget
   subst hA
   have HRG := hid (hrg wi (X2.out.next EI.out))
   have HTK : Hid (needI (needs.take (t + 1)) = needI (needs.take t) ++ [x.1,x.2]) := hid (by
    unfold needI
    rw [List.take_add_one,hget,List.flatMap_append]
    rfl)
   obtain ⟨x1,x2⟩ := x
   dsimp only at HRG HTK
   have hm3 : m6 ≤ 2000000 := by have := hm6.out;omega
   clear hrg hget hx
   go_wp2_with (first
    | ((with_reducible refine wpList_load_row 47 b (o + t * 2) [.int .i64 x1,.int .i64 x2] HRG.out Tryz.underlying47 rfl (ref_info.trans rfl) ?_ ?_ ?_);kernel_rfl;rfl)
    | (refine wpList_store_freshw rfl 47 (.tmp 8) (.tmp 33) rfl wi.heap.size rfl [.int .i64 0,.int .i64 0] [.int .i64 x1,.int .i64 x2] 47 (by kernel_rfl) (by kernel_rfl) (ref_info.trans rfl) rfl (by intro v hv;simp only [List.mem_cons,List.not_mem_nil,or_false] at hv;rcases hv with rfl | rfl <;> rfl) ?_;intro w6 hw6 hE6 hz6;have E6 : Hid (Ext w2 w6) := hid (EI.out.next hE6);have b0 : w6.cell? ⟨wi.heap.size,0,none⟩ = some (.int .i64 x1) := hw6.cell 0;have b1 : w6.cell? ⟨wi.heap.size,1,none⟩ = some (.int .i64 x2) := hw6.cell 1;have O6 : Hid (w6.ownsRow w2.heap.size 3 1 (.slice A6 m6 c6) m6 (i8s (needI (needs.take t)))) := hid ((Kept.of_ext (F := fun _ => False) hE6).own OW.out (fun _ _ h => h));clear hw6 hE6 hz6)
    | (at_builtin;(refine wpList_app rfl (.tmp 34) (.tmp 39) 43 rfl w2.heap.size 3 i1 (.int .i64 0) 1 8 Tryz.underlying43 hi' hz0' hz1' hz2' rfl (by omega) A6 m6 c6 _ rfl (O6.out.alloc _) (w6.heap.size + 1) (some ⟨w6.heap.size,0,none⟩) 2 2 [.int .i64 x1,.int .i64 x2] rfl (RdN.fresh _ _ _ 1 2 rfl rfl rfl) (by intro v hv;simp only [List.mem_cons,List.not_mem_nil,or_false] at hv;rcases hv with rfl | rfl <;> rfl) (by simp only [maxLen];omega) (by omega) (by have := E6.out.size;simp;omega) ?_;intro A7 c7 w7 o7 g7;have hb7 := below_app (E6.out.alloc _) g7 (O6.out.alloc _) (Nat.le_refl _) (by have := E6.out.size;simp;omega))))
   exact ⟨⟨t + 1,m6 + 2,c7,A7,by omega,hid (by have := hm6.out;omega),by go_num,rfl,by rw [HTK.out,i8s_append];exact o7,hb7⟩,by simp [intOf];omega⟩
  ·obtain rfl : t = n := by omega
   have HTF : Hid (needI (needs.take t) = needI needs) := hid (by rw [List.take_of_length_le (by have := HNN.out;omega)])
   have HRN : Hid (Rd wi wi.heap.size A6 m6 (i8s (needI needs))) := hid (by have h := Rd.of_own OW.out;rw [HTF.out] at h;exact h)
   have Vi : Hid (EncV w.heap.size g3 g4 g5 wi) := hid (V2.out.ext EI.out)
   have Oi : Hid (OutS w.heap.size g3 (encL encInt [shop,seq,day,clause]) wi) := hid (O2.out.ext EI.out)
   have BPi := hid (BP2.out.ext EI.out)
   have Xi := hid (X2.out.next EI.out)
   have HBi : Hid (w.heap.size ≤ wi.heap.size) := hid Xi.out.size
   obtain ⟨F0,hF0⟩ : ∃ F,F = encL encInt [shop,seq,day,clause] := ⟨_,rfl⟩
   obtain ⟨F1,hF1⟩ : ∃ F,F = encL encInt (needI needs) := ⟨_,rfl⟩
   have HSZ : Hid (F0.length + F1.length + (encInt (ops.length : Int)).length + (ops.flatMap encO).length + (encB sl).length ≤ 1000000000) := hid (by
    have h := HW.out.size
    unfold encP at h
    simp only [List.length_append] at h
    rw [hF0,hF1]
    exact h)
   have HPE : Hid (encP ⟨shop,seq,day,needs,clause,ops,sl⟩ = F0 ++ F1 ++ encInt (ops.length : Int) ++ ops.flatMap encO ++ encB sl) := hid (by rw [hF0,hF1];rfl)
   rw [← hF0] at Oi
   have HC2 : Hid (Calls Tryz.prog 49 #[.slice A6 m6 c6,.pointer (some ⟨g3,0,none⟩)] wi fun e w' => e = .returned (.tuple #[]) ∧ OutS w.heap.size g3 (F0 ++ F1) w' ∧ OutK g3 wi w') := hid (by
    rw [hF1]
    exact HEI.out (needI needs) A6 m6 c6 F0 wi HRN.out (needI_i64 HW.out.needs) (by have := hm6.out;omega) Oi.out HBi.out (by rw [← hF1];have := HSZ.out;omega))
   clear hF0 hF1 HRN HTF OW HRX c3
   have cf : wi.cell? ⟨g4,0,none⟩ = some (.func (.func 49) #[] #[.pointer (some ⟨g3,0,none⟩)]) := Vi.out.b4.cell 0
   go_upto_region 13 with ((go_at_call 49;(with_reducible refine HC2.out.mono ?_);rintro e w3 ⟨rfl,hO3,hK3⟩;have O3 := hid hO3;have K3 := hid hK3;clear hO3 hK3))
   have V3 : Hid (EncV w.heap.size g3 g4 g5 w3) := hid (Vi.out.keep Oi.out K3.out)
   have BP3 : Hid (Blk w3 gp 37 [.int .i64 shop,.int .i64 seq,.int .i64 day,.slice A t c,.int .i64 clause,.slice B m d,.string sl]) := hid (K3.out.blk BPi.out (out_apart Oi.out BPi.out NP.out (by decide))).1
   have X3 : Hid (Ext w w3) := hid (base_kept Oi.out K3.out Xi.out (Nat.le_refl _))
   have HB3 : Hid (w.heap.size ≤ w3.heap.size) := hid X3.out.size
   clear cf HC2 Vi Oi BPi Xi HBi K3 V2 O2 BP2 X2 HB2
   obtain ⟨E,hE⟩ : ∃ E,E = encInt (ops.length : Int) := ⟨_,rfl⟩
   obtain ⟨me,hme⟩ : ∃ z,z = E.length := ⟨_,rfl⟩
   have HOM : Hid (ops.length = m) := hid HS.out.len.2.2
   have hmf : m ≤ 1000000 := HS.out.ofew
   have HIN : Hid (∀ W,Calls Tryz.prog 52 #[.int .i64 (m : Int)] W fun e w' => (∃ b o c,e = .returned (.slice (some ⟨b,o,none⟩) me c) ∧ (me ≤ c ∧ c ≤ maxLen) ∧ Rd w' w'.heap.size (some ⟨b,o,none⟩) me (u8s E)) ∧ Ext W w') := hid (fun W => pintR (m : Int) W (by omega) (by omega) E me (by rw [hE,HOM.out]) hme.symm)
   have HMP : Hid (0 < me) := hid (by rw [hme,hE,encInt_length];omega)
   have HO3' := hid O3.out
   obtain ⟨hbg,A0,c0,hbl,hown⟩ := HO3'.out
   obtain ⟨k0,hk0⟩ : ∃ k,k = (F0 ++ F1).length := ⟨_,rfl⟩
   rw [← hk0] at hbl hown
   have HBG := hid hbg;have HBL := hid hbl;have HOW := hid hown;have HKL := hid hk0;have HME := hid hme
   have hk9 : k0 + me ≤ 1000000000 := by
    have h := HSZ.out
    rw [hk0,hme,hE,List.length_append]
    omega
   have HEE := hid hE
   clear hE hme hk0 hbg hbl hown HO3'
   refine wp_region_flowF 5 ?FW13 (fun us => ?_) (by kernel_rfl) (by kernel_rfl) (fun a b => Ext a b) Ext.refl (fun h1 h2 => h1.next h2) (fun i v W => match i with
    | 0 => v = .slice A0 k0 c0
    | 1 => v = .pointer (some ⟨gp,5,none⟩)
    | 2 => v = .slice B m d
    | 3 => v = .int .i64 (m : Int)
    | 4 => ∃ b2 o2 c2,v = .slice (some ⟨b2,o2,none⟩) me c2 ∧ Rd W W.heap.size (some ⟨b2,o2,none⟩) me (u8s E)
    | _ => True) ?_ ?_
   case refine_1 =>
    simp only [List.take_succ_cons,List.take_zero,flowAct,Nat.zero_add,Nat.reduceAdd,Act.put,List.setIfInBounds_toArray,List.set_cons_succ,List.set_cons_zero]
    rfl
   ·simp only [List.take_succ_cons,List.take_zero,flowStepsF]
    refine ⟨?_,?_,?_,?_,?_,trivial⟩
    ·intro us W K hE hd hK
     have cc : W.cell? ⟨g3,0,none⟩ = some (.slice A0 k0 c0) := (HBL.out.ext (sg_undrew hE)).cell 0
     dsimp only at hK ⊢
     have HK := hid hK;have HE := hid hE
     clear hK hd hE
     go_wp2_with fail
     exact K_at (HK.out (.slice A0 k0 c0) W (fun _ _ => rfl) (Ext.refl W)) (by kernel_rfl)
    ·intro us W K hE hd hK
     dsimp only at hK ⊢
     have HK := hid hK;have HE := hid hE
     clear hK hd hE
     go_wp2_with fail
     exact K_at (HK.out (.pointer (some ⟨gp,5,none⟩)) W (fun _ _ => rfl) (Ext.refl W)) (by kernel_rfl)
    ·intro us W K hE hd hK
     have d1 := hd 1 (by kernel_rfl)
     have cc : W.cell? ⟨gp,5,none⟩ = some (.slice B m d) := (BP3.out.ext (sg_undrew hE)).cell 5
     dsimp only at hK ⊢
     rw [d1] at hK ⊢
     have HK := hid hK;have HE := hid hE
     clear hK hd hE d1
     go_wp2_with fail
     exact K_at (HK.out (.slice B m d) W (fun _ _ => rfl) (Ext.refl W)) (by kernel_rfl)
    ·intro us W K hE hd hK
     have d2 := hd 2 (by kernel_rfl)
     dsimp only at hK ⊢
     rw [d2] at hK ⊢
     have HK := hid hK;have HE := hid hE
     clear hK hd hE d2
     go_wp2_with fail
     exact K_at (HK.out (.int .i64 (m : Int)) W (fun _ _ => rfl) (Ext.refl W)) (by kernel_rfl)
    ·intro us W K hE hd hK
     have d3 := hd 3 (by kernel_rfl)
     have HIW := hid (HIN.out W)
     dsimp only at hK ⊢
     rw [d3] at hK ⊢
     have HK := hid hK;have HE := hid hE
     clear hK hd hE d3
     go_wp2_with ((go_at_call 52;(with_reducible refine HIW.out.mono ?_);rintro e w6 ⟨⟨b6,o6,c6,rfl,_,hr6⟩,hB6⟩;have HR6 := hid hr6;clear hr6))
     exact K_at (HK.out (.slice (some ⟨b6,o6,none⟩) me c6) w6 (fun W2 h2 => ⟨b6,o6,c6,rfl,Rd.ext' HR6.out h2⟩) hB6) (by kernel_rfl)
   ·intro us W hE hd
    try dsimp only
    have d0 := hd 0 (by decide)
    obtain ⟨b2,o2,c2,d2,hr2⟩ := hd 4 (by decide)
    simp only [List.drop_succ_cons,List.drop_zero]
    rw [d0,d2]
    have EW := hid (sg_undrew hE)
    have HR2 := hid hr2
    clear hd hE d0 d2 hr2
    have HBW := hid (HBL.out.ext EW.out)
    have HOWW : Hid (W.ownsRow w.heap.size 5 1 (.slice A0 k0 c0) k0 (u8s (F0 ++ F1))) := hid ((Kept.of_ext (F := fun _ => False) EW.out).own HOW.out (fun _ _ h => h))
    have hbw : w.heap.size ≤ W.heap.size := Nat.le_trans HB3.out EW.out.size
    have HNF : Hid (∀ b,(Value.slice A0 k0 c0).ownBlock = some b → b ≠ g3) := hid (out_row_apart HBW.out HOWW.out)
    have HC2 : Hid (∀ j u,(u8s E)[j]? = some u → W.cell? ((⟨b2,o2,none⟩ : Addr).add j) = some u) := hid (fun j u hu => by rw [Addr.add_mid];obtain ⟨b9,o9,h9,_,h8⟩ := HR2.out.2 HMP.out;injection h9 with h9;injection h9 with h9a h9b;subst h9a h9b;exact h8 j u hu)
    have HML := HR2.out.1
    go_upto_region 14 with (at_builtin;(refine wpList_append_own_at _ rfl (.tmp 45) (.tmp 49) 49 rfl w.heap.size 5 i0 (.int .u8 0) 1 1 Tryz.underlying49 hi hz0 hz1 hz2 rfl (by omega) (.slice A0 k0 c0) k0 (u8s (F0 ++ F1)) rfl HOWW.out ⟨b2,o2,none⟩ me c2 (u8s E) rfl (by rw [HML,Nat.mul_one]) HC2.out (u8s_one _) (by simp only [maxLen];omega) (by omega) hbw ?_;intro v7 w7 ho7 hg7 _ hat7;obtain ⟨A7,c7,rfl⟩ := own_shp ho7;have HO7 := hid ho7;have HG7 := hid hg7;have HAT := hid hat7;have hb7 : Blk w7 g3 49 [.slice A0 k0 c0] := (hg7.block g3 HBW.out.lt (fun e => HNF.out g3 e.symm rfl)).trans HBW.out;have HB7 := hid hb7;have fz7 := hb7.frozen 0;have cd7 : w7.cell? ⟨g3,0,none⟩ = some (.slice A0 k0 c0) := hb7.cell 0;clear ho7 hg7 hb7 hat7))
    have HPUT := out_put HBG.out HBL.out EW.out HO7.out HG7.out HAT.out HB7.out HKL.out HME.out
    obtain ⟨w4,hw4⟩ : ∃ x,x = w7.setCell ⟨g3,0,none⟩ (.slice A7 (k0 + me) c7) := ⟨_,rfl⟩
    rw [← hw4] at HPUT ⊢
    have O4 : Hid (OutS w.heap.size g3 (F0 ++ F1 ++ E) w4) := hid HPUT.1
    have K4 : Hid (OutK g3 w3 w4) := hid HPUT.2
    have V4 : Hid (EncV w.heap.size g3 g4 g5 w4) := hid (V3.out.keep O3.out K4.out)
    have BP4 : Hid (Blk w4 gp 37 [.int .i64 shop,.int .i64 seq,.int .i64 day,.slice A t c,.int .i64 clause,.slice B m d,.string sl]) := hid (K4.out.blk BP3.out (out_apart O3.out BP3.out NP.out (by decide))).1
    have X4 : Hid (Ext w w4) := hid (base_kept O3.out K4.out X3.out (Nat.le_refl _))
    have HB4 : Hid (w.heap.size ≤ w4.heap.size) := hid X4.out.size
    clear hw4 HPUT fz7 cd7 HB7 HAT HG7 HO7 HNF HC2 HR2 HOWW HBW EW hbw HML HIN HMP HBL HOW HBG HKL HME V3 BP3 X3 HB3 K4 O3
    have c5 : w4.cell? ⟨gp,5,none⟩ = some (.slice B m d) := BP4.out.cell 5
    have HXE : Hid (∀ q : Nat,q < m → ∃ (b o : Nat) (x : OX),B = some ⟨b,o,none⟩ ∧ ops[q]? = some x.o ∧ OpV w x.o x.cs ∧ OpW x.o ∧ ∀ W,Ext w W → W.rangeAt b (o + q * 28) x.cs) := hid (fun q hq => by
     have hl := HS.out.len
     obtain ⟨b,o,hA,hb,hc⟩ := HS.out.ops.2 (by omega)
     have hx : X[q]? = some (X[q]'(by omega)) := List.getElem?_eq_getElem _
     have hm : X[q]'(by omega) ∈ X := List.getElem_mem _
     have ho : ops[q]? = some (X[q]'(by omega)).o := by
      have h := congrArg (fun l => l[q]?) HS.out.same
      dsimp only at h
      rw [List.getElem?_map,hx] at h
      exact h.symm
     refine ⟨b,o,_,hA,ho,HS.out.each _ hm,HW.out.ops _ (List.mem_of_getElem? ho),fun W hW j v hv => ?_⟩
     have hj : j < 28 := by
      have h1 := (List.getElem?_eq_some_iff.1 hv).1
      rw [(HS.out.each _ hm).len] at h1
      exact h1
     rw [Nat.add_assoc]
     exact (hW.cell (p := ⟨b,o + (q * 28 + j),none⟩) hb).trans (hc (q * 28 + j) v ((flatK_at oxC 28 X (fun y hy => (HS.out.each y hy).len) q _ hx j hj).trans hv)))
    go_wp2_with fail
    go_loopw [10,11,13,54] (fun _ _ _ s54 wr => ∃ q : Nat,q ≤ m ∧ s54 = .int .i64 (q : Int) ∧ OutS w.heap.size g3 (F0 ++ F1 ++ E ++ (ops.take q).flatMap encO) wr ∧ OutK g3 w4 wr) (fun _ _ _ s54 _ => m - (intOf s54).toNat)
    case atStart => exact ⟨0,Nat.zero_le _,rfl,by rw [List.take_zero,List.flatMap_nil,List.append_nil];exact O4.out,OutK.refl _ _⟩
    case round =>
     obtain ⟨q,hq,rfl,hOi,hKi⟩ := hrel
     obtain ⟨wo,rfl⟩ : ∃ x : World,x = wr := ⟨_,rfl⟩
     have Oo := hid hOi;have Ko := hid hKi
     clear hOi hKi
     have Vo : Hid (EncV w.heap.size g3 g4 g5 wo) := hid (V4.out.keep O4.out Ko.out)
     have Xo : Hid (Ext w wo) := hid (base_kept O4.out Ko.out X4.out (Nat.le_refl _))
     by_cases hlt2 : q < m
     ·obtain ⟨b,o,⟨x,cs⟩,hB,hget,hov,how,hrg⟩ := HXE.out q hlt2
      subst hB
      dsimp only at hget hov how hrg
      obtain ⟨tt,nd,TA,tn,tc,rfl,hS2⟩ := hov
      obtain ⟨t0,t1,t2,t3,t4,rfl⟩ := list5 tt hS2.ty.len
      obtain ⟨uu,KA,kn,kc,NA,nn,nc,rfl,hN2⟩ := hS2.nod
      obtain ⟨u0,u1,u2,u3,u4,rfl⟩ := list5 uu hN2.ty.len
      obtain ⟨k,⟨s,q1,z1⟩,⟨s2,q2,i2⟩,N,M,nam,ty,⟨nk,nN,⟨r1,r2,r3⟩,nty,kids,names⟩,texts⟩ := x
      have HONE : Hid (∀ v ∈ ([.int .i64 k,.int .i64 s,.int .i64 q1,.int .i64 z1,.int .i64 s2,.int .i64 q2,.int .i64 i2,.int .i64 N,.int .i64 M,.string nam,t0,t1,t2,t3,t4,.int .i64 nk,.int .i64 nN,.int .i64 r1,.int .i64 r2,.int .i64 r3,u0,u1,u2,u3,u4,.slice KA kn kc,.slice NA nn nc,.slice TA tn tc] : List Value),v.oneCell' = true) := hid (OpV.one ⟨_,_,_,_,_,rfl,hS2⟩)
      have HRG : Hid (wo.rangeAt b (o + q * 28) [.int .i64 k,.int .i64 s,.int .i64 q1,.int .i64 z1,.int .i64 s2,.int .i64 q2,.int .i64 i2,.int .i64 N,.int .i64 M,.string nam,t0,t1,t2,t3,t4,.int .i64 nk,.int .i64 nN,.int .i64 r1,.int .i64 r2,.int .i64 r3,u0,u1,u2,u3,u4,.slice KA kn kc,.slice NA nn nc,.slice TA tn tc]) := hid (hrg wo Xo.out)
      obtain ⟨L0,hL0⟩ : ∃ L,L = F0 ++ F1 ++ E ++ (ops.take q).flatMap encO := ⟨_,rfl⟩
      have HSO : Hid (F0 ++ F1 ++ E ++ (ops.take (q + 1)).flatMap encO = L0 ++ encO ⟨k,⟨s,q1,z1⟩,⟨s2,q2,i2⟩,N,M,nam,ty,⟨nk,nN,⟨r1,r2,r3⟩,nty,kids,names⟩,texts⟩) := hid (by
       rw [hL0,List.take_add_one,hget,List.flatMap_append,← List.append_assoc]
       simp)
      have HLN : Hid (L0.length + (encO ⟨k,⟨s,q1,z1⟩,⟨s2,q2,i2⟩,N,M,nam,ty,⟨nk,nN,⟨r1,r2,r3⟩,nty,kids,names⟩,texts⟩).length ≤ 1000000000) := hid (by
       have h1 := congrArg List.length HSO.out
       have h2 := HSZ.out
       have h3 := flat_le encO ops (q + 1)
       simp only [List.length_append] at h1
       rw [← HEE.out] at h2
       omega)
      rw [← hL0] at Oo
      have EN1 : Hid (∀ y ∈ [k,s,q1,z1,s2,q2,i2,N,M],-9223372036854775808 ≤ y ∧ y ≤ 9223372036854775807) := hid (opN_i64 how)
      have EN2 : Hid (∀ y ∈ [nk,nN,r1,r2,r3],-9223372036854775808 ≤ y ∧ y ≤ 9223372036854775807) := hid (nodN_i64 how.node)
      have EN3 : Hid (∀ y ∈ kids.flatMap thrI,-9223372036854775808 ≤ y ∧ y ≤ 9223372036854775807) := hid (kids_i64 how.node.kids)
      have HTYV : Hid (TyV w ty [t0,t1,t2,t3,t4]) := hid hS2.ty
      have HTYW : Hid (TyW ty) := hid how.ty
      have HNYV : Hid (TyV w nty [u0,u1,u2,u3,u4]) := hid hN2.ty
      have HNYW : Hid (TyW nty) := hid how.node.ty
      have HNAM : Hid (nam.size ≤ 1000000) := hid how.name
      have HTX : Hid (Rd w w.heap.size TA tn (texts.map Value.string) ∧ (∀ s ∈ texts,s.size ≤ 1000000) ∧ tn ≤ 1000000) := hid ⟨hS2.txt,how.texts,hS2.tfew⟩
      have HNX : Hid (Rd w w.heap.size NA nn (names.map Value.string) ∧ (∀ s ∈ names,s.size ≤ 1000000) ∧ nn ≤ 1000000) := hid ⟨hN2.nms,how.node.names,hN2.nfew⟩
      have HKD : Hid (RdN w w.heap.size 3 KA kn (idsC kids) ∧ kn ≤ 1000000) := hid ⟨hN2.kids,hN2.kfew⟩
      obtain ⟨P1,hP1⟩ : ∃ L,L = encL encInt [k,s,q1,z1,s2,q2,i2,N,M] := ⟨_,rfl⟩
      obtain ⟨P2,hP2⟩ : ∃ L,L = encB nam := ⟨_,rfl⟩
      obtain ⟨P3,hP3⟩ : ∃ L,L = encT ty := ⟨_,rfl⟩
      obtain ⟨P4,hP4⟩ : ∃ L,L = encL encInt [nk,nN,r1,r2,r3] := ⟨_,rfl⟩
      obtain ⟨P5,hP5⟩ : ∃ L,L = encT nty := ⟨_,rfl⟩
      obtain ⟨P6,hP6⟩ : ∃ L,L = encL encInt (kids.flatMap thrI) := ⟨_,rfl⟩
      obtain ⟨P7,hP7⟩ : ∃ L,L = encL encB names := ⟨_,rfl⟩
      obtain ⟨P8,hP8⟩ : ∃ L,L = encL encB texts := ⟨_,rfl⟩
      have HEO : Hid (encO ⟨k,⟨s,q1,z1⟩,⟨s2,q2,i2⟩,N,M,nam,ty,⟨nk,nN,⟨r1,r2,r3⟩,nty,kids,names⟩,texts⟩ = P1 ++ P2 ++ P3 ++ (P4 ++ P5 ++ P6 ++ P7) ++ P8) := hid (by rw [hP1,hP2,hP3,hP4,hP5,hP6,hP7,hP8];rfl)
      have HSO2 : Hid (F0 ++ F1 ++ E ++ (ops.take (q + 1)).flatMap encO = L0 ++ P1 ++ P2 ++ P3 ++ P4 ++ P5 ++ P6 ++ P7 ++ P8) := hid (by rw [HSO.out,HEO.out];simp only [List.append_assoc])
      have HLN2 : Hid (L0.length + P1.length + P2.length + P3.length + P4.length + P5.length + P6.length + P7.length + P8.length ≤ 1000000000) := hid (by have h := HLN.out;rw [HEO.out] at h;simp only [List.length_append] at h;omega)
      have EQ := hid (And.intro hP1 (And.intro hP2 (And.intro hP3 (And.intro hP4 (And.intro hP5 (And.intro hP6 (And.intro hP7 hP8)))))))
      clear hS2 hN2 how hget hrg hL0 HSO HLN HEO hP1 hP2 hP3 hP4 hP5 hP6 hP7 hP8
      go_upto_region 17 with (first
       | ((with_reducible refine wpList_load_row 33 b (o + q * 28) [.int .i64 k,.int .i64 s,.int .i64 q1,.int .i64 z1,.int .i64 s2,.int .i64 q2,.int .i64 i2,.int .i64 N,.int .i64 M,.string nam,t0,t1,t2,t3,t4,.int .i64 nk,.int .i64 nN,.int .i64 r1,.int .i64 r2,.int .i64 r3,u0,u1,u2,u3,u4,.slice KA kn kc,.slice NA nn nc,.slice TA tn tc] HRG.out Tryz.underlying33 rfl (op_info.trans rfl) ?_ ?_ ?_);kernel_rfl;rfl)
       | (refine wpList_store_freshw rfl 33 (.tmp 10) (.tmp 57) rfl wo.heap.size rfl [.int .i64 0,.int .i64 0,.int .i64 0,.int .i64 0,.int .i64 0,.int .i64 0,.int .i64 0,.int .i64 0,.int .i64 0,.string ⟨#[]⟩,.int .i64 0,.int .i64 0,.int .i64 0,.int .i64 0,.slice none 0 0,.int .i64 0,.int .i64 0,.int .i64 0,.int .i64 0,.int .i64 0,.int .i64 0,.int .i64 0,.int .i64 0,.int .i64 0,.slice none 0 0,.slice none 0 0,.slice none 0 0,.slice none 0 0] [.int .i64 k,.int .i64 s,.int .i64 q1,.int .i64 z1,.int .i64 s2,.int .i64 q2,.int .i64 i2,.int .i64 N,.int .i64 M,.string nam,t0,t1,t2,t3,t4,.int .i64 nk,.int .i64 nN,.int .i64 r1,.int .i64 r2,.int .i64 r3,u0,u1,u2,u3,u4,.slice KA kn kc,.slice NA nn nc,.slice TA tn tc] 33 (by kernel_rfl) (by kernel_rfl) (op_info.trans rfl) rfl (HONE.out) ?_;intro w5 hw5 hE5 hz5;have B5 := hid hw5;have E5 := hid hE5;clear hw5 hE5 hz5))
      obtain ⟨gO,hgO⟩ : ∃ g,g = wo.heap.size := ⟨_,rfl⟩
      rw [← hgO] at B5 ⊢
      have S5 : Hid (EncO w g3 g4 g5 gO w4 [.int .i64 k,.int .i64 s,.int .i64 q1,.int .i64 z1,.int .i64 s2,.int .i64 q2,.int .i64 i2,.int .i64 N,.int .i64 M,.string nam,t0,t1,t2,t3,t4,.int .i64 nk,.int .i64 nN,.int .i64 r1,.int .i64 r2,.int .i64 r3,u0,u1,u2,u3,u4,.slice KA kn kc,.slice NA nn nc,.slice TA tn tc] L0 w5) := hid ⟨Oo.out.ext E5.out,Vo.out.ext E5.out,Xo.out.next E5.out,B5.out,Ko.out.trans (OutK.of_ext E5.out Oo.out.lt),by have := Oo.out.lt;omega⟩
      clear hgO HRG HONE Oo Vo Xo Ko B5 E5
      refine wp_region_flowF 17 ?FW17 (fun us => ?_) (by kernel_rfl) (by kernel_rfl) (fun a b => Ext a b) Ext.refl (fun h1 h2 => h1.next h2) (fun i v W => match i with
       | 0 => v = .func (.func 49) #[] #[.pointer (some ⟨g3,0,none⟩)]
       | 1 => v = .pointer (some ⟨gO,0,none⟩)
       | 2 => v = .int .i64 k
       | 3 => ∃ a,v = .slice (some ⟨a,0,none⟩) 1 1 ∧ Rd W W.heap.size (some ⟨a,0,none⟩) 1 (i8s [k])
       | 4 => v = .pointer (some ⟨gO,1,none⟩)
       | 5 => v = .agg #[.int .i64 s,.int .i64 q1,.int .i64 z1]
       | 6 => ∃ a c,v = .slice (some ⟨a,0,none⟩) 3 c ∧ Rd W W.heap.size (some ⟨a,0,none⟩) 3 (i8s [s,q1,z1])
       | 7 => v = .pointer (some ⟨gO,4,none⟩)
       | 8 => v = .agg #[.int .i64 s2,.int .i64 q2,.int .i64 i2]
       | 9 => ∃ a c,v = .slice (some ⟨a,0,none⟩) 3 c ∧ Rd W W.heap.size (some ⟨a,0,none⟩) 3 (i8s [s2,q2,i2])
       | 10 => v = .pointer (some ⟨gO,7,none⟩)
       | 11 => v = .int .i64 N
       | 12 => v = .pointer (some ⟨gO,8,none⟩)
       | 13 => v = .int .i64 M
       | 14 => ∃ a,v = .slice (some ⟨a,0,none⟩) 2 2 ∧ Rd W W.heap.size (some ⟨a,0,none⟩) 2 (i8s [N,M])
       | 15 => ∃ g7,v = .slice (some ⟨g7,0,none⟩) 4 4 ∧ g7 < W.heap.size ∧ RdLi W W.heap.size g7 0 [[k],[s,q1,z1],[s2,q2,i2],[N,M]]
       | 16 => ∃ A c,v = .slice A 9 c ∧ Rd W W.heap.size A 9 (i8s [k,s,q1,z1,s2,q2,i2,N,M])
       | _ => True) ?_ ?_
      case refine_1 =>
       simp only [List.take_succ_cons,List.take_zero,flowAct,Nat.zero_add,Nat.reduceAdd,Act.put,List.setIfInBounds_toArray,List.set_cons_succ,List.set_cons_zero]
       rfl
      ·simp only [List.take_succ_cons,List.take_zero,flowStepsF]
       refine ⟨?_,?_,?_,?_,?_,?_,?_,?_,?_,?_,?_,?_,?_,?_,?_,?_,?_,trivial⟩
       ·intro us W K hE hd hK
        have cf : W.cell? ⟨g4,0,none⟩ = some (.func (.func 49) #[] #[.pointer (some ⟨g3,0,none⟩)]) := (S5.out.v.b4.ext (sg_undrew hE)).cell 0
        dsimp only at hK ⊢
        have HK := hid hK;have HE := hid hE
        clear hK hd hE
        go_wp2_with fail
        exact K_at (HK.out (.func (.func 49) #[] #[.pointer (some ⟨g3,0,none⟩)]) W (fun _ _ => rfl) (Ext.refl W)) (by kernel_rfl)
       ·intro us W K hE hd hK
        dsimp only at hK ⊢
        have HK := hid hK;have HE := hid hE
        clear hK hd hE
        go_wp2_with fail
        exact K_at (HK.out (.pointer (some ⟨gO,0,none⟩)) W (fun _ _ => rfl) (Ext.refl W)) (by kernel_rfl)
       ·intro us W K hE hd hK
        have d1 := hd 1 (by kernel_rfl)
        have cc0 : W.cell? ⟨gO,0,none⟩ = some (.int .i64 k) := (S5.out.b.ext (sg_undrew hE)).cell 0
        dsimp only at hK ⊢
        rw [d1] at hK ⊢
        have HK := hid hK;have HE := hid hE
        clear hK hd hE d1
        go_wp2_with fail
        exact K_at (HK.out (.int .i64 k) W (fun _ _ => rfl) (Ext.refl W)) (by kernel_rfl)
       ·intro us W K hE hd hK
        have d2 := hd 2 (by kernel_rfl)
        dsimp only at hK ⊢
        rw [d2] at hK ⊢
        have HK := hid hK;have HE := hid hE
        clear hK hd hE d2
        go_wp2_with fail
        exact K_at (HK.out (.slice (some ⟨W.heap.size,0,none⟩) 1 1) (W.alloc (.cells #[.int .i64 k] 3)) (fun W2 h2 => ⟨W.heap.size,rfl,Rd.ext' (Rd.fresh_fr W #[.int .i64 k] 3 (0,0) _ 1 rfl rfl) h2⟩) ((Ext.refl W).alloc _)) (by kernel_rfl)
       ·intro us W K hE hd hK
        dsimp only at hK ⊢
        have HK := hid hK;have HE := hid hE
        clear hK hd hE
        go_wp2_with fail
        exact K_at (HK.out (.pointer (some ⟨gO,1,none⟩)) W (fun _ _ => rfl) (Ext.refl W)) (by kernel_rfl)
       ·intro us W K hE hd hK
        have d4 := hd 4 (by kernel_rfl)
        have cc1 : W.cell? ⟨gO,1,none⟩ = some (.int .i64 s) := (S5.out.b.ext (sg_undrew hE)).cell 1
        have cc2 : W.cell? ⟨gO,2,none⟩ = some (.int .i64 q1) := (S5.out.b.ext (sg_undrew hE)).cell 2
        have cc3 : W.cell? ⟨gO,3,none⟩ = some (.int .i64 z1) := (S5.out.b.ext (sg_undrew hE)).cell 3
        dsimp only at hK ⊢
        rw [d4] at hK ⊢
        have HK := hid hK;have HE := hid hE
        clear hK hd hE d4
        go_wp2_with fail
        exact K_at (HK.out (.agg #[.int .i64 s,.int .i64 q1,.int .i64 z1]) W (fun _ _ => rfl) (Ext.refl W)) (by kernel_rfl)
       ·intro us W K hE hd hK
        have d5 := hd 5 (by kernel_rfl)
        have HTH := hid (three_any ⟨s,q1,z1⟩ W)
        dsimp only at hK ⊢
        rw [d5] at hK ⊢
        have HK := hid hK;have HE := hid hE
        clear hK hd hE d5
        go_wp2_with ((go_at_call 54;(with_reducible refine HTH.out.mono ?_);rintro e w6 ⟨⟨ga,ca,rfl,_,_,hr6⟩,hB6⟩;have HR6 := hid hr6;clear hr6))
        exact K_at (HK.out (.slice (some ⟨ga,0,none⟩) 3 ca) w6 (fun W2 h2 => ⟨ga,ca,rfl,Rd.ext' HR6.out h2⟩) hB6) (by kernel_rfl)
       ·intro us W K hE hd hK
        dsimp only at hK ⊢
        have HK := hid hK;have HE := hid hE
        clear hK hd hE
        go_wp2_with fail
        exact K_at (HK.out (.pointer (some ⟨gO,4,none⟩)) W (fun _ _ => rfl) (Ext.refl W)) (by kernel_rfl)
       ·intro us W K hE hd hK
        have d7 := hd 7 (by kernel_rfl)
        have cc4 : W.cell? ⟨gO,4,none⟩ = some (.int .i64 s2) := (S5.out.b.ext (sg_undrew hE)).cell 4
        have cc5 : W.cell? ⟨gO,5,none⟩ = some (.int .i64 q2) := (S5.out.b.ext (sg_undrew hE)).cell 5
        have cc6 : W.cell? ⟨gO,6,none⟩ = some (.int .i64 i2) := (S5.out.b.ext (sg_undrew hE)).cell 6
        dsimp only at hK ⊢
        rw [d7] at hK ⊢
        have HK := hid hK;have HE := hid hE
        clear hK hd hE d7
        go_wp2_with fail
        exact K_at (HK.out (.agg #[.int .i64 s2,.int .i64 q2,.int .i64 i2]) W (fun _ _ => rfl) (Ext.refl W)) (by kernel_rfl)
       ·intro us W K hE hd hK
        have d8 := hd 8 (by kernel_rfl)
        have HTH := hid (three_any ⟨s2,q2,i2⟩ W)
        dsimp only at hK ⊢
        rw [d8] at hK ⊢
        have HK := hid hK;have HE := hid hE
        clear hK hd hE d8
        go_wp2_with ((go_at_call 54;(with_reducible refine HTH.out.mono ?_);rintro e w6 ⟨⟨ga,ca,rfl,_,_,hr6⟩,hB6⟩;have HR6 := hid hr6;clear hr6))
        exact K_at (HK.out (.slice (some ⟨ga,0,none⟩) 3 ca) w6 (fun W2 h2 => ⟨ga,ca,rfl,Rd.ext' HR6.out h2⟩) hB6) (by kernel_rfl)
       ·intro us W K hE hd hK
        dsimp only at hK ⊢
        have HK := hid hK;have HE := hid hE
        clear hK hd hE
        go_wp2_with fail
        exact K_at (HK.out (.pointer (some ⟨gO,7,none⟩)) W (fun _ _ => rfl) (Ext.refl W)) (by kernel_rfl)
       ·intro us W K hE hd hK
        have d10 := hd 10 (by kernel_rfl)
        have cc7 : W.cell? ⟨gO,7,none⟩ = some (.int .i64 N) := (S5.out.b.ext (sg_undrew hE)).cell 7
        dsimp only at hK ⊢
        rw [d10] at hK ⊢
        have HK := hid hK;have HE := hid hE
        clear hK hd hE d10
        go_wp2_with fail
        exact K_at (HK.out (.int .i64 N) W (fun _ _ => rfl) (Ext.refl W)) (by kernel_rfl)
       ·intro us W K hE hd hK
        dsimp only at hK ⊢
        have HK := hid hK;have HE := hid hE
        clear hK hd hE
        go_wp2_with fail
        exact K_at (HK.out (.pointer (some ⟨gO,8,none⟩)) W (fun _ _ => rfl) (Ext.refl W)) (by kernel_rfl)
       ·intro us W K hE hd hK
        have d12 := hd 12 (by kernel_rfl)
        have cc8 : W.cell? ⟨gO,8,none⟩ = some (.int .i64 M) := (S5.out.b.ext (sg_undrew hE)).cell 8
        dsimp only at hK ⊢
        rw [d12] at hK ⊢
        have HK := hid hK;have HE := hid hE
        clear hK hd hE d12
        go_wp2_with fail
        exact K_at (HK.out (.int .i64 M) W (fun _ _ => rfl) (Ext.refl W)) (by kernel_rfl)
       ·intro us W K hE hd hK
        have d11 := hd 11 (by kernel_rfl)
        have d13 := hd 13 (by kernel_rfl)
        dsimp only at hK ⊢
        rw [d11,d13] at hK ⊢
        have HK := hid hK;have HE := hid hE
        clear hK hd hE d11 d13
        go_wp2_with fail
        exact K_at (HK.out (.slice (some ⟨W.heap.size,0,none⟩) 2 2) (W.alloc (.cells #[.int .i64 N,.int .i64 M] 3)) (fun W2 h2 => ⟨W.heap.size,rfl,Rd.ext' (Rd.fresh_fr W #[.int .i64 N,.int .i64 M] 3 (0,0) _ 2 rfl rfl) h2⟩) ((Ext.refl W).alloc _)) (by kernel_rfl)
       ·intro us W K hE hd hK
        obtain ⟨a3,d3,h3⟩ := hd 3 (by kernel_rfl)
        obtain ⟨a6,c6,d6,h6⟩ := hd 6 (by kernel_rfl)
        obtain ⟨a9,c9,d9,h9⟩ := hd 9 (by kernel_rfl)
        obtain ⟨a14,d14,h14⟩ := hd 14 (by kernel_rfl)
        have H3 := hid h3;have H6 := hid h6;have H9 := hid h9;have H14 := hid h14
        clear h3 h6 h9 h14
        dsimp only at hK ⊢
        rw [d3,d6,d9,d14] at hK ⊢
        have HK := hid hK;have HE := hid hE
        clear hK hd hE d3 d6 d9 d14
        go_wp2_with fail
        exact K_at (HK.out (.slice (some ⟨W.heap.size,0,none⟩) 4 4) (W.alloc (.cells #[.slice (some ⟨a3,0,none⟩) 1 1,.slice (some ⟨a6,0,none⟩) 3 c6,.slice (some ⟨a9,0,none⟩) 3 c9,.slice (some ⟨a14,0,none⟩) 2 2] 43)) (fun W2 h2 => ⟨W.heap.size,rfl,Nat.lt_of_lt_of_le (by simp) h2.size,RdLi.ext (rdli4 (a := [k]) (b := [s,q1,z1]) (c := [s2,q2,i2]) (d := [N,M]) rfl _ H3.out H6.out H9.out H14.out) (by simp) h2⟩) ((Ext.refl W).alloc _)) (by kernel_rfl)
       ·intro us W K hE hd hK
        obtain ⟨g7,d15,h7,h15⟩ := hd 15 (by kernel_rfl)
        have HCC := hid (concati_any [[k],[s,q1,z1],[s2,q2,i2],[N,M]] g7 0 4 4 W h15 h7 rfl (by decide) (by simp))
        clear h7 h15
        dsimp only at hK ⊢
        rw [d15] at hK ⊢
        have HK := hid hK;have HE := hid hE
        clear hK hd hE d15
        go_wp2_with ((go_at_call 53;(with_reducible refine HCC.out.mono ?_);rintro e w6 ⟨⟨A9,c9,rfl,ho6⟩,hB6⟩;have HR6 : Hid (Rd w6 w6.heap.size A9 9 (i8s [k,s,q1,z1,s2,q2,i2,N,M])) := hid (Rd.of_own ho6);clear ho6))
        exact K_at (HK.out (.slice A9 9 c9) w6 (fun W2 h2 => ⟨A9,c9,rfl,Rd.ext' HR6.out h2⟩) hB6) (by kernel_rfl)
      ·intro us W hE hd
       try dsimp only
       have d0 := hd 0 (by decide)
       obtain ⟨A9,c9,dn,hn9⟩ := hd 16 (by decide)
       simp only [List.drop_succ_cons,List.drop_zero]
       rw [d0,dn]
       have EW := hid (sg_undrew hE)
       have HN9 := hid hn9
       clear hd hE d0 dn hn9
       have SW := hid (S5.out.ext EW.out)
       have HCI : Hid (Calls Tryz.prog 49 #[.slice A9 9 c9,.pointer (some ⟨g3,0,none⟩)] W fun e w' => e = .returned (.tuple #[]) ∧ OutS w.heap.size g3 (L0 ++ P1) w' ∧ OutK g3 W w') := hid (by rw [EQ.out.1];exact HEI.out [k,s,q1,z1,s2,q2,i2,N,M] A9 9 c9 (L0) W HN9.out EN1.out (by decide) SW.out.o SW.out.x.size (by rw [← EQ.out.1];have h := HLN2.out;omega))
       go_upto_region 18 with ((go_at_call 49;(with_reducible refine HCI.out.mono ?_);rintro e w6 ⟨rfl,hO6,hK6⟩;have S6 := hid (SW.out.step hO6 hK6);clear hO6 hK6))
       clear HCI HN9 SW EW S5
       obtain ⟨hbg,A0,c0,hbl,hown⟩ := S6.out.o
       obtain ⟨k0,hk0⟩ : ∃ k,k = (L0 ++ P1).length := ⟨_,rfl⟩
       obtain ⟨me,hme⟩ : ∃ k,k = P2.length := ⟨_,rfl⟩
       rw [← hk0] at hbl hown
       have HBG := hid hbg;have HBL := hid hbl;have HOW := hid hown;have HKL := hid hk0;have HME := hid hme
       have hk9 : k0 + me ≤ 1000000000 := by have h := HLN2.out;rw [hk0,hme];simp only [List.length_append];omega
       have HB3 : Hid (w.heap.size ≤ w6.heap.size) := hid S6.out.x.size
       have HIN : Hid (∀ W,Ext w6 W → Calls Tryz.prog 55 #[.string nam] W fun e w' => (∃ b o c,e = .returned (.slice (some ⟨b,o,none⟩) me c) ∧ (me ≤ c ∧ c ≤ maxLen) ∧ Rd w' w'.heap.size (some ⟨b,o,none⟩) me (u8s P2)) ∧ Ext W w') := hid (fun W _ => pbytR nam W HNAM.out P2 me EQ.out.2.1.symm HME.out.symm)
       have HMP : Hid (0 < me) := hid (by rw [HME.out,EQ.out.2.1,encB_length];omega)
       clear hbg hbl hown hk0 hme
       refine wp_region_flowF 4 ?FW18 (fun us => ?_) (by kernel_rfl) (by kernel_rfl) (fun a b => Ext a b) Ext.refl (fun h1 h2 => h1.next h2) (fun i v W => match i with
        | 0 => v = .slice A0 k0 c0
        | 1 => v = .pointer (some ⟨gO,9,none⟩)
        | 2 => v = .string nam
        | 3 => ∃ b2 o2 c2,v = .slice (some ⟨b2,o2,none⟩) me c2 ∧ Rd W W.heap.size (some ⟨b2,o2,none⟩) me (u8s P2)
        | _ => True) ?_ ?_
       case refine_1 =>
        simp only [List.take_succ_cons,List.take_zero,flowAct,Nat.zero_add,Nat.reduceAdd,Act.put,List.setIfInBounds_toArray,List.set_cons_succ,List.set_cons_zero]
        rfl
       ·simp only [List.take_succ_cons,List.take_zero,flowStepsF]
        refine ⟨?_,?_,?_,?_,trivial⟩
        ·intro us W K hE hd hK
         have cc : W.cell? ⟨g3,0,none⟩ = some (.slice A0 k0 c0) := (HBL.out.ext (sg_undrew hE)).cell 0
         dsimp only at hK ⊢
         have HK := hid hK;have HE := hid hE
         clear hK hd hE
         go_wp2_with fail
         exact K_at (HK.out (.slice A0 k0 c0) W (fun _ _ => rfl) (Ext.refl W)) (by kernel_rfl)
        ·intro us W K hE hd hK
         dsimp only at hK ⊢
         have HK := hid hK;have HE := hid hE
         clear hK hd hE
         go_wp2_with fail
         exact K_at (HK.out (.pointer (some ⟨gO,9,none⟩)) W (fun _ _ => rfl) (Ext.refl W)) (by kernel_rfl)
        ·intro us W K hE hd hK
         have d1 := hd 1 (by kernel_rfl)
         have cc9 : W.cell? ⟨gO,9,none⟩ = some (.string nam) := (S6.out.b.ext (sg_undrew hE)).cell 9
         dsimp only at hK ⊢
         rw [d1] at hK ⊢
         have HK := hid hK;have HE := hid hE
         clear hK hd hE d1
         go_wp2_with fail
         exact K_at (HK.out (.string nam) W (fun _ _ => rfl) (Ext.refl W)) (by kernel_rfl)
        ·intro us W K hE hd hK
         have d2 := hd 2 (by kernel_rfl)
         have HIW := hid (HIN.out W (sg_undrew hE))
         dsimp only at hK ⊢
         rw [d2] at hK ⊢
         have HK := hid hK;have HE := hid hE
         clear hK hd hE d2
         go_wp2_with ((go_at_call 55;(with_reducible refine HIW.out.mono ?_);rintro e w6 ⟨⟨b6,o6,c6,rfl,_,hr6⟩,hB6⟩;have HR6 := hid hr6;clear hr6))
         exact K_at (HK.out (.slice (some ⟨b6,o6,none⟩) me c6) w6 (fun W2 h2 => ⟨b6,o6,c6,rfl,Rd.ext' HR6.out h2⟩) hB6) (by kernel_rfl)
       ·intro us W hE hd
        try dsimp only
        have d0 := hd 0 (by decide)
        obtain ⟨b2,o2,c2,d2,hr2⟩ := hd 3 (by decide)
        simp only [List.drop_succ_cons,List.drop_zero]
        rw [d0,d2]
        have EW := hid (sg_undrew hE)
        have HR2 := hid hr2
        clear hd hE d0 d2 hr2
        have HBW := hid (HBL.out.ext EW.out)
        have HOWW : Hid (W.ownsRow w.heap.size 5 1 (.slice A0 k0 c0) k0 (u8s (L0 ++ P1))) := hid ((Kept.of_ext (F := fun _ => False) EW.out).own HOW.out (fun _ _ h => h))
        have hbw : w.heap.size ≤ W.heap.size := Nat.le_trans HB3.out EW.out.size
        have HNF : Hid (∀ b,(Value.slice A0 k0 c0).ownBlock = some b → b ≠ g3) := hid (out_row_apart HBW.out HOWW.out)
        have HC2 : Hid (∀ j u,(u8s P2)[j]? = some u → W.cell? ((⟨b2,o2,none⟩ : Addr).add j) = some u) := hid (fun j u hu => by rw [Addr.add_mid];obtain ⟨b9,o9,h9,_,h8⟩ := HR2.out.2 HMP.out;injection h9 with h9;injection h9 with h9a h9b;subst h9a h9b;exact h8 j u hu)
        have HML := HR2.out.1
        go_upto_region 19 with (at_builtin;(refine wpList_append_own_at _ rfl (.tmp 76) (.tmp 79) 49 rfl w.heap.size 5 i0 (.int .u8 0) 1 1 Tryz.underlying49 hi hz0 hz1 hz2 rfl (by omega) (.slice A0 k0 c0) k0 (u8s (L0 ++ P1)) rfl HOWW.out ⟨b2,o2,none⟩ me c2 (u8s P2) rfl (by rw [HML,Nat.mul_one]) HC2.out (u8s_one _) (by simp only [maxLen];omega) (by omega) hbw ?_;intro v7 w7 ho7 hg7 _ hat7;obtain ⟨A7,c7,rfl⟩ := own_shp ho7;have HO7 := hid ho7;have HG7 := hid hg7;have HAT := hid hat7;have hb7 : Blk w7 g3 49 [.slice A0 k0 c0] := (hg7.block g3 HBW.out.lt (fun e => HNF.out g3 e.symm rfl)).trans HBW.out;have HB7 := hid hb7;have fz7 := hb7.frozen 0;have cd7 : w7.cell? ⟨g3,0,none⟩ = some (.slice A0 k0 c0) := hb7.cell 0;clear ho7 hg7 hb7 hat7))
        have HPUT := out_put HBG.out HBL.out EW.out HO7.out HG7.out HAT.out HB7.out HKL.out HME.out
        obtain ⟨w8,hwn⟩ : ∃ x,x = w7.setCell ⟨g3,0,none⟩ (.slice A7 (k0 + me) c7) := ⟨_,rfl⟩
        rw [← hwn] at HPUT ⊢
        have S7 := hid (S6.out.step HPUT.1 HPUT.2)
        clear hwn HPUT fz7 cd7 HB7 HAT HG7 HO7 HNF HC2 HR2 HOWW HBW EW hbw HML HBL HOW HBG HKL HME hk9 HB3 HIN HMP S6
        have HTR : Hid (w8.rangeAt gO 10 [t0,t1,t2,t3,t4]) := hid (range_mid S7.out.b.range 10 [t0,t1,t2,t3,t4] rfl)
        have f5 : w8.cell? ⟨g5,0,none⟩ = some (.func (.func 51) #[] #[.pointer (some ⟨g4,0,none⟩),.pointer (some ⟨g5,0,none⟩)]) := S7.out.v.b5.cell 0
        have HCT : Hid (Calls Tryz.prog 51 #[.agg #[t0,t1,t2,t3,t4],.pointer (some ⟨g4,0,none⟩),.pointer (some ⟨g5,0,none⟩)] w8 fun e w' => e = .returned (.tuple #[]) ∧ OutS w.heap.size g3 (L0 ++ P1 ++ P2 ++ P3) w' ∧ OutK g3 w8 w') := hid (by
         rw [EQ.out.2.2.1]
         exact etyp_any w.heap.size g3 g4 g5 w (Nat.le_refl _) _ [t0,t1,t2,t3,t4] (L0 ++ P1 ++ P2) w8 HTYV.out HTYW.out S7.out.x S7.out.o S7.out.v S7.out.x.size (by rw [← EQ.out.2.2.1];have h := HLN2.out;simp only [List.length_append];omega))
        go_upto_region 20 with (first
         | ((with_reducible refine wpList_load_row 26 gO 10 [t0,t1,t2,t3,t4] HTR.out Tryz.underlying26 rfl (ty_info.trans rfl) ?_ ?_ ?_);kernel_rfl;rfl)
         | (go_at_call 51;(with_reducible refine HCT.out.mono ?_);rintro e w9 ⟨rfl,hO6,hK6⟩;have S8 := hid (S7.out.step hO6 hK6);clear hO6 hK6))
        clear HTR f5 HCT S7
        refine wp_region_flowF 14 ?FW20 (fun us => ?_) (by kernel_rfl) (by kernel_rfl) (fun a b => Ext a b) Ext.refl (fun h1 h2 => h1.next h2) (fun i v W => match i with
         | 0 => v = .func (.func 49) #[] #[.pointer (some ⟨g3,0,none⟩)]
         | 1 => v = .pointer (some ⟨gO,15,none⟩)
         | 2 => v = .pointer (some ⟨gO,15,none⟩)
         | 3 => v = .int .i64 nk
         | 4 => v = .pointer (some ⟨gO,15,none⟩)
         | 5 => v = .pointer (some ⟨gO,16,none⟩)
         | 6 => v = .int .i64 nN
         | 7 => ∃ a,v = .slice (some ⟨a,0,none⟩) 2 2 ∧ Rd W W.heap.size (some ⟨a,0,none⟩) 2 (i8s [nk,nN])
         | 8 => v = .pointer (some ⟨gO,15,none⟩)
         | 9 => v = .pointer (some ⟨gO,17,none⟩)
         | 10 => v = .agg #[.int .i64 r1,.int .i64 r2,.int .i64 r3]
         | 11 => ∃ a c,v = .slice (some ⟨a,0,none⟩) 3 c ∧ Rd W W.heap.size (some ⟨a,0,none⟩) 3 (i8s [r1,r2,r3])
         | 12 => ∃ g7,v = .slice (some ⟨g7,0,none⟩) 2 2 ∧ g7 < W.heap.size ∧ RdLi W W.heap.size g7 0 [[nk,nN],[r1,r2,r3]]
         | 13 => ∃ A c,v = .slice A 5 c ∧ Rd W W.heap.size A 5 (i8s [nk,nN,r1,r2,r3])
         | _ => True) ?_ ?_
        case refine_1 =>
         simp only [List.take_succ_cons,List.take_zero,flowAct,Nat.zero_add,Nat.reduceAdd,Act.put,List.setIfInBounds_toArray,List.set_cons_succ,List.set_cons_zero]
         rfl
        ·simp only [List.take_succ_cons,List.take_zero,flowStepsF]
         refine ⟨?_,?_,?_,?_,?_,?_,?_,?_,?_,?_,?_,?_,?_,?_,trivial⟩
         ·intro us W K hE hd hK
          have cf : W.cell? ⟨g4,0,none⟩ = some (.func (.func 49) #[] #[.pointer (some ⟨g3,0,none⟩)]) := (S8.out.v.b4.ext (sg_undrew hE)).cell 0
          dsimp only at hK ⊢
          have HK := hid hK;have HE := hid hE
          clear hK hd hE
          go_wp2_with fail
          exact K_at (HK.out (.func (.func 49) #[] #[.pointer (some ⟨g3,0,none⟩)]) W (fun _ _ => rfl) (Ext.refl W)) (by kernel_rfl)
         ·intro us W K hE hd hK
          dsimp only at hK ⊢
          have HK := hid hK;have HE := hid hE
          clear hK hd hE
          go_wp2_with fail
          exact K_at (HK.out (.pointer (some ⟨gO,15,none⟩)) W (fun _ _ => rfl) (Ext.refl W)) (by kernel_rfl)
         ·intro us W K hE hd hK
          have d1 := hd 1 (by kernel_rfl)
          dsimp only at hK ⊢
          rw [d1] at hK ⊢
          have HK := hid hK;have HE := hid hE
          clear hK hd hE d1
          go_wp2_with fail
          exact K_at (HK.out (.pointer (some ⟨gO,15,none⟩)) W (fun _ _ => rfl) (Ext.refl W)) (by kernel_rfl)
         ·intro us W K hE hd hK
          have d2 := hd 2 (by kernel_rfl)
          have cc15 : W.cell? ⟨gO,15,none⟩ = some (.int .i64 nk) := (S8.out.b.ext (sg_undrew hE)).cell 15
          dsimp only at hK ⊢
          rw [d2] at hK ⊢
          have HK := hid hK;have HE := hid hE
          clear hK hd hE d2
          go_wp2_with fail
          exact K_at (HK.out (.int .i64 nk) W (fun _ _ => rfl) (Ext.refl W)) (by kernel_rfl)
         ·intro us W K hE hd hK
          dsimp only at hK ⊢
          have HK := hid hK;have HE := hid hE
          clear hK hd hE
          go_wp2_with fail
          exact K_at (HK.out (.pointer (some ⟨gO,15,none⟩)) W (fun _ _ => rfl) (Ext.refl W)) (by kernel_rfl)
         ·intro us W K hE hd hK
          have d4 := hd 4 (by kernel_rfl)
          dsimp only at hK ⊢
          rw [d4] at hK ⊢
          have HK := hid hK;have HE := hid hE
          clear hK hd hE d4
          go_wp2_with fail
          exact K_at (HK.out (.pointer (some ⟨gO,16,none⟩)) W (fun _ _ => rfl) (Ext.refl W)) (by kernel_rfl)
         ·intro us W K hE hd hK
          have d5 := hd 5 (by kernel_rfl)
          have cc16 : W.cell? ⟨gO,16,none⟩ = some (.int .i64 nN) := (S8.out.b.ext (sg_undrew hE)).cell 16
          dsimp only at hK ⊢
          rw [d5] at hK ⊢
          have HK := hid hK;have HE := hid hE
          clear hK hd hE d5
          go_wp2_with fail
          exact K_at (HK.out (.int .i64 nN) W (fun _ _ => rfl) (Ext.refl W)) (by kernel_rfl)
         ·intro us W K hE hd hK
          have d3 := hd 3 (by kernel_rfl)
          have d6 := hd 6 (by kernel_rfl)
          dsimp only at hK ⊢
          rw [d3,d6] at hK ⊢
          have HK := hid hK;have HE := hid hE
          clear hK hd hE d3 d6
          go_wp2_with fail
          exact K_at (HK.out (.slice (some ⟨W.heap.size,0,none⟩) 2 2) (W.alloc (.cells #[.int .i64 nk,.int .i64 nN] 3)) (fun W2 h2 => ⟨W.heap.size,rfl,Rd.ext' (Rd.fresh_fr W #[.int .i64 nk,.int .i64 nN] 3 (0,0) _ 2 rfl rfl) h2⟩) ((Ext.refl W).alloc _)) (by kernel_rfl)
         ·intro us W K hE hd hK
          dsimp only at hK ⊢
          have HK := hid hK;have HE := hid hE
          clear hK hd hE
          go_wp2_with fail
          exact K_at (HK.out (.pointer (some ⟨gO,15,none⟩)) W (fun _ _ => rfl) (Ext.refl W)) (by kernel_rfl)
         ·intro us W K hE hd hK
          have d8 := hd 8 (by kernel_rfl)
          dsimp only at hK ⊢
          rw [d8] at hK ⊢
          have HK := hid hK;have HE := hid hE
          clear hK hd hE d8
          go_wp2_with fail
          exact K_at (HK.out (.pointer (some ⟨gO,17,none⟩)) W (fun _ _ => rfl) (Ext.refl W)) (by kernel_rfl)
         ·intro us W K hE hd hK
          have d9 := hd 9 (by kernel_rfl)
          have cc17 : W.cell? ⟨gO,17,none⟩ = some (.int .i64 r1) := (S8.out.b.ext (sg_undrew hE)).cell 17
          have cc18 : W.cell? ⟨gO,18,none⟩ = some (.int .i64 r2) := (S8.out.b.ext (sg_undrew hE)).cell 18
          have cc19 : W.cell? ⟨gO,19,none⟩ = some (.int .i64 r3) := (S8.out.b.ext (sg_undrew hE)).cell 19
          dsimp only at hK ⊢
          rw [d9] at hK ⊢
          have HK := hid hK;have HE := hid hE
          clear hK hd hE d9
          go_wp2_with fail
          exact K_at (HK.out (.agg #[.int .i64 r1,.int .i64 r2,.int .i64 r3]) W (fun _ _ => rfl) (Ext.refl W)) (by kernel_rfl)
         ·intro us W K hE hd hK
          have d10 := hd 10 (by kernel_rfl)
          have HTH := hid (three_any ⟨r1,r2,r3⟩ W)
          dsimp only at hK ⊢
          rw [d10] at hK ⊢
          have HK := hid hK;have HE := hid hE
          clear hK hd hE d10
          go_wp2_with ((go_at_call 54;(with_reducible refine HTH.out.mono ?_);rintro e w6 ⟨⟨ga,ca,rfl,_,_,hr6⟩,hB6⟩;have HR6 := hid hr6;clear hr6))
          exact K_at (HK.out (.slice (some ⟨ga,0,none⟩) 3 ca) w6 (fun W2 h2 => ⟨ga,ca,rfl,Rd.ext' HR6.out h2⟩) hB6) (by kernel_rfl)
         ·intro us W K hE hd hK
          obtain ⟨a3,d7,h3⟩ := hd 7 (by kernel_rfl)
          obtain ⟨a6,c6,d11,h6⟩ := hd 11 (by kernel_rfl)
          have H3 := hid h3;have H6 := hid h6
          clear h3 h6
          dsimp only at hK ⊢
          rw [d7,d11] at hK ⊢
          have HK := hid hK;have HE := hid hE
          clear hK hd hE d7 d11
          go_wp2_with fail
          exact K_at (HK.out (.slice (some ⟨W.heap.size,0,none⟩) 2 2) (W.alloc (.cells #[.slice (some ⟨a3,0,none⟩) 2 2,.slice (some ⟨a6,0,none⟩) 3 c6] 43)) (fun W2 h2 => ⟨W.heap.size,rfl,Nat.lt_of_lt_of_le (by simp) h2.size,RdLi.ext (rdli2 (a := [nk,nN]) (b := [r1,r2,r3]) rfl _ H3.out H6.out) (by simp) h2⟩) ((Ext.refl W).alloc _)) (by kernel_rfl)
         ·intro us W K hE hd hK
          obtain ⟨g7,d12,h7,h15⟩ := hd 12 (by kernel_rfl)
          have HCC := hid (concati_any [[nk,nN],[r1,r2,r3]] g7 0 2 2 W h15 h7 rfl (by decide) (by simp))
          clear h7 h15
          dsimp only at hK ⊢
          rw [d12] at hK ⊢
          have HK := hid hK;have HE := hid hE
          clear hK hd hE d12
          go_wp2_with ((go_at_call 53;(with_reducible refine HCC.out.mono ?_);rintro e w6 ⟨⟨A9,c9,rfl,ho6⟩,hB6⟩;have HR6 : Hid (Rd w6 w6.heap.size A9 5 (i8s [nk,nN,r1,r2,r3])) := hid (Rd.of_own ho6);clear ho6))
          exact K_at (HK.out (.slice A9 5 c9) w6 (fun W2 h2 => ⟨A9,c9,rfl,Rd.ext' HR6.out h2⟩) hB6) (by kernel_rfl)
        ·intro us W hE hd
         try dsimp only
         have d0 := hd 0 (by decide)
         obtain ⟨A9,c9,dn,hn9⟩ := hd 13 (by decide)
         simp only [List.drop_succ_cons,List.drop_zero]
         rw [d0,dn]
         have EW := hid (sg_undrew hE)
         have HN9 := hid hn9
         clear hd hE d0 dn hn9
         have SW := hid (S8.out.ext EW.out)
         have HCI : Hid (Calls Tryz.prog 49 #[.slice A9 5 c9,.pointer (some ⟨g3,0,none⟩)] W fun e w' => e = .returned (.tuple #[]) ∧ OutS w.heap.size g3 ((L0 ++ P1 ++ P2 ++ P3) ++ P4) w' ∧ OutK g3 W w') := hid (by rw [EQ.out.2.2.2.1];exact HEI.out [nk,nN,r1,r2,r3] A9 5 c9 ((L0 ++ P1 ++ P2 ++ P3)) W HN9.out EN2.out (by decide) SW.out.o SW.out.x.size (by rw [← EQ.out.2.2.2.1];have h := HLN2.out;simp only [List.length_append];omega))
         go_upto_region 21 with ((go_at_call 49;(with_reducible refine HCI.out.mono ?_);rintro e w10 ⟨rfl,hO6,hK6⟩;have S9 := hid (SW.out.step hO6 hK6);clear hO6 hK6))
         clear HCI HN9 SW EW S8
         have HTR : Hid (w10.rangeAt gO 20 [u0,u1,u2,u3,u4]) := hid (range_mid S9.out.b.range 20 [u0,u1,u2,u3,u4] rfl)
         have f5 : w10.cell? ⟨g5,0,none⟩ = some (.func (.func 51) #[] #[.pointer (some ⟨g4,0,none⟩),.pointer (some ⟨g5,0,none⟩)]) := S9.out.v.b5.cell 0
         have HCT : Hid (Calls Tryz.prog 51 #[.agg #[u0,u1,u2,u3,u4],.pointer (some ⟨g4,0,none⟩),.pointer (some ⟨g5,0,none⟩)] w10 fun e w' => e = .returned (.tuple #[]) ∧ OutS w.heap.size g3 (L0 ++ P1 ++ P2 ++ P3 ++ P4 ++ P5) w' ∧ OutK g3 w10 w') := hid (by
          rw [EQ.out.2.2.2.2.1]
          exact etyp_any w.heap.size g3 g4 g5 w (Nat.le_refl _) _ [u0,u1,u2,u3,u4] (L0 ++ P1 ++ P2 ++ P3 ++ P4) w10 HNYV.out HNYW.out S9.out.x S9.out.o S9.out.v S9.out.x.size (by rw [← EQ.out.2.2.2.2.1];have h := HLN2.out;simp only [List.length_append];omega))
         go_upto_region 22 with (first
          | ((with_reducible refine wpList_load_row 26 gO 20 [u0,u1,u2,u3,u4] HTR.out Tryz.underlying26 rfl (ty_info.trans rfl) ?_ ?_ ?_);kernel_rfl;rfl)
          | (go_at_call 51;(with_reducible refine HCT.out.mono ?_);rintro e w11 ⟨rfl,hO6,hK6⟩;have SA := hid (S9.out.step hO6 hK6);clear hO6 hK6))
         clear HTR f5 HCT S9
         have HKN : Hid (kids.length = kn) := hid (by have h := HKD.out.1.1;rw [idsC_len] at h;omega)
         have hknf : kn ≤ 1000000 := HKD.out.2
         have HKX : Hid (∀ (t : Nat) (x : Rid),kids[t]? = some x → ∃ b o,KA = some ⟨b,o,none⟩ ∧ ∀ W,Ext w W → W.rangeAt b (o + t * 3) [.int .i64 x.s,.int .i64 x.q,.int .i64 x.i]) := hid (fun t x hx => by
          have hlt := (List.getElem?_eq_some_iff.1 hx).1
          have hl : kids.length = kn := HKN.out
          obtain ⟨b,o,hA,hb,hc⟩ := HKD.out.1.2 (by omega)
          refine ⟨b,o,hA,fun W hW j v hv => ?_⟩
          have hj : j < 3 := (List.getElem?_eq_some_iff.1 hv).1
          rw [Nat.add_assoc]
          exact (hW.cell (p := ⟨b,o + (t * 3 + j),none⟩) hb).trans (hc (t * 3 + j) v ((flatK_at idC 3 kids (fun _ _ => rfl) t x hx j hj).trans hv)))
         have zzi : ∀ W,(zeroValue 23).run Tryz.prog W = .ok (.agg #[.int .i64 0,.int .i64 0,.int .i64 0]) W := fun W => by kernel_rfl
         have c25 : w11.cell? ⟨gO,25,none⟩ = some (.slice KA kn kc) := SA.out.b.cell 25
         obtain ⟨i1,hi',hz0',hz1',hz2'⟩ := info_parts winfo_int
         go_wp2_with fail
         go_loopw [11,13,109] (fun s11 _ s109 wr => ∃ (t m6 c6 : Nat) (A6 : Option Addr),t ≤ kn ∧ Hid (m6 = 3 * t) ∧ s109 = .int .i64 (t : Int) ∧ s11 = .slice A6 m6 c6 ∧ wr.ownsRow w11.heap.size 3 1 (.slice A6 m6 c6) m6 (i8s ((kids.take t).flatMap thrI)) ∧ Ext w11 wr) (fun _ _ s109 _ => kn - (intOf s109).toNat)
         case atStart => exact ⟨0,0,0,none,Nat.zero_le _,hid rfl,rfl,rfl,World.ownsRow_nil _ _ _ _,Ext.refl _⟩
         case round =>
          obtain ⟨t,m6,c6,A6,ht,hm6,rfl,rfl,hown,hEi⟩ := hrel
          obtain ⟨wi,rfl⟩ : ∃ x : World,x = wr := ⟨_,rfl⟩
          have OW := hid hown;have EI := hid hEi
          clear hown hEi
          by_cases hlt : t < kn
          ·have hget : kids[t]? = some (kids[t]'(by have := HKN.out;omega)) := List.getElem?_eq_getElem _
           obtain ⟨x,hx⟩ : ∃ x,x = kids[t]'(by have := HKN.out;omega) := ⟨_,rfl⟩
           rw [← hx] at hget
           obtain ⟨b',o',hA,hrg⟩ := HKX.out t x hget
           subst hA
           have HRG := hid (hrg wi (SA.out.x.next EI.out))
           have HTK : Hid ((kids.take (t + 1)).flatMap thrI = (kids.take t).flatMap thrI ++ [x.s,x.q,x.i]) := hid (by
            rw [List.take_add_one,hget,List.flatMap_append]
            rfl)
           obtain ⟨x1,x2,x3⟩ := x
           dsimp only at HRG HTK
           have hm3 : m6 ≤ 3000000 := by have := hm6.out;omega
           have HTH : Hid (∀ W,Calls Tryz.prog 54 #[.agg #[.int .i64 x1,.int .i64 x2,.int .i64 x3]] W fun e w' => (∃ g c,e = .returned (.slice (some ⟨g,0,none⟩) 3 c) ∧ W.heap.size ≤ g ∧ g < w'.heap.size ∧ Rd w' w'.heap.size (some ⟨g,0,none⟩) 3 (i8s [x1,x2,x3])) ∧ Ext W w') := hid (fun W => three_any ⟨x1,x2,x3⟩ W)
           clear hrg hget hx
           go_wp2_with (first
            | ((with_reducible refine wpList_load_row 23 b' (o' + t * 3) [.int .i64 x1,.int .i64 x2,.int .i64 x3] HRG.out Tryz.underlying23 rfl (info_id.trans rfl) ?_ ?_ ?_);kernel_rfl;rfl)
            | (refine wpList_store_freshw rfl 23 (.tmp 13) (.tmp 112) rfl wi.heap.size rfl [.int .i64 0,.int .i64 0,.int .i64 0] [.int .i64 x1,.int .i64 x2,.int .i64 x3] 23 (by kernel_rfl) (by kernel_rfl) (info_id.trans rfl) rfl (by intro v hv;simp only [List.mem_cons,List.not_mem_nil,or_false] at hv;rcases hv with rfl | rfl | rfl <;> rfl) ?_;intro wS hwS hES hzS;have ES : Hid (Ext w11 wS) := hid (EI.out.next hES);have b0 : wS.cell? ⟨wi.heap.size,0,none⟩ = some (.int .i64 x1) := hwS.cell 0;have b1 : wS.cell? ⟨wi.heap.size,1,none⟩ = some (.int .i64 x2) := hwS.cell 1;have b2 : wS.cell? ⟨wi.heap.size,2,none⟩ = some (.int .i64 x3) := hwS.cell 2;have OS : Hid (wS.ownsRow w11.heap.size 3 1 (.slice A6 m6 c6) m6 (i8s ((kids.take t).flatMap thrI))) := hid ((Kept.of_ext (F := fun _ => False) hES).own OW.out (fun _ _ h => h));clear hwS hES hzS)
            | (go_at_call 54;(with_reducible refine (HTH.out wS).mono ?_);rintro e wT ⟨⟨ga,ca,rfl,_,_,hrT⟩,hBT⟩;have HRT := hid hrT;have ET : Hid (Ext w11 wT) := hid (ES.out.next hBT);have OT : Hid (wT.ownsRow w11.heap.size 3 1 (.slice A6 m6 c6) m6 (i8s ((kids.take t).flatMap thrI))) := hid ((Kept.of_ext (F := fun _ => False) hBT).own OS.out (fun _ _ h => h));clear hrT hBT b0 b1 b2)
            | (at_builtin;(refine wpList_app rfl (.tmp 113) (.tmp 115) 43 rfl w11.heap.size 3 i1 (.int .i64 0) 1 8 Tryz.underlying43 hi' hz0' hz1' hz2' rfl (by omega) A6 m6 c6 _ rfl OT.out wT.heap.size (some ⟨ga,0,none⟩) 3 ca [.int .i64 x1,.int .i64 x2,.int .i64 x3] rfl (RdN.of_Rd HRT.out) (by intro v hv;simp only [List.mem_cons,List.not_mem_nil,or_false] at hv;rcases hv with rfl | rfl | rfl <;> rfl) (by simp only [maxLen];omega) (by omega) ET.out.size ?_;intro A7 c7 w7 o7 g7;have hb7 := below_app ET.out g7 OT.out (Nat.le_refl _) ET.out.size)))
           exact ⟨⟨t + 1,m6 + 3,c7,A7,by omega,hid (by have := hm6.out;omega),by go_num,rfl,by rw [HTK.out,i8s_append];exact o7,hb7⟩,by simp [intOf];omega⟩
          ·obtain rfl : t = kn := by omega
           have HTF : Hid ((kids.take t).flatMap thrI = kids.flatMap thrI) := hid (by rw [List.take_of_length_le (by have := HKN.out;omega)])
           have HRN : Hid (Rd wi wi.heap.size A6 m6 (i8s (kids.flatMap thrI))) := hid (by have h := Rd.of_own OW.out;rw [HTF.out] at h;exact h)
           have SB := hid (SA.out.ext EI.out)
           have HC2 : Hid (Calls Tryz.prog 49 #[.slice A6 m6 c6,.pointer (some ⟨g3,0,none⟩)] wi fun e w' => e = .returned (.tuple #[]) ∧ OutS w.heap.size g3 (L0 ++ P1 ++ P2 ++ P3 ++ P4 ++ P5 ++ P6) w' ∧ OutK g3 wi w') := hid (by
            rw [EQ.out.2.2.2.2.2.1]
            exact HEI.out _ A6 m6 c6 (L0 ++ P1 ++ P2 ++ P3 ++ P4 ++ P5) wi HRN.out EN3.out (by have := hm6.out;omega) SB.out.o SB.out.x.size (by rw [← EQ.out.2.2.2.2.2.1];have h := HLN2.out;simp only [List.length_append];omega))
           have cf : wi.cell? ⟨g4,0,none⟩ = some (.func (.func 49) #[] #[.pointer (some ⟨g3,0,none⟩)]) := SB.out.v.b4.cell 0
           clear HTF HRN OW HKX HKD c25 SA EI
           go_upto_region 29 with ((go_at_call 49;(with_reducible refine HC2.out.mono ?_);rintro e w12 ⟨rfl,hO6,hK6⟩;have SC := hid (SB.out.step hO6 hK6);clear hO6 hK6))
           clear cf HC2 SB
           obtain ⟨hbg,A0,c0,hbl,hown⟩ := SC.out.o
           obtain ⟨k0,hk0⟩ : ∃ k,k = (L0 ++ P1 ++ P2 ++ P3 ++ P4 ++ P5 ++ P6).length := ⟨_,rfl⟩
           obtain ⟨me,hme⟩ : ∃ k,k = P7.length := ⟨_,rfl⟩
           rw [← hk0] at hbl hown
           have HBG := hid hbg;have HBL := hid hbl;have HOW := hid hown;have HKL := hid hk0;have HME := hid hme
           have hk9 : k0 + me ≤ 1000000000 := by have h := HLN2.out;rw [hk0,hme];simp only [List.length_append];omega
           have HB3 : Hid (w.heap.size ≤ w12.heap.size) := hid SC.out.x.size
           have HIN : Hid (∀ W,Ext w12 W → Calls Tryz.prog 56 #[.slice NA nn nc] W fun e w' => (∃ b o c,e = .returned (.slice (some ⟨b,o,none⟩) me c) ∧ (me ≤ c ∧ c ≤ maxLen) ∧ Rd w' w'.heap.size (some ⟨b,o,none⟩) me (u8s P7)) ∧ Ext W w') := hid (fun W hW => pstrR _ _ _ _ W (HNX.out.1.ext' (SC.out.x.next hW)) HNX.out.2.1 HNX.out.2.2 P7 me EQ.out.2.2.2.2.2.2.1.symm HME.out.symm (by omega))
           have HMP : Hid (0 < me) := hid (by rw [HME.out,EQ.out.2.2.2.2.2.2.1];unfold encL;rw [List.length_append,encInt_length];omega)
           clear hbg hbl hown hk0 hme
           refine wp_region_flowF 5 ?FW29 (fun us => ?_) (by kernel_rfl) (by kernel_rfl) (fun a b => Ext a b) Ext.refl (fun h1 h2 => h1.next h2) (fun i v W => match i with
            | 0 => v = .slice A0 k0 c0
            | 1 => v = .pointer (some ⟨gO,15,none⟩)
            | 2 => v = .pointer (some ⟨gO,26,none⟩)
            | 3 => v = .slice NA nn nc
            | 4 => ∃ b2 o2 c2,v = .slice (some ⟨b2,o2,none⟩) me c2 ∧ Rd W W.heap.size (some ⟨b2,o2,none⟩) me (u8s P7)
            | _ => True) ?_ ?_
           case refine_1 =>
            simp only [List.take_succ_cons,List.take_zero,flowAct,Nat.zero_add,Nat.reduceAdd,Act.put,List.setIfInBounds_toArray,List.set_cons_succ,List.set_cons_zero]
            rfl
           ·simp only [List.take_succ_cons,List.take_zero,flowStepsF]
            refine ⟨?_,?_,?_,?_,?_,trivial⟩
            ·intro us W K hE hd hK
             have cc : W.cell? ⟨g3,0,none⟩ = some (.slice A0 k0 c0) := (HBL.out.ext (sg_undrew hE)).cell 0
             dsimp only at hK ⊢
             have HK := hid hK;have HE := hid hE
             clear hK hd hE
             go_wp2_with fail
             exact K_at (HK.out (.slice A0 k0 c0) W (fun _ _ => rfl) (Ext.refl W)) (by kernel_rfl)
            ·intro us W K hE hd hK
             dsimp only at hK ⊢
             have HK := hid hK;have HE := hid hE
             clear hK hd hE
             go_wp2_with fail
             exact K_at (HK.out (.pointer (some ⟨gO,15,none⟩)) W (fun _ _ => rfl) (Ext.refl W)) (by kernel_rfl)
            ·intro us W K hE hd hK
             have d1 := hd 1 (by kernel_rfl)
             dsimp only at hK ⊢
             rw [d1] at hK ⊢
             have HK := hid hK;have HE := hid hE
             clear hK hd hE d1
             go_wp2_with fail
             exact K_at (HK.out (.pointer (some ⟨gO,26,none⟩)) W (fun _ _ => rfl) (Ext.refl W)) (by kernel_rfl)
            ·intro us W K hE hd hK
             have d2 := hd 2 (by kernel_rfl)
             have cc26 : W.cell? ⟨gO,26,none⟩ = some (.slice NA nn nc) := (SC.out.b.ext (sg_undrew hE)).cell 26
             dsimp only at hK ⊢
             rw [d2] at hK ⊢
             have HK := hid hK;have HE := hid hE
             clear hK hd hE d2
             go_wp2_with fail
             exact K_at (HK.out (.slice NA nn nc) W (fun _ _ => rfl) (Ext.refl W)) (by kernel_rfl)
            ·intro us W K hE hd hK
             have d3 := hd 3 (by kernel_rfl)
             have HIW := hid (HIN.out W (sg_undrew hE))
             dsimp only at hK ⊢
             rw [d3] at hK ⊢
             have HK := hid hK;have HE := hid hE
             clear hK hd hE d3
             go_wp2_with ((go_at_call 56;(with_reducible refine HIW.out.mono ?_);rintro e w6 ⟨⟨b6,o6,c6,rfl,_,hr6⟩,hB6⟩;have HR6 := hid hr6;clear hr6))
             exact K_at (HK.out (.slice (some ⟨b6,o6,none⟩) me c6) w6 (fun W2 h2 => ⟨b6,o6,c6,rfl,Rd.ext' HR6.out h2⟩) hB6) (by kernel_rfl)
           ·intro us W hE hd
            try dsimp only
            have d0 := hd 0 (by decide)
            obtain ⟨b2,o2,c2,d2,hr2⟩ := hd 4 (by decide)
            simp only [List.drop_succ_cons,List.drop_zero]
            rw [d0,d2]
            have EW := hid (sg_undrew hE)
            have HR2 := hid hr2
            clear hd hE d0 d2 hr2
            have HBW := hid (HBL.out.ext EW.out)
            have HOWW : Hid (W.ownsRow w.heap.size 5 1 (.slice A0 k0 c0) k0 (u8s (L0 ++ P1 ++ P2 ++ P3 ++ P4 ++ P5 ++ P6))) := hid ((Kept.of_ext (F := fun _ => False) EW.out).own HOW.out (fun _ _ h => h))
            have hbw : w.heap.size ≤ W.heap.size := Nat.le_trans HB3.out EW.out.size
            have HNF : Hid (∀ b,(Value.slice A0 k0 c0).ownBlock = some b → b ≠ g3) := hid (out_row_apart HBW.out HOWW.out)
            have HC2 : Hid (∀ j u,(u8s P7)[j]? = some u → W.cell? ((⟨b2,o2,none⟩ : Addr).add j) = some u) := hid (fun j u hu => by rw [Addr.add_mid];obtain ⟨b9,o9,h9,_,h8⟩ := HR2.out.2 HMP.out;injection h9 with h9;injection h9 with h9a h9b;subst h9a h9b;exact h8 j u hu)
            have HML := HR2.out.1
            go_upto_region 30 with (at_builtin;(refine wpList_append_own_at _ rfl (.tmp 121) (.tmp 125) 49 rfl w.heap.size 5 i0 (.int .u8 0) 1 1 Tryz.underlying49 hi hz0 hz1 hz2 rfl (by omega) (.slice A0 k0 c0) k0 (u8s (L0 ++ P1 ++ P2 ++ P3 ++ P4 ++ P5 ++ P6)) rfl HOWW.out ⟨b2,o2,none⟩ me c2 (u8s P7) rfl (by rw [HML,Nat.mul_one]) HC2.out (u8s_one _) (by simp only [maxLen];omega) (by omega) hbw ?_;intro v7 w7 ho7 hg7 _ hat7;obtain ⟨A7,c7,rfl⟩ := own_shp ho7;have HO7 := hid ho7;have HG7 := hid hg7;have HAT := hid hat7;have hb7 : Blk w7 g3 49 [.slice A0 k0 c0] := (hg7.block g3 HBW.out.lt (fun e => HNF.out g3 e.symm rfl)).trans HBW.out;have HB7 := hid hb7;have fz7 := hb7.frozen 0;have cd7 : w7.cell? ⟨g3,0,none⟩ = some (.slice A0 k0 c0) := hb7.cell 0;clear ho7 hg7 hb7 hat7))
            have HPUT := out_put HBG.out HBL.out EW.out HO7.out HG7.out HAT.out HB7.out HKL.out HME.out
            obtain ⟨w13,hwn⟩ : ∃ x,x = w7.setCell ⟨g3,0,none⟩ (.slice A7 (k0 + me) c7) := ⟨_,rfl⟩
            rw [← hwn] at HPUT ⊢
            have SD := hid (SC.out.step HPUT.1 HPUT.2)
            clear hwn HPUT fz7 cd7 HB7 HAT HG7 HO7 HNF HC2 HR2 HOWW HBW EW hbw HML HBL HOW HBG HKL HME hk9 HB3 HIN HMP SC
            obtain ⟨hbg,A0,c0,hbl,hown⟩ := SD.out.o
            obtain ⟨k0,hk0⟩ : ∃ k,k = (L0 ++ P1 ++ P2 ++ P3 ++ P4 ++ P5 ++ P6 ++ P7).length := ⟨_,rfl⟩
            obtain ⟨me,hme⟩ : ∃ k,k = P8.length := ⟨_,rfl⟩
            rw [← hk0] at hbl hown
            have HBG := hid hbg;have HBL := hid hbl;have HOW := hid hown;have HKL := hid hk0;have HME := hid hme
            have hk9 : k0 + me ≤ 1000000000 := by have h := HLN2.out;rw [hk0,hme];simp only [List.length_append];omega
            have HB3 : Hid (w.heap.size ≤ w13.heap.size) := hid SD.out.x.size
            have HIN : Hid (∀ W,Ext w13 W → Calls Tryz.prog 56 #[.slice TA tn tc] W fun e w' => (∃ b o c,e = .returned (.slice (some ⟨b,o,none⟩) me c) ∧ (me ≤ c ∧ c ≤ maxLen) ∧ Rd w' w'.heap.size (some ⟨b,o,none⟩) me (u8s P8)) ∧ Ext W w') := hid (fun W hW => pstrR _ _ _ _ W (HTX.out.1.ext' (SD.out.x.next hW)) HTX.out.2.1 HTX.out.2.2 P8 me EQ.out.2.2.2.2.2.2.2.symm HME.out.symm (by omega))
            have HMP : Hid (0 < me) := hid (by rw [HME.out,EQ.out.2.2.2.2.2.2.2];unfold encL;rw [List.length_append,encInt_length];omega)
            clear hbg hbl hown hk0 hme
            refine wp_region_flowF 4 ?FW30 (fun us => ?_) (by kernel_rfl) (by kernel_rfl) (fun a b => Ext a b) Ext.refl (fun h1 h2 => h1.next h2) (fun i v W => match i with
             | 0 => v = .slice A0 k0 c0
             | 1 => v = .pointer (some ⟨gO,27,none⟩)
             | 2 => v = .slice TA tn tc
             | 3 => ∃ b2 o2 c2,v = .slice (some ⟨b2,o2,none⟩) me c2 ∧ Rd W W.heap.size (some ⟨b2,o2,none⟩) me (u8s P8)
             | _ => True) ?_ ?_
            case refine_1 =>
             simp only [List.take_succ_cons,List.take_zero,flowAct,Nat.zero_add,Nat.reduceAdd,Act.put,List.setIfInBounds_toArray,List.set_cons_succ,List.set_cons_zero]
             rfl
            ·simp only [List.take_succ_cons,List.take_zero,flowStepsF]
             refine ⟨?_,?_,?_,?_,trivial⟩
             ·intro us W K hE hd hK
              have cc : W.cell? ⟨g3,0,none⟩ = some (.slice A0 k0 c0) := (HBL.out.ext (sg_undrew hE)).cell 0
              dsimp only at hK ⊢
              have HK := hid hK;have HE := hid hE
              clear hK hd hE
              go_wp2_with fail
              exact K_at (HK.out (.slice A0 k0 c0) W (fun _ _ => rfl) (Ext.refl W)) (by kernel_rfl)
             ·intro us W K hE hd hK
              dsimp only at hK ⊢
              have HK := hid hK;have HE := hid hE
              clear hK hd hE
              go_wp2_with fail
              exact K_at (HK.out (.pointer (some ⟨gO,27,none⟩)) W (fun _ _ => rfl) (Ext.refl W)) (by kernel_rfl)
             ·intro us W K hE hd hK
              have d1 := hd 1 (by kernel_rfl)
              have cc27 : W.cell? ⟨gO,27,none⟩ = some (.slice TA tn tc) := (SD.out.b.ext (sg_undrew hE)).cell 27
              dsimp only at hK ⊢
              rw [d1] at hK ⊢
              have HK := hid hK;have HE := hid hE
              clear hK hd hE d1
              go_wp2_with fail
              exact K_at (HK.out (.slice TA tn tc) W (fun _ _ => rfl) (Ext.refl W)) (by kernel_rfl)
             ·intro us W K hE hd hK
              have d2 := hd 2 (by kernel_rfl)
              have HIW := hid (HIN.out W (sg_undrew hE))
              dsimp only at hK ⊢
              rw [d2] at hK ⊢
              have HK := hid hK;have HE := hid hE
              clear hK hd hE d2
              go_wp2_with ((go_at_call 56;(with_reducible refine HIW.out.mono ?_);rintro e w6 ⟨⟨b6,o6,c6,rfl,_,hr6⟩,hB6⟩;have HR6 := hid hr6;clear hr6))
              exact K_at (HK.out (.slice (some ⟨b6,o6,none⟩) me c6) w6 (fun W2 h2 => ⟨b6,o6,c6,rfl,Rd.ext' HR6.out h2⟩) hB6) (by kernel_rfl)
            ·intro us W hE hd
             try dsimp only
             have d0 := hd 0 (by decide)
             obtain ⟨b2,o2,c2,d2,hr2⟩ := hd 3 (by decide)
             simp only [List.drop_succ_cons,List.drop_zero]
             rw [d0,d2]
             have EW := hid (sg_undrew hE)
             have HR2 := hid hr2
             clear hd hE d0 d2 hr2
             have HBW := hid (HBL.out.ext EW.out)
             have HOWW : Hid (W.ownsRow w.heap.size 5 1 (.slice A0 k0 c0) k0 (u8s (L0 ++ P1 ++ P2 ++ P3 ++ P4 ++ P5 ++ P6 ++ P7))) := hid ((Kept.of_ext (F := fun _ => False) EW.out).own HOW.out (fun _ _ h => h))
             have hbw : w.heap.size ≤ W.heap.size := Nat.le_trans HB3.out EW.out.size
             have HNF : Hid (∀ b,(Value.slice A0 k0 c0).ownBlock = some b → b ≠ g3) := hid (out_row_apart HBW.out HOWW.out)
             have HC2 : Hid (∀ j u,(u8s P8)[j]? = some u → W.cell? ((⟨b2,o2,none⟩ : Addr).add j) = some u) := hid (fun j u hu => by rw [Addr.add_mid];obtain ⟨b9,o9,h9,_,h8⟩ := HR2.out.2 HMP.out;injection h9 with h9;injection h9 with h9a h9b;subst h9a h9b;exact h8 j u hu)
             have HML := HR2.out.1
             go_upto_region 31 with (at_builtin;(refine wpList_append_own_at _ rfl (.tmp 127) (.tmp 130) 49 rfl w.heap.size 5 i0 (.int .u8 0) 1 1 Tryz.underlying49 hi hz0 hz1 hz2 rfl (by omega) (.slice A0 k0 c0) k0 (u8s (L0 ++ P1 ++ P2 ++ P3 ++ P4 ++ P5 ++ P6 ++ P7)) rfl HOWW.out ⟨b2,o2,none⟩ me c2 (u8s P8) rfl (by rw [HML,Nat.mul_one]) HC2.out (u8s_one _) (by simp only [maxLen];omega) (by omega) hbw ?_;intro v7 w7 ho7 hg7 _ hat7;obtain ⟨A7,c7,rfl⟩ := own_shp ho7;have HO7 := hid ho7;have HG7 := hid hg7;have HAT := hid hat7;have hb7 : Blk w7 g3 49 [.slice A0 k0 c0] := (hg7.block g3 HBW.out.lt (fun e => HNF.out g3 e.symm rfl)).trans HBW.out;have HB7 := hid hb7;have fz7 := hb7.frozen 0;have cd7 : w7.cell? ⟨g3,0,none⟩ = some (.slice A0 k0 c0) := hb7.cell 0;clear ho7 hg7 hb7 hat7))
             have HPUT := out_put HBG.out HBL.out EW.out HO7.out HG7.out HAT.out HB7.out HKL.out HME.out
             obtain ⟨w14,hwn⟩ : ∃ x,x = w7.setCell ⟨g3,0,none⟩ (.slice A7 (k0 + me) c7) := ⟨_,rfl⟩
             rw [← hwn] at HPUT ⊢
             have SE := hid (SD.out.step HPUT.1 HPUT.2)
             clear hwn HPUT fz7 cd7 HB7 HAT HG7 HO7 HNF HC2 HR2 HOWW HBW EW hbw HML HBL HOW HBG HKL HME hk9 HB3 HIN HMP SD
             go_wp2_with fail
             exact ⟨⟨q + 1,by omega,by go_num,by rw [HSO2.out];exact SE.out.o,SE.out.k⟩,by simp [intOf];omega⟩
     ·obtain rfl : q = m := by omega
      have HTQ : Hid (ops.take q = ops) := hid (List.take_of_length_le (by have := HOM.out;omega))
      obtain ⟨L0,hL0⟩ : ∃ L,L = F0 ++ F1 ++ E ++ (ops.take q).flatMap encO := ⟨_,rfl⟩
      obtain ⟨P9,hP9⟩ : ∃ L,L = encB sl := ⟨_,rfl⟩
      rw [← hL0] at Oo
      have HPF : Hid (encP ⟨shop,seq,day,needs,clause,ops,sl⟩ = L0 ++ P9) := hid (by rw [HPE.out,hL0,hP9,HTQ.out,HEE.out])
      have BPo : Hid (Blk wo gp 37 [.int .i64 shop,.int .i64 seq,.int .i64 day,.slice A t c,.int .i64 clause,.slice B q d,.string sl]) := hid (Ko.out.blk BP4.out (out_apart O4.out BP4.out NP.out (by decide))).1
      obtain ⟨hbg,A0,c0,hbl,hown⟩ := Oo.out
      obtain ⟨k0,hk0⟩ : ∃ k,k = L0.length := ⟨_,rfl⟩
      obtain ⟨me,hme⟩ : ∃ k,k = P9.length := ⟨_,rfl⟩
      rw [← hk0] at hbl hown
      have HBG := hid hbg;have HBL := hid hbl;have HOW := hid hown;have HKL := hid hk0;have HME := hid hme
      have hk9 : k0 + me ≤ 1000000000 := by
       have h := HSZ.out
       rw [← HEE.out] at h
       rw [hk0,hme,hL0,HTQ.out,hP9]
       simp only [List.length_append]
       omega
      have HB3 : Hid (w.heap.size ≤ wo.heap.size) := hid Xo.out.size
      have HIN : Hid (∀ W,Ext wo W → Calls Tryz.prog 55 #[.string sl] W fun e w' => (∃ b o c,e = .returned (.slice (some ⟨b,o,none⟩) me c) ∧ (me ≤ c ∧ c ≤ maxLen) ∧ Rd w' w'.heap.size (some ⟨b,o,none⟩) me (u8s P9)) ∧ Ext W w') := hid (fun W _ => pbytR sl W HW.out.sl P9 me hP9.symm HME.out.symm)
      have HMP : Hid (0 < me) := hid (by rw [HME.out,hP9,encB_length];omega)
      clear hbg hbl hown hk0 hme hL0 hP9
      go_upto_region 32 with fail
      refine wp_region_flowF 4 ?FW32 (fun us => ?_) (by kernel_rfl) (by kernel_rfl) (fun a b => Ext a b) Ext.refl (fun h1 h2 => h1.next h2) (fun i v W => match i with
       | 0 => v = .slice A0 k0 c0
       | 1 => v = .pointer (some ⟨gp,6,none⟩)
       | 2 => v = .string sl
       | 3 => ∃ b2 o2 c2,v = .slice (some ⟨b2,o2,none⟩) me c2 ∧ Rd W W.heap.size (some ⟨b2,o2,none⟩) me (u8s P9)
       | _ => True) ?_ ?_
      case refine_1 =>
       simp only [List.take_succ_cons,List.take_zero,flowAct,Nat.zero_add,Nat.reduceAdd,Act.put,List.setIfInBounds_toArray,List.set_cons_succ,List.set_cons_zero]
       rfl
      ·simp only [List.take_succ_cons,List.take_zero,flowStepsF]
       refine ⟨?_,?_,?_,?_,trivial⟩
       ·intro us W K hE hd hK
        have cc : W.cell? ⟨g3,0,none⟩ = some (.slice A0 k0 c0) := (HBL.out.ext (sg_undrew hE)).cell 0
        dsimp only at hK ⊢
        have HK := hid hK;have HE := hid hE
        clear hK hd hE
        go_wp2_with fail
        exact K_at (HK.out (.slice A0 k0 c0) W (fun _ _ => rfl) (Ext.refl W)) (by kernel_rfl)
       ·intro us W K hE hd hK
        dsimp only at hK ⊢
        have HK := hid hK;have HE := hid hE
        clear hK hd hE
        go_wp2_with fail
        exact K_at (HK.out (.pointer (some ⟨gp,6,none⟩)) W (fun _ _ => rfl) (Ext.refl W)) (by kernel_rfl)
       ·intro us W K hE hd hK
        have d1 := hd 1 (by kernel_rfl)
        have cc : W.cell? ⟨gp,6,none⟩ = some (.string sl) := (BPo.out.ext (sg_undrew hE)).cell 6
        dsimp only at hK ⊢
        rw [d1] at hK ⊢
        have HK := hid hK;have HE := hid hE
        clear hK hd hE d1
        go_wp2_with fail
        exact K_at (HK.out (.string sl) W (fun _ _ => rfl) (Ext.refl W)) (by kernel_rfl)
       ·intro us W K hE hd hK
        have d2 := hd 2 (by kernel_rfl)
        have HIW := hid (HIN.out W (sg_undrew hE))
        dsimp only at hK ⊢
        rw [d2] at hK ⊢
        have HK := hid hK;have HE := hid hE
        clear hK hd hE d2
        go_wp2_with ((go_at_call 55;(with_reducible refine HIW.out.mono ?_);rintro e w6 ⟨⟨b6,o6,c6,rfl,_,hr6⟩,hB6⟩;have HR6 := hid hr6;clear hr6))
        exact K_at (HK.out (.slice (some ⟨b6,o6,none⟩) me c6) w6 (fun W2 h2 => ⟨b6,o6,c6,rfl,Rd.ext' HR6.out h2⟩) hB6) (by kernel_rfl)
      ·intro us W hE hd
       try dsimp only
       have d0 := hd 0 (by decide)
       obtain ⟨b2,o2,c2,d2,hr2⟩ := hd 3 (by decide)
       simp only [List.drop_succ_cons,List.drop_zero]
       rw [d0,d2]
       have EW := hid (sg_undrew hE)
       have HR2 := hid hr2
       clear hd hE d0 d2 hr2
       have HBW := hid (HBL.out.ext EW.out)
       have HOWW : Hid (W.ownsRow w.heap.size 5 1 (.slice A0 k0 c0) k0 (u8s L0)) := hid ((Kept.of_ext (F := fun _ => False) EW.out).own HOW.out (fun _ _ h => h))
       have hbw : w.heap.size ≤ W.heap.size := Nat.le_trans HB3.out EW.out.size
       have HNF : Hid (∀ b,(Value.slice A0 k0 c0).ownBlock = some b → b ≠ g3) := hid (out_row_apart HBW.out HOWW.out)
       have HC2 : Hid (∀ j u,(u8s P9)[j]? = some u → W.cell? ((⟨b2,o2,none⟩ : Addr).add j) = some u) := hid (fun j u hu => by rw [Addr.add_mid];obtain ⟨b9,o9,h9,_,h8⟩ := HR2.out.2 HMP.out;injection h9 with h9;injection h9 with h9a h9b;subst h9a h9b;exact h8 j u hu)
       have HML := HR2.out.1
       go_wp2_with (at_builtin;(refine wpList_append_own_at _ rfl (.tmp 133) (.tmp 136) 49 rfl w.heap.size 5 i0 (.int .u8 0) 1 1 Tryz.underlying49 hi hz0 hz1 hz2 rfl (by omega) (.slice A0 k0 c0) k0 (u8s L0) rfl HOWW.out ⟨b2,o2,none⟩ me c2 (u8s P9) rfl (by rw [HML,Nat.mul_one]) HC2.out (u8s_one _) (by simp only [maxLen];omega) (by omega) hbw ?_;intro v7 w7 ho7 hg7 _ hat7;obtain ⟨A7,c7,rfl⟩ := own_shp ho7;have HO7 := hid ho7;have HG7 := hid hg7;have HAT := hid hat7;have hb7 : Blk w7 g3 49 [.slice A0 k0 c0] := (hg7.block g3 HBW.out.lt (fun e => HNF.out g3 e.symm rfl)).trans HBW.out;have HB7 := hid hb7;have fz7 := hb7.frozen 0;have cd7 : w7.cell? ⟨g3,0,none⟩ = some (.slice A0 k0 c0) := hb7.cell 0;clear ho7 hg7 hb7 hat7))
       go_ret
       have HLE : (encP ⟨shop,seq,day,needs,clause,ops,sl⟩).length = k0 + me := by rw [HPF.out,List.length_append,HKL.out,HME.out]
       refine ⟨⟨A7,c7,by rw [HLE];rfl,by rw [HLE,HPF.out,u8s_append];exact HO7.out⟩,?_⟩
       exact ((Kept.of_ext (F := fun b => w.heap.size ≤ b) (Xo.out.next EW.out)).next (Kept.of_grown (F := fun b => (Value.slice A0 k0 c0).ownBlock = some b) HG7.out (fun b h _ => h)) (fun b _ h => own_geq HOWW.out h)).ext (fun b h => h)
end Go.Proofs.YtojcmcccahjphaaGreatDoor
