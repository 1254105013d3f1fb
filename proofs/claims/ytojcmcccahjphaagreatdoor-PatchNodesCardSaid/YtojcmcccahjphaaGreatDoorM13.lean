/- patch.encode: the bytes that its closures write to, what they leave alone, the closure that writes ints. Conditions: sizes that fit the memory. -/
import Derived.Test.YtojcmcccahjphaaGreatDoorM12
import Derived.Maps.AppendAt
import Derived.Great.Walk
set_option linter.unusedSimpArgs false
set_option linter.unusedVariables false
set_option maxHeartbeats 16000000
set_option maxRecDepth 100000
set_option maxRecDepth 100000
set_option maxHeartbeats 16000000
namespace Go.Proofs.YtojcmcccahjphaaGreatDoor
open Go.RowKit
open Lib (hid)
attribute [local go_sem ↓] wp_at_zero wp_at_succ
theorem own_shp {w : World} {base : Nat} {e : TypeId} {size n : Nat} {v : Value} {xs : List Value} (h : w.ownsRow base e size v n xs) : ∃ A c,v = .slice A n c := by
 rcases h.2 with ⟨rfl,h0⟩ | ⟨g,cap,cur,rfl,_⟩
 ·exact ⟨none,0,by rw [h0]⟩
 ·exact ⟨_,_,rfl⟩
def OutF (g : Nat) (w : World) (b : Nat) : Prop := b = g ∨ ∃ A n c,w.cell? ⟨g,0,none⟩ = some (.slice A n c) ∧ (Value.slice A n c).ownBlock = some b
def OutS (base g : Nat) (L : List Int) (w : World) : Prop := base ≤ g ∧ ∃ (A : Option Addr) (c : Nat),Blk w g 49 [.slice A L.length c] ∧ w.ownsRow base 5 1 (.slice A L.length c) L.length (u8s L)
structure OutK (g : Nat) (w w' : World) : Prop where
 kept : Kept (OutF g w) w w'
 back : ∀ b,b < w.heap.size → OutF g w' b → OutF g w b
theorem OutK.refl (g : Nat) (w : World) : OutK g w w := ⟨Kept.refl _ _,fun _ _ h => h⟩
theorem OutK.trans {g : Nat} {w w1 w2 : World} (h : OutK g w w1) (h2 : OutK g w1 w2) : OutK g w w2 :=
 ⟨h.kept.next h2.kept (fun b hb hf => h.back b hb hf),fun b hb hf => h.back b hb (h2.back b (Nat.lt_of_lt_of_le hb h.kept.size) hf)⟩
theorem OutK.of_ext {g : Nat} {w w' : World} (h : Ext w w') (hg : g < w.heap.size) : OutK g w w' :=
 ⟨Kept.of_ext h,fun b hb hf => by
  rcases hf with rfl | ⟨A,n,c,h1,h2⟩
  ·exact Or.inl rfl
  ·rw [h.cell (p := ⟨g,0,none⟩) hg] at h1
   exact Or.inr ⟨A,n,c,h1,h2⟩⟩
theorem OutK.blk {g h : Nat} {t : TypeId} {cs : List Value} {w w' : World} (hk : OutK g w w') (hb : Blk w h t cs) (hf : ¬ OutF g w h) : Blk w' h t cs ∧ ¬ OutF g w' h :=
 ⟨hk.kept.blk hb hf,fun h2 => hf (hk.back h hb.lt h2)⟩
theorem OutS.lt {base g : Nat} {L : List Int} {w : World} (h : OutS base g L w) : g < w.heap.size := by
 obtain ⟨_,A,c,hb,_⟩ := h
 exact hb.lt
theorem OutS.ext {base g : Nat} {L : List Int} {w w' : World} (h : OutS base g L w) (hE : Ext w w') : OutS base g L w' := by
 obtain ⟨h0,A,c,hb,ho⟩ := h
 exact ⟨h0,A,c,hb.ext hE,(Kept.of_ext (F := fun _ => False) hE).own ho (fun _ _ h => h)⟩
theorem out_apart {base g : Nat} {L : List Int} {w : World} (hs : OutS base g L w) {h : Nat} {t : TypeId} {cs : List Value} (hb : Blk w h t cs) (hh : h ≠ g) (ht : t ≠ 5) : ¬ OutF g w h := by
 obtain ⟨h0,A,c,hg,ho⟩ := hs
 rintro (rfl | ⟨A',n',c',h1,h2⟩)
 ·exact hh rfl
 ·have h3 : w.cell? ⟨g,0,none⟩ = some (.slice A L.length c) := hg.cell 0
  rw [h3] at h1
  injection h1 with h1
  rw [← h1] at h2
  rcases ho.2 with ⟨hv,_⟩ | ⟨g1,cap,cur,hv,_,hh1,_⟩
  ·rw [hv] at h2;cases h2
  ·rw [hv] at h2
   simp only [Value.ownBlock,Option.some.injEq] at h2
   subst h2
   unfold Blk at hb
   rw [hb] at hh1
   simp only [Option.some.injEq,Obj.cells.injEq] at hh1
   exact ht hh1.2.1
theorem base_kept {g base : Nat} {L : List Int} {w w0 w' : World} (hs : OutS base g L w) (hk : OutK g w w') (h0 : Ext w0 w) (hb : w0.heap.size ≤ base) : Ext w0 w' := by
 obtain ⟨h1,A,c,hg,ho⟩ := hs
 refine (Kept.of_ext (F := fun b => w0.heap.size ≤ b) h0).next hk.kept (fun b hb2 hf => ?_) |>.ext (fun b h => h)
 rcases hf with rfl | ⟨A',n',c',h3,h2⟩
 ·omega
 ·have h4 : w.cell? ⟨g,0,none⟩ = some (.slice A L.length c) := hg.cell 0
  rw [h4] at h3
  injection h3 with h3
  rw [← h3] at h2
  exact Nat.le_trans hb (own_geq ho h2)
theorem eints_any (l : List Int) (A : Option Addr) (n c g base : Nat) (L : List Int) (w : World) (hl : Rd w w.heap.size A n (i8s l)) (hwf : ∀ x ∈ l,-9223372036854775808 ≤ x ∧ x ≤ 9223372036854775807) (hn : n ≤ 1000000000) (hO : OutS base g L w) (hb : base ≤ w.heap.size) (hlen : L.length + (encL encInt l).length ≤ 100000000000) :
  Calls Tryz.prog 49 #[.slice A n c,.pointer (some ⟨g,0,none⟩)] w fun e w' => e = .returned (.tuple #[]) ∧ OutS base g (L ++ encL encInt l) w' ∧ OutK g w w' := by
 obtain ⟨i0,hi,hz0,hz1,hz2⟩ := info_parts winfo_u8
 obtain ⟨E,hE⟩ : ∃ E,E = encL encInt l := ⟨_,rfl⟩
 obtain ⟨m,hm⟩ : ∃ m,m = E.length := ⟨_,rfl⟩
 have HIN : Hid (∀ W,Ext w W → Calls Tryz.prog 50 #[.slice A n c] W fun e w' => (∃ A' c',e = .returned (.slice A' m c') ∧ Rd w' w'.heap.size A' m (u8s E)) ∧ Ext W w') := hid (fun W hW => (ints_any l A n c W (hl.ext' hW) hwf (by omega) (by omega)).mono fun e w' ⟨⟨A',c',h1,h2⟩,h3⟩ => ⟨⟨A',c',by rw [h1,hm,hE],by rw [hm,hE];exact Rd.of_own h2⟩,h3⟩)
 have HOS := hid hO
 obtain ⟨hbg,A0,c0,hbl,hown⟩ := hO
 obtain ⟨k,hk⟩ : ∃ k,k = L.length := ⟨_,rfl⟩
 rw [← hk] at hbl hown
 have HG := hid hbg;have HBL := hid hbl;have HOW := hid hown;have HB := hid hb
 have HKL := hid hk;have HML := hid hm
 have HMP : Hid (0 < m) := hid (by rw [hm,hE];unfold encL;simp only [List.length_append,encInt_length];omega)
 have hlen2 : k + m ≤ 100000000000 := by rw [hk,hm,hE];exact hlen
 rw [← hE]
 clear hl hwf hE hm hk hlen hbg hbl hown hb
 go_enter Tryz.func49,Tryz.ntmps49
 refine wp_region_flowF 3 ?FWI (fun us => ?_) (by kernel_rfl) (by kernel_rfl) (fun a b => Ext a b) Ext.refl (fun h1 h2 => h1.next h2) (fun i v W => match i with
  | 0 => v = .slice A0 k c0
  | 1 => v = .slice A n c
  | 2 => ∃ A2 c2,v = .slice A2 m c2 ∧ Rd W W.heap.size A2 m (u8s E)
  | _ => True) ?_ ?_
 case refine_1 =>
  simp only [List.take_succ_cons,List.take_zero,flowAct,Nat.zero_add,Nat.reduceAdd,Act.put,List.setIfInBounds_toArray,List.set_cons_succ,List.set_cons_zero]
  rfl
 ·simp only [List.take_succ_cons,List.take_zero,flowStepsF]
  refine ⟨?_,?_,?_,trivial⟩
  ·intro us W K hE hd hK
   have cc : W.cell? ⟨g,0,none⟩ = some (.slice A0 k c0) := (HBL.out.ext (sg_undrew hE)).cell 0
   dsimp only at hK ⊢
   have HK := hid hK;have HE := hid hE
   clear hK hd hE
   go_wp2_with fail
   exact K_at (HK.out (.slice A0 k c0) W (fun _ _ => rfl) (Ext.refl W)) (by kernel_rfl)
  ·intro us W K hE hd hK
   dsimp only at hK ⊢
   have HK := hid hK;have HE := hid hE
   clear hK hd hE
   go_wp2_with fail
   exact K_at (HK.out (.slice A n c) W (fun _ _ => rfl) (Ext.refl W)) (by kernel_rfl)
  ·intro us W K hE hd hK
   have d1 := hd 1 (by kernel_rfl)
   have HIW := hid (HIN.out W (sg_undrew hE))
   dsimp only at hK ⊢
   rw [d1] at hK ⊢
   have HK := hid hK;have HE := hid hE
   clear hK hd hE d1
   go_wp2_with ((go_at_call 50;(with_reducible refine HIW.out.mono ?_);rintro e w6 ⟨⟨A6,c6,rfl,hr6⟩,hB6⟩;have HR6 := hid hr6;clear hr6))
   exact K_at (HK.out (.slice A6 m c6) w6 (fun W2 h2 => ⟨A6,c6,rfl,Rd.ext' HR6.out h2⟩) hB6) (by kernel_rfl)
 ·intro us W hE hd
  try dsimp only
  have d0 := hd 0 (by decide)
  obtain ⟨A2,c2,d2,hr2⟩ := hd 2 (by decide)
  simp only [List.drop_succ_cons,List.drop_zero]
  rw [d0,d2]
  have EW := hid (sg_undrew hE)
  have HR2 := hid hr2
  clear hd hE d0 d2 hr2
  have HBW := hid (HBL.out.ext EW.out)
  have HOWW : Hid (W.ownsRow base 5 1 (.slice A0 k c0) k (u8s L)) := hid ((Kept.of_ext (F := fun _ => False) EW.out).own HOW.out (fun _ _ h => h))
  have hbw : base ≤ W.heap.size := Nat.le_trans HB.out EW.out.size
  have HNF : Hid (∀ b,(Value.slice A0 k c0).ownBlock = some b → b ≠ g) := hid (fun b hb2 e => by
   subst e
   rcases HOWW.out.2 with ⟨hv,_⟩ | ⟨g1,cap,cur,hv,_,hh1,_⟩
   ·rw [hv] at hb2;cases hb2
   ·rw [hv] at hb2
    simp only [Value.ownBlock,Option.some.injEq] at hb2
    subst hb2
    have h2 := HBW.out
    unfold Blk at h2
    rw [h2] at hh1
    simp only [Option.some.injEq,Obj.cells.injEq] at hh1
    exact absurd hh1.2.1 (by decide))
  obtain ⟨b2,o2,rfl,hb2,hc2⟩ := HR2.out.2 HMP.out
  have HC2 : Hid (∀ j u,(u8s E)[j]? = some u → W.cell? ((⟨b2,o2,none⟩ : Addr).add j) = some u) := hid (fun j u hu => by rw [Addr.add_mid];exact hc2 j u hu)
  clear hb2 hc2
  go_wp2_with (at_builtin;(refine wpList_append_own_at _ rfl (.tmp 3) (.tmp 5) 49 rfl base 5 i0 (.int .u8 0) 1 1 Tryz.underlying49 hi hz0 hz1 hz2 rfl (by omega) (.slice A0 k c0) k (u8s L) rfl HOWW.out ⟨b2,o2,none⟩ m c2 (u8s E) rfl (by rw [u8s_length,HML.out,Nat.mul_one]) HC2.out (u8s_one _) (by simp only [maxLen];omega) (by omega) hbw ?_;intro v7 w7 ho7 hg7 _ hat7;obtain ⟨A7,c7,rfl⟩ := own_shp ho7;have HO7 := hid ho7;have HG7 := hid hg7;have HAT := hid hat7;have hb7 : Blk w7 g 49 [.slice A0 k c0] := (hg7.block g HBW.out.lt (fun e => HNF.out g e.symm rfl)).trans HBW.out;have HB7 := hid hb7;have fz7 := hb7.frozen 0;have cd7 : w7.cell? ⟨g,0,none⟩ = some (.slice A0 k c0) := hb7.cell 0;clear ho7 hg7 hb7 hat7))
  go_end0
  obtain ⟨w8,hw8⟩ : ∃ x,x = w7.setCell ⟨g,0,none⟩ (.slice A7 (k + m) c7) := ⟨_,rfl⟩
  have HB8 : Blk w8 g 49 [.slice A7 (k + m) c7] := by rw [hw8];exact HB7.out.set 0 _
  have K78 : Kept (fun b => b = g) w7 w8 := by rw [hw8];exact Kept.setCell (F := fun b => b = g) (p := ⟨g,0,none⟩) w7 rfl _
  have HLE : (L ++ E).length = k + m := by rw [List.length_append,HKL.out,HML.out]
  have HOB : ∀ b,(Value.slice A7 (k + m) c7).ownBlock = some b → b ≠ g := fun b hb2 e => by
   subst e
   rcases HO7.out.2 with ⟨hv,_⟩ | ⟨g1,cap,cur,hv,_,hh1,_⟩
   ·rw [hv] at hb2;cases hb2
   ·rw [hv] at hb2
    simp only [Value.ownBlock,Option.some.injEq] at hb2
    subst hb2
    have h2 := HB7.out
    unfold Blk at h2
    rw [h2] at hh1
    simp only [Option.some.injEq,Obj.cells.injEq] at hh1
    exact absurd hh1.2.1 (by decide)
  have HO8 : w8.ownsRow base 5 1 (.slice A7 (k + m) c7) (k + m) (u8s L ++ u8s E) := K78.own HO7.out (fun b hb2 e => HOB b hb2 e)
  have hcell : w.cell? ⟨g,0,none⟩ = some (.slice A0 k c0) := HBL.out.cell 0
  have KW : Kept (OutF g w) w w8 := by
   refine (Kept.of_ext (F := OutF g w) EW.out).next (Kept.of_grown (F := fun b => (Value.slice A0 k c0).ownBlock = some b) HG7.out (fun b h _ => h)) (fun b _ h => Or.inr ⟨A0,k,c0,hcell,h⟩) |>.next K78 (fun b _ h => Or.inl h)
  rw [← hw8]
  refine ⟨rfl,⟨HG.out,A7,c7,by rw [HLE];exact HB8,by rw [HLE,u8s_append];exact HO8⟩,KW,fun b hb2 hf => ?_⟩
  rcases hf with rfl | ⟨A',n',c',h1,h2⟩
  ·exact Or.inl rfl
  ·have h3 : w8.cell? ⟨g,0,none⟩ = some (.slice A7 (k + m) c7) := HB8.cell 0
   rw [h3] at h1
   injection h1 with h1
   rw [← h1] at h2
   exact Or.inr ⟨A0,k,c0,hcell,by
    rcases HAT.out with h4 | h4
    ·rw [← h4];exact h2
    ·rw [h2] at h4
     injection h4 with h4
     have := EW.out.size
     omega⟩
end Go.Proofs.YtojcmcccahjphaaGreatDoor
/- patch.encode: the closure that writes a type. Conditions: the type was there before the bytes; sizes. -/
set_option maxRecDepth 100000
set_option maxHeartbeats 16000000
namespace Go.Proofs.YtojcmcccahjphaaGreatDoor
open Go.RowKit
open Lib (hid)
attribute [local go_sem ↓] wp_at_zero wp_at_succ
def tyI (x : TyN) (r : List TyN) : List Int := [x.k,x.d.s,x.d.q,x.d.i,if r = [] then 0 else 1]
def encT : List TyN → List Int
 | [] => []
 | x :: r => encL encInt (tyI x r) ++ encT r
def TyW (t : List TyN) : Prop := ∀ x ∈ t,i64 x.k ∧ i64 x.d.s ∧ i64 x.d.q ∧ i64 x.d.i
structure EncV (base g g4 g5 : Nat) (w : World) : Prop where
 b4 : Blk w g4 92 [.func (.func 49) #[] #[.pointer (some ⟨g,0,none⟩)]]
 b5 : Blk w g5 93 [.func (.func 51) #[] #[.pointer (some ⟨g4,0,none⟩),.pointer (some ⟨g5,0,none⟩)]]
 n4 : g4 ≠ g
 n5 : g5 ≠ g
theorem EncV.keep {base g g4 g5 : Nat} {L : List Int} {w w' : World} (h : EncV base g g4 g5 w) (hs : OutS base g L w) (hk : OutK g w w') : EncV base g g4 g5 w' :=
 ⟨(hk.blk h.b4 (out_apart hs h.b4 h.n4 (by decide))).1,(hk.blk h.b5 (out_apart hs h.b5 h.n5 (by decide))).1,h.n4,h.n5⟩
theorem EncV.ext {base g g4 g5 : Nat} {w w' : World} (h : EncV base g g4 g5 w) (hE : Ext w w') : EncV base g g4 g5 w' := ⟨h.b4.ext hE,h.b5.ext hE,h.n4,h.n5⟩
theorem tyI_i64 {x : TyN} {r : List TyN} (h : TyW (x :: r)) : ∀ y ∈ tyI x r,-9223372036854775808 ≤ y ∧ y ≤ 9223372036854775807 := fun y hy => by
 obtain ⟨h1,h2,h3,h4⟩ := h x (List.mem_cons_self ..)
 simp only [tyI,List.mem_cons,List.not_mem_nil,or_false] at hy
 rcases hy with rfl | rfl | rfl | rfl | rfl
 ·exact h1
 ·exact h2
 ·exact h3
 ·exact h4
 ·split <;> decide
theorem etyp_any (base g g4 g5 : Nat) (w0 : World) (hb0 : w0.heap.size ≤ base) : ∀ (t : List TyN) (cs : List Value) (L : List Int) (w : World),TyV w0 t cs → TyW t → Ext w0 w → OutS base g L w → EncV base g g4 g5 w → base ≤ w.heap.size → L.length + (encT t).length ≤ 100000000000 →
  Calls Tryz.prog 51 #[.agg cs.toArray,.pointer (some ⟨g4,0,none⟩),.pointer (some ⟨g5,0,none⟩)] w fun e w' => e = .returned (.tuple #[]) ∧ OutS base g (L ++ encT t) w' ∧ OutK g w w' := by
 intro t
 induction t with
 | nil => exact fun cs L w ht => ht.elim
 | cons x r ih =>
  intro cs L w ht hw hE hO hV hbs hlen
  have hty := ht
  obtain ⟨A,n,c,rfl,hnc,hc,hn⟩ := ht.head
  have hx := hw x (List.mem_cons_self ..)
  have hti := tyI_i64 hw
  obtain ⟨E1,hE1⟩ : ∃ E,E = encL encInt (tyI x r) := ⟨_,rfl⟩
  obtain ⟨E2,hE2⟩ : ∃ E,E = encT r := ⟨_,rfl⟩
  have hlen2 : L.length + E1.length + E2.length ≤ 100000000000 := by
   rw [hE1,hE2]
   have : encT (x :: r) = encL encInt (tyI x r) ++ encT r := rfl
   rw [this,List.length_append] at hlen
   omega
  have HFIN : Hid (encT (x :: r) = E1 ++ E2) := hid (by rw [hE1,hE2];rfl)
  have HNE : Hid (n = 0 → E2 = []) := hid (fun h => by
   rcases hn with ⟨_,h2⟩ | ⟨h2,_⟩
   ·rw [hE2,h2];rfl
   ·omega)
  have HTI : Hid (tyI x r = [x.k,x.d.s,x.d.q,x.d.i,(n : Int)]) := hid (by
   unfold tyI
   rcases hn with ⟨rfl,h2⟩ | ⟨rfl,h2⟩
   ·rw [if_pos h2];rfl
   ·rw [if_neg h2];rfl)
  have HEI : Hid (∀ (B : Option Addr) (m d : Nat) (W : World),Rd W W.heap.size B m (i8s (tyI x r)) → m = 5 → OutS base g L W → base ≤ W.heap.size → Calls Tryz.prog 49 #[.slice B m d,.pointer (some ⟨g,0,none⟩)] W fun e w' => e = .returned (.tuple #[]) ∧ OutS base g (L ++ E1) w' ∧ OutK g W w') := hid (fun B m d W h1 h2 h3 h4 => by
   rw [hE1]
   exact eints_any (tyI x r) B m d g base L W h1 hti (by omega) h3 h4 (by rw [← hE1];omega))
  have HKID : Hid (n = 1 → ∃ (b o : Nat) (ds : List Value),A = some ⟨b,o,none⟩ ∧ ds.length = 5 ∧ (∀ v ∈ ds,v.oneCell' = true) ∧ (∀ W,Ext w0 W → W.rangeAt b o ds) ∧ (∀ W,Ext w0 W → OutS base g (L ++ E1) W → EncV base g g4 g5 W → base ≤ W.heap.size → Calls Tryz.prog 51 #[.agg ds.toArray,.pointer (some ⟨g4,0,none⟩),.pointer (some ⟨g5,0,none⟩)] W fun e w' => e = .returned (.tuple #[]) ∧ OutS base g (L ++ E1 ++ E2) w' ∧ OutK g W w')) := hid (fun h1 => by
   subst h1
   cases r with
   | nil => obtain ⟨A',c',h,_⟩ := hty;simp [tyC] at h
   | cons y r =>
    obtain ⟨A',c',ds,h,_,_,h4,h5⟩ := hty
    obtain ⟨rfl,rfl⟩ : A' = A ∧ c' = c := by simp [tyC] at h;exact ⟨h.1.symm,h.2.symm⟩
    obtain ⟨b,o,hA,hb,hrg⟩ := h4.2 (by decide)
    refine ⟨b,o,ds,hA,h5.len,h5.one,fun W hW j u hu => (hW.cell (p := ⟨b,o + j,none⟩) hb).trans (hrg j u hu),fun W hW h6 h7 h8 => ?_⟩
    rw [hE2]
    exact ih ds (L ++ E1) W h5 (fun z hz => hw z (List.mem_cons_of_mem _ hz)) hW h6 h7 h8 (by rw [List.length_append,← hE2];omega))
  rw [HFIN.out]
  obtain ⟨k,s,q,i⟩ := x
  have HO := hid hO;have HV := hid hV;have HE := hid hE;have HBS := hid hbs
  have HN01 : Hid (n = 0 ∨ n = 1) := hid (by rcases hn with ⟨h,_⟩ | ⟨h,_⟩ <;> omega)
  rw [HTI.out] at HEI
  clear ht hty hw hE hO hV hbs hlen hn hx hti ih hE1 hE2 hlen2 HFIN HTI
  dsimp only at HEI
  unfold tyC
  dsimp only
  obtain ⟨w1,hw1⟩ : ∃ x,x = w.alloc (.cells #[.int .i64 k,.int .i64 s,.int .i64 q,.int .i64 i,.slice A n c] 26) := ⟨_,rfl⟩
  have E1' : Hid (Ext w w1) := hid (by rw [hw1];exact (Ext.refl w).alloc _)
  have B1 : Hid (Blk w1 w.heap.size 26 [.int .i64 k,.int .i64 s,.int .i64 q,.int .i64 i,.slice A n c]) := hid (by rw [hw1];exact Blk.fresh' _ _ _ _ _ rfl rfl)
  obtain ⟨gt,hgt⟩ : ∃ g,g = w.heap.size := ⟨_,rfl⟩
  go_enter Tryz.func51,Tryz.ntmps51
  go_upto_region 1 with fail
  change Code.wp _ _ _ _ (w.alloc (.cells #[.int .i64 k,.int .i64 s,.int .i64 q,.int .i64 i,.slice A n c] 26))
  rw [← hw1]
  rw [← hgt] at B1 ⊢
  have HGT : Hid (gt ≠ g) := hid (by have := HO.out.lt;omega)
  clear hw1 hgt
  have O1 := hid (HO.out.ext E1'.out)
  have V1 := hid (HV.out.ext E1'.out)
  have HB1 : Hid (base ≤ w1.heap.size) := hid (Nat.le_trans HBS.out E1'.out.size)
  obtain ⟨c0,c1,c2,c3,c4⟩ := ty_cell B1.out
  have cf : w1.cell? ⟨g4,0,none⟩ = some (.func (.func 49) #[] #[.pointer (some ⟨g,0,none⟩)]) := V1.out.b4.cell 0
  have HCI : Hid (Calls Tryz.prog 49 #[.slice (some ⟨w1.heap.size,0,none⟩) 5 5,.pointer (some ⟨g,0,none⟩)] (w1.alloc (.cells #[.int .i64 k,.int .i64 s,.int .i64 q,.int .i64 i,.int .i64 (n : Int)] 3)) fun e w' => e = .returned (.tuple #[]) ∧ OutS base g (L ++ E1) w' ∧ OutK g w1 w') := hid ((HEI.out (some ⟨w1.heap.size,0,none⟩) 5 5 _ (Rd.fresh_fr w1 #[.int .i64 k,.int .i64 s,.int .i64 q,.int .i64 i,.int .i64 (n : Int)] 3 (0,0) _ 5 rfl rfl) rfl (O1.out.ext ((Ext.refl w1).alloc _)) (Nat.le_trans HB1.out ((Ext.refl w1).alloc _).size)).mono fun e w' h => ⟨h.1,h.2.1,(OutK.of_ext ((Ext.refl w1).alloc _) O1.out.lt).trans h.2.2⟩)
  go_upto_region 2 with ((go_at_call 49;(with_reducible refine HCI.out.mono ?_);rintro e w3 ⟨rfl,hO3,hK3⟩;have O3 := hid hO3;have K3 := hid hK3;clear hO3 hK3))
  have B3 : Hid (Blk w3 gt 26 [.int .i64 k,.int .i64 s,.int .i64 q,.int .i64 i,.slice A n c]) := hid (K3.out.blk B1.out (out_apart O1.out B1.out HGT.out (by decide))).1
  have V3 : Hid (EncV base g g4 g5 w3) := hid (V1.out.keep O1.out K3.out)
  have X3 : Hid (Ext w0 w3) := hid (base_kept O1.out K3.out (HE.out.next E1'.out) hb0)
  have HB3 : Hid (base ≤ w3.heap.size) := hid (Nat.le_trans HB1.out K3.out.kept.size)
  have K03 : Hid (OutK g w w3) := hid ((OutK.of_ext E1'.out HO.out.lt).trans K3.out)
  clear c0 c1 c2 c3 c4 cf K3 B1 O1 V1 HB1 HEI
  have c4 : w3.cell? ⟨gt,4,none⟩ = some (.slice A n c) := B3.out.cell 4
  go_wp2_with fail
  go_loopw [5,26] (fun _ s26 wr => ∃ t : Nat,t ≤ n ∧ s26 = .int .i64 (t : Int) ∧ OutS base g (L ++ E1 ++ (if t = 0 then [] else E2)) wr ∧ OutK g w3 wr) (fun _ s26 _ => n - (intOf s26).toNat)
  case atStart => exact ⟨0,Nat.zero_le _,rfl,by rw [if_pos rfl,List.append_nil];exact O3.out,OutK.refl _ _⟩
  case round =>
   obtain ⟨t,ht,rfl,hOi,hKi⟩ := hrel
   obtain ⟨wi,rfl⟩ : ∃ x : World,x = wr := ⟨_,rfl⟩
   have Oi := hid hOi;have Ki := hid hKi
   clear hOi hKi
   by_cases hlt : t < n
   ·have h1 : n = 1 := by rcases HN01.out with h | h <;> omega
    obtain rfl : t = 0 := by omega
    obtain ⟨b,o,ds,hA,hl,hone,hrg,hcl⟩ := HKID.out h1
    subst h1 hA
    have Vi : Hid (EncV base g g4 g5 wi) := hid (V3.out.keep O3.out Ki.out)
    have Xi : Hid (Ext w0 wi) := hid (base_kept O3.out Ki.out X3.out hb0)
    have HBi : Hid (base ≤ wi.heap.size) := hid (Nat.le_trans HB3.out Ki.out.kept.size)
    have Oj : Hid (OutS base g (L ++ E1) wi) := hid (by have h := Oi.out;rw [if_pos rfl,List.append_nil] at h;exact h)
    have HRG := hid (hrg wi Xi.out)
    have HL := hid hl;have HONE := hid hone;have HCL := hid hcl
    have hld := hl
    clear hl hone hrg hcl ht hlt
    go_wp2_with (first
     | ((with_reducible refine wpList_load_row 26 b o ds HRG.out Tryz.underlying26 rfl (ty_info.trans (congrArg some HL.out.symm)) ?_ ?_ ?_);kernel_rfl;rfl)
     | (refine wpList_store_freshw rfl 26 (.tmp 5) (.tmp 29) rfl wi.heap.size rfl [.int .i64 0,.int .i64 0,.int .i64 0,.int .i64 0,.slice none 0 0] ds 26 (by kernel_rfl) (by kernel_rfl) (ty_info.trans (congrArg some HL.out.symm)) (Eq.trans (b := 5) rfl HL.out.symm) HONE.out ?_;intro w5 hw5 hE5 hz5;have B5 := hid hw5;have E5 := hid hE5;have V5 := hid (Vi.out.ext hE5);have O5 := hid (Oj.out.ext hE5);have f5 : w5.cell? ⟨g5,0,none⟩ = some (.func (.func 51) #[] #[.pointer (some ⟨g4,0,none⟩),.pointer (some ⟨g5,0,none⟩)]) := V5.out.b5.cell 0;clear hw5 hE5 hz5)
     | (refine wpList_load_blk rfl 26 (.tmp 5) rfl wi.heap.size (by kernel_rfl) B5.out Tryz.underlying26 rfl (ty_info.trans (congrArg some HL.out.symm)) ?_)
     | (go_at_call 51;(with_reducible refine (HCL.out w5 (Xi.out.next E5.out) O5.out V5.out (Nat.le_trans HBi.out E5.out.size)).mono ?_);rintro e w6 ⟨rfl,hO6,hK6⟩;have O6 := hid hO6;have K6 : Hid (OutK g w3 w6) := hid ((Ki.out.trans (OutK.of_ext E5.out Oj.out.lt)).trans hK6);clear hO6 hK6))
    go_roundw
    case rel => exact ⟨_,_,_,_,_,_,_,_,_,⟨1,Nat.le_refl _,by go_num,by rw [if_neg (by decide)];exact O6.out,K6.out⟩,rfl⟩
    case measure => simp [intOf]
   ·obtain rfl : t = n := by omega
    have HFO : Hid (OutS base g (L ++ (E1 ++ E2)) wi) := hid (by
     have h := Oi.out
     rw [← List.append_assoc]
     by_cases h0 : t = 0
     ·rw [HNE.out h0]
      rw [if_pos h0] at h
      exact h
     ·rw [if_neg h0] at h
      exact h)
    go_wp2_with fail
    go_end0
    exact ⟨rfl,HFO.out,K03.out.trans Ki.out⟩
end Go.Proofs.YtojcmcccahjphaaGreatDoor
/- Package patch: patches in memory, their bytes. No condition. -/
set_option maxRecDepth 100000
set_option maxHeartbeats 16000000
namespace Go.Proofs.YtojcmcccahjphaaGreatDoor
open Go.RowKit
open Lib (hid)
structure PatA where
 shop : Int
 seq : Int
 day : Int
 needs : List (Int × Int)
 clause : Int
 ops : List OpA
 sl : ByteArray
def patCl (p : PatA) (s1 s2 : Value) : List Value := [.int .i64 p.shop,.int .i64 p.seq,.int .i64 p.day,s1,.int .i64 p.clause,s2,.string p.sl]
def refC (x : Int × Int) : List Value := [.int .i64 x.1,.int .i64 x.2]
def refsC (L : List (Int × Int)) : List Value := L.flatMap refC
structure OX where
 o : OpA
 cs : List Value
def oxC (x : OX) : List Value := x.cs
def oxsC (L : List OX) : List Value := L.flatMap oxC
structure PatS (w : World) (p : PatA) (X : List OX) (A : Option Addr) (n c : Nat) (B : Option Addr) (m d : Nat) : Prop where
 needs : RdN w w.heap.size 2 A n (refsC p.needs)
 nle : n ≤ c
 ncap : c ≤ 9223372036854775807
 nfew : n ≤ 1000000
 ops : RdN w w.heap.size 28 B m (oxsC X)
 each : ∀ x ∈ X,OpV w x.o x.cs
 same : X.map (·.o) = p.ops
 ole : m ≤ d
 ocap : d ≤ 9223372036854775807
 ofew : m ≤ 1000000
def PatV (w : World) (p : PatA) (cs : List Value) : Prop := ∃ X A n c B m d,cs = patCl p (.slice A n c) (.slice B m d) ∧ PatS w p X A n c B m d
theorem PatS.ext {w w' : World} (hE : Ext w w') {p : PatA} {X : List OX} {A : Option Addr} {n c : Nat} {B : Option Addr} {m d : Nat} (h : PatS w p X A n c B m d) : PatS w' p X A n c B m d :=
 ⟨(h.needs.below hE (Nat.le_refl _)).more hE.size,h.nle,h.ncap,h.nfew,(h.ops.below hE (Nat.le_refl _)).more hE.size,fun x hx => (h.each x hx).ext hE,h.same,h.ole,h.ocap,h.ofew⟩
theorem PatV.ext {w w' : World} (hE : Ext w w') {p : PatA} {cs : List Value} (h : PatV w p cs) : PatV w' p cs := by
 obtain ⟨X,A,n,c,B,m,d,h1,h2⟩ := h
 exact ⟨X,A,n,c,B,m,d,h1,h2.ext hE⟩
theorem PatV.len {w : World} {p : PatA} {cs : List Value} (h : PatV w p cs) : cs.length = 7 := by
 obtain ⟨X,A,n,c,B,m,d,h1,h2⟩ := h
 rw [h1]
 rfl
theorem PatS.len {w : World} {p : PatA} {X : List OX} {A : Option Addr} {n c : Nat} {B : Option Addr} {m d : Nat} (h : PatS w p X A n c B m d) : p.needs.length = n ∧ X.length = m ∧ p.ops.length = m := by
 have h1 := h.needs.1
 have h2 := h.ops.1
 unfold refsC at h1
 unfold oxsC at h2
 rw [flatK_len refC 2 p.needs (fun x _ => rfl)] at h1
 rw [flatK_len oxC 28 X (fun x hx => (h.each x hx).len)] at h2
 have h3 : X.length = p.ops.length := by rw [← h.same,List.length_map]
 omega
def opN (o : OpA) : List Int := [o.k] ++ thrI o.on ++ thrI o.to' ++ [o.n,o.most]
def nodN (x : NodA) : List Int := [x.k,x.n] ++ thrI x.ref
def encN (x : NodA) : List Int := encL encInt (nodN x) ++ encT x.ty ++ encL encInt (x.kids.flatMap thrI) ++ encL encB x.names
def encO (o : OpA) : List Int := encL encInt (opN o) ++ encB o.name ++ encT o.ty ++ encN o.node ++ encL encB o.texts
def needI (L : List (Int × Int)) : List Int := L.flatMap fun x => [x.1,x.2]
def encP (p : PatA) : List Int := encL encInt [p.shop,p.seq,p.day,p.clause] ++ encL encInt (needI p.needs) ++ encInt (p.ops.length : Int) ++ p.ops.flatMap encO ++ encB p.sl
structure NodW (x : NodA) : Prop where
 nums : i64 x.k ∧ i64 x.n ∧ i64 x.ref.s ∧ i64 x.ref.q ∧ i64 x.ref.i
 ty : TyW x.ty
 kids : ∀ y ∈ x.kids,i64 y.s ∧ i64 y.q ∧ i64 y.i
 names : ∀ s ∈ x.names,s.size ≤ 1000000
structure OpW (o : OpA) : Prop where
 nums : i64 o.k ∧ i64 o.n ∧ i64 o.most
 on : i64 o.on.s ∧ i64 o.on.q ∧ i64 o.on.i
 to' : i64 o.to'.s ∧ i64 o.to'.q ∧ i64 o.to'.i
 name : o.name.size ≤ 1000000
 ty : TyW o.ty
 node : NodW o.node
 texts : ∀ s ∈ o.texts,s.size ≤ 1000000
structure PatW (p : PatA) : Prop where
 nums : i64 p.shop ∧ i64 p.seq ∧ i64 p.day ∧ i64 p.clause
 needs : ∀ x ∈ p.needs,i64 x.1 ∧ i64 x.2
 ops : ∀ o ∈ p.ops,OpW o
 sl : p.sl.size ≤ 1000000
 size : (encP p).length ≤ 1000000000
theorem pat_info : (Tryz.prog.info? 37).map (·.size) = some 7 := by kernel_rfl
theorem ref_info : (Tryz.prog.info? 47).map (·.size) = some 2 := by kernel_rfl
end Go.Proofs.YtojcmcccahjphaaGreatDoor
