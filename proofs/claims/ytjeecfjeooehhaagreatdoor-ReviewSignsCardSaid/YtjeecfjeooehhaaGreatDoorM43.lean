/- Verify of a review, in package review and in its reference. Conditions: RevV; the key that is used has a height up to 4; the table of constants is laid. -/
import Derived.Test.YtjeecfjeooehhaaGreatDoorM42
import Derived.Test.YtjeecfjeooehhaaGreatDoorM15
set_option linter.unusedSimpArgs false
set_option linter.unusedVariables false
set_option maxHeartbeats 16000000
set_option maxRecDepth 100000
namespace Go.Proofs.YtjeecfjeooehhaaGreatDoor
open Go.RowKit
open Lib (hid)
attribute [local go_sem ↓] wp_at_zero wp_at_succ
def pubsC (L : List (List Int × Int)) : List Value := L.flatMap fun x => pubC x.1 x.2
theorem pubsC_get (L : List (List Int × Int)) (hd : ∀ x ∈ L,x.1.length = 16) : ∀ k x,L[k]? = some x → ∀ j v,(pubC x.1 x.2)[j]? = some v → (pubsC L)[k * 17 + j]? = some v := by
 induction L with
 | nil => intro k x h;simp at h
 | cons y L ih =>
  intro k x h j v hv
  have hy : (pubC y.1 y.2).length = 17 := pubC_len _ _ (hd y (List.mem_cons_self ..))
  have e : pubsC (y :: L) = pubC y.1 y.2 ++ pubsC L := rfl
  rw [e]
  cases k with
  | zero =>
   simp only [List.getElem?_cons_zero,Option.some.injEq] at h
   subst h
   rw [Nat.zero_mul,Nat.zero_add,List.getElem?_append_left (by have := (List.getElem?_eq_some_iff.1 hv).1;omega)]
   exact hv
  | succ k =>
   simp only [List.getElem?_cons_succ] at h
   rw [List.getElem?_append_right (by omega),show (k + 1) * 17 + j - (pubC y.1 y.2).length = k * 17 + j by omega]
   exact ih (fun z hz => hd z (List.mem_cons_of_mem _ hz)) k x h j v hv
theorem pub_at {w : World} {B n : Nat} {A : Option Addr} {L : List (List Int × Int)} (h : RdN w B 17 A n (pubsC L)) (hd : ∀ x ∈ L,x.1.length = 16) (hn : 0 < n) : ∃ b p,A = some ⟨b,p,none⟩ ∧ b < B ∧ ∀ W : World,(∀ a : Addr,a.block < B → W.cell? a = w.cell? a) → ∀ k x,L[k]? = some x → W.rangeAt b (p + k * 17) (pubC x.1 x.2) := by
 obtain ⟨b,p,hA,hb,hc⟩ := h.2 hn
 refine ⟨b,p,hA,hb,fun W hW k x hx j v hv => ?_⟩
 rw [hW _ hb]
 have := hc (k * 17 + j) v (pubsC_get L hd k x hx j v hv)
 rw [← this]
 simp only [Nat.add_assoc]
theorem pubC_range {W : World} {g o : Nat} {d : List Int} {H : Int} (h : W.rangeAt g o (pubC d H)) : W.rangeAt g o (u8s d) := fun j v hv => h j v (by
 unfold pubC
 rw [List.getElem?_append_left (List.getElem?_eq_some_iff.1 hv).1]
 exact hv)
theorem pubC_16 (d : List Int) (H : Int) (hd : d.length = 16) : (pubC d H)[16]? = some (.int .i64 H) := by
 unfold pubC
 rw [List.getElem?_append_right (by rw [u8s_len,hd];exact Nat.le_refl _),u8s_len,hd]
 rfl
def verP (V : Int × Int) (h : Nat) (q : Int) : Int := if V.2 = 0 then (if V.1 + q = ((2 ^ h : Nat) : Int) then 0 else 10) else 10
theorem verV_bd (pub : List Int) (h : Nat) (msg S : ByteArray) (hS : S.size ≤ 1000000) : (verV pub h msg S).2 = 0 → ∃ k : Nat,k < 2 ^ h ∧ (verV pub h msg S).1 = (k : Int) := by
 intro h0
 rcases ver_cases pub h msg S hS with ⟨er,her,hg,hv⟩ | ⟨x,X,hSx,h0',h1,hX,hl,hc,hv⟩ | ⟨k,X,hSx,hk,hX,hl,hv⟩
 ·rw [hv] at h0;rcases her with rfl | rfl <;> cases h0
 ·rw [hv] at h0;cases h0
 ·rcases hv with ⟨_,hv⟩ | ⟨_,hv⟩
  ·exact ⟨k,hk,by rw [hv]⟩
  ·rw [hv] at h0;cases h0
theorem ver_invalid (r : Rev) (A B : Option Addr) (n c m d : Nat) (w : World) (hr : RevV w r A n c) (hv : validE r ≠ 0) :
  Calls Tryz.prog 20 #[.slice B m d,.agg (revC r A n c).toArray] w fun e w' => e = .returned (.int .i64 (validE r)) ∧ Ext w w' := by
 have HCL : Hid ((revC r A n c).length = 22) := hid (revC_len _ _ _ _ hr.mean)
 have HR := hid hr
 have HVL : Hid (∀ W,Ext w W → Calls Tryz.prog 23 #[.agg (revC r A n c).toArray] W fun e w' => e = .returned (.int .i64 (validE r)) ∧ Ext W w') := hid (fun W hW => valid_any r A n c W (HR.out.ext hW))
 generalize validE r = V at *
 have hvn : (V != (0 : Int)) = true := by rw [bne_iff_ne];exact hv
 clear hr hv
 go_enter Tryz.func20,Tryz.ntmps20
 go_upto_region 1 with fail
 obtain ⟨w2,hw2⟩ : ∃ x,x = w.alloc (.cells (revC r A n c).toArray 28) := ⟨_,rfl⟩
 change Code.wp _ _ _ _ (w.alloc (.cells (revC r A n c).toArray 28))
 rw [← hw2]
 have E2 : Hid (Ext w w2) := hid (by rw [hw2];exact (Ext.refl w).alloc _)
 have BR : Hid (Blk w2 w.heap.size 28 (revC r A n c)) := hid (by rw [hw2];exact Blk.fresh' _ _ _ _ _ rfl rfl)
 clear hw2
 go_wp2_with (first
  | (refine wpList_load_blk rfl 28 (.tmp 3) rfl w.heap.size (by kernel_rfl) BR.out Tryz.underlying28 rfl (info_rev.trans (congrArg some HCL.out.symm)) ?_)
  | (go_at_call 23;(with_reducible refine (HVL.out w2 E2.out).mono ?_);rintro e w3 ⟨rfl,hE3⟩;have E3 : Hid (Ext w w3) := hid (E2.out.next hE3);have BR3 := hid (BR.out.ext hE3);clear hE3))
 go_ret
 exact ⟨rfl,E3.out⟩
theorem ver_none (r : Rev) (A B : Option Addr) (n c m d : Nat) (w : World) (hr : RevV w r A n c) (hv : validE r = 0) (hm : (m : Int) ≤ r.shop) :
  Calls Tryz.prog 20 #[.slice B m d,.agg (revC r A n c).toArray] w fun e w' => e = .returned (.int .i64 6) ∧ Ext w w' := by
 have HCL : Hid ((revC r A n c).length = 22) := hid (revC_len _ _ _ _ hr.mean)
 have HR := hid hr
 have HVL : Hid (∀ W,Ext w W → Calls Tryz.prog 23 #[.agg (revC r A n c).toArray] W fun e w' => e = .returned (.int .i64 0) ∧ Ext W w') := hid (fun W hW => by rw [← hv];exact valid_any r A n c W (HR.out.ext hW))
 have hd1 : decide ((m : Int) ≤ r.shop) = true := decide_eq_true hm
 clear hr hv
 go_enter Tryz.func20,Tryz.ntmps20
 go_upto_region 1 with fail
 obtain ⟨w2,hw2⟩ : ∃ x,x = w.alloc (.cells (revC r A n c).toArray 28) := ⟨_,rfl⟩
 change Code.wp _ _ _ _ (w.alloc (.cells (revC r A n c).toArray 28))
 rw [← hw2]
 have E2 : Hid (Ext w w2) := hid (by rw [hw2];exact (Ext.refl w).alloc _)
 have BR : Hid (Blk w2 w.heap.size 28 (revC r A n c)) := hid (by rw [hw2];exact Blk.fresh' _ _ _ _ _ rfl rfl)
 clear hw2
 go_wp2_with (first
  | (refine wpList_load_blk rfl 28 (.tmp 3) rfl w.heap.size (by kernel_rfl) BR.out Tryz.underlying28 rfl (info_rev.trans (congrArg some HCL.out.symm)) ?_)
  | (go_at_call 23;(with_reducible refine (HVL.out w2 E2.out).mono ?_);rintro e w3 ⟨rfl,hE3⟩;have E3 : Hid (Ext w w3) := hid (E2.out.next hE3);have BR3 := hid (BR.out.ext hE3);have c0 : w3.cell? ⟨w.heap.size,0,none⟩ = some (.int .i64 r.shop) := (BR.out.ext hE3).cell 0;clear hE3))
 go_ret
 exact ⟨rfl,E3.out⟩
theorem rver_invalid (r : Rev) (A B : Option Addr) (n c m d : Nat) (w : World) (hr : RevV w r A n c) (hv : validE r ≠ 0) :
  Calls Tryz.prog 21 #[.slice B m d,.agg (revC r A n c).toArray] w fun e w' => e = .returned (.int .i64 (validE r)) ∧ Ext w w' := by
 have HCL : Hid ((revC r A n c).length = 22) := hid (revC_len _ _ _ _ hr.mean)
 have HR := hid hr
 have HVL : Hid (∀ W,Ext w W → Calls Tryz.prog 42 #[.agg (revC r A n c).toArray] W fun e w' => e = .returned (.int .i64 (validE r)) ∧ Ext W w') := hid (fun W hW => rvalid_any r A n c W (HR.out.ext hW))
 generalize validE r = V at *
 have hvn : (V != (0 : Int)) = true := by rw [bne_iff_ne];exact hv
 clear hr hv
 go_enter Tryz.func21,Tryz.ntmps21
 go_upto_region 1 with fail
 obtain ⟨w2,hw2⟩ : ∃ x,x = w.alloc (.cells (revC r A n c).toArray 28) := ⟨_,rfl⟩
 change Code.wp _ _ _ _ (w.alloc (.cells (revC r A n c).toArray 28))
 rw [← hw2]
 have E2 : Hid (Ext w w2) := hid (by rw [hw2];exact (Ext.refl w).alloc _)
 have BR : Hid (Blk w2 w.heap.size 28 (revC r A n c)) := hid (by rw [hw2];exact Blk.fresh' _ _ _ _ _ rfl rfl)
 clear hw2
 go_wp2_with (first
  | (refine wpList_load_blk rfl 28 (.tmp 3) rfl w.heap.size (by kernel_rfl) BR.out Tryz.underlying28 rfl (info_rev.trans (congrArg some HCL.out.symm)) ?_)
  | (go_at_call 42;(with_reducible refine (HVL.out w2 E2.out).mono ?_);rintro e w3 ⟨rfl,hE3⟩;have E3 : Hid (Ext w w3) := hid (E2.out.next hE3);have BR3 := hid (BR.out.ext hE3);clear hE3))
 go_ret
 exact ⟨rfl,E3.out⟩
theorem rver_none (r : Rev) (A B : Option Addr) (n c m d : Nat) (w : World) (hr : RevV w r A n c) (hv : validE r = 0) (hm : (m : Int) ≤ r.shop) :
  Calls Tryz.prog 21 #[.slice B m d,.agg (revC r A n c).toArray] w fun e w' => e = .returned (.int .i64 6) ∧ Ext w w' := by
 have HCL : Hid ((revC r A n c).length = 22) := hid (revC_len _ _ _ _ hr.mean)
 have HR := hid hr
 have HVL : Hid (∀ W,Ext w W → Calls Tryz.prog 42 #[.agg (revC r A n c).toArray] W fun e w' => e = .returned (.int .i64 0) ∧ Ext W w') := hid (fun W hW => by rw [← hv];exact rvalid_any r A n c W (HR.out.ext hW))
 have hd1 : decide ((m : Int) ≤ r.shop) = true := decide_eq_true hm
 clear hr hv
 go_enter Tryz.func21,Tryz.ntmps21
 go_upto_region 1 with fail
 obtain ⟨w2,hw2⟩ : ∃ x,x = w.alloc (.cells (revC r A n c).toArray 28) := ⟨_,rfl⟩
 change Code.wp _ _ _ _ (w.alloc (.cells (revC r A n c).toArray 28))
 rw [← hw2]
 have E2 : Hid (Ext w w2) := hid (by rw [hw2];exact (Ext.refl w).alloc _)
 have BR : Hid (Blk w2 w.heap.size 28 (revC r A n c)) := hid (by rw [hw2];exact Blk.fresh' _ _ _ _ _ rfl rfl)
 clear hw2
 go_wp2_with (first
  | (refine wpList_load_blk rfl 28 (.tmp 3) rfl w.heap.size (by kernel_rfl) BR.out Tryz.underlying28 rfl (info_rev.trans (congrArg some HCL.out.symm)) ?_)
  | (go_at_call 42;(with_reducible refine (HVL.out w2 E2.out).mono ?_);rintro e w3 ⟨rfl,hE3⟩;have E3 : Hid (Ext w w3) := hid (E2.out.next hE3);have BR3 := hid (BR.out.ext hE3);have c0 : w3.cell? ⟨w.heap.size,0,none⟩ = some (.int .i64 r.shop) := (BR.out.ext hE3).cell 0;clear hE3))
 go_ret
 exact ⟨rfl,E3.out⟩
theorem ver_form (r : Rev) (L : List (List Int × Int)) (A B : Option Addr) (n c m dd k h : Nat) (dg : List Int) (w : World) (hr : RevV w r A n c) (hv : validE r = 0) (hk : r.shop = (k : Int)) (hkm : k < m) (hL : ∀ x ∈ L,x.1.length = 16) (hB : RdN w w.heap.size 17 B m (pubsC L)) (hg : L[k]? = some (dg,(h : Int))) (hdg : Dig dg) (h4 : h ≤ 4) (hw : RevW r) (hm : (msgS r).size ≤ 1000000) (hs : r.sl.size ≤ 1000000) (hK : KTab w) :
  Calls Tryz.prog 20 #[.slice B m dd,.agg (revC r A n c).toArray] w fun e w' => e = .returned (.int .i64 (verP (verV dg h (msgS r) r.sl) h r.seq)) ∧ Ext w w' := by
 have HCL : Hid ((revC r A n c).length = 22) := hid (revC_len _ _ _ _ hr.mean)
 have HR := hid hr
 have HVL : Hid (∀ W,Ext w W → Calls Tryz.prog 23 #[.agg (revC r A n c).toArray] W fun e w' => e = .returned (.int .i64 0) ∧ Ext W w') := hid (fun W hW => by rw [← hv];exact valid_any r A n c W (HR.out.ext hW))
 obtain ⟨b,o,rfl,hb,hrg⟩ := pub_at hB hL (by omega)
 have HRG : Hid (∀ W,Ext w W → W.rangeAt b (o + k * 17) (pubC dg (h : Int))) := hid (fun W hW => hrg W (fun a ha => hW.cell ha) k _ hg)
 have HPL : Hid ((pubC dg (h : Int)).length = 17) := hid (pubC_len _ _ hdg.l)
 have HGL : Hid ((u8s dg).length = 16) := hid (by rw [u8s_len];exact hdg.l)
 have HP16 := hid (pubC_16 dg (h : Int) hdg.l)
 obtain ⟨p,hp⟩ : ∃ p,p = 2 ^ h := ⟨_,rfl⟩
 have hp16 : p ≤ 16 := by
  have := Nat.pow_le_pow_right (show 0 < 2 by decide) h4
  omega
 have hp2 : (2 : Int) ^ h = (p : Int) := by rw [hp];exact_mod_cast rfl
 have hwp : IntKind.i64.wrap (p : Int) = (p : Int) := wrap_id _ (by omega) (by omega)
 have hvz := (validE_zero hv).1
 obtain ⟨q,hq⟩ : ∃ q : Nat,r.seq = (q : Int) := Int.eq_ofNat_of_zero_le (by omega)
 have hq16 : q ≤ 16 := by omega
 have hbd := verV_bd dg h (msgS r) r.sl hs
 have HVE := verP
 obtain ⟨M,hM⟩ : ∃ M,M = msgS r := ⟨_,rfl⟩
 obtain ⟨S,hS⟩ : ∃ S,S = r.sl := ⟨_,rfl⟩
 have HMS : Hid (∀ W,Ext w W → Calls Tryz.prog 40 #[.agg (revC r A n c).toArray] W fun e w' => e = .returned (.string M) ∧ Ext W w') := hid (fun W hW => by rw [hM];exact message_any r A n c W (HR.out.ext hW) hw)
 obtain ⟨V,hV⟩ : ∃ V,V = verV dg h (msgS r) r.sl := ⟨_,rfl⟩
 obtain ⟨x,e,rfl⟩ : ∃ x e,V = (x,e) := ⟨V.1,V.2,rfl⟩
 have HSG : Hid (∀ W,Ext w W → Calls Tryz.prog 25 #[.agg (u8s dg).toArray,.int .i64 (h : Int),.string M,.string S] W fun ee w' => ee = .returned (.tuple #[.int .i64 x,.int .i64 e]) ∧ Ext W w') := hid (fun W hW => by
  have hh := verify_all dg h (msgS r) r.sl W hdg (by omega) hm hs (hK.below hW)
  rw [← hV] at hh
  rw [hM,hS]
  exact hh)
 rw [← hV] at hbd ⊢
 have HVP : Hid (verP (x,e) h r.seq = if e = 0 then (if x + (q : Int) = (p : Int) then 0 else 10) else 10) := hid (by unfold verP;rw [hq,hp])
 obtain ⟨Y,hY⟩ : ∃ Y,Y = verP (x,e) h r.seq := ⟨_,rfl⟩
 rw [← hY] at HVP ⊢
 have HBD : Hid (e = 0 → ∃ k : Nat,k < p ∧ x = (k : Int)) := hid (by rw [hp];exact hbd)
 have HB := hid hb
 have HSX := hid hS
 clear hS HVE hr hv hK hp hM hV hw hm hs hrg hg hdg hL hB hbd hvz hY hb
 go_enter Tryz.func20,Tryz.ntmps20
 go_upto_region 1 with fail
 obtain ⟨w2,hw2⟩ : ∃ x,x = w.alloc (.cells (revC r A n c).toArray 28) := ⟨_,rfl⟩
 change Code.wp _ _ _ _ (w.alloc (.cells (revC r A n c).toArray 28))
 rw [← hw2]
 have E2 : Hid (Ext w w2) := hid (by rw [hw2];exact (Ext.refl w).alloc _)
 have BR : Hid (Blk w2 w.heap.size 28 (revC r A n c)) := hid (by rw [hw2];exact Blk.fresh' _ _ _ _ _ rfl rfl)
 clear hw2
 go_upto_region 7 with (first
  | (refine wpList_load_blk rfl 28 (.tmp 3) rfl w.heap.size (by kernel_rfl) BR.out Tryz.underlying28 rfl (info_rev.trans (congrArg some HCL.out.symm)) ?_)
  | (go_at_call 23;(with_reducible refine (HVL.out w2 E2.out).mono ?_);rintro e w3 ⟨rfl,hE3⟩;have E3 : Hid (Ext w w3) := hid (E2.out.next hE3);have BR3 := hid (BR.out.ext hE3);have c0 : w3.cell? ⟨w.heap.size,0,none⟩ = some (.int .i64 (k : Int)) := (by rw [← hk];exact (BR.out.ext hE3).cell 0);have HRG3 := hid (HRG.out w3 E3.out);clear hE3)
  | (refine wpList_load_mid rfl 56 (.tmp 22) rfl b (o + k * 17) (by kernel_rfl) (pubC dg (h : Int)) _ HRG3.out Tryz.underlying56 rfl (pub_info.trans (congrArg some HPL.out.symm)) ?_)
  | (refine wpList_store_freshw rfl 56 (.tmp 6) (.tmp 23) rfl w3.heap.size rfl (pubC (List.replicate 16 0) 0) (pubC dg (h : Int)) 56 (by kernel_rfl) (by kernel_rfl) (pub_info.trans (congrArg some HPL.out.symm)) (Eq.trans (b := 17) rfl HPL.out.symm) (pubC_one _ _) ?_;intro w7 hw7 hE7 hz7;have BP := hid hw7;have E7 : Hid (Ext w w7) := hid (E3.out.next hE7);have BR7 := hid (BR3.out.ext hE7);clear hw7 hE7 hz7))
 obtain ⟨g,hgg⟩ : ∃ g,g = w3.heap.size := ⟨_,rfl⟩
 rw [← hgg] at BP ⊢
 clear c0 hgg
 refine wp_region_flowF 14 ?FWp (fun us => ?_) (by kernel_rfl) (by kernel_rfl) (fun a b => Ext a b) Ext.refl (fun h1 h2 => h1.next h2) (fun i v W => match i with
  | 0 => v = .pointer (some ⟨g,0,none⟩)
  | 1 => v = .agg (u8s dg).toArray
  | 2 => v = .pointer (some ⟨g,16,none⟩)
  | 3 => v = .int .i64 (h : Int)
  | 4 => v = .agg (revC r A n c).toArray
  | 5 => v = .string M
  | 6 => v = .pointer (some ⟨w.heap.size,21,none⟩)
  | 7 => v = .string S
  | 8 => v = .tuple #[.int .i64 x,.int .i64 e]
  | 9 => v = .tuple #[.int .i64 x,.int .i64 e]
  | 10 => v = .int .i64 x
  | 11 => v = .int .i64 e
  | 12 => v = .int .i64 x
  | 13 => v = .int .i64 e
  | _ => True) ?_ ?_
 case refine_1 =>
  simp only [List.take_succ_cons,List.take_zero,flowAct,Nat.zero_add,Nat.reduceAdd,Act.put,List.setIfInBounds_toArray,List.set_cons_succ,List.set_cons_zero]
  rfl
 ·simp only [List.take_succ_cons,List.take_zero,flowStepsF]
  refine ⟨?_,?_,?_,?_,?_,?_,?_,?_,?_,?_,?_,?_,?_,?_,trivial⟩
  ·intro us W K hE hd hK
   dsimp only at hK ⊢
   have HK := hid hK;have HE := hid hE
   clear hK hd hE
   go_wp2_with fail
   exact K_at (HK.out (.pointer (some ⟨g,0,none⟩)) W (fun _ _ => rfl) (Ext.refl W)) (by kernel_rfl)
  ·intro us W K hE hd hK
   have d0 := hd 0 (by kernel_rfl)
   have BW := hid (pubC_range (BP.out.ext (sg_udrew hE)).range)
   dsimp only at hK ⊢
   rw [d0] at hK ⊢
   have HK := hid hK;have HE := hid hE
   clear hK hd hE d0
   go_wp2_with ((refine wpList_load_mid rfl 26 (.tmp 25) rfl g 0 (by kernel_rfl) (u8s dg) _ BW.out Tryz.underlying26 rfl (dg_info.trans (congrArg some HGL.out.symm)) ?_))
   exact K_at (HK.out (.agg (u8s dg).toArray) W (fun _ _ => rfl) (Ext.refl W)) (by kernel_rfl)
  ·intro us W K hE hd hK
   dsimp only at hK ⊢
   have HK := hid hK;have HE := hid hE
   clear hK hd hE
   go_wp2_with fail
   exact K_at (HK.out (.pointer (some ⟨g,16,none⟩)) W (fun _ _ => rfl) (Ext.refl W)) (by kernel_rfl)
  ·intro us W K hE hd hK
   have d2 := hd 2 (by kernel_rfl)
   have cc : W.cell? ⟨g,16,none⟩ = some (.int .i64 (h : Int)) := ((BP.out.ext (sg_udrew hE)).cell 16).trans HP16.out
   dsimp only at hK ⊢
   rw [d2] at hK ⊢
   have HK := hid hK;have HE := hid hE
   clear hK hd hE d2
   go_wp2_with fail
   exact K_at (HK.out (.int .i64 (h : Int)) W (fun _ _ => rfl) (Ext.refl W)) (by kernel_rfl)
  ·intro us W K hE hd hK
   have BW := hid (BR7.out.ext (sg_udrew hE))
   dsimp only at hK ⊢
   have HK := hid hK;have HE := hid hE
   clear hK hd hE
   go_wp2_with ((refine wpList_load_want (by rfl) 28 (.tmp 3) rfl w.heap.size (by kernel_rfl) BW.out Tryz.underlying28 rfl (info_rev.trans (congrArg some HCL.out.symm)) ?_))
   exact K_at (HK.out (.agg (revC r A n c).toArray) W (fun _ _ => rfl) (Ext.refl W)) (by kernel_rfl)
  ·intro us W K hE hd hK
   have d4 := hd 4 (by kernel_rfl)
   have HMW := hid (HMS.out W (E7.out.next (sg_udrew hE)))
   dsimp only at hK ⊢
   rw [d4] at hK ⊢
   have HK := hid hK;have HE := hid hE
   clear hK hd hE d4
   go_wp2_with ((go_at_call 40;(with_reducible refine HMW.out.mono ?_);rintro e w6 ⟨rfl,hB6⟩))
   exact K_at (HK.out (.string M) w6 (fun _ _ => rfl) hB6) (by kernel_rfl)
  ·intro us W K hE hd hK
   dsimp only at hK ⊢
   have HK := hid hK;have HE := hid hE
   clear hK hd hE
   go_wp2_with fail
   exact K_at (HK.out (.pointer (some ⟨w.heap.size,21,none⟩)) W (fun _ _ => rfl) (Ext.refl W)) (by kernel_rfl)
  ·intro us W K hE hd hK
   have d6 := hd 6 (by kernel_rfl)
   have cc : W.cell? ⟨w.heap.size,21,none⟩ = some (.string S) := by rw [HSX.out];exact ((BR7.out.ext (sg_udrew hE)).cell 21).trans (revC_21 _ _ _ _ HR.out.mean)
   dsimp only at hK ⊢
   rw [d6] at hK ⊢
   have HK := hid hK;have HE := hid hE
   clear hK hd hE d6
   go_wp2_with fail
   exact K_at (HK.out (.string S) W (fun _ _ => rfl) (Ext.refl W)) (by kernel_rfl)
  ·intro us W K hE hd hK
   have d1 := hd 1 (by kernel_rfl)
   have d3 := hd 3 (by kernel_rfl)
   have d5 := hd 5 (by kernel_rfl)
   have d7 := hd 7 (by kernel_rfl)
   have HSW := hid (HSG.out W (E7.out.next (sg_udrew hE)))
   dsimp only at hK ⊢
   rw [d1,d3,d5,d7] at hK ⊢
   have HK := hid hK;have HE := hid hE
   clear hK hd hE d1 d3 d5 d7
   go_wp2_with ((go_at_call 25;(with_reducible refine HSW.out.mono ?_);rintro e w6 ⟨rfl,hB6⟩))
   exact K_at (HK.out (.tuple #[.int .i64 x,.int .i64 e]) w6 (fun _ _ => rfl) hB6) (by kernel_rfl)
  ·intro us W K hE hd hK
   have d8 := hd 8 (by kernel_rfl)
   dsimp only at hK ⊢
   rw [d8] at hK ⊢
   have HK := hid hK;have HE := hid hE
   clear hK hd hE d8
   go_wp2_with fail
   exact K_at (HK.out (.tuple #[.int .i64 x,.int .i64 e]) W (fun _ _ => rfl) (Ext.refl W)) (by kernel_rfl)
  ·intro us W K hE hd hK
   have d9 := hd 9 (by kernel_rfl)
   dsimp only at hK ⊢
   rw [d9] at hK ⊢
   have HK := hid hK;have HE := hid hE
   clear hK hd hE d9
   go_wp2_with fail
   exact K_at (HK.out (.int .i64 x) W (fun _ _ => rfl) (Ext.refl W)) (by kernel_rfl)
  ·intro us W K hE hd hK
   have d9 := hd 9 (by kernel_rfl)
   dsimp only at hK ⊢
   rw [d9] at hK ⊢
   have HK := hid hK;have HE := hid hE
   clear hK hd hE d9
   go_wp2_with fail
   exact K_at (HK.out (.int .i64 e) W (fun _ _ => rfl) (Ext.refl W)) (by kernel_rfl)
  ·intro us W K hE hd hK
   have d10 := hd 10 (by kernel_rfl)
   dsimp only at hK ⊢
   rw [d10] at hK ⊢
   have HK := hid hK;have HE := hid hE
   clear hK hd hE d10
   go_wp2_with fail
   exact K_at (HK.out (.int .i64 x) W (fun _ _ => rfl) (Ext.refl W)) (by kernel_rfl)
  ·intro us W K hE hd hK
   have d11 := hd 11 (by kernel_rfl)
   dsimp only at hK ⊢
   rw [d11] at hK ⊢
   have HK := hid hK;have HE := hid hE
   clear hK hd hE d11
   go_wp2_with fail
   exact K_at (HK.out (.int .i64 e) W (fun _ _ => rfl) (Ext.refl W)) (by kernel_rfl)
 ·intro us W hE hd
  try dsimp only
  have d12 := hd 12 (by decide)
  have d13 := hd 13 (by decide)
  simp only [List.drop_succ_cons,List.drop_zero]
  rw [d12,d13]
  have EW := hid (sg_udrew hE)
  clear hd hE d12 d13
  have BRW := hid (BR7.out.ext EW.out)
  have BPW := hid (BP.out.ext EW.out)
  have EWW := hid (E7.out.next EW.out)
  have c1 : W.cell? ⟨w.heap.size,1,none⟩ = some (.int .i64 (q : Int)) := by rw [← hq];exact BRW.out.cell 1
  have c2 : W.cell? ⟨g,16,none⟩ = some (.int .i64 (h : Int)) := (BPW.out.cell 16).trans HP16.out
  clear hk hq
  go_upto_region 8 with fail
  by_cases he : e = 0
  ·obtain ⟨u,hu,rfl⟩ := HBD.out he
   subst he
   have hws : IntKind.i64.wrap ((u : Int) + (q : Int)) = (u : Int) + (q : Int) := wrap_id _ (by omega) (by omega)
   by_cases ht : (u : Int) + (q : Int) = (p : Int)
   ·have ht1 : ((u : Int) + (q : Int) != (p : Int)) = false := by simp [ht]
    have HT : Hid (Y = 0) := hid (HVP.out.trans ((if_pos rfl).trans (if_pos ht)))
    clear ht
    go_quiet (fail)
    go_wp2_with fail
    go_ret
    exact ⟨by rw [HT.out];rfl,EWW.out.next ((Ext.refl W).drewN _)⟩
   ·have ht1 : ((u : Int) + (q : Int) != (p : Int)) = true := by rw [bne_iff_ne];exact ht
    have HT : Hid (Y = 10) := hid (HVP.out.trans ((if_pos rfl).trans (if_neg ht)))
    clear ht
    go_quiet (fail)
    go_wp2_with fail
    go_ret
    exact ⟨by rw [HT.out];rfl,EWW.out.next ((Ext.refl W).drewN _)⟩
  ·have he1 : (e != (0 : Int)) = true := by rw [bne_iff_ne];exact he
   have HT : Hid (Y = 10) := hid (HVP.out.trans (if_neg he))
   clear he
   go_quiet (fail)
   go_wp2_with fail
   go_ret
   exact ⟨by rw [HT.out];rfl,EWW.out.next ((Ext.refl W).drewN _)⟩
theorem rver_form (r : Rev) (L : List (List Int × Int)) (A B : Option Addr) (n c m dd k h : Nat) (dg : List Int) (w : World) (hr : RevV w r A n c) (hv : validE r = 0) (hk : r.shop = (k : Int)) (hkm : k < m) (hL : ∀ x ∈ L,x.1.length = 16) (hB : RdN w w.heap.size 17 B m (pubsC L)) (hg : L[k]? = some (dg,(h : Int))) (hdg : Dig dg) (h4 : h ≤ 4) (hw : RevW r) (hm : (msgS r).size ≤ 1000000) (hs : r.sl.size ≤ 1000000) (hK : RTab w) :
  Calls Tryz.prog 21 #[.slice B m dd,.agg (revC r A n c).toArray] w fun e w' => e = .returned (.int .i64 (verP (verV dg h (msgS r) r.sl) h r.seq)) ∧ Ext w w' := by
 have HCL : Hid ((revC r A n c).length = 22) := hid (revC_len _ _ _ _ hr.mean)
 have HR := hid hr
 have HVL : Hid (∀ W,Ext w W → Calls Tryz.prog 42 #[.agg (revC r A n c).toArray] W fun e w' => e = .returned (.int .i64 0) ∧ Ext W w') := hid (fun W hW => by rw [← hv];exact rvalid_any r A n c W (HR.out.ext hW))
 obtain ⟨b,o,rfl,hb,hrg⟩ := pub_at hB hL (by omega)
 have HRG : Hid (∀ W,Ext w W → W.rangeAt b (o + k * 17) (pubC dg (h : Int))) := hid (fun W hW => hrg W (fun a ha => hW.cell ha) k _ hg)
 have HPL : Hid ((pubC dg (h : Int)).length = 17) := hid (pubC_len _ _ hdg.l)
 have HGL : Hid ((u8s dg).length = 16) := hid (by rw [u8s_len];exact hdg.l)
 have HP16 := hid (pubC_16 dg (h : Int) hdg.l)
 obtain ⟨p,hp⟩ : ∃ p,p = 2 ^ h := ⟨_,rfl⟩
 have hp16 : p ≤ 16 := by
  have := Nat.pow_le_pow_right (show 0 < 2 by decide) h4
  omega
 have hp2 : (2 : Int) ^ h = (p : Int) := by rw [hp];exact_mod_cast rfl
 have hwp : IntKind.i64.wrap (p : Int) = (p : Int) := wrap_id _ (by omega) (by omega)
 have hvz := (validE_zero hv).1
 obtain ⟨q,hq⟩ : ∃ q : Nat,r.seq = (q : Int) := Int.eq_ofNat_of_zero_le (by omega)
 have hq16 : q ≤ 16 := by omega
 have hbd := verV_bd dg h (msgS r) r.sl hs
 have HVE := verP
 obtain ⟨M,hM⟩ : ∃ M,M = msgS r := ⟨_,rfl⟩
 obtain ⟨S,hS⟩ : ∃ S,S = r.sl := ⟨_,rfl⟩
 have HMS : Hid (∀ W,Ext w W → Calls Tryz.prog 26 #[.agg (revC r A n c).toArray] W fun e w' => e = .returned (.string M) ∧ Ext W w') := hid (fun W hW => by rw [hM];exact rmessage_any r A n c W (HR.out.ext hW) hw)
 obtain ⟨V,hV⟩ : ∃ V,V = verV dg h (msgS r) r.sl := ⟨_,rfl⟩
 obtain ⟨x,e,rfl⟩ : ∃ x e,V = (x,e) := ⟨V.1,V.2,rfl⟩
 have HSG : Hid (∀ W,Ext w W → Calls Tryz.prog 45 #[.agg (u8s dg).toArray,.int .i64 (h : Int),.string M,.string S] W fun ee w' => ee = .returned (.tuple #[.int .i64 x,.int .i64 e]) ∧ Ext W w') := hid (fun W hW => by
  have hh := rverify_all dg h (msgS r) r.sl W hdg (by omega) hm hs (hK.below hW)
  rw [← hV] at hh
  rw [hM,hS]
  exact hh)
 rw [← hV] at hbd ⊢
 have HVP : Hid (verP (x,e) h r.seq = if e = 0 then (if x + (q : Int) = (p : Int) then 0 else 10) else 10) := hid (by unfold verP;rw [hq,hp])
 obtain ⟨Y,hY⟩ : ∃ Y,Y = verP (x,e) h r.seq := ⟨_,rfl⟩
 rw [← hY] at HVP ⊢
 have HBD : Hid (e = 0 → ∃ k : Nat,k < p ∧ x = (k : Int)) := hid (by rw [hp];exact hbd)
 have HB := hid hb
 have HSX := hid hS
 clear hS HVE hr hv hK hp hM hV hw hm hs hrg hg hdg hL hB hbd hvz hY hb
 go_enter Tryz.func21,Tryz.ntmps21
 go_upto_region 1 with fail
 obtain ⟨w2,hw2⟩ : ∃ x,x = w.alloc (.cells (revC r A n c).toArray 28) := ⟨_,rfl⟩
 change Code.wp _ _ _ _ (w.alloc (.cells (revC r A n c).toArray 28))
 rw [← hw2]
 have E2 : Hid (Ext w w2) := hid (by rw [hw2];exact (Ext.refl w).alloc _)
 have BR : Hid (Blk w2 w.heap.size 28 (revC r A n c)) := hid (by rw [hw2];exact Blk.fresh' _ _ _ _ _ rfl rfl)
 clear hw2
 go_upto_region 6 with (first
  | (refine wpList_load_blk rfl 28 (.tmp 3) rfl w.heap.size (by kernel_rfl) BR.out Tryz.underlying28 rfl (info_rev.trans (congrArg some HCL.out.symm)) ?_)
  | (go_at_call 42;(with_reducible refine (HVL.out w2 E2.out).mono ?_);rintro e w3 ⟨rfl,hE3⟩;have E3 : Hid (Ext w w3) := hid (E2.out.next hE3);have BR3 := hid (BR.out.ext hE3);have c0 : w3.cell? ⟨w.heap.size,0,none⟩ = some (.int .i64 (k : Int)) := (by rw [← hk];exact (BR.out.ext hE3).cell 0);clear hE3))
 clear c0
 rw [show decide (m ≤ k) = false from decide_eq_false (by omega)]
 refine wp_region_flowF 22 ?FWr (fun us => ?_) (by kernel_rfl) (by kernel_rfl) (fun a b => Ext a b) Ext.refl (fun h1 h2 => h1.next h2) (fun i v W => match i with
  | 0 => v = .slice (some ⟨b,o,none⟩) m dd
  | 1 => v = .pointer (some ⟨w.heap.size,0,none⟩)
  | 2 => v = .int .i64 (k : Int)
  | 3 => v = .pointer (some ⟨b,o + k * 17,none⟩)
  | 4 => v = .pointer (some ⟨b,o + k * 17,none⟩)
  | 5 => v = .agg (u8s dg).toArray
  | 6 => v = .slice (some ⟨b,o,none⟩) m dd
  | 7 => v = .pointer (some ⟨w.heap.size,0,none⟩)
  | 8 => v = .int .i64 (k : Int)
  | 9 => v = .pointer (some ⟨b,o + k * 17,none⟩)
  | 10 => v = .pointer (some ⟨b,o + k * 17 + 16,none⟩)
  | 11 => v = .int .i64 (h : Int)
  | 12 => v = .agg (revC r A n c).toArray
  | 13 => v = .string M
  | 14 => v = .pointer (some ⟨w.heap.size,21,none⟩)
  | 15 => v = .string S
  | 16 => v = .tuple #[.int .i64 x,.int .i64 e]
  | 17 => v = .tuple #[.int .i64 x,.int .i64 e]
  | 18 => v = .int .i64 x
  | 19 => v = .int .i64 e
  | 20 => v = .int .i64 x
  | 21 => v = .int .i64 e
  | _ => True) ?_ ?_
 case refine_1 =>
  simp only [List.take_succ_cons,List.take_zero,flowAct,Nat.zero_add,Nat.reduceAdd,Act.put,List.setIfInBounds_toArray,List.set_cons_succ,List.set_cons_zero]
  rfl
 ·simp only [List.take_succ_cons,List.take_zero,flowStepsF]
  refine ⟨?_,?_,?_,?_,?_,?_,?_,?_,?_,?_,?_,?_,?_,?_,?_,?_,?_,?_,?_,?_,?_,?_,trivial⟩
  ·intro us W K hE hd hK
   dsimp only at hK ⊢
   have HK := hid hK;have HE := hid hE
   clear hK hd hE
   go_wp2_with fail
   exact K_at (HK.out (.slice (some ⟨b,o,none⟩) m dd) W (fun _ _ => rfl) (Ext.refl W)) (by kernel_rfl)
  ·intro us W K hE hd hK
   dsimp only at hK ⊢
   have HK := hid hK;have HE := hid hE
   clear hK hd hE
   go_wp2_with fail
   exact K_at (HK.out (.pointer (some ⟨w.heap.size,0,none⟩)) W (fun _ _ => rfl) (Ext.refl W)) (by kernel_rfl)
  ·intro us W K hE hd hK
   have d1 := hd 1 (by kernel_rfl)
   have cc : W.cell? ⟨w.heap.size,0,none⟩ = some (.int .i64 (k : Int)) := by rw [← hk];exact (BR3.out.ext (sg_udrew hE)).cell 0
   dsimp only at hK ⊢
   rw [d1] at hK ⊢
   have HK := hid hK;have HE := hid hE
   clear hK hd hE d1
   go_wp2_with fail
   exact K_at (HK.out (.int .i64 (k : Int)) W (fun _ _ => rfl) (Ext.refl W)) (by kernel_rfl)
  ·intro us W K hE hd hK
   have d0 := hd 0 (by kernel_rfl)
   have d2 := hd 2 (by kernel_rfl)
   dsimp only at hK ⊢
   rw [d0,d2] at hK ⊢
   have HK := hid hK;have HE := hid hE
   clear hK hd hE d0 d2
   go_wp2_with fail
   exact K_at (HK.out (.pointer (some ⟨b,o + k * 17,none⟩)) W (fun _ _ => rfl) (Ext.refl W)) (by kernel_rfl)
  ·intro us W K hE hd hK
   have d3 := hd 3 (by kernel_rfl)
   dsimp only at hK ⊢
   rw [d3] at hK ⊢
   have HK := hid hK;have HE := hid hE
   clear hK hd hE d3
   go_wp2_with fail
   exact K_at (HK.out (.pointer (some ⟨b,o + k * 17,none⟩)) W (fun _ _ => rfl) (Ext.refl W)) (by kernel_rfl)
  ·intro us W K hE hd hK
   have d4 := hd 4 (by kernel_rfl)
   have BW := hid (pubC_range (HRG.out W (E3.out.next (sg_udrew hE))))
   dsimp only at hK ⊢
   rw [d4] at hK ⊢
   have HK := hid hK;have HE := hid hE
   clear hK hd hE d4
   go_wp2_with ((refine wpList_load_mid rfl 26 (.tmp 23) rfl b (o + k * 17) (by kernel_rfl) (u8s dg) _ BW.out Tryz.underlying26 rfl (dg_info.trans (congrArg some HGL.out.symm)) ?_))
   exact K_at (HK.out (.agg (u8s dg).toArray) W (fun _ _ => rfl) (Ext.refl W)) (by kernel_rfl)
  ·intro us W K hE hd hK
   dsimp only at hK ⊢
   have HK := hid hK;have HE := hid hE
   clear hK hd hE
   go_wp2_with fail
   exact K_at (HK.out (.slice (some ⟨b,o,none⟩) m dd) W (fun _ _ => rfl) (Ext.refl W)) (by kernel_rfl)
  ·intro us W K hE hd hK
   dsimp only at hK ⊢
   have HK := hid hK;have HE := hid hE
   clear hK hd hE
   go_wp2_with fail
   exact K_at (HK.out (.pointer (some ⟨w.heap.size,0,none⟩)) W (fun _ _ => rfl) (Ext.refl W)) (by kernel_rfl)
  ·intro us W K hE hd hK
   have d7 := hd 7 (by kernel_rfl)
   have cc : W.cell? ⟨w.heap.size,0,none⟩ = some (.int .i64 (k : Int)) := by rw [← hk];exact (BR3.out.ext (sg_udrew hE)).cell 0
   dsimp only at hK ⊢
   rw [d7] at hK ⊢
   have HK := hid hK;have HE := hid hE
   clear hK hd hE d7
   go_wp2_with fail
   exact K_at (HK.out (.int .i64 (k : Int)) W (fun _ _ => rfl) (Ext.refl W)) (by kernel_rfl)
  ·intro us W K hE hd hK
   have d6 := hd 6 (by kernel_rfl)
   have d8 := hd 8 (by kernel_rfl)
   dsimp only at hK ⊢
   rw [d6,d8] at hK ⊢
   have HK := hid hK;have HE := hid hE
   clear hK hd hE d6 d8
   go_wp2_with fail
   exact K_at (HK.out (.pointer (some ⟨b,o + k * 17,none⟩)) W (fun _ _ => rfl) (Ext.refl W)) (by kernel_rfl)
  ·intro us W K hE hd hK
   have d9 := hd 9 (by kernel_rfl)
   dsimp only at hK ⊢
   rw [d9] at hK ⊢
   have HK := hid hK;have HE := hid hE
   clear hK hd hE d9
   go_wp2_with fail
   exact K_at (HK.out (.pointer (some ⟨b,o + k * 17 + 16,none⟩)) W (fun _ _ => rfl) (Ext.refl W)) (by kernel_rfl)
  ·intro us W K hE hd hK
   have d10 := hd 10 (by kernel_rfl)
   have cc : W.cell? ⟨b,o + k * 17 + 16,none⟩ = some (.int .i64 (h : Int)) := HRG.out W (E3.out.next (sg_udrew hE)) 16 _ HP16.out
   dsimp only at hK ⊢
   rw [d10] at hK ⊢
   have HK := hid hK;have HE := hid hE
   clear hK hd hE d10
   go_wp2_with fail
   exact K_at (HK.out (.int .i64 (h : Int)) W (fun _ _ => rfl) (Ext.refl W)) (by kernel_rfl)
  ·intro us W K hE hd hK
   have BW := hid (BR3.out.ext (sg_udrew hE))
   dsimp only at hK ⊢
   have HK := hid hK;have HE := hid hE
   clear hK hd hE
   go_wp2_with ((refine wpList_load_want (by rfl) 28 (.tmp 3) rfl w.heap.size (by kernel_rfl) BW.out Tryz.underlying28 rfl (info_rev.trans (congrArg some HCL.out.symm)) ?_))
   exact K_at (HK.out (.agg (revC r A n c).toArray) W (fun _ _ => rfl) (Ext.refl W)) (by kernel_rfl)
  ·intro us W K hE hd hK
   have d12 := hd 12 (by kernel_rfl)
   have HMW := hid (HMS.out W (E3.out.next (sg_udrew hE)))
   dsimp only at hK ⊢
   rw [d12] at hK ⊢
   have HK := hid hK;have HE := hid hE
   clear hK hd hE d12
   go_wp2_with ((go_at_call 26;(with_reducible refine HMW.out.mono ?_);rintro e w6 ⟨rfl,hB6⟩))
   exact K_at (HK.out (.string M) w6 (fun _ _ => rfl) hB6) (by kernel_rfl)
  ·intro us W K hE hd hK
   dsimp only at hK ⊢
   have HK := hid hK;have HE := hid hE
   clear hK hd hE
   go_wp2_with fail
   exact K_at (HK.out (.pointer (some ⟨w.heap.size,21,none⟩)) W (fun _ _ => rfl) (Ext.refl W)) (by kernel_rfl)
  ·intro us W K hE hd hK
   have d14 := hd 14 (by kernel_rfl)
   have cc : W.cell? ⟨w.heap.size,21,none⟩ = some (.string S) := by rw [HSX.out];exact ((BR3.out.ext (sg_udrew hE)).cell 21).trans (revC_21 _ _ _ _ HR.out.mean)
   dsimp only at hK ⊢
   rw [d14] at hK ⊢
   have HK := hid hK;have HE := hid hE
   clear hK hd hE d14
   go_wp2_with fail
   exact K_at (HK.out (.string S) W (fun _ _ => rfl) (Ext.refl W)) (by kernel_rfl)
  ·intro us W K hE hd hK
   have d5 := hd 5 (by kernel_rfl)
   have d11 := hd 11 (by kernel_rfl)
   have d13 := hd 13 (by kernel_rfl)
   have d15 := hd 15 (by kernel_rfl)
   have HSW := hid (HSG.out W (E3.out.next (sg_udrew hE)))
   dsimp only at hK ⊢
   rw [d5,d11,d13,d15] at hK ⊢
   have HK := hid hK;have HE := hid hE
   clear hK hd hE d5 d11 d13 d15
   go_wp2_with ((go_at_call 45;(with_reducible refine HSW.out.mono ?_);rintro e w6 ⟨rfl,hB6⟩))
   exact K_at (HK.out (.tuple #[.int .i64 x,.int .i64 e]) w6 (fun _ _ => rfl) hB6) (by kernel_rfl)
  ·intro us W K hE hd hK
   have d16 := hd 16 (by kernel_rfl)
   dsimp only at hK ⊢
   rw [d16] at hK ⊢
   have HK := hid hK;have HE := hid hE
   clear hK hd hE d16
   go_wp2_with fail
   exact K_at (HK.out (.tuple #[.int .i64 x,.int .i64 e]) W (fun _ _ => rfl) (Ext.refl W)) (by kernel_rfl)
  ·intro us W K hE hd hK
   have d17 := hd 17 (by kernel_rfl)
   dsimp only at hK ⊢
   rw [d17] at hK ⊢
   have HK := hid hK;have HE := hid hE
   clear hK hd hE d17
   go_wp2_with fail
   exact K_at (HK.out (.int .i64 x) W (fun _ _ => rfl) (Ext.refl W)) (by kernel_rfl)
  ·intro us W K hE hd hK
   have d17 := hd 17 (by kernel_rfl)
   dsimp only at hK ⊢
   rw [d17] at hK ⊢
   have HK := hid hK;have HE := hid hE
   clear hK hd hE d17
   go_wp2_with fail
   exact K_at (HK.out (.int .i64 e) W (fun _ _ => rfl) (Ext.refl W)) (by kernel_rfl)
  ·intro us W K hE hd hK
   have d18 := hd 18 (by kernel_rfl)
   dsimp only at hK ⊢
   rw [d18] at hK ⊢
   have HK := hid hK;have HE := hid hE
   clear hK hd hE d18
   go_wp2_with fail
   exact K_at (HK.out (.int .i64 x) W (fun _ _ => rfl) (Ext.refl W)) (by kernel_rfl)
  ·intro us W K hE hd hK
   have d19 := hd 19 (by kernel_rfl)
   dsimp only at hK ⊢
   rw [d19] at hK ⊢
   have HK := hid hK;have HE := hid hE
   clear hK hd hE d19
   go_wp2_with fail
   exact K_at (HK.out (.int .i64 e) W (fun _ _ => rfl) (Ext.refl W)) (by kernel_rfl)
 ·intro us W hE hd
  try dsimp only
  have d20 := hd 20 (by decide)
  have d21 := hd 21 (by decide)
  simp only [List.drop_succ_cons,List.drop_zero]
  rw [d20,d21]
  have EW := hid (sg_udrew hE)
  clear hd hE d20 d21
  have BRW := hid (BR3.out.ext EW.out)
  have EWW := hid (E3.out.next EW.out)
  have c1 : W.cell? ⟨w.heap.size,1,none⟩ = some (.int .i64 (q : Int)) := by rw [← hq];exact BRW.out.cell 1
  have c0 : W.cell? ⟨w.heap.size,0,none⟩ = some (.int .i64 (k : Int)) := by rw [← hk];exact BRW.out.cell 0
  have c2 : W.cell? ⟨b,o + k * 17 + 16,none⟩ = some (.int .i64 (h : Int)) := HRG.out W EWW.out 16 _ HP16.out
  clear hk hq
  go_upto_region 7 with fail
  by_cases he : e = 0
  ·obtain ⟨u,hu,rfl⟩ := HBD.out he
   subst he
   have hws : IntKind.i64.wrap ((u : Int) + (q : Int)) = (u : Int) + (q : Int) := wrap_id _ (by omega) (by omega)
   by_cases ht : (u : Int) + (q : Int) = (p : Int)
   ·have ht1 : ((u : Int) + (q : Int) != (p : Int)) = false := by simp [ht]
    have HT : Hid (Y = 0) := hid (HVP.out.trans ((if_pos rfl).trans (if_pos ht)))
    clear ht
    go_quiet (fail)
    go_wp2_with fail
    go_ret
    exact ⟨by rw [HT.out];rfl,EWW.out.next ((Ext.refl W).drewN _)⟩
   ·have ht1 : ((u : Int) + (q : Int) != (p : Int)) = true := by rw [bne_iff_ne];exact ht
    have HT : Hid (Y = 10) := hid (HVP.out.trans ((if_pos rfl).trans (if_neg ht)))
    clear ht
    go_quiet (fail)
    go_wp2_with fail
    go_ret
    exact ⟨by rw [HT.out];rfl,EWW.out.next ((Ext.refl W).drewN _)⟩
  ·have he1 : (e != (0 : Int)) = true := by rw [bne_iff_ne];exact he
   have HT : Hid (Y = 10) := hid (HVP.out.trans (if_neg he))
   clear he
   go_quiet (fail)
   go_wp2_with fail
   go_ret
   exact ⟨by rw [HT.out];rfl,EWW.out.next ((Ext.refl W).drewN _)⟩
end Go.Proofs.YtjeecfjeooehhaaGreatDoor
