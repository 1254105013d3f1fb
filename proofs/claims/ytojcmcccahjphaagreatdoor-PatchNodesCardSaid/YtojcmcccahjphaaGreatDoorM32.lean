/- The documented example of package patch holds. Conditions: the tables of package patch. -/
import Derived.Test.YtojcmcccahjphaaGreatDoorM31
set_option linter.unusedSimpArgs false
set_option linter.unusedVariables false
set_option maxHeartbeats 16000000
set_option maxRecDepth 100000
set_option maxRecDepth 100000
set_option maxHeartbeats 16000000
namespace Go.Proofs.YtojcmcccahjphaaGreatDoor
open Go.RowKit
open Lib (hid)
attribute [local go_sem ↓] wp_at_zero wp_at_succ
theorem q_rdn_own {w : World} {base : Nat} {e : TypeId} {size n c : Nat} {A : Option Addr} {xs : List Value} (h : w.ownsRow base e size (.slice A n c) n xs) : RdN w w.heap.size size A n xs := by
 refine ⟨by simpa using h.1,fun hn => ?_⟩
 rcases h.2 with ⟨hv,h0⟩ | ⟨g,cap,cur,hv,hg,hh,h1,h2,h3,h4⟩
 ·omega
 ·have hA : A = some ⟨g,0,none⟩ := by injection hv
  have hlt := (Array.getElem?_eq_some_iff.1 hh).1
  refine ⟨g,0,hA,hlt,fun j u hu => ?_⟩
  have hb : Blk w g e cur.toList := hh
  rw [hb.cell,Nat.zero_add]
  rw [← h4,List.getElem?_take] at hu
  split at hu
  ·exact hu
  ·cases hu
theorem rdn_ne {w : World} {g size n : Nat} {A : Option Addr} {cs ds : List Value} {t : TypeId} (h : RdN w w.heap.size size A n cs) (hb : Blk w g t ds) (h0 : ds.length < cs.length) : RdP (fun b => b ≠ g) w size A n cs := by
 refine ⟨h.1,fun hn => ?_⟩
 obtain ⟨b,o,hA,hbl,hc⟩ := h.2 hn
 refine ⟨b,o,hA,fun e => ?_,hbl,hc⟩
 have h1 : cs[cs.length - 1]? = some (cs[cs.length - 1]'(by omega)) := List.getElem?_eq_getElem _
 have h2 := hc _ _ h1
 rw [e,hb.cell,List.getElem?_eq_none (by omega)] at h2
 cases h2
def opM : OpA := opF 0 0 0 0 0 0 0 0 0 ⟨#[109]⟩ ⟨0,⟨0,0,0⟩⟩ ⟨0,⟨0,0,0⟩⟩ 0 0 0 0 0
def opMC (A8 A10 : Option Addr) (c8 c10 : Nat) : List Value := [.int .i64 0,.int .i64 0,.int .i64 0,.int .i64 0,.int .i64 0,.int .i64 0,.int .i64 0,.int .i64 0,.int .i64 0,.string ⟨#[109]⟩,.int .i64 0,.int .i64 0,.int .i64 0,.int .i64 0,.slice none 0 0,.int .i64 0,.int .i64 0,.int .i64 0,.int .i64 0,.int .i64 0,.int .i64 0,.int .i64 0,.int .i64 0,.int .i64 0,.slice none 0 0,.slice none 0 0,.slice A8 0 c8,.slice A10 0 c10]
def pat1 : PatA := oneP 1 1 3 0 opM ⟨#[]⟩
theorem opM_P (p : Nat → Prop) (W : World) (A8 A10 : Option Addr) (c8 c10 : Nat) (h8 : c8 ≤ 9223372036854775807) (h10 : c10 ≤ 9223372036854775807) : OpP p W opM (opMC A8 A10 c8 c10) :=
 ⟨[.int .i64 0,.int .i64 0,.int .i64 0,.int .i64 0,.slice none 0 0],[.int .i64 0,.int .i64 0,.int .i64 0,.int .i64 0,.int .i64 0,.int .i64 0,.int .i64 0,.int .i64 0,.int .i64 0,.slice none 0 0,.slice none 0 0,.slice A8 0 c8],A10,0,c10,rfl,⟨none,0,rfl,by decide⟩,⟨_,none,0,0,A8,0,c8,rfl,⟨none,0,rfl,by decide⟩,RdP.nil _ _ _ _,Nat.le_refl _,by decide,by decide,RdP.nil _ _ _ _,Nat.zero_le _,h8,by decide⟩,RdP.nil _ _ _ _,Nat.zero_le _,h10,by decide⟩
theorem pat1_P {p : Nat → Prop} {W : World} {A A8 A10 : Option Addr} {c c8 c10 : Nat} (h : RdP p W 28 A 1 (opMC A8 A10 c8 c10)) (h8 : c8 ≤ 9223372036854775807) (h10 : c10 ≤ 9223372036854775807) (h1 : 1 ≤ c) (hc : c ≤ 9223372036854775807) : PatP p W pat1 [.int .i64 1,.int .i64 1,.int .i64 3,.slice none 0 0,.int .i64 0,.slice A 1 c,.string ⟨#[]⟩] :=
 ⟨[⟨opM,opMC A8 A10 c8 c10⟩],none,0,0,A,1,c,rfl,RdP.nil _ _ _ _,Nat.le_refl _,by decide,by decide,h,fun y hy => by rw [List.mem_singleton.1 hy];exact opM_P p W A8 A10 c8 c10 h8 h10,rfl,h1,hc,by decide⟩
theorem opM_W : OpW opM := ⟨⟨by unfold i64;decide,by unfold i64;decide,by unfold i64;decide⟩,⟨by unfold i64;decide,by unfold i64;decide,by unfold i64;decide⟩,⟨by unfold i64;decide,by unfold i64;decide,by unfold i64;decide⟩,by decide,fun x hx => by rw [List.mem_singleton.1 hx];exact i64_ty _ (by decide) (by decide),⟨⟨by unfold i64;decide,by unfold i64;decide,by unfold i64;decide,by unfold i64;decide,by unfold i64;decide⟩,fun x hx => by rw [List.mem_singleton.1 hx];exact i64_ty _ (by decide) (by decide),fun y hy => absurd hy (by simp [opM,opF,nodF]),fun s hs => absurd hs (by simp [opM,opF,nodF])⟩,fun s hs => absurd hs (by simp [opM,opF])⟩
theorem pat1_len : (encP pat1).length = 51 := by kernel_rfl
theorem pat1_W : PatW pat1 := ⟨⟨by unfold i64;decide,by unfold i64;decide,by unfold i64;decide,by unfold i64;decide⟩,fun x hx => absurd hx (by simp [pat1,oneP]),fun o ho => by rw [List.mem_singleton.1 ho];exact opM_W,by decide,by rw [pat1_len];decide⟩
theorem pat1_valid : validP pat1 = 0 := by kernel_rfl
theorem pat1_head : (encP pat1).take 10 = [129,4,129,1,129,1,129,3,128,128] := by kernel_rfl
def patZ : PatA := ⟨0,0,0,[],0,[],⟨#[]⟩⟩
theorem patZ_V (W : World) : PatV W patZ P0 := ⟨[],none,0,0,none,0,0,rfl,⟨rfl,fun h => absurd h (Nat.lt_irrefl _)⟩,Nat.le_refl _,by decide,by decide,⟨rfl,fun h => absurd h (Nat.lt_irrefl _)⟩,fun y hy => absurd hy (by simp),rfl,Nat.le_refl _,by decide,by decide⟩
theorem patZ_W : PatW patZ := ⟨⟨by unfold i64;decide,by unfold i64;decide,by unfold i64;decide,by unfold i64;decide⟩,fun x hx => absurd hx (by simp [patZ]),fun o ho => absurd ho (by simp [patZ]),by decide,by rw [show (encP patZ).length = 9 by kernel_rfl];decide⟩
theorem patZ_valid : validP patZ = 5 := by kernel_rfl
theorem lives_read (w W : World) (g : Nat) (A : Option Addr) (n c : Nat) (hn : n = 51) (hE : Ext w W) (hg : w.heap.size < g) (hb : Blk W w.heap.size 37 P0) (h : Rdr W g (encP pat1) A n c false) :
  Calls Tryz.prog 40 #[.pointer (some ⟨g,0,none⟩)] W fun e w' => (∃ cs,e = .returned (.agg cs.toArray) ∧ cs.length = 7 ∧ (∀ v ∈ cs,v.oneCell' = true) ∧ (false = false → PatP (fun b => b ≠ w.heap.size) w' pat1 cs)) ∧ (∃ l2 A2 n2 c2,Rdr w' g l2 A2 n2 c2 false) ∧ Kept (fun b => b = g) W w' := by
 have hR : RdrL W.heap.size W g (encP pat1 ++ []) A n c := by
  rw [List.append_nil]
  refine ⟨h,fun a ha => ?_,h.blk.lt⟩
  obtain ⟨b,o,hA,hb,_⟩ := h.row.2 (by omega)
  rw [hA] at ha
  rw [← Option.some.inj ha]
  exact hb
 refine (ppatch_one W.heap.size 0 0 0 0 0 0 0 0 0 ⟨#[109]⟩ 0 0 0 0 0 0 0 0 0 0 0 0 0 1 1 3 0 ⟨#[]⟩ [] A n c g W hR (Nat.le_refl _) pat1_W).mono ?_
 rintro e w' ⟨⟨A8,A10,c8,c10,A7,c7,rfl,h8,h10,hr,h1,h7⟩,⟨A2,n2,c2,hr2⟩,hK⟩
 refine ⟨⟨_,rfl,rfl,fun v hv => ?_,fun _ => pat1_P (A8 := A8) (A10 := A10) (c8 := c8) (c10 := c10) (rdn_ne hr (hK.blk hb (by omega)) (show 7 < 28 by decide)) h8 h10 h1 h7⟩,⟨[],A2,n2,c2,hr2.rd⟩,hK⟩
 simp only [List.mem_cons,List.not_mem_nil,or_false] at hv
 rcases hv with rfl | rfl | rfl | rfl | rfl | rfl | rfl <;> rfl
theorem pat_one {w : World} {p : PatA} {cs : List Value} (h : PatV w p cs) : ∀ v ∈ cs,v.oneCell' = true := by
 obtain ⟨X,A,n,c,B,m,d,rfl,_⟩ := h
 exact patC_one _ _ _ _ _ _ _ _ _ _ _
theorem lives_any (w : World) (hC : CTab w) (hU : STab w) : Calls Tryz.prog 7 #[] w fun e w' => e = .returned (.bool true) ∧ Ext w w' := by
 obtain ⟨w1,hw1⟩ : ∃ x,x = w.alloc (.cells #[.int .i64 0,.int .i64 0,.int .i64 0,.int .i64 0,.int .i64 0,.int .i64 0,.int .i64 0,.int .i64 0,.int .i64 0,.string ⟨#[109]⟩,.int .i64 0,.int .i64 0,.int .i64 0,.int .i64 0,.slice none 0 0,.int .i64 0,.int .i64 0,.int .i64 0,.int .i64 0,.int .i64 0,.int .i64 0,.int .i64 0,.int .i64 0,.int .i64 0,.slice none 0 0,.slice none 0 0,.slice none 0 0,.slice none 0 0] 33) := ⟨_,rfl⟩
 have E1 : Hid (Ext w w1) := hid (by rw [hw1];exact (Ext.refl w).alloc _)
 obtain ⟨g0,hg0⟩ : ∃ g,g = w.heap.size := ⟨_,rfl⟩
 have B0 : Hid (Blk w1 g0 33 (opMC none none 0 0)) := hid (by rw [hw1,hg0];exact Blk.fresh' _ _ _ _ _ rfl rfl)
 have HPP : Hid (∀ W,Ext w1 W → PatV W pat1 [.int .i64 1,.int .i64 1,.int .i64 3,.slice none 0 0,.int .i64 0,.slice (some ⟨g0,0,none⟩) 1 1,.string ⟨#[]⟩]) := hid (fun W hW => (pat1_P (p := fun _ => True) (A8 := none) (A10 := none) (c8 := 0) (c10 := 0) (RdP.blk (B0.out.ext hW) trivial rfl (fun j u hu => by rw [Nat.zero_add];exact hu)) (by decide) (by decide) (Nat.le_refl _) (by decide)).patV)
 have HVL : Hid (∀ W cs,Ext w W → PatV W pat1 cs → Calls Tryz.prog 5 #[.agg cs.toArray] W fun e w' => e = .returned (.int .i64 0) ∧ Ext W w') := hid (fun W cs hW hp => by rw [← pat1_valid];exact pvalidE_any pat1 cs W hp pat1_W rfl (hC.below hW) (hU.below hW))
 have HV1 : Hid (∀ W,Ext w1 W → Calls Tryz.prog 5 #[.agg #[.int .i64 1,.int .i64 1,.int .i64 3,.slice none 0 0,.int .i64 0,.slice (some ⟨g0,0,none⟩) 1 1,.string ⟨#[]⟩]] W fun e w' => e = .returned (.int .i64 0) ∧ Ext W w') := hid (fun W hW => HVL.out W [.int .i64 1,.int .i64 1,.int .i64 3,.slice none 0 0,.int .i64 0,.slice (some ⟨g0,0,none⟩) 1 1,.string ⟨#[]⟩] (E1.out.next hW) (HPP.out W hW))
 have HVZ : Hid (∀ W,Ext w W → Calls Tryz.prog 5 #[.agg P0.toArray] W fun e w' => e = .returned (.int .i64 5) ∧ Ext W w') := hid (fun W hW => by rw [← patZ_valid];exact pvalidE_any patZ P0 W (patZ_V W) patZ_W rfl (hC.below hW) (hU.below hW))
 have HEN : Hid (∀ W,Ext w1 W → Calls Tryz.prog 16 #[.agg #[.int .i64 1,.int .i64 1,.int .i64 3,.slice none 0 0,.int .i64 0,.slice (some ⟨g0,0,none⟩) 1 1,.string ⟨#[]⟩]] W fun e w' => (∃ A c,e = .returned (.tuple #[.slice A 51 c,.int .i64 0]) ∧ Rd w' w'.heap.size A 51 (u8s (encP pat1)) ∧ 51 ≤ c ∧ c ≤ 9223372036854775807) ∧ Ext W w') := hid (fun W hW => (pEncode_of pat1 0 [.int .i64 1,.int .i64 1,.int .i64 3,.slice none 0 0,.int .i64 0,.slice (some ⟨g0,0,none⟩) 1 1,.string ⟨#[]⟩] W (HPP.out W hW) pat1_W (fun W2 h2 => HV1.out W2 (hW.next h2))).mono (by
  rintro e w' ⟨⟨A,n,c,rfl,h1,_⟩,h2⟩
  obtain ⟨hn,h3,h4⟩ := h1 rfl
  rw [pat1_len] at hn
  subst hn
  exact ⟨⟨A,c,rfl,h3,h4⟩,h2⟩))
 have HDE : Hid (∀ W A c,Ext w W → Rd W W.heap.size A 51 (u8s (encP pat1)) → 51 ≤ c → c ≤ 9223372036854775807 → Calls Tryz.prog 17 #[.slice A 51 c] W fun e w' => (∃ cs,e = .returned (.tuple #[.agg cs.toArray,.int .i64 51,.int .i64 0]) ∧ PatV w' pat1 cs) ∧ Ext W w') := hid (fun W A c hW hr h1 h2 => (pdecode_of pat1 false 0 (encP pat1) A 51 c W hr (qbyt_pat (HPP.out w1 (Ext.refl w1)) pat1_W) h1 h2 (by decide) (fun _ => pat1_W) (fun W2 g hW2 hg hb hR => lives_read W W2 g A 51 c rfl hW2 hg hb hR) (fun _ W2 cs hW2 hp => HVL.out W2 cs (hW.next hW2) hp)).mono (by
  have hok : decOk 0 false (encP pat1) pat1 = true := by kernel_rfl
  rintro e w' ⟨⟨cs,rfl,h3,_⟩,h4⟩
  refine ⟨⟨cs,?_,h3 hok⟩,h4⟩
  rw [hok,pat1_len]
  rfl))
 have HPU : Hid (∀ W,Calls Tryz.prog 18 #[.agg #[.string ⟨#[115,104,111,114,116]⟩,.int .i64 2]] W fun e w' => e = .returned (.tuple #[.agg pub0.toArray,.int .i64 1]) ∧ Ext W w') := hid (fun W => kpublic_short ⟨#[115,104,111,114,116]⟩ 2 W (by decide) 5 rfl (by decide))
 have HCR : Hid (∀ W,Ext w1 W → Calls Tryz.prog 19 #[.agg #[.int .i64 1,.int .i64 1,.int .i64 3,.slice none 0 0,.int .i64 0,.slice (some ⟨g0,0,none⟩) 1 1,.string ⟨#[]⟩]] W fun e w' => (∃ b o c,e = .returned (.slice (some ⟨b,o,none⟩) 1 c) ∧ b < w'.heap.size ∧ w'.rangeAt b o [.int .i64 1,.int .i64 1,.int .i64 0]) ∧ Ext W w') := hid (fun W hW => (pcreates_any pat1 [.int .i64 1,.int .i64 1,.int .i64 3,.slice none 0 0,.int .i64 0,.slice (some ⟨g0,0,none⟩) 1 1,.string ⟨#[]⟩] W (HPP.out W hW)).mono (by
  have hcr : creP pat1 = [⟨1,1,0⟩] := by kernel_rfl
  rintro e w' ⟨⟨A,c,rfl,ho⟩,h2⟩
  rw [hcr] at ho
  obtain ⟨b,o,hA,hb,hc⟩ := (q_rdn_own (A := A) (n := 1) ho).2 (by decide)
  refine ⟨⟨b,o,c,?_,hb,hc⟩,h2⟩
  rw [hcr,hA]
  rfl))
 have HSM : Hid (∀ W cs,Ext w1 W → PatV W pat1 cs → Calls Tryz.prog 20 #[.agg #[.int .i64 1,.int .i64 1,.int .i64 3,.slice none 0 0,.int .i64 0,.slice (some ⟨g0,0,none⟩) 1 1,.string ⟨#[]⟩],.agg cs.toArray] W fun e w' => e = .returned (.bool true) ∧ Ext W w') := hid (fun W cs hW hp => rpsame_any pat1 [.int .i64 1,.int .i64 1,.int .i64 3,.slice none 0 0,.int .i64 0,.slice (some ⟨g0,0,none⟩) 1 1,.string ⟨#[]⟩] cs W (HPP.out W hW) hp pat1_W)
 have HS10 : Hid (∀ (W : World) (A B : Option Addr) (c d : Nat),Rd W W.heap.size A 51 (u8s (encP pat1)) → Rd W W.heap.size B 10 (u8s [129,4,129,1,129,1,129,3,128,128]) → Calls Tryz.prog 21 #[.slice A 10 c,.slice B 10 d] W fun e w' => e = .returned (.bool true) ∧ Ext W w') := hid (fun W A B c d h1 h2 => (same_any ((encP pat1).take 10) [129,4,129,1,129,1,129,3,128,128] A B 10 c 10 d W (rd_take h1 (by decide)) h2 (by decide)).mono fun e w' ⟨h4,h5⟩ => ⟨by rw [h4,pat1_head];rfl,h5.below _⟩)
 obtain ⟨PU,hPU⟩ : ∃ p,p = pub0 := ⟨_,rfl⟩
 rw [← hPU] at HPU
 have HUL : Hid (PU.length = 17) := hid (by rw [hPU];rfl)
 have HU1 : Hid (∀ v ∈ PU,v.oneCell' = true) := hid (by rw [hPU];exact pub0_one)
 have zk : ∀ W,(zeroValue 58).run Tryz.prog W = .ok (.agg PU.toArray) W := fun W => by rw [hPU];kernel_rfl
 have HG0 : Hid (g0 = w.heap.size ∧ w1.heap.size = w.heap.size + 1) := hid ⟨hg0,by rw [hw1];simp⟩
 clear hPU hC hU HVL B0
 go_enter Tryz.func7,Tryz.ntmps7
 go_upto_region 1 with fail
 go_upto_region 2 with fail
 rw [← hw1]
 rw [← hg0]
 have zp := zero_pat
 obtain ⟨w2,hw2⟩ : ∃ x,x = w1.alloc (.cells #[.int .i64 1,.int .i64 1,.int .i64 3,.slice none 0 0,.int .i64 0,.slice (some ⟨g0,0,none⟩) 1 1,.string ⟨#[]⟩] 37) := ⟨_,rfl⟩
 rw [← hw2]
 have E2 : Hid (Ext w1 w2) := hid (by rw [hw2];exact (Ext.refl w1).alloc _)
 have B2 : Hid (Blk w2 (g0 + 1) 37 [.int .i64 1,.int .i64 1,.int .i64 3,.slice none 0 0,.int .i64 0,.slice (some ⟨g0,0,none⟩) 1 1,.string ⟨#[]⟩]) := hid (by rw [hw2];exact Blk.fresh' _ _ _ _ _ rfl (by have := HG0.out;omega))
 clear hw1 hw2 hg0
 go_upto_region 4 with (first
  | (refine wpList_load_blk rfl 37 (.tmp 1) rfl (g0 + 1) (by kernel_rfl) B2.out Tryz.underlying37 rfl (info_pat.trans rfl) ?_)
  | (go_at_call 16;(with_reducible refine (HEN.out w2 E2.out).mono ?_);rintro e w3 ⟨⟨A3,c3,rfl,hr3,hc3⟩,hE3⟩;have E3 : Hid (Ext w1 w3) := hid (E2.out.next hE3);have B3 := hid (B2.out.ext hE3);have R3 := hid hr3;have C3 := hid hc3;clear hr3 hc3 hE3)
  | (go_at_call 17;(with_reducible refine (HDE.out w3 A3 c3 (E1.out.next E3.out) R3.out C3.out.1 C3.out.2).mono ?_);rintro e w4 ⟨⟨cs,rfl,hp4⟩,hE4⟩;have E4 : Hid (Ext w1 w4) := hid (E3.out.next hE4);have B4 := hid (B3.out.ext hE4);have R4 := hid (R3.out.ext' hE4);have P4 := hid hp4;have HCL : Hid (cs.length = 7) := hid hp4.len;have HCO : Hid (∀ v ∈ cs,v.oneCell' = true) := hid (pat_one hp4);clear hp4 hE4)
  | (refine wpList_store_freshw rfl 37 (.tmp 4) (.tmp 21) rfl w4.heap.size rfl P0 cs 37 (by kernel_rfl) (by kernel_rfl) (info_pat.trans (congrArg some HCL.out.symm)) (Eq.trans (b := 7) rfl HCL.out.symm) HCO.out ?_;intro w5 hw5 hE5 hz5;have E5 : Hid (Ext w1 w5) := hid (E4.out.next hE5);have B5 := hid (B4.out.ext hE5);have R5 := hid (R4.out.ext' hE5);have P5 := hid (P4.out.ext hE5);have BQ5 := hid hw5;clear hw5 hE5 hz5))
 obtain ⟨g4,hg4⟩ : ∃ g,g = w4.heap.size := ⟨_,rfl⟩
 rw [← hg4] at BQ5 ⊢
 clear B2 E2 B3 E3 R3 B4 E4 R4 P4 hg4 HEN HDE
 go_upto_region 6 with (first
  | (go_at_call 18;(with_reducible refine (HPU.out w5).mono ?_);rintro e w6 ⟨rfl,hE6⟩;have X6 := hid hE6;clear hE6)
  | (refine wpList_store_freshw rfl 58 (.tmp 7) (.tmp 27) rfl w6.heap.size rfl PU PU 58 (by kernel_rfl) (by kernel_rfl) (q_pub_info.trans (congrArg some HUL.out.symm)) rfl HU1.out ?_;intro w7 hw7 hE7 hz7;have X7 : Hid (Ext w5 w7) := hid (X6.out.next hE7);have E7 := hid (E5.out.next X7.out);have B7 := hid (B5.out.ext X7.out);clear hw7 hE7 hz7)
  | (refine wpList_load_blk rfl 37 (.tmp 1) rfl (g0 + 1) (by kernel_rfl) B7.out Tryz.underlying37 rfl (info_pat.trans rfl) ?_)
  | (go_at_call 19;(with_reducible refine (HCR.out w7 E7.out).mono ?_);rintro e w8 ⟨⟨bL,oL,cL,rfl,hbL,hrL⟩,hE8⟩;have X8 : Hid (Ext w5 w8) := hid (X7.out.next hE8);have HBL := hid hbL;have HRL := hid hrL;clear hbL hrL hE8))
 have E8 := hid (E5.out.next X8.out)
 have B8 := hid (B5.out.ext X8.out)
 have R8 := hid (R5.out.ext' X8.out)
 have P8 := hid (P5.out.ext X8.out)
 have BQ8 := hid (BQ5.out.ext X8.out)
 clear E7 B7 X7 X6 E5 B5 R5 P5 BQ5 X8 HPU HCR zp zk HUL HU1
 have HNE : Hid (false = (true != decide ((⟨1,1,0⟩ : Rid) = ⟨1,1,0⟩))) := hid (by rw [decide_eq_true rfl];rfl)
 go_upto_region 8 with (first
  | (refine wpList_load_want (by rfl) 37 (.tmp 1) rfl (g0 + 1) (by kernel_rfl) B8.out Tryz.underlying37 rfl (info_pat.trans rfl) ?_)
  | (refine wpList_load_want (by rfl) 37 (.tmp 4) rfl g4 (by kernel_rfl) BQ8.out Tryz.underlying37 rfl (info_pat.trans (congrArg some HCL.out.symm)) ?_)
  | (go_at_call 20;(with_reducible refine (HSM.out w8 cs E8.out P8.out).mono ?_);rintro e w9 ⟨rfl,hE9⟩;have E9 := hid (E8.out.next hE9);have B9 := hid (B8.out.ext hE9);have R9 := hid (R8.out.ext' hE9);have HR9 : Hid (w9.rangeAt bL oL [.int .i64 1,.int .i64 1,.int .i64 0]) := hid (fun j v hv => (hE9.cell (p := ⟨bL,oL + j,none⟩) HBL.out).trans (HRL.out j v hv));clear hE9)
  | ((with_reducible refine wpList_load_row 23 bL oL [.int .i64 1,.int .i64 1,.int .i64 0] HR9.out Tryz.underlying23 rfl (info_id.trans rfl) ?_ ?_ ?_);kernel_rfl;rfl)
  | ((with_reducible refine wpList_idNeq 1 1 0 1 1 0 _ HNE.out ?_ ?_ ?_ ?_);kernel_rfl;rfl;rfl))
 obtain ⟨ba,oa,hA3,_,_⟩ := R9.out.2 (by decide)
 subst hA3
 have EB : Hid (Ext w9 (w9.alloc (.cells #[.int .u8 129,.int .u8 4,.int .u8 129,.int .u8 1,.int .u8 129,.int .u8 1,.int .u8 129,.int .u8 3,.int .u8 128,.int .u8 128] 5))) := hid ((Ext.refl w9).alloc _)
 have RB : Hid (Rd (w9.alloc (.cells #[.int .u8 129,.int .u8 4,.int .u8 129,.int .u8 1,.int .u8 129,.int .u8 1,.int .u8 129,.int .u8 3,.int .u8 128,.int .u8 128] 5)) (w9.alloc (.cells #[.int .u8 129,.int .u8 4,.int .u8 129,.int .u8 1,.int .u8 129,.int .u8 1,.int .u8 129,.int .u8 3,.int .u8 128,.int .u8 128] 5)).heap.size (some ⟨w9.heap.size,0,none⟩) 10 (u8s [129,4,129,1,129,1,129,3,128,128])) := hid ((Blk.fresh' w9 5 _ _ _ rfl rfl : Blk _ w9.heap.size 5 (u8s [129,4,129,1,129,1,129,3,128,128])).rd rfl)
 have hc51 : 10 ≤ c3 := by have := C3.out.1;omega
 have zp := zero_pat
 clear R8 B8 P8 BQ8 E8
 go_wp2_with (first
  | (go_at_call 21;(with_reducible refine (HS10.out _ (some ⟨ba,oa,none⟩) (some ⟨w9.heap.size,0,none⟩) c3 10 (R9.out.ext' EB.out) RB.out).mono ?_);rintro e w10 ⟨rfl,hE10⟩;have E10 := hid (E9.out.next (EB.out.next hE10));have B10 := hid (B9.out.ext (EB.out.next hE10));clear hE10)
  | (refine wpList_load_want (by rfl) 37 (.tmp 1) rfl (g0 + 1) (by kernel_rfl) B10.out Tryz.underlying37 rfl (info_pat.trans rfl) ?_)
  | (go_at_call 5;(with_reducible refine (HV1.out w10 E10.out).mono ?_);rintro e w11 ⟨rfl,hE11⟩;have E11 := hid (E10.out.next hE11);clear hE11)
  | (refine wpList_build_eq (by rfl) 37 _ rfl _ (by kernel_rfl) _ build_pat0 ?_)
  | (go_at_call 5;(with_reducible refine (HVZ.out w11 (E1.out.next E11.out)).mono ?_);rintro e w12 ⟨rfl,hE12⟩;have E12 := hid (E11.out.next hE12);clear hE12))
 go_ret
 exact ⟨rfl,E1.out.next E12.out⟩
end Go.Proofs.YtojcmcccahjphaaGreatDoor
