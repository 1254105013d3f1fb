/- The reader of package patch: its state in memory, took, ints, text. Conditions: sizes. -/
import Derived.Test.YtojcmcccahjphaaGreatDoorM7
import Derived.Test.YtojcmcccahjphaaGreatDoorM10
set_option linter.unusedSimpArgs false
set_option linter.unusedVariables false
set_option maxHeartbeats 16000000
set_option maxRecDepth 100000
namespace Go.Proofs.YtojcmcccahjphaaGreatDoor
open Go.RowKit
open Lib (hid)
attribute [local go_sem ↓] wp_at_zero wp_at_succ
structure Rdr (w : World) (g : Nat) (l : List Int) (A : Option Addr) (n c : Nat) (bad : Bool) : Prop where
 blk : Blk w g 80 [.slice A n c,.bool bad]
 row : Rd w w.heap.size A n (u8s l)
 byt : Byt l
 nc : n ≤ c
 cap : c ≤ 9223372036854775807
 few : n ≤ 1000000000000
theorem Rdr.apart {w : World} {g : Nat} {l : List Int} {A : Option Addr} {n c : Nat} {bad : Bool} (h : Rdr w g l A n c bad) (hn : 0 < n) {b o : Nat} (hA : A = some ⟨b,o,none⟩) : b ≠ g := by
 intro e
 obtain ⟨b',o',hA',_,hc⟩ := h.row.2 hn
 rw [hA] at hA'
 simp only [Option.some.injEq,Addr.mk.injEq,and_true] at hA'
 obtain ⟨rfl,rfl⟩ := hA'
 have hl : l.length = n := by simpa [u8s] using h.row.1
 have h0 := hc 0 (.int .u8 (l.getD 0 0)) (u8s_get l 0 (by omega))
 rw [e,h.blk.cell] at h0
 match o,h0 with
 | 0,h0 => simp at h0
 | 1,h0 => simp at h0
 | k + 2,h0 => simp at h0
theorem Rdr.keep {w w' : World} {g : Nat} {l : List Int} {A : Option Addr} {n c : Nat} {bad : Bool} (h : Rdr w g l A n c bad) (hk : Kept (fun b => b = g) w w') : Rd w' w'.heap.size A n (u8s l) := by
 refine ⟨h.row.1,fun hn => ?_⟩
 obtain ⟨b,o,hA,hb,hc⟩ := h.row.2 hn
 exact ⟨b,o,hA,Nat.lt_of_lt_of_le hb hk.size,fun j u hu => (hk.cell (p := ⟨b,o + j,none⟩) hb (h.apart hn hA)).trans (hc j u hu)⟩
theorem Rdr.ext {w w' : World} {g : Nat} {l : List Int} {A : Option Addr} {n c : Nat} {bad : Bool} (h : Rdr w g l A n c bad) (hE : Ext w w') : Rdr w' g l A n c bad := ⟨h.blk.ext hE,h.row.ext' hE,h.byt,h.nc,h.cap,h.few⟩
theorem took_any (l : List Int) (A : Option Addr) (n c g u : Nat) (bad : Bool) (e : Int) (w : World) (h : Rdr w g l A n c bad) (hu : u ≤ n) :
  Calls Tryz.prog 70 #[.pointer (some ⟨g,0,none⟩),.int .i64 (u : Int),.int .i64 e] w fun r w' => r = .returned (.tuple #[]) ∧ Rdr w' g (l.drop u) (restA A c u) (n - u) (c - u) (bad || decide (e ≠ 0)) ∧ Kept (fun b => b = g) w w' := by
 have H := hid h
 obtain ⟨A2,hA2⟩ : ∃ a,a = restA A c u := ⟨_,rfl⟩
 obtain ⟨m2,hm2⟩ : ∃ m,m = n - u := ⟨_,rfl⟩
 obtain ⟨c2,hc2⟩ : ∃ m,m = c - u := ⟨_,rfl⟩
 rw [← hA2,← hm2,← hc2]
 have c0 := h.blk.cell 0
 have f0 := h.blk.frozen 0
 have hnc := h.nc
 have HS : Hid (u ≤ n ∧ A2 = restA A c u ∧ m2 = n - u ∧ c2 = c - u) := hid ⟨hu,hA2,hm2,hc2⟩
 clear h hA2 hm2 hc2
 go_enter Tryz.func70,Tryz.ntmps70
 go_upto_region 1 with ((with_reducible refine wpList_slice_rest rfl 49 (.tmp 10) (.tmp 11) rfl elem_u8 elem_sz ?_ ?_ HS.out.1 HS.out.2.1 HS.out.2.2.1 HS.out.2.2.2 ?_);kernel_rfl;kernel_rfl)
 obtain ⟨w1,hw1⟩ : ∃ x,x = w.setCell ⟨g,0,none⟩ (.slice A2 m2 c2) := ⟨_,rfl⟩
 rw [← hw1]
 have B1 : Hid (Blk w1 g 80 [.slice A2 m2 c2,.bool bad]) := hid (by rw [hw1];exact H.out.blk.set 0 _)
 have K1 : Hid (Kept (fun b => b = g) w w1) := hid (by rw [hw1];exact Kept.setCell (F := fun b => b = g) (p := ⟨g,0,none⟩) w rfl _)
 have R1 : Hid (Rd w1 w1.heap.size A2 m2 (u8s (l.drop u))) := hid (rd_restA (H.out.keep K1.out) HS.out.2.1 HS.out.2.2.1 HS.out.1 hnc)
 have c1 := B1.out.cell 1
 have f1 := B1.out.frozen 1
 clear hw1 c0 f0
 have FIN : Hid (∀ b2 : Bool,Rdr (w1.setCell ⟨g,1,none⟩ (.bool b2)) g (l.drop u) A2 m2 c2 b2 ∧ Kept (fun b => b = g) w (w1.setCell ⟨g,1,none⟩ (.bool b2))) := hid (fun b2 => by
  have K2 : Kept (fun b => b = g) w1 (w1.setCell ⟨g,1,none⟩ (.bool b2)) := Kept.setCell (F := fun b => b = g) (p := ⟨g,1,none⟩) w1 rfl _
  have hm := HS.out.2.2.1
  have hc := HS.out.2.2.2
  have h1 := H.out.cap
  have h2 := H.out.few
  have R0 : Rdr w1 g (l.drop u) A2 m2 c2 bad := ⟨B1.out,R1.out,H.out.byt.drop _,by omega,by omega,by omega⟩
  exact ⟨⟨B1.out.set 1 _,R0.keep K2,R0.byt,R0.nc,R0.cap,R0.few⟩,K1.out.trans K2⟩)
 clear H HS B1 R1 hnc hu
 cases bad
 ·by_cases he : e = 0
  ·subst he
   have HF := hid (FIN.out false)
   go_wp2_with fail
   go_end0
   exact ⟨rfl,HF.out⟩
  ·have h1 : (e != 0) = true := by simpa using he
   have h2 : (e == 0) = false := by simpa using he
   have HF := hid (FIN.out true)
   have HE : Hid ((false || decide (e ≠ 0)) = true) := hid (by rw [decide_eq_true he];rfl)
   go_wp2_with fail
   go_end0
   rw [HE.out]
   exact ⟨rfl,HF.out⟩
 ·have HF := hid (FIN.out true)
  go_wp2_with fail
  go_end0
  exact ⟨rfl,HF.out⟩
structure SameB (A A2 : Option Addr) : Prop where
 same : ∀ a,A2 = some a → ∃ a',A = some a' ∧ a'.block = a.block
theorem SameB.refl (A : Option Addr) : SameB A A := ⟨fun a h => ⟨a,h,rfl⟩⟩
theorem SameB.trans {A A2 A3 : Option Addr} (h : SameB A A2) (h2 : SameB A2 A3) : SameB A A3 := ⟨fun a e => by
 obtain ⟨a',e',hb⟩ := h2.same a e
 obtain ⟨a2,e2,hb2⟩ := h.same a' e'
 exact ⟨a2,e2,hb2.trans hb⟩⟩
theorem restA_same {w : World} {B n : Nat} {xs : List Value} {A : Option Addr} (c u : Nat) (h : Rd w B A n xs) (hn : u ≤ n) : SameB A (restA A c u) := ⟨fun a e => by
 unfold restA at e
 split at e
 ·exact ⟨a,e,rfl⟩
 ·cases A with
  | none => cases e
  | some x =>
   refine ⟨x,rfl,?_⟩
   rw [← Option.some.inj e]
   unfold Addr.add
   split <;> rfl⟩
def textBd (l : List Int) (bad : Bool) : Bool := bad || decide ((decS l).2.2 ≠ 0)
def textR (l : List Int) : List Int := l.drop (decS l).2.1.toNat
theorem text_at (l : List Int) (A : Option Addr) (n c g : Nat) (bad : Bool) (w : World) (h : Rdr w g l A n c bad) :
  Calls Tryz.prog 72 #[.pointer (some ⟨g,0,none⟩)] w fun r w' => r = .returned (.string (decS l).1) ∧ (∃ A2 n2 c2,Rdr w' g (textR l) A2 n2 c2 (textBd l bad) ∧ SameB A A2) ∧ Kept (fun b => b = g) w w' := by
 obtain ⟨s,u,e,hX,hu⟩ : ∃ (s : ByteArray) (u : Nat) (e : Int),decS l = (s,(u : Int),e) ∧ u ≤ n := by
  have hl : l.length = n := by simpa [u8s] using h.row.1
  rcases decS_cases' l h.byt with ⟨_,h1,h2⟩ | ⟨s,u,hg,hu,_⟩
  ·exact ⟨(decS l).1,0,(decS l).2.2,by show ((decS l).1,(decS l).2.1,(decS l).2.2) = _;rw [h2];rfl,Nat.zero_le _⟩
  ·exact ⟨s,u,0,hg,by omega⟩
 have HG : Hid (Calls Tryz.prog 85 #[.slice A n c] w fun e2 w' => e2 = .returned (.tuple #[.string s,.int .i64 (u : Int),.int .i64 e]) ∧ w = w') := hid (by
  have h1 := gbytes_any l A n c w h.row h.byt h.nc h.cap h.few
  unfold tupS at h1
  rw [hX] at h1
  exact h1)
 have HT := hid (took_any l A n c g u bad e w h hu)
 have HSB : Hid (SameB A (restA A c u)) := hid (restA_same c u h.row hu)
 unfold textBd textR
 rw [hX]
 have c0 := h.blk.cell 0
 clear h hX hu
 go_enter Tryz.func72,Tryz.ntmps72
 go_wp2_with (first
  | (go_at_call 85;(with_reducible refine HG.out.mono ?_);rintro e2 w2 ⟨rfl,rfl⟩)
  | (go_at_call 70;(with_reducible refine HT.out.mono ?_);rintro e3 w3 ⟨rfl,hr3,hk3⟩;have R3 := hid hr3;have K3 := hid hk3;clear hr3 hk3))
 go_ret
 exact ⟨rfl,⟨_,_,_,R3.out,HSB.out⟩,K3.out⟩
def intsB (l : List Int) (bad : Bool) (many q : Nat) : Bool := bad || (decide ((cut1 l).2.2 ≠ 0) || ((decide (0 < many) && decide ((cut1 l).1.length ≠ many)) || decide ((cut1 l).1.length % q ≠ 0)))
def intsL (l : List Int) (bad : Bool) (many q : Nat) : List Int := if intsB l bad many q then List.replicate many 0 else (cut1 l).1
theorem own_base2 {w : World} {b b' : Nat} {e : TypeId} {size : Nat} {v : Value} {n : Nat} {xs : List Value} (h : w.ownsRow b e size v n xs) (hb : b' ≤ b) : w.ownsRow b' e size v n xs := ⟨h.1,h.2.elim Or.inl fun ⟨g,cap,cur,h1,h2,h3⟩ => Or.inr ⟨g,cap,cur,h1,Nat.le_trans hb h2,h3⟩⟩
theorem int_info2 : (Tryz.prog.info? 3).map (fun i => (i.zero,i.size,i.bytes)) = some (some (.int .i64 0),1,8) := by kernel_rfl
theorem pints_at (l : List Int) (A : Option Addr) (n c g many q : Nat) (bad : Bool) (w : World) (h : Rdr w g l A n c bad) (hm : many ≤ 1000) (hq : 1 ≤ q) (hq2 : q ≤ 1000) :
  Calls Tryz.prog 67 #[.pointer (some ⟨g,0,none⟩),.int .i64 (many : Int),.int .i64 (q : Int)] w fun r w' => (∃ A1 c1,r = .returned (.slice A1 (intsL l bad many q).length c1) ∧ w'.ownsRow w.heap.size 3 1 (.slice A1 (intsL l bad many q).length c1) (intsL l bad many q).length ((intsL l bad many q).map (Value.int .i64))) ∧ (∃ A2 n2 c2,Rdr w' g (rest1 l) A2 n2 c2 (intsB l bad many q) ∧ SameB A A2) ∧ Kept (fun b => b = g) w w' := by
 obtain ⟨xs,u,e,hX,hu,hk⟩ : ∃ (xs : List Int) (u : Nat) (e : Int),cut1 l = (xs,(u : Int),e) ∧ u ≤ n ∧ xs.length ≤ n := by
  have hl : l.length = n := by simpa [u8s] using h.row.1
  rcases cut1_cases l h.byt with ⟨_,h1,h2⟩ | ⟨xs,u,hg,hu,henc,_⟩
  ·exact ⟨[],0,(cut1 l).2.2,by show ((cut1 l).1,(cut1 l).2.1,(cut1 l).2.2) = _;rw [h1,h2];rfl,Nat.zero_le _,Nat.zero_le _⟩
  ·exact ⟨xs,u,0,hg,by omega,by have := encL_ge xs l u henc;omega⟩
 obtain ⟨k,hkk⟩ : ∃ k,k = xs.length := ⟨_,rfl⟩
 have HG : Hid (Calls Tryz.prog 80 #[.slice A n c] w fun e2 w' => (∃ A' c',e2 = .returned (.tuple #[.slice A' k c',.int .i64 (u : Int),.int .i64 e]) ∧ w'.ownsRow w.heap.size 3 1 (.slice A' k c') k (xs.map (Value.int .i64))) ∧ Ext w w') := hid (by
  have h1 := gints_any l A n c w h.row h.byt h.nc h.cap h.few
  have h2 : decList getI l = (xs,(u : Int),e) := hX
  rw [h2] at h1
  rw [hkk]
  exact h1)
 have HT : Hid (∀ W,Ext w W → Calls Tryz.prog 70 #[.pointer (some ⟨g,0,none⟩),.int .i64 (u : Int),.int .i64 e] W fun r w' => r = .returned (.tuple #[]) ∧ Rdr w' g (l.drop u) (restA A c u) (n - u) (c - u) (bad || decide (e ≠ 0)) ∧ Kept (fun b => b = g) W w') := hid (fun W hW => took_any l A n c g u bad e W (h.ext hW) hu)
 have hr1 : rest1 l = l.drop u := by unfold rest1;rw [hX];rfl
 have HSB : Hid (SameB A (restA A c u)) := hid (restA_same c u h.row hu)
 obtain ⟨b1,hb1⟩ : ∃ b,b = (bad || decide (e ≠ 0)) := ⟨_,rfl⟩
 have HB : Hid (intsB l bad many q = (b1 || ((decide (0 < many) && decide (k ≠ many)) || decide (k % q ≠ 0)))) := hid (by unfold intsB;rw [hX,hb1,hkk,Bool.or_assoc])
 have HLI : Hid (intsL l bad many q = if intsB l bad many q then List.replicate many 0 else xs) := hid (by unfold intsL;rw [hX])
 rw [hr1]
 rw [← hb1] at HT
 have HKK := hid hkk
 have c0 := h.blk.cell 0
 have hgl := h.blk.lt
 have hkn : k ≤ 1000000000000 := by have := h.few;omega
 clear h hX hr1 hb1 hkk hk
 obtain ⟨bb,hbb⟩ : ∃ b,b = intsB l bad many q := ⟨_,rfl⟩
 rw [← hbb] at HB HLI ⊢
 clear hbb
 go_enter Tryz.func67,Tryz.ntmps67
 go_upto_region 3 with (first
  | (go_at_call 80;(with_reducible refine HG.out.mono ?_);rintro e2 w2 ⟨⟨A1,c1,rfl,ho1⟩,hE2⟩;have HO1 := hid ho1;have E2 := hid hE2;clear ho1 hE2)
  | (go_at_call 70;(with_reducible refine (HT.out w2 E2.out).mono ?_);rintro e3 w3 ⟨rfl,hr3,hk3⟩;have R3 := hid hr3;have K3 := hid hk3;clear hr3 hk3))
 have HO3 : Hid (w3.ownsRow w.heap.size 3 1 (.slice A1 k c1) k (xs.map (Value.int .i64))) := hid (K3.out.own HO1.out (fun b hb e => by have := own_geq HO1.out hb;omega))
 have K03 : Hid (Kept (fun b => b = g) w w3) := hid ((Kept.of_ext E2.out).trans K3.out)
 have c31 := R3.out.blk.cell 1
 have f31 := R3.out.blk.frozen 1
 have FIN : Hid (∀ b2 : Bool,Rdr (w3.setCell ⟨g,1,none⟩ (.bool b2)) g (l.drop u) (restA A c u) (n - u) (c - u) b2 ∧ Kept (fun b => b = g) w (w3.setCell ⟨g,1,none⟩ (.bool b2)) ∧ (w3.setCell ⟨g,1,none⟩ (.bool b2)).ownsRow w.heap.size 3 1 (.slice A1 k c1) k (xs.map (Value.int .i64)) ∧ (w3.setCell ⟨g,1,none⟩ (.bool b2)).cell? ⟨g,1,none⟩ = some (.bool b2)) := hid (fun b2 => by
  have K2 : Kept (fun b => b = g) w3 (w3.setCell ⟨g,1,none⟩ (.bool b2)) := Kept.setCell (F := fun b => b = g) (p := ⟨g,1,none⟩) w3 rfl _
  have B2 := R3.out.blk.set 1 (.bool b2)
  exact ⟨⟨B2,R3.out.keep K2,R3.out.byt,R3.out.nc,R3.out.cap,R3.out.few⟩,K03.out.trans K2,K2.own HO3.out (fun b hb e => by have := own_geq HO3.out hb;omega),B2.cell 1⟩)
 go_cut [] from 11 to 46 (fun wx => Rdr wx g (l.drop u) (restA A c u) (n - u) (c - u) bb ∧ Kept (fun b => b = g) w wx ∧ wx.ownsRow w.heap.size 3 1 (.slice A1 k c1) k (xs.map (Value.int .i64)) ∧ wx.cell? ⟨g,1,none⟩ = some (.bool bb))
 case first =>
  cases b1
  ·by_cases h1 : 0 < many
   ·have h1' : decide (0 < many) = true := decide_eq_true h1
    by_cases h2 : k = many
    ·subst h2
     by_cases h3 : k % q = 0
     ·have h3' : ((k : Int) % (q : Int) != 0) = false := by simp;omega
      have HV : Hid (bb = false) := hid (by rw [HB.out,h3];simp)
      have HF := hid (FIN.out bb)
      rw [HV.out] at HF
      go_wp2_with fail
      go_meet
      rw [HV.out]
      exact HF.out
     ·have h3' : ((k : Int) % (q : Int) != 0) = true := by simp;omega
      have HV : Hid (bb = true) := hid (by rw [HB.out,decide_eq_true h3];simp)
      have HF := hid (FIN.out bb)
      rw [HV.out] at HF
      go_wp2_with fail
      go_meet
      rw [HV.out]
      exact HF.out
    ·have h2q : ((k : Int) == (many : Int)) = false := by simp;omega
     have h2r : ((k : Int) != (many : Int)) = true := by simp;omega
     have HV : Hid (bb = true) := hid (by rw [HB.out,h1',decide_eq_true h2];rfl)
     have HF := hid (FIN.out bb)
     rw [HV.out] at HF
     go_wp2_with fail
     go_meet
     rw [HV.out]
     exact HF.out
   ·have h1' : decide (0 < many) = false := decide_eq_false h1
    by_cases h3 : k % q = 0
    ·have h3' : ((k : Int) % (q : Int) != 0) = false := by simp;omega
     have HV : Hid (bb = false) := hid (by rw [HB.out,h3];simp [h1])
     have HF := hid (FIN.out bb)
     rw [HV.out] at HF
     go_wp2_with fail
     go_meet
     rw [HV.out]
     exact HF.out
    ·have h3' : ((k : Int) % (q : Int) != 0) = true := by simp;omega
     have HV : Hid (bb = true) := hid (by rw [HB.out,decide_eq_true h3];simp)
     have HF := hid (FIN.out bb)
     rw [HV.out] at HF
     go_wp2_with fail
     go_meet
     rw [HV.out]
     exact HF.out
  ·have HV : Hid (bb = true) := hid (by rw [HB.out];rfl)
   have HF := hid (FIN.out bb)
   rw [HV.out] at HF
   go_wp2_with fail
   go_meet
   rw [HV.out]
   exact HF.out
 case rest =>
  obtain ⟨hR,hK,hO,hcb⟩ := hcut
  obtain ⟨w4,rfl⟩ : ∃ x : World,x = wc := ⟨_,rfl⟩
  have R4 := hid hR;have K4 := hid hK;have O4 := hid hO
  clear hR hK hO HO1 HO3 R3 K3 K03 FIN E2 HB
  cases bb
  ·have HLE : Hid (intsL l bad many q = xs) := hid (by rw [HLI.out];rfl)
   go_wp2_with fail
   go_ret
   rw [HLE.out,← HKK.out]
   exact ⟨⟨A1,c1,rfl,O4.out⟩,⟨_,_,_,R4.out,HSB.out⟩,K4.out⟩
  ·have HLE : Hid (intsL l bad many q = List.replicate many 0) := hid (by rw [HLI.out];rfl)
   go_upto_region 5 with fail
   obtain ⟨i0,hi,hz0,hz1,hz2⟩ := info_parts int_info2
   obtain ⟨wm,hmk0,hown,hgm⟩ := run_make_full (P := Tryz.prog) w4 w4.heap.size 43 3 i0 (.int .i64 0) 1 Tryz.underlying43 hi hz0 hz1 .i64 .i64 many (by rw [hz2];omega) (by unfold maxLen;omega) (Nat.le_refl _)
   have hmk : (Instr.makeSlice 43 (.int .i64 (many : Int)) (.int .i64 (many : Int))).run Tryz.prog w4 = .ok (.slice (some ⟨w4.heap.size,0,none⟩) many many) wm := hmk0
   have HO : Hid (wm.ownsRow w4.heap.size 3 1 (.slice (some ⟨w4.heap.size,0,none⟩) many many) many ((List.replicate many (0 : Int)).map (Value.int .i64))) := hid (by
    have e : (madeCells (Value.int .i64 0).cells (many * 1)).toList = (List.replicate many (0 : Int)).map (Value.int .i64) := by
     have h0 : ∀ x : Nat,([Value.int .i64 0] : List Value)[x % 1]?.getD default = .int .i64 0 := fun x => by rw [Nat.mod_one];rfl
     simp [madeCells,Value.cells,h0,List.map_const']
    rw [e] at hown
    exact hown)
   have EM : Hid (Ext w4 wm) := hid (Below.grown (Ext.refl _) hgm (Nat.le_refl _) (fun k hk => by cases hk))
   clear hmk0 hown hgm
   go_wp2_with fail
   go_ret
   rw [HLE.out,List.length_replicate]
   have hfin := R4.out.ext EM.out
   refine ⟨⟨_,_,rfl,own_base2 HO.out K4.out.size⟩,?_,K4.out.trans (Kept.of_ext EM.out)⟩
   exact ⟨_,⟨_,_,hfin⟩,HSB.out⟩
end Go.Proofs.YtojcmcccahjphaaGreatDoor
/- The reviews that numbers make are valid (plain). Condition: none. -/
namespace Go.Proofs.YtojcmcccahjphaaGreatDoor
def ltR (a b : Rid) : Prop := a.s < b.s ∨ a.s = b.s ∧ (a.q < b.q ∨ a.q = b.q ∧ a.i < b.i)
def GoodR (L : List Rid) : Prop := L.Pairwise ltR ∧ ∀ x ∈ L,idB x = true
theorem GoodR.nil : GoodR [] := ⟨List.Pairwise.nil,fun x hx => by cases hx⟩
end Go.Proofs.YtojcmcccahjphaaGreatDoor
/- Spoilt: a review with one thing changed. Conditions: at most 500 operations. -/
namespace Go.Proofs.YtojcmcccahjphaaGreatDoor
open Go.RowKit
open Lib (hid)
attribute [local go_sem ↓] wp_at_zero wp_at_succ
end Go.Proofs.YtojcmcccahjphaaGreatDoor
/- What ReviewEncodes has at hand: a changed review's numbers, beginnings of bytes and of strings. No condition but sizes. -/
namespace Go.Proofs.YtojcmcccahjphaaGreatDoor
open Go.RowKit
open Lib (hid)
attribute [local go_sem ↓] wp_at_zero wp_at_succ
theorem ext_kept {F : Nat → Prop} {w0 w w' : World} (e : Ext w0 w) (hk : Kept F w w') (hF : ∀ b,F b → w0.heap.size ≤ b) : Ext w0 w' :=
 ((Kept.of_ext (F := fun _ => False) e).next hk (fun b hb hf => by have := hF b hf;omega)).ext (fun _ h => h.elim)
end Go.Proofs.YtojcmcccahjphaaGreatDoor
/- patch.Decode of bytes that begin with no list of four numbers: ErrForm. Conditions: sizes. -/
namespace Go.Proofs.YtojcmcccahjphaaGreatDoor
open Go.RowKit
open Lib (hid)
attribute [local go_sem ↓] wp_at_zero wp_at_succ
def patC (s q d : Int) (nA : Option Addr) (nn nc : Nat) (cl : Int) (oA : Option Addr) (on oc : Nat) (sl : ByteArray) : List Value := [.int .i64 s,.int .i64 q,.int .i64 d,.slice nA nn nc,.int .i64 cl,.slice oA on oc,.string sl]
def P0 : List Value := patC 0 0 0 none 0 0 0 none 0 0 ⟨#[]⟩
theorem info_pat : (Tryz.prog.info? 37).map (·.size) = some 7 := by kernel_rfl
theorem patC_one (s q d : Int) (nA : Option Addr) (nn nc : Nat) (cl : Int) (oA : Option Addr) (on oc : Nat) (sl : ByteArray) : ∀ v ∈ patC s q d nA nn nc cl oA on oc sl,v.oneCell' = true := fun v hv => by
 unfold patC at hv
 simp only [List.mem_cons,List.not_mem_nil,or_false] at hv
 rcases hv with rfl | rfl | rfl | rfl | rfl | rfl | rfl <;> rfl
theorem zero_pat : ∀ W,(zeroValue 37).run Tryz.prog W = .ok (.agg P0.toArray) W := fun W => by kernel_rfl
theorem build_pat (s q d cl : Int) : Tryz.prog.built 37 [(0,.int .i64 s),(1,.int .i64 q),(2,.int .i64 d),(4,.int .i64 cl)] = some (patC s q d none 0 0 cl none 0 0 ⟨#[]⟩).toArray := by kernel_rfl
theorem build_pat0 : Tryz.prog.built 37 [] = some P0.toArray := by kernel_rfl
theorem own_cell0 {w : World} {base : Nat} {n c : Nat} {A : Option Addr} {L : List Int} (h : w.ownsRow base 3 1 (.slice A n c) n (L.map (Value.int .i64))) (hn : 0 < n) : ∃ g,A = some ⟨g,0,none⟩ ∧ base ≤ g ∧ g < w.heap.size ∧ ∀ j x,L[j]? = some x → w.cell? ⟨g,j,none⟩ = some (.int .i64 x) := by
 obtain ⟨g,hA,h1,h2,h3⟩ := own_at h hn
 exact ⟨g,hA,h1,h2,fun j x hx => h3 j _ (by rw [List.getElem?_map,hx];rfl)⟩
theorem build_rdr (A : Option Addr) (n c : Nat) : Tryz.prog.built 80 [(0,.slice A n c)] = some ([.slice A n c,.bool false] : List Value).toArray := by kernel_rfl
end Go.Proofs.YtojcmcccahjphaaGreatDoor
/- Decoding what encodes a review gives the review, whatever follows; no beginning decodes. Conditions: the review is valid. -/
namespace Go.Proofs.YtojcmcccahjphaaGreatDoor
open Go.RowKit
open Lib (hid)
theorem drop_len {α : Type} (a b : List α) (k : Int) (h : k = (a.length : Int)) : (a ++ b).drop k.toNat = b := by
 rw [h,Int.toNat_natCast,List.drop_left]
theorem encL_cut (xs r : List Int) (hx : ∀ x ∈ xs,-9223372036854775808 ≤ x ∧ x ≤ 9223372036854775807) (hn : (xs.length : Int) ≤ 9223372036854775807) : decList getI (encL encInt xs ++ r) = (xs,((encL encInt xs).length : Int),0) :=
 decList_enc getI encInt xs r (fun x h r => getI_enc x r (hx x h).1 (hx x h).2) (fun x _ => by rw [encInt_length];omega) hn
end Go.Proofs.YtojcmcccahjphaaGreatDoor
