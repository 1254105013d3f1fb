/- The reader of package patch where the bytes are an encoding: numbers, strings. Conditions: sizes. -/
import Derived.Test.YtojcmcccahjphaaGreatDoorM22
import Derived.Test.YtojcmcccahjphaaGreatDoorM13
set_option linter.unusedSimpArgs false
set_option linter.unusedVariables false
set_option maxHeartbeats 16000000
set_option maxRecDepth 100000
set_option maxRecDepth 100000
set_option maxHeartbeats 4000000
namespace Go.Proofs.YtojcmcccahjphaaGreatDoor
open Go.RowKit
open Lib (hid)
attribute [local go_sem ↓] wp_at_zero wp_at_succ
theorem pints_enc (xs r : List Int) (A : Option Addr) (n c g many q : Nat) (w : World) (h : Rdr w g (encL encInt xs ++ r) A n c false) (hx : ∀ x ∈ xs,-9223372036854775808 ≤ x ∧ x ≤ 9223372036854775807) (hn : xs.length ≤ 1000000) (hmany : many = 0 ∨ many = xs.length) (hmod : xs.length % q = 0) (hm : many ≤ 1000) (hq : 1 ≤ q) (hq2 : q ≤ 1000) :
  Calls Tryz.prog 67 #[.pointer (some ⟨g,0,none⟩),.int .i64 (many : Int),.int .i64 (q : Int)] w fun e w' => (∃ A1 c1,e = .returned (.slice A1 xs.length c1) ∧ w'.ownsRow w.heap.size 3 1 (.slice A1 xs.length c1) xs.length (xs.map (Value.int .i64))) ∧ (∃ A2 n2 c2,Rdr w' g r A2 n2 c2 false ∧ SameB A A2) ∧ Kept (fun b => b = g) w w' := by
 have hc : cut1 (encL encInt xs ++ r) = (xs,((encL encInt xs).length : Int),0) := encL_cut xs r hx (by omega)
 have hB : intsB (encL encInt xs ++ r) false many q = false := by
  unfold intsB
  rw [hc]
  have h1 : (decide (0 < many) && decide (xs.length ≠ many)) = false := by
   rcases hmany with rfl | rfl
   ·rfl
   ·simp
  show (false || (decide ((0 : Int) ≠ 0) || ((decide (0 < many) && decide (xs.length ≠ many)) || decide (xs.length % q ≠ 0)))) = false
  rw [h1,hmod]
  rfl
 have hL : intsL (encL encInt xs ++ r) false many q = xs := by
  unfold intsL
  rw [hB,hc]
  rfl
 have hR : rest1 (encL encInt xs ++ r) = r := by
  unfold rest1
  rw [hc]
  exact drop_len _ _ _ rfl
 have h1 := pints_at _ A n c g many q false w h hm hq hq2
 rw [hL,hR,hB] at h1
 exact h1
theorem text_enc (s : ByteArray) (r : List Int) (A : Option Addr) (n c g : Nat) (w : World) (h : Rdr w g (encB s ++ r) A n c false) (hs : s.size ≤ 1000000) :
  Calls Tryz.prog 72 #[.pointer (some ⟨g,0,none⟩)] w fun e w' => e = .returned (.string s) ∧ (∃ A2 n2 c2,Rdr w' g r A2 n2 c2 false ∧ SameB A A2) ∧ Kept (fun b => b = g) w w' := by
 have hc : decS (encB s ++ r) = (s,((encB s).length : Int),0) := decS_enc s r (by omega)
 have h1 := text_at _ A n c g false w h
 have hR : textR (encB s ++ r) = r := by
  unfold textR
  rw [hc]
  exact drop_len _ _ _ rfl
 have hB : textBd (encB s ++ r) false = false := by
  unfold textBd
  rw [hc]
  rfl
 rw [hR,hB,hc] at h1
 exact h1
theorem strs_cut (ss : List ByteArray) (r : List Int) (hs : ∀ s ∈ ss,s.size ≤ 1000000) (hn : ss.length ≤ 1000000) : decList decS (encL encB ss ++ r) = (ss,((encL encB ss).length : Int),0) :=
 decList_enc decS encB ss r (fun x h r => decS_enc x r (by have := hs x h;omega)) (fun x _ => by rw [encB_length];omega) (by omega)
theorem pstrings_enc (ss : List ByteArray) (r : List Int) (A : Option Addr) (n c g : Nat) (w : World) (h : Rdr w g (encL encB ss ++ r) A n c false) (hs : ∀ s ∈ ss,s.size ≤ 1000000) (hk : ss.length ≤ 1000000) :
  Calls Tryz.prog 84 #[.pointer (some ⟨g,0,none⟩)] w fun e w' => (∃ A1 c1,e = .returned (.slice A1 ss.length c1) ∧ w'.ownsRow w.heap.size 9 1 (.slice A1 ss.length c1) ss.length (ss.map Value.string)) ∧ (∃ A2 n2 c2,Rdr w' g r A2 n2 c2 false ∧ SameB A A2) ∧ Kept (fun b => b = g) w w' := by
 have hX := strs_cut ss r hs hk
 obtain ⟨u,hu⟩ : ∃ u,u = (encL encB ss).length := ⟨_,rfl⟩
 obtain ⟨k,hkk⟩ : ∃ k,k = ss.length := ⟨_,rfl⟩
 have hun : u ≤ n := by
  have h1 := h.row.1
  rw [u8s_length,List.length_append,← hu] at h1
  omega
 have hdr : (encL encB ss ++ r).drop u = r := by rw [hu,List.drop_left]
 have HG : Hid (Calls Tryz.prog 94 #[.slice A n c] w fun e2 w' => (∃ A' c',e2 = .returned (.tuple #[.slice A' k c',.int .i64 (u : Int),.int .i64 0]) ∧ w'.ownsRow w.heap.size 9 1 (.slice A' k c') k (ss.map Value.string)) ∧ Ext w w') := hid (by
  have h1 := gstrings_any _ A n c w h.row h.byt h.nc h.cap h.few
  rw [hX,← hu] at h1
  dsimp only at h1
  rw [← hkk] at h1
  exact h1)
 have HT : Hid (∀ W,Ext w W → Calls Tryz.prog 70 #[.pointer (some ⟨g,0,none⟩),.int .i64 (u : Int),.int .i64 0] W fun e w' => e = .returned (.tuple #[]) ∧ Rdr w' g r (restA A c u) (n - u) (c - u) false ∧ Kept (fun b => b = g) W w') := hid (fun W hW => by
  have h1 := took_any _ A n c g u false 0 W (h.ext hW) hun
  rw [hdr] at h1
  exact h1)
 have HSB : Hid (SameB A (restA A c u)) := hid (restA_same c u h.row hun)
 rw [← hkk]
 have c0 := h.blk.cell 0
 have HGL := hid h.blk.lt
 clear h hX hu hkk hun hdr hs hk
 go_enter Tryz.func84,Tryz.ntmps84
 go_wp2_with (first
  | (go_at_call 94;(with_reducible refine HG.out.mono ?_);rintro e2 w2 ⟨⟨A1,c1,rfl,ho1⟩,hE2⟩;have HO1 := hid ho1;have E2 := hid hE2;clear ho1 hE2)
  | (go_at_call 70;(with_reducible refine (HT.out w2 E2.out).mono ?_);rintro e3 w3 ⟨rfl,hr3,hk3⟩;have R3 := hid hr3;have K3 := hid hk3;clear hr3 hk3))
 go_ret
 exact ⟨⟨A1,c1,rfl,K3.out.own HO1.out (fun b hb e => by have := own_geq HO1.out hb;have := HGL.out;omega)⟩,⟨_,_,_,R3.out,HSB.out⟩,(Kept.of_ext E2.out).trans K3.out⟩
end Go.Proofs.YtojcmcccahjphaaGreatDoor
