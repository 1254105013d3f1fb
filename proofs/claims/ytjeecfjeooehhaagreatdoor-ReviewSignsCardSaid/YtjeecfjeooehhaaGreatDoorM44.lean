/- Sign and Verify of a review as functions of their arguments. Conditions: RevV, RevW; a seed of 32 bytes; the tables of constants are laid. -/
import Derived.Test.YtjeecfjeooehhaaGreatDoorM43
set_option linter.unusedSimpArgs false
set_option linter.unusedVariables false
set_option maxHeartbeats 16000000
set_option maxRecDepth 100000
namespace Go.Proofs.YtjeecfjeooehhaaGreatDoor
open Go.RowKit
open Lib (hid)
theorem rev0_Wz : RevW rev0 := ⟨⟨by decide,by decide⟩,⟨by decide,by decide⟩,⟨by decide,by decide⟩,fun x hx => (by cases hx),Nat.zero_le _,Nat.zero_le _⟩
theorem msgS_le {w : World} {A : Option Addr} {n c : Nat} (r : Rev) (hr : RevV w r A n c) (hw : RevW r) : (msgS r).size ≤ 1000000 := by
 unfold msgS
 rw [strOf_size]
 have hb := bareV hr
 have hw2 := bareW hw
 have hn : n ≤ 1000 := by rw [← hr.len];exact hw.many
 have q1 := encL_le [r.shop,r.seq,r.day] (fun x hx => by
  simp only [List.mem_cons,List.not_mem_nil,or_false] at hx
  rcases hx with rfl | rfl | rfl
  ·exact hw.shop
  ·exact hw.seq
  ·exact hw.day) (by simp)
 have q2 := encInt_le9 (wdI r.wd) (by unfold wdI;split <;> decide) (by unfold wdI;split <;> decide)
 have q3 := encL_le _ hw.ops (by rw [opsI_len,hr.len];omega)
 have q4 : (encL idD [r.mean]).length ≤ 25 := by
  have h := encInt_le9 1 (by decide) (by decide)
  unfold encL idD
  simp only [List.length_append,List.flatMap_cons,List.flatMap_nil,List.length_nil,hr.mean,List.length_cons]
  have : (((0 + 1 : Nat) : Int)) = 1 := rfl
  rw [this];omega
 have q5 : (encB (bare r).sl).length ≤ 9 := by
  have h := encInt_le9 (0 : Int) (by omega) (by omega)
  unfold encB
  rw [List.length_append,bys_length]
  exact h
 rw [opsI_len,hr.len] at q3
 simp only [List.length_cons,List.length_nil] at q1
 have e1 : encR (bare r) = encL encInt [r.shop,r.seq,r.day] ++ encInt (wdI r.wd) ++ encL encInt (opsI r.ops) ++ encL idD [r.mean] ++ encB (bare r).sl := rfl
 rw [e1]
 simp only [List.length_append]
 omega
def sigE (H : Int) (r : Rev) : Int := if validE r ≠ 0 then validE r else if H < 0 ∨ 4 < H then 1 else if ((2 ^ H.toNat : Nat) : Int) < r.seq then 26 else 0
def sigR (seed : ByteArray) (H : Int) (r : Rev) : Rev := if sigE H r = 0 then sealed r (strOf (signL seed H.toNat (2 ^ H.toNat - r.seq.toNat) (msgS r))) else rev0
theorem sigR_err {seed : ByteArray} {H : Int} {r : Rev} (h : sigE H r ≠ 0) : sigR seed H r = rev0 := by unfold sigR;rw [if_neg h]
theorem sigR_ok {seed : ByteArray} {H : Int} {r : Rev} (h : sigE H r = 0) : sigR seed H r = sealed r (strOf (signL seed H.toNat (2 ^ H.toNat - r.seq.toNat) (msgS r))) := by unfold sigR;rw [if_pos h]
theorem signL_le (seed : ByteArray) (h i : Nat) (msg : ByteArray) (h4 : h ≤ 4) (hi : i ≤ 16) : (strOf (signL seed h i msg)).size ≤ 1200 := by
 rw [strOf_size]
 unfold signL
 have h1 := encInt_le9 (i : Int) (by omega) (by omega)
 have h2 := flatD_len (sgP seed i) (t := h) (fun j _ => nodeV_dig seed j _)
 rw [List.length_append,List.length_append,flatD_len _ (fun j _ => sgV_dig seed i _ j),h2]
 omega
theorem sig_cases (seed : ByteArray) (H : Int) (r : Rev) :
  (validE r ≠ 0 ∧ sigE H r = validE r ∧ sigR seed H r = rev0) ∨
  (validE r = 0 ∧ (H < 0 ∨ 4 < H) ∧ sigE H r = 1 ∧ sigR seed H r = rev0) ∨
  (∃ h : Nat,H = (h : Int) ∧ h ≤ 4 ∧ validE r = 0 ∧ ((2 ^ h : Nat) : Int) < r.seq ∧ sigE H r = 26 ∧ sigR seed H r = rev0) ∨
  (∃ h q : Nat,H = (h : Int) ∧ h ≤ 4 ∧ validE r = 0 ∧ r.seq = (q : Int) ∧ 1 ≤ q ∧ q ≤ 2 ^ h ∧ sigE H r = 0 ∧ sigR seed H r = sealed r (strOf (signL seed h (2 ^ h - q) (msgS r)))) := by
 by_cases hv : validE r = 0
 ·by_cases hH : H < 0 ∨ 4 < H
  ·have he : sigE H r = 1 := by unfold sigE;rw [if_neg (by rw [hv];decide),if_pos hH]
   exact Or.inr (Or.inl ⟨hv,hH,he,sigR_err (by rw [he];decide)⟩)
  ·obtain ⟨h,rfl⟩ := Int.eq_ofNat_of_zero_le (show 0 ≤ H by omega)
   by_cases hq : ((2 ^ h : Nat) : Int) < r.seq
   ·have he : sigE (h : Int) r = 26 := by unfold sigE;rw [if_neg (by rw [hv];decide),if_neg hH,Int.toNat_natCast,if_pos hq]
    exact Or.inr (Or.inr (Or.inl ⟨h,rfl,by omega,hv,hq,he,sigR_err (by rw [he];decide)⟩))
   ·have he : sigE (h : Int) r = 0 := by unfold sigE;rw [if_neg (by rw [hv];decide),if_neg hH,Int.toNat_natCast,if_neg hq]
    have hz := (validE_zero hv).1
    obtain ⟨q,hqq⟩ := Int.eq_ofNat_of_zero_le (show 0 ≤ r.seq by omega)
    refine Or.inr (Or.inr (Or.inr ⟨h,q,rfl,by omega,hv,hqq,by omega,by omega,he,?_⟩))
    rw [sigR_ok he,hqq,Int.toNat_natCast,Int.toNat_natCast]
 ·have he : sigE H r = validE r := by unfold sigE;rw [if_pos hv]
  exact Or.inl ⟨hv,he,sigR_err (by rw [he];exact hv)⟩
theorem sigR_W (seed : ByteArray) (H : Int) {r : Rev} (hw : RevW r) : RevW (sigR seed H r) ∧ (sigR seed H r).sl.size ≤ 1200 := by
 rcases sig_cases seed H r with ⟨_,_,h⟩ | ⟨_,_,_,h⟩ | ⟨_,_,_,_,_,_,h⟩ | ⟨h0,q,hh,h4,hv,hqq,h1,hq,he,h⟩
 ·rw [h];exact ⟨rev0_Wz,Nat.zero_le _⟩
 ·rw [h];exact ⟨rev0_Wz,Nat.zero_le _⟩
 ·rw [h];exact ⟨rev0_Wz,Nat.zero_le _⟩
 ·have hp : 2 ^ h0 ≤ 16 := by
   have := Nat.pow_le_pow_right (show 0 < 2 by decide) h4
   omega
  have hl := signL_le seed h0 (2 ^ h0 - q) (msgS r) h4 (by omega)
  rw [h]
  exact ⟨⟨hw.shop,hw.seq,hw.day,hw.ops,Nat.le_trans hl (by decide),hw.many⟩,hl⟩
theorem sig_all (seed : ByteArray) (H : Int) (r : Rev) (A : Option Addr) (n c : Nat) (w : World) (hs : seed.size = 32) (hr : RevV w r A n c) (hw : RevW r) (hK : KTab w) :
  Calls Tryz.prog 17 #[.agg (keyC seed H).toArray,.agg (revC r A n c).toArray] w fun e w' => (∃ A' n' c',e = .returned (.tuple #[.agg (revC (sigR seed H r) A' n' c').toArray,.int .i64 (sigE H r)]) ∧ RevV w' (sigR seed H r) A' n' c' ∧ n' ≤ n) ∧ Ext w w' := by
 rcases sig_cases seed H r with ⟨hv,he,h⟩ | ⟨hv,hH,he,h⟩ | ⟨h0,rfl,h4,hv,hq,he,h⟩ | ⟨h0,q,rfl,h4,hv,hqq,h1,hq,he,h⟩
 ·rw [h,he]
  exact (sig_invalid seed H r A n c w hr hv).mono fun e w' hh => ⟨⟨none,0,0,hh.1,rev0_V _,Nat.zero_le _⟩,hh.2⟩
 ·rw [h,he]
  exact (sig_height seed H r A n c w hs hr hv hH).mono fun e w' hh => ⟨⟨none,0,0,hh.1,rev0_V _,Nat.zero_le _⟩,hh.2⟩
 ·rw [h,he]
  exact (sig_spent seed h0 _ r A n c w hs hr hv h4 rfl hq hK).mono fun e w' hh => ⟨⟨none,0,0,hh.1,rev0_V _,Nat.zero_le _⟩,hh.2⟩
 ·rw [h,he]
  exact (sig_ok seed h0 _ q r A n c w hs hr hv h4 rfl hqq h1 hq hw (msgS_le r hr hw) hK).mono fun e w' ⟨⟨A',c',h2,h3⟩,hE⟩ => ⟨⟨A',n,c',h2,h3,Nat.le_refl _⟩,hE⟩
theorem rsig_all (seed : ByteArray) (H : Int) (r : Rev) (A : Option Addr) (n c : Nat) (w : World) (hs : seed.size = 32) (hr : RevV w r A n c) (hw : RevW r) (hK : RTab w) :
  Calls Tryz.prog 18 #[.string seed,.int .i64 H,.agg (revC r A n c).toArray] w fun e w' => (∃ A' n' c',e = .returned (.tuple #[.agg (revC (sigR seed H r) A' n' c').toArray,.int .i64 (sigE H r)]) ∧ RevV w' (sigR seed H r) A' n' c' ∧ n' ≤ n) ∧ Ext w w' := by
 rcases sig_cases seed H r with ⟨hv,he,h⟩ | ⟨hv,hH,he,h⟩ | ⟨h0,rfl,h4,hv,hq,he,h⟩ | ⟨h0,q,rfl,h4,hv,hqq,h1,hq,he,h⟩
 ·rw [h,he]
  exact (rsig_invalid seed H r A n c w hr hv).mono fun e w' hh => ⟨⟨none,0,0,hh.1,rev0_V _,Nat.zero_le _⟩,hh.2⟩
 ·rw [h,he]
  exact (rsig_height seed H r A n c w hs hr hv hH).mono fun e w' hh => ⟨⟨none,0,0,hh.1,rev0_V _,Nat.zero_le _⟩,hh.2⟩
 ·rw [h,he]
  exact (rsig_spent seed h0 _ r A n c w hs hr hv h4 rfl hq hK).mono fun e w' hh => ⟨⟨none,0,0,hh.1,rev0_V _,Nat.zero_le _⟩,hh.2⟩
 ·rw [h,he]
  exact (rsig_ok seed h0 _ q r A n c w hs hr hv h4 rfl hqq h1 hq hw (msgS_le r hr hw) hK).mono fun e w' hh => ⟨⟨A,n,c,hh.1,⟨(hr.ext hh.2).row,hr.le,hr.cap,hr.few,hr.mean,hr.mbyt⟩,Nat.le_refl _⟩,hh.2⟩
def verE (L : List (List Int × Int)) (r : Rev) : Int :=
 if validE r ≠ 0 then validE r else if (L.length : Int) ≤ r.shop then 6
 else verP (verV (L.getD r.shop.toNat ([],0)).1 (L.getD r.shop.toNat ([],0)).2.toNat (msgS r) r.sl) (L.getD r.shop.toNat ([],0)).2.toNat r.seq
def PubOk (x : List Int × Int) : Prop := Dig x.1 ∧ 0 ≤ x.2 ∧ x.2 ≤ 4
theorem ver_cases2 (L : List (List Int × Int)) (r : Rev) (hL : ∀ x ∈ L,PubOk x) :
  (validE r ≠ 0 ∧ verE L r = validE r) ∨ (validE r = 0 ∧ (L.length : Int) ≤ r.shop ∧ verE L r = 6) ∨
  (∃ (k h : Nat) (d : List Int),validE r = 0 ∧ r.shop = (k : Int) ∧ k < L.length ∧ L[k]? = some (d,(h : Int)) ∧ Dig d ∧ h ≤ 4 ∧ verE L r = verP (verV d h (msgS r) r.sl) h r.seq) := by
 by_cases hv : validE r = 0
 ·by_cases hs : (L.length : Int) ≤ r.shop
  ·exact Or.inr (Or.inl ⟨hv,hs,by unfold verE;rw [if_neg (by rw [hv];decide),if_pos hs]⟩)
  ·have hz := (validE_zero hv).1
   obtain ⟨k,hk⟩ := Int.eq_ofNat_of_zero_le (show 0 ≤ r.shop by omega)
   have hkl : k < L.length := by omega
   have hm := hL _ (List.getElem_mem hkl)
   obtain ⟨h,hh⟩ := Int.eq_ofNat_of_zero_le hm.2.1
   refine Or.inr (Or.inr ⟨k,h,L[k].1,hv,hk,hkl,?_,hm.1,by have := hm.2.2;omega,?_⟩)
   ·rw [List.getElem?_eq_getElem hkl,← hh]
   ·have e : L.getD k ([],0) = L[k] := by rw [List.getD_eq_getElem?_getD,List.getElem?_eq_getElem hkl];rfl
    unfold verE
    rw [if_neg (by rw [hv];decide),if_neg hs,hk,Int.toNat_natCast,e,hh,Int.toNat_natCast]
 ·exact Or.inl ⟨hv,by unfold verE;rw [if_pos hv]⟩
theorem ver_all (r : Rev) (L : List (List Int × Int)) (A B : Option Addr) (n c m dd : Nat) (w : World) (hr : RevV w r A n c) (hw : RevW r) (hs : r.sl.size ≤ 1000000) (hL : ∀ x ∈ L,PubOk x) (hm : L.length = m) (hB : RdN w w.heap.size 17 B m (pubsC L)) (hK : KTab w) :
  Calls Tryz.prog 20 #[.slice B m dd,.agg (revC r A n c).toArray] w fun e w' => e = .returned (.int .i64 (verE L r)) ∧ Ext w w' := by
 rcases ver_cases2 L r hL with ⟨hv,he⟩ | ⟨hv,h1,he⟩ | ⟨k,h,d,hv,hk,hkl,hg,hd,h4,he⟩
 ·rw [he];exact ver_invalid r A B n c m dd w hr hv
 ·rw [he];exact ver_none r A B n c m dd w hr hv (by omega)
 ·rw [he];exact ver_form r L A B n c m dd k h d w hr hv hk (by omega) (fun x hx => (hL x hx).1.l) hB hg hd h4 hw (msgS_le r hr hw) hs hK
theorem rver_all (r : Rev) (L : List (List Int × Int)) (A B : Option Addr) (n c m dd : Nat) (w : World) (hr : RevV w r A n c) (hw : RevW r) (hs : r.sl.size ≤ 1000000) (hL : ∀ x ∈ L,PubOk x) (hm : L.length = m) (hB : RdN w w.heap.size 17 B m (pubsC L)) (hK : RTab w) :
  Calls Tryz.prog 21 #[.slice B m dd,.agg (revC r A n c).toArray] w fun e w' => e = .returned (.int .i64 (verE L r)) ∧ Ext w w' := by
 rcases ver_cases2 L r hL with ⟨hv,he⟩ | ⟨hv,h1,he⟩ | ⟨k,h,d,hv,hk,hkl,hg,hd,h4,he⟩
 ·rw [he];exact rver_invalid r A B n c m dd w hr hv
 ·rw [he];exact rver_none r A B n c m dd w hr hv (by omega)
 ·rw [he];exact rver_form r L A B n c m dd k h d w hr hv hk (by omega) (fun x hx => (hL x hx).1.l) hB hg hd h4 hw (msgS_le r hr hw) hs hK
end Go.Proofs.YtjeecfjeooehhaaGreatDoor
