/- Sign and Verify of a review as functions of their arguments. Conditions: RevV, RevW; a seed of 32 bytes; the tables of constants are laid. -/
import Derived.Test.YtjeecfjeooehhaaGreatDoorM32
set_option linter.unusedSimpArgs false
set_option linter.unusedVariables false
set_option maxHeartbeats 16000000
set_option maxRecDepth 100000
namespace Go.Proofs.YtjeecfjeooehhaaGreatDoor
open Go.RowKit
open Lib (hid)
section
theorem msgS_le {w:World}{A:Option Addr}{n c:Nat}(r:Rev)(hr:RevV w r A n c)(hw:RevW r):(msgS r).size≤1000000:=by
 unfold msgS;rw[strOf_size];have hb:=bareV hr;have hw2:=bareW hw;have hn:n≤1000:=by rw[←hr.len];exact hw.many
 have q1:=encL_le [r.shop,r.seq,r.day] (fun x hx=>by
  simp only[List.mem_cons,List.not_mem_nil,or_false] at hx
  rcases hx with rfl|rfl|rfl
  ·exact hw.shop
  ·exact hw.seq
  ·exact hw.day) (by simp)
 have q2:=encInt_le9 (wdI r.wd) (by unfold wdI;split<;>decide) (by unfold wdI;split<;>decide)
 have q3:=encL_le _ hw.ops (by rw[opsI_len,hr.len];omega)
 have q4:(encL idD [r.mean]).length≤25:=by
  have h:=encInt_le9 1 (by decide) (by decide)
  unfold encL idD;simp only[List.length_append,List.flatMap_cons,List.flatMap_nil,List.length_nil,hr.mean,List.length_cons]
  have:(((0+1:Nat):Int))=1:=rfl
  rw[this];omega
 have q5:(encB (bare r).sl).length≤9:=by
  have h:=encInt_le9 (0:Int) (by omega) (by omega)
  unfold encB;rw[List.length_append,bys_length];exact h
 rw[opsI_len,hr.len] at q3;simp only[List.length_cons,List.length_nil] at q1
 have e1:encR (bare r)=encL encInt [r.shop,r.seq,r.day]++encInt (wdI r.wd)++encL encInt (opsI r.ops)++encL idD [r.mean]++encB (bare r).sl:=rfl;rw[e1];simp only[List.length_append]
 omega
def sigE (H:Int)(r:Rev):Int:=if validE r≠0 then validE r else if H<0∨4<H then 1 else if ((2^H.toNat:Nat):Int)<r.seq then 26 else 0
def sigR (seed:ByteArray)(H:Int)(r:Rev):Rev:=if sigE H r=0 then sealed r (strOf (signL seed H.toNat (2^H.toNat-r.seq.toNat) (msgS r))) else rev0
theorem sigR_err {seed:ByteArray}{H:Int}{r:Rev}(h:sigE H r≠0):sigR seed H r=rev0:=by unfold sigR;rw[if_neg h]
theorem sigR_ok {seed:ByteArray}{H:Int}{r:Rev}(h:sigE H r=0):sigR seed H r=sealed r (strOf (signL seed H.toNat (2^H.toNat-r.seq.toNat) (msgS r))):=by unfold sigR;rw[if_pos h]
theorem signL_le (seed:ByteArray)(h i:Nat)(msg:ByteArray)(h4:h≤4)(hi:i≤16):(strOf (signL seed h i msg)).size≤1200:=by
 rw[strOf_size];unfold signL;have h1:=encInt_le9 (i:Int) (by omega) (by omega)
 have h2:=flatD_len (sgP seed i) (t:=h) (fun j _=>nodeV_dig seed j _)
 rw[List.length_append,List.length_append,flatD_len _ (fun j _=>sgV_dig seed i _ j),h2]
 omega
theorem sig_cases (seed:ByteArray)(H:Int)(r:Rev) :
  (validE r≠0∧sigE H r=validE r∧sigR seed H r=rev0) ∨
  (validE r=0∧(H<0∨4<H)∧sigE H r=1∧sigR seed H r=rev0) ∨
  (∃h:Nat,H=(h:Int)∧h≤4∧validE r=0∧((2^h:Nat):Int)<r.seq∧sigE H r=26∧sigR seed H r=rev0) ∨
  (∃h q:Nat,H=(h:Int)∧h≤4∧validE r=0∧r.seq=(q:Int)∧1≤q∧q≤2^h∧sigE H r=0∧sigR seed H r=sealed r (strOf (signL seed h (2^h-q) (msgS r)))):=by
 by_cases hv:validE r=0
 ·by_cases hH:H<0∨4<H
  ·have he:sigE H r=1:=by unfold sigE;rw[if_neg (by rw[hv];decide),if_pos hH]
   exact Or.inr (Or.inl ⟨hv,hH,he,sigR_err (by rw[he];decide)⟩)
  ·obtain⟨h,rfl⟩:=Int.eq_ofNat_of_zero_le (show 0≤H by omega)
   by_cases hq:((2^h:Nat):Int)<r.seq
   ·have he:sigE (h:Int) r=26:=by unfold sigE;rw[if_neg (by rw[hv];decide),if_neg hH,Int.toNat_natCast,if_pos hq]
    exact Or.inr (Or.inr (Or.inl ⟨h,rfl,by omega,hv,hq,he,sigR_err (by rw[he];decide)⟩))
   ·have he:sigE (h:Int) r=0:=by unfold sigE;rw[if_neg (by rw[hv];decide),if_neg hH,Int.toNat_natCast,if_neg hq]
    have hz:=(validE_zero hv).1;obtain⟨q,hqq⟩:=Int.eq_ofNat_of_zero_le (show 0≤r.seq by omega)
    refine Or.inr (Or.inr (Or.inr ⟨h,q,rfl,by omega,hv,hqq,by omega,by omega,he,?_⟩))
    rw[sigR_ok he,hqq,Int.toNat_natCast,Int.toNat_natCast]
 ·have he:sigE H r=validE r:=by unfold sigE;rw[if_pos hv]
  exact Or.inl ⟨hv,he,sigR_err (by rw[he];exact hv)⟩
theorem sig_all (seed:ByteArray)(H:Int)(r:Rev)(A:Option Addr)(n c:Nat)(w:World)(hs:seed.size=32)(hr:RevV w r A n c)(hw:RevW r)(hK:KTab w) :
  Calls Tryz.prog 17 #[.agg (keyC seed H).toArray,.agg (revC r A n c).toArray] w fun e w'=>(∃A' n' c',e=.returned (.tuple #[.agg (revC (sigR seed H r) A' n' c').toArray,.int .i64 (sigE H r)])∧RevV w' (sigR seed H r) A' n' c'∧n'≤n)∧Ext w w':=by
 rcases sig_cases seed H r with ⟨hv,he,h⟩|⟨hv,hH,he,h⟩|⟨h0,rfl,h4,hv,hq,he,h⟩|⟨h0,q,rfl,h4,hv,hqq,h1,hq,he,h⟩
 ·rw[h,he]
  exact (sig_invalid seed H r A n c w hr hv).mono fun e w' hh=>⟨⟨none,0,0,hh.1,rev0_V _,Nat.zero_le _⟩,hh.2⟩
 ·rw[h,he]
  exact (sig_height seed H r A n c w hs hr hv hH).mono fun e w' hh=>⟨⟨none,0,0,hh.1,rev0_V _,Nat.zero_le _⟩,hh.2⟩
 ·rw[h,he]
  exact (sig_spent seed h0 _ r A n c w hs hr hv h4 rfl hq hK).mono fun e w' hh=>⟨⟨none,0,0,hh.1,rev0_V _,Nat.zero_le _⟩,hh.2⟩
 ·rw[h,he]
  exact (sig_ok seed h0 _ q r A n c w hs hr hv h4 rfl hqq h1 hq hw (msgS_le r hr hw) hK).mono fun e w' ⟨⟨A',c',h2,h3⟩,hE⟩=>⟨⟨A',n,c',h2,h3,Nat.le_refl _⟩,hE⟩
theorem pubsC_len (L:List (List Int×Int))(hd:∀x∈L,x.1.length=16):(pubsC L).length=L.length*17:=by
 induction L with
 | nil=>rfl
 | cons y L ih =>
  have e:pubsC (y::L)=pubC y.1 y.2++pubsC L:=rfl;rw[e,List.length_append,pubC_len _ _ (hd y (List.mem_cons_self ..)),ih (fun z hz=>hd z (List.mem_cons_of_mem _ hz)),List.length_cons]
  omega
end
end Go.Proofs.YtjeecfjeooehhaaGreatDoor