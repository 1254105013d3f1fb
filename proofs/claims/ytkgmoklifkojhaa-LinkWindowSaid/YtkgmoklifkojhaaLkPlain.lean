/- Plain facts on sealed packets: what was sealed is opened; what was packed is read; one message delivered. No condition. -/
import Derived.Test.YtkgmoklifkojhaaLkDet
set_option linter.unusedSimpArgs false
set_option linter.unusedVariables false
namespace Go.Proofs.Ytkgmoklifkojhaa
open Go.RowKit
theorem openL_sealL (key : Int) (l : List Int) : openL key (sealL key l) = (l, 0) := by
  unfold openL
  rw [sealL_length, if_neg (by omega), show l.length + 8 - 8 = l.length by omega]
  have h1 : (sealL key l).take l.length = l := by unfold sealL; rw [List.take_append_of_le_length (Nat.le_refl _), List.take_of_length_le (Nat.le_refl _)]
  have h2 : (sealL key l).drop l.length = sealB key l := by unfold sealL; rw [List.drop_append_of_le_length (Nat.le_refl _), List.drop_of_length_le (Nat.le_refl _), List.nil_append]
  rw [h1, h2, if_pos rfl]
theorem readL_packL (s a : Int) (m : List Int) (s0 : 0 ≤ s) (s1 : s ≤ 9223372036854775807) (a0 : 0 ≤ a) (a1 : a ≤ 9223372036854775807) (hm : Byt m) (hl : m.length ≤ 65536) (hv : 0 < s ∨ m.length = 0) : readL (packL s a m) = some (s, a, m) := by
  have hd : decList getI (packL s a m) = ([s, a], ((encL encInt [s, a]).length : Int), 0) := dec_ints [s, a] _ (fun x hx => by
    simp only [List.mem_cons, List.not_mem_nil, or_false] at hx
    rcases hx with rfl | rfl <;> omega) (by simp)
  have hdr : (packL s a m).drop (encL encInt [s, a]).length = encB (strOf m) := by
    unfold packL
    rw [List.drop_append_of_le_length (Nat.le_refl _), List.drop_of_length_le (Nat.le_refl _), List.nil_append]
  have hs : decS (encB (strOf m)) = (strOf m, ((encB (strOf m)).length : Int), 0) := by
    have := encB_decS (strOf m) [] (by rw [strOf_size]; omega)
    rwa [List.append_nil] at this
  unfold readL
  rw [hd]
  simp only [Int.toNat_natCast]
  rw [hdr, hs]
  simp only
  rw [if_pos]
  · simp only [List.getD_cons_zero, List.getD_cons_succ]
    rw [bys_strOf m hm]
  · refine ⟨trivial, rfl, trivial, ?_, ?_⟩
    · unfold packL
      rw [List.length_append]
      omega
    · unfold validB
      simp only [List.getD_cons_zero, List.getD_cons_succ, strOf_size, decide_eq_true_eq]
      exact ⟨s0, a0, hl, hv⟩
/-- In of a right packet. -/
theorem inE_pack (E : EndS) (s a : Int) (m : List Int) (s0 : 0 ≤ s) (s1 : s ≤ 9223372036854775807) (a0 : 0 ≤ a) (a1 : a ≤ 9223372036854775807) (hm : Byt m) (hl : m.length ≤ 65536) (hv : 0 < s ∨ m.length = 0) : inE E (sealL E.key (packL s a m)) = pktIn E s a m := by
  unfold inE
  rw [openL_sealL]
  simp only
  rw [readL_packL s a m s0 s1 a0 a1 hm hl hv]
  rfl
theorem inE_bent (E : EndS) (k0 : 0 ≤ E.key) (k1 : E.key ≤ 18446744073709551615) (l : List Int) (hl : Byt l) (k : Nat) (v : Int) (hv : 0 ≤ v ∧ v ≤ 255) (hk : k < (sealL E.key l).length) (hne : v ≠ (sealL E.key l).getD k 0) : inE E ((sealL E.key l).set k v) = (([], 9), { E with forged := E.forged + 1 }) := by
  unfold inE
  rw [openL_bent E.key k0 k1 l hl k v hv hk hne]
  rfl
theorem outL_none (E : EndS) (h : E.waiting = []) (ho : E.owing = false) : outL E = [] := by
  unfold outL outK
  rw [h, ho]
  simp [outTo]
/-- The first message of the other end. -/
theorem pktIn_first (E : EndS) (m : List Int) (hw : E.waiting = []) (ha : E.acked = 0) (hd : E.delivered = 0) (hh : ∀ i, E.held i = none) (hc : E.cnt = 0) :
    (pktIn E 1 0 m).1 = ([m], 0) ∧ (pktIn E 1 0 m).2.forged = E.forged ∧ (pktIn E 1 0 m).2.waiting = [] := by
  obtain ⟨wi, ke, wa, ac, de, he, ow, fo, tt, cn⟩ := E
  simp only at hw ha hd hh hc
  subst hw ha hd hc
  unfold pktIn ackE owesE putE
  simp [hh, deliverN, stepD]
theorem xor_bent (a b : Int) (ha : 0 ≤ a ∧ a ≤ 255) (hb : 0 ≤ b ∧ b ≤ 255) : (0 ≤ bits .xor .u8 a (1 + b % 255) ∧ bits .xor .u8 a (1 + b % 255) ≤ 255) ∧ bits .xor .u8 a (1 + b % 255) ≠ a := by
  rw [u8_xor a (1 + b % 255) ha.1 (by omega) (by omega) (by omega)]
  have h1 : (a.toNat ^^^ (1 + b % 255).toNat) < 2 ^ 8 := Nat.xor_lt_two_pow (by omega) (by omega)
  refine ⟨by omega, fun h => ?_⟩
  have h2 : a.toNat ^^^ (1 + b % 255).toNat = a.toNat := by omega
  have h3 : (1 + b % 255).toNat = 0 := by
    have h4 : a.toNat ^^^ (a.toNat ^^^ (1 + b % 255).toNat) = a.toNat ^^^ a.toNat := by rw [h2]
    rw [← Nat.xor_assoc, Nat.xor_self, Nat.zero_xor] at h4
    exact h4
  omega
end Go.Proofs.Ytkgmoklifkojhaa
