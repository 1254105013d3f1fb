/- One changed byte changes the seal, or is not the seal. No condition. -/
import Derived.Test.YtkgmoklifkojhaaLkSmall
import Derived.Laws.BitsAllLaws
set_option linter.unusedSimpArgs false
set_option linter.unusedVariables false
namespace Go.Proofs.Ytkgmoklifkojhaa
open Go.RowKit
theorem xor_canc {a b c : Nat} (h : a ^^^ c = b ^^^ c) : a = b := by
  have h2 : (a ^^^ c) ^^^ c = (b ^^^ c) ^^^ c := by rw [h]
  rw [Nat.xor_assoc, Nat.xor_assoc, Nat.xor_self, Nat.xor_zero, Nat.xor_zero] at h2
  exact h2
theorem mul_canc {a b : Nat} (ha : a < 18446744073709551616) (hb : b < 18446744073709551616) (h : a * 1099511628211 % 18446744073709551616 = b * 1099511628211 % 18446744073709551616) : a = b := by
  have h2 : (a * 1099511628211 % 18446744073709551616) * 14886173955864302971 % 18446744073709551616 = (b * 1099511628211 % 18446744073709551616) * 14886173955864302971 % 18446744073709551616 := by rw [h]
  rw [Nat.mod_mul_mod, Nat.mod_mul_mod, Nat.mul_assoc, Nat.mul_assoc] at h2
  have e : ∀ x : Nat, x < 18446744073709551616 → x * (1099511628211 * 14886173955864302971) % 18446744073709551616 = x := fun x hx => by
    rw [Nat.mul_mod, show (1099511628211 * 14886173955864302971) % 18446744073709551616 = 1 from by decide, Nat.mul_one, Nat.mod_mod, Nat.mod_eq_of_lt hx]
  rw [e a ha, e b hb] at h2
  exact h2
theorem fnv1_nat (a c : Nat) (ha : a < 18446744073709551616) (hc : c < 18446744073709551616) : fnv1 (a : Int) (c : Int) = (((a ^^^ c) * 1099511628211 % 18446744073709551616 : Nat) : Int) := by
  unfold fnv1
  rw [u64_xor_nat a c ha hc]
  simp [IntKind.wrap, IntKind.bits, IntKind.signed]
theorem nat_of {x : Int} (h0 : 0 ≤ x) (h1 : x ≤ 18446744073709551615) : ∃ a : Nat, a < 18446744073709551616 ∧ x = a := ⟨x.toNat, by omega, by omega⟩
theorem fnv1_inj {a b c d : Int} (ha : 0 ≤ a ∧ a ≤ 18446744073709551615) (hb : 0 ≤ b ∧ b ≤ 18446744073709551615) (hc : 0 ≤ c ∧ c ≤ 18446744073709551615) (hd : 0 ≤ d ∧ d ≤ 18446744073709551615) (h : fnv1 a c = fnv1 b d) : bits .xor .u64 a c = bits .xor .u64 b d := by
  obtain ⟨a, ka, rfl⟩ := nat_of ha.1 ha.2
  obtain ⟨b, kb, rfl⟩ := nat_of hb.1 hb.2
  obtain ⟨c, kc, rfl⟩ := nat_of hc.1 hc.2
  obtain ⟨d, kd, rfl⟩ := nat_of hd.1 hd.2
  rw [fnv1_nat a c ka kc, fnv1_nat b d kb kd] at h
  rw [u64_xor_nat a c ka kc, u64_xor_nat b d kb kd]
  have h2 := mul_canc (a := a ^^^ c) (b := b ^^^ d) (Nat.xor_lt_two_pow (n := 64) ka kc) (Nat.xor_lt_two_pow (n := 64) kb kd) (by exact_mod_cast h)
  rw [h2]
theorem xor_inj_l {a b c : Int} (ha : 0 ≤ a ∧ a ≤ 18446744073709551615) (hb : 0 ≤ b ∧ b ≤ 18446744073709551615) (hc : 0 ≤ c ∧ c ≤ 18446744073709551615) (h : bits .xor .u64 a c = bits .xor .u64 b c) : a = b := by
  obtain ⟨a, ka, rfl⟩ := nat_of ha.1 ha.2
  obtain ⟨b, kb, rfl⟩ := nat_of hb.1 hb.2
  obtain ⟨c, kc, rfl⟩ := nat_of hc.1 hc.2
  rw [u64_xor_nat a c ka kc, u64_xor_nat b c kb kc] at h
  have h2 : a ^^^ c = b ^^^ c := by exact_mod_cast h
  rw [xor_canc h2]
theorem xor_inj_r {a c d : Int} (ha : 0 ≤ a ∧ a ≤ 18446744073709551615) (hc : 0 ≤ c ∧ c ≤ 18446744073709551615) (hd : 0 ≤ d ∧ d ≤ 18446744073709551615) (h : bits .xor .u64 a c = bits .xor .u64 a d) : c = d := by
  obtain ⟨a, ka, rfl⟩ := nat_of ha.1 ha.2
  obtain ⟨c, kc, rfl⟩ := nat_of hc.1 hc.2
  obtain ⟨d, kd, rfl⟩ := nat_of hd.1 hd.2
  rw [u64_xor_nat a c ka kc, u64_xor_nat a d ka kd, Nat.xor_comm a c, Nat.xor_comm a d] at h
  have h2 : c ^^^ a = d ^^^ a := by exact_mod_cast h
  rw [xor_canc h2]
theorem byt64 {x : Int} (h : 0 ≤ x ∧ x ≤ 255) : 0 ≤ x ∧ x ≤ 18446744073709551615 := ⟨h.1, by omega⟩
theorem fnv_inj : ∀ (l : List Int) (a b : Int), Byt l → 0 ≤ a ∧ a ≤ 18446744073709551615 → 0 ≤ b ∧ b ≤ 18446744073709551615 → fnv a l = fnv b l → a = b
  | [], a, b, _, _, _, h => h
  | c :: r, a, b, hl, ha, hb, h => by
    have hc := byt64 (hl c (List.mem_cons_self ..))
    have h2 := fnv_inj r _ _ (fun x hx => hl x (List.mem_cons_of_mem _ hx)) (fnv1_bd a c) (fnv1_bd b c) h
    exact xor_inj_l ha hb hc (fnv1_inj ha hb hc hc h2)
theorem fnv_set_ne : ∀ (l : List Int) (k : Nat) (v h : Int), Byt l → 0 ≤ v ∧ v ≤ 255 → 0 ≤ h ∧ h ≤ 18446744073709551615 → k < l.length → v ≠ l.getD k 0 → fnv h (l.set k v) ≠ fnv h l
  | [], k, v, h, _, _, _, hk, _ => by simp at hk
  | c :: r, 0, v, h, hl, hv, hh, _, hne => by
    intro he
    have hc := hl c (List.mem_cons_self ..)
    have h2 := fnv_inj r _ _ (fun x hx => hl x (List.mem_cons_of_mem _ hx)) (fnv1_bd h v) (fnv1_bd h c) he
    exact hne (xor_inj_r hh (byt64 hv) (byt64 hc) (fnv1_inj hh hh (byt64 hv) (byt64 hc) h2))
  | c :: r, k + 1, v, h, hl, hv, hh, hk, hne => fnv_set_ne r k v _ (fun x hx => hl x (List.mem_cons_of_mem _ hx)) hv (fnv1_bd h c) (by simpa using hk) (by simpa using hne)
theorem sealB_inj {key : Int} {l m : List Int} (h : sealB key l = sealB key m) (ha : 0 ≤ fnv (seedL key) l ∧ fnv (seedL key) l ≤ 18446744073709551615) (hb : 0 ≤ fnv (seedL key) m ∧ fnv (seedL key) m ≤ 18446744073709551615) : fnv (seedL key) l = fnv (seedL key) m := by
  unfold sealB at h
  generalize fnv (seedL key) l = a at *
  generalize fnv (seedL key) m = b at *
  have hi : ∀ i, i < 8 → a / 2 ^ (8 * i) % 256 = b / 2 ^ (8 * i) % 256 := fun i hi => by
    have := congrArg (fun x => x[i]?) h
    simpa [hi] using this
  have h0 := hi 0 (by decide); have h1 := hi 1 (by decide); have h2 := hi 2 (by decide); have h3 := hi 3 (by decide)
  have h4 := hi 4 (by decide); have h5 := hi 5 (by decide); have h6 := hi 6 (by decide); have h7 := hi 7 (by decide)
  simp only [Nat.mul_zero, Nat.reduceMul, Int.reducePow] at h0 h1 h2 h3 h4 h5 h6 h7
  omega
theorem openL_bent (key : Int) (k0 : 0 ≤ key) (k1 : key ≤ 18446744073709551615) (l : List Int) (hl : Byt l) (k : Nat) (v : Int) (hv : 0 ≤ v ∧ v ≤ 255) (hk : k < (sealL key l).length) (hne : v ≠ (sealL key l).getD k 0) : openL key ((sealL key l).set k v) = ([], 9) := by
  have hs := seedL_bd key
  have hsl := sealB_length key l
  rw [sealL_length] at hk
  unfold openL
  rw [if_neg (by rw [List.length_set, sealL_length]; omega), if_neg]
  rw [List.length_set, sealL_length, show l.length + 8 - 8 = l.length by omega]
  unfold sealL at hne ⊢
  by_cases hkl : k < l.length
  · rw [List.set_append_left _ _ hkl, List.take_append_of_le_length (by rw [List.length_set]; exact Nat.le_refl _), List.take_of_length_le (by rw [List.length_set]; exact Nat.le_refl _), List.drop_append_of_le_length (by rw [List.length_set]; exact Nat.le_refl _), List.drop_of_length_le (by rw [List.length_set]; exact Nat.le_refl _), List.nil_append]
    intro h
    refine fnv_set_ne l k v (seedL key) hl hv hs hkl ?_ (sealB_inj h (fnv_bd _ hs.1 hs.2 _) (fnv_bd _ hs.1 hs.2 _))
    rwa [List.getD_eq_getElem?_getD, List.getElem?_append_left hkl, ← List.getD_eq_getElem?_getD] at hne
  · rw [List.set_append_right _ _ (by omega), List.take_append_of_le_length (Nat.le_refl _), List.take_of_length_le (Nat.le_refl _), List.drop_append_of_le_length (Nat.le_refl _), List.drop_of_length_le (Nat.le_refl _), List.nil_append]
    intro h
    rw [List.getD_eq_getElem?_getD, List.getElem?_append_right (by omega)] at hne
    have h2 : (sealB key l)[k - l.length]? = ((sealB key l).set (k - l.length) v)[k - l.length]? := congrArg (fun x : List Int => x[k - l.length]?) h
    rw [List.getElem?_set_self (by omega)] at h2
    rw [h2] at hne
    exact hne rfl
end Go.Proofs.Ytkgmoklifkojhaa
