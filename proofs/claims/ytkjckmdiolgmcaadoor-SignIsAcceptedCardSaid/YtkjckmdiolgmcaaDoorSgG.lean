/- Plain law: what Sign makes, Verify takes back to the public key; and the numbers of the sanity. No program. -/
import Derived.Test.YtkjckmdiolgmcaaDoorSgY
import Derived.Test.YtkjckmdiolgmcaaDoorSgJ
set_option linter.unusedSimpArgs false
set_option linter.unusedVariables false
namespace Go.Proofs.YtkjckmdiolgmcaaDoor
open Go.RowKit
theorem flatD_congr {f g : Nat → List Int} {n : Nat} (h : ∀ c, c < n → f c = g c) : flatD f n = flatD g n := by
  induction n with
  | zero => rfl
  | succ n ih => rw [flatD_succ, flatD_succ, ih (fun c hc => h c (by omega)), h n (by omega)]
/-- A signature's rest. -/
def sigX (seed : ByteArray) (h i : Nat) (d : List Int) : List Int := flatD (sgV seed i d) 68 ++ flatD (sgP seed i) h
theorem sgP_dig (seed : ByteArray) (i l : Nat) : Dig (sgP seed i l) := nodeV_dig _ _ _
theorem sigX_len (seed : ByteArray) (h i : Nat) (d : List Int) : (sigX seed h i d).length = (68 + h) * 16 := by
  unfold sigX
  rw [List.length_append, flatD_len _ (fun j _ => sgV_dig seed i d j), flatD_len _ (fun j _ => sgP_dig seed i j)]
  omega
theorem sigX_byt (seed : ByteArray) (h i : Nat) (d : List Int) : Byt (sigX seed h i d) := byt_app (flatD_byt _ (fun j _ => sgV_dig seed i d j)) (flatD_byt _ (fun j _ => sgP_dig seed i j))
theorem valX_lo (seed : ByteArray) (h i : Nat) (d : List Int) {c : Nat} (hc : c < 68) : valD (sigX seed h i d) c = sgV seed i d c := valD_flat _ 68 c _ (fun j _ => sgV_dig seed i d j) hc
theorem valX_hi (seed : ByteArray) (h i : Nat) (d : List Int) {l : Nat} (hl : l < h) : valD (sigX seed h i d) (68 + l) = sgP seed i l := by
  have e := valD_flat (sgP seed i) h l [] (fun j _ => sgP_dig seed i j) hl
  rw [List.append_nil] at e
  rw [← e]
  unfold valD sigX
  have hl2 := flatD_len (sgV seed i d) (t := 68) (fun j _ => sgV_dig seed i d j)
  rw [show 16 * (68 + l) = (flatD (sgV seed i d) 68).length + 16 * l by rw [hl2]; omega, ← List.drop_drop, List.drop_left]
theorem xor_one (q : Nat) : q ^^^ 1 = if q % 2 = 1 then q - 1 else q + 1 := by
  have h0 : (q ^^^ 1) / 2 = q / 2 := by
    rw [Nat.xor_div_two]
    simp
  have h1 : decide ((q ^^^ 1) % 2 = 1) = (decide (q % 2 = 1) ^^ true) := by
    rw [← Nat.testBit_zero, Nat.testBit_xor, Nat.testBit_zero]
    rfl
  by_cases h : q % 2 = 1
  · rw [if_pos h]
    rw [decide_eq_true h] at h1
    have h2 := of_decide_eq_false h1
    omega
  · rw [if_neg h]
    rw [decide_eq_false h] at h1
    have h2 := of_decide_eq_true h1
    omega
theorem climb_tree (seed : ByteArray) (h i : Nat) (d : List Int) : ∀ l, l ≤ h → climbD (sigX seed h i d) i (nodeV seed 0 i) l = nodeV seed l (i / 2 ^ l)
  | 0, _ => by simp [climbD]
  | l + 1, hl => by
    unfold climbD
    rw [climb_tree seed h i d l (by omega), valX_hi seed h i d (by omega)]
    unfold sgP sib
    have e : i / 2 ^ (l + 1) = i / 2 ^ l / 2 := by rw [Nat.pow_succ, Nat.div_div_eq_div_mul]
    obtain ⟨q, hq⟩ : ∃ q, q = i / 2 ^ l := ⟨_, rfl⟩
    rw [e, ← hq]
    obtain ⟨u, hu⟩ : ∃ u, u = q / 2 := ⟨_, rfl⟩
    rw [← hu]
    by_cases hodd : q % 2 = 1
    · rw [if_pos hodd]
      have e1 : q ^^^ 1 = 2 * u := by
        rw [xor_one, if_pos hodd]
        omega
      rw [e1, show q = 2 * u + 1 by omega]
      rfl
    · rw [if_neg hodd]
      have e1 : q ^^^ 1 = 2 * u + 1 := by
        rw [xor_one, if_neg hodd]
        omega
      rw [e1, show q = 2 * u by omega]
      rfl
theorem leafD_congr {f g : Nat → List Int} (h : ∀ c, c < 68 → f c = g c) : leafD f = leafD g := by unfold leafD; rw [flatD_congr h]
theorem accept (seed msg : ByteArray) (h i : Nat) (hi : i < 2 ^ h) : rootD (nodeV seed h 0) h i msg (sigX seed h i (sgM seed h i msg)) = nodeV seed h 0 := by
  unfold rootD
  have e : leafD (endD (i : Int) (sigX seed h i (sgM seed h i msg)) (dgN (digestD (nodeV seed h 0) (i : Int) msg))) = nodeV seed 0 i := by
    show _ = leafD (fun c => topD seed (i : Int) (c : Int))
    exact leafD_congr fun c hc => end_top seed (i : Int) _ _ c (dgN_le _ _) (valX_lo seed h i _ hc)
  rw [e, climb_tree seed h i _ h (Nat.le_refl _), Nat.div_eq_of_lt hi]
theorem signL_X (seed : ByteArray) (h i : Nat) (msg : ByteArray) : signL seed h i msg = encInt (i : Int) ++ sigX seed h i (sgM seed h i msg) := by
  unfold signL sigX
  rw [List.append_assoc]
/-! The numbers. -/
theorem flatD_nat {val : Nat → List Int} (f : Nat → List Nat) : ∀ n, (∀ c, c < n → val c = natI (f c)) → flatD val n = natI ((List.range n).map f).flatten
  | 0, _ => rfl
  | n + 1, h => by
    rw [flatD_succ, flatD_nat f n (fun c hc => h c (by omega)), h n (by omega), List.range_succ, List.map_append, List.flatten_append, natI_app]
    simp
theorem leafD_nat {val : Nat → List Int} (f : Nat → List Nat) (F : List (List Nat)) (v : List Nat) (h : ∀ c, c < 68 → val c = natI (f c) ∧ Dig (val c)) (hF : (List.range 68).map f = F) (hv : leafN F.flatten = v) : leafD val = natI v ∧ DgN v := by
  have e := flatD_nat f 68 (fun c hc => (h c hc).1)
  rw [hF] at e
  have hb := flatD_byt val (t := 68) (fun j hj => (h j hj).2)
  have hl := flatD_len val (t := 68) (fun j hj => (h j hj).2)
  rw [e] at hb hl
  rw [natI_len] at hl
  obtain ⟨e1, e2⟩ := leafN_eq (byN_of hb) (by omega)
  unfold leafD
  rw [e, ← hv]
  exact ⟨e1, e2⟩
theorem node00 : nodeV seed5 0 0 = natI leaf0N ∧ DgN leaf0N := leafD_nat (topN 0) tops0_l leaf0N (fun c hc => ⟨(topN_eq 0 c (by decide) (by omega)).1, topD_dig _ _ _⟩) tops0_e leaf0_e
theorem node01 : nodeV seed5 0 1 = natI leaf1N ∧ DgN leaf1N := leafD_nat (topN 1) tops1_l leaf1N (fun c hc => ⟨(topN_eq 1 c (by decide) (by omega)).1, topD_dig _ _ _⟩) tops1_e leaf1_e
theorem node10 : nodeV seed5 1 0 = natI rootN ∧ DgN rootN := by
  obtain ⟨e1, e2⟩ := nodeN_eq node00.2 node01.2
  rw [root_e] at e1 e2
  refine ⟨?_, e2⟩
  rw [← e1, ← node00.1, ← node01.1]
  rfl
theorem dm_nat : digestD (nodeV seed5 1 0) 1 (sB [109]) = natI dmN := by
  rw [node10.1, ← dm_e]
  exact (digestN_eq node10.2 1 (by decide) (ByN.of_all (by decide)) (by decide)).1
theorem dn_nat : digestD (nodeV seed5 1 0) 1 (sB [110]) = natI dnN := by
  rw [node10.1, ← dn_e]
  exact (digestN_eq node10.2 1 (by decide) (ByN.of_all (by decide)) (by decide)).1
theorem d0_nat : digestD (nodeV seed5 1 0) 0 (sB [109]) = natI d0N := by
  rw [node10.1, ← d0_e]
  exact (digestN_eq node10.2 0 (by decide) (ByN.of_all (by decide)) (by decide)).1
theorem natI_inj {a b : List Nat} (h : natI a = natI b) : a = b := by
  unfold natI at h
  exact (List.map_inj_right (fun x y e => by omega)).1 h
theorem dig_ne : ¬ digestD (nodeV seed5 1 0) 1 (sB [109]) = digestD (nodeV seed5 1 0) 0 (sB [109]) := by
  rw [dm_nat, d0_nat]
  exact fun h => d0_ne (natI_inj h)
set_option maxRecDepth 100000 in
theorem fm_e : digL (natI dmN) = natI fm := by decide +kernel
set_option maxRecDepth 100000 in
theorem fn_e : digL (natI dnN) = natI fn := by decide +kernel
theorem dgN_nat {d : List Nat} {f : List Nat} (h : digL (natI d) = natI f) (c : Nat) : dgN (natI d) c = f.getD c 0 := by
  unfold dgN
  rw [h, natI_get]
  rfl
theorem wrong_root : ¬ rootD (nodeV seed5 1 0) 1 1 (sB [110]) (sigX seed5 1 1 (sgM seed5 1 1 (sB [109]))) = nodeV seed5 1 0 := by
  have hm : sgM seed5 1 1 (sB [109]) = natI dmN := dm_nat
  rw [hm]
  have hE : leafD (endD ((1 : Nat) : Int) (sigX seed5 1 1 (natI dmN)) (dgN (digestD (nodeV seed5 1 0) ((1 : Nat) : Int) (sB [110])))) = natI leafE ∧ DgN leafE := by
    have hn : digestD (nodeV seed5 1 0) ((1 : Nat) : Int) (sB [110]) = natI dnN := dn_nat
    rw [hn]
    refine leafD_nat (fun c => endN 1 c (fm.getD c 0) (fn.getD c 0)) ends1_l leafE (fun c hc => ?_) ends1_e leafE_e
    have e1 := valX_lo seed5 1 1 (natI dmN) hc
    have h1 := dgN_nat fm_e c
    have h2 := dgN_nat fn_e c
    have b1 := dgN_le (natI dmN) c
    have b2 := dgN_le (natI dnN) c
    have e2 := (endN_eq 1 c (fm.getD c 0) (fn.getD c 0) (by decide) (by omega) (by omega) (by omega)).1
    refine ⟨?_, endD_dig (by rw [e1]; exact sgV_dig _ _ _ _)⟩
    rw [← e2]
    unfold endD
    rw [e1, h2]
    unfold sgV
    rw [h1]
  obtain ⟨e1, e2⟩ := nodeN_eq node00.2 hE.2
  rw [rootE_e] at e1
  have hr : rootD (nodeV seed5 1 0) 1 1 (sB [110]) (sigX seed5 1 1 (natI dmN)) = natI rootE := by
    unfold rootD
    rw [hE.1]
    have hv := valX_hi seed5 1 1 (natI dmN) (show 0 < 1 by decide)
    show (if 1 / 2 ^ 0 % 2 = 1 then nodeD (valD (sigX seed5 1 1 (natI dmN)) (68 + 0)) (natI leafE) else nodeD (natI leafE) (valD (sigX seed5 1 1 (natI dmN)) (68 + 0))) = natI rootE
    rw [if_pos (by decide), hv]
    have hs : sgP seed5 1 0 = natI leaf0N := node00.1
    rw [hs]
    exact e1
  rw [hr, node10.1]
  exact fun h => rootE_ne (natI_inj h)
end Go.Proofs.YtkjckmdiolgmcaaDoor
