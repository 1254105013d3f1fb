/- Decoding what encodes a review gives the review, whatever follows; no beginning decodes. Conditions: the review is valid. -/
import Derived.Test.YtjeecfjeooehhaaGreatDoorRvQ
set_option linter.unusedSimpArgs false
set_option linter.unusedVariables false
namespace Go.Proofs.YtjeecfjeooehhaaGreatDoor
open Go.RowKit
theorem drop_len {α : Type} (a b : List α) (k : Int) (h : k = (a.length : Int)) : (a ++ b).drop k.toNat = b := by
  rw [h, Int.toNat_natCast, List.drop_left]
theorem opsI_get {L : List Rid} {k : Nat} {x : Rid} (h : L[k]? = some x) (j : Nat) (hj : j < 3) : (opsI L)[3 * k + j]? = (opI x)[j]? := by
  have h1 := flatK_at opI 3 L (fun _ _ => rfl) k x h j hj
  rw [Nat.mul_comm] at h1
  exact h1
theorem ridsOf_opsI (L : List Rid) : ridsOf (opsI L) = L := by
  refine List.ext_getElem? fun k => ?_
  unfold ridsOf
  rw [List.getElem?_map, opsI_len, Nat.mul_div_cancel_left _ (by decide : 0 < 3)]
  rcases Nat.lt_or_ge k L.length with h | h
  · rw [List.getElem?_range h, Option.map_some]
    obtain ⟨x, hx⟩ : ∃ x, L[k]? = some x := ⟨_, List.getElem?_eq_getElem h⟩
    rw [hx]
    have e0 : (opsI L)[3 * k]? = some x.s := opsI_get hx 0 (by decide)
    have e1 : (opsI L)[3 * k + 1]? = some x.q := opsI_get hx 1 (by decide)
    have e2 : (opsI L)[3 * k + 2]? = some x.i := opsI_get hx 2 (by decide)
    unfold ridAt
    rw [List.getD_eq_getElem?_getD, List.getD_eq_getElem?_getD, List.getD_eq_getElem?_getD, e0, e1, e2]
    rfl
  · rw [List.getElem?_eq_none (by simpa using h), List.getElem?_eq_none h]
    rfl
theorem encL_cut (xs r : List Int) (hx : ∀ x ∈ xs, -9223372036854775808 ≤ x ∧ x ≤ 9223372036854775807) (hn : (xs.length : Int) ≤ 9223372036854775807) : decList getI (encL encInt xs ++ r) = (xs, ((encL encInt xs).length : Int), 0) :=
  decList_enc getI encInt xs r (fun x h r => getI_enc x r (hx x h).1 (hx x h).2) (fun x _ => by rw [encInt_length]; omega) hn
theorem read_enc {r : Rev} (hw : RevW r) (hm : r.mean.length = 16) (m : List Int) : readP (encR r ++ m) = some r := by
  obtain ⟨X1, hX1⟩ : ∃ X, X = encL encInt [r.shop, r.seq, r.day] := ⟨_, rfl⟩
  obtain ⟨X2, hX2⟩ : ∃ X, X = encInt (wdI r.wd) := ⟨_, rfl⟩
  obtain ⟨X3, hX3⟩ : ∃ X, X = encL encInt (opsI r.ops) := ⟨_, rfl⟩
  obtain ⟨X4, hX4⟩ : ∃ X, X = encL idD [r.mean] := ⟨_, rfl⟩
  obtain ⟨X5, hX5⟩ : ∃ X, X = encB r.sl := ⟨_, rfl⟩
  have hb : encR r ++ m = X1 ++ (X2 ++ (X3 ++ (X4 ++ (X5 ++ m)))) := by
    unfold encR
    rw [hX1, hX2, hX3, hX4, hX5]
    simp only [List.append_assoc]
  have hwd : -9223372036854775808 ≤ wdI r.wd ∧ wdI r.wd ≤ 9223372036854775807 := by unfold wdI; split <;> omega
  have c1 : cut1 (encR r ++ m) = ([r.shop, r.seq, r.day], (X1.length : Int), 0) := by
    unfold cut1
    rw [hb, hX1]
    refine encL_cut [r.shop, r.seq, r.day] _ (fun x hx => ?_) (by simp)
    simp only [List.mem_cons, List.not_mem_nil, or_false] at hx
    rcases hx with rfl | rfl | rfl
    · exact hw.shop
    · exact hw.seq
    · exact hw.day
  have r1 : rest1 (encR r ++ m) = X2 ++ (X3 ++ (X4 ++ (X5 ++ m))) := by
    unfold rest1
    rw [c1, hb]
    exact drop_len _ _ _ rfl
  have c2 : cut2 (encR r ++ m) = (wdI r.wd, (X2.length : Int), 0) := by
    unfold cut2
    rw [r1, hX2]
    exact getI_enc _ _ hwd.1 hwd.2
  have r2 : rest2 (encR r ++ m) = X3 ++ (X4 ++ (X5 ++ m)) := by
    unfold rest2
    rw [c2, r1]
    exact drop_len _ _ _ rfl
  have c3 : cut3 (encR r ++ m) = (opsI r.ops, (X3.length : Int), 0) := by
    unfold cut3
    rw [r2, hX3]
    refine encL_cut _ _ hw.ops ?_
    have := hw.many
    rw [opsI_len]
    omega
  have r3 : rest3 (encR r ++ m) = X4 ++ (X5 ++ m) := by
    unfold rest3
    rw [c3, r2]
    exact drop_len _ _ _ rfl
  have l4 : (X4.length : Int) = ((encInt (([r.mean].length : Nat) : Int)).length : Int) + 16 * (([r.mean].length : Nat) : Int) := by
    rw [hX4]
    unfold encL idD
    simp [hm]
  have c4 : cut4 (encR r ++ m) = ([r.mean], (X4.length : Int), 0) := by
    unfold cut4
    rw [r3, l4, hX4]
    exact decD_enc [r.mean] _ (fun d hd => by rw [List.mem_singleton.1 hd]; exact hm) (by simp)
  have r4 : rest4 (encR r ++ m) = X5 ++ m := by
    unfold rest4
    rw [c4, r3]
    exact drop_len _ _ _ rfl
  have c5 : cut5 (encR r ++ m) = (r.sl, (X5.length : Int), 0) := by
    unfold cut5
    rw [r4, hX5]
    exact decS_enc r.sl m (by have := hw.sls; omega)
  have hg : ¬ (bad1 (encR r ++ m) ∨ bad2 (encR r ++ m) ∨ bad3 (encR r ++ m) ∨ bad4 (encR r ++ m) ∨ bad5 (encR r ++ m)) := by
    unfold bad1 bad2 bad3 bad4 bad5
    rw [c1, c2, c3, c4, c5]
    rintro ((h | h) | h | (h | h) | (h | h) | h)
    · exact h rfl
    · exact h rfl
    · exact h rfl
    · exact h rfl
    · exact h (by show (opsI r.ops).length % 3 = 0; rw [opsI_len]; omega)
    · exact h rfl
    · exact h rfl
    · exact h rfl
  have hR : readP (encR r ++ m) = some (revAt (encR r ++ m)) := if_neg hg
  have hA : revAt (encR r ++ m) = ⟨r.shop, r.seq, r.day, decide (wdI r.wd = 1), ridsOf (opsI r.ops), r.mean, r.sl⟩ := by
    unfold revAt
    rw [c1, c2, c3, c4, c5]
    rfl
  have e : decide (wdI r.wd = 1) = r.wd := by unfold wdI; cases r.wd <;> rfl
  rw [hR, hA, e, ridsOf_opsI]
theorem read_mean {l : List Int} (hb : Byt l) {r : Rev} (h : readP l = some r) : r.mean.length = 16 ∧ Byt r.mean := by
  unfold readP at h
  split at h
  · cases h
  · rename_i hg
    have h4 : ¬ bad4 l := fun x => hg (Or.inr (Or.inr (Or.inr (Or.inl x))))
    unfold bad4 at h4
    have hb4 : Byt (rest3 l) := by unfold rest3 rest2 rest1; exact ((hb.drop _).drop _).drop _
    rcases decD_cases' (rest3 l) hb4 with ⟨hx, _⟩ | ⟨ds, u, hg2, _, _, hd⟩
    · exact absurd (Or.inl hx) h4
    · have e : cut4 l = (ds, (u : Int), 0) := hg2
      rw [e] at h4
      have h1 : ds.length = 1 := Classical.byContradiction fun x => h4 (Or.inr x)
      obtain ⟨d, rfl⟩ : ∃ d, ds = [d] := by
        match ds, h1 with
        | [d], _ => exact ⟨d, rfl⟩
      rw [← Option.some.inj h]
      show ((cut4 l).1.getD 0 []).length = 16 ∧ Byt ((cut4 l).1.getD 0 [])
      rw [e]
      exact hd d (List.mem_singleton.2 rfl)
theorem preB_app (a m : List Int) : preB (a ++ m) a = true := by
  unfold preB
  rw [List.take_left]
  exact decide_eq_true rfl
/-- The round trip. -/
theorem dec_enc {r : Rev} (hv : encE r = 0) (hm : r.mean.length = 16) (m : List Int) : decF (readP (encR r ++ m)) (encR r ++ m) = some r := by
  rw [read_enc (revW_of hv) hm m]
  unfold decF
  rw [Option.bind_some, if_pos ⟨hv, preB_app _ _⟩]
/-- No beginning decodes. -/
theorem dec_short {r : Rev} (hv : encE r = 0) (hm : r.mean.length = 16) (hb : Byt r.mean) (k : Nat) (hk : k < (encR r).length) : decF (readP ((encR r).take k)) ((encR r).take k) = none := by
  have hby : Byt (encR r) := encR_byt (revW_of hv) hm hb
  cases hd : decF (readP ((encR r).take k)) ((encR r).take k) with
  | none => rfl
  | some r2 =>
    exfalso
    unfold decF at hd
    obtain ⟨r3, h3, h4⟩ := Option.bind_eq_some_iff.1 hd
    split at h4
    · rename_i h5
      rw [Option.some.injEq] at h4
      subst h4
      have hm2 := (read_mean (hby.take k) h3).1
      have hp := of_decide_eq_true (h5.2 : decide (((encR r).take k).take (encR r3).length = encR r3) = true)
      have hlen : (encR r3).length ≤ k := by
        have := congrArg List.length hp
        rw [List.length_take, List.length_take] at this
        omega
      have e : encR r = encR r3 ++ (encR r).drop (encR r3).length := by
        conv => lhs; rw [← List.take_append_drop (encR r3).length (encR r)]
        rw [List.take_take, Nat.min_eq_left hlen] at hp
        rw [hp]
      have h6 := read_enc (revW_of hv) hm []
      rw [List.append_nil, e, read_enc (revW_of h5.1) hm2, Option.some.injEq] at h6
      rw [h6] at hlen
      omega
    · cases h4
end Go.Proofs.YtjeecfjeooehhaaGreatDoor
