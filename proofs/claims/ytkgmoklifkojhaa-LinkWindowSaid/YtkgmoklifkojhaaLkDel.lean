/- slices.Delete at [][]byte: the first messages are left out, in place. Condition: 0 < n, n at most the length. -/
import Derived.Test.YtkgmoklifkojhaaLkSend
import Derived.Deep.RegionLaw
import Derived.Lib.SliceRun
set_option linter.unusedSimpArgs false
set_option linter.unusedVariables false
namespace Go.Proofs.Ytkgmoklifkojhaa
open Go.RowKit
theorem blk_setCells {g : Nat} {t : TypeId} : ∀ (vs : List Value) (o : Nat) (w : World) (cs : List Value), Blk w g t cs → o + vs.length ≤ cs.length → Blk (w.setCells g o vs) g t (cs.take o ++ vs ++ cs.drop (o + vs.length))
  | [], o, w, cs, h, _ => by simpa [World.setCells] using h
  | v :: vs, o, w, cs, h, hl => by
    simp only [List.length_cons] at hl
    have h1 := blk_setCells vs (o + 1) (w.setCell ⟨g, o, none⟩ v) (cs.set o v) (h.set o v) (by rw [List.length_set]; omega)
    have e : (cs.set o v).take (o + 1) ++ vs ++ (cs.set o v).drop (o + 1 + vs.length) = cs.take o ++ (v :: vs) ++ cs.drop (o + (v :: vs).length) := by
      apply List.ext_getElem?
      intro j
      simp only [List.getElem?_append, List.length_append, List.length_take, List.length_set, List.getElem?_take, List.getElem?_drop, List.getElem?_set, List.length_cons]
      by_cases h1 : j < o
      · rw [if_pos (by omega), if_pos (by omega), if_pos (by omega), if_neg (by omega), if_pos (by omega), if_pos (by omega), if_pos (by omega)]
      · by_cases h2 : j = o
        · subst h2
          rw [if_pos (by omega), if_pos (by omega), if_pos (by omega), if_pos rfl, if_pos (by omega), if_pos (by omega), if_neg (by omega), show j - min j cs.length = 0 by omega]
          rfl
        · by_cases h3 : j < o + 1 + vs.length
          · rw [if_pos (by omega), if_neg (by omega), if_pos (by omega), if_neg (by omega), show j - min o cs.length = (j - min (o + 1) cs.length) + 1 by omega]
            rfl
          · rw [if_neg (by omega), if_neg (by omega), if_neg (by omega)]
            congr 1
            omega
    rw [e] at h1
    exact h1
theorem kept_setCells {F : Nat → Prop} {g : Nat} (hg : F g) : ∀ (vs : List Value) (o : Nat) (w : World), Kept F w (w.setCells g o vs)
  | [], _, w => Kept.refl F w
  | v :: vs, o, w => (Kept.setCell (p := ⟨g, o, none⟩) w hg v).trans (kept_setCells hg vs (o + 1) _)
set_option maxHeartbeats 4000000 in
set_option maxRecDepth 1000000 in
theorem delete_any (w : World) (b0 : Nat) (WA : Option Addr) (nw wc : Nat) (vs : List Value) (n : Nat) (ho : w.ownsRow b0 33 1 (.slice WA nw wc) nw vs) (h1 : ∀ u ∈ vs, u.oneCell' = true) (hn : 0 < n) (hnw : n ≤ nw) (h10 : nw ≤ 1000000000) :
    Calls Try.prog 37 #[.slice WA nw wc, .int .i64 0, .int .i64 n] w fun e w' => e = .returned (.slice WA (nw - n) wc) ∧ w'.ownsRow b0 33 1 (.slice WA (nw - n) wc) (nw - n) (vs.drop n) ∧ w.grownBy w' (Value.slice WA nw wc).ownBlock := by
  obtain ⟨i0, hi, hz0, hz1, hz2⟩ := info_parts u8_bytes
  rcases ho.2 with ⟨_, h2⟩ | ⟨g, cap, cur, hv, hb0, hg, hcap, hm, hcs, htk⟩
  · omega
  injection hv with hv1 hv2 hv3
  subst hv1; subst hv3
  have hlv : vs.length = nw := by simpa using ho.1
  rw [Nat.mul_one] at hcs htk
  have hB : Blk w.drew g 33 cur.toList := by unfold Blk; rw [Array.toArray_toList]; exact hg
  have hcl : cur.toList.length = wc := by simpa using hcs
  simp only [maxLen] at hm
  obtain ⟨news, hnews⟩ : ∃ news, news = vs.drop n := ⟨_, rfl⟩
  have hlen : news.length = nw - n := by rw [hnews, List.length_drop, hlv]
  have hat : ∀ j, j < wc → ((w.drew.cell? ⟨g, j, none⟩).isSome = true ∧ w.drew.frozen? ⟨g, j, none⟩ = false) := fun j hj => ⟨by rw [hB.cell j, List.getElem?_eq_getElem (by omega)]; rfl, hB.frozen j⟩
  obtain ⟨A, hA, hsrc⟩ : ∃ A : Addr, (if wc = n then some (⟨g, 0, none⟩ : Addr) else some ⟨g, n, none⟩) = some A ∧ Hid (∀ t u, news[t]? = some u → w.drew.cell? (A.add t) = some u) := by
    by_cases h : wc = n
    · refine ⟨⟨g, 0, none⟩, by simp [h], Lib.hid (fun t u hu => ?_)⟩
      have h0 : news.length = 0 := by omega
      rw [List.length_eq_zero_iff.1 h0] at hu
      simp at hu
    · refine ⟨⟨g, n, none⟩, by simp [h], Lib.hid (fun t u hu => ?_)⟩
      have e : (⟨g, n, none⟩ : Addr).add t = ⟨g, n + t, none⟩ := by cases t <;> simp [Addr.add]
      rw [hnews, List.getElem?_drop] at hu
      rw [e, hB.cell, ← hu, ← htk, List.getElem?_take, if_pos]
      have := (List.getElem?_eq_some_iff.1 hu).1
      omega
  have s1 : Hid (news.length = (nw - n) * 1) := Lib.hid (by rw [Nat.mul_one]; exact hlen)
  have s2 : Hid (∀ u ∈ news, u.oneCell' = true) := Lib.hid (fun u hu => h1 u (by rw [hnews] at hu; exact List.mem_of_mem_drop hu))
  have s3 : Hid (∀ t, t < news.length → (w.drew.cell? ⟨g, 0 + 0 * 1 + t, none⟩).isSome = true ∧ w.drew.frozen? ⟨g, 0 + 0 * 1 + t, none⟩ = false) := Lib.hid (fun t ht => by
    rw [show 0 + 0 * 1 + t = t by omega]
    exact hat t (by omega))
  obtain ⟨W1, hW1⟩ : ∃ W1, W1 = w.drew.setCells g (0 + 0 * 1) news := ⟨_, rfl⟩
  have hB1 : Blk W1 g 33 (news ++ cur.toList.drop (nw - n)) := by
    have := blk_setCells news 0 w.drew cur.toList hB (by omega)
    rw [hW1]
    simpa [hlen] using this
  have hK1 : Kept (fun b => b = g) w W1 := by rw [hW1]; exact (Kept.drew _ w).trans (kept_setCells (F := fun b => b = g) rfl _ _ _)
  have hl1 : (news ++ cur.toList.drop (nw - n)).length = wc := by rw [List.length_append, List.length_drop]; omega
  have hcl : ∀ ty, (Builtin.clear_ #[28] ty #[.slice (some ⟨g, nw - n, none⟩) (nw - (nw - n)) (wc - (nw - n))]).run Try.prog W1 = .ok (.tuple #[]) (W1.setCells g (nw - n) (List.replicate (nw - (nw - n)) (.slice none 0 0))) :=
    fun ty => Lib.run_clear_slice W1 _ _ ty _ Try.underlying28 (fun W => by kernel_rfl) rfl rfl g (nw - n) _ _ (by omega) (fun t ht => by rw [hB1.cell, List.getElem?_eq_getElem (by omega)]; rfl) (fun t ht => hB1.frozen _)
  have X : Hid (Blk W1 g 33 (news ++ cur.toList.drop (nw - n)) ∧ Kept (fun b => b = g) w W1) := Lib.hid ⟨hB1, hK1⟩
  have hW : Hid (W1 = w.drew.setCells g (0 + 0 * 1) news) := Lib.hid hW1
  have Y : Hid (b0 ≤ g ∧ news = vs.drop n ∧ news.length = nw - n ∧ cur.toList.length = wc) := Lib.hid ⟨hb0, hnews, hlen, by simpa using hcs⟩
  have hnc : n ≤ wc := by omega
  have HLV := Lib.hid hlv
  have hn0 : ¬ ((0 : Int) = n) := by omega
  clear hW1 hB1 hK1 hB hat hlen hnews htk hcs hg ho h1 hlv hl1 hb0
  go_enter Try.func37, Try.ntmps37
  go_wp2_with fail
  go_region_law (refine step_append_room rfl (.tmp 22) (.tmp 25) 28 rfl 33 i0 1 Try.underlying28 hi hz1 g 0 0 wc (by simp [Act.eval, Act.put]) A (nw - n) (wc - n) news (by simp [Act.eval, Act.put]) s1.out hsrc.out s2.out (by omega) s3.out ?_; rw [← hW.out])
  go_wp2
  go_ret
  obtain ⟨hb0, hnews, hlen, hcs⟩ := Y.out
  obtain ⟨hB1, hK1⟩ := X.out
  have hl1 : (news ++ cur.toList.drop (nw - n)).length = wc := by rw [List.length_append, List.length_drop]; omega
  have hB2 := blk_setCells (List.replicate (nw - (nw - n)) (Value.slice none 0 0)) (nw - n) W1 _ hB1 (by rw [List.length_replicate]; omega)
  have hK2 : Kept (fun b => b = g) w (W1.setCells g (nw - n) (List.replicate (nw - (nw - n)) (.slice none 0 0))) := hK1.trans (kept_setCells (F := fun b => b = g) rfl _ _ _)
  refine ⟨rfl, ⟨by rw [List.length_drop, HLV.out, Nat.mul_one], Or.inr ⟨g, wc, _, rfl, hb0, hB2, by omega, by simp only [maxLen]; omega, ?_, ?_⟩⟩, ⟨hK2.os, hK2.tape, hK2.output, hK2.size, fun k hk hf => hK2.block k hk (fun h => hf (by rw [h]; rfl))⟩⟩
  · rw [List.size_toArray, List.length_append, List.length_append, List.length_take, List.length_replicate, List.length_drop]
    omega
  · rw [Nat.mul_one, List.append_assoc, List.take_append_of_le_length (by rw [List.length_take]; omega), List.take_take, Nat.min_self, List.take_append_of_le_length (by omega), List.take_of_length_le (by omega), hnews]
end Go.Proofs.Ytkgmoklifkojhaa
