/- The walks of the reference's comparisons of lists: bytes, integers, texts. No condition. -/
import Derived.Test.YtkgmoklifkojhaaDecA
import Derived.Deep.QuietTactic
import Derived.BigQuiet
namespace Go.Proofs.Ytkgmoklifkojhaa
open Go.RowKit
theorem getD_ext {α : Type} {l m : List α} (d : α) (h : l.length = m.length) (hj : ∀ j, j < l.length → l.getD j d = m.getD j d) : l = m := by
  refine List.ext_getElem? fun i => ?_
  by_cases hi : i < l.length
  · have := hj i hi
    rw [List.getD_eq_getElem?_getD, List.getD_eq_getElem?_getD, List.getElem?_eq_getElem hi, List.getElem?_eq_getElem (show i < m.length by omega)] at this
    rw [List.getElem?_eq_getElem hi, List.getElem?_eq_getElem (show i < m.length by omega)]
    exact congrArg some this
  · rw [List.getElem?_eq_none (by omega), List.getElem?_eq_none (by omega)]
theorem toList_ne {x y : ByteArray} (h : ¬ x = y) : (x.toList == y.toList) = false := by
  rw [Bool.eq_false_iff]
  intro he
  have h2 := eq_of_beq he
  rw [ByteArray.toList_eq, ByteArray.toList_eq] at h2
  refine h ?_
  obtain ⟨⟨a⟩⟩ := x
  obtain ⟨⟨b⟩⟩ := y
  simp only at h2
  rw [h2]
theorem rd_vals {α : Type} {f : α → Value} {w : World} {B : Nat} {A : Option Addr} {n : Nat} {l : List α} (d : α) (h : Rd w B A n (l.map f)) (hn : 0 < n) : ∃ b o, A = some ⟨b, o, none⟩ ∧ b < B ∧ ∀ j, j < n → w.cell? ⟨b, o + j, none⟩ = some (f (l.getD j d)) := by
  obtain ⟨b, o, hA, hb, hc⟩ := h.2 hn
  have hl : l.length = n := by simpa using h.1
  refine ⟨b, o, hA, hb, fun j hj => hc j _ ?_⟩
  rw [List.getElem?_map, List.getD_eq_getElem?_getD, List.getElem?_eq_getElem (show j < l.length by omega)]
  rfl
set_option maxHeartbeats 1000000 in
set_option maxRecDepth 100000 in
theorem same_any (l m : List Int) (A B : Option Addr) (n c k d : Nat) (w : World) (hl : Rd w w.heap.size A n (l.map (Value.int .u8))) (hm : Rd w w.heap.size B k (m.map (Value.int .u8))) (hn : n ≤ 9223372036854775807) :
    Calls Try.prog 29 #[.slice A n c, .slice B k d] w fun e w' => e = .returned (.bool (decide (l = m))) ∧ Drew w w' := by
  have h1 : l.length = n := by simpa using hl.1
  have h2 : m.length = k := by simpa using hm.1
  by_cases hnk : n = k
  · subst hnk
    have HL := Lib.hid hl; have HM := Lib.hid hm; have H1 := Lib.hid h1; have H2 := Lib.hid h2
    clear hl hm h1 h2
    go_enter Try.func29, Try.ntmps29
    go_wp2_with fail
    go_loopw [5] (fun i wr => ∃ t : Nat, t ≤ n ∧ i = .int .i64 t ∧ Hid (∀ j, j < t → l.getD j 0 = m.getD j 0) ∧ Drew w wr) (fun i _ => n - (intOf i).toNat)
    case atStart => exact ⟨0, Nat.zero_le _, rfl, Lib.hid (fun j hj => by omega), Drew.refl _⟩
    case round =>
      obtain ⟨t, ht, rfl, HJ, hD⟩ := hrel
      by_cases hlt : t < n
      · obtain ⟨b, o, rfl, hb, hcl⟩ := rd_vals 0 HL.out (by omega)
        obtain ⟨b2, o2, rfl, hb2, hcm⟩ := rd_vals 0 HM.out (by omega)
        have c0 := (hD.cell _).trans (hcl t hlt)
        have c2 := (hD.cell _).trans (hcm t hlt)
        clear hcl hcm
        have HN : Hid (l.getD t 0 = m.getD t 0 → ∀ j, j < t + 1 → l.getD j 0 = m.getD j 0) := Lib.hid (fun h j hj => by
          rcases Nat.lt_or_ge j t with h3 | h3
          · exact HJ.out j h3
          · obtain rfl : j = t := by omega
            exact h)
        have HF : Hid (l.getD t 0 ≠ m.getD t 0 → decide (l = m) = false) := Lib.hid (fun h => decide_eq_false (fun he => h (by rw [he])))
        have hi : (0 : Int) ≤ (t : Int) := by omega
        have hi2 : (t : Int) < (n : Int) := by omega
        generalize l.getD t 0 = x at *
        generalize m.getD t 0 = y at *
        by_cases hxy : x = y
        · have HN2 := Lib.hid (HN.out hxy)
          subst hxy
          go_upto_region 6 with (fail)
          go_quiet (fail)
          go_wp2_with fail
          go_roundw
          case rel => exact ⟨t + 1, by omega, by go_num, HN2, hD.trans (Drew.mk _ _)⟩
          case measure => simp [intOf]; omega
        · have HF2 := Lib.hid (HF.out hxy)
          have hbq : ((x : Int) == y) = false := by simpa using hxy
          go_upto_region 6 with (fail)
          go_quiet (fail)
          go_wp2_with fail
          go_ret
          exact ⟨by rw [HF2.out]; rfl, hD.trans (Drew.mk _ _)⟩
      · obtain rfl : t = n := by omega
        have HE : Hid (decide (l = m) = true) := Lib.hid (decide_eq_true (getD_ext 0 (H1.out.trans H2.out.symm) (fun j hj => HJ.out j (by rw [H1.out] at hj; exact hj))))
        go_wp2_with fail
        go_ret
        exact ⟨by rw [HE.out]; rfl, hD⟩
  · have HE : Hid (decide (l = m) = false) := Lib.hid (decide_eq_false (fun he => hnk (by rw [← h1, ← h2, he])))
    have hbn : ((n : Int) == (k : Int)) = false := by simp; omega
    clear hl hm h1 h2
    go_enter Try.func29, Try.ntmps29
    go_wp2_with fail
    go_ret
    exact ⟨by rw [HE.out]; rfl, Drew.refl _⟩
end Go.Proofs.Ytkgmoklifkojhaa
