/- The walk of the reference's SameDigests. No condition beyond a bound on the length. -/
import Derived.Test.YtadepaaemjnfgaaDigC
import Derived.Deep.DrawnRows
namespace Go.Proofs.Ytadepaaemjnfgaa
open Go.RowKit
/-- What a load reads, where it reads without fault and leaves the world as it is. -/
noncomputable def rowRun (P : Program) (ty : TypeId) (w : World) (v : Value) : Option Value :=
  open Classical in if h : ∃ u, (Instr.loadAt ty v).run P w = .ok u w then some (Classical.choose h) else none
theorem rowRun_of {P : Program} {ty : TypeId} {w : World} {v u : Value} (h : (Instr.loadAt ty v).run P w = .ok u w) : rowRun P ty w v = some u := by
  have hx : ∃ u, (Instr.loadAt ty v).run P w = .ok u w := ⟨u, h⟩
  unfold rowRun
  rw [dif_pos hx]
  have := Classical.choose_spec hx
  have h2 := h.symm.trans this
  injection h2 with h2 _
  rw [← h2]
theorem wp_load_run (dst : Option Tmp) (x : Operand) (ty : TypeId) (pos : String) (after) (guard) (a : Act) (w : World) (K : Act → World → Prop) (Q : Exit → Act → World → Prop) :
    Oper.wp Try.prog { dst := dst, op := Op.load 57 x, type := ty, pos := pos, after := after, guard := guard } a w K Q =
      match rowRun Try.prog 57 w (a.eval x) with
      | some v => K (a.put dst v) w
      | none => wpBare Try.prog { dst := dst, op := Op.load 57 x, type := ty, pos := pos, after := after, guard := guard } a w K Q := by
  cases h : rowRun Try.prog 57 w (a.eval x) with
  | none => rfl
  | some v =>
    unfold rowRun at h
    split at h
    · rename_i hx
      injection h with h
      have hs := Classical.choose_spec hx
      rw [h] at hs
      unfold Oper.wp execOp
      simp only [Sem.run_bind, Sem.run_pure, hs, Result.andThen_ok]
      rfl
    · cases h
attribute [local go_sem ↓] wp_at_zero wp_at_succ wp_load_run
set_option maxHeartbeats 2000000 in
set_option maxRecDepth 100000 in
theorem sameDigests_any (l m : List (List Int)) (A B : Option Addr) (n c k d : Nat) (w : World) (hl : RdN w w.heap.size 16 A n (celD l)) (hm : RdN w w.heap.size 16 B k (celD m)) (hdl : Dig16 l) (hdm : Dig16 m) (h1 : l.length = n) (h2 : m.length = k) (hn : n ≤ 1000000000000) :
    Calls Try.prog 36 #[.slice A n c, .slice B k d] w fun e w' => e = .returned (.bool (decide (l = m))) ∧ Drew w w' := by
  by_cases hnk : n = k
  · subst hnk
    have HL := Lib.hid hl; have HM := Lib.hid hm; have H1 := Lib.hid h1; have H2 := Lib.hid h2
    have HDL := Lib.hid hdl; have HDM := Lib.hid hdm
    clear hl hm h1 h2 hdl hdm
    go_enter Try.func36, Try.ntmps36
    go_wp2_with fail
    go_loopw [5] (fun i wr => ∃ t : Nat, t ≤ n ∧ i = .int .i64 t ∧ Hid (∀ j, j < t → l.getD j [] = m.getD j []) ∧ Drew w wr) (fun i _ => n - (intOf i).toNat)
    case atStart => exact ⟨0, Nat.zero_le _, rfl, Lib.hid (fun j hj => by omega), Drew.refl _⟩
    case round =>
      obtain ⟨t, ht, rfl, HJ, hD⟩ := hrel
      by_cases hlt : t < n
      · obtain ⟨-, b, o, rfl, hb, hcl⟩ := rd_dig HL.out HDL.out (by omega)
        obtain ⟨-, b2, o2, rfl, hb2, hcm⟩ := rd_dig HM.out HDM.out (by omega)
        have hx := HDL.out.at_ (by rw [H1.out]; exact hlt : t < l.length)
        have hy := HDM.out.at_ (by rw [H2.out]; exact hlt : t < m.length)
        have c0 : wr.rangeAt b (o + t * 16) (u8s (l.getD t [])) := range_dig hx.1 (fun j hj => (hD.cell _).trans (hcl t j hlt hj))
        have c2 : wr.rangeAt b2 (o2 + t * 16) (u8s (m.getD t [])) := range_dig hy.1 (fun j hj => (hD.cell _).trans (hcm t j hlt hj))
        have hq : ∀ W, (Op.equalIn 10000 57 (.agg (u8s (l.getD t [])).toArray) (.agg (u8s (m.getD t [])).toArray)).run Try.prog W = .ok (decide (l.getD t [] = m.getD t [])) W := fun W =>
          run_equalIn_u8s (P := Try.prog) W 9998 57 5 16 Try.underlying57 Try.underlying5 (fun _ => by kernel_rfl) _ _ hx.2 hy.2 hx.1 hy.1
        have hx16 : (u8s (l.getD t [])).length = 16 := by rw [u8s_length]; exact hx.1
        have hy16 : (u8s (m.getD t [])).length = 16 := by rw [u8s_length]; exact hy.1
        clear hcl hcm hx hy
        have HN : Hid (l.getD t [] = m.getD t [] → ∀ j, j < t + 1 → l.getD j [] = m.getD j []) := Lib.hid (fun h j hj => by
          rcases Nat.lt_or_ge j t with h3 | h3
          · exact HJ.out j h3
          · obtain rfl : j = t := by omega
            exact h)
        have HF : Hid (l.getD t [] ≠ m.getD t [] → decide (l = m) = false) := Lib.hid (fun h => decide_eq_false (fun he => h (by rw [he])))
        have hi : (0 : Int) ≤ (t : Int) := by omega
        have hi2 : (t : Int) < (n : Int) := by omega
        generalize l.getD t [] = x at *
        generalize m.getD t [] = y at *
        have hix : (Try.prog.info? 57).map (·.size) = some (u8s x).length := winfo_dig.trans (congrArg some hx16.symm)
        have hiy : (Try.prog.info? 57).map (·.size) = some (u8s y).length := winfo_dig.trans (congrArg some hy16.symm)
        have r1 := rowRun_of (run_loadAt_mid wr.drew b (o + t * 16) 57 (u8s x) _ ((World.rangeAt_drew _ _ _ _).2 c0) Try.underlying57 rfl hix)
        have r2 := rowRun_of (run_loadAt_mid wr.drew b2 (o2 + t * 16) 57 (u8s y) _ ((World.rangeAt_drew _ _ _ _).2 c2) Try.underlying57 rfl hiy)
        clear c0 c2 hix hiy
        by_cases hxy : x = y
        · have HN2 := Lib.hid (HN.out hxy)
          subst hxy
          have hq2 : ∀ W, (Op.equalIn 10000 57 (.agg (u8s x).toArray) (.agg (u8s x).toArray)).run Try.prog W = .ok true W := fun W => by rw [hq, decide_eq_true rfl]
          clear hq
          go_upto_region 6 with (fail)
          go_region_with (fail)
          all_goals
            go_wp2_with fail
            go_roundw
            case rel => exact ⟨t + 1, by omega, by go_num, HN2, hD.drew⟩
            case measure => simp [intOf]; omega
        · have HF2 := Lib.hid (HF.out hxy)
          have hq2 : ∀ W, (Op.equalIn 10000 57 (.agg (u8s x).toArray) (.agg (u8s y).toArray)).run Try.prog W = .ok false W := fun W => by rw [hq, decide_eq_false hxy]
          clear hq
          go_upto_region 6 with (fail)
          go_region_with (fail)
          all_goals
            go_wp2_with fail
            go_ret
            exact ⟨by rw [HF2.out]; rfl, hD.drew⟩
      · obtain rfl : t = n := by omega
        have HE : Hid (decide (l = m) = true) := Lib.hid (decide_eq_true (getD_ext [] (H1.out.trans H2.out.symm) (fun j hj => HJ.out j (by rw [H1.out] at hj; exact hj))))
        go_wp2_with fail
        go_ret
        exact ⟨by rw [HE.out]; rfl, hD⟩
  · have HE : Hid (decide (l = m) = false) := Lib.hid (decide_eq_false (fun he => hnk (by rw [← h1, ← h2, he])))
    have hbn : ((n : Int) == (k : Int)) = false := by simp; omega
    clear hl hm h1 h2 hdl hdm
    go_enter Try.func36, Try.ntmps36
    go_wp2_with fail
    go_ret
    exact ⟨by rw [HE.out]; rfl, Drew.refl _⟩
end Go.Proofs.Ytadepaaemjnfgaa
