/- The reference's Send. Conditions: numbers below a bound. -/
import Derived.Test.YtkgmoklifkojhaaLkRun
set_option linter.unusedSimpArgs false
set_option linter.unusedVariables false
namespace Go.Proofs.Ytkgmoklifkojhaa
open Go.RowKit
theorem IsRef.put {M : Nat → Prop} {w w8 : World} {p : Nat} {R R' : RefS} {SV HV SV' HV' : Value} {vs vs' : List Value} {hs hs' : List (Int × Value)} (I : IsRef M w p R SV HV vs hs) (hk : Kept (fun b => SV.ownBlock = some b ∨ HV.ownBlock = some b) w w8) (hp : M p) (j : Nat) (u : Value)
    (hc : (refC R SV HV).set j u = refC R' SV' HV') (row : w8.ownsRow 0 33 1 SV' R'.sent.length vs') (msgs : Msgs M w8 vs' R'.sent) (hrow : w8.ownsRow 0 78 2 HV' R'.held.length (heldC hs')) (hks : hs'.map (·.1) = R'.held.map (·.1)) (hms : Msgs M w8 (hs'.map (·.2)) (R'.held.map (·.2))) (ok : RefOk R') :
    IsRef M (w8.setCell ⟨p, j, none⟩ u) p R' SV' HV' vs' hs' := by
  have hb8 : Blk w8 p 31 (refC R SV HV) := hk.blk I.blk (fun h => h.elim I.np.1 I.np.2.1)
  have hk1 : Kept (fun b => b = p) w8 (w8.setCell ⟨p, j, none⟩ u) := Kept.setCell (F := fun b => b = p) (p := ⟨p, j, none⟩) w8 rfl u
  refine ⟨?_, hk1.own row (fun b hb h => by rw [h] at hb; exact row_blk_ne hb8 row (by decide) hb), msgs.keep hk1 (fun b hb => by rw [hb]; exact hp) (fun _ _ h => h), hk1.own hrow (fun b hb h => by rw [h] at hb; exact row_blk_ne hb8 hrow (by decide) hb), hks, hms.keep hk1 (fun b hb => by rw [hb]; exact hp) (fun _ _ h => h), ok⟩
  have := hb8.set j u
  rw [hc] at this
  exact this
theorem IsRef.to_new {Mu : Nat → Prop} {w : World} {p : Nat} {R : RefS} {SV HV : Value} {vs : List Value} {hs : List (Int × Value)} (I : IsRef Mu w p R SV HV vs hs) : IsRef (mnew Mu w) w p R SV HV vs hs := I.mu (fun b hb h => h.resolve_right (by omega))
theorem info_held : (Try.prog.info? 78).map (fun i => (i.zero, i.size, i.bytes)) = some (some (.agg #[.int .i64 0, .slice none 0 0]), 2, 32) := by kernel_rfl
theorem Msgs.one {M : Nat → Prop} {w : World} {vs : List Value} {ms : List (List Int)} (h : Msgs M w vs ms) : ∀ u ∈ vs, u.oneCell' = true := msgs_one h
def sendR (R : RefS) (m : List Int) : RefS := { R with sent := R.sent ++ [m] }
set_option maxHeartbeats 4000000 in
set_option maxRecDepth 100000 in
theorem rsend_any (Mu Ft : Nat → Prop) (p : Nat) (R : RefS) (m : List Int) (A : Option Addr) (n c : Nat) (w : World) (hE : RefO p R Mu Ft w) (hF : ∀ b, Ft b → Mu b) (hl : ∀ b, Mu b → b < w.heap.size) (hm : Msg Mu w (.slice A n c) m) (hn : n ≤ 65536) (h10 : R.sent.length < 1000) (h11 : R.sent.length - R.acked < 1000) :
    Calls Try.prog 12 #[.pointer (some ⟨p, 0, none⟩), .slice A n c] w fun e w' => e = .returned (.int .i64 0) ∧ ∃ Ft', Turn Ft Ft' w w' ∧ (∀ b, Ft' b → b < w'.heap.size) ∧ RefO p (sendR R m) (mor Mu Ft') Ft' w' := by
  obtain ⟨SV, HV, vs, hs, I, hft⟩ := hE
  obtain ⟨i0, hi, hz0, hz1, hz2⟩ := info_parts u8_bytes
  obtain ⟨nw, hnw⟩ : ∃ k, k = R.sent.length := ⟨_, rfl⟩
  obtain ⟨ac, hac⟩ : ∃ k, k = R.acked := ⟨_, rfl⟩
  obtain ⟨SA, sc, hSV, hsc1, hsc2⟩ := own_form I.row
  subst hSV
  have hc2 : w.cell? ⟨p, 2, none⟩ = some (.slice SA nw sc) := by rw [hnw]; exact I.blk.cell 2
  have hc3 : w.cell? ⟨p, 3, none⟩ = some (.int .i64 ac) := by rw [hac]; exact I.blk.cell 3
  have a0 : 0 ≤ ac := by rw [hac]; exact I.ok.a0
  have a1 : ac ≤ nw := by rw [hac, hnw]; exact I.ok.a1
  have h1 : ¬ (65536 : Int) < n := by omega
  have h2 : ¬ (1000 : Int) ≤ nw - ac := by rw [hnw, hac]; omega
  have hd1 : decide ((65536 : Int) < n) = false := decide_eq_false h1
  have hd2 : decide ((1000 : Int) ≤ nw - ac) = false := decide_eq_false h2
  have hnb : nw < 1000 := by rw [hnw]; exact h10
  have HI := Lib.hid I; have HFT := Lib.hid hft; have HFM := Lib.hid hF; have HNW := Lib.hid hnw; have HM := Lib.hid hm; have HL := Lib.hid hl
  have HROW : Hid (w.ownsRow 0 33 1 (.slice SA nw sc) nw vs) := Lib.hid (by rw [hnw]; exact I.row)
  have HP : Hid (p < w.heap.size) := Lib.hid I.blk.lt
  have HNP : Hid ((Value.slice SA nw sc).ownBlock ≠ some p) := Lib.hid (by rw [hnw]; exact I.np.1)
  rw [← hnw] at hsc1
  clear I hft hF hm hl hnw hac h10 h11
  go_enter Try.func12, Try.ntmps12
  go_wp2_with fail
  go_quiet (fail)
  have E1' : Ext w (w.drewN nq) := (Ext.refl w).drewN nq
  obtain ⟨w1, hw1⟩ : ∃ x, x = w.drewN nq := ⟨_, rfl⟩
  rw [← hw1] at E1' ⊢
  have E1 := Lib.hid E1'
  have E2 : Hid (Ext w (w1.alloc (.cells #[.slice A n c] 33))) := Lib.hid (E1'.alloc _)
  have cc2 : w1.cell? ⟨p, 2, none⟩ = some (.slice SA nw sc) := (E1'.cell (p := ⟨p, 2, none⟩) HP.out).trans hc2
  have HK8 : Hid (∀ w8 : World, (w1.alloc (.cells #[.slice A n c] 33)).grownBy w8 (Value.slice SA nw sc).ownBlock → w8.cell? ⟨p, 2, none⟩ = some (.slice SA nw sc) ∧ w8.frozen? ⟨p, 2, none⟩ = false) := Lib.hid (fun w8 hg => by
    have hk : Kept (fun b => (Value.slice SA nw sc).ownBlock = some b) (w1.alloc (.cells #[.slice A n c] 33)) w8 := Kept.of_grown hg (fun b hb _ => hb)
    have hb8 := hk.blk (HI.out.blk.ext E2.out) HNP.out
    rw [← HNW.out] at hb8
    exact ⟨hb8.cell 2, hb8.frozen 2⟩)
  clear hw1 E1' hc2 hc3
  go_wp2_with (at_builtin; refine wpList_append_own_at _ rfl (.tmp 25) (.tmp 27) 28 rfl 0 33 i0 (.slice none 0 0) 1 24 Try.underlying28 hi hz0 hz1 hz2 rfl (by omega) (.slice SA nw sc) nw vs rfl (own_ext E2.out HROW.out) ⟨w1.heap.size, 0, none⟩ 1 1 [.slice A n c] rfl rfl (blk_adds (Blk.fresh _ _ _)) (by simp [Value.oneCell']) (by simp only [maxLen]; omega) (by omega) (Nat.zero_le _) ?_; intro v8 w8 ho8 hg8 hn8 hat8; obtain ⟨A8, q8, e8⟩ := own_slice ho8 (Nat.succ_pos _); subst e8; obtain ⟨c8, f8⟩ := HK8.out w8 hg8; have HO8 := Lib.hid ho8; have HG8 := Lib.hid hg8; have HA8 := Lib.hid hat8; clear ho8 hg8 hn8 hat8)
  go_ret
  refine ⟨rfl, ?_⟩
  have hSV : ∀ b, (Value.slice SA nw sc).ownBlock = some b → Ft b := fun b hb => HFT.out b (Or.inr (Or.inl (by rw [← HNW.out]; exact hb)))
  have I1 := HI.out.to_new
  have I2 := I1.ext E2.out
  have hkG : Kept (fun b => (Value.slice SA nw sc).ownBlock = some b) (w1.alloc (.cells #[.slice A n c] 33)) w8 := Kept.of_grown HG8.out (fun b hb _ => hb)
  have hkF : Kept Ft w w8 := (Kept.of_ext E2.out).trans (hkG.mono (fun b _ hb => hSV b hb))
  have hM8 : ∀ {vs ms}, Msgs Mu w vs ms → Msgs (mnew Mu w) w8 vs ms := fun h => h.keep hkF HFM.out (fun b hb h => h.resolve_right (by omega))
  have hm8 : Msg (mnew Mu w) w8 (.slice A n c) m := HM.out.keep hkF HFM.out (fun b hb h => h.resolve_right (by omega))
  have I8 := I2.put (w8 := w8) (hkG.mono (fun b _ hb => Or.inl (by rw [← HNW.out]; exact hb))) (Or.inl (HFM.out p (HFT.out p (Or.inl rfl)))) 2 (.slice A8 (nw + 1) q8) (R' := sendR R m) (SV' := .slice A8 (nw + 1) q8) (HV' := HV) (vs' := vs ++ [.slice A n c]) (hs' := hs) rfl
    (by
      have := HO8.out
      simp only [sendR, List.length_append, List.length_cons, List.length_nil, ← HNW.out]
      exact this)
    ((hM8 HI.out.msgs).snoc hm8) (hkG.own I2.hrow (fun b hb h => I2.np.2.2 b (by rw [← HNW.out]; exact h) hb)) I2.hks (hM8 HI.out.hms)
    (by
      obtain ⟨o1, o2, o3, o4, o5, o6, o7, o8, o9, o10, o11, o12, o13⟩ := I2.ok
      have h3 := HNW.out
      refine ⟨o1, o2, o3, o4, o5, ?_, ?_, o8, o9, o10, o11, o12, o13⟩ <;> simp [sendR] <;> omega)
  refine I8.turn' (hkF.trans (Kept.setCell (p := ⟨p, 2, none⟩) w8 (HFT.out p (Or.inl rfl)) _)) HFM.out (fun b hb => ?_) |>.imp fun Ft' h => ⟨h.1, h.2.1, h.2.2.2⟩
  rcases hb with rfl | hb | hb
  · exact Or.inl (HFT.out _ (Or.inl rfl))
  · rcases HA8.out with h | h
    · rw [h] at hb; exact Or.inl (hSV b hb)
    · rw [h] at hb; injection hb with hb
      exact Or.inr (by rw [← hb]; exact E2.out.size)
  · exact Or.inl (HFT.out b (Or.inr (Or.inr hb)))
end Go.Proofs.Ytkgmoklifkojhaa
