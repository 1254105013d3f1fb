/- link's Copy: an independent end. Conditions: numbers below a bound. -/
import Derived.Test.YtkgmoklifkojhaaLkSep
import Derived.Maps.RangeWalk
import Derived.Maps.Ext
set_option linter.unusedSimpArgs false
set_option linter.unusedVariables false
namespace Go.Proofs.Ytkgmoklifkojhaa
open Go.RowKit
set_option maxHeartbeats 1000000 in
set_option maxRecDepth 100000 in
theorem clonev_any (vs : List Value) (A : Option Addr) (n c : Nat) (w : World) (hl : RdN w w.heap.size 1 A n vs) (h1 : ∀ u ∈ vs, u.oneCell' = true) (hn : n ≤ 1000000000) :
    Calls Try.prog 44 #[.slice A n c] w fun e w' => (∃ A' c', e = .returned (.slice A' n c') ∧ w'.ownsRow w.heap.size 33 1 (.slice A' n c') n vs) ∧ Below w.heap.size w w' := by
  obtain ⟨i0, hi, hz0, hz1, hz2⟩ := info_parts u8_bytes
  have HL := Lib.hid hl; have HO := Lib.hid h1
  clear hl h1
  have hq : ∀ a n c w, (binOp .eql 28 (.slice a n c) (.slice none 0 0)).run Try.prog w = .ok (.bool a.isNone) w := fun a n c w => Lib.run_eql_slice_nil w _ _ a n c 0 0 Try.underlying28
  rcases A with _ | a
  · have hn0 : n = 0 := by
      rcases Nat.eq_zero_or_pos n with h | h
      · exact h
      · obtain ⟨b, o, h2, _⟩ := HL.out.2 h
        cases h2
    subst hn0
    have hl0 : vs = [] := List.eq_nil_of_length_eq_zero (by have := HL.out.1; omega)
    rw [hl0]
    go_enter Try.func44, Try.ntmps44
    go_wp2_with fail
    go_ret
    exact ⟨⟨none, 0, rfl, World.ownsRow_nil _ _ _ _⟩, Below.refl _ _⟩
  · go_enter Try.func44, Try.ntmps44
    go_wp2_with (at_builtin; refine wpList_app rfl (.tmp 5) (.tmp 6) 28 rfl w.heap.size 33 i0 (.slice none 0 0) 1 24 Try.underlying28 hi hz0 hz1 hz2 rfl (by omega) (some ⟨w.heap.size, 0, none⟩) 0 0 [] rfl (own_lit w _ w.heap.size 33 [] _ 0 rfl rfl (Nat.le_refl _) rfl (by decide)) w.heap.size (some a) n c vs rfl (HL.out.below ((Ext.refl w).alloc _) (Nat.le_refl _)) HO.out (by simp only [maxLen]; omega) (by omega) (by simp) ?_; rw [Nat.zero_add, List.nil_append]; intro A4 c4 w4 hown4 hg4; have hb4 := below_app ((Ext.refl w).alloc (.cells #[] 33)) hg4 (own_lit w _ w.heap.size 33 [] _ 0 rfl rfl (Nat.le_refl _) rfl (by decide)) (Nat.le_refl _) (by simp))
    go_ret
    exact ⟨⟨A4, c4, rfl, hown4⟩, hb4⟩
theorem info_end : (Try.prog.info? 65).map (·.size) = some 8 := by kernel_rfl
def endZ : List Value := [.int .i64 0, .int .u64 0, .slice none 0 0, .int .i64 0, .int .i64 0, .map none, .bool false, .int .i64 0]
theorem row_rdn {w : World} {b : Nat} {e : TypeId} {A : Option Addr} {n c : Nat} {vs : List Value} (h : w.ownsRow b e 1 (.slice A n c) n vs) : RdN w w.heap.size 1 A n vs := by
  refine ⟨h.1, fun hn => ?_⟩
  rcases h.2 with ⟨_, h2⟩ | ⟨g, cap, cur, h1, _, h3, _⟩
  · omega
  · injection h1 with h1 _ _
    subst h1
    refine ⟨g, 0, rfl, (Array.getElem?_eq_some_iff.1 h3).1, fun j u hj => ?_⟩
    have := h.cells (g := g) rfl j u hj
    rw [add_at] at this
    rw [Nat.zero_add]
    exact this
theorem Ext_of_kept {F : Nat → Prop} {w w1 w2 : World} (h : Ext w w1) (hk : Kept F w1 w2) (hF : ∀ b, F b → w.heap.size ≤ b) : Ext w w2 := ext_kept h hk hF
theorem own_tag_map {w : World} {b n hm m : Nat} {e : TypeId} {size : Nat} {v : Value} {xs : List Value} {D : DataW Value} (ho : w.ownsRow b e size v n xs) {k : Nat} (hk : v.ownBlock = some k) (hM : w.ownsMap Try.prog 3 heldR hm m D) : k ≠ hm := by
  rintro rfl
  rcases ho.2 with ⟨h1, _⟩ | ⟨g, cap, cur, h1, _, h3, _⟩
  · rw [h1] at hk; cases hk
  · rw [h1] at hk
    have e1 : g = k := by simpa [Value.ownBlock] using hk
    obtain ⟨es, clock, hb, _⟩ := hM
    rw [e1] at h3
    rw [hb] at h3
    cases h3
set_option maxHeartbeats 4000000 in
set_option maxRecDepth 100000 in
theorem copy_any (Mu Ft : Nat → Prop) (p : Nat) (E : EndS) (w : World) (hE : EndAt Mu Ft w p E) :
    Calls Try.prog 31 #[.pointer (some ⟨p, 0, none⟩)] w fun e w' => ∃ q, e = .returned (.pointer (some ⟨q, 0, none⟩)) ∧ Ext w w' ∧ ∃ Ft' : Nat → Prop, (∀ b, Ft' b → w.heap.size ≤ b ∧ b < w'.heap.size) ∧ EndAt (mor Mu Ft') Ft' w' q E := by
  obtain ⟨hml, WA, wc, hm, vs, h, I⟩ := hE
  have hmm := @run_makeMap Try.prog
  have HML := Lib.hid hml; have HI := Lib.hid I
  obtain ⟨nw, hnw⟩ : ∃ k, k = E.waiting.length := ⟨_, rfl⟩
  have HNW := Lib.hid hnw
  have hnwb : nw ≤ 1000 := by rw [hnw]; exact I.ok.n1
  obtain ⟨D0, hown, hsz, hat⟩ := I.map
  have HOWN := Lib.hid hown; have HAT := Lib.hid hat; have HSZ := Lib.hid hsz
  have HVS := Lib.hid (msgs_one I.msgs)
  have HROW : Hid (w.ownsRow 0 33 1 (.slice WA nw wc) nw vs) := Lib.hid (by rw [hnw]; exact I.row)
  have HBP : Hid (Blk w p 65 (endC E (.slice WA nw wc) hm)) := Lib.hid (by rw [hnw]; exact I.blk)
  clear hml I hnw hown hat hsz
  obtain ⟨q, hq⟩ : ∃ q, q = w.heap.size := ⟨_, rfl⟩
  go_enter Try.func31, Try.ntmps31
  go_upto_region 2 with (go_loud (first
    | (refine wpList_load_blk rfl 65 (.tmp 7) rfl p (by kernel_rfl) HBP.out Try.underlying65 rfl (info_end.trans rfl) ?_)
    | (refine wpList_store_fresh rfl 65 (.tmp 3) (.tmp 8) rfl _ w.heap.size rfl endZ (endC E (.slice WA nw wc) hm) 65 (by rfl) (by rfl) rfl (info_end.trans rfl) rfl (endC_one _ _ _ _ _) ?_; intro w1 hw1 hE1 hz1; have E1 := Lib.hid hE1; have B1 := Lib.hid hw1; clear hw1 hE1 hz1)))
  rw [← hq] at B1 ⊢
  have HQ := Lib.hid hq; have HQ1 := Lib.hid B1.out.lt
  have HPQ : Hid (p ≠ q ∧ hm ≠ q) := Lib.hid (by
    have h1 := HBP.out.lt
    have h2 := HOWN.out.lt
    omega)
  have c2 : w1.cell? ⟨p, 2, none⟩ = some (.slice WA nw wc) := (HBP.out.ext E1.out).cell 2
  have R1 := Lib.hid (row_rdn (own_ext E1.out HROW.out))
  clear hq
  go_upto_region 3 with (go_loud (go_at_call 44; (with_reducible refine (clonev_any vs WA nw wc w1 R1.out HVS.out (by omega)).mono ?_); rintro e w2 ⟨⟨A2, c2', rfl, ho2⟩, hE2⟩; have E2 := Lib.hid hE2; have O2 := Lib.hid ho2; have B2 := Lib.hid (B1.out.ext hE2); have cq2 := B2.out.cell 2; have fq2 := B2.out.frozen 2; simp only [endC, List.getElem?_cons_zero, List.getElem?_cons_succ] at cq2; clear ho2 hE2))
  clear c2 cq2 fq2
  obtain ⟨w3, hw3⟩ : ∃ x, x = w2.setCell ⟨q, 2, none⟩ (.slice A2 nw c2') := ⟨_, rfl⟩
  rw [← hw3]
  have B3 : Hid (Blk w3 q 65 (endC E (.slice A2 nw c2') hm)) := Lib.hid (by rw [hw3]; exact B2.out.set 2 _)
  have E3 : Hid (Ext w w3) := Lib.hid (by rw [hw3]; exact (E1.out.next E2.out).setOwn (by rw [HQ.out]; exact Nat.le_refl _) 2 _)
  have O3 : Hid (w3.ownsRow w1.heap.size 33 1 (.slice A2 nw c2') nw vs) := Lib.hid (by
    rw [hw3]
    exact Kept.own (F := fun b => b = q) (Kept.setCell (F := fun b => b = q) (p := ⟨q, 2, none⟩) w2 rfl _) O2.out (fun b hb h => by have h1 := own_ge O2.out hb; have h2 := B1.out.lt; omega))
  obtain ⟨qm, hqm⟩ : ∃ x, x = w3.heap.size := ⟨_, rfl⟩
  have M3 : Hid (Blk (w3.alloc (.map #[] 0)) q 65 (endC E (.slice A2 nw c2') hm)) := Lib.hid (B3.out.ext ((Ext.refl w3).alloc _))
  have cq5 := M3.out.cell 5; have fq5 := M3.out.frozen 5
  simp only [endC, List.getElem?_cons_zero, List.getElem?_cons_succ] at cq5
  have HQM : Hid (qm = w3.heap.size ∧ q < qm) := Lib.hid ⟨hqm, by rw [hqm]; exact B3.out.lt⟩
  clear hw3 B2 R1 B1
  go_upto_region 4 with fail
  rw [← hqm]
  clear hqm cq5 fq5
  obtain ⟨w4, hw4⟩ : ∃ x, x = (w3.alloc (.map #[] 0)).setCell ⟨q, 5, none⟩ (.map (some qm)) := ⟨_, rfl⟩
  rw [← hw4]
  have K4 : Hid (Kept (fun b => b = q) w3 w4) := Lib.hid (by rw [hw4]; exact (Kept.of_ext ((Ext.refl w3).alloc _)).trans (Kept.setCell (F := fun b => b = q) (p := ⟨q, 5, none⟩) _ rfl _))
  have B4 : Hid (Blk w4 q 65 (endC E (.slice A2 nw c2') qm)) := Lib.hid (by rw [hw4]; exact M3.out.set 5 _)
  have E4 : Hid (Ext w w4) := Lib.hid (by rw [hw4]; exact (E3.out.alloc _).setOwn (by rw [HQ.out]; exact Nat.le_refl _) 5 _)
  have O4 : Hid (w4.ownsRow w1.heap.size 33 1 (.slice A2 nw c2') nw vs) := Lib.hid (K4.out.own O3.out (fun b hb h => by have h1 := own_ge O3.out hb; have h2 := HQ1.out; omega))
  have W4 : Hid (w4.ownsMap Try.prog 3 heldR hm E.tot D0) := Lib.hid (by
    obtain ⟨es, clock, hb, r⟩ := HOWN.out
    exact ⟨es, clock, (E4.out.block hm HOWN.out.lt).trans hb, r⟩)
  have N4 : Hid (w4.ownsMap Try.prog 3 heldR qm 0 (.map [])) := Lib.hid (by
    have h0 := World.ownsMap_made w3 Try.prog 3 heldR
    rw [← HQM.out.1] at h0
    obtain ⟨es, clock, hb, r⟩ := h0
    refine ⟨es, clock, ?_, r⟩
    rw [hw4]
    exact ((Kept.setCell (F := fun b => b = q) (p := ⟨q, 5, none⟩) (w3.alloc (.map #[] 0)) rfl _).block qm (Array.getElem?_eq_some_iff.1 hb).1 (fun h => by have := HQM.out.2; omega)).trans hb)
  have c5 : w4.cell? ⟨p, 5, none⟩ = some (.map (some hm)) := (HBP.out.ext E4.out).cell 5
  clear hw4 M3 B3 K4 O3 E3
  obtain ⟨rr, hrr⟩ : ∃ x, x = w4.heap.size := ⟨_, rfl⟩
  have HRR := Lib.hid hrr
  go_wp2_with (at_range; refine wpList_range_own _ rfl _ 63 rfl 3 33 keyI Try.underlying63 _ hm E.tot D0 rfl W4.out ?_; intro w5 hrg0 hg0 hs0)
  go_frame
  rw [← hrr] at hrg0 hs0 ⊢
  have HRG := Lib.hid hrg0
  have K5 : Hid (Kept (fun b => b = qm) w4 w5) := Lib.hid (Kept.of_grown hg0 (fun b hb _ => by cases hb))
  have N5 : Hid (w5.ownsMap Try.prog 3 heldR qm 0 (.map [])) := Lib.hid (N4.out.kept hg0 (by simp))
  clear hrg0 hg0 hs0 hrr c5
  go_loopw [4, 5] (fun _ _ wr => ∃ (left : Lit → Bool) (cnt : Nat) (Dout : DataW Value), wr.ranges Try.prog 3 heldR hm rr E.tot D0 left cnt ∧ cnt ≤ Maps.size D0 ∧ wr.ownsMap Try.prog 3 heldR qm (Maps.size D0 - cnt) Dout ∧ Maps.Agree Dout D0 left ∧ Kept (fun b => b = qm) w4 wr) (fun _ _ wr => wr.rangeLeft hm rr)
  case atStart => exact ⟨_, _, .map [], HRG.out, Nat.le_refl _, N5.out.mono (Nat.zero_le _), Maps.agree_start D0, K5.out⟩
  case round =>
    obtain ⟨left, cnt, Dout, hrg, hcs, hout, hA, hk⟩ := hrel
    have HB : Hid (Blk wr q 65 (endC E (.slice A2 nw c2') qm)) := Lib.hid (hk.blk B4.out (fun h => by have := HQM.out.2; omega))
    have HRG2 := Lib.hid hrg; have HA := Lib.hid hA; have HK := Lib.hid hk; have HOUT := Lib.hid hout
    have HMQ : Hid (hm < w4.heap.size ∧ qm < w4.heap.size ∧ hm ≠ qm) := Lib.hid (by
      have h1 := W4.out.lt; have h2 := N4.out.lt; have h3 := HOWN.out.lt; have h4 := HQM.out; have h5 := HQ.out
      exact ⟨h1, h2, by omega⟩)
    clear hrg hA hk hout
    go_wp2_with (at_next; refine wpList_next_ranges _ rfl _ rfl 3 keyI heldR (Value.int .i64) (fun v : Value => v) (fun key kl hkey => by obtain ⟨x, rfl, _⟩ := Maps.keyOf_int_inv Try.underlying3 hkey; exact ⟨x, rfl⟩) (fun v y _ => ⟨v, rfl⟩) hm rr E.tot D0 left cnt rfl HRG2.out ?_ ?_)
    · intro hc0 hl0
      go_wp2_with fail
      go_ret
      have e := Maps.agree_end HA.out hl0 (HOUT.out.canon keyI) (HRG2.out.owns.canon keyI)
      have hout2 : wr.ownsMap Try.prog 3 heldR qm E.tot D0 := by
        have h1 := HOUT.out
        rw [e] at h1
        exact h1.mono (by have := HRG2.out.owns.size_le; omega)
      have hE : Ext w wr := by
        refine Ext_of_kept E4.out HK.out (fun b hb => ?_)
        rw [hb]; have := HQM.out; have := HQ.out; omega
      have hl : ∀ b, (b = q ∨ b = qm ∨ (Value.slice A2 nw c2').ownBlock = some b) → w.heap.size ≤ b ∧ b < wr.heap.size := fun b hb => by
        have h1 := HQM.out; have h2 := HQ.out; have h3 := HK.out.size; have h4 := HMQ.out
        rcases hb with rfl | rfl | hb
        · have := B4.out.lt; omega
        · omega
        · have h5 := own_ge O4.out hb
          have h6 := (O4.out.lt b hb).2
          have h7 := E1.out.size
          omega
      have hMo : ∀ b, b < w.heap.size → mor Mu (fun b => b = q ∨ b = qm ∨ (Value.slice A2 nw c2').ownBlock = some b) b → Mu b := fun b hb h => h.elim id (fun h => by have := (hl b h).1; omega)
      have hkw : Kept (fun _ => False) w wr := Kept.of_ext hE
      have I := HI.out
      refine ⟨q, rfl, hE, fun b => b = q ∨ b = qm ∨ (Value.slice A2 nw c2').ownBlock = some b, hl, fun b hb => ?_, A2, c2', qm, vs, h, ?_, ?_, I.msgs.keep hkw (fun _ h => h.elim) hMo, ⟨D0, hout2, HSZ.out, HAT.out⟩, fun i hi => (I.held i hi).keep hkw (fun _ h => h.elim) hMo, Or.inl rfl, Or.inr (Or.inl rfl), fun b hb => ⟨Or.inr (Or.inr (by rw [← HNW.out] at hb; exact hb)), fun h => ?_⟩, fun b hb => Or.inr hb, fun b hb => (hl b hb).2, I.ok⟩
      · rcases hb with hb | hb
        · exact Nat.lt_of_lt_of_le (HML.out b hb) hE.size
        · exact (hl b hb).2
      · rw [← HNW.out]; exact HB.out
      · rw [← HNW.out]
        exact own_mono (HK.out.own O4.out (fun b hb h => by
          have h1 := own_tag_map O4.out hb N4.out
          exact h1 h)) (Nat.zero_le _)
      · rw [← HNW.out] at hb
        have h1 := own_ge O4.out hb
        have h2 := HQ1.out
        omega
    · intro x cv kl y ys w6 cnt1 hkey hlk hv hatk hrg1 hlt hg1 hs1 hen
      obtain ⟨x', ex, hkl, hwx⟩ := Maps.keyOf_int_inv Try.underlying3 hkey
      cases ex
      subst hkl
      simp only [heldR, Option.some.injEq, Prod.mk.injEq] at hv
      obtain ⟨rfl, rfl⟩ := hv
      have hout1 := HOUT.out.kept hg1 (fun h => by injection h with h; have h1 := HRR.out; have h2 := HMQ.out; omega)
      have cq5 : w6.cell? ⟨q, 5, none⟩ = some (.map (some qm)) := ((Kept.of_grown (F := fun b => b = rr) hg1 (fun b hb _ => by injection hb with hb; exact hb.symm)).blk HB.out (fun h => by have h1 := HRR.out; have h2 := HQM.out; have h3 := HMQ.out; omega)).cell 5
      have HC := Lib.hid hcs; have HRG3 := Lib.hid hrg1; have HG1 := Lib.hid hg1; have HLT := Lib.hid hlt; have HAK := Lib.hid hatk; have HOUT1 := Lib.hid hout1
      have hcnt : Maps.size D0 - cnt < maxLen := by
        have h1 := HRG2.out.owns.size_le
        have h2 := HI.out.ok.t1
        simp only [maxLen]
        omega
      clear hcs hrg1 hg1 hlt hatk hout1 hs1 hlk
      go_wp2_with (at_mapUpdate; refine wpList_mapUpdate_own _ rfl _ _ _ 63 rfl 3 33 keyI Try.underlying63 heldR qm _ _ rfl HOUT1.out hcnt _ _ _ rfl rfl (Maps.keyOf_int_mk Try.underlying3 hwx) (.held cv) [] rfl ?_; intro w7 hout2 hg2; go_frame)
      have hrg2 := HRG3.out.kept hg2 (fun h => by injection h with h; have := HMQ.out; omega) (fun h => by injection h with h; have h1 := HRR.out; have h2 := HMQ.out; omega)
      have HRG4 := Lib.hid hrg2; have HOUT2 := Lib.hid hout2; have HG2 := Lib.hid hg2
      clear hrg2 hout2 hg2
      go_roundw
      case rel =>
        have h0 := HC.out; have h1 := HLT.out
        refine ⟨_, cnt1, _, HRG4.out, by omega, HOUT2.out.mono (by omega), Maps.agree_step HA.out HOUT.out.isMap trivial HAK.out, ?_⟩
        exact (HK.out.next (Kept.of_grown (F := fun b => b = rr) HG1.out (fun b hb _ => by injection hb with hb; exact hb.symm)) (fun b hb h => by have := HRR.out; omega)).next (Kept.of_grown (F := fun b => b = qm) HG2.out (fun b hb _ => by injection hb with hb; exact hb.symm)) (fun b hb h => h)
      case measure => rw [HRG4.out.left_eq, HRG2.out.left_eq]; exact HLT.out
end Go.Proofs.Ytkgmoklifkojhaa
