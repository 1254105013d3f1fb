/- link's In at a packet. Conditions: numbers below a bound. -/
import Derived.Test.YtkgmoklifkojhaaLkIn
set_option linter.unusedSimpArgs false
set_option linter.unusedVariables false
namespace Go.Proofs.Ytkgmoklifkojhaa
open Go.RowKit
theorem in_nil_ext {Mu Ft : Nat → Prop} {w w' : World} {p : Nat} {r : Int} {E : EndS} {WA : Option Addr} {wc hm : Nat} {vs : List Value} {h : Int → Option Value} (hml : ∀ b, Mu b → b < w.heap.size) (I : IsEnd Mu Ft w p E WA wc hm vs h) (hE : Ext w w') : InPost Mu Ft w p (([], r), E) (.returned (.tuple #[.slice none 0 0, .int .i64 r])) w' :=
  in_nil (Kept.of_ext hE) ⟨fun b hb => Nat.lt_of_lt_of_le (hml b hb) hE.size, WA, wc, hm, vs, h, I.ext hE⟩
theorem rd_kept {F : Nat → Prop} {w w' : World} {g n : Nat} {xs : List Value} (h : Rd w w.heap.size (some ⟨g, 0, none⟩) n xs) (hk : Kept F w w') (hF : ¬ F g) : Rd w' w'.heap.size (some ⟨g, 0, none⟩) n xs := by
  refine ⟨h.1, fun hn => ?_⟩
  obtain ⟨b, o, hA, hb, hc⟩ := h.2 hn
  injection hA with hA
  injection hA with hg ho
  subst hg; subst ho
  exact ⟨_, _, rfl, Nat.lt_of_lt_of_le hb hk.size, fun j u hj => (hk.cell (p := ⟨g, 0 + j, none⟩) hb hF).trans (hc j u hj)⟩
theorem held_some {Mu : Nat → Prop} {w : World} {x : Option Value} {y : Option (List Int)} (h : HeldEq Mu w x y) (hx : x.isSome = true) : y ≠ none := by
  cases x with
  | none => cases hx
  | some v => cases y with
    | none => exact h.elim
    | some m => exact fun h => by cases h
theorem msgs_one {Mu : Nat → Prop} {w : World} {vs : List Value} {ms : List (List Int)} (h : Msgs Mu w vs ms) : ∀ u ∈ vs, u.oneCell' = true := fun u hu => by
  obtain ⟨j, hj, rfl⟩ := List.getElem_of_mem hu
  obtain ⟨_, _, A, c, h3, _⟩ := h.2 j (by rw [← h.1]; exact hj)
  rw [List.getD_eq_getElem?_getD, List.getElem?_eq_getElem hj] at h3
  simp only [Option.getD_some] at h3
  rw [h3]
  rfl
theorem ack_plain {Mu Ft : Nat → Prop} {w w1 : World} {p : Nat} {E : EndS} {WA : Option Addr} {wc hm : Nat} {vs : List Value} {h : Int → Option Value} (I : IsEnd Mu Ft w p E WA wc hm vs h) (a : Int) (ha : 0 < a - E.acked) (ha2 : a ≤ E.acked + E.waiting.length)
    (ho : w1.ownsRow 0 33 1 (.slice WA (E.waiting.length - (a - E.acked).toNat) wc) (E.waiting.length - (a - E.acked).toNat) (vs.drop (a - E.acked).toNat)) (hg : w.grownBy w1 (Value.slice WA E.waiting.length wc).ownBlock) :
    IsEnd Mu Ft ((w1.setCell ⟨p, 2, none⟩ (.slice WA (E.waiting.length - (a - E.acked).toNat) wc)).setCell ⟨p, 3, none⟩ (.int .i64 a)) p (ackE E a) WA wc hm (vs.drop (a - E.acked).toNat) h ∧ Kept Ft w ((w1.setCell ⟨p, 2, none⟩ (.slice WA (E.waiting.length - (a - E.acked).toNat) wc)).setCell ⟨p, 3, none⟩ (.int .i64 a)) := by
  have hA : ackE E a = { E with waiting := E.waiting.drop (a - E.acked).toNat, acked := a } := by unfold ackE; rw [if_pos ha]
  have hk01 : Kept (fun b => (Value.slice WA E.waiting.length wc).ownBlock = some b) w w1 := Kept.of_grown hg (fun b hb _ => hb)
  have hk12 : Kept (fun b => b = p) w1 ((w1.setCell ⟨p, 2, none⟩ (.slice WA (E.waiting.length - (a - E.acked).toNat) wc)).setCell ⟨p, 3, none⟩ (.int .i64 a)) :=
    (Kept.setCell (F := fun b => b = p) (p := ⟨p, 2, none⟩) w1 rfl _).trans (Kept.setCell (F := fun b => b = p) (p := ⟨p, 3, none⟩) _ rfl _)
  have hk : Kept Ft w ((w1.setCell ⟨p, 2, none⟩ (.slice WA (E.waiting.length - (a - E.acked).toNat) wc)).setCell ⟨p, 3, none⟩ (.int .i64 a)) :=
    (hk01.mono (fun b _ hb => (I.fr b hb).1)).trans (hk12.mono (fun b _ hb => by rw [hb]; exact I.fp))
  have hb1 : Blk w1 p 65 (endC E (.slice WA E.waiting.length wc) hm) := hk01.blk I.blk (fun hf => (I.fr p hf).2 rfl)
  have hw : E.waiting.length - (a - E.acked).toNat = (E.waiting.drop (a - E.acked).toNat).length := by rw [List.length_drop]
  have hrp : ∀ b, (Value.slice WA (E.waiting.length - (a - E.acked).toNat) wc).ownBlock = some b → (Value.slice WA E.waiting.length wc).ownBlock = some b := fun b hb => by
    cases WA with
    | none => cases hb
    | some q => exact hb
  rw [hA]
  refine ⟨⟨?_, ?_, ?_, ?_, fun i hi => (I.held i hi).keep hk I.fm (fun _ _ h => h), I.fp, I.fh, ?_, I.fm, fun b hb => Nat.lt_of_lt_of_le (I.fl b hb) hk.size, ?_⟩, hk⟩
  · have := (hb1.set 2 (.slice WA (E.waiting.length - (a - E.acked).toNat) wc)).set 3 (.int .i64 a)
    rw [hw] at this ⊢
    exact this
  · rw [← hw]
    exact hk12.own ho (fun b hb hf => (I.fr b (hrp b hb)).2 hf)
  · exact (I.msgs.drop _).keep hk I.fm (fun _ _ h => h)
  · have hk2 : Kept (fun b => (Value.slice WA E.waiting.length wc).ownBlock = some b ∨ b = p) w ((w1.setCell ⟨p, 2, none⟩ (.slice WA (E.waiting.length - (a - E.acked).toNat) wc)).setCell ⟨p, 3, none⟩ (.int .i64 a)) := (hk01.mono (fun b _ h => Or.inl h)).trans (hk12.mono (fun b _ h => Or.inr h))
    refine I.map.kept hk2 ?_
    rintro (hf | hf)
    · rcases I.row.2 with ⟨h1, _⟩ | ⟨g, cap, cur, h1, _, h3, _⟩
      · rw [h1] at hf; cases hf
      · rw [h1] at hf
        have h4 : g = hm := by simpa [Value.ownBlock] using hf
        subst h4
        exact I.map.ne_blk (g := g) (t := 33) (cs := cur.toList) (by unfold Blk; rw [Array.toArray_toList]; exact h3) rfl
    · exact I.map.ne_blk I.blk hf
  · intro b hb
    rw [← hw] at hb
    exact I.fr b (hrp b hb)
  · obtain ⟨o1, o2, o3, o4, o5, o6, o7, o8, o9, o10, o11, o12⟩ := I.ok
    constructor <;> simp [List.length_drop] <;> omega
theorem owes_plain {Mu Ft : Nat → Prop} {w : World} {p : Nat} {E : EndS} {WA : Option Addr} {wc hm : Nat} {vs : List Value} {h : Int → Option Value} (I : IsEnd Mu Ft w p E WA wc hm vs h) :
    IsEnd Mu Ft (w.setCell ⟨p, 6, none⟩ (.bool true)) p (owesE E) WA wc hm vs h ∧ Kept Ft w (w.setCell ⟨p, 6, none⟩ (.bool true)) := by
  have hk1 : Kept (fun b => b = p ∨ b = hm) w (w.setCell ⟨p, 6, none⟩ (.bool true)) := Kept.setCell (p := ⟨p, 6, none⟩) w (Or.inl rfl) _
  have hM : ∀ b, (b = p ∨ b = hm) → Mu b := by
    rintro b (rfl | rfl)
    · exact I.fm _ I.fp
    · exact I.fm _ I.fh
  refine ⟨I.change hk1 rfl ?_ (I.map.kept (Kept.setCell (F := fun b => b = p) (p := ⟨p, 6, none⟩) w rfl _) (fun h => I.map.ne_blk I.blk h)) (fun i hi => (I.held i hi).keep hk1 hM (fun _ _ h => h)) ?_, hk1.mono (fun b _ hb => hb.elim (fun h => by rw [h]; exact I.fp) (fun h => by rw [h]; exact I.fh))⟩
  · have := I.blk.set 6 (.bool true)
    simpa [endC, owesE] using this
  · obtain ⟨o1, o2, o3, o4, o5, o6, o7, o8, o9, o10, o11, o12⟩ := I.ok
    constructor <;> simp [owesE] <;> omega
theorem put_plain {Mu Ft : Nat → Prop} {w w1 : World} {p : Nat} {E : EndS} {WA : Option Addr} {wc hm : Nat} {vs : List Value} {h : Int → Option Value} (I : IsEnd Mu Ft w p E WA wc hm vs h) {s : Int} {m : List Int} {v : Value} (hd : E.delivered < s) (hs : in64 s) (hh : h s = none) (hv : Msg Mu w v m) (ht : E.tot < 1000000000) (hc : E.delivered + E.cnt < 1000000000)
    (hmap : HeldMap w1 hm (E.tot + 1) (E.cnt + 1) (fun j => if j = s then some v else h j)) (hg : w.grownBy w1 (some hm)) :
    IsEnd Mu Ft w1 p (putE E s m) WA wc hm vs (fun j => if j = s then some v else h j) ∧ Kept Ft w w1 := by
  have hn : E.held s = none := by
    have := I.held s hs
    rw [hh] at this
    cases hc : E.held s with
    | none => rfl
    | some m => rw [hc] at this; exact this.elim
  have hP : putE E s m = { E with held := fun j => if j = s then some m else E.held j, tot := E.tot + 1, cnt := E.cnt + 1 } := by unfold putE; rw [if_pos ⟨hd, hn⟩]
  have hk1 : Kept (fun b => b = p ∨ b = hm) w w1 := Kept.of_grown hg (fun b hb _ => by injection hb with hb; exact Or.inr hb.symm)
  have hM : ∀ b, (b = p ∨ b = hm) → Mu b := by
    rintro b (rfl | rfl)
    · exact I.fm _ I.fp
    · exact I.fm _ I.fh
  rw [hP]
  refine ⟨I.change hk1 rfl ?_ hmap (fun i hi => ?_) ?_, hk1.mono (fun b _ hb => hb.elim (fun h => by rw [h]; exact I.fp) (fun h => by rw [h]; exact I.fh))⟩
  · exact Kept.blk (F := fun b => b = hm) (Kept.of_grown hg (fun b hb _ => by injection hb with hb; exact hb.symm)) I.blk (fun hf => I.map.ne_blk I.blk hf.symm)
  · by_cases hie : i = s
    · simp only [hie, if_true]; exact Msg.keep hv hk1 hM (fun _ _ h => h)
    · simp only [hie, if_false]; exact (I.held i hi).keep hk1 hM (fun _ _ h => h)
  · obtain ⟨o1, o2, o3, o4, o5, o6, o7, o8, o9, o10, o11, o12⟩ := I.ok
    constructor <;> simp <;> omega
set_option maxHeartbeats 4000000 in
set_option maxRecDepth 100000 in
theorem in_pkt (Mu Ft : Nat → Prop) (p : Nat) (E : EndS) (x : List Int) (A : Option Addr) (n c : Nat) (w : World) (hE : EndAt Mu Ft w p E) (hl : Rd w w.heap.size A n (u8s x)) (hby : Byt x) (hn : n ≤ 1000000000) (hnc : n ≤ c) (hc : c ≤ 9223372036854775807) (hft : E.tot < 1000000000) (hfc : E.delivered + E.cnt < 1000000000) (core : List Int) (s a : Int) (m : List Int) (hop : openL E.key x = (core, 0)) (hrd : readL core = some (s, a, m)) :
    Calls Try.prog 19 #[.pointer (some ⟨p, 0, none⟩), .slice A n c] w fun e w' => InPost Mu Ft w p (inE E x) e w' := by
  have hR : inE E x = pktIn E s a m := by unfold inE; rw [hop]; simp only [if_true, hrd]
  rw [hR]
  obtain ⟨R, hR2⟩ : ∃ R, R = pktIn E s a m := ⟨_, rfl⟩
  rw [← hR2]
  have HR := Lib.hid hR2
  clear hR2
  obtain ⟨hml, WA, wc, hm, vs, h, I⟩ := hE
  have ok := I.ok
  have HML := Lib.hid hml; have HI := Lib.hid I; have HL := Lib.hid hl; have HBY := Lib.hid hby
  obtain ⟨ky, hky⟩ : ∃ k, k = E.key := ⟨_, rfl⟩
  have hc1 : w.cell? ⟨p, 1, none⟩ = some (.int .u64 ky) := by rw [hky]; exact I.blk.cell 1
  have k0 : 0 ≤ ky := by rw [hky]; exact ok.k0
  have k1 : ky ≤ 18446744073709551615 := by rw [hky]; exact ok.k1
  have HKY := Lib.hid hky
  rw [← hky] at hop
  have HOP := Lib.hid hop; have HRN := Lib.hid hrd
  have HBC : Hid (Byt core) := Lib.hid (by have := openL_byt (key := ky) hby; rw [hop] at this; exact this)
  have HCL : Hid (core.length ≤ 1000000000) := Lib.hid (openL_len hop (by have := hl.1; simp [u8s] at this; omega))
  obtain ⟨nw, hnw⟩ : ∃ k, k = E.waiting.length := ⟨_, rfl⟩
  obtain ⟨ac, hac⟩ : ∃ k, k = E.acked := ⟨_, rfl⟩
  obtain ⟨dl, hdl⟩ : ∃ k, k = E.delivered := ⟨_, rfl⟩
  have a0 : 0 ≤ ac := by rw [hac]; exact ok.a0
  have a1 : ac + nw ≤ 1000000000 := by rw [hac, hnw]; exact ok.a1
  have d0' : 0 ≤ dl := by rw [hdl]; exact ok.d0
  have d1' : dl ≤ 1000000000 := by rw [hdl]; have := ok.d1; omega
  have n1 : nw ≤ 1000 := by rw [hnw]; exact ok.n1
  have HNW := Lib.hid hnw; have HAC := Lib.hid hac; have HDL := Lib.hid hdl; have HFT := Lib.hid hft; have HFC := Lib.hid hfc
  clear hml I hl hby ok hky hop hR hrd hnw hac hdl hft hfc
  go_enter Try.func19, Try.ntmps19
  go_upto_region 9 with (first
    | (go_at_call 25; (with_reducible refine (open_any ky k0 k1 x A n c w HL.out HBY.out hn hnc hc).mono ?_); rintro e w1 ⟨⟨A1, c1, rfl, ho1⟩, hE1⟩; rw [HOP.out] at ho1 ⊢; have E1 := Lib.hid hE1; obtain ⟨hcA, hcB⟩ := own_cap ho1; have HR1 := Lib.hid (own_rd ho1); have HC1 : Hid (core.length ≤ c1 ∧ c1 ≤ 9223372036854775807) := Lib.hid ⟨hcA, hcB⟩; clear hcA hcB; clear ho1 hE1)
    | (go_at_call 36; (with_reducible refine (read_any core A1 core.length c1 w1 HR1.out HBC.out HCL.out HC1.out.1 HC1.out.2).mono ?_); rintro e w2 ⟨⟨a2, b2, A2, k2, c2, rfl, hr2⟩, hE2⟩; rw [HRN.out] at hr2 ⊢; have E2 : Hid (Ext w w2) := Lib.hid (E1.out.next hE2); obtain ⟨e1, e2, e3, hm64, s0, t0, s1, t1, hbm, hrm, gm, hA2, hgm⟩ := hr2 _ _ _ rfl; rw [e1, e2, e3, hA2]; rw [e3, hA2] at hrm; have HRM := Lib.hid hrm; have HBM := Lib.hid hbm; have HGM : Hid (w.heap.size ≤ gm) := Lib.hid (Nat.le_trans E1.out.size hgm); clear hr2 hE2 e1 e2 e3 hrm hA2 hgm hbm)
    | ((refine wpList_store_fresh rfl 68 (.tmp 8) (.tmp 37) rfl _ w2.heap.size rfl (pkC 0 0 none 0 0) (pkC s a (some ⟨gm, 0, none⟩) m.length c2) 68 (by rfl) (by rfl) rfl (info_pkt.trans rfl) rfl (pkC_one _ _ _ _ _) ?_); intro w3 hw3 hE3 hz3; have E3 : Hid (Ext w w3) := Lib.hid (E2.out.next hE3); have HE23 := Lib.hid hE3; have D3 := Lib.hid hw3; obtain ⟨p3, hp3⟩ : ∃ p, p = w2.heap.size := ⟨_, rfl⟩; rw [← hp3] at D3 ⊢; have HP3 : Hid (w.heap.size ≤ p3) := Lib.hid (by rw [hp3]; exact E2.out.size);  clear hw3 hz3 hp3 hE3))
  have hb3 := HI.out.ext E3.out
  have HPW3 := Lib.hid hb3.blk.lt
  have HRM3 : Hid (Rd w3 w3.heap.size (some ⟨gm, 0, none⟩) m.length (u8s m)) := Lib.hid (HRM.out.ext' HE23.out)
  have q2 : w3.cell? ⟨p, 2, none⟩ = some (.slice WA nw wc) := by rw [HNW.out]; exact hb3.blk.cell 2
  have q3 : w3.cell? ⟨p, 3, none⟩ = some (.int .i64 ac) := by rw [HAC.out]; exact hb3.blk.cell 3
  have q4 : w3.cell? ⟨p, 4, none⟩ = some (.int .i64 dl) := by rw [HDL.out]; exact hb3.blk.cell 4
  have r0 : w3.cell? ⟨p3, 0, none⟩ = some (.int .i64 s) := D3.out.cell 0
  have r1 : w3.cell? ⟨p3, 1, none⟩ = some (.int .i64 a) := D3.out.cell 1
  have HI3 := Lib.hid hb3
  clear hb3
  by_cases hfar : ac + nw < a ∨ dl + 16 < s
  · have hP : R = (([], 0), E) := by rw [HR.out]; unfold pktIn; rw [← HAC.out, ← HNW.out, ← HDL.out, if_pos hfar]
    have HPP := Lib.hid hP
    clear hP
    by_cases hf1 : ac + nw < a
    · go_quiet (fail)
      go_wp2_with fail
      go_ret2
      rw [HPP.out]
      exact in_nil_ext HML.out HI.out (E3.out.drewN _)
    · have hf2 : dl + 16 < s := by omega
      go_quiet (fail)
      go_wp2_with fail
      go_ret2
      rw [HPP.out]
      exact in_nil_ext HML.out HI.out (E3.out.drewN _)
  · have hf1 : ¬ (ac + nw < a) := fun h => hfar (Or.inl h)
    have hf2 : ¬ (dl + 16 < s) := fun h => hfar (Or.inr h)
    go_quiet (fail)
    go_upto_region 11 with fail
    go_quiet (fail)
    generalize hg4 : (w3.drewN _).drewN _ = w4
    have E34 : Hid (Ext w3 w4) := Lib.hid (by rw [← hg4]; exact ((Ext.refl w3).drewN _).drewN _)
    have E4 : Hid (Ext w w4) := Lib.hid (E3.out.next E34.out)
    have HI4 := Lib.hid (HI3.out.ext E34.out)
    have D4 := Lib.hid (D3.out.ext E34.out)
    have HR4 := Lib.hid (HRM3.out.ext' E34.out)
    have q2' : w4.cell? ⟨p, 2, none⟩ = some (.slice WA nw wc) := by rw [HNW.out]; exact HI4.out.blk.cell 2
    have r1' : w4.cell? ⟨p3, 1, none⟩ = some (.int .i64 a) := D4.out.cell 1
    have HPP3 : Hid (p3 ≠ p) := Lib.hid (by have := HI.out.blk.lt; have := HP3.out; omega)
    clear hg4 q2 q3 q4 r0 r1
    by_cases hn0 : 0 < a - ac
    · have hna : ac ≤ a := by omega
      obtain ⟨q, hq⟩ : ∃ q : Nat, (q : Int) = a - ac := ⟨(a - ac).toNat, by omega⟩
      have HQ := Lib.hid hq
      have HV1 := Lib.hid (msgs_one HI4.out.msgs)
      have hq0 : 0 < q := by omega
      have hqn : q ≤ nw := by omega
      have hrw : Hid (w4.ownsRow 0 33 1 (.slice WA nw wc) nw vs) := Lib.hid (by rw [HNW.out]; exact HI4.out.row)
      have HB4 : Hid (∀ w5, w4.grownBy w5 (Value.slice WA nw wc).ownBlock → w5.cell? ⟨p, 2, none⟩ = some (.slice WA nw wc) ∧ w5.frozen? ⟨p, 2, none⟩ = false ∧ (w5.setCell ⟨p, 2, none⟩ (.slice WA (nw - q) wc)).cell? ⟨p, 3, none⟩ = some (.int .i64 ac) ∧ (w5.setCell ⟨p, 2, none⟩ (.slice WA (nw - q) wc)).frozen? ⟨p, 3, none⟩ = false ∧ (w5.setCell ⟨p, 2, none⟩ (.slice WA (nw - q) wc)).cell? ⟨p3, 1, none⟩ = some (.int .i64 a) ∧ Blk w5 p3 68 (pkC s a (some ⟨gm, 0, none⟩) m.length c2)) := Lib.hid (fun w5 hg => by
        have hk : Kept (fun b => (Value.slice WA nw wc).ownBlock = some b) w4 w5 := Kept.of_grown hg (fun b hb _ => hb)
        have hbA : Blk w5 p 65 (endC E (.slice WA nw wc) hm) := by
          rw [HNW.out] at hk ⊢
          exact hk.blk HI4.out.blk (fun hf => (HI4.out.fr p hf).2 rfl)
        have hbB : Blk w5 p3 68 (pkC s a (some ⟨gm, 0, none⟩) m.length c2) := by
          rw [HNW.out] at hk
          exact hk.blk D4.out (fun hf => by have h1 := (HI.out.fr p3 hf).1; have h2 := HI.out.fl p3 h1; have h3 := HP3.out; omega)
        refine ⟨hbA.cell 2, hbA.frozen 2, ?_, (hbA.set 2 (.slice WA (nw - q) wc)).frozen 3, (hbB.far (p := ⟨p, 2, none⟩) HPP3.out _).cell 1, hbB⟩
        have := (hbA.set 2 (.slice WA (nw - q) wc)).cell 3
        rw [HAC.out]
        exact this)
      clear hq
      go_upto_region 15 with (first
        | (go_at_call 37; rw [← HQ.out]; (with_reducible refine (delete_any w4 0 WA nw wc vs q hrw.out HV1.out hq0 hqn (by omega)).mono ?_); rintro e w5 ⟨rfl, ho5, hg5⟩; obtain ⟨x2, y2, z3, z4, z5, hbB⟩ := HB4.out w5 hg5; have D5 := Lib.hid hbB; have HO5 := Lib.hid ho5; have HG5 := Lib.hid hg5; clear ho5 hg5 hbB))
      have hnq : nw - q = E.waiting.length - (a - E.acked).toNat := by have := HQ.out; have := HNW.out; have := HAC.out; omega
      have hqq : q = (a - E.acked).toNat := by have := HQ.out; have := HAC.out; omega
      obtain ⟨hIA, hKA⟩ := ack_plain HI4.out a (by rw [← HAC.out]; exact hn0) (by rw [← HAC.out, ← HNW.out]; omega) (by rw [← hnq, ← hqq]; exact HO5.out) (by rw [← HNW.out]; exact HG5.out)
      rw [← hnq] at hIA hKA
      have hD6 := (D5.out.far (p := ⟨p, 2, none⟩) HPP3.out (.slice WA (nw - q) wc)).far (p := ⟨p, 3, none⟩) HPP3.out (.int .i64 a)
      obtain ⟨w6, hw6⟩ : ∃ w6, w6 = (w5.setCell ⟨p, 2, none⟩ (.slice WA (nw - q) wc)).setCell ⟨p, 3, none⟩ (.int .i64 a) := ⟨_, rfl⟩
      rw [← hw6] at hIA hKA hD6 ⊢
      obtain ⟨vs6, hv6⟩ : ∃ v, v = vs.drop (a - E.acked).toNat := ⟨_, rfl⟩
      rw [← hv6] at hIA
      have I6 := Lib.hid hIA
      have K6 : Hid (Kept Ft w w6) := Lib.hid ((Kept.of_ext E4.out).trans hKA)
      have HR6 : Hid (Rd w6 w6.heap.size (some ⟨gm, 0, none⟩) m.length (u8s m)) := Lib.hid (rd_kept HR4.out hKA (fun hf => by have h2 := HI.out.fl gm hf; have h3 := HGM.out; omega))
      have D6 := Lib.hid hD6
      clear hIA hKA hD6 hw6 hv6 hnq hqq x2 y2 z3 z4 z5
      by_cases hs0 : s = 0
      · have HPP : Hid (R = (([], 0), ackE E a)) := Lib.hid (by rw [HR.out]; unfold pktIn; rw [if_neg (by rw [← HAC.out, ← HNW.out, ← HDL.out]; exact hfar), if_pos hs0])
        have r6 : w6.cell? ⟨p3, 0, none⟩ = some (.int .i64 s) := D6.out.cell 0
        have HEN : Hid (EndAt Mu Ft w6 p (ackE E a)) := Lib.hid ⟨fun b hb => Nat.lt_of_lt_of_le (HML.out b hb) K6.out.size, WA, wc, hm, vs6, h, I6.out⟩
        go_wp2_with fail
        go_ret2
        rw [HPP.out]
        exact in_nil K6.out HEN.out
      · obtain ⟨E3, hE3⟩ : ∃ e, e = putE (owesE (ackE E a)) s m := ⟨_, rfl⟩
        have HPP : Hid (R = (((deliverN E3.cnt E3 []).1, 0), (deliverN E3.cnt E3 []).2)) := Lib.hid (by rw [HR.out, hE3]; unfold pktIn; rw [if_neg (by rw [← HAC.out, ← HNW.out, ← HDL.out]; exact hfar), if_neg hs0])
        have HE3 := Lib.hid hE3
        clear hE3
        have HDE : Hid ((owesE (ackE E a)).delivered = dl) := Lib.hid (by rw [HDL.out]; unfold owesE ackE; split <;> rfl)
        have HTE : Hid ((owesE (ackE E a)).tot = E.tot) := Lib.hid (by unfold owesE ackE; split <;> rfl)
        have HCE : Hid ((owesE (ackE E a)).cnt = E.cnt) := Lib.hid (by unfold owesE ackE; split <;> rfl)
        have HIN : Hid (in64 s) := Lib.hid (by unfold in64; omega)
        have r6 : w6.cell? ⟨p3, 0, none⟩ = some (.int .i64 s) := D6.out.cell 0
        have u6 : w6.cell? ⟨p, 6, none⟩ = some (.bool (ackE E a).owing) := I6.out.blk.cell 6
        have f6 : w6.frozen? ⟨p, 6, none⟩ = false := I6.out.blk.frozen 6
        go_upto_region 18 with fail
        have hsb : (s == 0) = false := by simpa using hs0
        rw [hsb]
        clear hs0 hsb
        obtain ⟨hI7, hK7⟩ := owes_plain I6.out
        have hD7 := D6.out.far (p := ⟨p, 6, none⟩) HPP3.out (.bool true)
        obtain ⟨w7, hw7⟩ : ∃ w7, w7 = w6.setCell ⟨p, 6, none⟩ (.bool true) := ⟨_, rfl⟩
        rw [← hw7] at hI7 hK7 hD7 ⊢
        have I7 := Lib.hid hI7; have D7 := Lib.hid hD7
        have K7 : Hid (Kept Ft w w7) := Lib.hid (K6.out.trans hK7)
        have HR7 : Hid (Rd w7 w7.heap.size (some ⟨gm, 0, none⟩) m.length (u8s m)) := Lib.hid (rd_kept HR6.out hK7 (fun hf => by have h2 := HI.out.fl gm hf; have h3 := HGM.out; omega))
        clear hI7 hK7 hD7 hw7 r6 u6 f6
        obtain ⟨z, hz⟩ : ∃ z, (h s).getD (.slice none 0 0) = z := ⟨_, rfl⟩
        obtain ⟨b, hb⟩ : ∃ b, (h s).isSome = b := ⟨_, rfl⟩
        have HZ := Lib.hid (And.intro hz hb)
        have HB := Lib.hid hb
        clear hz hb
        refine wp_region_flow 12 (by kernel_rfl) (by kernel_rfl) (fun a b => Ext a b) Ext.refl (fun h1 h2 => h1.next h2) (fun i v W => match i with
          | 0 => v = .pointer (some ⟨p, 0, none⟩)
          | 1 => v = .pointer (some ⟨p, 0, none⟩)
          | 2 => v = .pointer (some ⟨p, 5, none⟩)
          | 3 => v = .map (some hm)
          | 4 => v = .pointer (some ⟨p3, 0, none⟩)
          | 5 => v = .int .i64 s
          | 6 => v = .tuple #[z, .bool b]
          | 7 => v = .tuple #[z, .bool b]
          | 8 => v = z
          | 9 => v = .bool b
          | 10 => v = z
          | 11 => v = .bool b
          | _ => True) ?_ ?_
        · simp only [List.take_succ_cons, List.take_zero, flowSteps]
          refine ⟨?_, ?_, ?_, ?_, ?_, ?_, ?_, ?_, ?_, ?_, ?_, ?_, trivial⟩
          · intro us W K hE hd hK
            simp only [flowAct, Nat.zero_add, Nat.reduceAdd, Act.put, List.setIfInBounds_toArray, List.set_cons_succ, List.set_cons_zero] at hK ⊢
            have HK := Lib.hid hK; have HE := Lib.hid hE
            clear hK hd hE
            go_wp2_with fail
            exact K_at (HK.out (.pointer (some ⟨p, 0, none⟩)) W (fun _ _ => rfl) (Ext.refl W)) (by kernel_rfl)
          · intro us W K hE hd hK
            have d0 := hd 0 (by kernel_rfl)
            simp only [flowAct, Nat.zero_add, Nat.reduceAdd, Act.put, List.setIfInBounds_toArray, List.set_cons_succ, List.set_cons_zero] at hK ⊢
            rw [d0] at hK ⊢
            have HK := Lib.hid hK; have HE := Lib.hid hE
            clear hK hd hE d0
            go_wp2_with fail
            exact K_at (HK.out (.pointer (some ⟨p, 0, none⟩)) W (fun _ _ => rfl) (Ext.refl W)) (by kernel_rfl)
          · intro us W K hE hd hK
            have d1 := hd 1 (by kernel_rfl)
            simp only [flowAct, Nat.zero_add, Nat.reduceAdd, Act.put, List.setIfInBounds_toArray, List.set_cons_succ, List.set_cons_zero] at hK ⊢
            rw [d1] at hK ⊢
            have HK := Lib.hid hK; have HE := Lib.hid hE
            clear hK hd hE d1
            go_wp2_with fail
            exact K_at (HK.out (.pointer (some ⟨p, 5, none⟩)) W (fun _ _ => rfl) (Ext.refl W)) (by kernel_rfl)
          · intro us W K hE hd hK
            have d2 := hd 2 (by kernel_rfl)
            have c0 := hE.cell (p := ⟨p, 5, none⟩) I7.out.blk.lt
            rw [show (w7.drew).cell? ⟨p, 5, none⟩ = some (.map (some hm)) from I7.out.blk.cell 5] at c0
            simp only [flowAct, Nat.zero_add, Nat.reduceAdd, Act.put, List.setIfInBounds_toArray, List.set_cons_succ, List.set_cons_zero] at hK ⊢
            rw [d2] at hK ⊢
            have HK := Lib.hid hK; have HE := Lib.hid hE
            clear hK hd hE d2
            go_wp2_with fail
            exact K_at (HK.out (.map (some hm)) W (fun _ _ => rfl) (Ext.refl W)) (by kernel_rfl)
          · intro us W K hE hd hK
            simp only [flowAct, Nat.zero_add, Nat.reduceAdd, Act.put, List.setIfInBounds_toArray, List.set_cons_succ, List.set_cons_zero] at hK ⊢
            have HK := Lib.hid hK; have HE := Lib.hid hE
            clear hK hd hE
            go_wp2_with fail
            exact K_at (HK.out (.pointer (some ⟨p3, 0, none⟩)) W (fun _ _ => rfl) (Ext.refl W)) (by kernel_rfl)
          · intro us W K hE hd hK
            have d4 := hd 4 (by kernel_rfl)
            have c0 := hE.cell (p := ⟨p3, 0, none⟩) D7.out.lt
            rw [show (w7.drew).cell? ⟨p3, 0, none⟩ = some (.int .i64 s) from D7.out.cell 0] at c0
            simp only [flowAct, Nat.zero_add, Nat.reduceAdd, Act.put, List.setIfInBounds_toArray, List.set_cons_succ, List.set_cons_zero] at hK ⊢
            rw [d4] at hK ⊢
            have HK := Lib.hid hK; have HE := Lib.hid hE
            clear hK hd hE d4
            go_wp2_with fail
            exact K_at (HK.out (.int .i64 s) W (fun _ _ => rfl) (Ext.refl W)) (by kernel_rfl)
          · intro us W K hE hd hK
            have d3 := hd 3 (by kernel_rfl)
            have d5 := hd 5 (by kernel_rfl)
            have hMW := I7.out.map.kept (Kept.of_ext (F := fun _ => False) (show Ext w7 W from (Ext.refl w7).drew.next hE)) id
            simp only [flowAct, Nat.zero_add, Nat.reduceAdd, Act.put, List.setIfInBounds_toArray, List.set_cons_succ, List.set_cons_zero] at hK ⊢
            rw [d3, d5] at hK ⊢
            have HK := Lib.hid hK; have HE := Lib.hid hE
            clear hK hd hE d3 d5
            refine wpList_look_held rfl (.tmp 97) (.tmp 99) rfl rfl hMW s rfl HIN.out ?_
            rw [HZ.out.1, HZ.out.2]
            change K _ _
            exact K_at (HK.out (.tuple #[z, .bool b]) W (fun _ _ => rfl) (Ext.refl W)) (by kernel_rfl)
          · intro us W K hE hd hK
            have d6 := hd 6 (by kernel_rfl)
            simp only [flowAct, Nat.zero_add, Nat.reduceAdd, Act.put, List.setIfInBounds_toArray, List.set_cons_succ, List.set_cons_zero] at hK ⊢
            rw [d6] at hK ⊢
            have HK := Lib.hid hK; have HE := Lib.hid hE
            clear hK hd hE d6
            go_wp2_with fail
            exact K_at (HK.out (.tuple #[z, .bool b]) W (fun _ _ => rfl) (Ext.refl W)) (by kernel_rfl)
          · intro us W K hE hd hK
            have d7 := hd 7 (by kernel_rfl)
            simp only [flowAct, Nat.zero_add, Nat.reduceAdd, Act.put, List.setIfInBounds_toArray, List.set_cons_succ, List.set_cons_zero] at hK ⊢
            rw [d7] at hK ⊢
            have HK := Lib.hid hK; have HE := Lib.hid hE
            clear hK hd hE d7
            go_wp2_with fail
            exact K_at (HK.out (z) W (fun _ _ => rfl) (Ext.refl W)) (by kernel_rfl)
          · intro us W K hE hd hK
            have d7 := hd 7 (by kernel_rfl)
            simp only [flowAct, Nat.zero_add, Nat.reduceAdd, Act.put, List.setIfInBounds_toArray, List.set_cons_succ, List.set_cons_zero] at hK ⊢
            rw [d7] at hK ⊢
            have HK := Lib.hid hK; have HE := Lib.hid hE
            clear hK hd hE d7
            go_wp2_with fail
            exact K_at (HK.out (.bool b) W (fun _ _ => rfl) (Ext.refl W)) (by kernel_rfl)
          · intro us W K hE hd hK
            have d8 := hd 8 (by kernel_rfl)
            simp only [flowAct, Nat.zero_add, Nat.reduceAdd, Act.put, List.setIfInBounds_toArray, List.set_cons_succ, List.set_cons_zero] at hK ⊢
            rw [d8] at hK ⊢
            have HK := Lib.hid hK; have HE := Lib.hid hE
            clear hK hd hE d8
            go_wp2_with fail
            exact K_at (HK.out (z) W (fun _ _ => rfl) (Ext.refl W)) (by kernel_rfl)
          · intro us W K hE hd hK
            have d9 := hd 9 (by kernel_rfl)
            simp only [flowAct, Nat.zero_add, Nat.reduceAdd, Act.put, List.setIfInBounds_toArray, List.set_cons_succ, List.set_cons_zero] at hK ⊢
            rw [d9] at hK ⊢
            have HK := Lib.hid hK; have HE := Lib.hid hE
            clear hK hd hE d9
            go_wp2_with fail
            exact K_at (HK.out (.bool b) W (fun _ _ => rfl) (Ext.refl W)) (by kernel_rfl)
        · intro us W hE hd
          have d11 := hd 11 (by decide)
          have d10 := hd 10 (by decide)
          simp only [List.take_succ_cons, List.take_zero, List.drop_succ_cons, List.drop_zero, flowAct, Nat.zero_add, Nat.reduceAdd, Act.put, List.setIfInBounds_toArray, List.set_cons_succ, List.set_cons_zero]
          rw [d11, d10]
          have E8 : Hid (Ext w7 W) := Lib.hid ((Ext.refl w7).drew.next hE)
          clear hE hd d11 d10
          simp only [wpList, Exit.then, Act.put, List.setIfInBounds_toArray, List.set_cons_succ, List.set_cons_zero]
          have I8 := Lib.hid (I7.out.ext E8.out)
          have D8 := Lib.hid (D7.out.ext E8.out)
          have HR8 := Lib.hid (HR7.out.ext' E8.out)
          have K8 : Hid (Kept Ft w W) := Lib.hid (K7.out.trans (Kept.of_ext E8.out))
          have r8 : W.cell? ⟨p3, 0, none⟩ = some (.int .i64 s) := D8.out.cell 0
          have u8 : W.cell? ⟨p, 4, none⟩ = some (.int .i64 dl) := by rw [← HDE.out]; exact I8.out.blk.cell 4
          go_upto_region 19 with fail
          by_cases hd1 : dl < s
          · cases b with
            | true =>
              have HE3b : Hid (E3 = owesE (ackE E a)) := Lib.hid (by rw [HE3.out]; unfold putE; rw [if_neg]; rw [HDE.out]; exact fun h2 => held_some (I7.out.held s HIN.out) HB.out h2.2)
              go_quiet (fail)
              generalize hg9 : W.drewN _ = w9
              have E9 : Hid (Ext W w9) := Lib.hid (by rw [← hg9]; exact (Ext.refl W).drewN _)
              have K9 : Hid (Kept Ft w w9) := Lib.hid (K8.out.trans (Kept.of_ext E9.out))
              clear hg9
              have hml2 : ∀ b, Mu b → b < w9.heap.size := fun b hb => Nat.lt_of_lt_of_le (HML.out b hb) K9.out.size
              have HEA := Lib.hid (show EndAt Mu Ft w9 p E3 from ⟨hml2, WA, wc, hm, vs6, h, (by rw [HE3b.out]; exact I8.out.ext E9.out)⟩)
              go_wp2_with (go_at_call 38; (with_reducible refine (deliver_any Mu Ft p E3 w9 HEA.out).mono ?_); rintro e wz ⟨OA, oc, k, ovs, rfl, hlen, hown, hms, hkz, hend⟩; have HZZ := Lib.hid (And.intro hlen (And.intro hown (And.intro hms (And.intro hkz hend)))); clear hlen hown hms hkz hend)
              go_ret2
              obtain ⟨hlen, hown, hms, hkz, hend⟩ := HZZ.out
              rw [HPP.out]
              exact ⟨OA, oc, k, ovs, rfl, hlen, own_mono hown K9.out.size, hms, K9.out.trans hkz, hend⟩
            | false =>
              have HNO : Hid (h s = none) := Lib.hid (Option.isNone_iff_eq_none.1 (by have := HB.out; cases hc : h s with | none => rfl | some v => rw [hc] at this; cases this))
              go_quiet (fail)
              generalize hg9 : W.drewN _ = w9
              have E9 : Hid (Ext W w9) := Lib.hid (by rw [← hg9]; exact (Ext.refl W).drewN _)
              have K9 : Hid (Kept Ft w w9) := Lib.hid (K8.out.trans (Kept.of_ext E9.out))
              have I9 := Lib.hid (I8.out.ext E9.out)
              have D9 := Lib.hid (D8.out.ext E9.out)
              have HR9 := Lib.hid (HR8.out.ext' E9.out)
              clear hg9 r8 u8
              go_upto_region 20 with fail
              refine wp_region_flow 9 (by kernel_rfl) (by kernel_rfl) (fun a b => Ext a b) Ext.refl (fun h1 h2 => h1.next h2) (fun i v W => match i with
                | 0 => v = .pointer (some ⟨p, 0, none⟩)
                | 1 => v = .pointer (some ⟨p, 0, none⟩)
                | 2 => v = .pointer (some ⟨p, 5, none⟩)
                | 3 => v = .map (some hm)
                | 4 => v = .pointer (some ⟨p3, 0, none⟩)
                | 5 => v = .int .i64 s
                | 6 => v = .pointer (some ⟨p3, 2, none⟩)
                | 7 => v = .slice (some ⟨gm, 0, none⟩) m.length c2
                | 8 => ∃ A9 c9, v = .slice A9 m.length c9 ∧ W.ownsRow w9.heap.size 5 1 (.slice A9 m.length c9) m.length (u8s m)
                | _ => True) ?_ ?_
              · simp only [List.take_succ_cons, List.take_zero, flowSteps]
                refine ⟨?_, ?_, ?_, ?_, ?_, ?_, ?_, ?_, ?_, trivial⟩
                · intro us W K hE hd hK
                  simp only [flowAct, Nat.zero_add, Nat.reduceAdd, Act.put, List.setIfInBounds_toArray, List.set_cons_succ, List.set_cons_zero] at hK ⊢
                  have HK := Lib.hid hK; have HE := Lib.hid hE
                  clear hK hd hE
                  go_wp2_with fail
                  exact K_at (HK.out (.pointer (some ⟨p, 0, none⟩)) W (fun _ _ => rfl) (Ext.refl W)) (by kernel_rfl)
                · intro us W K hE hd hK
                  have d0 := hd 0 (by kernel_rfl)
                  simp only [flowAct, Nat.zero_add, Nat.reduceAdd, Act.put, List.setIfInBounds_toArray, List.set_cons_succ, List.set_cons_zero] at hK ⊢
                  rw [d0] at hK ⊢
                  have HK := Lib.hid hK; have HE := Lib.hid hE
                  clear hK hd hE d0
                  go_wp2_with fail
                  exact K_at (HK.out (.pointer (some ⟨p, 0, none⟩)) W (fun _ _ => rfl) (Ext.refl W)) (by kernel_rfl)
                · intro us W K hE hd hK
                  have d1 := hd 1 (by kernel_rfl)
                  simp only [flowAct, Nat.zero_add, Nat.reduceAdd, Act.put, List.setIfInBounds_toArray, List.set_cons_succ, List.set_cons_zero] at hK ⊢
                  rw [d1] at hK ⊢
                  have HK := Lib.hid hK; have HE := Lib.hid hE
                  clear hK hd hE d1
                  go_wp2_with fail
                  exact K_at (HK.out (.pointer (some ⟨p, 5, none⟩)) W (fun _ _ => rfl) (Ext.refl W)) (by kernel_rfl)
                · intro us W K hE hd hK
                  have d2 := hd 2 (by kernel_rfl)
                  have c0 := hE.cell (p := ⟨p, 5, none⟩) I9.out.blk.lt
                  rw [show (w9.drew).cell? ⟨p, 5, none⟩ = some (.map (some hm)) from I9.out.blk.cell 5] at c0
                  simp only [flowAct, Nat.zero_add, Nat.reduceAdd, Act.put, List.setIfInBounds_toArray, List.set_cons_succ, List.set_cons_zero] at hK ⊢
                  rw [d2] at hK ⊢
                  have HK := Lib.hid hK; have HE := Lib.hid hE
                  clear hK hd hE d2
                  go_wp2_with fail
                  exact K_at (HK.out (.map (some hm)) W (fun _ _ => rfl) (Ext.refl W)) (by kernel_rfl)
                · intro us W K hE hd hK
                  simp only [flowAct, Nat.zero_add, Nat.reduceAdd, Act.put, List.setIfInBounds_toArray, List.set_cons_succ, List.set_cons_zero] at hK ⊢
                  have HK := Lib.hid hK; have HE := Lib.hid hE
                  clear hK hd hE
                  go_wp2_with fail
                  exact K_at (HK.out (.pointer (some ⟨p3, 0, none⟩)) W (fun _ _ => rfl) (Ext.refl W)) (by kernel_rfl)
                · intro us W K hE hd hK
                  have d4 := hd 4 (by kernel_rfl)
                  have c0 := hE.cell (p := ⟨p3, 0, none⟩) D9.out.lt
                  rw [show (w9.drew).cell? ⟨p3, 0, none⟩ = some (.int .i64 s) from D9.out.cell 0] at c0
                  simp only [flowAct, Nat.zero_add, Nat.reduceAdd, Act.put, List.setIfInBounds_toArray, List.set_cons_succ, List.set_cons_zero] at hK ⊢
                  rw [d4] at hK ⊢
                  have HK := Lib.hid hK; have HE := Lib.hid hE
                  clear hK hd hE d4
                  go_wp2_with fail
                  exact K_at (HK.out (.int .i64 s) W (fun _ _ => rfl) (Ext.refl W)) (by kernel_rfl)
                · intro us W K hE hd hK
                  simp only [flowAct, Nat.zero_add, Nat.reduceAdd, Act.put, List.setIfInBounds_toArray, List.set_cons_succ, List.set_cons_zero] at hK ⊢
                  have HK := Lib.hid hK; have HE := Lib.hid hE
                  clear hK hd hE
                  go_wp2_with fail
                  exact K_at (HK.out (.pointer (some ⟨p3, 2, none⟩)) W (fun _ _ => rfl) (Ext.refl W)) (by kernel_rfl)
                · intro us W K hE hd hK
                  have d6 := hd 6 (by kernel_rfl)
                  have c0 := hE.cell (p := ⟨p3, 2, none⟩) D9.out.lt
                  rw [show (w9.drew).cell? ⟨p3, 2, none⟩ = some (.slice (some ⟨gm, 0, none⟩) m.length c2) from D9.out.cell 2] at c0
                  simp only [flowAct, Nat.zero_add, Nat.reduceAdd, Act.put, List.setIfInBounds_toArray, List.set_cons_succ, List.set_cons_zero] at hK ⊢
                  rw [d6] at hK ⊢
                  have HK := Lib.hid hK; have HE := Lib.hid hE
                  clear hK hd hE d6
                  go_wp2_with fail
                  exact K_at (HK.out (.slice (some ⟨gm, 0, none⟩) m.length c2) W (fun _ _ => rfl) (Ext.refl W)) (by kernel_rfl)
                · intro us W K hE hd hK
                  have d7 := hd 7 (by kernel_rfl)
                  simp only [flowAct, Nat.zero_add, Nat.reduceAdd, Act.put, List.setIfInBounds_toArray, List.set_cons_succ, List.set_cons_zero] at hK ⊢
                  rw [d7] at hK ⊢
                  have HK := Lib.hid hK; have HE := Lib.hid hE
                  clear hK hd hE d7
                  go_wp2_with (go_at_call 32; (with_reducible refine (clone_any m (some ⟨gm, 0, none⟩) m.length c2 W (HR9.out.ext' (show Ext w9 W from (Ext.refl w9).drew.next HE.out)) (by omega)).mono ?_); rintro e wb ⟨⟨A9, c9, rfl, ho9⟩, hB9⟩)
                  exact K_at (HK.out (.slice A9 m.length c9) wb (fun W2 h2 => ⟨A9, c9, rfl, own_ext h2 (own_mono ho9 HE.out.size)⟩) hB9) (by kernel_rfl)
              · intro us W hE hd
                obtain ⟨A9, c9, d8, ho9⟩ := hd 8 (by decide)
                have d3 := hd 3 (by decide)
                have d5 := hd 5 (by decide)
                simp only [List.take_succ_cons, List.take_zero, List.drop_succ_cons, List.drop_zero, flowAct, Nat.zero_add, Nat.reduceAdd, Act.put, List.setIfInBounds_toArray, List.set_cons_succ, List.set_cons_zero]
                rw [d3, d5, d8]
                have E10 : Hid (Ext w9 W) := Lib.hid ((Ext.refl w9).drew.next hE)
                have I10 := Lib.hid (I9.out.ext E10.out)
                have K10 : Hid (Kept Ft w W) := Lib.hid (K9.out.trans (Kept.of_ext E10.out))
                have HV9 := Lib.hid (own_msg (Mu := Mu) ho9 HBM.out rfl hm64 (fun b hb hM => by have h1 := HML.out b hM; have h2 := K9.out.size; omega))
                clear hE hd d3 d5 d8 ho9
                refine wpList_put_held rfl (.tmp 117) (.tmp 119) (.tmp 122) rfl rfl I10.out.map (by rw [HTE.out]; have := HFT.out; simp only [maxLen]; omega) s (.slice A9 m.length c9) rfl rfl HIN.out ?_
                intro w11 hm11 hg11
                obtain ⟨hI11, hK11⟩ := put_plain I10.out (by rw [HDE.out]; exact hd1) HIN.out HNO.out HV9.out (by rw [HTE.out]; exact HFT.out) (by rw [HDE.out, HCE.out, HDL.out]; exact HFC.out) hm11 hg11
                have I11 : Hid (IsEnd Mu Ft w11 p E3 WA wc hm vs6 (fun j => if j = s then some (.slice A9 m.length c9) else h j)) := Lib.hid (by rw [HE3.out]; exact hI11)
                have K11 : Hid (Kept Ft w w11) := Lib.hid (K10.out.trans hK11)
                clear hm11 hg11 hI11 hK11
                have hml2 : ∀ b, Mu b → b < w11.heap.size := fun b hb => Nat.lt_of_lt_of_le (HML.out b hb) K11.out.size
                have HEA := Lib.hid (show EndAt Mu Ft w11 p E3 from ⟨hml2, WA, wc, hm, vs6, _, I11.out⟩)
                go_wp2_with (go_at_call 38; (with_reducible refine (deliver_any Mu Ft p E3 w11 HEA.out).mono ?_); rintro e wz ⟨OA, oc, k, ovs, rfl, hlen, hown, hms, hkz, hend⟩; have HZZ := Lib.hid (And.intro hlen (And.intro hown (And.intro hms (And.intro hkz hend)))); clear hlen hown hms hkz hend)
                go_ret2
                obtain ⟨hlen, hown, hms, hkz, hend⟩ := HZZ.out
                rw [HPP.out]
                exact ⟨OA, oc, k, ovs, rfl, hlen, own_mono hown K11.out.size, hms, K11.out.trans hkz, hend⟩
          · have HE3b : Hid (E3 = owesE (ackE E a)) := Lib.hid (by rw [HE3.out]; unfold putE; rw [if_neg]; rw [HDE.out]; exact fun h => hd1 h.1)
            go_quiet (fail)
            generalize hg9 : W.drewN _ = w9
            have E9 : Hid (Ext W w9) := Lib.hid (by rw [← hg9]; exact (Ext.refl W).drewN _)
            have K9 : Hid (Kept Ft w w9) := Lib.hid (K8.out.trans (Kept.of_ext E9.out))
            clear hg9
            have hml2 : ∀ b, Mu b → b < w9.heap.size := fun b hb => Nat.lt_of_lt_of_le (HML.out b hb) K9.out.size
            have HEA := Lib.hid (show EndAt Mu Ft w9 p E3 from ⟨hml2, WA, wc, hm, vs6, h, (by rw [HE3b.out]; exact I8.out.ext E9.out)⟩)
            go_wp2_with (go_at_call 38; (with_reducible refine (deliver_any Mu Ft p E3 w9 HEA.out).mono ?_); rintro e wz ⟨OA, oc, k, ovs, rfl, hlen, hown, hms, hkz, hend⟩; have HZZ := Lib.hid (And.intro hlen (And.intro hown (And.intro hms (And.intro hkz hend)))); clear hlen hown hms hkz hend)
            go_ret2
            obtain ⟨hlen, hown, hms, hkz, hend⟩ := HZZ.out
            rw [HPP.out]
            exact ⟨OA, oc, k, ovs, rfl, hlen, own_mono hown K9.out.size, hms, K9.out.trans hkz, hend⟩
    · have I6 : Hid (IsEnd Mu Ft w4 p (ackE E a) WA wc hm vs h) := Lib.hid (by unfold ackE; rw [if_neg (by rw [← HAC.out]; exact hn0)]; exact HI4.out)
      have K6 : Hid (Kept Ft w w4) := Lib.hid (Kept.of_ext E4.out)
      have HR6 := HR4
      have D6 := D4
      clear q2' r1'
      by_cases hs0 : s = 0
      · have HPP : Hid (R = (([], 0), ackE E a)) := Lib.hid (by rw [HR.out]; unfold pktIn; rw [if_neg (by rw [← HAC.out, ← HNW.out, ← HDL.out]; exact hfar), if_pos hs0])
        have r6 : w4.cell? ⟨p3, 0, none⟩ = some (.int .i64 s) := D6.out.cell 0
        have HEN : Hid (EndAt Mu Ft w4 p (ackE E a)) := Lib.hid ⟨fun b hb => Nat.lt_of_lt_of_le (HML.out b hb) K6.out.size, WA, wc, hm, vs, h, I6.out⟩
        go_wp2_with fail
        go_ret2
        rw [HPP.out]
        exact in_nil K6.out HEN.out
      · obtain ⟨E3, hE3⟩ : ∃ e, e = putE (owesE (ackE E a)) s m := ⟨_, rfl⟩
        have HPP : Hid (R = (((deliverN E3.cnt E3 []).1, 0), (deliverN E3.cnt E3 []).2)) := Lib.hid (by rw [HR.out, hE3]; unfold pktIn; rw [if_neg (by rw [← HAC.out, ← HNW.out, ← HDL.out]; exact hfar), if_neg hs0])
        have HE3 := Lib.hid hE3
        clear hE3
        have HDE : Hid ((owesE (ackE E a)).delivered = dl) := Lib.hid (by rw [HDL.out]; unfold owesE ackE; split <;> rfl)
        have HTE : Hid ((owesE (ackE E a)).tot = E.tot) := Lib.hid (by unfold owesE ackE; split <;> rfl)
        have HCE : Hid ((owesE (ackE E a)).cnt = E.cnt) := Lib.hid (by unfold owesE ackE; split <;> rfl)
        have HIN : Hid (in64 s) := Lib.hid (by unfold in64; omega)
        have r6 : w4.cell? ⟨p3, 0, none⟩ = some (.int .i64 s) := D6.out.cell 0
        have u6 : w4.cell? ⟨p, 6, none⟩ = some (.bool (ackE E a).owing) := I6.out.blk.cell 6
        have f6 : w4.frozen? ⟨p, 6, none⟩ = false := I6.out.blk.frozen 6
        go_upto_region 18 with fail
        have hsb : (s == 0) = false := by simpa using hs0
        rw [hsb]
        clear hs0 hsb
        obtain ⟨hI7, hK7⟩ := owes_plain I6.out
        have hD7 := D6.out.far (p := ⟨p, 6, none⟩) HPP3.out (.bool true)
        obtain ⟨w7, hw7⟩ : ∃ w7, w7 = w4.setCell ⟨p, 6, none⟩ (.bool true) := ⟨_, rfl⟩
        rw [← hw7] at hI7 hK7 hD7 ⊢
        have I7 := Lib.hid hI7; have D7 := Lib.hid hD7
        have K7 : Hid (Kept Ft w w7) := Lib.hid (K6.out.trans hK7)
        have HR7 : Hid (Rd w7 w7.heap.size (some ⟨gm, 0, none⟩) m.length (u8s m)) := Lib.hid (rd_kept HR6.out hK7 (fun hf => by have h2 := HI.out.fl gm hf; have h3 := HGM.out; omega))
        clear hI7 hK7 hD7 hw7 r6 u6 f6
        obtain ⟨z, hz⟩ : ∃ z, (h s).getD (.slice none 0 0) = z := ⟨_, rfl⟩
        obtain ⟨b, hb⟩ : ∃ b, (h s).isSome = b := ⟨_, rfl⟩
        have HZ := Lib.hid (And.intro hz hb)
        have HB := Lib.hid hb
        clear hz hb
        refine wp_region_flow 12 (by kernel_rfl) (by kernel_rfl) (fun a b => Ext a b) Ext.refl (fun h1 h2 => h1.next h2) (fun i v W => match i with
          | 0 => v = .pointer (some ⟨p, 0, none⟩)
          | 1 => v = .pointer (some ⟨p, 0, none⟩)
          | 2 => v = .pointer (some ⟨p, 5, none⟩)
          | 3 => v = .map (some hm)
          | 4 => v = .pointer (some ⟨p3, 0, none⟩)
          | 5 => v = .int .i64 s
          | 6 => v = .tuple #[z, .bool b]
          | 7 => v = .tuple #[z, .bool b]
          | 8 => v = z
          | 9 => v = .bool b
          | 10 => v = z
          | 11 => v = .bool b
          | _ => True) ?_ ?_
        · simp only [List.take_succ_cons, List.take_zero, flowSteps]
          refine ⟨?_, ?_, ?_, ?_, ?_, ?_, ?_, ?_, ?_, ?_, ?_, ?_, trivial⟩
          · intro us W K hE hd hK
            simp only [flowAct, Nat.zero_add, Nat.reduceAdd, Act.put, List.setIfInBounds_toArray, List.set_cons_succ, List.set_cons_zero] at hK ⊢
            have HK := Lib.hid hK; have HE := Lib.hid hE
            clear hK hd hE
            go_wp2_with fail
            exact K_at (HK.out (.pointer (some ⟨p, 0, none⟩)) W (fun _ _ => rfl) (Ext.refl W)) (by kernel_rfl)
          · intro us W K hE hd hK
            have d0 := hd 0 (by kernel_rfl)
            simp only [flowAct, Nat.zero_add, Nat.reduceAdd, Act.put, List.setIfInBounds_toArray, List.set_cons_succ, List.set_cons_zero] at hK ⊢
            rw [d0] at hK ⊢
            have HK := Lib.hid hK; have HE := Lib.hid hE
            clear hK hd hE d0
            go_wp2_with fail
            exact K_at (HK.out (.pointer (some ⟨p, 0, none⟩)) W (fun _ _ => rfl) (Ext.refl W)) (by kernel_rfl)
          · intro us W K hE hd hK
            have d1 := hd 1 (by kernel_rfl)
            simp only [flowAct, Nat.zero_add, Nat.reduceAdd, Act.put, List.setIfInBounds_toArray, List.set_cons_succ, List.set_cons_zero] at hK ⊢
            rw [d1] at hK ⊢
            have HK := Lib.hid hK; have HE := Lib.hid hE
            clear hK hd hE d1
            go_wp2_with fail
            exact K_at (HK.out (.pointer (some ⟨p, 5, none⟩)) W (fun _ _ => rfl) (Ext.refl W)) (by kernel_rfl)
          · intro us W K hE hd hK
            have d2 := hd 2 (by kernel_rfl)
            have c0 := hE.cell (p := ⟨p, 5, none⟩) I7.out.blk.lt
            rw [show (w7.drew).cell? ⟨p, 5, none⟩ = some (.map (some hm)) from I7.out.blk.cell 5] at c0
            simp only [flowAct, Nat.zero_add, Nat.reduceAdd, Act.put, List.setIfInBounds_toArray, List.set_cons_succ, List.set_cons_zero] at hK ⊢
            rw [d2] at hK ⊢
            have HK := Lib.hid hK; have HE := Lib.hid hE
            clear hK hd hE d2
            go_wp2_with fail
            exact K_at (HK.out (.map (some hm)) W (fun _ _ => rfl) (Ext.refl W)) (by kernel_rfl)
          · intro us W K hE hd hK
            simp only [flowAct, Nat.zero_add, Nat.reduceAdd, Act.put, List.setIfInBounds_toArray, List.set_cons_succ, List.set_cons_zero] at hK ⊢
            have HK := Lib.hid hK; have HE := Lib.hid hE
            clear hK hd hE
            go_wp2_with fail
            exact K_at (HK.out (.pointer (some ⟨p3, 0, none⟩)) W (fun _ _ => rfl) (Ext.refl W)) (by kernel_rfl)
          · intro us W K hE hd hK
            have d4 := hd 4 (by kernel_rfl)
            have c0 := hE.cell (p := ⟨p3, 0, none⟩) D7.out.lt
            rw [show (w7.drew).cell? ⟨p3, 0, none⟩ = some (.int .i64 s) from D7.out.cell 0] at c0
            simp only [flowAct, Nat.zero_add, Nat.reduceAdd, Act.put, List.setIfInBounds_toArray, List.set_cons_succ, List.set_cons_zero] at hK ⊢
            rw [d4] at hK ⊢
            have HK := Lib.hid hK; have HE := Lib.hid hE
            clear hK hd hE d4
            go_wp2_with fail
            exact K_at (HK.out (.int .i64 s) W (fun _ _ => rfl) (Ext.refl W)) (by kernel_rfl)
          · intro us W K hE hd hK
            have d3 := hd 3 (by kernel_rfl)
            have d5 := hd 5 (by kernel_rfl)
            have hMW := I7.out.map.kept (Kept.of_ext (F := fun _ => False) (show Ext w7 W from (Ext.refl w7).drew.next hE)) id
            simp only [flowAct, Nat.zero_add, Nat.reduceAdd, Act.put, List.setIfInBounds_toArray, List.set_cons_succ, List.set_cons_zero] at hK ⊢
            rw [d3, d5] at hK ⊢
            have HK := Lib.hid hK; have HE := Lib.hid hE
            clear hK hd hE d3 d5
            refine wpList_look_held rfl (.tmp 97) (.tmp 99) rfl rfl hMW s rfl HIN.out ?_
            rw [HZ.out.1, HZ.out.2]
            change K _ _
            exact K_at (HK.out (.tuple #[z, .bool b]) W (fun _ _ => rfl) (Ext.refl W)) (by kernel_rfl)
          · intro us W K hE hd hK
            have d6 := hd 6 (by kernel_rfl)
            simp only [flowAct, Nat.zero_add, Nat.reduceAdd, Act.put, List.setIfInBounds_toArray, List.set_cons_succ, List.set_cons_zero] at hK ⊢
            rw [d6] at hK ⊢
            have HK := Lib.hid hK; have HE := Lib.hid hE
            clear hK hd hE d6
            go_wp2_with fail
            exact K_at (HK.out (.tuple #[z, .bool b]) W (fun _ _ => rfl) (Ext.refl W)) (by kernel_rfl)
          · intro us W K hE hd hK
            have d7 := hd 7 (by kernel_rfl)
            simp only [flowAct, Nat.zero_add, Nat.reduceAdd, Act.put, List.setIfInBounds_toArray, List.set_cons_succ, List.set_cons_zero] at hK ⊢
            rw [d7] at hK ⊢
            have HK := Lib.hid hK; have HE := Lib.hid hE
            clear hK hd hE d7
            go_wp2_with fail
            exact K_at (HK.out (z) W (fun _ _ => rfl) (Ext.refl W)) (by kernel_rfl)
          · intro us W K hE hd hK
            have d7 := hd 7 (by kernel_rfl)
            simp only [flowAct, Nat.zero_add, Nat.reduceAdd, Act.put, List.setIfInBounds_toArray, List.set_cons_succ, List.set_cons_zero] at hK ⊢
            rw [d7] at hK ⊢
            have HK := Lib.hid hK; have HE := Lib.hid hE
            clear hK hd hE d7
            go_wp2_with fail
            exact K_at (HK.out (.bool b) W (fun _ _ => rfl) (Ext.refl W)) (by kernel_rfl)
          · intro us W K hE hd hK
            have d8 := hd 8 (by kernel_rfl)
            simp only [flowAct, Nat.zero_add, Nat.reduceAdd, Act.put, List.setIfInBounds_toArray, List.set_cons_succ, List.set_cons_zero] at hK ⊢
            rw [d8] at hK ⊢
            have HK := Lib.hid hK; have HE := Lib.hid hE
            clear hK hd hE d8
            go_wp2_with fail
            exact K_at (HK.out (z) W (fun _ _ => rfl) (Ext.refl W)) (by kernel_rfl)
          · intro us W K hE hd hK
            have d9 := hd 9 (by kernel_rfl)
            simp only [flowAct, Nat.zero_add, Nat.reduceAdd, Act.put, List.setIfInBounds_toArray, List.set_cons_succ, List.set_cons_zero] at hK ⊢
            rw [d9] at hK ⊢
            have HK := Lib.hid hK; have HE := Lib.hid hE
            clear hK hd hE d9
            go_wp2_with fail
            exact K_at (HK.out (.bool b) W (fun _ _ => rfl) (Ext.refl W)) (by kernel_rfl)
        · intro us W hE hd
          have d11 := hd 11 (by decide)
          have d10 := hd 10 (by decide)
          simp only [List.take_succ_cons, List.take_zero, List.drop_succ_cons, List.drop_zero, flowAct, Nat.zero_add, Nat.reduceAdd, Act.put, List.setIfInBounds_toArray, List.set_cons_succ, List.set_cons_zero]
          rw [d11, d10]
          have E8 : Hid (Ext w7 W) := Lib.hid ((Ext.refl w7).drew.next hE)
          clear hE hd d11 d10
          simp only [wpList, Exit.then, Act.put, List.setIfInBounds_toArray, List.set_cons_succ, List.set_cons_zero]
          have I8 := Lib.hid (I7.out.ext E8.out)
          have D8 := Lib.hid (D7.out.ext E8.out)
          have HR8 := Lib.hid (HR7.out.ext' E8.out)
          have K8 : Hid (Kept Ft w W) := Lib.hid (K7.out.trans (Kept.of_ext E8.out))
          have r8 : W.cell? ⟨p3, 0, none⟩ = some (.int .i64 s) := D8.out.cell 0
          have u8 : W.cell? ⟨p, 4, none⟩ = some (.int .i64 dl) := by rw [← HDE.out]; exact I8.out.blk.cell 4
          go_upto_region 19 with fail
          by_cases hd1 : dl < s
          · cases b with
            | true =>
              have HE3b : Hid (E3 = owesE (ackE E a)) := Lib.hid (by rw [HE3.out]; unfold putE; rw [if_neg]; rw [HDE.out]; exact fun h2 => held_some (I7.out.held s HIN.out) HB.out h2.2)
              go_quiet (fail)
              generalize hg9 : W.drewN _ = w9
              have E9 : Hid (Ext W w9) := Lib.hid (by rw [← hg9]; exact (Ext.refl W).drewN _)
              have K9 : Hid (Kept Ft w w9) := Lib.hid (K8.out.trans (Kept.of_ext E9.out))
              clear hg9
              have hml2 : ∀ b, Mu b → b < w9.heap.size := fun b hb => Nat.lt_of_lt_of_le (HML.out b hb) K9.out.size
              have HEA := Lib.hid (show EndAt Mu Ft w9 p E3 from ⟨hml2, WA, wc, hm, vs, h, (by rw [HE3b.out]; exact I8.out.ext E9.out)⟩)
              go_wp2_with (go_at_call 38; (with_reducible refine (deliver_any Mu Ft p E3 w9 HEA.out).mono ?_); rintro e wz ⟨OA, oc, k, ovs, rfl, hlen, hown, hms, hkz, hend⟩; have HZZ := Lib.hid (And.intro hlen (And.intro hown (And.intro hms (And.intro hkz hend)))); clear hlen hown hms hkz hend)
              go_ret2
              obtain ⟨hlen, hown, hms, hkz, hend⟩ := HZZ.out
              rw [HPP.out]
              exact ⟨OA, oc, k, ovs, rfl, hlen, own_mono hown K9.out.size, hms, K9.out.trans hkz, hend⟩
            | false =>
              have HNO : Hid (h s = none) := Lib.hid (Option.isNone_iff_eq_none.1 (by have := HB.out; cases hc : h s with | none => rfl | some v => rw [hc] at this; cases this))
              go_quiet (fail)
              generalize hg9 : W.drewN _ = w9
              have E9 : Hid (Ext W w9) := Lib.hid (by rw [← hg9]; exact (Ext.refl W).drewN _)
              have K9 : Hid (Kept Ft w w9) := Lib.hid (K8.out.trans (Kept.of_ext E9.out))
              have I9 := Lib.hid (I8.out.ext E9.out)
              have D9 := Lib.hid (D8.out.ext E9.out)
              have HR9 := Lib.hid (HR8.out.ext' E9.out)
              clear hg9 r8 u8
              go_upto_region 20 with fail
              refine wp_region_flow 9 (by kernel_rfl) (by kernel_rfl) (fun a b => Ext a b) Ext.refl (fun h1 h2 => h1.next h2) (fun i v W => match i with
                | 0 => v = .pointer (some ⟨p, 0, none⟩)
                | 1 => v = .pointer (some ⟨p, 0, none⟩)
                | 2 => v = .pointer (some ⟨p, 5, none⟩)
                | 3 => v = .map (some hm)
                | 4 => v = .pointer (some ⟨p3, 0, none⟩)
                | 5 => v = .int .i64 s
                | 6 => v = .pointer (some ⟨p3, 2, none⟩)
                | 7 => v = .slice (some ⟨gm, 0, none⟩) m.length c2
                | 8 => ∃ A9 c9, v = .slice A9 m.length c9 ∧ W.ownsRow w9.heap.size 5 1 (.slice A9 m.length c9) m.length (u8s m)
                | _ => True) ?_ ?_
              · simp only [List.take_succ_cons, List.take_zero, flowSteps]
                refine ⟨?_, ?_, ?_, ?_, ?_, ?_, ?_, ?_, ?_, trivial⟩
                · intro us W K hE hd hK
                  simp only [flowAct, Nat.zero_add, Nat.reduceAdd, Act.put, List.setIfInBounds_toArray, List.set_cons_succ, List.set_cons_zero] at hK ⊢
                  have HK := Lib.hid hK; have HE := Lib.hid hE
                  clear hK hd hE
                  go_wp2_with fail
                  exact K_at (HK.out (.pointer (some ⟨p, 0, none⟩)) W (fun _ _ => rfl) (Ext.refl W)) (by kernel_rfl)
                · intro us W K hE hd hK
                  have d0 := hd 0 (by kernel_rfl)
                  simp only [flowAct, Nat.zero_add, Nat.reduceAdd, Act.put, List.setIfInBounds_toArray, List.set_cons_succ, List.set_cons_zero] at hK ⊢
                  rw [d0] at hK ⊢
                  have HK := Lib.hid hK; have HE := Lib.hid hE
                  clear hK hd hE d0
                  go_wp2_with fail
                  exact K_at (HK.out (.pointer (some ⟨p, 0, none⟩)) W (fun _ _ => rfl) (Ext.refl W)) (by kernel_rfl)
                · intro us W K hE hd hK
                  have d1 := hd 1 (by kernel_rfl)
                  simp only [flowAct, Nat.zero_add, Nat.reduceAdd, Act.put, List.setIfInBounds_toArray, List.set_cons_succ, List.set_cons_zero] at hK ⊢
                  rw [d1] at hK ⊢
                  have HK := Lib.hid hK; have HE := Lib.hid hE
                  clear hK hd hE d1
                  go_wp2_with fail
                  exact K_at (HK.out (.pointer (some ⟨p, 5, none⟩)) W (fun _ _ => rfl) (Ext.refl W)) (by kernel_rfl)
                · intro us W K hE hd hK
                  have d2 := hd 2 (by kernel_rfl)
                  have c0 := hE.cell (p := ⟨p, 5, none⟩) I9.out.blk.lt
                  rw [show (w9.drew).cell? ⟨p, 5, none⟩ = some (.map (some hm)) from I9.out.blk.cell 5] at c0
                  simp only [flowAct, Nat.zero_add, Nat.reduceAdd, Act.put, List.setIfInBounds_toArray, List.set_cons_succ, List.set_cons_zero] at hK ⊢
                  rw [d2] at hK ⊢
                  have HK := Lib.hid hK; have HE := Lib.hid hE
                  clear hK hd hE d2
                  go_wp2_with fail
                  exact K_at (HK.out (.map (some hm)) W (fun _ _ => rfl) (Ext.refl W)) (by kernel_rfl)
                · intro us W K hE hd hK
                  simp only [flowAct, Nat.zero_add, Nat.reduceAdd, Act.put, List.setIfInBounds_toArray, List.set_cons_succ, List.set_cons_zero] at hK ⊢
                  have HK := Lib.hid hK; have HE := Lib.hid hE
                  clear hK hd hE
                  go_wp2_with fail
                  exact K_at (HK.out (.pointer (some ⟨p3, 0, none⟩)) W (fun _ _ => rfl) (Ext.refl W)) (by kernel_rfl)
                · intro us W K hE hd hK
                  have d4 := hd 4 (by kernel_rfl)
                  have c0 := hE.cell (p := ⟨p3, 0, none⟩) D9.out.lt
                  rw [show (w9.drew).cell? ⟨p3, 0, none⟩ = some (.int .i64 s) from D9.out.cell 0] at c0
                  simp only [flowAct, Nat.zero_add, Nat.reduceAdd, Act.put, List.setIfInBounds_toArray, List.set_cons_succ, List.set_cons_zero] at hK ⊢
                  rw [d4] at hK ⊢
                  have HK := Lib.hid hK; have HE := Lib.hid hE
                  clear hK hd hE d4
                  go_wp2_with fail
                  exact K_at (HK.out (.int .i64 s) W (fun _ _ => rfl) (Ext.refl W)) (by kernel_rfl)
                · intro us W K hE hd hK
                  simp only [flowAct, Nat.zero_add, Nat.reduceAdd, Act.put, List.setIfInBounds_toArray, List.set_cons_succ, List.set_cons_zero] at hK ⊢
                  have HK := Lib.hid hK; have HE := Lib.hid hE
                  clear hK hd hE
                  go_wp2_with fail
                  exact K_at (HK.out (.pointer (some ⟨p3, 2, none⟩)) W (fun _ _ => rfl) (Ext.refl W)) (by kernel_rfl)
                · intro us W K hE hd hK
                  have d6 := hd 6 (by kernel_rfl)
                  have c0 := hE.cell (p := ⟨p3, 2, none⟩) D9.out.lt
                  rw [show (w9.drew).cell? ⟨p3, 2, none⟩ = some (.slice (some ⟨gm, 0, none⟩) m.length c2) from D9.out.cell 2] at c0
                  simp only [flowAct, Nat.zero_add, Nat.reduceAdd, Act.put, List.setIfInBounds_toArray, List.set_cons_succ, List.set_cons_zero] at hK ⊢
                  rw [d6] at hK ⊢
                  have HK := Lib.hid hK; have HE := Lib.hid hE
                  clear hK hd hE d6
                  go_wp2_with fail
                  exact K_at (HK.out (.slice (some ⟨gm, 0, none⟩) m.length c2) W (fun _ _ => rfl) (Ext.refl W)) (by kernel_rfl)
                · intro us W K hE hd hK
                  have d7 := hd 7 (by kernel_rfl)
                  simp only [flowAct, Nat.zero_add, Nat.reduceAdd, Act.put, List.setIfInBounds_toArray, List.set_cons_succ, List.set_cons_zero] at hK ⊢
                  rw [d7] at hK ⊢
                  have HK := Lib.hid hK; have HE := Lib.hid hE
                  clear hK hd hE d7
                  go_wp2_with (go_at_call 32; (with_reducible refine (clone_any m (some ⟨gm, 0, none⟩) m.length c2 W (HR9.out.ext' (show Ext w9 W from (Ext.refl w9).drew.next HE.out)) (by omega)).mono ?_); rintro e wb ⟨⟨A9, c9, rfl, ho9⟩, hB9⟩)
                  exact K_at (HK.out (.slice A9 m.length c9) wb (fun W2 h2 => ⟨A9, c9, rfl, own_ext h2 (own_mono ho9 HE.out.size)⟩) hB9) (by kernel_rfl)
              · intro us W hE hd
                obtain ⟨A9, c9, d8, ho9⟩ := hd 8 (by decide)
                have d3 := hd 3 (by decide)
                have d5 := hd 5 (by decide)
                simp only [List.take_succ_cons, List.take_zero, List.drop_succ_cons, List.drop_zero, flowAct, Nat.zero_add, Nat.reduceAdd, Act.put, List.setIfInBounds_toArray, List.set_cons_succ, List.set_cons_zero]
                rw [d3, d5, d8]
                have E10 : Hid (Ext w9 W) := Lib.hid ((Ext.refl w9).drew.next hE)
                have I10 := Lib.hid (I9.out.ext E10.out)
                have K10 : Hid (Kept Ft w W) := Lib.hid (K9.out.trans (Kept.of_ext E10.out))
                have HV9 := Lib.hid (own_msg (Mu := Mu) ho9 HBM.out rfl hm64 (fun b hb hM => by have h1 := HML.out b hM; have h2 := K9.out.size; omega))
                clear hE hd d3 d5 d8 ho9
                refine wpList_put_held rfl (.tmp 117) (.tmp 119) (.tmp 122) rfl rfl I10.out.map (by rw [HTE.out]; have := HFT.out; simp only [maxLen]; omega) s (.slice A9 m.length c9) rfl rfl HIN.out ?_
                intro w11 hm11 hg11
                obtain ⟨hI11, hK11⟩ := put_plain I10.out (by rw [HDE.out]; exact hd1) HIN.out HNO.out HV9.out (by rw [HTE.out]; exact HFT.out) (by rw [HDE.out, HCE.out, HDL.out]; exact HFC.out) hm11 hg11
                have I11 : Hid (IsEnd Mu Ft w11 p E3 WA wc hm vs (fun j => if j = s then some (.slice A9 m.length c9) else h j)) := Lib.hid (by rw [HE3.out]; exact hI11)
                have K11 : Hid (Kept Ft w w11) := Lib.hid (K10.out.trans hK11)
                clear hm11 hg11 hI11 hK11
                have hml2 : ∀ b, Mu b → b < w11.heap.size := fun b hb => Nat.lt_of_lt_of_le (HML.out b hb) K11.out.size
                have HEA := Lib.hid (show EndAt Mu Ft w11 p E3 from ⟨hml2, WA, wc, hm, vs, _, I11.out⟩)
                go_wp2_with (go_at_call 38; (with_reducible refine (deliver_any Mu Ft p E3 w11 HEA.out).mono ?_); rintro e wz ⟨OA, oc, k, ovs, rfl, hlen, hown, hms, hkz, hend⟩; have HZZ := Lib.hid (And.intro hlen (And.intro hown (And.intro hms (And.intro hkz hend)))); clear hlen hown hms hkz hend)
                go_ret2
                obtain ⟨hlen, hown, hms, hkz, hend⟩ := HZZ.out
                rw [HPP.out]
                exact ⟨OA, oc, k, ovs, rfl, hlen, own_mono hown K11.out.size, hms, K11.out.trans hkz, hend⟩
          · have HE3b : Hid (E3 = owesE (ackE E a)) := Lib.hid (by rw [HE3.out]; unfold putE; rw [if_neg]; rw [HDE.out]; exact fun h => hd1 h.1)
            go_quiet (fail)
            generalize hg9 : W.drewN _ = w9
            have E9 : Hid (Ext W w9) := Lib.hid (by rw [← hg9]; exact (Ext.refl W).drewN _)
            have K9 : Hid (Kept Ft w w9) := Lib.hid (K8.out.trans (Kept.of_ext E9.out))
            clear hg9
            have hml2 : ∀ b, Mu b → b < w9.heap.size := fun b hb => Nat.lt_of_lt_of_le (HML.out b hb) K9.out.size
            have HEA := Lib.hid (show EndAt Mu Ft w9 p E3 from ⟨hml2, WA, wc, hm, vs, h, (by rw [HE3b.out]; exact I8.out.ext E9.out)⟩)
            go_wp2_with (go_at_call 38; (with_reducible refine (deliver_any Mu Ft p E3 w9 HEA.out).mono ?_); rintro e wz ⟨OA, oc, k, ovs, rfl, hlen, hown, hms, hkz, hend⟩; have HZZ := Lib.hid (And.intro hlen (And.intro hown (And.intro hms (And.intro hkz hend)))); clear hlen hown hms hkz hend)
            go_ret2
            obtain ⟨hlen, hown, hms, hkz, hend⟩ := HZZ.out
            rw [HPP.out]
            exact ⟨OA, oc, k, ovs, rfl, hlen, own_mono hown K9.out.size, hms, K9.out.trans hkz, hend⟩
end Go.Proofs.Ytkgmoklifkojhaa
