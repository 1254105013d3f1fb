/- Standing's closures, and slices.Clone at IDs. Conditions: the slices can be read. -/
import Derived.Test.YtjeecfjeooehhaaGreatDoorRvQ
set_option linter.unusedSimpArgs false
set_option linter.unusedVariables false
namespace Go.Proofs.YtjeecfjeooehhaaGreatDoor
open Go.RowKit
attribute [local go_sem ↓] wp_at_zero wp_at_succ
/-- Does the review y withdraw the review r on a day? -/
def wdB (day : Int) (y r : Rev) : Bool := y.wd && (decide (y.shop = r.shop) && (decide (r.seq < y.seq) && (decide (y.day ≤ day) && meetB r.ops y.ops)))
theorem range_any (a : List Rid) (n : Nat) (h : a.length = n) (f : Rid → Bool) : (List.range n).any (fun j => f (a.getD j rid0)) = a.any f := by
  rw [Bool.eq_iff_iff, List.any_eq_true, List.any_eq_true]
  constructor
  · rintro ⟨j, hj, hf⟩
    have hj' := List.mem_range.1 hj
    exact ⟨_, List.mem_of_getElem? (getD_of (by omega)), hf⟩
  · rintro ⟨x, hx, hf⟩
    obtain ⟨j, hj, rfl⟩ := List.getElem_of_mem hx
    refine ⟨j, List.mem_range.2 (by omega), ?_⟩
    rw [List.getD_eq_getElem?_getD, List.getElem?_eq_getElem hj]
    exact hf
set_option maxHeartbeats 8000000 in
set_option maxRecDepth 100000 in
theorem clos2_any (y r : RX) (day : Int) (gr gd : Nat) (w : World) (hy : RXV w y) (hr : RXV w r) (hB : Blk w gr 28 (rxC r)) (hD : Blk w gd 3 [.int .i64 day]) :
    Calls Tryz.prog 83 #[.agg (rxC y).toArray, .pointer (some ⟨gr, 0, none⟩), .pointer (some ⟨gd, 0, none⟩)] w fun e w' => e = .returned (.bool (wdB day y.r r.r)) ∧ Ext w w' := by
  have HY := Lib.hid hy; have HRX := Lib.hid hr; have HB := Lib.hid hB; have HD := Lib.hid hD
  clear hy hr hB hD
  obtain ⟨wd, hwd⟩ : ∃ x, x = y.r.wd := ⟨_, rfl⟩
  obtain ⟨s1, hs1⟩ : ∃ x, x = y.r.shop := ⟨_, rfl⟩
  obtain ⟨s2, hs2⟩ : ∃ x, x = r.r.shop := ⟨_, rfl⟩
  obtain ⟨q1, hq1⟩ : ∃ x, x = y.r.seq := ⟨_, rfl⟩
  obtain ⟨q2, hq2⟩ : ∃ x, x = r.r.seq := ⟨_, rfl⟩
  obtain ⟨d1, hd1⟩ : ∃ x, x = y.r.day := ⟨_, rfl⟩
  obtain ⟨mb, hmb⟩ : ∃ x, x = meetB r.r.ops y.r.ops := ⟨_, rfl⟩
  obtain ⟨nr, hnr⟩ : ∃ x, x = r.n := ⟨_, rfl⟩
  obtain ⟨cr, hcr⟩ : ∃ x, x = r.c := ⟨_, rfl⟩
  obtain ⟨Ar, hAr⟩ : ∃ x, x = r.A := ⟨_, rfl⟩
  have HV : Hid (wdB day y.r r.r = (wd && (decide (s1 = s2) && (decide (q2 < q1) && (decide (d1 ≤ day) && mb))))) := Lib.hid (by unfold wdB; rw [hwd, hs1, hs2, hq1, hq2, hd1, hmb])
  have HCF : Hid (∀ W, Ext (w.alloc (.cells (rxC y).toArray 28)) W → Calls Tryz.prog 84 #[.slice Ar nr cr, .func (.func 85) #[] #[.pointer (some ⟨w.heap.size, 0, none⟩)]] W fun e w' => e = .returned (.bool mb) ∧ Ext W w') := Lib.hid (fun W hW => by
    have hEW : Ext w W := ((Ext.refl w).alloc _).next hW
    have hrw := HRX.out.ext hEW
    have hBy : Blk W w.heap.size 28 (rxC y) := (Blk.fresh' w 28 (rxC y) _ _ rfl rfl).ext hW
    have hrl := idsC_n hrw.row
    rw [hAr, hnr, hcr, hmb]
    unfold meetB
    rw [← range_any r.r.ops r.n hrl]
    rcases Nat.eq_zero_or_pos r.n with h0 | h0
    · exact containsF_id (n := r.n) r.A r.c _ _ W 0 0 (fun h => by omega) (fun j => idC (r.r.ops.getD j rid0)) (fun j hj => by omega) (fun j hj => by omega) hrw.few (fun j hj => by omega)
    · obtain ⟨b, p, hA, hb, hrg⟩ := rid_at hrw.row h0
      exact containsF_id (n := r.n) r.A r.c _ _ W b p (fun _ => hA) (fun j => idC (r.r.ops.getD j rid0)) (fun j hj W' hW' => hrg W' (fun a ha => hW'.cell ha) j _ (getD_of (by omega))) (fun j hj => rfl) hrw.few (fun j hj W' hW' => clos3_any y (r.r.ops.getD j rid0) w.heap.size W' (hBy.ext hW') (HY.out.ext (hEW.next hW'))))
  have HYL : Hid ((rxC y).length = 22) := Lib.hid HY.out.len
  go_enter Tryz.func83, Tryz.ntmps83
  go_upto_region 1 with fail
  obtain ⟨w1, hw1⟩ : ∃ x, x = w.alloc (.cells (rxC y).toArray 28) := ⟨_, rfl⟩
  change Code.wp _ _ _ _ (w.alloc (.cells (rxC y).toArray 28))
  rw [← hw1] at HCF ⊢
  have E1 : Hid (Ext w w1) := Lib.hid (by rw [hw1]; exact (Ext.refl w).alloc _)
  have EX : Hid (Ext w1 w1) := Lib.hid (Ext.refl _)
  have BY : Blk w1 w.heap.size 28 (rxC y) := by rw [hw1]; exact Blk.fresh' _ _ _ _ _ rfl rfl
  have BR : Blk w1 gr 28 (rxC r) := HB.out.ext E1.out
  obtain ⟨cy0, cy1, cy2, cy3, cy4⟩ := rev_cell BY
  obtain ⟨cr0, cr1, cr2, cr3, cr4⟩ := rev_cell BR
  rw [← hs1] at cy0; rw [← hq1] at cy1; rw [← hd1] at cy2; rw [← hwd] at cy3
  rw [← hs2] at cr0; rw [← hq2] at cr1; rw [← hAr, ← hnr, ← hcr] at cr4
  have cd : w1.cell? ⟨gd, 0, none⟩ = some (.int .i64 day) := (HD.out.ext E1.out).cell 0
  clear hw1 cy4 cr2 cr3 hwd hs1 hs2 hq1 hq2 hd1 hmb hnr hcr hAr BY BR
  cases wd
  · go_wp2_with fail
    go_ret
    exact ⟨by rw [HV.out]; rfl, E1.out⟩
  by_cases h1 : s1 = s2
  · have h1' : (s1 == s2) = true := beq_iff_eq.2 h1
    have h1'' := Lib.hid h1
    clear h1
    by_cases h2 : q2 < q1
    · have h2' : decide (q2 < q1) = true := decide_eq_true h2
      by_cases h3 : d1 ≤ day
      · have h3' : decide (d1 ≤ day) = true := decide_eq_true h3
        go_wp2_with (go_at_call 84; (with_reducible refine (HCF.out _ EX.out).mono ?_); rintro e w2 ⟨rfl, hE2⟩; have EX := Lib.hid (EX.out.next hE2); clear hE2)
        go_ret
        exact ⟨by rw [HV.out, decide_eq_true h1''.out, h2', h3']; cases mb <;> rfl, E1.out.next EX.out⟩
      · have h3' : decide (d1 ≤ day) = false := decide_eq_false h3
        go_wp2_with (go_at_call 84; (with_reducible refine (HCF.out _ EX.out).mono ?_); rintro e w2 ⟨rfl, hE2⟩; have EX := Lib.hid (EX.out.next hE2); clear hE2)
        go_ret
        exact ⟨by rw [HV.out, h3']; cases (decide (s1 = s2)) <;> cases (decide (q2 < q1)) <;> rfl, E1.out⟩
    · have h2' : decide (q2 < q1) = false := decide_eq_false h2
      go_wp2_with (go_at_call 84; (with_reducible refine (HCF.out _ EX.out).mono ?_); rintro e w2 ⟨rfl, hE2⟩; have EX := Lib.hid (EX.out.next hE2); clear hE2)
      go_ret
      exact ⟨by rw [HV.out, h2']; cases (decide (s1 = s2)) <;> rfl, E1.out⟩
  · have h1' : (s1 == s2) = false := by simpa using h1
    have h1'' := Lib.hid (decide_eq_false h1)
    go_wp2_with (go_at_call 84; (with_reducible refine (HCF.out _ EX.out).mono ?_); rintro e w2 ⟨rfl, hE2⟩; have EX := Lib.hid (EX.out.next hE2); clear hE2)
    go_ret
    exact ⟨by rw [HV.out, h1''.out]; rfl, E1.out⟩
/-- Is a review withdrawn on a day by one of a list? -/
def goneB (day : Int) (L : List RX) (r : Rev) : Bool := L.any fun y => wdB day y.r r
theorem range_anyX (a : List RX) (n : Nat) (h : a.length = n) (f : RX → Bool) (z : RX) : (List.range n).any (fun j => f (a.getD j z)) = a.any f := by
  rw [Bool.eq_iff_iff, List.any_eq_true, List.any_eq_true]
  constructor
  · rintro ⟨j, hj, hf⟩
    have hj' := List.mem_range.1 hj
    refine ⟨a.getD j z, ?_, hf⟩
    rw [List.getD_eq_getElem?_getD, List.getElem?_eq_getElem (by omega)]
    exact List.getElem_mem _
  · rintro ⟨x, hx, hf⟩
    obtain ⟨j, hj, rfl⟩ := List.getElem_of_mem hx
    refine ⟨j, List.mem_range.2 (by omega), ?_⟩
    rw [List.getD_eq_getElem?_getD, List.getElem?_eq_getElem hj]
    exact hf
set_option maxHeartbeats 8000000 in
set_option maxRecDepth 100000 in
theorem clos1_any (L : List RX) (r : RX) (day : Int) (A : Option Addr) (n c : Nat) (ga gd : Nat) (w : World) (hL : ∀ x ∈ L, RXV w x) (hr : RXV w r) (hrow : RdN w w.heap.size 22 A n (rxsC L)) (hn : n ≤ 1000000000000) (hG : Blk w ga 92 [.slice A n c]) (hD : Blk w gd 3 [.int .i64 day]) :
    Calls Tryz.prog 81 #[.agg (rxC r).toArray, .pointer (some ⟨ga, 0, none⟩), .pointer (some ⟨gd, 0, none⟩)] w fun e w' => e = .returned (.bool (goneB day L r.r)) ∧ Ext w w' := by
  have HL := Lib.hid hL; have HRX := Lib.hid hr; have HRW := Lib.hid hrow; have HD := Lib.hid hD; have HG := Lib.hid hG
  clear hL hr hrow hG hD
  obtain ⟨mb, hmb⟩ : ∃ x, x = goneB day L r.r := ⟨_, rfl⟩
  have HCF : Hid (∀ W, Ext (w.alloc (.cells (rxC r).toArray 28)) W → Calls Tryz.prog 82 #[.slice A n c, .func (.func 83) #[] #[.pointer (some ⟨w.heap.size, 0, none⟩), .pointer (some ⟨gd, 0, none⟩)]] W fun e w' => e = .returned (.bool mb) ∧ Ext W w') := Lib.hid (fun W hW => by
    have hEW : Ext w W := ((Ext.refl w).alloc _).next hW
    have hl22 : ∀ x ∈ L, (rxC x).length = 22 := fun x hx => (HL.out x hx).len
    have hrw : RdN W W.heap.size 22 A n (rxsC L) := (HRW.out.below hEW (Nat.le_refl _)).more hEW.size
    have hBr : Blk W w.heap.size 28 (rxC r) := (Blk.fresh' w 28 (rxC r) _ _ rfl rfl).ext hW
    have hDw : Blk W gd 3 [.int .i64 day] := HD.out.ext hEW
    have hrl := rx_n hrw hl22
    rw [hmb]
    unfold goneB
    rw [← range_anyX L n hrl _ r]
    have hget : ∀ j, j < n → L[j]? = some (L.getD j r) := fun j hj => by
      rw [List.getD_eq_getElem?_getD, List.getElem?_eq_getElem (by omega)]; rfl
    rcases Nat.eq_zero_or_pos n with h0 | h0
    · exact containsF_rv (n := n) A c _ _ _ W 0 0 (fun h => by omega) (fun j => rxC (L.getD j r)) (fun j hj => by omega) (fun j hj => by omega) hn (fun j hj => by omega)
    · obtain ⟨b, p, hA, hb, hrg⟩ := rx_at hrw hl22 h0
      exact containsF_rv (n := n) A c _ _ _ W b p (fun _ => hA) (fun j => rxC (L.getD j r)) (fun j hj W' hW' => hrg W' (fun a ha => hW'.cell ha) j _ (hget j hj)) (fun j hj => hl22 _ (List.mem_of_getElem? (hget j hj))) hn (fun j hj W' hW' => clos2_any (L.getD j r) r day w.heap.size gd W' ((HL.out _ (List.mem_of_getElem? (hget j hj))).ext (hEW.next hW')) (HRX.out.ext (hEW.next hW')) (hBr.ext hW') (hDw.ext hW')))
  rw [← hmb]
  clear hmb
  go_enter Tryz.func81, Tryz.ntmps81
  go_upto_region 1 with fail
  obtain ⟨w1, hw1⟩ : ∃ x, x = w.alloc (.cells (rxC r).toArray 28) := ⟨_, rfl⟩
  change Code.wp _ _ _ _ (w.alloc (.cells (rxC r).toArray 28))
  rw [← hw1] at HCF ⊢
  have E1 : Hid (Ext w w1) := Lib.hid (by rw [hw1]; exact (Ext.refl w).alloc _)
  have EX : Hid (Ext w1 w1) := Lib.hid (Ext.refl _)
  have ca : w1.cell? ⟨ga, 0, none⟩ = some (.slice A n c) := (HG.out.ext E1.out).cell 0
  clear hw1
  go_wp2_with (go_at_call 82; (with_reducible refine (HCF.out _ EX.out).mono ?_); rintro e w2 ⟨rfl, hE2⟩; have EX := Lib.hid (EX.out.next hE2); clear hE2)
  go_ret
  exact ⟨rfl, E1.out.next EX.out⟩
end Go.Proofs.YtjeecfjeooehhaaGreatDoor
