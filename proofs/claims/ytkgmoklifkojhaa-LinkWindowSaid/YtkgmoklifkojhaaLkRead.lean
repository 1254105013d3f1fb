/- link.packet.valid, link.read; the reference's Read. Conditions: sizes that fit the memory. -/
import Derived.Test.YtkgmoklifkojhaaLkOpen
import Derived.Test.YtkgmoklifkojhaaGF
import Derived.Test.YtkgmoklifkojhaaGA
set_option linter.unusedSimpArgs false
set_option linter.unusedVariables false
namespace Go.Proofs.Ytkgmoklifkojhaa
open Go.RowKit
def validB (a b : Int) (k : Nat) : Bool := decide (0 ≤ a ∧ 0 ≤ b ∧ k ≤ 65536 ∧ (0 < a ∨ k = 0))
/-- The packet with some bytes. -/
def readL (x : List Int) : Option (Int × Int × List Int) :=
  if (decList getI x).2.2 = 0 ∧ (decList getI x).1.length = 2 ∧ (decS (x.drop (decList getI x).2.1.toNat)).2.2 = 0 ∧ (decList getI x).2.1 + (decS (x.drop (decList getI x).2.1.toNat)).2.1 = x.length ∧
    validB ((decList getI x).1.getD 0 0) ((decList getI x).1.getD 1 0) (decS (x.drop (decList getI x).2.1.toNat)).1.size = true then
    some ((decList getI x).1.getD 0 0, (decList getI x).1.getD 1 0, bys (decS (x.drop (decList getI x).2.1.toNat)).1)
  else none
set_option maxHeartbeats 4000000 in
set_option maxRecDepth 100000 in
theorem valid_any (a b : Int) (A : Option Addr) (k c : Nat) (w : World) (hk : k ≤ 1000000000000) :
    Calls Try.prog 48 #[.agg #[.int .i64 a, .int .i64 b, .slice A k c]] w fun e w' => e = .returned (.bool (validB a b k)) ∧ Ext w w' := by
  go_enter Try.func48, Try.ntmps48
  go_upto_region 1 with (fail)
  obtain ⟨w0, hw0⟩ : ∃ w0, w0 = w.alloc (.cells #[.int .i64 a, .int .i64 b, .slice A k c] 68) := ⟨_, rfl⟩
  change Code.wp _ _ _ _ (w.alloc (.cells #[.int .i64 a, .int .i64 b, .slice A k c] 68))
  rw [← hw0]
  obtain ⟨g, hg⟩ : ∃ g, g = w.heap.size := ⟨_, rfl⟩
  rw [← hg]
  have HW0 : Hid (Blk w0 g 68 [.int .i64 a, .int .i64 b, .slice A k c]) := Lib.hid (by rw [hw0, hg]; exact Blk.fresh _ _ _)
  have E0 : Hid (Ext w w0) := Lib.hid (by rw [hw0]; exact (Ext.refl w).alloc _)
  clear hw0 hg
  have g0 := HW0.out.cell 0; have g1 := HW0.out.cell 1; have g2 := HW0.out.cell 2
  simp only [List.getElem?_cons_zero, List.getElem?_cons_succ] at g0 g1 g2
  go_wp2_with fail
  all_goals go_ret
  all_goals refine ⟨?_, E0.out⟩
  all_goals
    refine congrArg (fun x => Ending.returned (Value.bool x)) (?_ : _ = validB a b k)
    rw [Bool.eq_iff_iff]
    simp [validB]
    try omega
theorem results_blk_tmp {P : Program} {fn : Func} {p u : Tmp} {ty : TypeId} (h : fn.results = #[ResultVar.cell p ty, .tmp u]) (tmps : Array Value) (w : World) (g : Nat) (t : TypeId) (cs : List Value) (d : TypeDesc) (hp : tmps.getD p undef = .pointer (some ⟨g, 0, none⟩))
    (hb : Blk w g t cs) (hu : P.underlying ty = some d) (hd : d.isRow = true) (hi : (P.info? ty).map (·.size) = some cs.length) : (results fn tmps).run P w = .ok (.tuple #[.agg cs.toArray, tmps.getD u undef]) w := by
  have hp' : tmps[p]?.getD undef = .pointer (some ⟨g, 0, none⟩) := by simpa using hp
  simp [results, h, hp', asAddr, run_loadVar_row w g t ty cs.toArray (0, 0) d hb hu (by cases d <;> first | rfl | cases hd) (by rw [hi, List.size_toArray])]
theorem info_pkt : (Try.prog.info? 68).map (·.size) = some 3 := by kernel_rfl
theorem cell_setRow_far (w : World) (k : Nat) (U : Array Value) (g o : Nat) (h : g ≠ k) : (w.setRow k U).cell? ⟨g, o, none⟩ = w.cell? ⟨g, o, none⟩ := by
  simp only [World.cell?, setRow_other w k g U h]
def pkC (a b : Int) (A : Option Addr) (k c : Nat) : List Value := [.int .i64 a, .int .i64 b, .slice A k c]
theorem pkC_one (a b : Int) (A : Option Addr) (k c : Nat) : ∀ v ∈ pkC a b A k c, v.oneCell' = true := fun v hv => by
  simp only [pkC, List.mem_cons, List.not_mem_nil, or_false] at hv
  rcases hv with rfl | rfl | rfl <;> rfl
theorem rd_off {w : World} {A A' : Option Addr} {n p k c : Nat} {l : List Int} {T : TypeId} {a b : Int} {U : Array Value} (h : Rd w w.heap.size A n (u8s l)) (hb : Blk w p T (pkC a b A' k c)) : Rd (w.setRow p U) (w.setRow p U).heap.size A n (u8s l) := by
  refine ⟨h.1, fun hn => ?_⟩
  obtain ⟨g, o, hA, hg, hc⟩ := h.2 hn
  have hne : g ≠ p := by
    rintro rfl
    have h0 : (u8s l)[0]? = some (.int .u8 (l.getD 0 0)) := u8s_get l 0 (by have := h.1; rw [u8s_length] at this; omega)
    have h1 := hc 0 _ h0
    rw [hb.cell] at h1
    unfold pkC at h1
    rcases o with _ | _ | _ | o
    · simp at h1
    · simp at h1
    · simp at h1
    · simp at h1
  refine ⟨g, o, hA, by simpa using hg, fun j u hu => ?_⟩
  rw [cell_setRow_far w p U g _ hne]
  exact hc j u hu
set_option maxHeartbeats 8000000 in
set_option maxRecDepth 100000 in
theorem read_any (x : List Int) (A : Option Addr) (n c : Nat) (w : World) (hl : Rd w w.heap.size A n (u8s x)) (hby : Byt x) (hn : n ≤ 1000000000) (hnc : n ≤ c) (hc : c ≤ 9223372036854775807) :
    Calls Try.prog 36 #[.slice A n c] w fun e w' => (∃ a b A' k' c', e = .returned (.tuple #[.agg #[.int .i64 a, .int .i64 b, .slice A' k' c'], .bool (readL x).isSome]) ∧ (∀ s t m, readL x = some (s, t, m) → a = s ∧ b = t ∧ k' = m.length ∧ m.length ≤ 65536 ∧ 0 ≤ s ∧ 0 ≤ t ∧ s ≤ 9223372036854775807 ∧ t ≤ 9223372036854775807 ∧ Byt m ∧ Rd w' w'.heap.size A' k' (u8s m) ∧ ∃ g, A' = some ⟨g, 0, none⟩ ∧ w.heap.size ≤ g)) ∧ Ext w w' := by
  have hlen : x.length = n := by simpa [u8s] using hl.1
  have HL := Lib.hid hl; have HN := Lib.hid hlen
  have hn2 : n ≤ 1000000000000 := by omega
  clear hl
  rcases decList_canon getI encInt (fun x => -9223372036854775808 ≤ x ∧ x ≤ 9223372036854775807) x hby (fun r hr _ => oneI_canon r hr) with ⟨er, hg, her⟩ | ⟨xs, u, hg, hu, henc, hq⟩
  · have HRN : Hid (readL x = none) := Lib.hid (by unfold readL; rw [hg]; rw [if_neg]; rintro ⟨h, _⟩; exact her h)
    have HG := Lib.hid hg
    have hne : ((er : Int) == 0) = false := by simpa using her
    clear hg hlen
    go_enter Try.func36, Try.ntmps36
    go_upto_region 1 with (fail)
    obtain ⟨w0, hw0⟩ : ∃ w0, w0 = w.alloc (.cells (pkC 0 0 none 0 0).toArray 68) := ⟨_, rfl⟩
    change Code.wp _ _ _ _ (w.alloc (.cells (pkC 0 0 none 0 0).toArray 68))
    rw [← hw0]
    obtain ⟨p2, hp2e⟩ : ∃ g, g = w.heap.size := ⟨_, rfl⟩
    rw [← hp2e]
    have D2 : Hid (Blk w0 p2 68 (pkC 0 0 none 0 0)) := Lib.hid (by rw [hw0, hp2e]; exact Blk.fresh _ _ _)
    have E0 : Hid (Ext w w0) := Lib.hid (by rw [hw0]; exact (Ext.refl w).alloc _)
    have hp2 : w.heap.size ≤ p2 := by omega
    clear hw0 hp2e
    go_wp2_with (first
      | (go_at_call 46; (with_reducible refine (gintsR x A _ _ w0 (HL.out.ext' E0.out) hby hnc hc hn2 [] 0 er HG.out).mono ?_); rintro e w1 ⟨⟨A1, c1, rfl, ⟨hc1, hm1⟩, hR⟩, hB⟩; have E1 : Hid (Ext w w1) := Lib.hid (E0.out.next hB); have D2b := Lib.hid (D2.out.ext hB); have R1 := Lib.hid hR; have hm1b : c1 ≤ 9223372036854775807 := (by unfold maxLen at hm1; omega); clear hB hR)
      | (refine wpList_store_blk rfl 68 (.tmp 2) (.tmp 23) (by rfl) p2 (pkC 0 0 none 0 0) rfl rfl D2b.out (info_pkt.trans rfl) rfl (pkC_one _ _ _ _ _) ?_; intro w9 hw9 hb9; have E9 : Hid (Ext w w9) := Lib.hid (by rw [hw9.out]; exact E1.out.setRow hp2 _)))
    refine bodyPost_ret (results_blk_tmp Try.results36 _ _ p2 68 (pkC 0 0 none 0 0) _ rfl hb9 Try.underlying68 rfl (info_pkt.trans rfl)) rfl ⟨⟨_, _, _, _, _, by rw [HRN.out]; rfl, fun s t m h => (by rw [HRN.out] at h; cases h)⟩, E9.out⟩
  · have hu1 : 1 ≤ u := by
      rcases Nat.eq_zero_or_pos u with h0 | h0
      · exfalso
        rw [h0, List.take_zero] at henc
        have := congrArg List.length henc
        rw [List.length_append] at this
        have h1 := encInt_pos (xs.length : Int)
        simp only [List.length_nil] at this
        omega
      · exact h0
    have HG := Lib.hid hg
    have hu' : u ≤ n := by omega
    clear henc
    by_cases h2 : xs.length = 2
    · obtain ⟨a, b, rfl⟩ : ∃ a b, xs = [a, b] := by
        match xs, h2 with
        | [a, b], _ => exact ⟨a, b, rfl⟩
      have ha := hq a (List.mem_cons_self ..)
      have hb := hq b (List.mem_cons_of_mem _ (List.mem_cons_self ..))
      obtain ⟨ha0, ha1⟩ := ha
      obtain ⟨hb0, hb1⟩ := hb
      obtain ⟨bb, oo, rfl, hRb⟩ := rd_at HL.out (by omega)
      have hRD : Hid (∀ s m f, decS (x.drop u) = (s, m, f) → readL x = if f = 0 ∧ (u : Int) + m = n ∧ validB a b s.size = true then some (a, b, bys s) else none) := Lib.hid (fun s m f h => by
        unfold readL
        rw [hg]
        simp only [Int.toNat_natCast, h, HN.out]
        have e1 : ([a, b].getD 0 0) = a := rfl
        have e2 : ([a, b].getD 1 0) = b := rfl
        have e3 : [a, b].length = 2 := rfl
        rw [e1, e2, e3]
        by_cases hc : f = 0 ∧ (u : Int) + m = n ∧ validB a b s.size = true
        · rw [if_pos hc, if_pos (by refine ⟨?_, ?_, hc.1, hc.2.1, hc.2.2⟩ <;> trivial)]
        · rw [if_neg hc, if_neg (fun h => hc ⟨h.2.2.1, h.2.2.2.1, h.2.2.2.2⟩)])
      have RD := Lib.hid hRb
      clear hg hq h2 hRb
      by_cases hcu : c = u
      · have hnu : n = u := by omega
        have hS0 : decS (x.drop u) = (ByteArray.empty, 0, 3) := by rw [List.drop_of_length_le (by omega)]; rfl
        have HRN : Hid (readL x = none) := Lib.hid (by rw [hRD.out _ _ _ hS0, if_neg (by rintro ⟨h, _⟩; cases h)])
        have HS0 : Hid (decS [] = (ByteArray.empty, 0, 3)) := Lib.hid rfl
        clear hS0 hlen
        subst hnu
        subst hcu
        go_enter Try.func36, Try.ntmps36
        go_upto_region 1 with (fail)
        obtain ⟨w0, hw0⟩ : ∃ w0, w0 = w.alloc (.cells (pkC 0 0 none 0 0).toArray 68) := ⟨_, rfl⟩
        change Code.wp _ _ _ _ (w.alloc (.cells (pkC 0 0 none 0 0).toArray 68))
        rw [← hw0]
        obtain ⟨p2, hp2e⟩ : ∃ g, g = w.heap.size := ⟨_, rfl⟩
        rw [← hp2e]
        have D2 : Hid (Blk w0 p2 68 (pkC 0 0 none 0 0)) := Lib.hid (by rw [hw0, hp2e]; exact Blk.fresh _ _ _)
        have E0 : Hid (Ext w w0) := Lib.hid (by rw [hw0]; exact (Ext.refl w).alloc _)
        have hp2 : w.heap.size ≤ p2 := by omega
        clear hw0 hp2e
        go_wp2_with (first
          | (go_at_call 46; (with_reducible refine (gintsR x (some ⟨bb, oo, none⟩) _ _ w0 (HL.out.ext' E0.out) hby hnc hc hn2 [a, b] _ 0 HG.out).mono ?_); rintro e w1 ⟨⟨A1, c1, rfl, ⟨hc1, hm1⟩, hR⟩, hB⟩; have E1 : Hid (Ext w w1) := Lib.hid (E0.out.next hB); have D2b := Lib.hid (D2.out.ext hB); have R1 := Lib.hid hR; have hm1b : c1 ≤ 9223372036854775807 := (by unfold maxLen at hm1; omega); clear hB hR)
          | (go_at_call 47; (with_reducible refine (gbytes_any [] (some ⟨bb, oo, none⟩) 0 0 w1 (Rd.nil _ _ _) Byt.nil (Nat.le_refl _) (by decide) (by decide)).mono ?_); rintro e wx ⟨rfl, rfl⟩; rw [HS0.out]; unfold tupS)
          | (refine wpList_store_blk rfl 68 (.tmp 2) (.tmp 42) (by rfl) p2 (pkC 0 0 none 0 0) rfl rfl D2b.out (info_pkt.trans rfl) rfl (pkC_one _ _ _ _ _) ?_; intro w9 hw9 hb9; have E9 : Hid (Ext w w9) := Lib.hid (by rw [hw9.out]; exact E1.out.setRow hp2 _)))
        refine bodyPost_ret (results_blk_tmp Try.results36 _ _ p2 68 (pkC 0 0 none 0 0) _ rfl hb9 Try.underlying68 rfl (info_pkt.trans rfl)) rfl ⟨⟨_, _, _, _, _, by rw [HRN.out]; rfl, fun s t m h => (by rw [HRN.out] at h; cases h)⟩, E9.out⟩
      · have HSR : Hid (∀ W, Ext w W → Rd W W.heap.size (some ⟨bb, oo + u, none⟩) (n - u) (u8s (x.drop u))) := Lib.hid (fun W h => (rd_rest RD.out u hu').ext' h)
        have hnc2 : n - u ≤ c - u := by omega
        have hc2 : c - u ≤ 9223372036854775807 := by omega
        have hn3 : n - u ≤ 1000000000000 := by omega
        have HBD := Lib.hid (hby.drop u)
        rcases decS_cases (x.drop u) (hby.drop u) with ⟨er, hS, her⟩ | ⟨s, k, v, hS, -, -, -, -, -, -, hv, -⟩
        · have HRN : Hid (readL x = none) := Lib.hid (by rw [hRD.out _ _ _ hS, if_neg]; rintro ⟨h, _⟩; rcases her with rfl | rfl <;> cases h)
          have HS := Lib.hid hS
          have hne : ((er : Int) == 0) = false := by rcases her with rfl | rfl <;> rfl
          clear hS hlen her
          go_enter Try.func36, Try.ntmps36
          go_upto_region 1 with (fail)
          obtain ⟨w0, hw0⟩ : ∃ w0, w0 = w.alloc (.cells (pkC 0 0 none 0 0).toArray 68) := ⟨_, rfl⟩
          change Code.wp _ _ _ _ (w.alloc (.cells (pkC 0 0 none 0 0).toArray 68))
          rw [← hw0]
          obtain ⟨p2, hp2e⟩ : ∃ g, g = w.heap.size := ⟨_, rfl⟩
          rw [← hp2e]
          have D2 : Hid (Blk w0 p2 68 (pkC 0 0 none 0 0)) := Lib.hid (by rw [hw0, hp2e]; exact Blk.fresh _ _ _)
          have E0 : Hid (Ext w w0) := Lib.hid (by rw [hw0]; exact (Ext.refl w).alloc _)
          have hp2 : w.heap.size ≤ p2 := by omega
          clear hw0 hp2e
          go_wp2_with (first
            | (go_at_call 46; (with_reducible refine (gintsR x (some ⟨bb, oo, none⟩) _ _ w0 (HL.out.ext' E0.out) hby hnc hc hn2 [a, b] _ 0 HG.out).mono ?_); rintro e w1 ⟨⟨A1, c1, rfl, ⟨hc1, hm1⟩, hR⟩, hB⟩; have E1 : Hid (Ext w w1) := Lib.hid (E0.out.next hB); have D2b := Lib.hid (D2.out.ext hB); have R1 := Lib.hid hR; have hm1b : c1 ≤ 9223372036854775807 := (by unfold maxLen at hm1; omega); clear hB hR)
            | (go_at_call 47; (with_reducible refine (gbytes_any (x.drop u) (some ⟨bb, oo + u, none⟩) (n - u) (c - u) w1 (HSR.out w1 E1.out) HBD.out hnc2 hc2 hn3).mono ?_); rintro e wx ⟨rfl, rfl⟩; rw [HS.out]; unfold tupS)
            | (refine wpList_store_blk rfl 68 (.tmp 2) (.tmp 42) (by rfl) p2 (pkC 0 0 none 0 0) rfl rfl D2b.out (info_pkt.trans rfl) rfl (pkC_one _ _ _ _ _) ?_; intro w9 hw9 hb9; have E9 : Hid (Ext w w9) := Lib.hid (by rw [hw9.out]; exact E1.out.setRow hp2 _)))
          refine bodyPost_ret (results_blk_tmp Try.results36 _ _ p2 68 (pkC 0 0 none 0 0) _ rfl hb9 Try.underlying68 rfl (info_pkt.trans rfl)) rfl ⟨⟨_, _, _, _, _, by rw [HRN.out]; rfl, fun s t m h => (by rw [HRN.out] at h; cases h)⟩, E9.out⟩
        · rw [List.length_drop] at hv
          by_cases huv : u + v = n
          · have HS := Lib.hid hS
            have HRS : Hid (readL x = if validB a b s.size = true then some (a, b, bys s) else none) := Lib.hid (by
              rw [hRD.out _ _ _ hS]
              have e : (u : Int) + v = n := by omega
              simp only [e, true_and])
            have huv2 : (u : Int) + v = n := by omega
            have hsz : s.size ≤ 1000000000000 := by
              have h1 := hS
              rcases oneS_canon (x.drop u) (hby.drop u) with he | ⟨y, q, hy, _, _, hy2⟩
              · rw [hS] at he; exact absurd rfl he
              · rw [hS] at hy
                simp only [Prod.mk.injEq] at hy
                rw [hy.1]
                rw [List.length_drop] at hy2
                omega
            have HUV := Lib.hid huv2
            clear hS hlen huv
            go_enter Try.func36, Try.ntmps36
            go_upto_region 1 with (fail)
            obtain ⟨w0, hw0⟩ : ∃ w0, w0 = w.alloc (.cells (pkC 0 0 none 0 0).toArray 68) := ⟨_, rfl⟩
            change Code.wp _ _ _ _ (w.alloc (.cells (pkC 0 0 none 0 0).toArray 68))
            rw [← hw0]
            obtain ⟨p2, hp2e⟩ : ∃ g, g = w.heap.size := ⟨_, rfl⟩
            rw [← hp2e]
            have D2 : Hid (Blk w0 p2 68 (pkC 0 0 none 0 0)) := Lib.hid (by rw [hw0, hp2e]; exact Blk.fresh _ _ _)
            have E0 : Hid (Ext w w0) := Lib.hid (by rw [hw0]; exact (Ext.refl w).alloc _)
            have hp2 : w.heap.size ≤ p2 := by omega
            clear hw0 hp2e
            go_upto_region 7 with (first
              | (go_at_call 46; (with_reducible refine (gintsR x (some ⟨bb, oo, none⟩) _ _ w0 (HL.out.ext' E0.out) hby hnc hc hn2 [a, b] _ 0 HG.out).mono ?_); rintro e w1 ⟨⟨A1, c1, rfl, ⟨hc1, hm1⟩, hR⟩, hB⟩; have E1 : Hid (Ext w w1) := Lib.hid (E0.out.next hB); have D2b := Lib.hid (D2.out.ext hB); have R1 := Lib.hid hR; have hm1b : c1 ≤ 9223372036854775807 := (by unfold maxLen at hm1; omega); clear hB hR)
              | (go_at_call 47; (with_reducible refine (gbytes_any (x.drop u) (some ⟨bb, oo + u, none⟩) (n - u) (c - u) w1 (HSR.out w1 E1.out) HBD.out hnc2 hc2 hn3).mono ?_); rintro e wx ⟨rfl, rfl⟩; rw [HS.out]; unfold tupS))
            obtain ⟨q1, r1, hA1, hRA⟩ := rd_at R1.out (Nat.succ_pos _)
            subst hA1
            obtain ⟨q1', r1', hA1, hq1b, hcc⟩ := hRA.2 (Nat.succ_pos _)
            simp only [Option.some.injEq, Addr.mk.injEq, and_true] at hA1
            obtain ⟨rfl, rfl⟩ := hA1
            have hc0 := hcc 0 _ rfl
            have hc1b := hcc 1 _ rfl
            rw [Nat.add_zero] at hc0
            clear hcc hRA
            refine wp_region_flow 10 (by kernel_rfl) (by kernel_rfl) (fun a b => Ext a b) Ext.refl (fun h1 h2 => h1.next h2) (fun i v W => match i with
              | 0 => v = .slice (some ⟨q1, r1, none⟩) 2 c1
              | 1 => v = .pointer (some ⟨q1, r1, none⟩)
              | 2 => v = .int .i64 a
              | 3 => v = .slice (some ⟨q1, r1, none⟩) 2 c1
              | 4 => v = .pointer (some ⟨q1, r1 + 1, none⟩)
              | 5 => v = .int .i64 b
              | 6 => v = .string s
              | 7 => ∃ A c, v = .slice A s.size c ∧ Rd W W.heap.size A s.size (u8s (bys s)) ∧ ∃ g, A = some ⟨g, 0, none⟩ ∧ w.heap.size ≤ g
              | 8 => ∃ A c, v = .agg #[.int .i64 a, .int .i64 b, .slice A s.size c] ∧ Rd W W.heap.size A s.size (u8s (bys s)) ∧ ∃ g, A = some ⟨g, 0, none⟩ ∧ w.heap.size ≤ g
              | 9 => ∃ p, v = .pointer (some ⟨p, 0, none⟩) ∧ w1.heap.size ≤ p ∧ Blk W p 68 (pkC 0 0 none 0 0)
              | _ => True) ?_ ?_
            · simp only [List.take_succ_cons, List.take_zero, flowSteps]
              refine ⟨?_, ?_, ?_, ?_, ?_, ?_, ?_, ?_, ?_, ?_, trivial⟩
              · intro us W K hE hd hK
                simp only [flowAct, Nat.zero_add, Nat.reduceAdd, Act.put, List.setIfInBounds_toArray, List.set_cons_succ, List.set_cons_zero] at hK ⊢
                have HK := Lib.hid hK; have HE := Lib.hid hE
                clear hK hd hE
                go_wp2_with fail
                exact K_at (HK.out (.slice (some ⟨q1, r1, none⟩) 2 c1) W (fun _ _ => rfl) (Ext.refl W)) (by kernel_rfl)
              · intro us W K hE hd hK
                have d0 := hd 0 (by kernel_rfl)
                simp only [flowAct, Nat.zero_add, Nat.reduceAdd, Act.put, List.setIfInBounds_toArray, List.set_cons_succ, List.set_cons_zero] at hK ⊢
                rw [d0] at hK ⊢
                have HK := Lib.hid hK; have HE := Lib.hid hE
                clear hK hd hE d0
                go_wp2_with fail
                exact K_at (HK.out (.pointer (some ⟨q1, r1, none⟩)) W (fun _ _ => rfl) (Ext.refl W)) (by kernel_rfl)
              · intro us W K hE hd hK
                have d1 := hd 1 (by kernel_rfl)
                have c0 := hE.cell (p := ⟨q1, r1, none⟩) hq1b
                rw [show (w1.drew).cell? ⟨q1, r1, none⟩ = some (.int .i64 a) from hc0] at c0
                simp only [flowAct, Nat.zero_add, Nat.reduceAdd, Act.put, List.setIfInBounds_toArray, List.set_cons_succ, List.set_cons_zero] at hK ⊢
                rw [d1] at hK ⊢
                have HK := Lib.hid hK; have HE := Lib.hid hE
                clear hK hd hE d1
                go_wp2_with fail
                exact K_at (HK.out (.int .i64 a) W (fun _ _ => rfl) (Ext.refl W)) (by kernel_rfl)
              · intro us W K hE hd hK
                simp only [flowAct, Nat.zero_add, Nat.reduceAdd, Act.put, List.setIfInBounds_toArray, List.set_cons_succ, List.set_cons_zero] at hK ⊢
                have HK := Lib.hid hK; have HE := Lib.hid hE
                clear hK hd hE
                go_wp2_with fail
                exact K_at (HK.out (.slice (some ⟨q1, r1, none⟩) 2 c1) W (fun _ _ => rfl) (Ext.refl W)) (by kernel_rfl)
              · intro us W K hE hd hK
                have d3 := hd 3 (by kernel_rfl)
                simp only [flowAct, Nat.zero_add, Nat.reduceAdd, Act.put, List.setIfInBounds_toArray, List.set_cons_succ, List.set_cons_zero] at hK ⊢
                rw [d3] at hK ⊢
                have HK := Lib.hid hK; have HE := Lib.hid hE
                clear hK hd hE d3
                go_wp2_with fail
                exact K_at (HK.out (.pointer (some ⟨q1, r1 + 1, none⟩)) W (fun _ _ => rfl) (Ext.refl W)) (by kernel_rfl)
              · intro us W K hE hd hK
                have d4 := hd 4 (by kernel_rfl)
                have c0 := hE.cell (p := ⟨q1, r1 + 1, none⟩) hq1b
                rw [show (w1.drew).cell? ⟨q1, r1 + 1, none⟩ = some (.int .i64 b) from hc1b] at c0
                simp only [flowAct, Nat.zero_add, Nat.reduceAdd, Act.put, List.setIfInBounds_toArray, List.set_cons_succ, List.set_cons_zero] at hK ⊢
                rw [d4] at hK ⊢
                have HK := Lib.hid hK; have HE := Lib.hid hE
                clear hK hd hE d4
                go_wp2_with fail
                exact K_at (HK.out (.int .i64 b) W (fun _ _ => rfl) (Ext.refl W)) (by kernel_rfl)
              · intro us W K hE hd hK
                simp only [flowAct, Nat.zero_add, Nat.reduceAdd, Act.put, List.setIfInBounds_toArray, List.set_cons_succ, List.set_cons_zero] at hK ⊢
                have HK := Lib.hid hK; have HE := Lib.hid hE
                clear hK hd hE
                go_wp2_with fail
                exact K_at (HK.out (.string s) W (fun _ _ => rfl) (Ext.refl W)) (by kernel_rfl)
              · intro us W K hE hd hK
                have d6 := hd 6 (by kernel_rfl)
                have hsz : w.heap.size ≤ W.heap.size := Nat.le_trans E1.out.size hE.size
                obtain ⟨cb, wb, hcb, hRb, hBb⟩ := run_toBytes (P := Try.prog) W 9 33 5 s Try.underlying9 Try.underlying33 Try.underlying5
                simp only [flowAct, Nat.zero_add, Nat.reduceAdd, Act.put, List.setIfInBounds_toArray, List.set_cons_succ, List.set_cons_zero] at hK ⊢
                rw [d6] at hK ⊢
                have HK := Lib.hid hK; have HE := Lib.hid hE
                clear hK hd hE d6
                go_wp2_with fail
                exact K_at (HK.out (.slice (some ⟨W.heap.size, 0, none⟩) s.size cb) wb (fun W2 h2 => ⟨_, _, rfl, hRb.ext' h2, _, rfl, hsz⟩) hBb) (by kernel_rfl)
              · intro us W K hE hd hK
                have d2 := hd 2 (by kernel_rfl)
                have d5 := hd 5 (by kernel_rfl)
                obtain ⟨A7, c7, d7, r7, n7⟩ := hd 7 (by kernel_rfl)
                simp only [flowAct, Nat.zero_add, Nat.reduceAdd, Act.put, List.setIfInBounds_toArray, List.set_cons_succ, List.set_cons_zero] at hK ⊢
                rw [d2, d5, d7] at hK ⊢
                have HK := Lib.hid hK; have HE := Lib.hid hE
                clear hK hd hE d2 d5 d7
                go_wp2_with fail
                exact K_at (HK.out (.agg #[.int .i64 a, .int .i64 b, .slice A7 s.size c7]) W (fun W2 h2 => ⟨_, _, rfl, r7.ext' h2, n7⟩) (Ext.refl W)) (by kernel_rfl)
              · intro us W K hE hd hK
                have hsz := hE.size
                simp only [flowAct, Nat.zero_add, Nat.reduceAdd, Act.put, List.setIfInBounds_toArray, List.set_cons_succ, List.set_cons_zero] at hK ⊢
                have HK := Lib.hid hK; have HE := Lib.hid hE
                clear hK hd hE
                go_wp2_with fail
                exact K_at (HK.out (.pointer (some ⟨W.heap.size, 0, none⟩)) (W.alloc (.cells (pkC 0 0 none 0 0).toArray 68)) (fun W2 h2 => ⟨_, rfl, hsz, (Blk.fresh W 68 (pkC 0 0 none 0 0)).ext h2⟩) ((Ext.refl W).alloc _)) (by kernel_rfl)
            · intro us W hE hd
              obtain ⟨A8, c8, d8, r8, n8⟩ := hd 8 (by decide)
              obtain ⟨p9, d9, hp9, hb9⟩ := hd 9 (by decide)
              simp only [List.take_succ_cons, List.take_zero, List.drop_succ_cons, List.drop_zero, flowAct, Nat.zero_add, Nat.reduceAdd, Act.put, List.setIfInBounds_toArray, List.set_cons_succ, List.set_cons_zero]
              rw [d8, d9]
              have E3 : Hid (Ext w W) := Lib.hid (E1.out.drew.next hE)
              have D2c := Lib.hid (D2b.out.drew.ext hE)
              have R8 := Lib.hid r8; have N8 := Lib.hid n8; have B9 := Lib.hid hb9
              have hp29 : p2 < p9 := Nat.lt_of_lt_of_le D2b.out.lt hp9
              have hp9w : w.heap.size ≤ p9 := by omega
              clear hd hE d8 d9 r8 n8 hb9
              go_wp2_with (refine wpList_store_blk rfl 68 (.tmp 9) (.tmp 51) (by rfl) p9 (pkC a b A8 s.size c8) rfl rfl B9.out (info_pkt.trans rfl) rfl (pkC_one _ _ _ _ _) ?_; intro w4 hw4 hb4)
              have E4 : Hid (Ext w w4) := Lib.hid (by rw [hw4.out]; exact E3.out.setRow hp9w _)
              have D2d : Hid (Blk w4 p2 68 (pkC 0 0 none 0 0)) := Lib.hid (by rw [hw4.out]; exact D2c.out.setRow_far (by omega) _)
              have R9 : Hid (Rd w4 w4.heap.size A8 s.size (u8s (bys s))) := Lib.hid (by rw [hw4.out]; exact rd_off R8.out B9.out)
              have B4 := Lib.hid hb4
              clear hw4 hb4
              go_upto_region 8 with fail
              refine wp_region_flow 3 (by kernel_rfl) (by kernel_rfl) (fun a b => Ext a b) Ext.refl (fun h1 h2 => h1.next h2) (fun i v W => match i with
                | 0 => v = .agg #[.int .i64 a, .int .i64 b, .slice A8 s.size c8]
                | 1 => v = .agg #[.int .i64 a, .int .i64 b, .slice A8 s.size c8]
                | 2 => v = .bool (validB a b s.size)
                | _ => True) ?_ ?_
              · simp only [List.take_succ_cons, List.take_zero, flowSteps]
                refine ⟨?_, ?_, ?_, trivial⟩
                · intro us W K hE hd hK
                  simp only [flowAct, Nat.zero_add, Nat.reduceAdd, Act.put, List.setIfInBounds_toArray, List.set_cons_succ, List.set_cons_zero] at hK ⊢
                  have HK := Lib.hid hK; have HE := Lib.hid hE
                  clear hK hd hE
                  refine wpList_load_blk rfl 68 (.tmp 9) rfl p9 (by kernel_rfl) (B4.out.drew.ext HE.out) Try.underlying68 rfl (info_pkt.trans rfl) ?_
                  change K _ _
                  exact K_at (HK.out (.agg #[.int .i64 a, .int .i64 b, .slice A8 s.size c8]) W (fun _ _ => rfl) (Ext.refl W)) (by kernel_rfl)
                · intro us W K hE hd hK
                  simp only [flowAct, Nat.zero_add, Nat.reduceAdd, Act.put, List.setIfInBounds_toArray, List.set_cons_succ, List.set_cons_zero] at hK ⊢
                  have HK := Lib.hid hK; have HE := Lib.hid hE
                  clear hK hd hE
                  refine wpList_load_blk rfl 68 (.tmp 9) rfl p9 (by kernel_rfl) (B4.out.drew.ext HE.out) Try.underlying68 rfl (info_pkt.trans rfl) ?_
                  change K _ _
                  exact K_at (HK.out (.agg #[.int .i64 a, .int .i64 b, .slice A8 s.size c8]) W (fun _ _ => rfl) (Ext.refl W)) (by kernel_rfl)
                · intro us W K hE hd hK
                  have d1 := hd 1 (by kernel_rfl)
                  simp only [flowAct, Nat.zero_add, Nat.reduceAdd, Act.put, List.setIfInBounds_toArray, List.set_cons_succ, List.set_cons_zero] at hK ⊢
                  rw [d1] at hK ⊢
                  have HK := Lib.hid hK; have HE := Lib.hid hE
                  clear hK hd hE d1
                  go_wp2_with (go_at_call 48; (with_reducible refine (valid_any a b A8 s.size c8 W hsz).mono ?_); rintro e w6 ⟨rfl, hB⟩)
                  exact K_at (HK.out (.bool (validB a b s.size)) w6 (fun _ _ => rfl) hB) (by kernel_rfl)
              · intro us W hE hd
                have d0 := hd 0 (by decide)
                have d2 := hd 2 (by decide)
                simp only [List.take_succ_cons, List.take_zero, List.drop_succ_cons, List.drop_zero, flowAct, Nat.zero_add, Nat.reduceAdd, Act.put, List.setIfInBounds_toArray, List.set_cons_succ, List.set_cons_zero]
                rw [d0, d2]
                have E5 : Hid (Ext w W) := Lib.hid (E4.out.drew.next hE)
                have D2e := Lib.hid (D2d.out.drew.ext hE)
                have R5 := Lib.hid (R9.out.ext' (show Ext w4 W from (Ext.refl w4).drew.next hE))
                clear hd hE d0 d2
                obtain ⟨bv, hbv⟩ : ∃ v, v = validB a b s.size := ⟨_, rfl⟩
                rw [← hbv] at HRS ⊢
                have HBV := Lib.hid hbv
                clear hbv
                go_wp2_with (refine wpList_store_blk rfl 68 (.tmp 2) (.tmp 52) (by rfl) p2 (pkC a b A8 s.size c8) rfl rfl D2e.out (info_pkt.trans rfl) rfl (pkC_one _ _ _ _ _) ?_; intro w9 hw9 hb9)
                have E9 : Hid (Ext w w9) := Lib.hid (by rw [hw9.out]; exact E5.out.setRow hp2 _)
                have R9b : Hid (Rd w9 w9.heap.size A8 s.size (u8s (bys s))) := Lib.hid (by rw [hw9.out]; exact rd_off R5.out D2e.out)
                clear hw9
                refine bodyPost_ret (results_blk_tmp Try.results36 _ _ p2 68 (pkC a b A8 s.size c8) _ rfl hb9 Try.underlying68 rfl (info_pkt.trans rfl)) rfl ⟨⟨a, b, A8, s.size, c8, ?_, ?_⟩, E9.out⟩
                · rw [HRS.out]
                  cases bv <;> rfl
                · intro s1 t1 m1 h1
                  rw [HRS.out] at h1
                  cases bv with
                  | false => simp at h1
                  | true =>
                    simp only [if_true, Option.some.injEq, Prod.mk.injEq] at h1
                    obtain ⟨rfl, rfl, rfl⟩ := h1
                    have h2 := of_decide_eq_true (show decide (0 ≤ a ∧ 0 ≤ b ∧ s.size ≤ 65536 ∧ (0 < a ∨ s.size = 0)) = true from HBV.out.symm)
                    rw [bys_length]
                    exact ⟨rfl, rfl, rfl, h2.2.2.1, h2.1, h2.2.1, ha1, hb1, bys_byt s, R9b.out, N8.out⟩

          · have HRN : Hid (readL x = none) := Lib.hid (by rw [hRD.out _ _ _ hS, if_neg]; rintro ⟨_, h, _⟩; omega)
            have HS := Lib.hid hS
            have huv2 : ¬ (u : Int) + v = n := by omega
            have hv2 : u + v ≤ n := by omega
            clear hS hlen huv
            go_enter Try.func36, Try.ntmps36
            go_upto_region 1 with (fail)
            obtain ⟨w0, hw0⟩ : ∃ w0, w0 = w.alloc (.cells (pkC 0 0 none 0 0).toArray 68) := ⟨_, rfl⟩
            change Code.wp _ _ _ _ (w.alloc (.cells (pkC 0 0 none 0 0).toArray 68))
            rw [← hw0]
            obtain ⟨p2, hp2e⟩ : ∃ g, g = w.heap.size := ⟨_, rfl⟩
            rw [← hp2e]
            have D2 : Hid (Blk w0 p2 68 (pkC 0 0 none 0 0)) := Lib.hid (by rw [hw0, hp2e]; exact Blk.fresh _ _ _)
            have E0 : Hid (Ext w w0) := Lib.hid (by rw [hw0]; exact (Ext.refl w).alloc _)
            have hp2 : w.heap.size ≤ p2 := by omega
            clear hw0 hp2e
            go_wp2_with (first
              | (go_at_call 46; (with_reducible refine (gintsR x (some ⟨bb, oo, none⟩) _ _ w0 (HL.out.ext' E0.out) hby hnc hc hn2 [a, b] _ 0 HG.out).mono ?_); rintro e w1 ⟨⟨A1, c1, rfl, ⟨hc1, hm1⟩, hR⟩, hB⟩; have E1 : Hid (Ext w w1) := Lib.hid (E0.out.next hB); have D2b := Lib.hid (D2.out.ext hB); have R1 := Lib.hid hR; have hm1b : c1 ≤ 9223372036854775807 := (by unfold maxLen at hm1; omega); clear hB hR)
              | (go_at_call 47; (with_reducible refine (gbytes_any (x.drop u) (some ⟨bb, oo + u, none⟩) (n - u) (c - u) w1 (HSR.out w1 E1.out) HBD.out hnc2 hc2 hn3).mono ?_); rintro e wx ⟨rfl, rfl⟩; rw [HS.out]; unfold tupS)
              | (refine wpList_store_blk rfl 68 (.tmp 2) (.tmp 42) (by rfl) p2 (pkC 0 0 none 0 0) rfl rfl D2b.out (info_pkt.trans rfl) rfl (pkC_one _ _ _ _ _) ?_; intro w9 hw9 hb9; have E9 : Hid (Ext w w9) := Lib.hid (by rw [hw9.out]; exact E1.out.setRow hp2 _)))
            refine bodyPost_ret (results_blk_tmp Try.results36 _ _ p2 68 (pkC 0 0 none 0 0) _ rfl hb9 Try.underlying68 rfl (info_pkt.trans rfl)) rfl ⟨⟨_, _, _, _, _, by rw [HRN.out]; rfl, fun s t m h => (by rw [HRN.out] at h; cases h)⟩, E9.out⟩
    · have HRN : Hid (readL x = none) := Lib.hid (by unfold readL; rw [hg]; rw [if_neg]; rintro ⟨_, h, _⟩; exact h2 h)
      have h2b : ((xs.length : Int) == 2) = false := by rw [beq_eq_false_iff_ne]; omega
      clear hg hlen
      go_enter Try.func36, Try.ntmps36
      go_upto_region 1 with (fail)
      obtain ⟨w0, hw0⟩ : ∃ w0, w0 = w.alloc (.cells (pkC 0 0 none 0 0).toArray 68) := ⟨_, rfl⟩
      change Code.wp _ _ _ _ (w.alloc (.cells (pkC 0 0 none 0 0).toArray 68))
      rw [← hw0]
      obtain ⟨p2, hp2e⟩ : ∃ g, g = w.heap.size := ⟨_, rfl⟩
      rw [← hp2e]
      have D2 : Hid (Blk w0 p2 68 (pkC 0 0 none 0 0)) := Lib.hid (by rw [hw0, hp2e]; exact Blk.fresh _ _ _)
      have E0 : Hid (Ext w w0) := Lib.hid (by rw [hw0]; exact (Ext.refl w).alloc _)
      have hp2 : w.heap.size ≤ p2 := by omega
      clear hw0 hp2e
      go_wp2_with (first
        | (go_at_call 46; (with_reducible refine (gintsR x A _ _ w0 (HL.out.ext' E0.out) hby hnc hc hn2 xs u 0 HG.out).mono ?_); rintro e w1 ⟨⟨A1, c1, rfl, ⟨hc1, hm1⟩, hR⟩, hB⟩; have E1 : Hid (Ext w w1) := Lib.hid (E0.out.next hB); have D2b := Lib.hid (D2.out.ext hB); have R1 := Lib.hid hR; have hm1b : c1 ≤ 9223372036854775807 := (by unfold maxLen at hm1; omega); clear hB hR)
        | (refine wpList_store_blk rfl 68 (.tmp 2) (.tmp 23) (by rfl) p2 (pkC 0 0 none 0 0) rfl rfl D2b.out (info_pkt.trans rfl) rfl (pkC_one _ _ _ _ _) ?_; intro w9 hw9 hb9; have E9 : Hid (Ext w w9) := Lib.hid (by rw [hw9.out]; exact E1.out.setRow hp2 _)))
      refine bodyPost_ret (results_blk_tmp Try.results36 _ _ p2 68 (pkC 0 0 none 0 0) _ rfl hb9 Try.underlying68 rfl (info_pkt.trans rfl)) rfl ⟨⟨_, _, _, _, _, by rw [HRN.out]; rfl, fun s t m h => (by rw [HRN.out] at h; cases h)⟩, E9.out⟩
end Go.Proofs.Ytkgmoklifkojhaa
