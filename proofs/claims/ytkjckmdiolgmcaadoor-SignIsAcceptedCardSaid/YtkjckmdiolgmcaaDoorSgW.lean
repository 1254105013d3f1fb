/- sign's Verify, up to its loop. Conditions: a height up to 6, a message of at most 1000000 bytes. -/
import Derived.Test.YtkjckmdiolgmcaaDoorSgV
import Derived.Test.YtkjckmdiolgmcaaDoorSgE
set_option linter.unusedSimpArgs false
set_option linter.unusedVariables false
namespace Go.Proofs.YtkjckmdiolgmcaaDoor
open Go.RowKit
attribute [local go_sem ↓] wp_at_zero wp_at_succ
theorem run_toBytes2 {P : Program} (W : World) (src dst e : TypeId) (s : ByteArray) (hs : P.underlying src = some .string) (hd : P.underlying dst = some (.slice e)) (he : P.underlying e = some (.int .u8)) (hsz : s.size ≤ 1000000000000) :
    ∃ c w', (convert src dst (.string s)).run P W = .ok (.slice (some ⟨W.heap.size, 0, none⟩) s.size c) w' ∧ (s.size ≤ c ∧ c ≤ 9223372036854775807) ∧ Rd w' w'.heap.size (some ⟨W.heap.size, 0, none⟩) s.size (u8s (bys s)) ∧ Below W.heap.size W w' := by
  obtain ⟨c, w', h, hR, hB⟩ := run_toBytes W src dst e s hs hd he
  refine ⟨c, w', h, ?_, hR, hB⟩
  have h2 := run_bytes_of_string W src dst e s hs hd he
  rw [h] at h2
  injection h2 with h2 _
  injection h2 with _ _ h2
  rw [h2]
  have h3 := grownCap_ge W s.size 0 e
  have h4 := grownCap_le_maxLen W s.size 0 e (by unfold maxLen; omega)
  unfold maxLen at h4
  exact ⟨h3, h4⟩
theorem wrap_id (x : Int) (h0 : -9223372036854775808 ≤ x) (h1 : x ≤ 9223372036854775807) : IntKind.i64.wrap x = x := by
  unfold IntKind.wrap
  simp [IntKind.bits, IntKind.signed]
  omega
set_option maxHeartbeats 8000000 in
set_option maxRecDepth 100000 in
theorem verify_form (pub : List Int) (h i p m : Nat) (msg S : ByteArray) (X : List Int) (w : World) (hpub : Dig pub) (h6 : h ≤ 6) (hp : p = 2 ^ h) (hip : i < p) (hm : msg.size ≤ 1000000) (hS : S = strOf (encInt (i : Int) ++ X)) (hX : Byt X) (hXm : X.length = m) (hm1 : m ≤ 1000000) (hne : ¬ (m : Int) = (68 + (h : Int)) * 16) (hK : KTab w) :
    Calls Tryd.prog 12 #[.agg (u8s pub).toArray, .int .i64 (h : Int), .string msg, .string S] w fun e w' => e = .returned (.tuple #[.int .i64 0, .int .i64 2]) ∧ Ext w w' := by
  have HK := Lib.hid hK
  have hmf : ∀ (fn : Fn) (first cap : Array Value) (w : World), (Instr.makeFunc fn first cap).run Tryd.prog w = .ok (.func fn first cap) w := fun _ _ _ _ => rfl
  have hp64 : p ≤ 64 := by
    have := Nat.pow_le_pow_right (show 0 < 2 by decide) h6
    omega
  have hp2 : (2 : Int) ^ h = (p : Int) := by rw [hp]; exact_mod_cast rfl
  have HI : Hid (I64 (i : Int)) := Lib.hid ⟨by omega, by omega⟩
  have hle := encInt_le9 (i : Int) HI.out.1 HI.out.2
  have hEB := encInt_byt (i : Int) HI.out.1 HI.out.2
  obtain ⟨n, hn⟩ : ∃ n, n = (encInt (i : Int)).length := ⟨_, rfl⟩
  have hn9 : n ≤ 9 := by rw [hn]; exact hle
  have hn0 : 0 < n := by rw [hn, encInt_length]; omega
  have hsz : S.size = n + m := by rw [hS, strOf_size, List.length_append, ← hn, hXm]
  have hSB : bys S = encInt (i : Int) ++ X := by rw [hS]; exact bys_strOf _ (byt_app hEB hX)
  have hcut : S.extract n S.size = strOf X := by
    rw [← strOf_bys (S.extract n S.size), bys_extract, hSB]
    congr 1
    rw [hn, List.drop_left]
    rw [List.take_of_length_le]
    rw [hsz, hXm, hn]
    omega
  have hXs : (strOf X).size = m := by rw [strOf_size]; exact hXm
  obtain ⟨sz, hz⟩ : ∃ z, z = S.size := ⟨_, rfl⟩
  have hszz : sz = n + m := by rw [hz, hsz]
  have HCV : Hid (∀ W, ∃ cb wb, (convert 9 43 (.string S)).run Tryd.prog W = .ok (.slice (some ⟨W.heap.size, 0, none⟩) sz cb) wb ∧ Calls Tryd.prog 21 #[.slice (some ⟨W.heap.size, 0, none⟩) sz cb] wb (fun e w' => e = .returned (.tuple #[.int .i64 (i : Int), .int .i64 (n : Int), .int .i64 0]) ∧ wb = w') ∧ Ext W wb) := Lib.hid (fun W => by
    obtain ⟨cb, wb, hcb, hc2, hRb, hBb⟩ := run_toBytes2 (P := Tryd.prog) W 9 43 5 S Tryd.underlying9 Tryd.underlying43 Tryd.underlying5 (by omega)
    rw [hSB] at hRb
    rw [← hz] at hcb hRb hc2
    have hg := gint_any (encInt (i : Int) ++ X) _ sz cb wb hRb (byt_app hEB hX) hc2.1 hc2.2
    rw [getI_enc (i : Int) X HI.out.1 HI.out.2, ← hn] at hg
    exact ⟨cb, wb, hcb, hg, hBb⟩)
  have HCX : Hid (∀ W, ∃ cb wb, (convert 9 43 (.string (strOf X))).run Tryd.prog W = .ok (.slice (some ⟨W.heap.size, 0, none⟩) m cb) wb ∧ (m ≤ cb ∧ cb ≤ 9223372036854775807) ∧ Rd wb wb.heap.size (some ⟨W.heap.size, 0, none⟩) m (u8s X) ∧ Ext W wb) := Lib.hid (fun W => by
    obtain ⟨cb, wb, hcb, hc2, hRb, hBb⟩ := run_toBytes2 (P := Tryd.prog) W 9 43 5 (strOf X) Tryd.underlying9 Tryd.underlying43 Tryd.underlying5 (by omega)
    rw [bys_strOf X hX, hXs] at hRb
    rw [hXs] at hcb hc2
    exact ⟨cb, wb, hcb, hc2, hRb, hBb⟩)
  have hnS : (n : Int) ≤ (S.size : Int) := by omega
  have hnz : n ≤ sz := by omega
  clear hn hp hle hEB hSB hXm hS hszz hz hsz hXs
  go_enter Tryd.func12, Tryd.ntmps12
  go_upto_region 1 with fail
  obtain ⟨w1, hw1⟩ : ∃ x, x = w.alloc (.cells (u8s pub).toArray 23) := ⟨_, rfl⟩
  change Code.wp _ _ _ _ (w.alloc (.cells (u8s pub).toArray 23))
  rw [← hw1]
  have E1 : Hid (Ext w w1) := Lib.hid (by rw [hw1]; exact (Ext.refl w).alloc _)
  have B1 : Hid (Blk w1 w.heap.size 23 (u8s pub)) := Lib.hid (by rw [hw1]; exact Blk.fresh' _ _ _ _ _ rfl rfl)
  clear hw1
  obtain ⟨cb, wb, hcb, HGI0, hEb⟩ := HCV.out w1
  have HGI := Lib.hid HGI0; have EB := Lib.hid hEb
  clear HGI0 hEb
  go_upto_region 8 with (go_loud (first
    | (go_at_call 14; (with_reducible refine (valid_ok h w1 h6).mono ?_); rintro e w3 ⟨rfl, rfl⟩)
    | (go_at_call 21; (with_reducible refine HGI.out.mono ?_); rintro e w3 ⟨rfl, rfl⟩)))
  clear hcb HCV
  obtain ⟨w3, hw3⟩ : ∃ x, x = wb.alloc (.cells #[.int .i64 (i : Int)] 3) := ⟨_, rfl⟩
  change Code.wp _ _ _ _ (wb.alloc (.cells #[.int .i64 (i : Int)] 3))
  rw [← hw3]
  have EW3 : Hid (Ext wb w3) := Lib.hid (by rw [hw3]; exact (Ext.refl wb).alloc _)
  have BI : Hid (Blk w3 wb.heap.size 3 [.int .i64 (i : Int)]) := Lib.hid (by rw [hw3]; exact Blk.fresh' _ _ _ _ _ rfl rfl)
  clear hw3
  obtain ⟨cx, w4, hcx, hcc, hrx, he4⟩ := HCX.out w3
  have E4 : Hid (Ext w3 w4) := Lib.hid he4
  have RX := Lib.hid hrx
  obtain ⟨hc1, hc2⟩ := hcc
  clear hrx he4 HCX
  go_upto_region 9 with fail
  clear hcx
  obtain ⟨gx, hgx⟩ : ∃ x, x = w3.heap.size := ⟨_, rfl⟩
  rw [← hgx] at RX ⊢
  obtain ⟨w5, hw5⟩ : ∃ x, x = w4.alloc (.cells #[.slice (some ⟨gx, 0, none⟩) m cx] 43) := ⟨_, rfl⟩
  change Code.wp _ _ _ _ (w4.alloc (.cells #[.slice (some ⟨gx, 0, none⟩) m cx] 43))
  rw [← hw5]
  have E5 : Hid (Ext w4 w5) := Lib.hid (by rw [hw5]; exact (Ext.refl w4).alloc _)
  have BR : Hid (Blk w5 w4.heap.size 43 [.slice (some ⟨gx, 0, none⟩) m cx]) := Lib.hid (by rw [hw5]; exact Blk.fresh' _ _ _ _ _ rfl rfl)
  have EA : Hid (Ext w w5) := Lib.hid (((E1.out.next EB.out).next EW3.out).next (E4.out.next E5.out))
  have BI5 := Lib.hid (BI.out.ext (E4.out.next E5.out))
  clear hw5 hgx
  have ci := BI5.out.one
  have cr := BR.out.one
  have hd0 : decide ((i : Int) < 0) = false := decide_eq_false (by omega)
  have hd1 : decide ((p : Int) ≤ (i : Int)) = false := decide_eq_false (by omega)
  have hdp : decide (p ≤ i) = false := decide_eq_false (by omega)
  have hwp : IntKind.i64.wrap (p : Int) = (p : Int) := wrap_id _ (by omega) (by omega)
  obtain ⟨r, hr⟩ : ∃ r : Nat, r = 68 + h := ⟨_, rfl⟩
  obtain ⟨q, hq⟩ : ∃ q : Nat, q = r * 16 := ⟨_, rfl⟩
  have hwr : IntKind.i64.wrap (68 + (h : Int)) = (r : Int) := by rw [wrap_id _ (by omega) (by omega)]; omega
  have hwq : IntKind.i64.wrap ((r : Int) * 16) = (q : Int) := by rw [wrap_id _ (by omega) (by omega)]; omega
  have hmq : ((m : Int) != (q : Int)) = true := by rw [bne_iff_ne]; omega
  clear hr hq hne
  go_wp2_with fail
  go_quiet (fail)
  go_wp2_with fail
  go_ret2
  exact ⟨rfl, EA.out.drewN _⟩
end Go.Proofs.YtkjckmdiolgmcaaDoor
