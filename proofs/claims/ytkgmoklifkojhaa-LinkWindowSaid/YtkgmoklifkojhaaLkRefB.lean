/- The reference's Bytes, Open; Few, Around. Conditions: sizes that fit the memory. -/
import Derived.Test.YtkgmoklifkojhaaLkRef
set_option linter.unusedSimpArgs false
set_option linter.unusedVariables false
namespace Go.Proofs.Ytkgmoklifkojhaa
open Go.RowKit
set_option maxHeartbeats 4000000 in
set_option maxRecDepth 100000 in
theorem rbytesP_any (seq ack : Int) (s0 : -9223372036854775808 ≤ seq) (s1 : seq ≤ 9223372036854775807) (a0 : -9223372036854775808 ≤ ack) (a1 : ack ≤ 9223372036854775807) (l : List Int) (A : Option Addr) (n c : Nat) (w : World) (hl : Rd w w.heap.size A n (u8s l)) (hby : Byt l) (hn : n ≤ 1000000000) :
    Calls Try.prog 18 #[.agg #[.int .i64 seq, .int .i64 ack, .slice A n c]] w fun e w' => (∃ A' c', e = .returned (.slice A' (packL seq ack l).length c') ∧ w'.ownsRow w.heap.size 5 1 (.slice A' (packL seq ack l).length c') (packL seq ack l).length (u8s (packL seq ack l))) ∧ Below w.heap.size w w' := by
  obtain ⟨i0, hi, hz0, hz1, hz2⟩ := info_parts winfo_u8
  have hlen : l.length = n := by simpa [u8s] using hl.1
  have HL := Lib.hid hl; have HBY := Lib.hid hby
  have hp := packL_le seq ack s0 s1 a0 a1 l (by omega)
  have h27 := ints2_le seq ack s0 s1 a0 a1
  have HWF := Lib.hid (ints2_wf s0 s1 a0 a1)
  obtain ⟨e1, he1⟩ : ∃ e, e = encL encInt [seq, ack] := ⟨_, rfl⟩
  obtain ⟨e2, he2⟩ : ∃ e, e = encB (strOf l) := ⟨_, rfl⟩
  obtain ⟨k1, hk1⟩ : ∃ k, k = e1.length := ⟨_, rfl⟩
  obtain ⟨k2, hk2⟩ : ∃ k, k = e2.length := ⟨_, rfl⟩
  have HPK : Hid (e1 ++ e2 = packL seq ack l) := Lib.hid (by rw [he1, he2]; rfl)
  have HNN : Hid (k1 + k2 = (packL seq ack l).length) := Lib.hid (by rw [← HPK.out, List.length_append, hk1, hk2])
  have hpl : k1 + k2 ≤ 10000000000 := by rw [HNN.out]; omega
  have HC1 : Hid ((encL encInt [seq, ack]).length ≤ 100000000000) := Lib.hid (by omega)
  have HSZ : Hid ((strOf l).size ≤ 1000000000000) := Lib.hid (by rw [strOf_size]; omega)
  have HE1 := Lib.hid he1.symm; have HE2 := Lib.hid he2.symm; have HK1 := Lib.hid hk1.symm; have HK2 := Lib.hid hk2.symm
  clear hl hby hlen hp h27 he1 he2 hk1 hk2
  obtain ⟨S, hS⟩ : ∃ S, S = strOf l := ⟨_, rfl⟩
  rw [← hS] at HE2 HSZ
  have HS := Lib.hid hS.symm
  clear hS
  go_enter Try.func18, Try.ntmps18
  go_upto_region 1 with (fail)
  obtain ⟨w0, hw0⟩ : ∃ w0, w0 = w.alloc (.cells #[.int .i64 seq, .int .i64 ack, .slice A n c] 43) := ⟨_, rfl⟩
  change Code.wp _ _ _ _ (w.alloc (.cells #[.int .i64 seq, .int .i64 ack, .slice A n c] 43))
  rw [← hw0]
  obtain ⟨g, hg⟩ : ∃ g, g = w.heap.size := ⟨_, rfl⟩
  rw [← hg]
  have HW0 : Hid (Blk w0 g 43 [.int .i64 seq, .int .i64 ack, .slice A n c]) := Lib.hid (by rw [hw0, hg]; exact Blk.fresh _ _ _)
  have E0 : Hid (Ext w w0) := Lib.hid (by rw [hw0]; exact (Ext.refl w).alloc _)
  clear hw0 hg
  have g0 := HW0.out.cell 0; have g1 := HW0.out.cell 1
  simp only [List.getElem?_cons_zero, List.getElem?_cons_succ] at g0 g1
  have R0 : Hid (Rd (w0.alloc (.cells #[.int .i64 seq, .int .i64 ack] 3)) (w0.alloc (.cells #[.int .i64 seq, .int .i64 ack] 3)).heap.size (some ⟨w0.heap.size, 0, none⟩) 2 ([seq, ack].map (Value.int .i64))) := Lib.hid ((Blk.fresh w0 3 [.int .i64 seq, .int .i64 ack]).rd rfl)
  go_upto_region 2 with (go_at_call 34; (with_reducible refine (rints_any [seq, ack] (some ⟨w0.heap.size, 0, none⟩) 2 2 _ R0.out HWF.out HC1.out (by decide)).mono ?_); rintro e w1 ⟨⟨A1, c1, rfl, ho⟩, hB⟩; rw [HE1.out, HK1.out] at ho ⊢; have hB2 : Below w0.heap.size w0 w1 := (Ext.refl w0).alloc _ |>.next hB; have E1 : Hid (Ext w w1) := Lib.hid (E0.out.next hB2); have O1 := Lib.hid (own_mono ho (Nat.le_trans E0.out.size (by simp : w0.heap.size ≤ _))); have HW1 := Lib.hid (HW0.out.ext hB2); clear hB hB2 ho)
  clear g0 g1
  have g2 := HW1.out.cell 2
  simp only [List.getElem?_cons_zero, List.getElem?_cons_succ] at g2
  have hcv := run_toStr (P := Try.prog) Try.underlying33 Try.underlying5 Try.underlying9 (HL.out.ext' E1.out) c (opt_nil A n (HL.out))
  rw [HS.out] at hcv
  go_wp2_with (first
    | (go_at_call 35; (with_reducible refine (rbytes_any S w1 HSZ.out).mono ?_); rintro e w2 ⟨⟨A2, c2, rfl, ho⟩, hB⟩; rw [HE2.out, HK2.out] at ho ⊢; have E2 : Hid (Ext w w2) := Lib.hid (E1.out.next hB); have O2 := Lib.hid (own_below O1.out hB); have R2 := Lib.hid (RdN.of_own ho); have hsz2 := E2.out.size; clear hB ho)
    | (at_builtin; refine wpList_app rfl (.tmp 10) (.tmp 14) 33 rfl w.heap.size 5 i0 (.int .u8 0) 1 1 Try.underlying33 hi hz0 hz1 hz2 rfl (by omega) A1 k1 c1 _ rfl O2.out w2.heap.size A2 k2 c2 _ rfl R2.out (u8s_one _) (by simp only [maxLen]; omega) (by omega) hsz2 ?_; intro A4 c4 w4 hown4 hg4; have hb4 := below_app E2.out hg4 O2.out (Nat.le_refl _) hsz2))
  go_ret
  rw [← u8s_append, HPK.out, HNN.out] at hown4
  exact ⟨⟨A4, c4, by rw [← HNN.out]; rfl, hown4⟩, hb4⟩
end Go.Proofs.Ytkgmoklifkojhaa
