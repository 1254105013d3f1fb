/- The bytes of a packet of a link. Conditions: sizes that fit the memory. -/
import Derived.Test.YtkgmoklifkojhaaGD
import Derived.Test.YtkgmoklifkojhaaGF
set_option linter.unusedSimpArgs false
set_option linter.unusedVariables false
namespace Go.Proofs.Ytkgmoklifkojhaa
open Go.RowKit
/-- The bytes of a packet. -/
def packL (seq ack : Int) (l : List Int) : List Int := encL encInt [seq, ack] ++ encB (strOf l)
theorem ints2_le (seq ack : Int) (s0 : -9223372036854775808 ≤ seq) (s1 : seq ≤ 9223372036854775807) (a0 : -9223372036854775808 ≤ ack) (a1 : ack ≤ 9223372036854775807) : (encL encInt [seq, ack]).length ≤ 27 := by
  unfold encL
  have h1 := encInt_le9 seq s0 s1
  have h2 := encInt_le9 ack a0 a1
  have h3 := encInt_le9 2 (by decide) (by decide)
  simp only [List.length_append, List.flatMap_cons, List.flatMap_nil, List.length_cons, List.length_nil, List.append_nil]
  have : (((0 + 1 + 1 : Nat) : Int)) = 2 := rfl
  rw [this]
  omega
theorem ints2_wf {seq ack : Int} (s0 : -9223372036854775808 ≤ seq) (s1 : seq ≤ 9223372036854775807) (a0 : -9223372036854775808 ≤ ack) (a1 : ack ≤ 9223372036854775807) : ∀ x ∈ [seq, ack], -9223372036854775808 ≤ x ∧ x ≤ 9223372036854775807 := by
  intro x hx
  rcases List.mem_cons.1 hx with rfl | hx
  · exact ⟨s0, s1⟩
  · rw [List.mem_singleton] at hx; subst hx; exact ⟨a0, a1⟩
theorem packL_le (seq ack : Int) (s0 : -9223372036854775808 ≤ seq) (s1 : seq ≤ 9223372036854775807) (a0 : -9223372036854775808 ≤ ack) (a1 : ack ≤ 9223372036854775807) (l : List Int) (h : l.length ≤ 1000000000) : (packL seq ack l).length ≤ l.length + 36 := by
  unfold packL encB
  have h1 := ints2_le seq ack s0 s1 a0 a1
  have h2 := encInt_le9 ((strOf l).size : Int) (by omega) (by rw [strOf_size]; omega)
  simp only [List.length_append, bys_length, strOf_size] at h2 ⊢
  omega
theorem packL_byt (seq ack : Int) (s0 : -9223372036854775808 ≤ seq) (s1 : seq ≤ 9223372036854775807) (a0 : -9223372036854775808 ≤ ack) (a1 : ack ≤ 9223372036854775807) (l : List Int) (h : l.length ≤ 1000000000) : Byt (packL seq ack l) := by
  unfold packL
  refine Byt.app ?_ (encB_byt _ (by rw [strOf_size]; omega))
  exact (encInt_byt _ (by simp) (by simp)).app (encL_int_byt2 _ (ints2_wf s0 s1 a0 a1))
/-- Two slices in a block, one behind the other. -/
theorem concat2b_any (l q : List Int) (A : Option Addr) (n c : Nat) (B : Option Addr) (m d : Nat) (g : Nat) (T : TypeId) (W : World) (hb : Blk W g T [.slice A n c, .slice B m d]) (hl : Rd W W.heap.size A n (u8s l)) (hq : Rd W W.heap.size B m (u8s q)) (hlen : (l ++ q).length ≤ 100000000000) :
    Calls Try.prog 42 #[.slice (some ⟨g, 0, none⟩) 2 2] W fun e w' => (∃ A' c', e = .returned (.slice A' (l ++ q).length c') ∧ w'.ownsRow W.heap.size 5 1 (.slice A' (l ++ q).length c') (l ++ q).length (u8s (l ++ q))) ∧ Below W.heap.size W w' := by
  have hnl : l.length = n := by simpa [u8s] using hl.1
  have hnq : q.length = m := by simpa [u8s] using hq.1
  have hf : [l, q].flatten = l ++ q := by simp
  have h := concat_any [l, q] g 0 2 2 W (fun j hj => by
    rcases j with _ | _ | j
    · exact ⟨A, c, by have := hb.cell 0; simp only [List.getElem?_cons_zero] at this; rw [show ([l, q].getD 0 []).length = n from hnl]; exact this, by rw [show ([l, q].getD 0 []) = l from rfl, hnl]; exact hl⟩
    · exact ⟨B, d, by have := hb.cell 1; simp only [List.getElem?_cons_succ, List.getElem?_cons_zero] at this; rw [show ([l, q].getD 1 []).length = m from hnq]; exact this, by rw [show ([l, q].getD 1 []) = q from rfl, hnq]; exact hq⟩
    · exact absurd hj (by simp)) hb.lt rfl (by decide) (by rw [hf]; exact hlen)
  rw [hf] at h
  exact h
theorem opt_nil {w : World} {B : Nat} (A : Option Addr) (n : Nat) {xs : List Value} (_ : Rd w B A n xs) : n = 0 → A = none ∨ ∃ a, A = some a := fun _ => by cases A <;> simp
set_option maxHeartbeats 4000000 in
set_option maxRecDepth 100000 in
theorem pbytes_any (seq ack : Int) (s0 : -9223372036854775808 ≤ seq) (s1 : seq ≤ 9223372036854775807) (a0 : -9223372036854775808 ≤ ack) (a1 : ack ≤ 9223372036854775807) (l : List Int) (A : Option Addr) (n c : Nat) (w : World) (hl : Rd w w.heap.size A n (u8s l)) (hby : Byt l) (hn : n ≤ 1000000000) :
    Calls Try.prog 33 #[.agg #[.int .i64 seq, .int .i64 ack, .slice A n c]] w fun e w' => (∃ A' c', e = .returned (.slice A' (packL seq ack l).length c') ∧ w'.ownsRow w.heap.size 5 1 (.slice A' (packL seq ack l).length c') (packL seq ack l).length (u8s (packL seq ack l))) ∧ Below w.heap.size w w' := by
  have hlen : l.length = n := by simpa [u8s] using hl.1
  have HL := Lib.hid hl; have HBY := Lib.hid hby
  have hp := packL_le seq ack s0 s1 a0 a1 l (by omega)
  have h27 := ints2_le seq ack s0 s1 a0 a1
  have HWF := Lib.hid (ints2_wf s0 s1 a0 a1)
  obtain ⟨e1, he1⟩ : ∃ e, e = encL encInt [seq, ack] := ⟨_, rfl⟩
  obtain ⟨e2, he2⟩ : ∃ e, e = encB (strOf l) := ⟨_, rfl⟩
  obtain ⟨k1, hk1⟩ : ∃ k, k = e1.length := ⟨_, rfl⟩
  obtain ⟨k2, hk2⟩ : ∃ k, k = e2.length := ⟨_, rfl⟩
  have p1 : 0 < k1 := by rw [hk1, he1]; exact encL_pos _ _
  have p2 : 0 < k2 := by rw [hk2, he2]; exact encB_pos _
  have HPK : Hid (e1 ++ e2 = packL seq ack l) := Lib.hid (by rw [he1, he2]; rfl)
  have hpl : (e1 ++ e2).length ≤ 100000000000 := by rw [HPK.out]; omega
  obtain ⟨N, hN⟩ : ∃ N, N = (e1 ++ e2).length := ⟨_, rfl⟩
  have HNN := Lib.hid hN.symm
  have HPL := Lib.hid hpl
  have HC1 : Hid ((encL encInt [seq, ack]).length ≤ 100000000000) := Lib.hid (by omega)
  have HSZ : Hid ((strOf l).size ≤ 1000000000000) := Lib.hid (by rw [strOf_size]; omega)
  have HE1 := Lib.hid he1.symm; have HE2 := Lib.hid he2.symm; have HK1 := Lib.hid hk1.symm; have HK2 := Lib.hid hk2.symm
  clear hl hby hlen hp h27 he1 he2 hk1 hk2 hpl hN
  obtain ⟨S, hS⟩ : ∃ S, S = strOf l := ⟨_, rfl⟩
  rw [← hS] at HE2 HSZ
  have HS := Lib.hid hS.symm
  clear hS
  go_enter Try.func33, Try.ntmps33
  go_upto_region 1 with (fail)
  obtain ⟨w0, hw0⟩ : ∃ w0, w0 = w.alloc (.cells #[.int .i64 seq, .int .i64 ack, .slice A n c] 68) := ⟨_, rfl⟩
  change Code.wp _ _ _ _ (w.alloc (.cells #[.int .i64 seq, .int .i64 ack, .slice A n c] 68))
  rw [← hw0]
  obtain ⟨g, hg⟩ : ∃ g, g = w.heap.size := ⟨_, rfl⟩
  rw [← hg]
  have HW0 : Hid (Blk w0 g 68 [.int .i64 seq, .int .i64 ack, .slice A n c]) := Lib.hid (by rw [hw0, hg]; exact Blk.fresh _ _ _)
  have E0 : Hid (Ext w w0) := Lib.hid (by rw [hw0]; exact (Ext.refl w).alloc _)
  clear hw0 hg
  refine wp_region_flow 12 (by kernel_rfl) (by kernel_rfl) (fun a b => Ext a b) Ext.refl (fun h1 h2 => h1.next h2) (fun i v W => match i with
    | 0 => v = .pointer (some ⟨g, 0, none⟩)
    | 1 => v = .int .i64 seq
    | 2 => v = .pointer (some ⟨g, 1, none⟩)
    | 3 => v = .int .i64 ack
    | 4 => ∃ b, v = .slice (some ⟨b, 0, none⟩) 2 2 ∧ Rd W W.heap.size (some ⟨b, 0, none⟩) 2 [.int .i64 seq, .int .i64 ack]
    | 5 => ∃ A c, v = .slice A k1 c ∧ Rd W W.heap.size A k1 (u8s e1)
    | 6 => v = .pointer (some ⟨g, 2, none⟩)
    | 7 => v = .slice A n c
    | 8 => v = .string S
    | 9 => ∃ A c, v = .slice A k2 c ∧ Rd W W.heap.size A k2 (u8s e2)
    | 10 => ∃ b A1 c1 A2 c2, v = .slice (some ⟨b, 0, none⟩) 2 2 ∧ Blk W b 33 [.slice A1 k1 c1, .slice A2 k2 c2] ∧ Rd W W.heap.size A1 k1 (u8s e1) ∧ Rd W W.heap.size A2 k2 (u8s e2)
    | 11 => ∃ A c, v = .slice A N c ∧ W.ownsRow w.heap.size 5 1 (.slice A N c) N (u8s (e1 ++ e2))
    | _ => True) ?_ ?_
  · simp only [List.take_succ_cons, List.take_zero, flowSteps]
    refine ⟨?_, ?_, ?_, ?_, ?_, ?_, ?_, ?_, ?_, ?_, ?_, ?_, trivial⟩
    · intro us W K hE hd hK
      simp only [flowAct, Nat.zero_add, Nat.reduceAdd] at hK ⊢
      have HK := Lib.hid hK; have HE := Lib.hid hE
      clear hK hd hE
      go_wp2_with fail
      exact K_at (HK.out (.pointer (some ⟨g, 0, none⟩)) W (fun _ _ => rfl) (Ext.refl W)) (by kernel_rfl)
    · intro us W K hE hd hK
      have d0 := hd 0 (by kernel_rfl)
      have c0 := (HW0.out.drew.ext hE).cell 0
      simp only [List.getElem?_cons_zero, List.getElem?_cons_succ] at c0
      simp only [flowAct, Nat.zero_add, Nat.reduceAdd] at hK ⊢
      rw [d0] at hK ⊢
      have HK := Lib.hid hK; have HE := Lib.hid hE
      clear hK hd hE d0
      go_wp2_with fail
      exact K_at (HK.out (.int .i64 seq) W (fun _ _ => rfl) (Ext.refl W)) (by kernel_rfl)
    · intro us W K hE hd hK
      simp only [flowAct, Nat.zero_add, Nat.reduceAdd] at hK ⊢
      have HK := Lib.hid hK; have HE := Lib.hid hE
      clear hK hd hE
      go_wp2_with fail
      exact K_at (HK.out (.pointer (some ⟨g, 1, none⟩)) W (fun _ _ => rfl) (Ext.refl W)) (by kernel_rfl)
    · intro us W K hE hd hK
      have d2 := hd 2 (by kernel_rfl)
      have c0 := (HW0.out.drew.ext hE).cell 1
      simp only [List.getElem?_cons_zero, List.getElem?_cons_succ] at c0
      simp only [flowAct, Nat.zero_add, Nat.reduceAdd] at hK ⊢
      rw [d2] at hK ⊢
      have HK := Lib.hid hK; have HE := Lib.hid hE
      clear hK hd hE d2
      go_wp2_with fail
      exact K_at (HK.out (.int .i64 ack) W (fun _ _ => rfl) (Ext.refl W)) (by kernel_rfl)
    · intro us W K hE hd hK
      have d1 := hd 1 (by kernel_rfl)
      have d3 := hd 3 (by kernel_rfl)
      simp only [flowAct, Nat.zero_add, Nat.reduceAdd] at hK ⊢
      rw [d1, d3] at hK ⊢
      have HK := Lib.hid hK; have HE := Lib.hid hE
      clear hK hd hE d1 d3
      go_wp2_with fail
      exact K_at (HK.out (.slice (some ⟨W.heap.size, 0, none⟩) 2 2) (W.alloc (.cells #[.int .i64 seq, .int .i64 ack] 3)) (fun W2 h2 => ⟨_, rfl, ((Blk.fresh W 3 [.int .i64 seq, .int .i64 ack]).rd rfl).ext' h2⟩) ((Ext.refl W).alloc _)) (by kernel_rfl)
    · intro us W K hE hd hK
      obtain ⟨b4, d4, r4⟩ := hd 4 (by kernel_rfl)
      have R4 : Hid (Rd W W.heap.size (some ⟨b4, 0, none⟩) 2 ([seq, ack].map (Value.int .i64))) := Lib.hid r4
      simp only [flowAct, Nat.zero_add, Nat.reduceAdd] at hK ⊢
      rw [d4] at hK ⊢
      have HK := Lib.hid hK; have HE := Lib.hid hE
      clear hK hd hE d4 r4
      go_wp2_with (go_at_call 26; (with_reducible refine (intsR [seq, ack] (some ⟨b4, 0, none⟩) 2 2 W R4.out HWF.out HC1.out (by decide) e1 k1 HE1.out HK1.out p1).mono ?_); rintro e w1 ⟨⟨b1, o1, c1, rfl, _, hR⟩, hB⟩)
      exact K_at (HK.out (.slice (some ⟨b1, o1, none⟩) k1 c1) w1 (fun W2 h2 => ⟨_, _, rfl, hR.ext' h2⟩) hB) (by kernel_rfl)
    · intro us W K hE hd hK
      simp only [flowAct, Nat.zero_add, Nat.reduceAdd] at hK ⊢
      have HK := Lib.hid hK; have HE := Lib.hid hE
      clear hK hd hE
      go_wp2_with fail
      exact K_at (HK.out (.pointer (some ⟨g, 2, none⟩)) W (fun _ _ => rfl) (Ext.refl W)) (by kernel_rfl)
    · intro us W K hE hd hK
      have d6 := hd 6 (by kernel_rfl)
      have c0 := (HW0.out.drew.ext hE).cell 2
      simp only [List.getElem?_cons_zero, List.getElem?_cons_succ] at c0
      simp only [flowAct, Nat.zero_add, Nat.reduceAdd] at hK ⊢
      rw [d6] at hK ⊢
      have HK := Lib.hid hK; have HE := Lib.hid hE
      clear hK hd hE d6
      go_wp2_with fail
      exact K_at (HK.out (.slice A n c) W (fun _ _ => rfl) (Ext.refl W)) (by kernel_rfl)
    · intro us W K hE hd hK
      have d7 := hd 7 (by kernel_rfl)
      have hcv := run_toStr (P := Try.prog) Try.underlying33 Try.underlying5 Try.underlying9 (HL.out.ext' (E0.out.drew.next hE)) c (opt_nil A n (HL.out))
      rw [HS.out] at hcv
      simp only [flowAct, Nat.zero_add, Nat.reduceAdd] at hK ⊢
      rw [d7] at hK ⊢
      have HK := Lib.hid hK; have HE := Lib.hid hE
      clear hK hd hE d7
      go_wp2_with fail
      exact K_at (HK.out (.string S) W (fun _ _ => rfl) (Ext.refl W)) (by kernel_rfl)
    · intro us W K hE hd hK
      have d8 := hd 8 (by kernel_rfl)
      simp only [flowAct, Nat.zero_add, Nat.reduceAdd] at hK ⊢
      rw [d8] at hK ⊢
      have HK := Lib.hid hK; have HE := Lib.hid hE
      clear hK hd hE d8
      go_wp2_with (go_at_call 27; (with_reducible refine (bytesR S W HSZ.out e2 k2 HE2.out HK2.out p2).mono ?_); rintro e w1 ⟨⟨b1, o1, c1, rfl, _, hR⟩, hB⟩)
      exact K_at (HK.out (.slice (some ⟨b1, o1, none⟩) k2 c1) w1 (fun W2 h2 => ⟨_, _, rfl, hR.ext' h2⟩) hB) (by kernel_rfl)
    · intro us W K hE hd hK
      obtain ⟨A5, c5, d5, r5⟩ := hd 5 (by kernel_rfl)
      obtain ⟨A9, c9, d9, r9⟩ := hd 9 (by kernel_rfl)
      simp only [flowAct, Nat.zero_add, Nat.reduceAdd] at hK ⊢
      rw [d5, d9] at hK ⊢
      have HK := Lib.hid hK; have HE := Lib.hid hE
      clear hK hd hE d5 d9
      go_wp2_with fail
      exact K_at (HK.out (.slice (some ⟨W.heap.size, 0, none⟩) 2 2) (W.alloc (.cells #[.slice A5 k1 c5, .slice A9 k2 c9] 33)) (fun W2 h2 => ⟨_, _, _, _, _, rfl, (Blk.fresh W 33 [.slice A5 k1 c5, .slice A9 k2 c9]).ext h2, r5.ext' (((Ext.refl W).alloc _).next h2), r9.ext' (((Ext.refl W).alloc _).next h2)⟩) ((Ext.refl W).alloc _)) (by kernel_rfl)
    · intro us W K hE hd hK
      obtain ⟨b10, A1, c1, A2, c2, d10, q1, q2, q3⟩ := hd 10 (by kernel_rfl)
      have Q1 := Lib.hid q1; have Q2 := Lib.hid q2; have Q3 := Lib.hid q3; have hsz := (E0.out.drew.next hE).size
      simp only [flowAct, Nat.zero_add, Nat.reduceAdd] at hK ⊢
      rw [d10] at hK ⊢
      have HK := Lib.hid hK; have HE := Lib.hid hE
      clear hK hd hE d10 q1 q2 q3
      go_wp2_with (go_at_call 42; (with_reducible refine (concat2b_any e1 e2 A1 k1 c1 A2 k2 c2 b10 33 W Q1.out Q2.out Q3.out HPL.out).mono ?_); rintro e w1 ⟨⟨A3, c3, rfl, ho⟩, hB⟩; rw [HNN.out] at ho ⊢)
      exact K_at (HK.out (.slice A3 N c3) w1 (fun W2 h2 => ⟨_, _, rfl, own_below (own_mono ho hsz) h2⟩) hB) (by kernel_rfl)
  · intro us W hE hd
    obtain ⟨A3, c3, d11, ho⟩ := hd 11 (by decide)
    simp only [List.take_succ_cons, List.take_zero, List.drop_succ_cons, List.drop_zero, flowAct, Nat.zero_add, Nat.reduceAdd]
    rw [d11]
    have HO := Lib.hid ho; have HE := Lib.hid (E0.out.drew.next hE)
    clear hd hE d11 ho
    go_wp2_with fail
    go_ret
    have ho := HO.out
    have hn := HNN.out
    rw [HPK.out] at ho hn
    rw [← hn] at ho
    exact ⟨⟨A3, c3, by rw [hn]; rfl, ho⟩, HE.out⟩
end Go.Proofs.Ytkgmoklifkojhaa
