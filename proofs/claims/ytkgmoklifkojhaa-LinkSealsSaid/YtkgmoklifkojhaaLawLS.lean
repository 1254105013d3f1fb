/- LinkSeals: for all keys and bytes the law answers true and leaves its arguments as they were. Conditions: none beyond the row's own. -/
import Derived.Test.YtkgmoklifkojhaaLkLawA
import Derived.Test.YtkgmoklifkojhaaGF
set_option linter.unusedSimpArgs false
set_option linter.unusedVariables false
namespace Go.Proofs.Ytkgmoklifkojhaa
open Go.RowKit Go.WideShapes Go.ChangeShapes
theorem ext_undrewK {F : Nat → Prop} {w w' : World} (h : Kept F w.drew w') : Kept F w w' := (Kept.drew F w).trans h
theorem same_self (l : List Int) (A B : Option Addr) (n c k d : Nat) (w : World) (hl : Rd w w.heap.size A n (u8s l)) (hm : Rd w w.heap.size B k (u8s l)) (hn : n ≤ 9223372036854775807) :
    Calls Try.prog 29 #[.slice A n c, .slice B k d] w fun e w' => e = .returned (.bool true) ∧ Drew w w' :=
  (same_any l l A B n c k d w hl hm hn).mono fun e w' ⟨h1, h2⟩ => ⟨by rw [h1, decide_eq_true rfl], h2⟩
theorem byt_single {y : Int} (h : 0 ≤ y ∧ y ≤ 255) : Byt [y] := fun x hx => by rw [List.mem_singleton] at hx; rw [hx]; exact h
theorem kept_ge {b : Nat} {w w' : World} (h : w.grownBy w' (some b)) (g : Nat) (hg : g ≤ b) : Kept (fun x => g ≤ x) w w' := Kept.of_grown h (fun x hx _ => by injection hx with hx; omega)
theorem kept_row {w w' : World} {b n c m : Nat} {T : TypeId} {A : Option Addr} {xs : List Value} (h : w.grownBy w' (Value.slice A n c).ownBlock) (ho : w.ownsRow b T m (.slice A n c) n xs) : Kept (fun x => b ≤ x) w w' :=
  Kept.of_grown h (fun x hx _ => by have := (ho.lt x hx).1; omega)
set_option maxHeartbeats 16000000 in
set_option maxRecDepth 100000 in
theorem walk_seals (key other : Int) (l : List Int) (A : Option Addr) (n c : Nat) (x y : Int) (w : World) (k0 : 0 ≤ key) (k1' : key ≤ 18446744073709551615) (o0 : 0 ≤ other) (o1 : other ≤ 18446744073709551615) (hl : Rd w w.heap.size A n (u8s l)) (hby : Byt l) (hnc : n ≤ c) (hc : c ≤ 9223372036854775807) (hx : in64 x) (hy : 0 ≤ y ∧ y ≤ 255) :
    Calls Try.prog 4 #[.int .u64 key, .int .u64 other, .slice A n c, .int .i64 x, .int .u8 y] w fun e w' => e = .returned (.bool true) ∧ Below w.heap.size w w' := by
  obtain ⟨i0, hi, hz0, hz1, hz2⟩ := info_parts winfo_u8
  have HL := Lib.hid hl; have HBY := Lib.hid hby; have HX := Lib.hid hx
  have hln : l.length = n := by simpa [u8s] using hl.1
  have HLN := Lib.hid hln
  have HY := Lib.hid hy
  clear hl hby hx hln hy
  obtain ⟨k, hk⟩ : ∃ k, k = min n 60 := ⟨_, rfl⟩
  have hkb : k ≤ 60 := by omega
  have hkb2 : k ≤ 9223372036854775807 := by omega
  have HK := Lib.hid hk
  obtain ⟨L, hL⟩ : ∃ L, L = l.take k := ⟨_, rfl⟩
  have HLB : Hid (Byt L) := Lib.hid (by rw [hL]; exact HBY.out.take k)
  have HLL : Hid (L.length = k) := Lib.hid (by rw [hL, List.length_take, HLN.out]; omega)
  have HLE := Lib.hid hL
  obtain ⟨X, hX⟩ : ∃ X, X = sealL key L := ⟨_, rfl⟩
  obtain ⟨n2, hn2⟩ : ∃ n2, n2 = k + 8 := ⟨_, rfl⟩
  have HXE := Lib.hid hX; have HN2 := Lib.hid hn2
  have hn2a : 8 ≤ n2 := by omega
  have hn2b : n2 ≤ 68 := by omega
  have hn2c : (n2 : Int) ≤ (k : Int) + 8 := by omega
  have hn2d : (k : Int) + 8 ≤ (n2 : Int) := by omega
  have HXL : Hid (X.length = n2) := Lib.hid (by rw [hX, sealL_length, HLL.out, hn2])
  have HXB : Hid (Byt X) := Lib.hid (by rw [hX]; unfold sealL; exact HLB.out.app (sealB_byt key L))
  have HOX : Hid (openL key X = (L, 0)) := Lib.hid (by rw [hX]; exact openL_sealL key L)
  obtain ⟨P, hP⟩ : ∃ P, P = packL 1 0 L := ⟨_, rfl⟩
  have HPB : Hid (Byt P) := Lib.hid (by rw [hP]; exact packL_byt 1 0 (by decide) (by decide) (by decide) (by decide) L (by rw [HLL.out]; omega))
  obtain ⟨np, hnp⟩ : ∃ np, np = P.length := ⟨_, rfl⟩
  have hnpb : np ≤ 96 := by rw [hnp, hP]; have := packL_le 1 0 (by decide) (by decide) (by decide) (by decide) L (by rw [HLL.out]; omega); rw [HLL.out] at this; omega
  obtain ⟨Z, hZ⟩ : ∃ Z, Z = sealL key P := ⟨_, rfl⟩
  obtain ⟨nz, hnz⟩ : ∃ nz, nz = np + 8 := ⟨_, rfl⟩
  have HZL : Hid (Z.length = nz) := Lib.hid (by rw [hZ, sealL_length, ← hnp, hnz])
  have HZB : Hid (Byt Z) := Lib.hid (by rw [hZ]; unfold sealL; exact HPB.out.app (sealB_byt key P))
  have hnza : 8 ≤ nz := by omega
  have hnzb : nz ≤ 104 := by omega
  have HF := pktIn_first (newE 1 key) L rfl rfl rfl (fun _ => rfl) rfl
  have HIn : Hid ((inE (newE 1 key) Z).1 = ([L], 0)) := Lib.hid (by
    have e1 : inE (newE 1 key) Z = pktIn (newE 1 key) 1 0 L := by
      rw [hZ, hP]
      exact inE_pack (newE 1 key) 1 0 L (by decide) (by decide) (by decide) (by decide) HLB.out (by rw [HLL.out]; omega) (Or.inl (by decide))
    rw [e1]
    exact HF.1)
  have HB0 := Lib.hid (newE_few 1 key)
  obtain ⟨e1, he1⟩ : ∃ e, e = encL encInt [1, 0] := ⟨_, rfl⟩
  obtain ⟨e2, he2⟩ : ∃ e, e = encB (strOf L) := ⟨_, rfl⟩
  obtain ⟨k1, hk1⟩ : ∃ k, k = e1.length := ⟨_, rfl⟩
  obtain ⟨k2, hk2⟩ : ∃ k, k = e2.length := ⟨_, rfl⟩
  have p2 : 0 < k2 := by rw [hk2, he2]; exact encB_pos _
  have HPK : Hid (e1 ++ e2 = P) := Lib.hid (by rw [he1, he2, hP]; rfl)
  have hnp2 : k1 + k2 = np := by rw [hnp, ← HPK.out, List.length_append, hk1, hk2]
  have hk12 : k1 + k2 ≤ 96 := by omega
  have HNP2 := Lib.hid hnp2
  have HE1a := Lib.hid he1.symm; have HE2 := Lib.hid he2.symm; have HK1 := Lib.hid hk1.symm; have HK2 := Lib.hid hk2.symm
  have HSZ : Hid ((strOf L).size ≤ 1000000000000) := Lib.hid (by rw [strOf_size, HLL.out]; omega)
  obtain ⟨S, hS⟩ : ∃ S, S = strOf L := ⟨_, rfl⟩
  rw [← hS] at HE2 HSZ
  have HS := Lib.hid hS.symm
  have HPE := Lib.hid hP; have HZE := Lib.hid hZ; have HNP := Lib.hid hnp; have HNZ := Lib.hid hnz
  obtain ⟨j, hj, hjn⟩ := around_nat x n2 (by omega)
  have HJ := Lib.hid hj
  clear hk hL hX hn2 hP hnp hZ hnz HF he1 he2 hk1 hk2 hnp2 hS hj
  go_enter Try.func4, Try.ntmps4
  go_upto_region 4 with (go_loud (first
    | (go_at_call 16; (with_reducible refine (few_int l A n c 60 60 k w HL.out hnc hc rfl (by decide) HK.out L HLE.out).mono ?_); rintro e w1 ⟨⟨A1, c1, rfl, ⟨hc1, hd1⟩, ho1⟩, hE1⟩; have E1 := Lib.hid hE1; have R1 := Lib.hid (rd_own ho1); clear ho1 hE1)
    | (go_at_call 24; (with_reducible refine (lsealR key k0 k1' L A1 k c1 w1 R1.out HLB.out (by omega) X HXE.out n2 HN2.out).mono ?_); rintro e w2 ⟨g2, c2, rfl, ⟨hc2, hd2⟩, ⟨hg2, hg2'⟩, ho2, hE2⟩; have E2 : Hid (Ext w w2) := Lib.hid (E1.out.next hE2); have O2 := Lib.hid ho2; have R2 : Hid (Rd w2 w2.heap.size A1 k (u8s L)) := Lib.hid (R1.out.ext' hE2); have hg2w : w.heap.size ≤ g2 := Nat.le_trans E1.out.size hg2; clear ho2 hE2)
    | (go_at_call 25; (with_reducible refine (open_any key k0 k1' X (some ⟨g2, 0, none⟩) n2 c2 w2 (rd_own O2.out) HXB.out (by omega) hc2 hd2).mono ?_); rintro e w3 ⟨⟨A3, c3, rfl, ho3⟩, hE3⟩; rw [HOX.out] at ho3 ⊢; dsimp only at ho3 ⊢; rw [HLL.out] at ho3 ⊢; have E3 : Hid (Ext w w3) := Lib.hid (E2.out.next hE3); have O3 := Lib.hid ho3; have X3 := Lib.hid (own_ext hE3 O2.out); have R3 : Hid (Rd w3 w3.heap.size A1 k (u8s L)) := Lib.hid (R2.out.ext' hE3); clear ho3 hE3)))
  clear R1 R2 O2 E1 E2
  refine wp_region_flowU 7 6 _ (fun i => i == 0 || i == 3 || i == 4) ?F (fun us => ?_) (by kernel_rfl) (by kernel_rfl) rfl (Kept (fun b => w3.heap.size ≤ b)) (fun a b => Ext a b) Ext.refl Kept.of_ext (fun h1 h2 => h1.trans h2) (fun h1 h2 => h1.next h2) (fun i v W => match i with
    | 0 => v = .int .u64 key
    | 1 => ∃ b, v = .slice (some ⟨b, 0, none⟩) 2 2 ∧ Rd W W.heap.size (some ⟨b, 0, none⟩) 2 ([1, 0].map (Value.int .i64))
    | 2 => ∃ A c, v = .slice A k1 c ∧ W.ownsRow w3.heap.size 5 1 (.slice A k1 c) k1 (u8s e1)
    | 3 => v = .slice A1 k c1
    | 4 => v = .string S
    | 5 => ∃ A c, v = .slice A k2 c ∧ Rd W W.heap.size A k2 (u8s e2)
    | 6 => ∃ A c, v = .slice A np c ∧ W.ownsRow w3.heap.size 5 1 (.slice A np c) np (u8s P)
    | _ => True) ?_ ?_
  case refine_1 =>
    simp only [List.take_succ_cons, List.take_zero, flowAct, Nat.zero_add, Nat.reduceAdd, Act.put, List.setIfInBounds_toArray, List.set_cons_succ, List.set_cons_zero]
    rfl
  · simp only [List.take_succ_cons, List.take_zero, flowStepsU]
    refine ⟨?_, ?_, ?_, ?_, ?_, ?_, ?_, trivial⟩
    · intro us W K hE1 hE2 hd hK
      simp only [Nat.reduceBEq, Bool.not_true, Bool.not_false, Bool.or_true, Bool.or_false, Bool.true_or, Bool.false_or, cond_true, cond_false] at hK ⊢
      have HK := Lib.hid hK; have HE1 := Lib.hid hE1
      clear hK hd hE1 hE2
      go_wp2_with fail
      exact K_at (HK.out (.int .u64 key) W (fun _ _ => rfl) (Ext.refl W)) (by kernel_rfl)
    · intro us W K hE1 hE2 hd hK
      simp only [Nat.reduceBEq, Bool.not_true, Bool.not_false, Bool.or_true, Bool.or_false, Bool.true_or, Bool.false_or, cond_true, cond_false] at hK ⊢
      have HK := Lib.hid hK; have HE1 := Lib.hid hE1
      clear hK hd hE1 hE2
      go_wp2_with fail
      exact K_at (HK.out (.slice (some ⟨W.heap.size, 0, none⟩) 2 2) (W.alloc (.cells #[.int .i64 1, .int .i64 0] 3)) (fun W2 h2 => ⟨_, rfl, ((Blk.fresh W 3 [.int .i64 1, .int .i64 0]).rd rfl).ext' h2⟩) ((Ext.refl W).alloc _)) (by kernel_rfl)
    · intro us W K hE1 hE2 hd hK
      have hE := hE2 (by kernel_rfl)
      obtain ⟨b4, d1, r4⟩ := hd 1 (by kernel_rfl) (by kernel_rfl)
      have R4 := Lib.hid r4
      have E3 := Lib.hid (ext_undrew hE)
      simp only [Nat.reduceBEq, Bool.not_true, Bool.not_false, Bool.or_true, Bool.or_false, Bool.true_or, Bool.false_or, cond_true, cond_false] at hK ⊢
      rw [d1] at hK ⊢
      have HK := Lib.hid hK; have HE1 := Lib.hid hE1
      have HE := Lib.hid hE
      clear hE
      clear hK hd hE1 hE2 d1 r4
      go_wp2_with (go_loud (go_at_call 26; (with_reducible refine (ints_any [1, 0] (some ⟨b4, 0, none⟩) 2 2 W R4.out (by decide) (by decide) (by decide)).mono ?_); rintro e w6 ⟨⟨A6, c6, rfl, o6⟩, hB6⟩; rw [HE1a.out, HK1.out] at o6 ⊢))
      exact K_at (HK.out (.slice A6 k1 c6) w6 (fun W2 h2 => ⟨_, _, rfl, own_ext h2 (own_mono o6 E3.out.size)⟩) hB6) (by kernel_rfl)
    · intro us W K hE1 hE2 hd hK
      simp only [Nat.reduceBEq, Bool.not_true, Bool.not_false, Bool.or_true, Bool.or_false, Bool.true_or, Bool.false_or, cond_true, cond_false] at hK ⊢
      have HK := Lib.hid hK; have HE1 := Lib.hid hE1
      clear hK hd hE1 hE2
      go_wp2_with fail
      exact K_at (HK.out (.slice A1 k c1) W (fun _ _ => rfl) (Ext.refl W)) (by kernel_rfl)
    · intro us W K hE1 hE2 hd hK
      have d3 := hd 3 (by kernel_rfl) (by kernel_rfl)
      have hcv := run_toStr (P := Try.prog) Try.underlying33 Try.underlying5 Try.underlying9 (R3.out.ext' ((ext_undrewK hE1).ext (fun _ h => h))) c1 (opt_nil A1 k (R3.out))
      rw [HS.out] at hcv
      simp only [Nat.reduceBEq, Bool.not_true, Bool.not_false, Bool.or_true, Bool.or_false, Bool.true_or, Bool.false_or, cond_true, cond_false] at hK ⊢
      rw [d3] at hK ⊢
      have HK := Lib.hid hK; have HE1 := Lib.hid hE1
      clear hK hd hE1 hE2 d3
      go_wp2_with fail
      exact K_at (HK.out (.string S) W (fun _ _ => rfl) (Ext.refl W)) (by kernel_rfl)
    · intro us W K hE1 hE2 hd hK
      have hE := hE2 (by kernel_rfl)
      have d4 := hd 4 (by kernel_rfl) (by kernel_rfl)
      simp only [Nat.reduceBEq, Bool.not_true, Bool.not_false, Bool.or_true, Bool.or_false, Bool.true_or, Bool.false_or, cond_true, cond_false] at hK ⊢
      rw [d4] at hK ⊢
      have HK := Lib.hid hK; have HE1 := Lib.hid hE1
      have HE := Lib.hid hE
      clear hE
      clear hK hd hE1 hE2 d4
      go_wp2_with (go_loud (go_at_call 27; (with_reducible refine (bytesR S W HSZ.out e2 k2 HE2.out HK2.out p2).mono ?_); rintro e w6 ⟨⟨b1, o1, c1', rfl, _, hR⟩, hB⟩))
      exact K_at (HK.out (.slice (some ⟨b1, o1, none⟩) k2 c1') w6 (fun W2 h2 => ⟨_, _, rfl, hR.ext' h2⟩) hB) (by kernel_rfl)
    · intro us W K hE1 hE2 hd hK
      have hE := hE2 (by kernel_rfl)
      obtain ⟨A5, c5, d2, o5⟩ := hd 2 (by kernel_rfl) (by kernel_rfl)
      obtain ⟨A9, c9, d5, r9⟩ := hd 5 (by kernel_rfl) (by kernel_rfl)
      have R9 := Lib.hid r9
      have O5 := Lib.hid o5
      have hs3 := (ext_undrew hE).size
      simp only [Nat.reduceBEq, Bool.not_true, Bool.not_false, Bool.or_true, Bool.or_false, Bool.true_or, Bool.false_or, cond_true, cond_false] at hK ⊢
      rw [d2, d5] at hK ⊢
      have HK := Lib.hid hK; have HE1 := Lib.hid hE1
      have HE := Lib.hid hE
      clear hE
      clear hK hd hE1 hE2 d2 d5 r9
      go_wp2_with (at_builtin; refine wpList_app rfl (.tmp 42) (.tmp 45) 33 rfl w3.heap.size 5 i0 (.int .u8 0) 1 1 Try.underlying33 hi hz0 hz1 hz2 rfl (by omega) A5 k1 c5 (u8s e1) rfl O5.out W.heap.size A9 k2 c9 (u8s e2) rfl (RdN.of_Rd R9.out) (u8s_one _) (by simp only [maxLen]; omega) (by omega) hs3 ?_; rw [HNP2.out, ← u8s_append, HPK.out]; intro A7 c7 w7 o7 hg7)
      exact K_at (HK.out (.slice A7 np c7) w7 (fun W2 h2 => ⟨_, _, rfl, own_ext h2 o7⟩) (kept_row hg7 o5)) (by kernel_rfl)
  · intro us W hE1 hd
    try dsimp only
    obtain ⟨A7, c7, d6, o7⟩ := hd 6 (by decide) (by decide)
    have d0 := hd 0 (by decide) (by decide)
    simp only [List.drop_succ_cons, List.drop_zero]
    rw [d0, d6]
    have R7 := Lib.hid (rd_own o7)
    have E4 : Hid (Ext w3 W) := Lib.hid ((ext_undrewK hE1).ext (fun _ h => h))
    clear hd hE1 o7 d0 d6
    go_upto_region 5 with (go_loud (go_at_call 24; (with_reducible refine (lsealR key k0 k1' P A7 np c7 W R7.out HPB.out (by omega) Z HZE.out nz HNZ.out).mono ?_); rintro e w5 ⟨g5, c5, rfl, ⟨hc5, hd5⟩, ⟨hg5, hg5'⟩, ho5, hE5⟩; have E5 : Hid (Ext w3 w5) := Lib.hid (E4.out.next hE5); have R5 := Lib.hid (rd_own ho5); clear ho5 hE5))
    clear R7 E4
    go_upto_region 6 with (go_loud (go_at_call 28; (with_reducible refine (on_made w5 w5 (Ext.refl w5) 1 key (by decide) (by decide) k0 k1').mono ?_); rintro e w6 ⟨pa, M6, rfl, hE6, hS6⟩; have S6 := Lib.hid hS6; have E6 : Hid (Ext w5 w6) := Lib.hid hE6; clear hE6 hS6))
    go_upto_region 9 with (go_loud (go_at_call 19; (with_reducible refine (on_in S6.out Z (some ⟨g5, 0, none⟩) nz c5 (R5.out.ext' E6.out) HZB.out (by omega) hc5 hd5 HB0.out.1 HB0.out.2.1 HB0.out.2.2).mono ?_); rintro e w8 ⟨OA8, oc8, k8, ovs8, rfl, hk8, ho, hp, hS, hkp⟩; rw [HIn.out] at hk8 hp ⊢; simp only [List.length_cons, List.length_nil, Nat.zero_add] at hk8; subst hk8; have O8 := Lib.hid ho; have P8 := Lib.hid hp; have E8 : Hid (Ext w3 w8) := Lib.hid (E5.out.next (ext_kept E6.out hkp (fun b hb => Nat.le_of_not_lt (fun h => hb.2 h)))); clear ho hp hS hkp))
    clear S6 E6 R5 E5 HB0 HIn
    obtain ⟨gz, hz1', hz2', hz3', hz4'⟩ := row_at O8.out (Nat.zero_lt_one)
    obtain ⟨_, _, AZ, cz, hz5, hz6, hz7, hz8⟩ := P8.out.2 0 (Nat.zero_lt_one)
    simp only [List.getD_cons_zero] at hz5 hz6 hz8
    rw [HLL.out] at hz5 hz6 hz8
    subst hz1'
    have c0 : w8.cell? ⟨gz, 0, none⟩ = some (.slice AZ k cz) := by rw [hz4' 0 Nat.zero_lt_one, hz5]
    have RZ : Hid (Rd w8 w8.heap.size AZ k (u8s L)) := Lib.hid hz8.rd
    have R8 : Hid (Rd w8 w8.heap.size A1 k (u8s L)) := Lib.hid (R3.out.ext' E8.out)
    have Y8 : Hid (Rd w8 w8.heap.size A3 k (u8s L)) := Lib.hid ((rd_own O3.out).ext' E8.out)
    have X8 : Hid (Rd w8 w8.heap.size (some ⟨g2, 0, none⟩) n2 (u8s X)) := Lib.hid ((rd_own X3.out).ext' E8.out)
    clear hz2' hz3' hz4' hz5 hz6 hz7 hz8 O8 P8
    have HM1 := Lib.hid (same_self L AZ A1 k cz k c1 w8 RZ.out R8.out hkb2)
    go_upto_region 11 with ((first
      | (go_at_call 29; (with_reducible refine HM1.out.mono ?_); rintro e w9 ⟨rfl, hd⟩; have E9 := Lib.hid (ext_drew hd); have HM2 := Lib.hid (same_self L A3 A1 k c3 k c1 w9 (Y8.out.ext' (ext_drew hd)) (R8.out.ext' (ext_drew hd)) hkb2); clear hd HM1)
      | go_loud (go_at_call 29; (with_reducible refine HM2.out.mono ?_); rintro e w10 ⟨rfl, hd⟩; have E10 : Hid (Ext w8 w10) := Lib.hid (E9.out.next (ext_drew hd)); clear hd HM2)
      | (go_at_call 17; (with_reducible refine (rsealR key k0 k1' L A1 k c1 w10 (R8.out.ext' E10.out) HLB.out (by omega) X HXE.out n2 HN2.out).mono ?_); rintro e w11 ⟨g11, c11, rfl, ⟨hc11, hd11⟩, _, ho11, hE11⟩; have E11 : Hid (Ext w8 w11) := Lib.hid (E10.out.next hE11); have HM3 := Lib.hid (same_self X (some ⟨g2, 0, none⟩) (some ⟨g11, 0, none⟩) n2 c2 n2 c11 w11 (X8.out.ext' E11.out) (rd_own ho11) (by omega)); clear ho11 hE11)
      | (go_at_call 29; (with_reducible refine HM3.out.mono ?_); rintro e w12 ⟨rfl, hd⟩; have E12 : Hid (Ext w3 w12) := Lib.hid (E8.out.next (E11.out.next (ext_drew hd))); clear hd HM3)))
    rename (n2 : Int) = (k : Int) + 8 => heq
    clear heq E9 E10 E11 R8 Y8 X8 RZ c0 E8 hn2c hn2d
    have HNF := Lib.hid (few_row X (some ⟨g2, 0, none⟩) n2 c2 n2 n2 n2 w12 ((rd_own X3.out).ext' E12.out) hc2 hd2 rfl (by omega) (by omega) X (List.take_of_length_le (by rw [HXL.out]; exact Nat.le_refl _)).symm (by omega))
    go_upto_region 12 with (go_loud (go_at_call 16; (with_reducible refine HNF.out.mono ?_); rintro e w13 ⟨g13, c13, rfl, ⟨hc13, hd13⟩, ⟨hg13, hg13'⟩, ho13, hE13⟩; have E13 : Hid (Ext w3 w13) := Lib.hid (E12.out.next hE13); have O13 := Lib.hid ho13; have h313 : w3.heap.size ≤ g13 := Nat.le_trans E12.out.size hg13; clear ho13 hE13))
    clear HNF E12
    obtain ⟨cx, fx⟩ := own_cell O13.out j hjn
    go_upto_region 13 with (go_loud (go_at_call 10; (with_reducible refine (around_any x n2 w13 HX.out (by omega) (by omega)).mono ?_); rintro e w14 ⟨rfl, rfl⟩; rw [← HJ.out]))
    have O14 := Lib.hid (own_set O13.out j y)
    have E14 : Hid (Ext w3 (w14.setCell ⟨g13, j, none⟩ (.int .u8 y))) := Lib.hid (E13.out.setOwn h313 j _)
    clear cx fx O13 E13
    generalize w14.setCell ⟨g13, j, none⟩ (.int .u8 y) = w15 at *
    obtain ⟨m2, hm2⟩ : ∃ m, m = k + 7 := ⟨_, rfl⟩
    have hm2a : (n2 : Int) - 1 = m2 := by have := HN2.out; omega
    have hm2b : m2 ≤ n2 := by have := HN2.out; omega
    have HM2 := Lib.hid hm2
    clear hm2
    refine wp_region_flowU 15 14 _ (fun i => i == 0 || i == 1 || i == 2 || i == 3 || i == 4 || i == 5 || i == 6 || i == 7 || i == 8 || i == 9 || i == 10 || i == 12) ?F13 (fun us => ?_) (by kernel_rfl) (by kernel_rfl) rfl (Kept (fun b => w15.heap.size ≤ b)) (fun a b => Ext a b) Ext.refl Kept.of_ext (fun h1 h2 => h1.trans h2) (fun h1 h2 => h1.next h2) (fun i v W => match i with
      | 0 => v = .slice (some ⟨g13, 0, none⟩) n2 c13
      | 1 => v = .slice (some ⟨g2, 0, none⟩) n2 c2
      | 2 => v = .slice (some ⟨g2, 0, none⟩) n2 c2
      | 3 => v = .int .i64 n2
      | 4 => v = .int .i64 m2
      | 5 => v = .slice (some ⟨g2, 0, none⟩) m2 c2
      | 6 => v = .slice A1 k c1
      | 7 => v = .slice (some ⟨g2, 0, none⟩) n2 c2
      | 8 => v = .slice (some ⟨g2, 0, none⟩) n2 c2
      | 9 => v = .slice (some ⟨g2, 0, none⟩) n2 c2
      | 10 => v = .int .i64 n2
      | 11 => ∃ g c, v = .slice (some ⟨g, 0, none⟩) n2 c ∧ W.ownsRow w15.heap.size 5 1 (.slice (some ⟨g, 0, none⟩) n2 c) n2 (u8s X)
      | 12 => v = .int .u8 y
      | 13 => ∃ g, v = .slice (some ⟨g, 0, none⟩) 1 1 ∧ Rd W W.heap.size (some ⟨g, 0, none⟩) 1 (u8s [y])
      | 14 => ∃ A c, v = .slice A (n2 + 1) c ∧ W.ownsRow w15.heap.size 5 1 (.slice A (n2 + 1) c) (n2 + 1) (u8s (X ++ [y]))
      | _ => True) ?_ ?_
    case refine_1 =>
      simp only [List.take_succ_cons, List.take_zero, flowAct, Nat.zero_add, Nat.reduceAdd, Act.put, List.setIfInBounds_toArray, List.set_cons_succ, List.set_cons_zero]
      rfl
    · simp only [List.take_succ_cons, List.take_zero, flowStepsU]
      refine ⟨?_, ?_, ?_, ?_, ?_, ?_, ?_, ?_, ?_, ?_, ?_, ?_, ?_, ?_, ?_, trivial⟩
      · intro us W K hE1 hE2 hd hK
        simp only [Nat.reduceBEq, Bool.not_true, Bool.not_false, Bool.or_true, Bool.or_false, Bool.true_or, Bool.false_or, cond_true, cond_false] at hK ⊢
        have HK := Lib.hid hK; have HE1 := Lib.hid hE1
        clear hK hd hE1 hE2
        go_wp2_with fail
        exact K_at (HK.out (.slice (some ⟨g13, 0, none⟩) n2 c13) W (fun _ _ => rfl) (Ext.refl W)) (by kernel_rfl)
      · intro us W K hE1 hE2 hd hK
        simp only [Nat.reduceBEq, Bool.not_true, Bool.not_false, Bool.or_true, Bool.or_false, Bool.true_or, Bool.false_or, cond_true, cond_false] at hK ⊢
        have HK := Lib.hid hK; have HE1 := Lib.hid hE1
        clear hK hd hE1 hE2
        go_wp2_with fail
        exact K_at (HK.out (.slice (some ⟨g2, 0, none⟩) n2 c2) W (fun _ _ => rfl) (Ext.refl W)) (by kernel_rfl)
      · intro us W K hE1 hE2 hd hK
        simp only [Nat.reduceBEq, Bool.not_true, Bool.not_false, Bool.or_true, Bool.or_false, Bool.true_or, Bool.false_or, cond_true, cond_false] at hK ⊢
        have HK := Lib.hid hK; have HE1 := Lib.hid hE1
        clear hK hd hE1 hE2
        go_wp2_with fail
        exact K_at (HK.out (.slice (some ⟨g2, 0, none⟩) n2 c2) W (fun _ _ => rfl) (Ext.refl W)) (by kernel_rfl)
      · intro us W K hE1 hE2 hd hK
        have d2 := hd 2 (by kernel_rfl) (by kernel_rfl)
        simp only [Nat.reduceBEq, Bool.not_true, Bool.not_false, Bool.or_true, Bool.or_false, Bool.true_or, Bool.false_or, cond_true, cond_false] at hK ⊢
        rw [d2] at hK ⊢
        have HK := Lib.hid hK; have HE1 := Lib.hid hE1
        clear hK hd hE1 hE2 d2
        go_wp2_with fail
        exact K_at (HK.out (.int .i64 n2) W (fun _ _ => rfl) (Ext.refl W)) (by kernel_rfl)
      · intro us W K hE1 hE2 hd hK
        have d3 := hd 3 (by kernel_rfl) (by kernel_rfl)
        simp only [Nat.reduceBEq, Bool.not_true, Bool.not_false, Bool.or_true, Bool.or_false, Bool.true_or, Bool.false_or, cond_true, cond_false] at hK ⊢
        rw [d3] at hK ⊢
        have HK := Lib.hid hK; have HE1 := Lib.hid hE1
        clear hK hd hE1 hE2 d3
        go_wp2_with fail
        exact K_at (HK.out (.int .i64 m2) W (fun _ _ => rfl) (Ext.refl W)) (by kernel_rfl)
      · intro us W K hE1 hE2 hd hK
        have d1 := hd 1 (by kernel_rfl) (by kernel_rfl)
        have d4 := hd 4 (by kernel_rfl) (by kernel_rfl)
        simp only [Nat.reduceBEq, Bool.not_true, Bool.not_false, Bool.or_true, Bool.or_false, Bool.true_or, Bool.false_or, cond_true, cond_false] at hK ⊢
        rw [d1, d4] at hK ⊢
        have HK := Lib.hid hK; have HE1 := Lib.hid hE1
        clear hK hd hE1 hE2 d1 d4
        go_wp2_with fail
        exact K_at (HK.out (.slice (some ⟨g2, 0, none⟩) m2 c2) W (fun _ _ => rfl) (Ext.refl W)) (by kernel_rfl)
      · intro us W K hE1 hE2 hd hK
        simp only [Nat.reduceBEq, Bool.not_true, Bool.not_false, Bool.or_true, Bool.or_false, Bool.true_or, Bool.false_or, cond_true, cond_false] at hK ⊢
        have HK := Lib.hid hK; have HE1 := Lib.hid hE1
        clear hK hd hE1 hE2
        go_wp2_with fail
        exact K_at (HK.out (.slice A1 k c1) W (fun _ _ => rfl) (Ext.refl W)) (by kernel_rfl)
      · intro us W K hE1 hE2 hd hK
        simp only [Nat.reduceBEq, Bool.not_true, Bool.not_false, Bool.or_true, Bool.or_false, Bool.true_or, Bool.false_or, cond_true, cond_false] at hK ⊢
        have HK := Lib.hid hK; have HE1 := Lib.hid hE1
        clear hK hd hE1 hE2
        go_wp2_with fail
        exact K_at (HK.out (.slice (some ⟨g2, 0, none⟩) n2 c2) W (fun _ _ => rfl) (Ext.refl W)) (by kernel_rfl)
      · intro us W K hE1 hE2 hd hK
        simp only [Nat.reduceBEq, Bool.not_true, Bool.not_false, Bool.or_true, Bool.or_false, Bool.true_or, Bool.false_or, cond_true, cond_false] at hK ⊢
        have HK := Lib.hid hK; have HE1 := Lib.hid hE1
        clear hK hd hE1 hE2
        go_wp2_with fail
        exact K_at (HK.out (.slice (some ⟨g2, 0, none⟩) n2 c2) W (fun _ _ => rfl) (Ext.refl W)) (by kernel_rfl)
      · intro us W K hE1 hE2 hd hK
        simp only [Nat.reduceBEq, Bool.not_true, Bool.not_false, Bool.or_true, Bool.or_false, Bool.true_or, Bool.false_or, cond_true, cond_false] at hK ⊢
        have HK := Lib.hid hK; have HE1 := Lib.hid hE1
        clear hK hd hE1 hE2
        go_wp2_with fail
        exact K_at (HK.out (.slice (some ⟨g2, 0, none⟩) n2 c2) W (fun _ _ => rfl) (Ext.refl W)) (by kernel_rfl)
      · intro us W K hE1 hE2 hd hK
        have d9 := hd 9 (by kernel_rfl) (by kernel_rfl)
        simp only [Nat.reduceBEq, Bool.not_true, Bool.not_false, Bool.or_true, Bool.or_false, Bool.true_or, Bool.false_or, cond_true, cond_false] at hK ⊢
        rw [d9] at hK ⊢
        have HK := Lib.hid hK; have HE1 := Lib.hid hE1
        clear hK hd hE1 hE2 d9
        go_wp2_with fail
        exact K_at (HK.out (.int .i64 n2) W (fun _ _ => rfl) (Ext.refl W)) (by kernel_rfl)
      · intro us W K hE1 hE2 hd hK
        have hE := hE2 (by kernel_rfl)
        have d8 := hd 8 (by kernel_rfl) (by kernel_rfl)
        have d10 := hd 10 (by kernel_rfl) (by kernel_rfl)
        have E3 := Lib.hid (ext_undrew hE)
        have HNF := Lib.hid (few_row X (some ⟨g2, 0, none⟩) n2 c2 n2 n2 n2 W ((rd_own X3.out).ext' (E14.out.next E3.out)) hc2 hd2 rfl (by omega) (by omega) X (List.take_of_length_le (by rw [HXL.out]; exact Nat.le_refl _)).symm (by omega))
        simp only [Nat.reduceBEq, Bool.not_true, Bool.not_false, Bool.or_true, Bool.or_false, Bool.true_or, Bool.false_or, cond_true, cond_false] at hK ⊢
        rw [d8, d10] at hK ⊢
        have HK := Lib.hid hK; have HE1 := Lib.hid hE1
        have HE := Lib.hid hE
        clear hE
        clear hK hd hE1 hE2 d8 d10
        go_wp2_with (go_loud (go_at_call 16; (with_reducible refine HNF.out.mono ?_); rintro e w6 ⟨g6, c6, rfl, _, _, o6, hB6⟩))
        exact K_at (HK.out (.slice (some ⟨g6, 0, none⟩) n2 c6) w6 (fun W2 h2 => ⟨_, _, rfl, own_ext h2 (own_mono o6 E3.out.size)⟩) hB6) (by kernel_rfl)
      · intro us W K hE1 hE2 hd hK
        simp only [Nat.reduceBEq, Bool.not_true, Bool.not_false, Bool.or_true, Bool.or_false, Bool.true_or, Bool.false_or, cond_true, cond_false] at hK ⊢
        have HK := Lib.hid hK; have HE1 := Lib.hid hE1
        clear hK hd hE1 hE2
        go_wp2_with fail
        exact K_at (HK.out (.int .u8 y) W (fun _ _ => rfl) (Ext.refl W)) (by kernel_rfl)
      · intro us W K hE1 hE2 hd hK
        have hE := hE2 (by kernel_rfl)
        have d12 := hd 12 (by kernel_rfl) (by kernel_rfl)
        simp only [Nat.reduceBEq, Bool.not_true, Bool.not_false, Bool.or_true, Bool.or_false, Bool.true_or, Bool.false_or, cond_true, cond_false] at hK ⊢
        rw [d12] at hK ⊢
        have HK := Lib.hid hK; have HE1 := Lib.hid hE1
        have HE := Lib.hid hE
        clear hE
        clear hK hd hE1 hE2 d12
        go_wp2_with fail
        exact K_at (HK.out (.slice (some ⟨W.heap.size, 0, none⟩) 1 1) (W.alloc (.cells #[.int .u8 y] 5)) (fun W2 h2 => ⟨_, rfl, ((Blk.fresh W 5 [.int .u8 y]).rd rfl).ext' h2⟩) ((Ext.refl W).alloc _)) (by kernel_rfl)
      · intro us W K hE1 hE2 hd hK
        have hE := hE2 (by kernel_rfl)
        obtain ⟨g16, c16, d11, o16⟩ := hd 11 (by kernel_rfl) (by kernel_rfl)
        obtain ⟨g17, d13, r17⟩ := hd 13 (by kernel_rfl) (by kernel_rfl)
        have R9 := Lib.hid r17
        have O5 := Lib.hid o16
        have hs3 := (ext_undrew hE).size
        simp only [Nat.reduceBEq, Bool.not_true, Bool.not_false, Bool.or_true, Bool.or_false, Bool.true_or, Bool.false_or, cond_true, cond_false] at hK ⊢
        rw [d11, d13] at hK ⊢
        have HK := Lib.hid hK; have HE1 := Lib.hid hE1
        have HE := Lib.hid hE
        clear hE
        clear hK hd hE1 hE2 d11 d13 r17
        go_wp2_with (at_builtin; refine wpList_app rfl (.tmp 128) (.tmp 130) 33 rfl w15.heap.size 5 i0 (.int .u8 0) 1 1 Try.underlying33 hi hz0 hz1 hz2 rfl (by omega) (some ⟨g16, 0, none⟩) n2 c16 (u8s X) rfl O5.out W.heap.size (some ⟨g17, 0, none⟩) 1 1 (u8s [y]) rfl (RdN.of_Rd R9.out) (u8s_one _) (by simp only [maxLen]; omega) (by omega) hs3 ?_; rw [← u8s_append]; intro A7 c7 w7 o7 hg7)
        exact K_at (HK.out (.slice A7 (n2 + 1) c7) w7 (fun W2 h2 => ⟨_, _, rfl, own_ext h2 o7⟩) (kept_row hg7 o16)) (by kernel_rfl)
    · intro us W hE1 hd
      try dsimp only
      obtain ⟨A7, c7, d14, o7⟩ := hd 14 (by decide) (by decide)
      have d0 := hd 0 (by decide) (by decide)
      have d5 := hd 5 (by decide) (by decide)
      have d6 := hd 6 (by decide) (by decide)
      have d7 := hd 7 (by decide) (by decide)
      simp only [List.drop_succ_cons, List.drop_zero]
      rw [d0, d5, d6, d7, d14]
      have O7 := Lib.hid o7
      have E16 : Hid (Ext w15 W) := Lib.hid ((ext_undrewK hE1).ext (fun _ h => h))
      clear hd hE1 o7 d0 d5 d6 d7 d14
      go_upto_region 14 with fail
      change Code.wp _ _ _ _ (W.alloc (.cells #[.slice (some ⟨g13, 0, none⟩) n2 c13, .slice (some ⟨g2, 0, none⟩) m2 c2, .slice A1 k c1, .slice (some ⟨g2, 0, none⟩) n2 c2, .slice none 0 0, .slice A7 (n2 + 1) c7] 33))
      obtain ⟨w17, hw17⟩ : ∃ x, x = W.alloc (.cells #[.slice (some ⟨g13, 0, none⟩) n2 c13, .slice (some ⟨g2, 0, none⟩) m2 c2, .slice A1 k c1, .slice (some ⟨g2, 0, none⟩) n2 c2, .slice none 0 0, .slice A7 (n2 + 1) c7] 33) := ⟨_, rfl⟩
      rw [← hw17]
      obtain ⟨gt, hgt⟩ : ∃ g, g = W.heap.size := ⟨_, rfl⟩
      rw [← hgt]
      have B17 : Hid (Blk w17 gt 33 [.slice (some ⟨g13, 0, none⟩) n2 c13, .slice (some ⟨g2, 0, none⟩) m2 c2, .slice A1 k c1, .slice (some ⟨g2, 0, none⟩) n2 c2, .slice none 0 0, .slice A7 (n2 + 1) c7]) := Lib.hid (by rw [hw17, hgt]; exact Blk.fresh _ _ _)
      have E17 : Hid (Ext W w17) := Lib.hid (by rw [hw17]; exact (Ext.refl W).alloc _)
      clear hw17 hgt
      go_upto_region 15 with fail
      change Code.wp _ _ _ _ (w17.alloc (.cells #[.int .u64 key, .int .u64 other] 22))
      obtain ⟨w18, hw18⟩ : ∃ x, x = w17.alloc (.cells #[.int .u64 key, .int .u64 other] 22) := ⟨_, rfl⟩
      rw [← hw18]
      obtain ⟨gk, hgk⟩ : ∃ g, g = w17.heap.size := ⟨_, rfl⟩
      rw [← hgk]
      have B18 : Hid (Blk w18 gk 22 [.int .u64 key, .int .u64 other]) := Lib.hid (by rw [hw18, hgk]; exact Blk.fresh _ _ _)
      have E18 : Hid (Ext w17 w18) := Lib.hid (by rw [hw18]; exact (Ext.refl w17).alloc _)
      clear hw18 hgk
      have EW : Hid (Ext W w18) := Lib.hid (E17.out.next E18.out)
      have HKY : Hid (∀ q, q < 2 → ∃ kv, w18.cell? ⟨gk, q, none⟩ = some (.int .u64 kv) ∧ 0 ≤ kv ∧ kv ≤ 18446744073709551615) := Lib.hid (fun q hq => by
        rcases q with _ | _ | q
        · exact ⟨key, B18.out.cell 0, k0, k1'⟩
        · exact ⟨other, B18.out.cell 1, o0, o1⟩
        · omega)
      have R18 : Hid (Rd w18 w18.heap.size (some ⟨g2, 0, none⟩) n2 (u8s X)) := Lib.hid ((rd_own X3.out).ext' (E14.out.next (E16.out.next EW.out)))
      have HTR : Hid (∀ t, t < 6 → ∃ B m d Y, w18.cell? ⟨gt, t, none⟩ = some (.slice B m d) ∧ Rd w18 w18.heap.size B m (u8s Y) ∧ Byt Y ∧ m ≤ 100 ∧ m ≤ d ∧ d ≤ 9223372036854775807) := Lib.hid (fun t ht => by
        have hc7 := slice_cap O7.out
        rcases t with _ | _ | _ | _ | _ | _ | t
        · exact ⟨_, _, _, X.set j y, (B17.out.ext E18.out).cell 0, (rd_own O14.out).ext' (E16.out.next EW.out), byt_set HXB.out j HY.out, by omega, hc13, hd13⟩
        · exact ⟨_, _, _, X.take m2, (B17.out.ext E18.out).cell 1, rd_takeL R18.out hm2b, HXB.out.take m2, by omega, by omega, hd2⟩
        · exact ⟨_, _, _, L, (B17.out.ext E18.out).cell 2, R3.out.ext' (E14.out.next (E16.out.next EW.out)), HLB.out, by omega, hc1, hd1⟩
        · exact ⟨_, _, _, X, (B17.out.ext E18.out).cell 3, R18.out, HXB.out, by omega, hc2, hd2⟩
        · exact ⟨none, 0, 0, [], (B17.out.ext E18.out).cell 4, Rd.nil _ _ _, Byt.nil, by omega, by omega, by omega⟩
        · exact ⟨_, _, _, X ++ [y], (B17.out.ext E18.out).cell 5, (rd_own O7.out).ext' EW.out, HXB.out.app (byt_single HY.out), by omega, hc7.1, by have := hc7.2; unfold maxLen at this; omega⟩
        · omega)
      have hgtl : gt < w18.heap.size := (B17.out.ext E18.out).lt
      have hgkl : gk < w18.heap.size := B18.out.lt
      have E0 : Hid (Ext w w18) := Lib.hid (E3.out.next (E14.out.next (E16.out.next EW.out)))
      clear R18 EW E18 E17 B17 B18 O7 E16 E14 O14 R3 X3 O3 E3 HLB HLL HXE HN2 HXL HXB HOX HPB HZL HZB HPK HNP2 HE1a HE2 HK1 HK2 HSZ HS HPE HZE HNP HNZ HJ HM2 HL HBY HX HLN HY HLE HK
      go_wp2_with fail
      go_loopw [23] (fun i wr => ∃ t : Nat, t ≤ 6 ∧ i = .int .i64 t ∧ Ext w18 wr) (fun i _ => 6 - (intOf i).toNat)
      case atStart => exact ⟨0, by omega, rfl, Ext.refl _⟩
      case round =>
        obtain ⟨t, ht, rfl, hE⟩ := hrel
        have HEo := Lib.hid hE
        clear hE
        obtain ⟨wo, rfl⟩ : ∃ wo : World, wo = wr := ⟨_, rfl⟩
        by_cases hlt : t < 6
        · obtain ⟨B, m, d, Y, hcT, hRT, hYB, hm100, hmd, hd63⟩ := HTR.out t hlt
          have HCT := Lib.hid hcT; have HRT := Lib.hid hRT; have HYB := Lib.hid hYB
          clear hcT hRT hYB
          go_wp2_with fail
          generalize decide ((t : Int) < 6) = bt
          go_loopw [24] (fun i wr => ∃ q : Nat, q ≤ 2 ∧ i = .int .i64 q ∧ Ext w18 wr) (fun i _ => 2 - (intOf i).toNat)
          case atStart => exact ⟨0, by omega, rfl, HEo.out⟩
          case round =>
            obtain ⟨q, hq, rfl, hE⟩ := hrel
            have HEi := Lib.hid hE
            clear hE
            by_cases hq2 : q < 2
            · obtain ⟨kv, hck, kv0, kv1⟩ := HKY.out q hq2
              have HCK := Lib.hid hck
              clear hck
              obtain ⟨Z3, er, hop⟩ : ∃ Z3 er, openL kv Y = (Z3, er) := ⟨_, _, rfl⟩
              have HOP := Lib.hid hop
              obtain ⟨m3, hm3⟩ : ∃ m3, m3 = Z3.length := ⟨_, rfl⟩
              have HM3 := Lib.hid hm3
              have hm3b : m3 ≤ 9223372036854775807 := by
                have h1 : Y.length = m := by simpa [u8s] using HRT.out.1
                have h2 : (openL kv Y).1.length ≤ Y.length := openL_le kv Y
                rw [hop] at h2
                dsimp only at h2
                omega
              clear hop hm3
              have HEw : Hid (Ext w18 wr) := HEi
              go_upto_region 21 with fail
              generalize decide ((q : Int) < 2) = bq
              refine wp_region_flowF 14 ?F21 (fun us => ?_) (by kernel_rfl) (by kernel_rfl) (fun a b => Ext a b) Ext.refl (fun h1 h2 => h1.next h2) (fun i v W => match i with
                | 0 => v = .slice (some ⟨gk, 0, none⟩) 2 2
                | 1 => v = .int .i64 q
                | 2 => v = .pointer (some ⟨gk, q, none⟩)
                | 3 => v = .int .u64 kv
                | 4 => v = .slice (some ⟨gt, 0, none⟩) 6 6
                | 5 => v = .int .i64 t
                | 6 => v = .pointer (some ⟨gt, t, none⟩)
                | 7 => v = .slice B m d
                | 8 => ∃ A3 c3, v = .tuple #[.slice A3 m3 c3, .int .i64 er] ∧ Rd W W.heap.size A3 m3 (u8s Z3)
                | 9 => ∃ A3 c3, v = .tuple #[.slice A3 m3 c3, .int .i64 er] ∧ Rd W W.heap.size A3 m3 (u8s Z3)
                | 10 => ∃ A3 c3, v = .slice A3 m3 c3 ∧ Rd W W.heap.size A3 m3 (u8s Z3)
                | 11 => v = .int .i64 er
                | 12 => ∃ A3 c3, v = .slice A3 m3 c3 ∧ Rd W W.heap.size A3 m3 (u8s Z3)
                | 13 => v = .int .i64 er
                | _ => True) ?_ ?_
              case refine_1 =>
                simp only [List.take_succ_cons, List.take_zero, flowAct, Nat.zero_add, Nat.reduceAdd, Act.put, List.setIfInBounds_toArray, List.set_cons_succ, List.set_cons_zero]
                rfl
              · simp only [List.take_succ_cons, List.take_zero, flowStepsF]
                refine ⟨?_, ?_, ?_, ?_, ?_, ?_, ?_, ?_, ?_, ?_, ?_, ?_, ?_, ?_, trivial⟩
                · intro us W K hE hd hK
                  dsimp only at hK ⊢
                  have HK := Lib.hid hK; have HE := Lib.hid hE
                  clear hK hd hE
                  go_wp2_with fail
                  exact K_at (HK.out (.slice (some ⟨gk, 0, none⟩) 2 2) W (fun _ _ => rfl) (Ext.refl W)) (by kernel_rfl)
                · intro us W K hE hd hK
                  dsimp only at hK ⊢
                  have HK := Lib.hid hK; have HE := Lib.hid hE
                  clear hK hd hE
                  go_wp2_with fail
                  exact K_at (HK.out (.int .i64 q) W (fun _ _ => rfl) (Ext.refl W)) (by kernel_rfl)
                · intro us W K hE hd hK
                  have d0 := hd 0 (by kernel_rfl)
                  have d1 := hd 1 (by kernel_rfl)
                  dsimp only at hK ⊢
                  rw [d0, d1] at hK ⊢
                  have HK := Lib.hid hK; have HE := Lib.hid hE
                  clear hK hd hE d0 d1
                  go_wp2_with fail
                  exact K_at (HK.out (.pointer (some ⟨gk, q, none⟩)) W (fun _ _ => rfl) (Ext.refl W)) (by kernel_rfl)
                · intro us W K hE hd hK
                  have d2 := hd 2 (by kernel_rfl)
                  have c0 := ((HEw.out.next (ext_undrew hE)).cell (p := ⟨gk, q, none⟩) hgkl).trans HCK.out
                  dsimp only at hK ⊢
                  rw [d2] at hK ⊢
                  have HK := Lib.hid hK; have HE := Lib.hid hE
                  clear hK hd hE d2
                  go_wp2_with fail
                  exact K_at (HK.out (.int .u64 kv) W (fun _ _ => rfl) (Ext.refl W)) (by kernel_rfl)
                · intro us W K hE hd hK
                  dsimp only at hK ⊢
                  have HK := Lib.hid hK; have HE := Lib.hid hE
                  clear hK hd hE
                  go_wp2_with fail
                  exact K_at (HK.out (.slice (some ⟨gt, 0, none⟩) 6 6) W (fun _ _ => rfl) (Ext.refl W)) (by kernel_rfl)
                · intro us W K hE hd hK
                  dsimp only at hK ⊢
                  have HK := Lib.hid hK; have HE := Lib.hid hE
                  clear hK hd hE
                  go_wp2_with fail
                  exact K_at (HK.out (.int .i64 t) W (fun _ _ => rfl) (Ext.refl W)) (by kernel_rfl)
                · intro us W K hE hd hK
                  have d4 := hd 4 (by kernel_rfl)
                  have d5 := hd 5 (by kernel_rfl)
                  dsimp only at hK ⊢
                  rw [d4, d5] at hK ⊢
                  have HK := Lib.hid hK; have HE := Lib.hid hE
                  clear hK hd hE d4 d5
                  go_wp2_with fail
                  exact K_at (HK.out (.pointer (some ⟨gt, t, none⟩)) W (fun _ _ => rfl) (Ext.refl W)) (by kernel_rfl)
                · intro us W K hE hd hK
                  have d6 := hd 6 (by kernel_rfl)
                  have c0 := ((HEw.out.next (ext_undrew hE)).cell (p := ⟨gt, t, none⟩) hgtl).trans HCT.out
                  dsimp only at hK ⊢
                  rw [d6] at hK ⊢
                  have HK := Lib.hid hK; have HE := Lib.hid hE
                  clear hK hd hE d6
                  go_wp2_with fail
                  exact K_at (HK.out (.slice B m d) W (fun _ _ => rfl) (Ext.refl W)) (by kernel_rfl)
                · intro us W K hE hd hK
                  have d3 := hd 3 (by kernel_rfl)
                  have d7 := hd 7 (by kernel_rfl)
                  have HC := Lib.hid (open_any kv kv0 kv1 Y B m d W (HRT.out.ext' (HEw.out.next (ext_undrew hE))) HYB.out (by omega) hmd hd63)
                  dsimp only at hK ⊢
                  rw [d3, d7] at hK ⊢
                  have HK := Lib.hid hK; have HE := Lib.hid hE
                  clear hK hd hE d3 d7
                  go_wp2_with (go_loud (go_at_call 25; (with_reducible refine HC.out.mono ?_); rintro e w9 ⟨⟨A3, c3, rfl, r3⟩, hE9⟩; rw [HOP.out] at r3 ⊢; dsimp only at r3 ⊢; rw [← HM3.out] at r3 ⊢; have R3 := Lib.hid (rd_own r3); have E9 := Lib.hid hE9; clear r3 hE9))
                  exact K_at (HK.out (.tuple #[.slice A3 m3 c3, .int .i64 er]) w9 (fun W2 h2 => ⟨A3, c3, rfl, R3.out.ext' h2⟩) E9.out) (by kernel_rfl)
                · intro us W K hE hd hK
                  obtain ⟨A3, c3, d8, r3⟩ := hd 8 (by kernel_rfl)
                  have R3 := Lib.hid r3
                  dsimp only at hK ⊢
                  rw [d8] at hK ⊢
                  have HK := Lib.hid hK; have HE := Lib.hid hE
                  clear hK hd hE d8 r3
                  go_wp2_with fail
                  exact K_at (HK.out (.tuple #[.slice A3 m3 c3, .int .i64 er]) W (fun W2 h2 => ⟨A3, c3, rfl, R3.out.ext' h2⟩) (Ext.refl W)) (by kernel_rfl)
                · intro us W K hE hd hK
                  obtain ⟨A3, c3, d9, r3⟩ := hd 9 (by kernel_rfl)
                  have R3 := Lib.hid r3
                  dsimp only at hK ⊢
                  rw [d9] at hK ⊢
                  have HK := Lib.hid hK; have HE := Lib.hid hE
                  clear hK hd hE d9 r3
                  go_wp2_with fail
                  exact K_at (HK.out (.slice A3 m3 c3) W (fun W2 h2 => ⟨A3, c3, rfl, R3.out.ext' h2⟩) (Ext.refl W)) (by kernel_rfl)
                · intro us W K hE hd hK
                  obtain ⟨A3, c3, d9, r3⟩ := hd 9 (by kernel_rfl)
                  dsimp only at hK ⊢
                  rw [d9] at hK ⊢
                  have HK := Lib.hid hK; have HE := Lib.hid hE
                  clear hK hd hE d9 r3
                  go_wp2_with fail
                  exact K_at (HK.out (.int .i64 er) W (fun _ _ => rfl) (Ext.refl W)) (by kernel_rfl)
                · intro us W K hE hd hK
                  obtain ⟨A3, c3, d10, r3⟩ := hd 10 (by kernel_rfl)
                  have R3 := Lib.hid r3
                  dsimp only at hK ⊢
                  rw [d10] at hK ⊢
                  have HK := Lib.hid hK; have HE := Lib.hid hE
                  clear hK hd hE d10 r3
                  go_wp2_with fail
                  exact K_at (HK.out (.slice A3 m3 c3) W (fun W2 h2 => ⟨A3, c3, rfl, R3.out.ext' h2⟩) (Ext.refl W)) (by kernel_rfl)
                · intro us W K hE hd hK
                  have d11 := hd 11 (by kernel_rfl)
                  dsimp only at hK ⊢
                  rw [d11] at hK ⊢
                  have HK := Lib.hid hK; have HE := Lib.hid hE
                  clear hK hd hE d11
                  go_wp2_with fail
                  exact K_at (HK.out (.int .i64 er) W (fun _ _ => rfl) (Ext.refl W)) (by kernel_rfl)
              · intro us W hE hd
                try dsimp only
                obtain ⟨A4, c4o, d12, r3⟩ := hd 12 (by decide)
                have d13 := hd 13 (by decide)
                simp only [List.drop_succ_cons, List.drop_zero]
                rw [d12, d13]
                have HRo := Lib.hid r3
                have HEx : Hid (Ext w18 W) := Lib.hid (HEw.out.next (ext_undrew hE))
                clear hd hE r3 d12 d13 HEw
                have HEw := HEx
                clear HEx
                obtain ⟨wp, rfl⟩ : ∃ x : World, x = W := ⟨_, rfl⟩
                go_upto_region 22 with fail
                refine wp_region_flowF 14 ?F22 (fun us => ?_) (by kernel_rfl) (by kernel_rfl) (fun a b => Ext a b) Ext.refl (fun h1 h2 => h1.next h2) (fun i v W => match i with
                  | 0 => v = .slice (some ⟨gk, 0, none⟩) 2 2
                  | 1 => v = .int .i64 q
                  | 2 => v = .pointer (some ⟨gk, q, none⟩)
                  | 3 => v = .int .u64 kv
                  | 4 => v = .slice (some ⟨gt, 0, none⟩) 6 6
                  | 5 => v = .int .i64 t
                  | 6 => v = .pointer (some ⟨gt, t, none⟩)
                  | 7 => v = .slice B m d
                  | 8 => ∃ A3 c3, v = .tuple #[.slice A3 m3 c3, .int .i64 er] ∧ Rd W W.heap.size A3 m3 (u8s Z3)
                  | 9 => ∃ A3 c3, v = .tuple #[.slice A3 m3 c3, .int .i64 er] ∧ Rd W W.heap.size A3 m3 (u8s Z3)
                  | 10 => ∃ A3 c3, v = .slice A3 m3 c3 ∧ Rd W W.heap.size A3 m3 (u8s Z3)
                  | 11 => v = .int .i64 er
                  | 12 => ∃ A3 c3, v = .slice A3 m3 c3 ∧ Rd W W.heap.size A3 m3 (u8s Z3)
                  | 13 => v = .int .i64 er
                  | _ => True) ?_ ?_
                case refine_1 =>
                  simp only [List.take_succ_cons, List.take_zero, flowAct, Nat.zero_add, Nat.reduceAdd, Act.put, List.setIfInBounds_toArray, List.set_cons_succ, List.set_cons_zero]
                  rfl
                · simp only [List.take_succ_cons, List.take_zero, flowStepsF]
                  refine ⟨?_, ?_, ?_, ?_, ?_, ?_, ?_, ?_, ?_, ?_, ?_, ?_, ?_, ?_, trivial⟩
                  · intro us W K hE hd hK
                    dsimp only at hK ⊢
                    have HK := Lib.hid hK; have HE := Lib.hid hE
                    clear hK hd hE
                    go_wp2_with fail
                    exact K_at (HK.out (.slice (some ⟨gk, 0, none⟩) 2 2) W (fun _ _ => rfl) (Ext.refl W)) (by kernel_rfl)
                  · intro us W K hE hd hK
                    dsimp only at hK ⊢
                    have HK := Lib.hid hK; have HE := Lib.hid hE
                    clear hK hd hE
                    go_wp2_with fail
                    exact K_at (HK.out (.int .i64 q) W (fun _ _ => rfl) (Ext.refl W)) (by kernel_rfl)
                  · intro us W K hE hd hK
                    have d0 := hd 0 (by kernel_rfl)
                    have d1 := hd 1 (by kernel_rfl)
                    dsimp only at hK ⊢
                    rw [d0, d1] at hK ⊢
                    have HK := Lib.hid hK; have HE := Lib.hid hE
                    clear hK hd hE d0 d1
                    go_wp2_with fail
                    exact K_at (HK.out (.pointer (some ⟨gk, q, none⟩)) W (fun _ _ => rfl) (Ext.refl W)) (by kernel_rfl)
                  · intro us W K hE hd hK
                    have d2 := hd 2 (by kernel_rfl)
                    have c0 := ((HEw.out.next (ext_undrew hE)).cell (p := ⟨gk, q, none⟩) hgkl).trans HCK.out
                    dsimp only at hK ⊢
                    rw [d2] at hK ⊢
                    have HK := Lib.hid hK; have HE := Lib.hid hE
                    clear hK hd hE d2
                    go_wp2_with fail
                    exact K_at (HK.out (.int .u64 kv) W (fun _ _ => rfl) (Ext.refl W)) (by kernel_rfl)
                  · intro us W K hE hd hK
                    dsimp only at hK ⊢
                    have HK := Lib.hid hK; have HE := Lib.hid hE
                    clear hK hd hE
                    go_wp2_with fail
                    exact K_at (HK.out (.slice (some ⟨gt, 0, none⟩) 6 6) W (fun _ _ => rfl) (Ext.refl W)) (by kernel_rfl)
                  · intro us W K hE hd hK
                    dsimp only at hK ⊢
                    have HK := Lib.hid hK; have HE := Lib.hid hE
                    clear hK hd hE
                    go_wp2_with fail
                    exact K_at (HK.out (.int .i64 t) W (fun _ _ => rfl) (Ext.refl W)) (by kernel_rfl)
                  · intro us W K hE hd hK
                    have d4 := hd 4 (by kernel_rfl)
                    have d5 := hd 5 (by kernel_rfl)
                    dsimp only at hK ⊢
                    rw [d4, d5] at hK ⊢
                    have HK := Lib.hid hK; have HE := Lib.hid hE
                    clear hK hd hE d4 d5
                    go_wp2_with fail
                    exact K_at (HK.out (.pointer (some ⟨gt, t, none⟩)) W (fun _ _ => rfl) (Ext.refl W)) (by kernel_rfl)
                  · intro us W K hE hd hK
                    have d6 := hd 6 (by kernel_rfl)
                    have c0 := ((HEw.out.next (ext_undrew hE)).cell (p := ⟨gt, t, none⟩) hgtl).trans HCT.out
                    dsimp only at hK ⊢
                    rw [d6] at hK ⊢
                    have HK := Lib.hid hK; have HE := Lib.hid hE
                    clear hK hd hE d6
                    go_wp2_with fail
                    exact K_at (HK.out (.slice B m d) W (fun _ _ => rfl) (Ext.refl W)) (by kernel_rfl)
                  · intro us W K hE hd hK
                    have d3 := hd 3 (by kernel_rfl)
                    have d7 := hd 7 (by kernel_rfl)
                    have HC := Lib.hid (ropen_any kv kv0 kv1 Y B m d W (HRT.out.ext' (HEw.out.next (ext_undrew hE))) HYB.out (by omega) hmd hd63)
                    dsimp only at hK ⊢
                    rw [d3, d7] at hK ⊢
                    have HK := Lib.hid hK; have HE := Lib.hid hE
                    clear hK hd hE d3 d7
                    go_wp2_with (go_loud (go_at_call 30; (with_reducible refine HC.out.mono ?_); rintro e w9 ⟨⟨A3, c3, rfl, _, r3⟩, hE9⟩; rw [HOP.out] at r3 ⊢; dsimp only at r3 ⊢; rw [← HM3.out] at r3 ⊢; have R3 := Lib.hid (r3); have E9 := Lib.hid hE9; clear r3 hE9))
                    exact K_at (HK.out (.tuple #[.slice A3 m3 c3, .int .i64 er]) w9 (fun W2 h2 => ⟨A3, c3, rfl, R3.out.ext' h2⟩) E9.out) (by kernel_rfl)
                  · intro us W K hE hd hK
                    obtain ⟨A3, c3, d8, r3⟩ := hd 8 (by kernel_rfl)
                    have R3 := Lib.hid r3
                    dsimp only at hK ⊢
                    rw [d8] at hK ⊢
                    have HK := Lib.hid hK; have HE := Lib.hid hE
                    clear hK hd hE d8 r3
                    go_wp2_with fail
                    exact K_at (HK.out (.tuple #[.slice A3 m3 c3, .int .i64 er]) W (fun W2 h2 => ⟨A3, c3, rfl, R3.out.ext' h2⟩) (Ext.refl W)) (by kernel_rfl)
                  · intro us W K hE hd hK
                    obtain ⟨A3, c3, d9, r3⟩ := hd 9 (by kernel_rfl)
                    have R3 := Lib.hid r3
                    dsimp only at hK ⊢
                    rw [d9] at hK ⊢
                    have HK := Lib.hid hK; have HE := Lib.hid hE
                    clear hK hd hE d9 r3
                    go_wp2_with fail
                    exact K_at (HK.out (.slice A3 m3 c3) W (fun W2 h2 => ⟨A3, c3, rfl, R3.out.ext' h2⟩) (Ext.refl W)) (by kernel_rfl)
                  · intro us W K hE hd hK
                    obtain ⟨A3, c3, d9, r3⟩ := hd 9 (by kernel_rfl)
                    dsimp only at hK ⊢
                    rw [d9] at hK ⊢
                    have HK := Lib.hid hK; have HE := Lib.hid hE
                    clear hK hd hE d9 r3
                    go_wp2_with fail
                    exact K_at (HK.out (.int .i64 er) W (fun _ _ => rfl) (Ext.refl W)) (by kernel_rfl)
                  · intro us W K hE hd hK
                    obtain ⟨A3, c3, d10, r3⟩ := hd 10 (by kernel_rfl)
                    have R3 := Lib.hid r3
                    dsimp only at hK ⊢
                    rw [d10] at hK ⊢
                    have HK := Lib.hid hK; have HE := Lib.hid hE
                    clear hK hd hE d10 r3
                    go_wp2_with fail
                    exact K_at (HK.out (.slice A3 m3 c3) W (fun W2 h2 => ⟨A3, c3, rfl, R3.out.ext' h2⟩) (Ext.refl W)) (by kernel_rfl)
                  · intro us W K hE hd hK
                    have d11 := hd 11 (by kernel_rfl)
                    dsimp only at hK ⊢
                    rw [d11] at hK ⊢
                    have HK := Lib.hid hK; have HE := Lib.hid hE
                    clear hK hd hE d11
                    go_wp2_with fail
                    exact K_at (HK.out (.int .i64 er) W (fun _ _ => rfl) (Ext.refl W)) (by kernel_rfl)
                · intro us W hE hd
                  try dsimp only
                  obtain ⟨B3, c4, d12, r3⟩ := hd 12 (by decide)
                  have d13 := hd 13 (by decide)
                  simp only [List.drop_succ_cons, List.drop_zero]
                  rw [d12, d13]
                  have HR2 := Lib.hid r3
                  have HR1 := Lib.hid (HRo.out.ext' (ext_undrew hE))
                  have HEx : Hid (Ext w18 W) := Lib.hid (HEw.out.next (ext_undrew hE))
                  clear hd hE r3 d12 d13 HEw HRo
                  have HSM := Lib.hid (same_self Z3 A4 B3 m3 c4o m3 c4 W HR1.out HR2.out hm3b)
                  go_wp2_with (go_loud (go_at_call 29; (with_reducible refine HSM.out.mono ?_); rintro e w22 ⟨rfl, hd⟩; have E22 : Hid (Ext w18 w22) := Lib.hid (HEx.out.next (ext_drew hd)); clear hd))
                  go_roundw
                  case rel => exact ⟨q + 1, by omega, by go_num, E22.out⟩
                  case measure => simp [intOf]; omega
            · obtain rfl : q = 2 := by omega
              go_wp2_with fail
              go_roundw
              case rel => exact ⟨t + 1, by omega, by go_num, HEi.out⟩
              case measure => simp [intOf]; omega
        · obtain rfl : t = 6 := by omega
          go_wp2_with (go_loud (go_at_call 23; (with_reducible refine (lives_any wo).mono ?_); rintro e w20 ⟨rfl, hE20⟩; have E20 := Lib.hid hE20; clear hE20))
          go_ret
          exact ⟨rfl, E0.out.next (HEo.out.next E20.out)⟩
namespace fnLinkSeals
theorem params_linkSeals : (Try.f4.params.toList.all fun t => Try.prog.readableRec t && decide (t < Try.prog.types.size)) = true := by kernel_rfl
theorem contract (H : Type) (enc : TypeId × Value → H) (W : World) (base : Nat) (args : Array Value) (ds gs : List (DataW H)) (before : List MemPlace)
    (hval : ∀ (j : Nat) t v, Try.f4.params[j]? = some t → args[j]? = some v → Value.okWide Try.prog W .any base t v)
    (hW : DataW.Whole enc Try.prog Try.f4.params.toList Rows.linkSealsSpec.vars false W args.toList ds gs before) :
    Calls Try.prog 4 args W fun e W' => ∃ v, e = .returned v ∧ Rows.linkSealsSpec.post enc Try.prog Try.f4 false true false false W args v W' := by
  have hW' := hW
  obtain ⟨p, q, hA0, _, _, _, _⟩ := hW
  have hA : DataW.TrodAll enc Try.prog W 0 (fun _ => true) true Try.f4.params.toList args.toList ds p := hA0
  rw [Try.params4] at hA hval
  obtain ⟨v0, vs0, d0, ds0, p0, q0, hargs, e0d, e0p, h0, r0⟩ := trodAll_cons hA
  obtain ⟨v1, vs1, d1, ds1, p1, q1, e1, e1d, e1p, h1, r1⟩ := trodAll_cons r0
  obtain ⟨v2, vs2, d2, ds2, p2, q2, e2, e2d, e2p, h2, r2⟩ := trodAll_cons r1
  obtain ⟨v3, vs3, d3, ds3, p3, q3, e3, e3d, e3p, h3, r3⟩ := trodAll_cons r2
  obtain ⟨v4, vs4, d4, ds4, p4, q4, e4, e4d, e4p, h4, r4⟩ := trodAll_cons r3
  obtain ⟨en1, en2, en3⟩ := trodAll_nil r4
  obtain rfl : args = #[v0, v1, v2, v3, v4] := by cases args; simp_all
  clear hA hA0
  obtain ⟨key, rfl, _, _, hkey⟩ := open_int Try.underlying22 (hval 0 _ v0 rfl rfl) h0
  obtain ⟨k0, k1⟩ := wf_u64 hkey
  obtain ⟨other, rfl, _, _, hoth⟩ := open_int Try.underlying22 (hval 1 _ v1 rfl rfl) h1
  obtain ⟨o0, o1⟩ := wf_u64 hoth
  obtain ⟨A, n, c, l, rfl, hR, hwf, hnc, hc⟩ := open_u8s Try.underlying33 Try.underlying5 cellsu8 (hval 2 _ v2 rfl rfl) h2
  obtain ⟨x, rfl, _, _, hx⟩ := open_int Try.underlying3 (hval 3 _ v3 rfl rfl) h3
  obtain ⟨y, rfl, _, _, hy⟩ := open_int Try.underlying5 (hval 4 _ v4 rfl rfl) h4
  unfold maxLen at hc
  refine (walk_seals key other l A n c x y W k0 k1 o0 o1 hR (byt_wf hwf) hnc hc (wf_i64 hx) (wf_u8 hy)).mono fun e W' ⟨he, hg⟩ => ⟨_, he, ?_⟩
  exact post_law hW' laidOut (params_ok params_linkSeals) 4 rfl Try.underlying4 rfl (fun ds h => by
    rw [Try.params4] at h
    match ds, h with
    | [_, _, _, _, _], _ => rfl) hg
noncomputable def laidWorld (os : Os) : World := World.holding Try.prog os ⟨#[], #[], []⟩
theorem reads (os : Os) {H : Type} (enc : TypeId × Value → H) : ∃ places, DataW.whole enc Try.prog ((laidWorld os).forCall (fun _ _ => 0) ⟨#[], #[.int .u64 0, .int .u64 0, .slice none 0 0, .int .i64 0, .int .u8 0], []⟩).memory Try.f4.params.toList Rows.linkSealsSpec.vars false (#[.int .u64 0, .int .u64 0, .slice none 0 0, .int .i64 0, .int .u8 0] : Array Value).toList 8 = some ([.lit (.int .u64 0), .lit (.int .u64 0), .nil, .lit (.int .i64 0), .lit (.int .u8 0)], [], places) :=
  ⟨[], by kernel_rfl⟩
set_option maxRecDepth 100000 in
theorem lifted (os : Os) (started : os.Started) (H : Type) (enc : TypeId × Value → H) (F : Stop.Interp) :
    ReturnsInHanded {} Try.checked os 4 .any ((OpenSpec.ofChange Rows.linkSealsSpec).preRow enc Try.prog Try.f4 Rows.linkSealsRow.domain false Rows.linkSealsRow.laid) (((OpenSpec.ofChange Rows.linkSealsSpec).at F).post enc Try.prog Try.f4 false true false false) := by
  obtain ⟨places, hx⟩ := reads os enc
  refine returnsInHanded_of_row (C := Try.checked) (s := OpenSpec.ofChange Rows.linkSealsSpec) own started (by kernel_rfl) Try.func4
    (witness_row_at (enc := enc) (C := Try.checked) false (laidWorld os) #[.int .u64 0, .int .u64 0, .slice none 0 0, .int .i64 0, .int .u8 0] rfl (by kernel_rfl) (by kernel_rfl) (by kernel_rfl)
      (OpenSpec.preRow_of_cond 8 hx (by kernel_rfl) (fun k hk => by cases hk) (by kernel_rfl) (laidMet_nil _ _))) ?_
  intro W base args ds gs before hval hW _ _ _ hL _ _
  exact contract H enc W base args ds gs before hval hW
theorem said : Rows.LinkSealsSaid :=
  OpenClaim.holds_of_cond 4 Try.f4 rfl rfl rfl rfl rfl rfl rfl ⟨rfl, rfl, rfl, rfl, rfl⟩ rfl rfl rfl rfl rfl (by kernel_rfl) Try.func4 (by kernel_rfl)
    (of_decide_eq_true (by kernel_rfl)) (by unfold Func.isWrapper; first | (rw [if_pos (by decide +kernel)]; kernel_rfl) | (rw [if_neg (by decide +kernel)]; exact ⟨rfl, rfl⟩))
    (fun os started H enc _ F => by rw [OpenClaim.pre_eq_preRow]; exact lifted os started H enc F)
end fnLinkSeals
end Go.Proofs.Ytkgmoklifkojhaa
