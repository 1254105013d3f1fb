/- WireConcat: for every string and list of integers the law answers true and leaves its arguments as they were. Conditions: none beyond the row's own. -/
import Derived.Test.YtadepaaemjnfgaaRtA
import Derived.Test.YtadepaaemjnfgaaOpenD
namespace Go.Proofs.Ytadepaaemjnfgaa
open Go.RowKit Go.WideShapes Go.ChangeShapes
theorem encL_int_le (l : List Int) (h : ∀ x ∈ l, -9223372036854775808 ≤ x ∧ x ≤ 9223372036854775807) : (l.flatMap encInt).length ≤ 9 * l.length := by
  induction l with
  | nil => simp
  | cons x l ih =>
    have a := ih (fun y hy => h y (List.mem_cons_of_mem _ hy))
    have b := encInt_le9 x (h x (List.mem_cons_self ..)).1 (h x (List.mem_cons_self ..)).2
    rw [List.flatMap_cons, List.length_append, List.length_cons]
    omega
theorem encL_int_byt (l : List Int) (h : ∀ x ∈ l, -9223372036854775808 ≤ x ∧ x ≤ 9223372036854775807) : Byt (l.flatMap encInt) := by
  intro y hy
  obtain ⟨x, hx, hy⟩ := List.mem_flatMap.1 hy
  exact encInt_byt x (h x hx).1 (h x hx).2 y hy
set_option maxHeartbeats 16000000 in
set_option maxRecDepth 100000 in
theorem walk_con (s : ByteArray) (l : List Int) (A : Option Addr) (n c : Nat) (w : World) (hl : Rd w w.heap.size A n (l.map (Value.int .i64))) (hwf : ∀ x ∈ l, -9223372036854775808 ≤ x ∧ x ≤ 9223372036854775807) (hs : s.size ≤ 140737488355328) (hn : n ≤ 140737488355328) :
    Calls Try.prog 10 #[.string s, .slice A n c] w fun e w' => e = .returned (.bool true) ∧ Below w.heap.size w w' := by
  have hlen : l.length = n := by simpa using hl.1
  have HL := Lib.hid hl
  by_cases h : (s.size : Int) + n ≤ 2000
  · obtain ⟨i0, hi, hz0, hz1, hz2⟩ := info_parts winfo_u8
    have hk9 := encInt_le9 (s.size : Int) (by omega) (by omega)
    have hq9 := encInt_le9 (l.length : Int) (by omega) (by omega)
    have hqf := encL_int_le l hwf
    have hkk : (encB s).length ≤ 2009 := by unfold encB; rw [List.length_append, bys_length]; omega
    have hqq : (encL encInt l).length ≤ 20000 := by unfold encL; rw [List.length_append]; omega
    have hb1 : Byt (encB s) := encB_byt s (by omega)
    have hb2 : Byt (encL encInt l) := (encInt_byt (l.length : Int) (by omega) (by omega)).app (encL_int_byt l hwf)
    have hd1 : decS (encB s ++ encL encInt l) = (s, ((encB s).length : Int), 0) := decS_enc s _ (by omega)
    have hd2 : decList getI (encL encInt l) = (l, ((encL encInt l).length : Int), 0) := by
      have := decList_enc getI encInt l [] (fun x hx r => getI_enc x r (hwf x hx).1 (hwf x hx).2) (fun x hx => encInt_pos x) (by omega)
      rw [List.append_nil] at this
      exact this
    have hkp : 0 < (encB s).length := by have := encInt_pos (s.size : Int); unfold encB; rw [List.length_append]; omega
    have hap : u8s (encB s) ++ u8s (encL encInt l) = u8s (encB s ++ encL encInt l) := by simp [u8s]
    have hdr : (encB s ++ encL encInt l).drop (encB s).length = encL encInt l := List.drop_left
    obtain ⟨e1, he1⟩ : ∃ e, e = encB s := ⟨_, rfl⟩
    obtain ⟨e2, he2⟩ : ∃ e, e = encL encInt l := ⟨_, rfl⟩
    obtain ⟨k, hk⟩ : ∃ k, k = e1.length := ⟨_, rfl⟩
    obtain ⟨q, hq⟩ : ∃ k, k = e2.length := ⟨_, rfl⟩
    obtain ⟨N, hN⟩ : ∃ N, N = k + q := ⟨_, rfl⟩
    rw [← he1, ← hk] at hkk hkp
    rw [← he2, ← hq] at hqq
    rw [← he1] at hb1
    rw [← he2] at hb2
    rw [← he1, ← he2, ← hk] at hd1 hdr
    rw [← he2, ← hq] at hd2
    rw [← he1, ← he2] at hap
    have B2 := Lib.hid hb2
    have BT := Lib.hid (hb1.app hb2)
    have D1 := Lib.hid hd1; have D2 := Lib.hid hd2; have HAP := Lib.hid hap; have HDR := Lib.hid hdr
    have hE1 := Lib.hid he1.symm; have hE2 := Lib.hid he2.symm; have hK := Lib.hid hk.symm; have hQ := Lib.hid hq.symm; have hNN := Lib.hid hN.symm
    have HWF := Lib.hid hwf
    have hN1 : N ≤ k + q := by omega
    have hN2 : k + q ≤ N := by omega
    have hqp : 0 < q := by rw [hq, he2]; unfold encL; rw [List.length_append]; have := encInt_pos (l.length : Int); omega
    have hsl : ((u8s (e1 ++ e2)).drop k).take (N - k) = u8s e2 := by
      unfold u8s
      rw [← List.map_drop, ← List.map_take, hdr, List.take_of_length_le (by omega)]
    have HSL := Lib.hid hsl
    have hNK := Lib.hid (show (k : Int) + q = N by omega)
    have hll : l.length ≤ 9223372036854775807 := by omega
    clear hsl hk9 hq9 hqf hb1 hb2 hd1 hd2 hap hdr he1 he2 hk hq hN hwf hl hlen
    go_enter Try.func10, Try.ntmps10
    go_wp2_with (first
      | (go_at_call 16; (with_reducible refine (wbytes_any s _ (by omega)).mono ?_); rintro e w1 ⟨⟨A1, c1, rfl, ho⟩, hB⟩; rw [hE1.out, hK.out] at ho ⊢; have R1 := Lib.hid (RdN.of_Rd (Rd.of_own ho)); have E1 : Hid (Ext w w1) := Lib.hid (((Ext.refl w).alloc _).next hB); have own0 := own_below (own_lit w _ w.heap.size 5 [] _ 0 rfl rfl (Nat.le_refl _) rfl (by decide)) hB; have z1 := E1.out.size; clear ho hB)
      | (at_builtin; refine wpList_app rfl (.tmp 19) (.tmp 21) 28 rfl w.heap.size 5 i0 (.int .u8 0) 1 1 Try.underlying28 hi hz0 hz1 hz2 rfl (by omega) (some ⟨w.heap.size, 0, none⟩) 0 0 _ rfl own0 w1.heap.size A1 k c1 _ rfl R1.out (u8s_one _) (by simp only [maxLen]; omega) (by omega) z1 ?_; rw [Nat.zero_add]; intro A2 c2 w2 hown2 hg2; have hb2 := below_app E1.out hg2 own0 (Nat.le_refl _) z1; have E2 : Hid (Ext w w2) := Lib.hid hb2; have z2 := hb2.size; have L2 := Lib.hid (HL.out.ext' hb2); clear hg2 hb2 own0)
      | (go_at_call 18; (with_reducible refine (ints_any l A n c w2 L2.out HWF.out (by rw [hE2.out, hQ.out]; omega) (by omega)).mono ?_); rintro e w3 ⟨⟨A3, c3, rfl, ho⟩, hB⟩; rw [hE2.out, hQ.out] at ho ⊢; have R3 := Lib.hid (RdN.of_Rd (Rd.of_own ho)); have E3 : Hid (Ext w w3) := Lib.hid (E2.out.next hB); have own2 := own_below hown2 hB; have z3 := E3.out.size; clear ho hB hown2)
      | (at_builtin; refine wpList_app rfl (.tmp 22) (.tmp 24) 28 rfl w.heap.size 5 i0 (.int .u8 0) 1 1 Try.underlying28 hi hz0 hz1 hz2 rfl (by omega) A2 k c2 _ rfl own2 w3.heap.size A3 q c3 _ rfl R3.out (u8s_one _) (by simp only [maxLen]; omega) (by omega) z3 ?_; rw [hNN.out]; intro A4 c4 w4 hown4 hg4; have hb4 := below_app E3.out hg4 own2 (Nat.le_refl _) z3; have E4 : Hid (Ext w w4) := Lib.hid hb4; have L4 := Lib.hid (HL.out.ext' hb4); obtain ⟨hc4, hm4⟩ := slice_cap hown4; have hr4 := Rd.of_own hown4; rw [List.nil_append, HAP.out] at hr4; obtain ⟨b4, o4, rfl, hR4⟩ := rd_at hr4 (by omega); have R4 := Lib.hid hR4; have hck : ¬ c4 = k := (by omega); have hck2 : N - k ≤ c4 - k := (by omega); have hrs := hR4.slice k (N - k) (by omega); rw [HSL.out] at hrs; have RS := Lib.hid hrs; clear hrs; have hcm4 : c4 ≤ 9223372036854775807 := (by unfold maxLen at hm4; omega); clear hg4 hb4 own2 hown4 hr4 hR4 hm4)
      | (go_at_call 26; (with_reducible refine (gbytes_any (e1 ++ e2) (some ⟨b4, o4, none⟩) N c4 w4 R4.out BT.out hc4 hcm4 (by omega)).mono ?_); rintro e w5 ⟨rfl, rfl⟩; rw [D1.out]; unfold tupS)
      | (go_at_call 28; (with_reducible refine (gintsR e2 (some ⟨b4, o4 + k, none⟩) (N - k) (c4 - k) w4 RS.out B2.out hck2 (by omega) (by omega) l q 0 D2.out).mono ?_); rintro e w6 ⟨⟨A6, c6, rfl, _, hR⟩, hB⟩; have R6 := Lib.hid hR; have E6 : Hid (Ext w w6) := Lib.hid (E4.out.next hB); have L6 := Lib.hid (L4.out.ext' hB); clear hB hR)
      | (go_at_call 12; (with_reducible refine (wsanity_any _).mono ?_); rintro e ws ⟨rfl, hB⟩; have ES : Hid (Ext w ws) := Lib.hid (E6.out.next hB); have R7 := Lib.hid (R6.out.ext' hB); have L7 := Lib.hid (L6.out.ext' hB); clear hB)
      | (go_at_call 30; (with_reducible refine (sameInts_any l l A6 A l.length c6 n c ws R7.out L7.out hll).mono ?_); rintro e w8 ⟨rfl, hd⟩; rw [decide_eq_true (rfl : l = l)]; have E8 : Hid (Ext w w8) := Lib.hid (ES.out.next (hd.below _)); clear hd))
    go_ret
    refine ⟨?_, E8.out⟩
    show Ending.returned (.bool ((k : Int) + q == N)) = _
    rw [hNK.out, beq_self_eq_true]
  · go_enter Try.func10, Try.ntmps10
    go_wp2_with (go_at_call 12; (with_reducible refine (wsanity_any _).mono ?_); rintro e ws ⟨rfl, hB⟩; have ES : Hid (Ext w ws) := Lib.hid ((Ext.refl w).next hB); clear hB)
    go_ret
    exact ⟨rfl, ES.out⟩
namespace fnWireConcat
theorem params_wireConcat : (Try.f10.params.toList.all fun t => Try.prog.readableRec t && decide (t < Try.prog.types.size)) = true := by kernel_rfl
theorem contract (H : Type) (enc : TypeId × Value → H) (W : World) (base : Nat) (args : Array Value) (ds gs : List (DataW H)) (before : List MemPlace)
    (hval : ∀ (j : Nat) t v, Try.f10.params[j]? = some t → args[j]? = some v → Value.okWide Try.prog W .any base t v)
    (hW : DataW.Whole enc Try.prog Try.f10.params.toList Rows.wireConcatSpec.vars false W args.toList ds gs before) (hsz : (DataW.weightsEach Try.prog (Try.f10.params.toList ++ (OpenSpec.ofChange Rows.wireConcatSpec).bare.plain.varTypes Try.prog) (ds ++ gs)).all (· ≤ reachBytes) = true) :
    Calls Try.prog 10 args W fun e W' => ∃ v, e = .returned v ∧ Rows.wireConcatSpec.post enc Try.prog Try.f10 false true false false W args v W' := by
  have hW' := hW
  obtain ⟨p, q, hA0, _, _, _, _⟩ := hW
  have hA : DataW.TrodAll enc Try.prog W 0 (fun _ => true) true Try.f10.params.toList args.toList ds p := hA0
  rw [Try.params10] at hA hval
  obtain ⟨v0, vs0, d0, ds0, p0, q0, hargs, e0d, e0p, h0, r0⟩ := trodAll_cons hA
  obtain ⟨v1, vs1, d1, ds1, p1, q1, e1, e1d, e1p, h1, r1⟩ := trodAll_cons r0
  obtain ⟨en1, en2, en3⟩ := trodAll_nil r1
  obtain rfl : args = #[v0, v1] := by cases args; simp_all
  clear hA hA0
  have hsh := h1
  obtain ⟨s, rfl, hd0, _, _⟩ := ChangeMaps.open_string Try.underlying9 (hval 0 _ v0 rfl rfl) h0
  obtain ⟨A, n, c, l, rfl, hR, hwf, hnc, hcm⟩ := open_u8s Try.underlying22 Try.underlying3 cellsint (hval 1 _ v1 rfl rfl) h1
  rw [Try.params10, e0d, e1d, hd0] at hsz
  have hs1 : s.size ≤ 140737488355328 := by
    have h2 := sized_string hsz (j := 0) (t := 9) rfl rfl
    have h3 : s.data.toList.length = s.size := by rw [Array.length_toList]; rfl
    have h4 := reachBytes_lt
    omega
  have hn1 : n ≤ 140737488355328 := by
    rcases shape_ints Try.underlying22 Try.underlying3 cellsint hsh with h0n | ⟨elems, spare, hd, hel⟩
    · omega
    · rw [hd] at hsz
      have h2 := sized_slice hsz (j := 1) (t := 22) (e := 3) rfl rfl Try.underlying22
      rw [show Try.prog.bytesOf 3 = 8 by kernel_rfl] at h2
      have h4 := reachBytes_lt
      omega
  refine (walk_con s l A n c W hR (fun x hx => wf_i64 (hwf x hx)) hs1 hn1).mono fun e W' ⟨he, hg⟩ => ⟨_, he, ?_⟩
  exact post_law hW' laidOut (params_ok params_wireConcat) 4 rfl Try.underlying4 rfl (fun ds h => by
    rw [Try.params10] at h
    match ds, h with
    | [_, _], _ => rfl) hg
noncomputable def laidWorld (os : Os) : World := World.holding Try.prog os ⟨#[], #[], []⟩
theorem reads (os : Os) {H : Type} (enc : TypeId × Value → H) : ∃ places, DataW.whole enc Try.prog ((laidWorld os).forCall (fun _ _ => 0) ⟨#[], #[.string ByteArray.empty, .slice none 0 0], []⟩).memory Try.f10.params.toList Rows.wireConcatSpec.vars false (#[.string ByteArray.empty, .slice none 0 0] : Array Value).toList 8 = some ([.lit (.string []), .nil], [], places) :=
  ⟨[], by kernel_rfl⟩
set_option maxRecDepth 100000 in
theorem lifted (os : Os) (started : os.Started) (H : Type) (enc : TypeId × Value → H) (F : Stop.Interp) :
    ReturnsInHanded {} Try.checked os 10 .any ((OpenSpec.ofChange Rows.wireConcatSpec).preRow enc Try.prog Try.f10 Rows.wireConcatRow.domain false Rows.wireConcatRow.laid) (((OpenSpec.ofChange Rows.wireConcatSpec).at F).post enc Try.prog Try.f10 false true false false) := by
  obtain ⟨places, hx⟩ := reads os enc
  refine returnsInHanded_of_row (C := Try.checked) (s := OpenSpec.ofChange Rows.wireConcatSpec) own started (by kernel_rfl) Try.func10
    (witness_row_at (enc := enc) (C := Try.checked) false (laidWorld os) #[.string ByteArray.empty, .slice none 0 0] rfl (by kernel_rfl) (by kernel_rfl) (by kernel_rfl)
      (OpenSpec.preRow_of_cond 8 hx (by kernel_rfl) (fun k hk => by cases hk) (by kernel_rfl) (laidMet_nil _ _))) ?_
  intro W base args ds gs before hval hW _ _ hsz hL _ _
  exact contract H enc W base args ds gs before hval hW hsz
theorem said : Rows.WireConcatSaid :=
  OpenClaim.holds_of_cond 10 Try.f10 rfl rfl rfl rfl rfl rfl rfl ⟨rfl, rfl, rfl, rfl, rfl⟩ rfl rfl rfl rfl rfl (by kernel_rfl) Try.func10 (by kernel_rfl)
    (of_decide_eq_true (by kernel_rfl)) (by unfold Func.isWrapper; first | (rw [if_pos (by decide +kernel)]; kernel_rfl) | (rw [if_neg (by decide +kernel)]; exact ⟨rfl, rfl⟩))
    (fun os started H enc _ F => by rw [OpenClaim.pre_eq_preRow]; exact lifted os started H enc F)
end fnWireConcat
#print axioms fnWireConcat.said
end Go.Proofs.Ytadepaaemjnfgaa
