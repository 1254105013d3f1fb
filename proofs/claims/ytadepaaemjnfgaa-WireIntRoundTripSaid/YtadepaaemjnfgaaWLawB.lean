/- WireIntRoundTrip: for every integer and every byte sequence the law answers true and leaves its arguments as they were. Conditions: none beyond the row's own. -/
import Derived.Test.YtadepaaemjnfgaaRtA
namespace Go.Proofs.Ytadepaaemjnfgaa
open Go.RowKit Go.WideShapes Go.ChangeShapes
set_option maxHeartbeats 8000000 in
set_option maxRecDepth 100000 in
theorem walk_irt (x : Int) (h0 : -9223372036854775808 ≤ x) (h1 : x ≤ 9223372036854775807) (l : List Int) (A : Option Addr) (n c : Nat) (w : World) (hl : Rd w w.heap.size A n (u8s l)) (hby : Byt l) (_hnc : n ≤ c) (_hc : c ≤ 9223372036854775807) :
    Calls Try.prog 6 #[.int .i64 x, .slice A n c] w fun e w' => e = .returned (.bool true) ∧ Below w.heap.size w w' := by
  have hlen : l.length = n := by simpa [u8s] using hl.1
  have HL := Lib.hid hl
  by_cases h : n ≤ 2000
  · obtain ⟨q, hq⟩ : ∃ q, q = encInt x := ⟨_, rfl⟩
    obtain ⟨k, hk⟩ : ∃ k, k = q.length := ⟨_, rfl⟩
    have hk1 : 1 ≤ k ∧ k ≤ 9 := by have := encInt_pos x; have := encInt_le9 x h0 h1; rw [hk, hq]; omega
    have hgi : getI (q ++ l) = (x, (k : Int), 0) := by rw [hk, hq]; exact getI_enc x l h0 h1
    have hby2 : Byt (q ++ l) := by rw [hq]; exact (encInt_byt x h0 h1).app hby
    have GI := Lib.hid hgi
    have hqe := Lib.hid hq.symm
    have hke := Lib.hid hk.symm
    have hcat : u8s q ++ u8s l = u8s (q ++ l) := by simp [u8s]
    have HC := Lib.hid hcat
    obtain ⟨hk1, hk9⟩ := hk1
    clear hgi hq hk hl hlen hcat
    obtain ⟨i0, hi, hz0, hz1, hz2⟩ := info_parts winfo_u8
    go_enter Try.func6, Try.ntmps6
    go_wp2_with (first
      | (go_at_call 14; (with_reducible refine (intR x w h0 h1 q k hqe.out hke.out).mono ?_); rintro e w1 ⟨⟨b1, o1, c1, rfl, ⟨hkc1, hcm1⟩, hR⟩, hB⟩; have R1 := Lib.hid hR; have E1 : Hid (Ext w w1) := Lib.hid hB; have L1 := Lib.hid (HL.out.ext' hB); have hcm : c1 ≤ 9223372036854775807 := (by unfold maxLen at hcm1; omega); clear hB hR hcm1)
      | (at_builtin; refine wpList_app_tight rfl (.tmp 21) (.tmp 22) 28 rfl 5 i0 (.int .u8 0) 1 Try.underlying28 hi hz0 hz1 hz2 rfl b1 o1 k (u8s q) rfl w1.heap.size R1.out (by omega) w1.heap.size A n c (u8s l) rfl L1.out (u8_one l) (by simp only [maxLen]; omega) (by omega) ?_; rw [HC.out]; intro A2 c2 w2 hR2 hc2 hm2 hB2; have R2 := Lib.hid hR2; have E2 : Hid (Ext w w2) := Lib.hid (E1.out.next hB2); have hcm2 : c2 ≤ 9223372036854775807 := (by unfold maxLen at hm2; omega); clear hR2 hB2 hm2)
      | (go_at_call 24; (with_reducible refine (gint_any (q ++ l) A2 (k + n) c2 w2 R2.out hby2 hc2 hcm2).mono ?_); rintro e w3 ⟨rfl, rfl⟩; rw [GI.out]; unfold tup3)
      | (go_at_call 12; (with_reducible refine (wsanity_any _).mono ?_); rintro e ws ⟨rfl, hB⟩; have ES : Hid (Ext w ws) := Lib.hid (E2.out.next hB); clear hB))
    go_ret
    refine ⟨?_, ES.out⟩
    show Ending.returned (.bool (decide ((k : Int) ≤ 9))) = _
    rw [decide_eq_true (by omega)]
  · clear hl hlen
    go_enter Try.func6, Try.ntmps6
    go_wp2_with (go_at_call 12; (with_reducible refine (wsanity_any _).mono ?_); rintro e ws ⟨rfl, hB⟩; have ES : Hid (Ext w ws) := Lib.hid ((Ext.refl w).next hB); clear hB)
    go_ret
    exact ⟨rfl, ES.out⟩
namespace fnWireIntRoundTrip
theorem params_wireIntRoundTrip : (Try.f6.params.toList.all fun t => Try.prog.readableRec t && decide (t < Try.prog.types.size)) = true := by kernel_rfl
theorem contract (H : Type) (enc : TypeId × Value → H) (W : World) (base : Nat) (args : Array Value) (ds gs : List (DataW H)) (before : List MemPlace)
    (hval : ∀ (j : Nat) t v, Try.f6.params[j]? = some t → args[j]? = some v → Value.okWide Try.prog W .any base t v)
    (hW : DataW.Whole enc Try.prog Try.f6.params.toList Rows.wireIntRoundTripSpec.vars false W args.toList ds gs before) :
    Calls Try.prog 6 args W fun e W' => ∃ v, e = .returned v ∧ Rows.wireIntRoundTripSpec.post enc Try.prog Try.f6 false true false false W args v W' := by
  have hW' := hW
  obtain ⟨p, q, hA0, _, _, _, _⟩ := hW
  have hA : DataW.TrodAll enc Try.prog W 0 (fun _ => true) true Try.f6.params.toList args.toList ds p := hA0
  rw [Try.params6] at hA hval
  obtain ⟨v0, vs0, d0, ds0, p0, q0, hargs, e0d, e0p, h0, r0⟩ := trodAll_cons hA
  obtain ⟨v1, vs1, d1, ds1, p1, q1, e1, e1d, e1p, h1, r1⟩ := trodAll_cons r0
  obtain ⟨en1, en2, en3⟩ := trodAll_nil r1
  obtain rfl : args = #[v0, v1] := by cases args; simp_all
  clear hA hA0
  obtain ⟨x, rfl, _, _, hx⟩ := open_int Try.underlying3 (hval 0 _ v0 rfl rfl) h0
  obtain ⟨hx0, hx1⟩ := wf_i64 hx
  obtain ⟨A, n, c, l, rfl, hR, hwf, hnc, hcm⟩ := open_u8s Try.underlying28 Try.underlying5 cellsu8 (hval 1 _ v1 rfl rfl) h1
  have hc : c ≤ 9223372036854775807 := by unfold maxLen at hcm; omega
  refine (walk_irt x hx0 hx1 l A n c W hR (byt_wf hwf) hnc hc).mono fun e W' ⟨he, hg⟩ => ⟨_, he, ?_⟩
  exact post_law hW' laidOut (params_ok params_wireIntRoundTrip) 4 rfl Try.underlying4 rfl (fun ds h => by
    rw [Try.params6] at h
    match ds, h with
    | [_, _], _ => rfl) hg
noncomputable def laidWorld (os : Os) : World := World.holding Try.prog os ⟨#[], #[], []⟩
theorem reads (os : Os) {H : Type} (enc : TypeId × Value → H) : ∃ places, DataW.whole enc Try.prog ((laidWorld os).forCall (fun _ _ => 0) ⟨#[], #[.int .i64 0, .slice none 0 0], []⟩).memory Try.f6.params.toList Rows.wireIntRoundTripSpec.vars false (#[.int .i64 0, .slice none 0 0] : Array Value).toList 8 = some ([.lit (.int .i64 0), .nil], [], places) :=
  ⟨[], by kernel_rfl⟩
set_option maxRecDepth 100000 in
theorem lifted (os : Os) (started : os.Started) (H : Type) (enc : TypeId × Value → H) (F : Stop.Interp) :
    ReturnsInHanded {} Try.checked os 6 .any ((OpenSpec.ofChange Rows.wireIntRoundTripSpec).preRow enc Try.prog Try.f6 Rows.wireIntRoundTripRow.domain false Rows.wireIntRoundTripRow.laid) (((OpenSpec.ofChange Rows.wireIntRoundTripSpec).at F).post enc Try.prog Try.f6 false true false false) := by
  obtain ⟨places, hx⟩ := reads os enc
  refine returnsInHanded_of_row (C := Try.checked) (s := OpenSpec.ofChange Rows.wireIntRoundTripSpec) own started (by kernel_rfl) Try.func6
    (witness_row_at (enc := enc) (C := Try.checked) false (laidWorld os) #[.int .i64 0, .slice none 0 0] rfl (by kernel_rfl) (by kernel_rfl) (by kernel_rfl)
      (OpenSpec.preRow_of_cond 8 hx (by kernel_rfl) (fun k hk => by cases hk) (by kernel_rfl) (laidMet_nil _ _))) ?_
  intro W base args ds gs before hval hW _ _ _ hL _ _
  exact contract H enc W base args ds gs before hval hW
theorem said : Rows.WireIntRoundTripSaid :=
  OpenClaim.holds_of_cond 6 Try.f6 rfl rfl rfl rfl rfl rfl rfl ⟨rfl, rfl, rfl, rfl, rfl⟩ rfl rfl rfl rfl rfl (by kernel_rfl) Try.func6 (by kernel_rfl)
    (of_decide_eq_true (by kernel_rfl)) (by unfold Func.isWrapper; first | (rw [if_pos (by decide +kernel)]; kernel_rfl) | (rw [if_neg (by decide +kernel)]; exact ⟨rfl, rfl⟩))
    (fun os started H enc _ F => by rw [OpenClaim.pre_eq_preRow]; exact lifted os started H enc F)
end fnWireIntRoundTrip
#print axioms fnWireIntRoundTrip.said
end Go.Proofs.Ytadepaaemjnfgaa
