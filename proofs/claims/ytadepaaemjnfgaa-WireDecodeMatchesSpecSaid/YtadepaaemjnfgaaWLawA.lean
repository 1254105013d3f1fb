/- WireDecodeMatchesSpec: for every byte sequence the law answers true and leaves its argument as it was. Conditions: none beyond the row's own. -/
import Derived.Test.YtadepaaemjnfgaaWLaw
namespace Go.Proofs.Ytadepaaemjnfgaa
open Go.RowKit Go.WideShapes Go.ChangeShapes
set_option maxHeartbeats 8000000 in
set_option maxRecDepth 100000 in
theorem walk_dec (l : List Int) (A : Option Addr) (n c : Nat) (w : World) (hl : Rd w w.heap.size A n (u8s l)) (hby : Byt l) (hnc : n ≤ c) (hc : c ≤ 9223372036854775807) :
    Calls Try.prog 4 #[.slice A n c] w fun e w' => e = .returned (.bool true) ∧ Below w.heap.size w w' := by
  have hlen : l.length = n := by simpa [u8s] using hl.1
  have HL := Lib.hid hl
  by_cases h : n ≤ 2000
  · have hn : n ≤ 1000000000000 := by omega
    have HI := decList_len getI l hby
    have HS := decList_len decS l hby
    obtain ⟨HDD, HDL⟩ := decD_dig l hby
    obtain ⟨gi, hgi⟩ : ∃ g, g = getI l := ⟨_, rfl⟩
    obtain ⟨gs, hgs⟩ : ∃ g, g = decS l := ⟨_, rfl⟩
    obtain ⟨gl, hgl⟩ : ∃ g, g = decList getI l := ⟨_, rfl⟩
    obtain ⟨gt, hgt⟩ : ∃ g, g = decList decS l := ⟨_, rfl⟩
    obtain ⟨gd, hgd⟩ : ∃ g, g = decD l := ⟨_, rfl⟩
    rw [← hgl] at HI
    rw [← hgt] at HS
    rw [← hgd] at HDD HDL
    obtain ⟨vi, ui, ei⟩ := gi
    obtain ⟨vs, us, es⟩ := gs
    obtain ⟨vl, ul, el⟩ := gl
    obtain ⟨vt, ut, et⟩ := gt
    obtain ⟨vd, ud, ed⟩ := gd
    have GI := Lib.hid hgi.symm; have GS := Lib.hid hgs.symm; have GL := Lib.hid hgl.symm; have GT := Lib.hid hgt.symm; have GD := Lib.hid hgd.symm
    have hvl : vl.length ≤ 9223372036854775807 := by simp only at HI; omega
    have hvt : vt.length ≤ 9223372036854775807 := by simp only at HS; omega
    have hvd : vd.length ≤ 1000000000000 := by simp only at HDL; omega
    have HDD2 := Lib.hid HDD
    clear hgi hgs hgl hgt hgd HI HS HDD HDL hl hlen
    go_enter Try.func4, Try.ntmps4
    go_wp2_with (first
      | (go_at_call 24; (with_reducible refine (gint_any l A n c w HL.out hby hnc hc).mono ?_); rintro e w1 ⟨rfl, rfl⟩; rw [GI.out]; unfold tup3)
      | (go_at_call 25; (with_reducible refine (rgint_any l A n c w HL.out hby hnc hc).mono ?_); rintro e w1 ⟨rfl, hB⟩; rw [GI.out]; unfold tup3; have E1 : Hid (Ext w w1) := Lib.hid hB; have L1 := Lib.hid (HL.out.ext' hB); clear hB)
      | (go_at_call 26; (with_reducible refine (gbytes_any l A n c w1 L1.out hby hnc hc hn).mono ?_); rintro e w2 ⟨rfl, rfl⟩; rw [GS.out]; unfold tupS)
      | (go_at_call 27; (with_reducible refine (rgbytes_any l A n c w1 L1.out hby hnc hc hn).mono ?_); rintro e w2 ⟨rfl, hB⟩; rw [GS.out]; unfold tupS; have E2 : Hid (Ext w w2) := Lib.hid (E1.out.next hB); have L2 := Lib.hid (HL.out.ext' E2.out); clear hB)
      | (go_at_call 28; (with_reducible refine (gintsR l A n c w2 L2.out hby hnc hc hn vl ul el GL.out).mono ?_); rintro e w3 ⟨⟨A3, c3, rfl, _, hR⟩, hB⟩; have R3 := Lib.hid hR; have E3 : Hid (Ext w w3) := Lib.hid (E2.out.next hB); have L3 := Lib.hid (HL.out.ext' E3.out); clear hB hR)
      | (go_at_call 29; (with_reducible refine (rgintsR l A n c w3 L3.out hby hnc hc hn vl ul el GL.out).mono ?_); rintro e w4 ⟨⟨A4, c4, rfl, _, hR⟩, hB⟩; have R4 := Lib.hid hR; have E4 : Hid (Ext w w4) := Lib.hid (E3.out.next hB); have R34 := Lib.hid (R3.out.ext' hB); clear hB hR)
      | (go_at_call 30; (with_reducible refine (sameInts_any vl vl A3 A4 vl.length c3 vl.length c4 w4 R34.out R4.out hvl).mono ?_); rintro e w5 ⟨rfl, hd⟩; rw [decide_eq_true (rfl : vl = vl)]; have E5 : Hid (Ext w w5) := Lib.hid (E4.out.next (hd.below _)); have L5 := Lib.hid (HL.out.ext' E5.out); clear hd)
      | (go_at_call 31; (with_reducible refine (gstringsR l A n c w5 L5.out hby hnc hc hn vt ut et GT.out).mono ?_); rintro e w6 ⟨⟨A6, c6, rfl, _, hR⟩, hB⟩; have R6 := Lib.hid hR; have E6 : Hid (Ext w w6) := Lib.hid (E5.out.next hB); have L6 := Lib.hid (HL.out.ext' E6.out); clear hB hR)
      | (go_at_call 32; (with_reducible refine (rgstringsR l A n c w6 L6.out hby hnc hc hn vt ut et GT.out).mono ?_); rintro e w7 ⟨⟨A7, c7, rfl, _, hR⟩, hB⟩; have R7 := Lib.hid hR; have E7 : Hid (Ext w w7) := Lib.hid (E6.out.next hB); have R67 := Lib.hid (R6.out.ext' hB); clear hB hR)
      | (go_at_call 33; (with_reducible refine (sameTexts_any vt vt A6 A7 vt.length c6 vt.length c7 w7 R67.out R7.out hvt).mono ?_); rintro e w8 ⟨rfl, hd⟩; rw [decide_eq_true (rfl : vt = vt)]; have E8 : Hid (Ext w w8) := Lib.hid (E7.out.next (hd.below _)); have L8 := Lib.hid (HL.out.ext' E8.out); clear hd)
      | (go_at_call 34; (with_reducible refine (gdigR l A n c w8 L8.out hby hnc hc hn vd ud ed GD.out).mono ?_); rintro e w9 ⟨⟨A9, c9, rfl, _, hR⟩, hB⟩; have R9 := Lib.hid hR; have E9 : Hid (Ext w w9) := Lib.hid (E8.out.next hB); have L9 := Lib.hid (HL.out.ext' E9.out); clear hB hR)
      | (go_at_call 35; (with_reducible refine (rgdigR l A n c w9 L9.out hby hnc hc hn vd ud ed GD.out).mono ?_); rintro e w10 ⟨⟨A10, c10, rfl, _, hR⟩, hB⟩; have R10 := Lib.hid hR; have E10 : Hid (Ext w w10) := Lib.hid (E9.out.next hB); have R910 := Lib.hid (R9.out.ext hB); clear hB hR)
      | (go_at_call 12; (with_reducible refine (wsanity_any _).mono ?_); rintro e ws ⟨rfl, hB⟩; have ES : Hid (Ext w ws) := Lib.hid (E10.out.next hB); have ES1 : Hid (Ext w10 ws) := Lib.hid hB; clear hB)
      | (go_at_call 36; (refine (sameDigests_any vd vd A9 A10 vd.length c9 vd.length c10 ws (R910.out.ext ES1.out) (R10.out.ext ES1.out) HDD2.out HDD2.out rfl rfl hvd).mono ?_); rintro e w12 ⟨rfl, hd⟩; rw [decide_eq_true (rfl : vd = vd)]; have E12 : Hid (Ext w w12) := Lib.hid (ES.out.next (hd.below _)); clear hd))
    go_ret
    exact ⟨rfl, E12.out⟩
  · clear hl hlen
    go_enter Try.func4, Try.ntmps4
    go_wp2_with (go_at_call 12; (with_reducible refine (wsanity_any _).mono ?_); rintro e ws ⟨rfl, hB⟩; have ES : Hid (Ext w ws) := Lib.hid ((Ext.refl w).next hB); clear hB)
    go_ret
    exact ⟨rfl, ES.out⟩
namespace fnWireDecodeMatchesSpec
theorem params_wireDecodeMatchesSpec : (Try.f4.params.toList.all fun t => Try.prog.readableRec t && decide (t < Try.prog.types.size)) = true := by kernel_rfl
theorem contract (H : Type) (enc : TypeId × Value → H) (W : World) (base : Nat) (args : Array Value) (ds gs : List (DataW H)) (before : List MemPlace)
    (hval : ∀ (j : Nat) t v, Try.f4.params[j]? = some t → args[j]? = some v → Value.okWide Try.prog W .any base t v)
    (hW : DataW.Whole enc Try.prog Try.f4.params.toList Rows.wireDecodeMatchesSpecSpec.vars false W args.toList ds gs before) :
    Calls Try.prog 4 args W fun e W' => ∃ v, e = .returned v ∧ Rows.wireDecodeMatchesSpecSpec.post enc Try.prog Try.f4 false true false false W args v W' := by
  have hW' := hW
  obtain ⟨p, q, hA0, _, _, _, _⟩ := hW
  have hA : DataW.TrodAll enc Try.prog W 0 (fun _ => true) true Try.f4.params.toList args.toList ds p := hA0
  rw [Try.params4] at hA hval
  obtain ⟨v0, vs0, d0, ds0, p0, q0, hargs, e0d, e0p, h0, r0⟩ := trodAll_cons hA
  obtain ⟨en1, en2, en3⟩ := trodAll_nil r0
  obtain rfl : args = #[v0] := by cases args; simp_all
  clear hA hA0
  obtain ⟨A, n, c, l, rfl, hR, hwf, hnc, hcm⟩ := open_u8s Try.underlying28 Try.underlying5 cellsu8 (hval 0 _ v0 rfl rfl) h0
  have hc : c ≤ 9223372036854775807 := by unfold maxLen at hcm; omega
  refine (walk_dec l A n c W hR (byt_wf hwf) hnc hc).mono fun e W' ⟨he, hg⟩ => ⟨_, he, ?_⟩
  exact post_law hW' laidOut (params_ok params_wireDecodeMatchesSpec) 4 rfl Try.underlying4 rfl (fun ds h => by
    rw [Try.params4] at h
    match ds, h with
    | [_], _ => rfl) hg
noncomputable def laidWorld (os : Os) : World := World.holding Try.prog os ⟨#[], #[], []⟩
theorem reads (os : Os) {H : Type} (enc : TypeId × Value → H) : ∃ places, DataW.whole enc Try.prog ((laidWorld os).forCall (fun _ _ => 0) ⟨#[], #[.slice none 0 0], []⟩).memory Try.f4.params.toList Rows.wireDecodeMatchesSpecSpec.vars false (#[.slice none 0 0] : Array Value).toList 8 = some ([.nil], [], places) :=
  ⟨[], by kernel_rfl⟩
set_option maxRecDepth 100000 in
theorem lifted (os : Os) (started : os.Started) (H : Type) (enc : TypeId × Value → H) (F : Stop.Interp) :
    ReturnsInHanded {} Try.checked os 4 .any ((OpenSpec.ofChange Rows.wireDecodeMatchesSpecSpec).preRow enc Try.prog Try.f4 Rows.wireDecodeMatchesSpecRow.domain false Rows.wireDecodeMatchesSpecRow.laid) (((OpenSpec.ofChange Rows.wireDecodeMatchesSpecSpec).at F).post enc Try.prog Try.f4 false true false false) := by
  obtain ⟨places, hx⟩ := reads os enc
  refine returnsInHanded_of_row (C := Try.checked) (s := OpenSpec.ofChange Rows.wireDecodeMatchesSpecSpec) own started (by kernel_rfl) Try.func4
    (witness_row_at (enc := enc) (C := Try.checked) false (laidWorld os) #[.slice none 0 0] rfl (by kernel_rfl) (by kernel_rfl) (by kernel_rfl)
      (OpenSpec.preRow_of_cond 8 hx (by kernel_rfl) (fun k hk => by cases hk) (by kernel_rfl) (laidMet_nil _ _))) ?_
  intro W base args ds gs before hval hW _ _ _ hL _ _
  exact contract H enc W base args ds gs before hval hW
theorem said : Rows.WireDecodeMatchesSpecSaid :=
  OpenClaim.holds_of_cond 4 Try.f4 rfl rfl rfl rfl rfl rfl rfl ⟨rfl, rfl, rfl, rfl, rfl⟩ rfl rfl rfl rfl rfl (by kernel_rfl) Try.func4 (by kernel_rfl)
    (of_decide_eq_true (by kernel_rfl)) (by unfold Func.isWrapper; first | (rw [if_pos (by decide +kernel)]; kernel_rfl) | (rw [if_neg (by decide +kernel)]; exact ⟨rfl, rfl⟩))
    (fun os started H enc _ F => by rw [OpenClaim.pre_eq_preRow]; exact lifted os started H enc F)
end fnWireDecodeMatchesSpec
#print axioms fnWireDecodeMatchesSpec.said
end Go.Proofs.Ytadepaaemjnfgaa
