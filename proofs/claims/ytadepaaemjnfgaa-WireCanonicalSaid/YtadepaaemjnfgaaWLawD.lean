/- WireCanonical: for every byte sequence the law answers true and leaves its argument as it was. Conditions: none beyond the row's own. -/
import Derived.Test.YtadepaaemjnfgaaCanA
namespace Go.Proofs.Ytadepaaemjnfgaa
open Go.RowKit Go.WideShapes Go.ChangeShapes
/-- A cell that holds v. -/
def Cel (w : World) (p : Nat) (v : Value) : Prop := p < w.heap.size ∧ w.cell? ⟨p, 0, none⟩ = some v
theorem Cel.ext {w w' : World} {p : Nat} {v : Value} (h : Cel w p v) (he : Ext w w') : Cel w' p v := ⟨Nat.lt_of_lt_of_le h.1 he.size, (he.cell (p := ⟨p, 0, none⟩) h.1).trans h.2⟩
theorem Cel.box (w : World) (v : Value) (t : TypeId) : Cel (w.alloc (.cells #[v] t)) w.heap.size v := ⟨by simp, by
  rw [cell_of_row _ _ _ #[v] t _ (heap_alloc_new w _)]
  rfl⟩
/-- What was taken is the beginning. -/
def Took (u er : Int) (n : Nat) (e l : List Int) : Prop := er ≠ 0 ∨ ∃ k : Nat, u = k ∧ k ≤ n ∧ e = l.take k
theorem can_int (l : List Int) (hb : Byt l) (v u er : Int) (h : getI l = (v, u, er)) : (-9223372036854775808 ≤ v ∧ v ≤ 9223372036854775807) ∧ Took u er l.length (encInt v) l := by
  rcases getI_cases l hb with ⟨e, hg, he⟩ | ⟨n, k, hg, _, _, hk, h0, h1, henc⟩
  · rw [hg] at h
    simp only [Prod.mk.injEq] at h
    obtain ⟨rfl, rfl, rfl⟩ := h
    exact ⟨by decide, Or.inl (by rcases he with rfl | rfl <;> decide)⟩
  · rw [hg] at h
    simp only [Prod.mk.injEq] at h
    obtain ⟨rfl, rfl, rfl⟩ := h
    exact ⟨⟨h0, h1⟩, Or.inr ⟨k, rfl, hk, henc⟩⟩
theorem can_str (l : List Int) (hb : Byt l) (v : ByteArray) (u er : Int) (h : decS l = (v, u, er)) : v.size ≤ l.length ∧ Took u er l.length (encB v) l := by
  rcases decS_cases l hb with ⟨e, hg, he⟩ | ⟨s, k, x, hg, _, _, hu, _, _, _, hl, henc⟩
  · rw [hg] at h
    simp only [Prod.mk.injEq] at h
    obtain ⟨rfl, rfl, rfl⟩ := h
    exact ⟨Nat.zero_le _, Or.inl (by rcases he with rfl | rfl <;> decide)⟩
  · rw [hg] at h
    simp only [Prod.mk.injEq] at h
    obtain ⟨rfl, rfl, rfl⟩ := h
    exact ⟨by omega, Or.inr ⟨x, rfl, hl, henc⟩⟩
theorem enc0 : (encInt 0).length ≤ 100000000000 := by have := encInt_le9 0 (by decide) (by decide); omega
theorem can_ints (l : List Int) (hb : Byt l) (hn : l.length ≤ 2000) (v : List Int) (u er : Int) (h : decList getI l = (v, u, er)) : (∀ x ∈ v, -9223372036854775808 ≤ x ∧ x ≤ 9223372036854775807) ∧ (encL encInt v).length ≤ 100000000000 ∧ Took u er l.length (encL encInt v) l := by
  rcases decList_canon getI encInt (fun x => -9223372036854775808 ≤ x ∧ x ≤ 9223372036854775807) l hb (fun r hr _ => oneI_canon r hr) with ⟨e, hg, he⟩ | ⟨xs, x, hg, hl, henc, hq⟩
  · rw [hg] at h
    simp only [Prod.mk.injEq] at h
    obtain ⟨rfl, rfl, rfl⟩ := h
    exact ⟨fun x hx => (by cases hx), by simpa [encL] using enc0, Or.inl he⟩
  · rw [hg] at h
    simp only [Prod.mk.injEq] at h
    obtain ⟨rfl, rfl, rfl⟩ := h
    have e : encL encInt xs = l.take x := henc
    exact ⟨hq, by rw [e, List.length_take]; omega, Or.inr ⟨x, rfl, hl, e⟩⟩
theorem can_strs (l : List Int) (hb : Byt l) (hn : l.length ≤ 2000) (v : List ByteArray) (u er : Int) (h : decList decS l = (v, u, er)) : (∀ x ∈ v, x.size ≤ 1000000000000) ∧ (encL encB v).length ≤ 100000000000 ∧ Took u er l.length (encL encB v) l := by
  rcases decList_canon decS encB (fun x => x.size ≤ 1000000000000) l hb (fun r hr hL => (oneS_canon r hr).imp id fun ⟨x, u, a, b, c, d⟩ => ⟨x, u, a, b, c, by omega⟩) with ⟨e, hg, he⟩ | ⟨xs, x, hg, hl, henc, hq⟩
  · rw [hg] at h
    simp only [Prod.mk.injEq] at h
    obtain ⟨rfl, rfl, rfl⟩ := h
    exact ⟨fun x hx => (by cases hx), by simpa [encL] using enc0, Or.inl he⟩
  · rw [hg] at h
    simp only [Prod.mk.injEq] at h
    obtain ⟨rfl, rfl, rfl⟩ := h
    have e : encL encB xs = l.take x := henc
    exact ⟨hq, by rw [e, List.length_take]; omega, Or.inr ⟨x, rfl, hl, e⟩⟩
theorem can_digs (l : List Int) (hb : Byt l) (v : List (List Int)) (u er : Int) (h : decD l = (v, u, er)) : Took u er l.length (encL idD v) l := by
  rcases decD_canon l hb with ⟨e, hg, he⟩ | ⟨xs, x, hg, hl, henc⟩
  · rw [hg] at h
    simp only [Prod.mk.injEq] at h
    obtain ⟨rfl, rfl, rfl⟩ := h
    exact Or.inl he
  · rw [hg] at h
    simp only [Prod.mk.injEq] at h
    obtain ⟨rfl, rfl, rfl⟩ := h
    exact Or.inr ⟨x, rfl, hl, henc⟩
theorem isR (A1 : Option Addr) (c1 : Nat) (l1 : List Int) (u er : Int) (A : Option Addr) (n c : Nat) (l : List Int) (p : Nat) (w : World) (hcell : Cel w p (.slice A n c)) (hl1 : Rd w w.heap.size A1 l1.length (u8s l1)) (hl : Rd w w.heap.size A n (u8s l))
    (hnc : n ≤ c) (hc : c ≤ 9223372036854775807) (hn1 : l1.length ≤ 100000000000) (hok : Took u er n l1 l) :
    Calls Try.prog 37 #[.slice A1 l1.length c1, .int .i64 u, .int .i64 er, .pointer (some ⟨p, 0, none⟩)] w fun e w' => e = .returned (.bool true) ∧ Ext w w' :=
  (is_any A1 l1.length c1 l1 u er A n c l p w hcell.2 hl1 hl hnc hc (by omega) hok).mono fun _ _ h => ⟨h.1, h.2.below _⟩
set_option maxHeartbeats 16000000 in
set_option maxRecDepth 100000 in
theorem walk_can (l : List Int) (A : Option Addr) (n c : Nat) (w : World) (hl : Rd w w.heap.size A n (u8s l)) (hby : Byt l) (hnc : n ≤ c) (hc : c ≤ 9223372036854775807) :
    Calls Try.prog 7 #[.slice A n c] w fun e w' => e = .returned (.bool true) ∧ Below w.heap.size w w' := by
  have hlen : l.length = n := by simpa [u8s] using hl.1
  have E0 : Hid (Ext w (w.alloc (.cells #[.slice A n c] 28))) := Lib.hid ((Ext.refl w).alloc _)
  have L0 := Lib.hid (hl.ext' E0.out)
  have K0 := Lib.hid (Cel.box w (.slice A n c) 28)
  by_cases h : n ≤ 2000
  · have hn : n ≤ 1000000000000 := by omega
    obtain ⟨gi, hgi⟩ : ∃ g, g = getI l := ⟨_, rfl⟩
    obtain ⟨gs, hgs⟩ : ∃ g, g = decS l := ⟨_, rfl⟩
    obtain ⟨gl, hgl⟩ : ∃ g, g = decList getI l := ⟨_, rfl⟩
    obtain ⟨gt, hgt⟩ : ∃ g, g = decList decS l := ⟨_, rfl⟩
    obtain ⟨gd, hgd⟩ : ∃ g, g = decD l := ⟨_, rfl⟩
    obtain ⟨HDD, HDL⟩ := decD_dig l hby
    rw [← hgd] at HDD HDL
    obtain ⟨vi, ui, ei⟩ := gi
    obtain ⟨vs, us, es⟩ := gs
    obtain ⟨vl, ul, el⟩ := gl
    obtain ⟨vt, ut, et⟩ := gt
    obtain ⟨vd, ud, ed⟩ := gd
    have GI := Lib.hid hgi.symm; have GS := Lib.hid hgs.symm; have GL := Lib.hid hgl.symm; have GT := Lib.hid hgt.symm; have GD := Lib.hid hgd.symm
    obtain ⟨⟨hvi0, hvi1⟩, TI'⟩ := can_int l hby vi ui ei hgi.symm
    obtain ⟨hvs, TS'⟩ := can_str l hby vs us es hgs.symm
    obtain ⟨hvl, hcl, TL'⟩ := can_ints l hby (by omega) vl ul el hgl.symm
    obtain ⟨hvt, hct, TT'⟩ := can_strs l hby (by omega) vt ut et hgt.symm
    have TD' := can_digs l hby vd ud ed hgd.symm
    rw [hlen] at TI' TS' TL' TT' TD' hvs HDL
    have TI := Lib.hid TI'; have TS := Lib.hid TS'; have TL := Lib.hid TL'; have TT := Lib.hid TT'; have TD := Lib.hid TD'
    have HVL := Lib.hid hvl; have HVT := Lib.hid hvt; have HCL := Lib.hid hcl; have HCT := Lib.hid hct; have HD16 := Lib.hid HDD
    have hvd : vd.length ≤ 1000000000 := by simp only at HDL; omega
    have hvs2 : vs.size ≤ 1000000000000 := by omega
    have hli : vl.length ≤ 9223372036854775807 ∧ vt.length ≤ 9223372036854775807 := by
      have a := decList_len getI l hby
      have b := decList_len decS l hby
      rw [← hgl] at a
      rw [← hgt] at b
      simp only at a b
      omega
    obtain ⟨hlI, hlT⟩ := hli
    have hei : (encInt vi).length ≤ 100000000000 := by have := encInt_le9 vi hvi0 hvi1; omega
    have hes : (encB vs).length ≤ 100000000000 := by have := encInt_le9 (vs.size : Int) (by omega) (by omega); unfold encB; rw [List.length_append, bys_length]; omega
    have hed : (encL idD vd).length ≤ 100000000000 := by have := encInt_le9 (vd.length : Int) (by omega) (by omega); have := encD_le vd HDD; unfold encL; rw [List.length_append]; omega
    have HEI := Lib.hid hei; have HES := Lib.hid hes; have HED := Lib.hid hed
    clear hgi hgs hgl hgt hgd HDD HDL hl hlen TI' TS' TL' TT' TD' hvl hvt hcl hct hei hes hed hvs
    have k0 := K0.out.2
    go_enter Try.func7, Try.ntmps7
    go_wp2_with (first
      | (go_at_call 24; (with_reducible refine (gint_any l A n c _ L0.out hby hnc hc).mono ?_); rintro e w1 ⟨rfl, hw⟩; have E1 : Hid (Ext w w1) := Lib.hid (hw ▸ E0.out); have L1 : Hid (Rd w1 w1.heap.size A n (u8s l)) := Lib.hid (hw ▸ L0.out); have K1 : Hid (Cel w1 w.heap.size (.slice A n c)) := Lib.hid (hw ▸ K0.out); have k1 := K1.out.2; clear hw k0; rw [GI.out]; unfold tup3)
      | (go_at_call 26; (with_reducible refine (gbytes_any l A n c w1 L1.out hby hnc hc hn).mono ?_); rintro e w2 ⟨rfl, rfl⟩; rw [GS.out]; unfold tupS)
      | (go_at_call 28; (with_reducible refine (gintsR l A n c w1 L1.out hby hnc hc hn vl ul el GL.out).mono ?_); rintro e w3 ⟨⟨A3, c3, rfl, _, hR⟩, hB⟩; have R3 := Lib.hid hR; have E3 : Hid (Ext w w3) := Lib.hid (E1.out.next hB); have L3 := Lib.hid (L1.out.ext' hB); have K3 := Lib.hid (K1.out.ext hB); have k3 := K3.out.2; clear hB hR k1)
      | (go_at_call 31; (with_reducible refine (gstringsR l A n c w3 L3.out hby hnc hc hn vt ut et GT.out).mono ?_); rintro e w6 ⟨⟨A6, c6, rfl, _, hR⟩, hB⟩; have R6 := Lib.hid hR; have R36 := Lib.hid (R3.out.ext' hB); have E6 : Hid (Ext w w6) := Lib.hid (E3.out.next hB); have L6 := Lib.hid (L3.out.ext' hB); have K6 := Lib.hid (K3.out.ext hB); have k6 := K6.out.2; clear hB hR k3)
      | (go_at_call 34; (with_reducible refine (gdigR l A n c w6 L6.out hby hnc hc hn vd ud ed GD.out).mono ?_); rintro e w9 ⟨⟨A9, c9, rfl, _, hR⟩, hB⟩; have R9 := Lib.hid hR; have R39 := Lib.hid (R36.out.ext' hB); have R69 := Lib.hid (R6.out.ext' hB); have E9 : Hid (Ext w w9) := Lib.hid (E6.out.next hB); have L9 := Lib.hid (L6.out.ext' hB); have K9 := Lib.hid (K6.out.ext hB); clear hB hR k6)
      | (go_at_call 12; (with_reducible refine (wsanity_any _).mono ?_); rintro e ws ⟨rfl, hB⟩; have ES : Hid (Ext w ws) := Lib.hid (E9.out.next hB); have RI := Lib.hid (R39.out.ext' hB); have RT := Lib.hid (R69.out.ext' hB); have RD := Lib.hid (R9.out.ext hB); have LS := Lib.hid (L9.out.ext' hB); have KS := Lib.hid (K9.out.ext hB); clear hB)
      | (go_at_call 14; (with_reducible refine (wintL_any vi ws hvi0 hvi1).mono ?_); rintro e wa ⟨⟨Aa, ca, rfl, ho⟩, hB⟩; have Ra := Lib.hid (Rd.of_own ho); have Ea : Hid (Ext ws wa) := Lib.hid hB; have La := Lib.hid (LS.out.ext' hB); have Ka := Lib.hid (KS.out.ext hB); clear hB ho)
      | (go_at_call 37; (with_reducible refine (isR Aa ca (encInt vi) ui ei A n c l w.heap.size wa Ka.out Ra.out La.out hnc hc HEI.out TI.out).mono ?_); rintro e wa2 ⟨rfl, hB⟩; have Ea2 : Hid (Ext ws wa2) := Lib.hid (Ea.out.next hB); clear hB)
      | (go_at_call 16; (with_reducible refine (wbytes_any vs wa2 hvs2).mono ?_); rintro e wb ⟨⟨Ab, cb, rfl, ho⟩, hB⟩; have Rb := Lib.hid (Rd.of_own ho); have Eb : Hid (Ext ws wb) := Lib.hid (Ea2.out.next hB); have Lb := Lib.hid (LS.out.ext' Eb.out); have Kb := Lib.hid (KS.out.ext Eb.out); clear hB ho)
      | (go_at_call 37; (with_reducible refine (isR Ab cb (encB vs) us es A n c l w.heap.size wb Kb.out Rb.out Lb.out hnc hc HES.out TS.out).mono ?_); rintro e wb2 ⟨rfl, hB⟩; have Eb2 : Hid (Ext ws wb2) := Lib.hid (Eb.out.next hB); have RI2 := Lib.hid (RI.out.ext' Eb2.out); clear hB)
      | (go_at_call 18; (with_reducible refine (ints_any vl A3 vl.length c3 wb2 RI2.out HVL.out HCL.out hlI).mono ?_); rintro e wc ⟨⟨Ac, cc, rfl, ho⟩, hB⟩; have Rc := Lib.hid (Rd.of_own ho); have Ec : Hid (Ext ws wc) := Lib.hid (Eb2.out.next hB); have Lc := Lib.hid (LS.out.ext' Ec.out); have Kc := Lib.hid (KS.out.ext Ec.out); clear hB ho)
      | (go_at_call 37; (with_reducible refine (isR Ac cc (encL encInt vl) ul el A n c l w.heap.size wc Kc.out Rc.out Lc.out hnc hc HCL.out TL.out).mono ?_); rintro e wc2 ⟨rfl, hB⟩; have Ec2 : Hid (Ext ws wc2) := Lib.hid (Ec.out.next hB); have RT2 := Lib.hid (RT.out.ext' Ec2.out); clear hB)
      | (go_at_call 20; (with_reducible refine (strings_any vt A6 vt.length c6 wc2 RT2.out HVT.out HCT.out hlT).mono ?_); rintro e wd ⟨⟨Ad, cd, rfl, ho⟩, hB⟩; have Rd' := Lib.hid (Rd.of_own ho); have Ed : Hid (Ext ws wd) := Lib.hid (Ec2.out.next hB); have Ld := Lib.hid (LS.out.ext' Ed.out); have Kd := Lib.hid (KS.out.ext Ed.out); clear hB ho)
      | (go_at_call 37; (with_reducible refine (isR Ad cd (encL encB vt) ut et A n c l w.heap.size wd Kd.out Rd'.out Ld.out hnc hc HCT.out TT.out).mono ?_); rintro e wd2 ⟨rfl, hB⟩; have Ed2 : Hid (Ext ws wd2) := Lib.hid (Ed.out.next hB); have RD2 := Lib.hid (RD.out.ext Ed2.out); clear hB)
      | (go_at_call 22; (refine (digests_any vd A9 vd.length c9 wd2 RD2.out HD16.out rfl hvd).mono ?_); rintro e we ⟨⟨Ae, ce, rfl, ho⟩, hB⟩; have Re := Lib.hid (Rd.of_own ho); have Ee : Hid (Ext ws we) := Lib.hid (Ed2.out.next hB); have Le := Lib.hid (LS.out.ext' Ee.out); have Ke := Lib.hid (KS.out.ext Ee.out); clear hB ho)
      | (go_at_call 37; (with_reducible refine (isR Ae ce (encL idD vd) ud ed A n c l w.heap.size we Ke.out Re.out Le.out hnc hc HED.out TD.out).mono ?_); rintro e we2 ⟨rfl, hB⟩; have EF : Hid (Ext w we2) := Lib.hid (ES.out.next (Ee.out.next hB)); clear hB))
    go_ret
    exact ⟨rfl, EF.out⟩
  · clear hl hlen
    go_enter Try.func7, Try.ntmps7
    go_wp2_with (go_at_call 12; (with_reducible refine (wsanity_any _).mono ?_); rintro e ws ⟨rfl, hB⟩; have ES : Hid (Ext w ws) := Lib.hid (E0.out.next hB); clear hB)
    go_ret
    exact ⟨rfl, ES.out⟩
namespace fnWireCanonical
theorem params_wireCanonical : (Try.f7.params.toList.all fun t => Try.prog.readableRec t && decide (t < Try.prog.types.size)) = true := by kernel_rfl
theorem contract (H : Type) (enc : TypeId × Value → H) (W : World) (base : Nat) (args : Array Value) (ds gs : List (DataW H)) (before : List MemPlace)
    (hval : ∀ (j : Nat) t v, Try.f7.params[j]? = some t → args[j]? = some v → Value.okWide Try.prog W .any base t v)
    (hW : DataW.Whole enc Try.prog Try.f7.params.toList Rows.wireCanonicalSpec.vars false W args.toList ds gs before) :
    Calls Try.prog 7 args W fun e W' => ∃ v, e = .returned v ∧ Rows.wireCanonicalSpec.post enc Try.prog Try.f7 false true false false W args v W' := by
  have hW' := hW
  obtain ⟨p, q, hA0, _, _, _, _⟩ := hW
  have hA : DataW.TrodAll enc Try.prog W 0 (fun _ => true) true Try.f7.params.toList args.toList ds p := hA0
  rw [Try.params7] at hA hval
  obtain ⟨v0, vs0, d0, ds0, p0, q0, hargs, e0d, e0p, h0, r0⟩ := trodAll_cons hA
  obtain ⟨en1, en2, en3⟩ := trodAll_nil r0
  obtain rfl : args = #[v0] := by cases args; simp_all
  clear hA hA0
  obtain ⟨A, n, c, l, rfl, hR, hwf, hnc, hcm⟩ := open_u8s Try.underlying28 Try.underlying5 cellsu8 (hval 0 _ v0 rfl rfl) h0
  have hc : c ≤ 9223372036854775807 := by unfold maxLen at hcm; omega
  refine (walk_can l A n c W hR (byt_wf hwf) hnc hc).mono fun e W' ⟨he, hg⟩ => ⟨_, he, ?_⟩
  exact post_law hW' laidOut (params_ok params_wireCanonical) 4 rfl Try.underlying4 rfl (fun ds h => by
    rw [Try.params7] at h
    match ds, h with
    | [_], _ => rfl) hg
noncomputable def laidWorld (os : Os) : World := World.holding Try.prog os ⟨#[], #[], []⟩
theorem reads (os : Os) {H : Type} (enc : TypeId × Value → H) : ∃ places, DataW.whole enc Try.prog ((laidWorld os).forCall (fun _ _ => 0) ⟨#[], #[.slice none 0 0], []⟩).memory Try.f7.params.toList Rows.wireCanonicalSpec.vars false (#[.slice none 0 0] : Array Value).toList 8 = some ([.nil], [], places) :=
  ⟨[], by kernel_rfl⟩
set_option maxRecDepth 100000 in
theorem lifted (os : Os) (started : os.Started) (H : Type) (enc : TypeId × Value → H) (F : Stop.Interp) :
    ReturnsInHanded {} Try.checked os 7 .any ((OpenSpec.ofChange Rows.wireCanonicalSpec).preRow enc Try.prog Try.f7 Rows.wireCanonicalRow.domain false Rows.wireCanonicalRow.laid) (((OpenSpec.ofChange Rows.wireCanonicalSpec).at F).post enc Try.prog Try.f7 false true false false) := by
  obtain ⟨places, hx⟩ := reads os enc
  refine returnsInHanded_of_row (C := Try.checked) (s := OpenSpec.ofChange Rows.wireCanonicalSpec) own started (by kernel_rfl) Try.func7
    (witness_row_at (enc := enc) (C := Try.checked) false (laidWorld os) #[.slice none 0 0] rfl (by kernel_rfl) (by kernel_rfl) (by kernel_rfl)
      (OpenSpec.preRow_of_cond 8 hx (by kernel_rfl) (fun k hk => by cases hk) (by kernel_rfl) (laidMet_nil _ _))) ?_
  intro W base args ds gs before hval hW _ _ _ hL _ _
  exact contract H enc W base args ds gs before hval hW
theorem said : Rows.WireCanonicalSaid :=
  OpenClaim.holds_of_cond 7 Try.f7 rfl rfl rfl rfl rfl rfl rfl ⟨rfl, rfl, rfl, rfl, rfl⟩ rfl rfl rfl rfl rfl (by kernel_rfl) Try.func7 (by kernel_rfl)
    (of_decide_eq_true (by kernel_rfl)) (by unfold Func.isWrapper; first | (rw [if_pos (by decide +kernel)]; kernel_rfl) | (rw [if_neg (by decide +kernel)]; exact ⟨rfl, rfl⟩))
    (fun os started H enc _ F => by rw [OpenClaim.pre_eq_preRow]; exact lifted os started H enc F)
end fnWireCanonical
#print axioms fnWireCanonical.said
end Go.Proofs.Ytadepaaemjnfgaa
