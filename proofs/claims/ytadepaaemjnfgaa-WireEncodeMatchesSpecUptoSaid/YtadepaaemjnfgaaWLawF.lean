/- WireEncodeMatchesSpec, where what comes in is of bulk at most 1048576: the law answers true and leaves its arguments as they were. Conditions: that bound, none besides the row's own. -/
import Derived.Test.YtadepaaemjnfgaaRtA
import Derived.Test.YtadepaaemjnfgaaFew
namespace Go.Proofs.Ytadepaaemjnfgaa
open Go.RowKit Go.WideShapes Go.ChangeShapes
theorem encL_str_le (l : List ByteArray) (h : ∀ s ∈ l, s.size ≤ 1048576) : (l.flatMap encB).length ≤ 9 * l.length + lenS l := by
  induction l with
  | nil => simp
  | cons x l ih =>
    have a := ih (fun y hy => h y (List.mem_cons_of_mem _ hy))
    have h1 := h x (List.mem_cons_self ..)
    have b := encInt_le9 (x.size : Int) (by omega) (by omega)
    rw [List.flatMap_cons, List.length_append, List.length_cons, lenS]
    unfold encB at a ⊢
    rw [List.length_append, bys_length]
    omega
theorem encL_int_le2 (l : List Int) (h : ∀ x ∈ l, -9223372036854775808 ≤ x ∧ x ≤ 9223372036854775807) : (l.flatMap encInt).length ≤ 9 * l.length := by
  induction l with
  | nil => simp
  | cons x l ih =>
    have a := ih (fun y hy => h y (List.mem_cons_of_mem _ hy))
    have b := encInt_le9 x (h x (List.mem_cons_self ..)).1 (h x (List.mem_cons_self ..)).2
    rw [List.flatMap_cons, List.length_append, List.length_cons]
    omega
theorem lenS_mem {l : List ByteArray} {s : ByteArray} (h : s ∈ l) : s.size ≤ lenS l := by
  induction l with
  | nil => cases h
  | cons x l ih =>
    rw [lenS]
    rcases List.mem_cons.1 h with rfl | h
    · omega
    · have := ih h; omega
theorem sameU (l m : List Int) (A B : Option Addr) (n c k d : Nat) (w : World) (hl : Rd w w.heap.size A n (u8s l)) (hm : Rd w w.heap.size B k (u8s m)) (hn : n ≤ 9223372036854775807) :
    Calls Try.prog 13 #[.slice A n c, .slice B k d] w fun e w' => e = .returned (.bool (decide (l = m))) ∧ Drew w w' := same_any l m A B n c k d w hl hm hn
set_option maxHeartbeats 16000000 in
set_option maxRecDepth 100000 in
theorem walk_enc (x : Int) (h0 : -9223372036854775808 ≤ x) (h1 : x ≤ 9223372036854775807) (s : ByteArray) (hs : s.size ≤ 1048576)
    (l : List Int) (A : Option Addr) (n c : Nat) (t : List ByteArray) (B : Option Addr) (k d : Nat) (ds : List (List Int)) (C : Option Addr) (q f : Nat) (w : World) (hl : Rd w w.heap.size A n (l.map (Value.int .i64))) (hwf : ∀ x ∈ l, -9223372036854775808 ≤ x ∧ x ≤ 9223372036854775807) (hn : n ≤ 1048576)
    (ht : Rd w w.heap.size B k (t.map Value.string)) (htb : t.length + lenS t ≤ 1048576) (hd : RdN w w.heap.size 16 C q (celD ds)) (hd16 : Dig16 ds) (hdl : ds.length = q) (hq : q ≤ 1048576) :
    Calls Try.prog 3 #[.int .i64 x, .string s, .slice A n c, .slice B k d, .slice C q f] w fun e w' => e = .returned (.bool true) ∧ Below w.heap.size w w' := by
  have hlen : l.length = n := by simpa using hl.1
  have hlent : t.length = k := by simpa using ht.1
  have hts : ∀ s ∈ t, s.size ≤ 1048576 := fun s hs => by have := lenS_mem hs; omega
  have hei9 := encInt_le9 x h0 h1
  have hes9 := encInt_le9 (s.size : Int) (by omega) (by omega)
  have hel9 := encInt_le9 (l.length : Int) (by omega) (by omega)
  have het9 := encInt_le9 (t.length : Int) (by omega) (by omega)
  have hed9 := encInt_le9 (ds.length : Int) (by omega) (by omega)
  have hlf := encL_int_le2 l hwf
  have htf := encL_str_le t hts
  have hdf := encD_le ds hd16
  have hee : (encInt x).length ≤ 9223372036854775807 := by omega
  have hes : (encB s).length ≤ 9223372036854775807 := by unfold encB; rw [List.length_append, bys_length]; omega
  have hcl : (encL encInt l).length ≤ 100000000000 := by unfold encL; rw [List.length_append]; omega
  have hct : (encL encB t).length ≤ 100000000000 := by unfold encL; rw [List.length_append]; omega
  have hcd : (encL idD ds).length ≤ 100000000000 := by unfold encL; rw [List.length_append]; omega
  have HEE := Lib.hid hee; have HES := Lib.hid hes; have HCL := Lib.hid hcl; have HCT := Lib.hid hct; have HCD := Lib.hid hcd
  have HTS : Hid (∀ s ∈ t, s.size ≤ 1000000000000) := Lib.hid (fun s hs => by have := hts s hs; omega)
  have HWF := Lib.hid hwf
  have HD16 := Lib.hid hd16
  have HL := Lib.hid hl
  have HT := Lib.hid ht
  have HD := Lib.hid hd
  have HTB := Lib.hid htb
  have HDL := Lib.hid hdl
  have hs2 : s.size ≤ 1000000000000 := by omega
  have hnn : n ≤ 9223372036854775807 := by omega
  have hkn : k ≤ 9223372036854775807 := by omega
  have hq2 : q ≤ 1000000000 := by omega
  clear hlen hlent hts hei9 hes9 hel9 het9 hed9 hlf htf hdf hee hes hcl hct hcd hwf hl ht hd htb hdl hd16
  go_enter Try.func3, Try.ntmps3
  go_wp2_with (first
    | (go_at_call 11; (with_reducible refine (wfew_any t B k d w HT.out HTB.out).mono ?_); rintro e w1 ⟨rfl, rfl⟩)
    | (go_at_call 12; (with_reducible refine (wsanity_any w).mono ?_); rintro e v0 ⟨rfl, hB⟩; have E0 : Hid (Ext w v0) := Lib.hid hB; clear hB)
    | (go_at_call 14; (with_reducible refine (wintL_any x v0 h0 h1).mono ?_); rintro e aInt ⟨⟨AaInt, caInt, rfl, ho⟩, hB⟩; have RaInt := Lib.hid (Rd.of_own ho); have EaInt : Hid (Ext w aInt) := Lib.hid (E0.out.next hB); clear hB ho)
    | (go_at_call 15; (with_reducible refine (rintL_any x aInt h0 h1).mono ?_); rintro e bInt ⟨⟨AbInt, cbInt, rfl, ho⟩, hB⟩; have RbInt := Lib.hid (Rd.of_own ho); have QaInt := Lib.hid (RaInt.out.ext' hB); have EbInt : Hid (Ext w bInt) := Lib.hid (EaInt.out.next hB); clear hB ho)
    | (go_at_call 13; (with_reducible refine (sameU (encInt x) (encInt x) AaInt AbInt (encInt x).length caInt (encInt x).length cbInt bInt QaInt.out RbInt.out HEE.out).mono ?_); rintro e zInt ⟨rfl, hd⟩; rw [decide_eq_true (rfl : encInt x = encInt x)]; have EzInt : Hid (Ext w zInt) := Lib.hid (EbInt.out.next (hd.below _)); clear hd)
    | (go_at_call 16; (with_reducible refine (wbytes_any s zInt hs2).mono ?_); rintro e aBytes ⟨⟨AaBytes, caBytes, rfl, ho⟩, hB⟩; have RaBytes := Lib.hid (Rd.of_own ho); have EaBytes : Hid (Ext w aBytes) := Lib.hid (EzInt.out.next hB); clear hB ho)
    | (go_at_call 17; (with_reducible refine (rbytes_any s aBytes hs2).mono ?_); rintro e bBytes ⟨⟨AbBytes, cbBytes, rfl, ho⟩, hB⟩; have RbBytes := Lib.hid (Rd.of_own ho); have QaBytes := Lib.hid (RaBytes.out.ext' hB); have EbBytes : Hid (Ext w bBytes) := Lib.hid (EaBytes.out.next hB); clear hB ho)
    | (go_at_call 13; (with_reducible refine (sameU (encB s) (encB s) AaBytes AbBytes (encB s).length caBytes (encB s).length cbBytes bBytes QaBytes.out RbBytes.out HES.out).mono ?_); rintro e zBytes ⟨rfl, hd⟩; rw [decide_eq_true (rfl : encB s = encB s)]; have EzBytes : Hid (Ext w zBytes) := Lib.hid (EbBytes.out.next (hd.below _)); clear hd)
    | (go_at_call 18; (with_reducible refine (ints_any l A n c zBytes (HL.out.ext' EzBytes.out) HWF.out HCL.out hnn).mono ?_); rintro e aInts ⟨⟨AaInts, caInts, rfl, ho⟩, hB⟩; have RaInts := Lib.hid (Rd.of_own ho); have EaInts : Hid (Ext w aInts) := Lib.hid (EzBytes.out.next hB); clear hB ho)
    | (go_at_call 19; (with_reducible refine (rints_any l A n c aInts (HL.out.ext' EaInts.out) HWF.out HCL.out hnn).mono ?_); rintro e bInts ⟨⟨AbInts, cbInts, rfl, ho⟩, hB⟩; have RbInts := Lib.hid (Rd.of_own ho); have QaInts := Lib.hid (RaInts.out.ext' hB); have EbInts : Hid (Ext w bInts) := Lib.hid (EaInts.out.next hB); clear hB ho)
    | (go_at_call 13; (with_reducible refine (sameU (encL encInt l) (encL encInt l) AaInts AbInts (encL encInt l).length caInts (encL encInt l).length cbInts bInts QaInts.out RbInts.out (Nat.le_trans HCL.out (by decide))).mono ?_); rintro e zInts ⟨rfl, hd⟩; rw [decide_eq_true (rfl : encL encInt l = encL encInt l)]; have EzInts : Hid (Ext w zInts) := Lib.hid (EbInts.out.next (hd.below _)); clear hd)
    | (go_at_call 20; (with_reducible refine (strings_any t B k d zInts (HT.out.ext' EzInts.out) HTS.out HCT.out hkn).mono ?_); rintro e aStrings ⟨⟨AaStrings, caStrings, rfl, ho⟩, hB⟩; have RaStrings := Lib.hid (Rd.of_own ho); have EaStrings : Hid (Ext w aStrings) := Lib.hid (EzInts.out.next hB); clear hB ho)
    | (go_at_call 21; (with_reducible refine (rstrings_any t B k d aStrings (HT.out.ext' EaStrings.out) HTS.out HCT.out hkn).mono ?_); rintro e bStrings ⟨⟨AbStrings, cbStrings, rfl, ho⟩, hB⟩; have RbStrings := Lib.hid (Rd.of_own ho); have QaStrings := Lib.hid (RaStrings.out.ext' hB); have EbStrings : Hid (Ext w bStrings) := Lib.hid (EaStrings.out.next hB); clear hB ho)
    | (go_at_call 13; (with_reducible refine (sameU (encL encB t) (encL encB t) AaStrings AbStrings (encL encB t).length caStrings (encL encB t).length cbStrings bStrings QaStrings.out RbStrings.out (Nat.le_trans HCT.out (by decide))).mono ?_); rintro e zStrings ⟨rfl, hd⟩; rw [decide_eq_true (rfl : encL encB t = encL encB t)]; have EzStrings : Hid (Ext w zStrings) := Lib.hid (EbStrings.out.next (hd.below _)); clear hd)
    | (go_at_call 22; (refine (digests_any ds C q f zStrings (HD.out.ext EzStrings.out) HD16.out HDL.out hq2).mono ?_); rintro e aDigests ⟨⟨AaDigests, caDigests, rfl, ho⟩, hB⟩; have RaDigests := Lib.hid (Rd.of_own ho); have EaDigests : Hid (Ext w aDigests) := Lib.hid (EzStrings.out.next hB); clear hB ho)
    | (go_at_call 23; (refine (rdigests_any ds C q f aDigests (HD.out.ext EaDigests.out) HD16.out HDL.out hq2).mono ?_); rintro e bDigests ⟨⟨AbDigests, cbDigests, rfl, ho⟩, hB⟩; have RbDigests := Lib.hid (Rd.of_own ho); have QaDigests := Lib.hid (RaDigests.out.ext' hB); have EbDigests : Hid (Ext w bDigests) := Lib.hid (EaDigests.out.next hB); clear hB ho)
    | (go_at_call 13; (with_reducible refine (sameU (encL idD ds) (encL idD ds) AaDigests AbDigests (encL idD ds).length caDigests (encL idD ds).length cbDigests bDigests QaDigests.out RbDigests.out (Nat.le_trans HCD.out (by decide))).mono ?_); rintro e zDigests ⟨rfl, hd⟩; rw [decide_eq_true (rfl : encL idD ds = encL idD ds)]; have EzDigests : Hid (Ext w zDigests) := Lib.hid (EbDigests.out.next (hd.below _)); clear hd))
  all_goals go_ret
  all_goals exact ⟨rfl, by first | exact EzDigests.out | exact E0.out⟩
theorem cellsdig : Try.prog.cellsOf 57 = 16 := by kernel_rfl
namespace fnWireEncodeMatchesSpec
theorem params_wireEncodeMatchesSpec : (Try.f3.params.toList.all fun t => Try.prog.readableRec t && decide (t < Try.prog.types.size)) = true := by kernel_rfl
theorem contract (H : Type) (enc : TypeId × Value → H) (W : World) (base : Nat) (args : Array Value) (ds gs : List (DataW H)) (before : List MemPlace)
    (hval : ∀ (j : Nat) t v, Try.f3.params[j]? = some t → args[j]? = some v → Value.okWide Try.prog W .any base t v)
    (hW : DataW.Whole enc Try.prog Try.f3.params.toList Rows.wireEncodeMatchesSpecSpec.vars false W args.toList ds gs before) (hk : Rows.uptoSmall H (ds ++ gs) = true) :
    Calls Try.prog 3 args W fun e W' => ∃ v, e = .returned v ∧ Rows.wireEncodeMatchesSpecSpec.post enc Try.prog Try.f3 false true false false W args v W' := by
  have hW' := hW
  obtain ⟨p, q, hA0, _, _, _, _⟩ := hW
  have hA : DataW.TrodAll enc Try.prog W 0 (fun _ => true) true Try.f3.params.toList args.toList ds p := hA0
  rw [Try.params3] at hA hval
  obtain ⟨v0, vs0, d0, ds0, p0, q0, hargs, e0d, e0p, h0, r0⟩ := trodAll_cons hA
  obtain ⟨v1, vs1, d1, ds1, p1, q1, e1, e1d, e1p, h1, r1⟩ := trodAll_cons r0
  obtain ⟨v2, vs2, d2, ds2, p2, q2, e2, e2d, e2p, h2, r2⟩ := trodAll_cons r1
  obtain ⟨v3, vs3, d3, ds3, p3, q3, e3, e3d, e3p, h3, r3⟩ := trodAll_cons r2
  obtain ⟨v4, vs4, d4, ds4, p4, q4, e4, e4d, e4p, h4, r4⟩ := trodAll_cons r3
  obtain ⟨en1, en2, en3⟩ := trodAll_nil r4
  obtain rfl : args = #[v0, v1, v2, v3, v4] := by cases args; simp_all
  clear hA hA0
  have hcond : Rows.uptoBulkAll (ds ++ gs) ≤ 1048576 := by
    have h := of_decide_eq_true hk
    exact h
  rw [e0d, e1d, e2d, e3d, e4d] at hcond
  simp only [List.cons_append, bulk_all] at hcond
  obtain ⟨x, rfl, _, _, hx⟩ := open_int Try.underlying3 (hval 0 _ v0 rfl rfl) h0
  obtain ⟨hx0, hx1⟩ := wf_i64 hx
  obtain ⟨s, rfl, hd1, _, _⟩ := ChangeMaps.open_string Try.underlying9 (hval 1 _ v1 rfl rfl) h1
  have hs1 : s.size + 1 = Rows.uptoBulk d1 := by
    have h3 : s.data.toList.length = s.size := by rw [Array.length_toList]; rfl
    rw [hd1, Rows.uptoBulk, h3]
  have hsh := h2
  obtain ⟨A, n, c, l, rfl, hR, hwf, hnc, hcm⟩ := open_u8s Try.underlying22 Try.underlying3 cellsint (hval 2 _ v2 rfl rfl) h2
  have hn1 : n ≤ Rows.uptoBulk d2 := by
    rcases shape_ints Try.underlying22 Try.underlying3 cellsint hsh with h0n | ⟨elems, spare, hd, hel⟩
    · omega
    · have h5 := bulk_slice elems spare
      have h6 := bulk_len elems
      rw [hd]; omega
  obtain ⟨B, k, d, t, rfl, hRt, htb, _, _⟩ := open_strlD Try.underlying23 Try.underlying9 cellsstr (hval 3 _ v3 rfl rfl) h3
  obtain ⟨C, q, f, dd, rfl, hRd, hd16, hdl, hqb, _, _⟩ := open_digs Try.underlying24 Try.underlying57 Try.underlying5 cellsu8 cellsdig (hval 4 _ v4 rfl rfl) h4
  refine (walk_enc x hx0 hx1 s (by omega) l A n c t B k d dd C q f W hR (fun x hx => wf_i64 (hwf x hx)) (by omega) hRt (by omega) hRd hd16 hdl (by omega)).mono fun e W' ⟨he, hg⟩ => ⟨_, he, ?_⟩
  exact post_law hW' laidOut (params_ok params_wireEncodeMatchesSpec) 4 rfl Try.underlying4 rfl (fun ds h => by
    rw [Try.params3] at h
    match ds, h with
    | [_, _, _, _, _], _ => rfl) hg
noncomputable def laidWorld (os : Os) : World := World.holding Try.prog os ⟨#[], #[], []⟩
theorem reads (os : Os) {H : Type} (enc : TypeId × Value → H) : ∃ places, DataW.whole enc Try.prog ((laidWorld os).forCall (fun _ _ => 0) ⟨#[], #[.int .i64 0, .string ByteArray.empty, .slice none 0 0, .slice none 0 0, .slice none 0 0], []⟩).memory Try.f3.params.toList Rows.wireEncodeMatchesSpecSpec.vars false (#[.int .i64 0, .string ByteArray.empty, .slice none 0 0, .slice none 0 0, .slice none 0 0] : Array Value).toList 8 = some ([.lit (.int .i64 0), .lit (.string []), .nil, .nil, .nil], [], places) :=
  ⟨[], by kernel_rfl⟩
set_option maxRecDepth 100000 in
theorem lifted (os : Os) (started : os.Started) (H : Type) (enc : TypeId × Value → H) (F : Stop.Interp) :
    ReturnsInHanded {} Try.checked os 3 .any ((Rows.OpenSpec.upto Rows.wireEncodeMatchesSpecSpec).preRow enc Try.prog Try.f3 Rows.wireEncodeMatchesSpecUptoRow.domain false Rows.wireEncodeMatchesSpecUptoRow.laid) (((Rows.OpenSpec.upto Rows.wireEncodeMatchesSpecSpec).at F).post enc Try.prog Try.f3 false true false false) := by
  obtain ⟨places, hx⟩ := reads os enc
  refine returnsInHanded_of_row (C := Try.checked) (s := Rows.OpenSpec.upto Rows.wireEncodeMatchesSpecSpec) own started (by kernel_rfl) Try.func3
    (witness_row_at (enc := enc) (C := Try.checked) false (laidWorld os) #[.int .i64 0, .string ByteArray.empty, .slice none 0 0, .slice none 0 0, .slice none 0 0] rfl (by kernel_rfl) (by kernel_rfl) (by kernel_rfl)
      (OpenSpec.preRow_of_cond 8 hx (by kernel_rfl) (fun k hk => by cases hk; kernel_rfl) (by kernel_rfl) (laidMet_nil _ _))) ?_
  intro W base args ds gs before hval hW _ hcond _ hL _ _
  exact contract H enc W base args ds gs before hval hW (hcond _ rfl)
theorem said : Rows.WireEncodeMatchesSpecUptoSaid :=
  OpenClaim.holds_of_cond 3 Try.f3 rfl rfl rfl rfl rfl rfl rfl ⟨rfl, rfl, rfl, rfl, rfl⟩ rfl rfl rfl rfl rfl (by kernel_rfl) Try.func3 (by kernel_rfl)
    (of_decide_eq_true (by kernel_rfl)) (by unfold Func.isWrapper; first | (rw [if_pos (by decide +kernel)]; kernel_rfl) | (rw [if_neg (by decide +kernel)]; exact ⟨rfl, rfl⟩))
    (fun os started H enc _ F => by rw [OpenClaim.pre_eq_preRow]; exact lifted os started H enc F)
end fnWireEncodeMatchesSpec
#print axioms fnWireEncodeMatchesSpec.said
end Go.Proofs.Ytadepaaemjnfgaa
