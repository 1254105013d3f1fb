/- WireListRoundTrip, where what comes in is of bulk at most 1048576: the law answers true and leaves its arguments as they were. Conditions: that bound, none besides the row's own. -/
import Derived.Test.YtadepaaemjnfgaaRtB
namespace Go.Proofs.Ytadepaaemjnfgaa
open Go.RowKit Go.WideShapes Go.ChangeShapes
set_option maxHeartbeats 32000000 in
set_option maxRecDepth 100000 in
theorem walk_lrt (s : ByteArray) (hs : s.size ≤ 1048576)
    (l : List Int) (A : Option Addr) (n c : Nat) (t : List ByteArray) (B : Option Addr) (k d : Nat) (ds : List (List Int)) (C : Option Addr) (q f : Nat) (y : List Int) (D : Option Addr) (m g : Nat) (w : World) (hl : Rd w w.heap.size A n (l.map (Value.int .i64))) (hwf : ∀ x ∈ l, -9223372036854775808 ≤ x ∧ x ≤ 9223372036854775807) (hn : n ≤ 1048576)
    (ht : Rd w w.heap.size B k (t.map Value.string)) (htb : t.length + lenS t ≤ 1048576) (hd : RdN w w.heap.size 16 C q (celD ds)) (hd16 : Dig16 ds) (hdl : ds.length = q) (hq : q ≤ 1048576) (hy : Rd w w.heap.size D m (u8s y)) (hyb : Byt y) (hm : m ≤ 1048576) :
    Calls Try.prog 8 #[.string s, .slice A n c, .slice B k d, .slice C q f, .slice D m g] w fun e w' => e = .returned (.bool true) ∧ Below w.heap.size w w' := by
  have hlen : l.length = n := by simpa using hl.1
  have hlent : t.length = k := by simpa using ht.1
  have hts : ∀ s ∈ t, s.size ≤ 1048576 := fun s hs => by have := lenS_mem hs; omega
  have hes9 := encInt_le9 (s.size : Int) (by omega) (by omega)
  have hel9 := encInt_le9 (l.length : Int) (by omega) (by omega)
  have het9 := encInt_le9 (t.length : Int) (by omega) (by omega)
  have hed9 := encInt_le9 (ds.length : Int) (by omega) (by omega)
  have hlf := encL_int_le2 l hwf
  have htf := encL_str_le t hts
  have hdf := encD_le ds hd16
  have hcs : (encB s).length ≤ 100000000000 := by unfold encB; rw [List.length_append, bys_length]; omega
  have hcl : (encL encInt l).length ≤ 100000000000 := by unfold encL; rw [List.length_append]; omega
  have hct : (encL encB t).length ≤ 100000000000 := by unfold encL; rw [List.length_append]; omega
  have hcd : (encL idD ds).length ≤ 100000000000 := by unfold encL; rw [List.length_append]; omega
  have ps := encB_pos s
  have pl := encL_pos encInt l
  have pd := encL_pos idD ds
  have pt := encL_pos encB t
  have bs : Byt (encB s ++ y) := (encB_byt s (by omega)).app hyb
  have bl : Byt (encL encInt l ++ y) := ((encInt_byt (l.length : Int) (by omega) (by omega)).app (encL_int_byt2 l hwf)).app hyb
  have bd : Byt (encL idD ds ++ y) := ((encInt_byt (ds.length : Int) (by omega) (by omega)).app (encL_dig_byt ds hd16)).app hyb
  have bt : Byt (encL encB t ++ y) := ((encInt_byt (t.length : Int) (by omega) (by omega)).app (encL_str_byt t hts)).app hyb
  have ss := encB_decS s y (by omega)
  have sl := dec_ints l y hwf (by omega)
  have sd := dec_digs ds y hd16 (by omega)
  have st := dec_strs t y hts (by omega)
  obtain ⟨es, hes⟩ : ∃ e, e = encB s := ⟨_, rfl⟩
  obtain ⟨ks, hks⟩ : ∃ k, k = es.length := ⟨_, rfl⟩
  rw [← hes, ← hks] at hcs ps ss
  rw [← hes] at bs
  have HCs : Hid ((encB s).length ≤ 100000000000) := Lib.hid (by rw [← hes, ← hks]; exact hcs)
  have HEs := Lib.hid hes.symm; have HKs := Lib.hid hks.symm
  have BYs := Lib.hid bs; have DEs := Lib.hid ss
  have CTs : Hid (u8s es ++ u8s y = u8s (es ++ y)) := Lib.hid (by simp [u8s])
  obtain ⟨el, hel⟩ : ∃ e, e = encL encInt l := ⟨_, rfl⟩
  obtain ⟨kl, hkl⟩ : ∃ k, k = el.length := ⟨_, rfl⟩
  rw [← hel, ← hkl] at hcl pl sl
  rw [← hel] at bl
  have HCl : Hid ((encL encInt l).length ≤ 100000000000) := Lib.hid (by rw [← hel, ← hkl]; exact hcl)
  have HEl := Lib.hid hel.symm; have HKl := Lib.hid hkl.symm
  have BYl := Lib.hid bl; have DEl := Lib.hid sl
  have CTl : Hid (u8s el ++ u8s y = u8s (el ++ y)) := Lib.hid (by simp [u8s])
  obtain ⟨ed, hed⟩ : ∃ e, e = encL idD ds := ⟨_, rfl⟩
  obtain ⟨kd, hkd⟩ : ∃ k, k = ed.length := ⟨_, rfl⟩
  rw [← hed, ← hkd] at hcd pd sd
  rw [← hed] at bd
  have HCd : Hid ((encL idD ds).length ≤ 100000000000) := Lib.hid (by rw [← hed, ← hkd]; exact hcd)
  have HEd := Lib.hid hed.symm; have HKd := Lib.hid hkd.symm
  have BYd := Lib.hid bd; have DEd := Lib.hid sd
  have CTd : Hid (u8s ed ++ u8s y = u8s (ed ++ y)) := Lib.hid (by simp [u8s])
  obtain ⟨et, het⟩ : ∃ e, e = encL encB t := ⟨_, rfl⟩
  obtain ⟨kt, hkt⟩ : ∃ k, k = et.length := ⟨_, rfl⟩
  rw [← het, ← hkt] at hct pt st
  rw [← het] at bt
  have HCt : Hid ((encL encB t).length ≤ 100000000000) := Lib.hid (by rw [← het, ← hkt]; exact hct)
  have HEt := Lib.hid het.symm; have HKt := Lib.hid hkt.symm
  have BYt := Lib.hid bt; have DEt := Lib.hid st
  have CTt : Hid (u8s et ++ u8s y = u8s (et ++ y)) := Lib.hid (by simp [u8s])
  have HTS : Hid (∀ s ∈ t, s.size ≤ 1000000000000) := Lib.hid (fun s hs => by have := hts s hs; omega)
  have HWF := Lib.hid hwf
  have HD16 := Lib.hid hd16
  have HL := Lib.hid hl
  have HT := Lib.hid ht
  have HD := Lib.hid hd
  have HY := Lib.hid hy
  have HTB := Lib.hid htb
  have HDL := Lib.hid hdl
  have HLN := Lib.hid hlen; have HTN := Lib.hid hlent
  have hs2 : s.size ≤ 1000000000000 := by omega
  have hnn : n ≤ 9223372036854775807 := by omega
  have hkn : k ≤ 9223372036854775807 := by omega
  have hq2 : q ≤ 1000000000 := by omega
  have hln2 : l.length ≤ 9223372036854775807 := by omega
  have htn2 : t.length ≤ 9223372036854775807 := by omega
  have hdn2 : ds.length ≤ 1000000000000 := by omega
  obtain ⟨i0, hi, hz0, hz1, hz2⟩ := info_parts winfo_u8
  clear hes hks bs ss
  clear hel hkl bl sl
  clear hed hkd bd sd
  clear het hkt bt st
  clear hlen hlent hts hes9 hel9 het9 hed9 hlf htf hdf hwf hl ht hd htb hdl hd16 hy hyb
  go_enter Try.func8, Try.ntmps8
  go_wp2_with (first
    | (go_at_call 11; (with_reducible refine (wfew_any t B k d w HT.out HTB.out).mono ?_); rintro e w1 ⟨rfl, rfl⟩)
    | (go_at_call 16; (with_reducible refine (bytesR s w hs2 es ks HEs.out HKs.out ps).mono ?_); rintro e w1 ⟨⟨bs, os, cs, rfl, ⟨hcs1, hms⟩, hR⟩, hB⟩; have E1 : Hid (Ext w w1) := Lib.hid ((Ext.refl w).next hB); have Rs_1 := Lib.hid hR; clear hB hR)
    | (go_at_call 18; (with_reducible refine (intsR l A n c w1 (HL.out.ext' E1.out) HWF.out HCl.out hnn el kl HEl.out HKl.out pl).mono ?_); rintro e w2 ⟨⟨bl, ol, cl, rfl, ⟨hcl1, hml⟩, hR⟩, hB⟩; have E2 : Hid (Ext w w2) := Lib.hid (E1.out.next hB); have Rs_2 := Lib.hid (Rs_1.out.ext' hB); have Rl_2 := Lib.hid hR; clear hB hR)
    | (go_at_call 22; (refine (digestsR ds C q f w2 (HD.out.ext E2.out) HD16.out HDL.out hq2 ed kd HEd.out HKd.out pd).mono ?_); rintro e w3 ⟨⟨bd, od, cd, rfl, ⟨hcd1, hmd⟩, hR⟩, hB⟩; have E3 : Hid (Ext w w3) := Lib.hid (E2.out.next hB); have Rs_3 := Lib.hid (Rs_2.out.ext' hB); have Rl_3 := Lib.hid (Rl_2.out.ext' hB); have Rd_3 := Lib.hid hR; clear hB hR)
    | (go_at_call 20; (with_reducible refine (stringsR t B k d w3 (HT.out.ext' E3.out) HTS.out HCt.out hkn et kt HEt.out HKt.out pt).mono ?_); rintro e w4 ⟨⟨bt, ot, ct, rfl, ⟨hct1, hmt⟩, hR⟩, hB⟩; have E4 : Hid (Ext w w4) := Lib.hid (E3.out.next hB); have Rs_4 := Lib.hid (Rs_3.out.ext' hB); have Rl_4 := Lib.hid (Rl_3.out.ext' hB); have Rd_4 := Lib.hid (Rd_3.out.ext' hB); have Rt_4 := Lib.hid hR; clear hB hR)
    | (at_builtin; refine wpList_app_tight rfl (.tmp 59) (.tmp 60) 28 rfl 5 i0 (.int .u8 0) 1 Try.underlying28 hi hz0 hz1 hz2 rfl bs os ks (u8s es) rfl w4.heap.size Rs_4.out ps w4.heap.size D m g (u8s y) rfl (HY.out.ext' E4.out) (u8_one y) (by simp only [maxLen]; omega) (by omega) ?_; rw [CTs.out]; intro As cs2 w5 hR hcs2 hm2 hB; have E5 : Hid (Ext w w5) := Lib.hid (E4.out.next hB); have Rs_5 := Lib.hid (Rs_4.out.ext' hB); have Rl_5 := Lib.hid (Rl_4.out.ext' hB); have Rd_5 := Lib.hid (Rd_4.out.ext' hB); have Rt_5 := Lib.hid (Rt_4.out.ext' hB); have Qs_5 := Lib.hid hR; have hcms : cs2 ≤ 9223372036854775807 := (by unfold maxLen at hm2; omega); clear hR hB hm2)
    | (go_at_call 26; (with_reducible refine (gbytes_any (es ++ y) As (ks + m) cs2 w5 Qs_5.out BYs.out hcs2 hcms (by omega)).mono ?_); rintro e wx ⟨rfl, rfl⟩; rw [DEs.out]; unfold tupS)
    | (at_builtin; refine wpList_app_tight rfl (.tmp 72) (.tmp 73) 28 rfl 5 i0 (.int .u8 0) 1 Try.underlying28 hi hz0 hz1 hz2 rfl bl ol kl (u8s el) rfl w5.heap.size Rl_5.out pl w5.heap.size D m g (u8s y) rfl (HY.out.ext' E5.out) (u8_one y) (by simp only [maxLen]; omega) (by omega) ?_; rw [CTl.out]; intro Al cl2 w6 hR hcl2 hm2 hB; have E6 : Hid (Ext w w6) := Lib.hid (E5.out.next hB); have Rs_6 := Lib.hid (Rs_5.out.ext' hB); have Rl_6 := Lib.hid (Rl_5.out.ext' hB); have Rd_6 := Lib.hid (Rd_5.out.ext' hB); have Rt_6 := Lib.hid (Rt_5.out.ext' hB); have Ql_6 := Lib.hid hR; have hcml : cl2 ≤ 9223372036854775807 := (by unfold maxLen at hm2; omega); clear hR hB hm2)
    | (go_at_call 28; (with_reducible refine (gintsR (el ++ y) Al (kl + m) cl2 w6 Ql_6.out BYl.out hcl2 hcml (by omega) l kl 0 DEl.out).mono ?_); rintro e w7 ⟨⟨Ai, ci, rfl, _, hR⟩, hB⟩; have E7 : Hid (Ext w w7) := Lib.hid (E6.out.next hB); have Rs_7 := Lib.hid (Rs_6.out.ext' hB); have Rl_7 := Lib.hid (Rl_6.out.ext' hB); have Rd_7 := Lib.hid (Rd_6.out.ext' hB); have Rt_7 := Lib.hid (Rt_6.out.ext' hB); have Ri_7 := Lib.hid hR; clear hB hR)
    | (at_builtin; refine wpList_app_tight rfl (.tmp 85) (.tmp 86) 28 rfl 5 i0 (.int .u8 0) 1 Try.underlying28 hi hz0 hz1 hz2 rfl bd od kd (u8s ed) rfl w7.heap.size Rd_7.out pd w7.heap.size D m g (u8s y) rfl (HY.out.ext' E7.out) (u8_one y) (by simp only [maxLen]; omega) (by omega) ?_; rw [CTd.out]; intro Ad cd2 w8 hR hcd2 hm2 hB; have E8 : Hid (Ext w w8) := Lib.hid (E7.out.next hB); have Rs_8 := Lib.hid (Rs_7.out.ext' hB); have Rl_8 := Lib.hid (Rl_7.out.ext' hB); have Rd_8 := Lib.hid (Rd_7.out.ext' hB); have Rt_8 := Lib.hid (Rt_7.out.ext' hB); have Ri_8 := Lib.hid (Ri_7.out.ext' hB); have Qd_8 := Lib.hid hR; have hcmd : cd2 ≤ 9223372036854775807 := (by unfold maxLen at hm2; omega); clear hR hB hm2)
    | (go_at_call 34; (with_reducible refine (gdigR (ed ++ y) Ad (kd + m) cd2 w8 Qd_8.out BYd.out hcd2 hcmd (by omega) ds kd 0 DEd.out).mono ?_); rintro e w9 ⟨⟨Ag, cg, rfl, _, hR⟩, hB⟩; have E9 : Hid (Ext w w9) := Lib.hid (E8.out.next hB); have Rs_9 := Lib.hid (Rs_8.out.ext' hB); have Rl_9 := Lib.hid (Rl_8.out.ext' hB); have Rd_9 := Lib.hid (Rd_8.out.ext' hB); have Rt_9 := Lib.hid (Rt_8.out.ext' hB); have Ri_9 := Lib.hid (Ri_8.out.ext' hB); have Rg_9 := Lib.hid hR; clear hB hR)
    | (at_builtin; refine wpList_app_tight rfl (.tmp 98) (.tmp 99) 28 rfl 5 i0 (.int .u8 0) 1 Try.underlying28 hi hz0 hz1 hz2 rfl bt ot kt (u8s et) rfl w9.heap.size Rt_9.out pt w9.heap.size D m g (u8s y) rfl (HY.out.ext' E9.out) (u8_one y) (by simp only [maxLen]; omega) (by omega) ?_; rw [CTt.out]; intro At ct2 w10 hR hct2 hm2 hB; have E10 : Hid (Ext w w10) := Lib.hid (E9.out.next hB); have Rs_10 := Lib.hid (Rs_9.out.ext' hB); have Rl_10 := Lib.hid (Rl_9.out.ext' hB); have Rd_10 := Lib.hid (Rd_9.out.ext' hB); have Rt_10 := Lib.hid (Rt_9.out.ext' hB); have Ri_10 := Lib.hid (Ri_9.out.ext' hB); have Rg_10 := Lib.hid (Rg_9.out.ext hB); have Qt_10 := Lib.hid hR; have hcmt : ct2 ≤ 9223372036854775807 := (by unfold maxLen at hm2; omega); clear hR hB hm2)
    | (go_at_call 31; (with_reducible refine (gstringsR (et ++ y) At (kt + m) ct2 w10 Qt_10.out BYt.out hct2 hcmt (by omega) t kt 0 DEt.out).mono ?_); rintro e w11 ⟨⟨Az, cz, rfl, _, hR⟩, hB⟩; have E11 : Hid (Ext w w11) := Lib.hid (E10.out.next hB); have Rs_11 := Lib.hid (Rs_10.out.ext' hB); have Rl_11 := Lib.hid (Rl_10.out.ext' hB); have Rd_11 := Lib.hid (Rd_10.out.ext' hB); have Rt_11 := Lib.hid (Rt_10.out.ext' hB); have Ri_11 := Lib.hid (Ri_10.out.ext' hB); have Rg_11 := Lib.hid (Rg_10.out.ext hB); have Rz_11 := Lib.hid hR; clear hB hR)
    | (go_at_call 12; (with_reducible refine (wsanity_any w11).mono ?_); rintro e w12 ⟨rfl, hB⟩; have E12 : Hid (Ext w w12) := Lib.hid (E11.out.next hB); have Ri_12 := Lib.hid (Ri_11.out.ext' hB); have Rg_12 := Lib.hid (Rg_11.out.ext hB); have Rz_12 := Lib.hid (Rz_11.out.ext' hB); clear hB )
    | (go_at_call 12; (with_reducible refine (wsanity_any _).mono ?_); rintro e ws ⟨rfl, hB⟩; have ES : Hid (Ext w ws) := Lib.hid ((Ext.refl w).next hB); clear hB)
    | (go_at_call 33; (with_reducible refine (sameTexts_any t t Az B t.length cz k d w12 Rz_12.out (HT.out.ext' E12.out) htn2).mono ?_); rintro e w13 ⟨rfl, hd⟩; rw [decide_eq_true (rfl : t = t)]; have hB := hd.below w12.heap.size; have E13 : Hid (Ext w w13) := Lib.hid (E12.out.next hB); have Ri_13 := Lib.hid (Ri_12.out.ext' hB); have Rg_13 := Lib.hid (Rg_12.out.ext hB); have Rz_13 := Lib.hid (Rz_12.out.ext' hB); clear hd hB)
    | (go_at_call 30; (with_reducible refine (sameInts_any l l Ai A l.length ci n c w13 Ri_13.out (HL.out.ext' E13.out) hln2).mono ?_); rintro e w14 ⟨rfl, hd⟩; rw [decide_eq_true (rfl : l = l)]; have hB := hd.below w13.heap.size; have E14 : Hid (Ext w w14) := Lib.hid (E13.out.next hB); have Ri_14 := Lib.hid (Ri_13.out.ext' hB); have Rg_14 := Lib.hid (Rg_13.out.ext hB); have Rz_14 := Lib.hid (Rz_13.out.ext' hB); clear hd hB)
    | (go_at_call 36; (with_reducible refine (sameDigests_any ds ds Ag C ds.length cg q f w14 Rg_14.out (HD.out.ext E14.out) HD16.out HD16.out rfl HDL.out hdn2).mono ?_); rintro e w15 ⟨rfl, hd⟩; rw [decide_eq_true (rfl : ds = ds)]; have hB := hd.below w14.heap.size; have E15 : Hid (Ext w w15) := Lib.hid (E14.out.next hB); have Ri_15 := Lib.hid (Ri_14.out.ext' hB); have Rg_15 := Lib.hid (Rg_14.out.ext hB); have Rz_15 := Lib.hid (Rz_14.out.ext' hB); clear hd hB))
  all_goals go_ret
  all_goals exact ⟨rfl, by first | exact E15.out | exact ES.out⟩
theorem cellsdig : Try.prog.cellsOf 57 = 16 := by kernel_rfl
namespace fnWireListRoundTrip
theorem params_wireListRoundTrip : (Try.f8.params.toList.all fun t => Try.prog.readableRec t && decide (t < Try.prog.types.size)) = true := by kernel_rfl
theorem contract (H : Type) (enc : TypeId × Value → H) (W : World) (base : Nat) (args : Array Value) (ds gs : List (DataW H)) (before : List MemPlace)
    (hval : ∀ (j : Nat) t v, Try.f8.params[j]? = some t → args[j]? = some v → Value.okWide Try.prog W .any base t v)
    (hW : DataW.Whole enc Try.prog Try.f8.params.toList Rows.wireListRoundTripSpec.vars false W args.toList ds gs before) (hk : Rows.uptoSmall H (ds ++ gs) = true) :
    Calls Try.prog 8 args W fun e W' => ∃ v, e = .returned v ∧ Rows.wireListRoundTripSpec.post enc Try.prog Try.f8 false true false false W args v W' := by
  have hW' := hW
  obtain ⟨p, q, hA0, _, _, _, _⟩ := hW
  have hA : DataW.TrodAll enc Try.prog W 0 (fun _ => true) true Try.f8.params.toList args.toList ds p := hA0
  rw [Try.params8] at hA hval
  obtain ⟨v0, vs0, d0, ds0, p0, q0, hargs, e0d, e0p, h0, r0⟩ := trodAll_cons hA
  obtain ⟨v1, vs1, d1, ds1, p1, q1, e1, e1d, e1p, h1, r1⟩ := trodAll_cons r0
  obtain ⟨v2, vs2, d2, ds2, p2, q2, e2, e2d, e2p, h2, r2⟩ := trodAll_cons r1
  obtain ⟨v3, vs3, d3, ds3, p3, q3, e3, e3d, e3p, h3, r3⟩ := trodAll_cons r2
  obtain ⟨v4, vs4, d4, ds4, p4, q4, e4, e4d, e4p, h4, r4⟩ := trodAll_cons r3
  obtain ⟨en1, en2, en3⟩ := trodAll_nil r4
  obtain rfl : args = #[v0, v1, v2, v3, v4] := by cases args; simp_all
  clear hA hA0
  have hcond : Rows.uptoBulkAll (ds ++ gs) ≤ 1048576 := by
    have h := of_decide_eq_true hk
    exact h
  rw [e0d, e1d, e2d, e3d, e4d] at hcond
  simp only [List.cons_append, bulk_all] at hcond
  obtain ⟨s, rfl, hd1, _, _⟩ := ChangeMaps.open_string Try.underlying9 (hval 0 _ v0 rfl rfl) h0
  have hs1 : s.size + 1 = Rows.uptoBulk d0 := by
    have h3 : s.data.toList.length = s.size := by rw [Array.length_toList]; rfl
    rw [hd1, Rows.uptoBulk, h3]
  have hsh := h1
  obtain ⟨A, n, c, l, rfl, hR, hwf, hnc, hcm⟩ := open_u8s Try.underlying22 Try.underlying3 cellsint (hval 1 _ v1 rfl rfl) h1
  have hn1 : n ≤ Rows.uptoBulk d1 := by
    rcases shape_ints Try.underlying22 Try.underlying3 cellsint hsh with h0n | ⟨elems, spare, hd, hel⟩
    · omega
    · have h5 := bulk_slice elems spare
      have h6 := bulk_len elems
      rw [hd]; omega
  obtain ⟨B, k, d, t, rfl, hRt, htb, _, _⟩ := open_strlD Try.underlying23 Try.underlying9 cellsstr (hval 2 _ v2 rfl rfl) h2
  obtain ⟨C, q, f, dd, rfl, hRd, hd16, hdl, hqb, _, _⟩ := open_digs Try.underlying24 Try.underlying57 Try.underlying5 cellsu8 cellsdig (hval 3 _ v3 rfl rfl) h3
  have hsy := h4
  obtain ⟨D, m, g, y, rfl, hRy, hwy, hmc, hcy⟩ := open_u8s Try.underlying28 Try.underlying5 cellsu8 (hval 4 _ v4 rfl rfl) h4
  have hm1 : m ≤ Rows.uptoBulk d4 := by
    rcases shape_ints Try.underlying28 Try.underlying5 cellsu8 hsy with h0n | ⟨elems, spare, hd, hel⟩
    · omega
    · have h5 := bulk_slice elems spare
      have h6 := bulk_len elems
      rw [hd]; omega
  refine (walk_lrt s (by omega) l A n c t B k d dd C q f y D m g W hR (fun x hx => wf_i64 (hwf x hx)) (by omega) hRt (by omega) hRd hd16 hdl (by omega) hRy (byt_wf hwy) (by omega)).mono fun e W' ⟨he, hg⟩ => ⟨_, he, ?_⟩
  exact post_law hW' laidOut (params_ok params_wireListRoundTrip) 4 rfl Try.underlying4 rfl (fun ds h => by
    rw [Try.params8] at h
    match ds, h with
    | [_, _, _, _, _], _ => rfl) hg
noncomputable def laidWorld (os : Os) : World := World.holding Try.prog os ⟨#[], #[], []⟩
theorem reads (os : Os) {H : Type} (enc : TypeId × Value → H) : ∃ places, DataW.whole enc Try.prog ((laidWorld os).forCall (fun _ _ => 0) ⟨#[], #[.string ByteArray.empty, .slice none 0 0, .slice none 0 0, .slice none 0 0, .slice none 0 0], []⟩).memory Try.f8.params.toList Rows.wireListRoundTripSpec.vars false (#[.string ByteArray.empty, .slice none 0 0, .slice none 0 0, .slice none 0 0, .slice none 0 0] : Array Value).toList 8 = some ([.lit (.string []), .nil, .nil, .nil, .nil], [], places) :=
  ⟨[], by kernel_rfl⟩
set_option maxRecDepth 100000 in
theorem lifted (os : Os) (started : os.Started) (H : Type) (enc : TypeId × Value → H) (F : Stop.Interp) :
    ReturnsInHanded {} Try.checked os 8 .any ((Rows.OpenSpec.upto Rows.wireListRoundTripSpec).preRow enc Try.prog Try.f8 Rows.wireListRoundTripUptoRow.domain false Rows.wireListRoundTripUptoRow.laid) (((Rows.OpenSpec.upto Rows.wireListRoundTripSpec).at F).post enc Try.prog Try.f8 false true false false) := by
  obtain ⟨places, hx⟩ := reads os enc
  refine returnsInHanded_of_row (C := Try.checked) (s := Rows.OpenSpec.upto Rows.wireListRoundTripSpec) own started (by kernel_rfl) Try.func8
    (witness_row_at (enc := enc) (C := Try.checked) false (laidWorld os) #[.string ByteArray.empty, .slice none 0 0, .slice none 0 0, .slice none 0 0, .slice none 0 0] rfl (by kernel_rfl) (by kernel_rfl) (by kernel_rfl)
      (OpenSpec.preRow_of_cond 8 hx (by kernel_rfl) (fun k hk => by cases hk; kernel_rfl) (by kernel_rfl) (laidMet_nil _ _))) ?_
  intro W base args ds gs before hval hW _ hcond _ hL _ _
  exact contract H enc W base args ds gs before hval hW (hcond _ rfl)
theorem said : Rows.WireListRoundTripUptoSaid :=
  OpenClaim.holds_of_cond 8 Try.f8 rfl rfl rfl rfl rfl rfl rfl ⟨rfl, rfl, rfl, rfl, rfl⟩ rfl rfl rfl rfl rfl (by kernel_rfl) Try.func8 (by kernel_rfl)
    (of_decide_eq_true (by kernel_rfl)) (by unfold Func.isWrapper; first | (rw [if_pos (by decide +kernel)]; kernel_rfl) | (rw [if_neg (by decide +kernel)]; exact ⟨rfl, rfl⟩))
    (fun os started H enc _ F => by rw [OpenClaim.pre_eq_preRow]; exact lifted os started H enc F)
end fnWireListRoundTrip
#print axioms fnWireListRoundTrip.said
end Go.Proofs.Ytadepaaemjnfgaa
