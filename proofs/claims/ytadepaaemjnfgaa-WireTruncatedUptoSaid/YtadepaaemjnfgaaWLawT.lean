/- WireTruncated, where what comes in is of bulk at most 1048576: the law answers true and leaves its arguments as they were. Conditions: that bound, none besides the row's own. -/
import Derived.Test.YtadepaaemjnfgaaRtB
import Derived.Test.YtadepaaemjnfgaaTruncSpec
namespace Go.Proofs.Ytadepaaemjnfgaa
open Go.RowKit Go.WideShapes Go.ChangeShapes
theorem cut_rd {w : World} {b o k : Nat} {q : List Int} (h : Rd w w.heap.size (some ⟨b, o, none⟩) k (u8s q)) (i : Nat) (hi : i ≤ k) : Rd w w.heap.size (some ⟨b, o, none⟩) i (u8s (q.take i)) := by
  have := h.slice 0 i (by omega)
  simpa [u8s, List.map_take] using this
theorem tr_int (x : Int) (h0 : -9223372036854775808 ≤ x) (h1 : x ≤ 9223372036854775807) (q : List Int) (k : Nat) (hq : encInt x = q) (hk : q.length = k) (b o c i : Nat) (w : World) (hR : Rd w w.heap.size (some ⟨b, o, none⟩) k (u8s q)) (hi : i < k) (hkc : k ≤ c) (hc : c ≤ 9223372036854775807) :
    Calls Try.prog 24 #[.slice (some ⟨b, o, none⟩) i c] w fun e w' => (∃ v0 v1, e = .returned (.tuple #[v0, v1, .int .i64 3])) ∧ Ext w w' := by
  subst hq
  refine (gint_any ((encInt x).take i) _ i c w (cut_rd hR i (by omega)) ((encInt_byt x h0 h1).take i) (by omega) hc).mono ?_
  rintro e w' ⟨rfl, rfl⟩
  have h := getI_trunc x [] i h0 h1 (by omega)
  rw [List.append_nil] at h
  rw [h]
  exact ⟨⟨_, _, rfl⟩, Ext.refl w⟩
theorem tr_bytes (s : ByteArray) (hs : s.size ≤ 1000000000000) (q : List Int) (k : Nat) (hq : encB s = q) (hk : q.length = k) (hk2 : k ≤ 100000000000) (b o c i : Nat) (w : World) (hR : Rd w w.heap.size (some ⟨b, o, none⟩) k (u8s q)) (hi : i < k) (hkc : k ≤ c) (hc : c ≤ 9223372036854775807) :
    Calls Try.prog 26 #[.slice (some ⟨b, o, none⟩) i c] w fun e w' => (∃ v0 v1, e = .returned (.tuple #[v0, v1, .int .i64 3])) ∧ Ext w w' := by
  subst hq
  refine (gbytes_any ((encB s).take i) _ i c w (cut_rd hR i (by omega)) ((encB_byt s hs).take i) (by omega) hc (by omega)).mono ?_
  rintro e w' ⟨rfl, rfl⟩
  have h : decS ((encB s).take i) = (ByteArray.empty, 0, 3) := decS_trunc s i (by omega) (show i < (encB s).length by omega)
  rw [h]
  exact ⟨⟨_, _, rfl⟩, Ext.refl w⟩
theorem tr_ints (l : List Int) (hwf : ∀ x ∈ l, -9223372036854775808 ≤ x ∧ x ≤ 9223372036854775807) (hn : l.length ≤ 9223372036854775807) (q : List Int) (k : Nat) (hq : encL encInt l = q) (hk : q.length = k) (hk2 : k ≤ 100000000000) (b o c i : Nat) (w : World) (hR : Rd w w.heap.size (some ⟨b, o, none⟩) k (u8s q)) (hi : i < k) (hkc : k ≤ c) (hc : c ≤ 9223372036854775807) :
    Calls Try.prog 28 #[.slice (some ⟨b, o, none⟩) i c] w fun e w' => (∃ v0 v1, e = .returned (.tuple #[v0, v1, .int .i64 3])) ∧ Ext w w' := by
  subst hq
  have h : decList getI ((encL encInt l).take i) = ([], 0, 3) := decList_trunc getI encInt l i (fun x hx r => getI_enc x r (hwf x hx).1 (hwf x hx).2) (fun x hx j hj => by
    have h := getI_trunc x [] j (hwf x hx).1 (hwf x hx).2 hj
    rw [List.append_nil] at h
    rw [h]) (by omega) (show i < (encL encInt l).length by omega)
  refine (gintsR ((encL encInt l).take i) _ i c w (cut_rd hR i (by omega)) (((encInt_byt (l.length : Int) (by omega) (by omega)).app (encL_int_byt2 l hwf)).take i) (by omega) hc (by omega) [] 0 3 h).mono ?_
  rintro e w' ⟨⟨A', c', rfl, _, _⟩, hB⟩
  exact ⟨⟨_, _, rfl⟩, hB⟩
theorem tr_strings (l : List ByteArray) (hwf : ∀ s ∈ l, s.size ≤ 1048576) (hn : l.length ≤ 9223372036854775807) (q : List Int) (k : Nat) (hq : encL encB l = q) (hk : q.length = k) (hk2 : k ≤ 100000000000) (b o c i : Nat) (w : World) (hR : Rd w w.heap.size (some ⟨b, o, none⟩) k (u8s q)) (hi : i < k) (hkc : k ≤ c) (hc : c ≤ 9223372036854775807) :
    Calls Try.prog 31 #[.slice (some ⟨b, o, none⟩) i c] w fun e w' => (∃ v0 v1, e = .returned (.tuple #[v0, v1, .int .i64 3])) ∧ Ext w w' := by
  subst hq
  have h : decList decS ((encL encB l).take i) = ([], 0, 3) := decList_trunc decS encB l i (fun x hx r => encB_decS x r (by have := hwf x hx; omega)) (fun x hx j hj => by
    have h : decS ((encB x).take j) = (ByteArray.empty, 0, 3) := decS_trunc x j (by have := hwf x hx; omega) hj
    rw [h]) (by omega) (show i < (encL encB l).length by omega)
  refine (gstringsR ((encL encB l).take i) _ i c w (cut_rd hR i (by omega)) (((encInt_byt (l.length : Int) (by omega) (by omega)).app (encL_str_byt l hwf)).take i) (by omega) hc (by omega) [] 0 3 h).mono ?_
  rintro e w' ⟨⟨A', c', rfl, _, _⟩, hB⟩
  exact ⟨⟨_, _, rfl⟩, hB⟩
theorem tr_digests (l : List (List Int)) (hd : Dig16 l) (hn : l.length ≤ 1000000000) (q : List Int) (k : Nat) (hq : encL idD l = q) (hk : q.length = k) (hk2 : k ≤ 100000000000) (b o c i : Nat) (w : World) (hR : Rd w w.heap.size (some ⟨b, o, none⟩) k (u8s q)) (hi : i < k) (hkc : k ≤ c) (hc : c ≤ 9223372036854775807) :
    Calls Try.prog 34 #[.slice (some ⟨b, o, none⟩) i c] w fun e w' => (∃ v0 v1, e = .returned (.tuple #[v0, v1, .int .i64 3])) ∧ Ext w w' := by
  subst hq
  have h : decD ((encL idD l).take i) = ([], 0, 3) := decD_trunc l i (fun d h => (hd d h).1) (by omega) (show i < (encL idD l).length by omega)
  refine (gdigR ((encL idD l).take i) _ i c w (cut_rd hR i (by omega)) (((encInt_byt (l.length : Int) (by omega) (by omega)).app (encL_dig_byt l hd)).take i) (by omega) hc (by omega) [] 0 3 h).mono ?_
  rintro e w' ⟨⟨A', c', rfl, _, _⟩, hB⟩
  exact ⟨⟨_, _, rfl⟩, hB⟩
set_option maxHeartbeats 32000000 in
set_option maxRecDepth 100000 in
theorem walk_trc (x : Int) (h0 : -9223372036854775808 ≤ x) (h1 : x ≤ 9223372036854775807) (s : ByteArray) (hs : s.size ≤ 1048576)
    (l : List Int) (A : Option Addr) (n c : Nat) (t : List ByteArray) (B : Option Addr) (k d : Nat) (ds : List (List Int)) (C : Option Addr) (q f : Nat) (w : World) (hl : Rd w w.heap.size A n (l.map (Value.int .i64))) (hwf : ∀ x ∈ l, -9223372036854775808 ≤ x ∧ x ≤ 9223372036854775807) (hn : n ≤ 1048576)
    (ht : Rd w w.heap.size B k (t.map Value.string)) (htb : t.length + lenS t ≤ 1048576) (hd : RdN w w.heap.size 16 C q (celD ds)) (hd16 : Dig16 ds) (hdl : ds.length = q) (hq : q ≤ 1048576) :
    Calls Try.prog 9 #[.int .i64 x, .string s, .slice A n c, .slice B k d, .slice C q f] w fun e w' => e = .returned (.bool true) ∧ Below w.heap.size w w' := by
  have hlen : l.length = n := by simpa using hl.1
  have hlent : t.length = k := by simpa using ht.1
  have hts : ∀ s ∈ t, s.size ≤ 1048576 := fun s hs => by have := lenS_mem hs; omega
  have hei9 := encInt_le9 x h0 h1
  have hes9 := encInt_le9 (s.size : Int) (by omega) (by omega)
  have hel9 := encInt_le9 (l.length : Int) (by omega) (by omega)
  have het9 := encInt_le9 (t.length : Int) (by omega) (by omega)
  have hed9 := encInt_le9 (ds.length : Int) (by omega) (by omega)
  have hlf := encL_int_le2 l hwf
  have htf := encL_str_le t hts
  have hdf := encD_le ds hd16
  have hci : (encInt x).length ≤ 100000000000 := by omega
  have hcs : (encB s).length ≤ 100000000000 := by unfold encB; rw [List.length_append, bys_length]; omega
  have hcl : (encL encInt l).length ≤ 100000000000 := by unfold encL; rw [List.length_append]; omega
  have hct : (encL encB t).length ≤ 100000000000 := by unfold encL; rw [List.length_append]; omega
  have hcd : (encL idD ds).length ≤ 100000000000 := by unfold encL; rw [List.length_append]; omega
  have pi := encInt_pos x
  have ps := encB_pos s
  have pl := encL_pos encInt l
  have pd := encL_pos idD ds
  have pt := encL_pos encB t
  obtain ⟨ei, hei⟩ : ∃ e, e = encInt x := ⟨_, rfl⟩
  obtain ⟨ki, hki⟩ : ∃ k, k = ei.length := ⟨_, rfl⟩
  rw [← hei, ← hki] at hci pi
  have HCi : Hid ((encInt x).length ≤ 100000000000) := Lib.hid (by rw [← hei, ← hki]; exact hci)
  have HEi := Lib.hid hei.symm; have HKi := Lib.hid hki.symm
  obtain ⟨es, hes⟩ : ∃ e, e = encB s := ⟨_, rfl⟩
  obtain ⟨ks, hks⟩ : ∃ k, k = es.length := ⟨_, rfl⟩
  rw [← hes, ← hks] at hcs ps
  have HCs : Hid ((encB s).length ≤ 100000000000) := Lib.hid (by rw [← hes, ← hks]; exact hcs)
  have HEs := Lib.hid hes.symm; have HKs := Lib.hid hks.symm
  obtain ⟨el, hel⟩ : ∃ e, e = encL encInt l := ⟨_, rfl⟩
  obtain ⟨kl, hkl⟩ : ∃ k, k = el.length := ⟨_, rfl⟩
  rw [← hel, ← hkl] at hcl pl
  have HCl : Hid ((encL encInt l).length ≤ 100000000000) := Lib.hid (by rw [← hel, ← hkl]; exact hcl)
  have HEl := Lib.hid hel.symm; have HKl := Lib.hid hkl.symm
  obtain ⟨et, het⟩ : ∃ e, e = encL encB t := ⟨_, rfl⟩
  obtain ⟨kt, hkt⟩ : ∃ k, k = et.length := ⟨_, rfl⟩
  rw [← het, ← hkt] at hct pt
  have HCt : Hid ((encL encB t).length ≤ 100000000000) := Lib.hid (by rw [← het, ← hkt]; exact hct)
  have HEt := Lib.hid het.symm; have HKt := Lib.hid hkt.symm
  obtain ⟨ed, hed⟩ : ∃ e, e = encL idD ds := ⟨_, rfl⟩
  obtain ⟨kd, hkd⟩ : ∃ k, k = ed.length := ⟨_, rfl⟩
  rw [← hed, ← hkd] at hcd pd
  have HCd : Hid ((encL idD ds).length ≤ 100000000000) := Lib.hid (by rw [← hed, ← hkd]; exact hcd)
  have HEd := Lib.hid hed.symm; have HKd := Lib.hid hkd.symm
  have HTS : Hid (∀ s ∈ t, s.size ≤ 1000000000000) := Lib.hid (fun s hs => by have := hts s hs; omega)
  have HTS2 := Lib.hid hts
  have HWF := Lib.hid hwf
  have HD16 := Lib.hid hd16
  have HL := Lib.hid hl
  have HT := Lib.hid ht
  have HD := Lib.hid hd
  have HTB := Lib.hid htb
  have HDL := Lib.hid hdl
  have HLN := Lib.hid hlen; have HTN := Lib.hid hlent
  have hs2 : s.size ≤ 1000000000000 := by omega
  have hnn : n ≤ 9223372036854775807 := by omega
  have hkn : k ≤ 9223372036854775807 := by omega
  have hq2 : q ≤ 1000000000 := by omega
  have hln2 : l.length ≤ 9223372036854775807 := by omega
  have htn2 : t.length ≤ 9223372036854775807 := by omega
  have hdn2 : ds.length ≤ 1000000000 := by omega
  clear hei hki
  clear hes hks
  clear hel hkl
  clear het hkt
  clear hed hkd
  clear hlen hlent hts hei9 hes9 hel9 het9 hed9 hlf htf hdf hwf hl ht hd htb hdl hd16
  go_enter Try.func9, Try.ntmps9
  go_wp2_with (first
    | (go_at_call 11; (with_reducible refine (wfew_any t B k d w HT.out HTB.out).mono ?_); rintro e w1 ⟨rfl, rfl⟩)
    | (go_at_call 12; (with_reducible refine (wsanity_any w).mono ?_); rintro e ws ⟨rfl, hB⟩; have ES : Hid (Ext w ws) := Lib.hid hB; clear hB)
    | (go_at_call 14; (with_reducible refine (intR x w h0 h1 ei ki HEi.out HKi.out).mono ?_); rintro e w1 ⟨⟨bi, oi, ci, rfl, ⟨hcci, hm⟩, hR⟩, hB⟩; have hcmi : ci ≤ 9223372036854775807 := (by unfold maxLen at hm; omega); have E1 : Hid (Ext w w1) := Lib.hid ((Ext.refl w).next hB); have Ri_1 := Lib.hid hR; clear hB hR hm)
    | (go_at_call 16; (with_reducible refine (bytesR s w1 hs2 es ks HEs.out HKs.out ps).mono ?_); rintro e w2 ⟨⟨bs, os, cs, rfl, ⟨hccs, hm⟩, hR⟩, hB⟩; have hcms : cs ≤ 9223372036854775807 := (by unfold maxLen at hm; omega); have E2 : Hid (Ext w w2) := Lib.hid (E1.out.next hB); have Ri_2 := Lib.hid (Ri_1.out.ext' hB); have Rs_2 := Lib.hid hR; clear hB hR hm)
    | (go_at_call 18; (with_reducible refine (intsR l A n c w2 (HL.out.ext' E2.out) HWF.out HCl.out hnn el kl HEl.out HKl.out pl).mono ?_); rintro e w3 ⟨⟨bl, ol, cl, rfl, ⟨hccl, hm⟩, hR⟩, hB⟩; have hcml : cl ≤ 9223372036854775807 := (by unfold maxLen at hm; omega); have E3 : Hid (Ext w w3) := Lib.hid (E2.out.next hB); have Ri_3 := Lib.hid (Ri_2.out.ext' hB); have Rs_3 := Lib.hid (Rs_2.out.ext' hB); have Rl_3 := Lib.hid hR; clear hB hR hm)
    | (go_at_call 20; (with_reducible refine (stringsR t B k d w3 (HT.out.ext' E3.out) HTS.out HCt.out hkn et kt HEt.out HKt.out pt).mono ?_); rintro e w4 ⟨⟨bt, ot, ct, rfl, ⟨hcct, hm⟩, hR⟩, hB⟩; have hcmt : ct ≤ 9223372036854775807 := (by unfold maxLen at hm; omega); have E4 : Hid (Ext w w4) := Lib.hid (E3.out.next hB); have Ri_4 := Lib.hid (Ri_3.out.ext' hB); have Rs_4 := Lib.hid (Rs_3.out.ext' hB); have Rl_4 := Lib.hid (Rl_3.out.ext' hB); have Rt_4 := Lib.hid hR; clear hB hR hm)
    | (go_at_call 22; (refine (digestsR ds C q f w4 (HD.out.ext E4.out) HD16.out HDL.out hq2 ed kd HEd.out HKd.out pd).mono ?_); rintro e w5 ⟨⟨bd, od, cd, rfl, ⟨hccd, hm⟩, hR⟩, hB⟩; have hcmd : cd ≤ 9223372036854775807 := (by unfold maxLen at hm; omega); have E5 : Hid (Ext w w5) := Lib.hid (E4.out.next hB); have Ri_5 := Lib.hid (Ri_4.out.ext' hB); have Rs_5 := Lib.hid (Rs_4.out.ext' hB); have Rl_5 := Lib.hid (Rl_4.out.ext' hB); have Rt_5 := Lib.hid (Rt_4.out.ext' hB); have Rd_5 := Lib.hid hR; clear hB hR hm))
  all_goals first
    | (go_ret; exact ⟨rfl, ES.out⟩)
    | skip
  obtain ⟨w6, hw6⟩ : ∃ w6, w6 = w5.alloc (.cells #[.slice (some ⟨bi, oi, none⟩) ki ci, .slice (some ⟨bs, os, none⟩) ks cs, .slice (some ⟨bl, ol, none⟩) kl cl, .slice (some ⟨bt, ot, none⟩) kt ct, .slice (some ⟨bd, od, none⟩) kd cd] 28) := ⟨_, rfl⟩
  rw [← hw6]
  obtain ⟨g, hg⟩ : ∃ g, g = w5.heap.size := ⟨_, rfl⟩
  rw [← hg]
  have HB6 : Hid (Blk w6 g 28 [.slice (some ⟨bi, oi, none⟩) ki ci, .slice (some ⟨bs, os, none⟩) ks cs, .slice (some ⟨bl, ol, none⟩) kl cl, .slice (some ⟨bt, ot, none⟩) kt ct, .slice (some ⟨bd, od, none⟩) kd cd]) := Lib.hid (by rw [hw6, hg]; exact Blk.fresh _ _ _)
  have E6 : Hid (Ext w w6) := Lib.hid (by rw [hw6]; exact E5.out.alloc _)
  have Ri_6 : Hid (Rd w6 w6.heap.size (some ⟨bi, oi, none⟩) ki (u8s ei)) := Lib.hid (by rw [hw6]; exact Ri_5.out.ext' ((Ext.refl w5).alloc _))
  have Rs_6 : Hid (Rd w6 w6.heap.size (some ⟨bs, os, none⟩) ks (u8s es)) := Lib.hid (by rw [hw6]; exact Rs_5.out.ext' ((Ext.refl w5).alloc _))
  have Rl_6 : Hid (Rd w6 w6.heap.size (some ⟨bl, ol, none⟩) kl (u8s el)) := Lib.hid (by rw [hw6]; exact Rl_5.out.ext' ((Ext.refl w5).alloc _))
  have Rt_6 : Hid (Rd w6 w6.heap.size (some ⟨bt, ot, none⟩) kt (u8s et)) := Lib.hid (by rw [hw6]; exact Rt_5.out.ext' ((Ext.refl w5).alloc _))
  have Rd_6 : Hid (Rd w6 w6.heap.size (some ⟨bd, od, none⟩) kd (u8s ed)) := Lib.hid (by rw [hw6]; exact Rd_5.out.ext' ((Ext.refl w5).alloc _))
  clear hw6 hg
  go_loopw [49] (fun i wr => ∃ t : Nat, t ≤ 5 ∧ i = .int .i64 t ∧ Ext w6 wr) (fun i _ => 5 - (intOf i).toNat)
  case atStart => exact ⟨0, by omega, rfl, Ext.refl w6⟩
  case round =>
    obtain ⟨j, hj, rfl, hE⟩ := hrel
    have HE6 := Lib.hid hE
    rcases (show j = 0 ∨ j = 1 ∨ j = 2 ∨ j = 3 ∨ j = 4 ∨ j = 5 by omega) with rfl | rfl | rfl | rfl | rfl | rfl
    · have c0 := (HB6.out.ext HE6.out).cell 0
      simp only [List.getElem?_cons_zero, List.getElem?_cons_succ] at c0
      obtain ⟨wo, rfl⟩ : ∃ x : World, x = wr := ⟨_, rfl⟩
      go_wp2_with fail
      all_goals (
        go_loopw [57] (fun i wr => ∃ m : Nat, m ≤ ki ∧ i = .int .i64 m ∧ Ext w6 wr) (fun i _ => ki - (intOf i).toNat)
        case atStart => exact ⟨0, by omega, rfl, HE6.out⟩
        case round =>
          obtain ⟨m, hm, rfl, hEm⟩ := hrel
          have HEm := Lib.hid hEm
          obtain ⟨wm, rfl⟩ : ∃ x : World, x = wr := ⟨_, rfl⟩
          have RX := Lib.hid (Ri_6.out.ext' HEm.out)
          go_wp2_with (go_at_call 24; have hmk : m < ki := (by omega); (with_reducible refine (tr_int x h0 h1 ei ki HEi.out HKi.out bi oi ci m wm RX.out hmk hcci hcmi).mono ?_); rintro e wn ⟨⟨v0, v1, rfl⟩, hB⟩; have HEn : Hid (Ext w6 wn) := Lib.hid (HEm.out.next hB); clear hB)
          all_goals first
            | exact ⟨⟨m + 1, by omega, by go_num, HEn.out⟩, by simp [intOf]; omega⟩
            | exact ⟨⟨1, by omega, rfl, HEm.out⟩, by simp [intOf]⟩)
    · have c0 := (HB6.out.ext HE6.out).cell 1
      simp only [List.getElem?_cons_zero, List.getElem?_cons_succ] at c0
      obtain ⟨wo, rfl⟩ : ∃ x : World, x = wr := ⟨_, rfl⟩
      go_wp2_with fail
      all_goals (
        go_loopw [57] (fun i wr => ∃ m : Nat, m ≤ ks ∧ i = .int .i64 m ∧ Ext w6 wr) (fun i _ => ks - (intOf i).toNat)
        case atStart => exact ⟨0, by omega, rfl, HE6.out⟩
        case round =>
          obtain ⟨m, hm, rfl, hEm⟩ := hrel
          have HEm := Lib.hid hEm
          obtain ⟨wm, rfl⟩ : ∃ x : World, x = wr := ⟨_, rfl⟩
          have RX := Lib.hid (Rs_6.out.ext' HEm.out)
          go_wp2_with (go_at_call 26; have hmk : m < ks := (by omega); (with_reducible refine (tr_bytes s hs2 es ks HEs.out HKs.out hcs bs os cs m wm RX.out hmk hccs hcms).mono ?_); rintro e wn ⟨⟨v0, v1, rfl⟩, hB⟩; have HEn : Hid (Ext w6 wn) := Lib.hid (HEm.out.next hB); clear hB)
          all_goals first
            | exact ⟨⟨m + 1, by omega, by go_num, HEn.out⟩, by simp [intOf]; omega⟩
            | exact ⟨⟨2, by omega, rfl, HEm.out⟩, by simp [intOf]⟩)
    · have c0 := (HB6.out.ext HE6.out).cell 2
      simp only [List.getElem?_cons_zero, List.getElem?_cons_succ] at c0
      obtain ⟨wo, rfl⟩ : ∃ x : World, x = wr := ⟨_, rfl⟩
      go_wp2_with fail
      all_goals (
        go_loopw [57] (fun i wr => ∃ m : Nat, m ≤ kl ∧ i = .int .i64 m ∧ Ext w6 wr) (fun i _ => kl - (intOf i).toNat)
        case atStart => exact ⟨0, by omega, rfl, HE6.out⟩
        case round =>
          obtain ⟨m, hm, rfl, hEm⟩ := hrel
          have HEm := Lib.hid hEm
          obtain ⟨wm, rfl⟩ : ∃ x : World, x = wr := ⟨_, rfl⟩
          have RX := Lib.hid (Rl_6.out.ext' HEm.out)
          go_wp2_with (go_at_call 28; have hmk : m < kl := (by omega); (with_reducible refine (tr_ints l HWF.out hln2 el kl HEl.out HKl.out hcl bl ol cl m wm RX.out hmk hccl hcml).mono ?_); rintro e wn ⟨⟨v0, v1, rfl⟩, hB⟩; have HEn : Hid (Ext w6 wn) := Lib.hid (HEm.out.next hB); clear hB)
          all_goals first
            | exact ⟨⟨m + 1, by omega, by go_num, HEn.out⟩, by simp [intOf]; omega⟩
            | exact ⟨⟨3, by omega, rfl, HEm.out⟩, by simp [intOf]⟩)
    · have c0 := (HB6.out.ext HE6.out).cell 3
      simp only [List.getElem?_cons_zero, List.getElem?_cons_succ] at c0
      obtain ⟨wo, rfl⟩ : ∃ x : World, x = wr := ⟨_, rfl⟩
      go_wp2_with fail
      all_goals (
        go_loopw [57] (fun i wr => ∃ m : Nat, m ≤ kt ∧ i = .int .i64 m ∧ Ext w6 wr) (fun i _ => kt - (intOf i).toNat)
        case atStart => exact ⟨0, by omega, rfl, HE6.out⟩
        case round =>
          obtain ⟨m, hm, rfl, hEm⟩ := hrel
          have HEm := Lib.hid hEm
          obtain ⟨wm, rfl⟩ : ∃ x : World, x = wr := ⟨_, rfl⟩
          have RX := Lib.hid (Rt_6.out.ext' HEm.out)
          go_wp2_with (go_at_call 31; have hmk : m < kt := (by omega); (with_reducible refine (tr_strings t HTS2.out htn2 et kt HEt.out HKt.out hct bt ot ct m wm RX.out hmk hcct hcmt).mono ?_); rintro e wn ⟨⟨v0, v1, rfl⟩, hB⟩; have HEn : Hid (Ext w6 wn) := Lib.hid (HEm.out.next hB); clear hB)
          all_goals first
            | exact ⟨⟨m + 1, by omega, by go_num, HEn.out⟩, by simp [intOf]; omega⟩
            | exact ⟨⟨4, by omega, rfl, HEm.out⟩, by simp [intOf]⟩)
    · have c0 := (HB6.out.ext HE6.out).cell 4
      simp only [List.getElem?_cons_zero, List.getElem?_cons_succ] at c0
      obtain ⟨wo, rfl⟩ : ∃ x : World, x = wr := ⟨_, rfl⟩
      go_wp2_with fail
      all_goals (
        go_loopw [57] (fun i wr => ∃ m : Nat, m ≤ kd ∧ i = .int .i64 m ∧ Ext w6 wr) (fun i _ => kd - (intOf i).toNat)
        case atStart => exact ⟨0, by omega, rfl, HE6.out⟩
        case round =>
          obtain ⟨m, hm, rfl, hEm⟩ := hrel
          have HEm := Lib.hid hEm
          obtain ⟨wm, rfl⟩ : ∃ x : World, x = wr := ⟨_, rfl⟩
          have RX := Lib.hid (Rd_6.out.ext' HEm.out)
          go_wp2_with (go_at_call 34; have hmk : m < kd := (by omega); (with_reducible refine (tr_digests ds HD16.out hdn2 ed kd HEd.out HKd.out hcd bd od cd m wm RX.out hmk hccd hcmd).mono ?_); rintro e wn ⟨⟨v0, v1, rfl⟩, hB⟩; have HEn : Hid (Ext w6 wn) := Lib.hid (HEm.out.next hB); clear hB)
          all_goals first
            | exact ⟨⟨m + 1, by omega, by go_num, HEn.out⟩, by simp [intOf]; omega⟩
            | exact ⟨⟨5, by omega, rfl, HEm.out⟩, by simp [intOf]⟩)
    · go_wp2_with (go_at_call 12; (with_reducible refine (wsanity_any _).mono ?_); rintro e ws ⟨rfl, hB⟩; have ES : Hid (Ext w ws) := Lib.hid ((E6.out.next HE6.out).next hB); clear hB)
      go_ret
      exact ⟨rfl, ES.out⟩
theorem cellsdig : Try.prog.cellsOf 57 = 16 := by kernel_rfl
namespace fnWireTruncated
theorem params_wireTruncated : (Try.f9.params.toList.all fun t => Try.prog.readableRec t && decide (t < Try.prog.types.size)) = true := by kernel_rfl
theorem contract (H : Type) (enc : TypeId × Value → H) (W : World) (base : Nat) (args : Array Value) (ds gs : List (DataW H)) (before : List MemPlace)
    (hval : ∀ (j : Nat) t v, Try.f9.params[j]? = some t → args[j]? = some v → Value.okWide Try.prog W .any base t v)
    (hW : DataW.Whole enc Try.prog Try.f9.params.toList Rows.wireTruncatedSpec.vars false W args.toList ds gs before) (hk : Rows.uptoSmall H (ds ++ gs) = true) :
    Calls Try.prog 9 args W fun e W' => ∃ v, e = .returned v ∧ Rows.wireTruncatedSpec.post enc Try.prog Try.f9 false true false false W args v W' := by
  have hW' := hW
  obtain ⟨p, q, hA0, _, _, _, _⟩ := hW
  have hA : DataW.TrodAll enc Try.prog W 0 (fun _ => true) true Try.f9.params.toList args.toList ds p := hA0
  rw [Try.params9] at hA hval
  obtain ⟨v0, vs0, d0, ds0, p0, q0, hargs, e0d, e0p, h0, r0⟩ := trodAll_cons hA
  obtain ⟨v1, vs1, d1, ds1, p1, q1, e1, e1d, e1p, h1, r1⟩ := trodAll_cons r0
  obtain ⟨v2, vs2, d2, ds2, p2, q2, e2, e2d, e2p, h2, r2⟩ := trodAll_cons r1
  obtain ⟨v3, vs3, d3, ds3, p3, q3, e3, e3d, e3p, h3, r3⟩ := trodAll_cons r2
  obtain ⟨v4, vs4, d4, ds4, p4, q4, e4, e4d, e4p, h4, r4⟩ := trodAll_cons r3
  obtain ⟨en1, en2, en3⟩ := trodAll_nil r4
  obtain rfl : args = #[v0, v1, v2, v3, v4] := by cases args; simp_all
  clear hA hA0
  have hcond : Rows.uptoBulkAll (ds ++ gs) ≤ 1048576 := by
    have h := of_decide_eq_true hk
    exact h
  rw [e0d, e1d, e2d, e3d, e4d] at hcond
  simp only [List.cons_append, bulk_all] at hcond
  obtain ⟨x, rfl, _, _, hx⟩ := open_int Try.underlying3 (hval 0 _ v0 rfl rfl) h0
  obtain ⟨hx0, hx1⟩ := wf_i64 hx
  obtain ⟨s, rfl, hd1, _, _⟩ := ChangeMaps.open_string Try.underlying9 (hval 1 _ v1 rfl rfl) h1
  have hs1 : s.size + 1 = Rows.uptoBulk d1 := by
    have h3 : s.data.toList.length = s.size := by rw [Array.length_toList]; rfl
    rw [hd1, Rows.uptoBulk, h3]
  have hsh := h2
  obtain ⟨A, n, c, l, rfl, hR, hwf, hnc, hcm⟩ := open_u8s Try.underlying22 Try.underlying3 cellsint (hval 2 _ v2 rfl rfl) h2
  have hn1 : n ≤ Rows.uptoBulk d2 := by
    rcases shape_ints Try.underlying22 Try.underlying3 cellsint hsh with h0n | ⟨elems, spare, hd, hel⟩
    · omega
    · have h5 := bulk_slice elems spare
      have h6 := bulk_len elems
      rw [hd]; omega
  obtain ⟨B, k, d, t, rfl, hRt, htb, _, _⟩ := open_strlD Try.underlying23 Try.underlying9 cellsstr (hval 3 _ v3 rfl rfl) h3
  obtain ⟨C, q, f, dd, rfl, hRd, hd16, hdl, hqb, _, _⟩ := open_digs Try.underlying24 Try.underlying57 Try.underlying5 cellsu8 cellsdig (hval 4 _ v4 rfl rfl) h4
  refine (walk_trc x hx0 hx1 s (by omega) l A n c t B k d dd C q f W hR (fun x hx => wf_i64 (hwf x hx)) (by omega) hRt (by omega) hRd hd16 hdl (by omega)).mono fun e W' ⟨he, hg⟩ => ⟨_, he, ?_⟩
  exact post_law hW' laidOut (params_ok params_wireTruncated) 4 rfl Try.underlying4 rfl (fun ds h => by
    rw [Try.params9] at h
    match ds, h with
    | [_, _, _, _, _], _ => rfl) hg
noncomputable def laidWorld (os : Os) : World := World.holding Try.prog os ⟨#[], #[], []⟩
theorem reads (os : Os) {H : Type} (enc : TypeId × Value → H) : ∃ places, DataW.whole enc Try.prog ((laidWorld os).forCall (fun _ _ => 0) ⟨#[], #[.int .i64 0, .string ByteArray.empty, .slice none 0 0, .slice none 0 0, .slice none 0 0], []⟩).memory Try.f9.params.toList Rows.wireTruncatedSpec.vars false (#[.int .i64 0, .string ByteArray.empty, .slice none 0 0, .slice none 0 0, .slice none 0 0] : Array Value).toList 8 = some ([.lit (.int .i64 0), .lit (.string []), .nil, .nil, .nil], [], places) :=
  ⟨[], by kernel_rfl⟩
set_option maxRecDepth 100000 in
theorem lifted (os : Os) (started : os.Started) (H : Type) (enc : TypeId × Value → H) (F : Stop.Interp) :
    ReturnsInHanded {} Try.checked os 9 .any ((Rows.OpenSpec.upto Rows.wireTruncatedSpec).preRow enc Try.prog Try.f9 Rows.wireTruncatedUptoRow.domain false Rows.wireTruncatedUptoRow.laid) (((Rows.OpenSpec.upto Rows.wireTruncatedSpec).at F).post enc Try.prog Try.f9 false true false false) := by
  obtain ⟨places, hx⟩ := reads os enc
  refine returnsInHanded_of_row (C := Try.checked) (s := Rows.OpenSpec.upto Rows.wireTruncatedSpec) own started (by kernel_rfl) Try.func9
    (witness_row_at (enc := enc) (C := Try.checked) false (laidWorld os) #[.int .i64 0, .string ByteArray.empty, .slice none 0 0, .slice none 0 0, .slice none 0 0] rfl (by kernel_rfl) (by kernel_rfl) (by kernel_rfl)
      (OpenSpec.preRow_of_cond 8 hx (by kernel_rfl) (fun k hk => by cases hk; kernel_rfl) (by kernel_rfl) (laidMet_nil _ _))) ?_
  intro W base args ds gs before hval hW _ hcond _ hL _ _
  exact contract H enc W base args ds gs before hval hW (hcond _ rfl)
theorem said : Rows.WireTruncatedUptoSaid :=
  OpenClaim.holds_of_cond 9 Try.f9 rfl rfl rfl rfl rfl rfl rfl ⟨rfl, rfl, rfl, rfl, rfl⟩ rfl rfl rfl rfl rfl (by kernel_rfl) Try.func9 (by kernel_rfl)
    (of_decide_eq_true (by kernel_rfl)) (by unfold Func.isWrapper; first | (rw [if_pos (by decide +kernel)]; kernel_rfl) | (rw [if_neg (by decide +kernel)]; exact ⟨rfl, rfl⟩))
    (fun os started H enc _ F => by rw [OpenClaim.pre_eq_preRow]; exact lifted os started H enc F)
end fnWireTruncated
#print axioms fnWireTruncated.said
end Go.Proofs.Ytadepaaemjnfgaa
