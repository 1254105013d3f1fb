/- LinkOrder: for all windows, keys and lists of numbers the law answers true. Conditions: none beyond the row's own. -/
import Derived.Test.YtkgmoklifkojhaaLkOrdW
import Derived.Test.YtkgmoklifkojhaaFlowV
import Derived.Deep.DeepCutAuto
import Derived.Deep.CutBlock
set_option linter.unusedSimpArgs false
set_option linter.unusedVariables false
namespace Go.Proofs.Ytkgmoklifkojhaa
open Go.RowKit Go.WideShapes Go.ChangeShapes
theorem int_bytes : (Try.prog.info? 3).map (fun i => (i.zero, i.size, i.bytes)) = some (some (.int .i64 0), 1, 8) := by kernel_rfl
theorem tdiv8 {x : Int} (h : in64 x) : in64 (x.tdiv 8) := by
  obtain ⟨h1, h2⟩ := h
  unfold in64
  rcases Int.le_total 0 x with h | h
  · rw [Int.tdiv_eq_ediv_of_nonneg h]; omega
  · have e : x.tdiv 8 = -((-x).tdiv 8) := by rw [Int.neg_tdiv]; omega
    rw [e, Int.tdiv_eq_ediv_of_nonneg (by omega)]; omega
theorem cell_new0 (w : World) (v : Value) (t : TypeId) : (w.alloc (.cells #[v] t)).cell? ((⟨w.heap.size, 0, none⟩ : Addr).add 0) = some v := by
  rw [add_at]
  exact (Blk.fresh w t [v]).cell 0
theorem ord_rel {w0 : World} {P : Nat → Nat} {ge gs gg : Nat} {win : Nat → Int} {key : Int} {m : Nat} {a b c d : Value} {w : World} (h1 : a = c) (h2 : b = d) (h : OrdSt w0 P ge gs gg win key m a b w) : OrdSt w0 P ge gs gg win key m c d w := by
  rw [← h1, ← h2]; exact h
/-- The cell that the law writes after a Send. -/
theorem set_ready {w0 w : World} {P : Nat → Nat} {E : Nat → EndS} {J : LawI} {gs gg : Nat} {d : Nat → Nat} {tos : List Nat} {V : Nat → Value} {X : Nat → List Value} {k : Nat} {v : Value} {xs : List Value} (S : LawSt w0 P E (WF J 6 ordT (updE V (2 + k) v) (updE X (2 + k) xs)) w) (M : OrdM gs gg d tos V X) (hk : k < 2) :
    w.cell? ⟨gs, k, none⟩ = some (V (2 + k)) ∧ w.frozen? ⟨gs, k, none⟩ = false := by
  obtain ⟨L0, M0, hI, _, _⟩ := S.get
  have h := (fam_cells hI.2 (i := 0) (by decide) (by rw [updE_ne _ _ (by omega)]; exact M.v0)).2.2 k hk
  rw [updE_ne _ _ (by omega), M.at0 hk] at h
  exact h
set_option maxHeartbeats 16000000 in
set_option maxRecDepth 100000 in
theorem walk_order (window key : Int) (l : List Int) (A : Option Addr) (n c : Nat) (w : World) (hwi : in64 window) (k0 : 0 ≤ key) (k1 : key ≤ 18446744073709551615) (hl : Rd w w.heap.size A n (l.map (Value.int .i64))) (hwf : ∀ x ∈ l, in64 x) (hnc : n ≤ c) (hc : c ≤ 9223372036854775807) :
    Calls Try.prog 5 #[.int .i64 window, .int .u64 key, .slice A n c] w fun e w' => e = .returned (.bool true) ∧ Below w.heap.size w w' := by
  obtain ⟨i0, hi, hz0, hz1, hz2⟩ := info_parts u8_bytes
  obtain ⟨j0, hj, hy0, hy1, hy2⟩ := info_parts int_bytes
  have HW := Lib.hid hwi; have HL := Lib.hid hl; have HWF := Lib.hid hwf
  have hln : l.length = n := by simpa using hl.1
  have HLN := Lib.hid hln
  obtain ⟨N, hN⟩ : ∃ N, N = min n 80 := ⟨_, rfl⟩
  have hN1 : N ≤ n := by omega
  have hN2 : N ≤ 80 := by omega
  have hN3 : n ≤ N ∨ 80 ≤ N := by omega
  clear hwi hl hwf hln hN
  have hnil := fun (w : World) (a : Addr) => Lib.run_eql_slice_nil w _ _ (some a) 2 2 0 0 Try.underlying24
  go_enter Try.func5, Try.ntmps5
  go_upto_region 2 with (go_loud (go_at_call 9; (with_reducible refine (ends_any window key w HW.out k0 k1).mono ?_); rintro e w1 ⟨ge, P, rfl, hS⟩; have S1 := Lib.hid hS; clear hS))
  go_upto_region 5 with fail
  change Code.wp _ _ _ _ (w1.alloc (.cells #[.slice none 0 0, .slice none 0 0] 28))
  obtain ⟨w4, hw4⟩ : ∃ x, x = w1.alloc (.cells #[.slice none 0 0, .slice none 0 0] 28) := ⟨_, rfl⟩
  rw [← hw4]
  obtain ⟨gs, hgs⟩ : ∃ g, g = w1.heap.size := ⟨_, rfl⟩
  rw [← hgs]
  have B4 : Hid (Blk w4 gs 28 [.slice none 0 0, .slice none 0 0]) := Lib.hid (by rw [hw4, hgs]; exact Blk.fresh _ _ _)
  have E4 : Hid (Ext w1 w4) := Lib.hid (by rw [hw4]; exact (Ext.refl w1).alloc _)
  have HG4 : Hid (w1.heap.size ≤ gs) := Lib.hid (Nat.le_of_eq hgs.symm)
  clear hw4 hgs
  go_upto_region 6 with fail
  change Code.wp _ _ _ _ (w4.alloc (.cells #[.int .i64 0, .int .i64 0] 3))
  obtain ⟨w6, hw6⟩ : ∃ x, x = w4.alloc (.cells #[.int .i64 0, .int .i64 0] 3) := ⟨_, rfl⟩
  rw [← hw6]
  obtain ⟨gg, hgg⟩ : ∃ g, g = w4.heap.size := ⟨_, rfl⟩
  rw [← hgg]
  have B6 : Hid (Blk w6 gg 3 [.int .i64 0, .int .i64 0]) := Lib.hid (by rw [hw6, hgg]; exact Blk.fresh _ _ _)
  have E6 : Hid (Ext w4 w6) := Lib.hid (by rw [hw6]; exact (Ext.refl w4).alloc _)
  have HG6 : Hid (w4.heap.size ≤ gg) := Lib.hid (Nat.le_of_eq hgg.symm)
  clear hw6 hgg
  have S6 : Hid (OrdSt w P ge gs gg (winE window) key 0 (.slice none 0 0) (.slice none 0 0) w6) := Lib.hid (ord_start S1.out E4.out HG4.out B4.out E6.out HG6.out B6.out)
  clear S1 E4 HG4 B4 E6 HG6 B6
  go_wp2_with fail
  go_loopw [10, 11, 12] (fun s10 s11 i wr => ∃ m : Nat, m ≤ N ∧ i = .int .i64 m ∧ OrdSt w P ge gs gg (winE window) key m s10 s11 wr) (fun _ _ i _ => N - (intOf i).toNat)
  case atStart => exact ⟨0, by omega, rfl, S6.out⟩
  case round =>
    clear S6
    obtain ⟨m, hm, rfl, hO⟩ := hrel
    have HO := Lib.hid hO
    clear hO
    obtain ⟨wo, rfl⟩ : ∃ x : World, x = wr := ⟨_, rfl⟩
    by_cases hlt : m < N
    · have hmn : m < n := by omega
      have hm80 : m < 80 := by omega
      obtain ⟨E, S, a, d, pk, tos, V, X, h10, h11, R, M, hS⟩ := HO.out
      obtain ⟨L0, M0, hI0, _, _⟩ := hS.get
      obtain ⟨pA, pc, hV4, hpc1, hpc2⟩ := fam_form hI0.2 (i := 4) (by decide)
      obtain ⟨tA, tc, hV5, htc1, htc2⟩ := fam_form hI0.2 (i := 5) (by decide)
      obtain ⟨np, hnp⟩ : ∃ x, x = pk.length := ⟨_, rfl⟩
      have hX4 : (X 4).length = np := by rw [hI0.1.2.2.1, hnp]
      have hX5 : (X 5).length = np := by rw [M.x5, List.length_map, R.tl, hnp]
      rw [hX4] at hV4 hpc1
      rw [hX5] at hV5 htc1
      have hnp2 : np ≤ 1280 := by have := R.pn; omega
      have h12 := h10.trans hV4
      have h13 := h11.trans hV5
      clear h10 h11
      subst h12
      subst h13
      have HX4 := Lib.hid hX4; have HX5 := Lib.hid hX5; have HV4 := Lib.hid hV4; have HV5 := Lib.hid hV5; have HNP := Lib.hid hnp
      have HR := Lib.hid R; have HM := Lib.hid M; have HS := Lib.hid hS
      clear R M hS hI0 hX4 hX5 hV4 hV5 hnp HO
      obtain ⟨b, ob, ux, hA, hbl, hux, hcx⟩ := HL.out.at_ hmn
      subst hA
      obtain ⟨x, hx⟩ : ∃ x, x = l.getD m 0 := ⟨_, rfl⟩
      have hxm : ux = .int .i64 x := by
        rw [List.getElem?_map, List.getElem?_eq_getElem (by rw [HLN.out]; exact hmn)] at hux
        simp only [Option.map_some, Option.some.injEq] at hux
        rw [← hux, hx, List.getD_eq_getElem?_getD, List.getElem?_eq_getElem (by rw [HLN.out]; exact hmn)]; rfl
      have hx64 : in64 x := by
        rw [hx, List.getD_eq_getElem?_getD, List.getElem?_eq_getElem (by rw [HLN.out]; exact hmn)]
        exact HWF.out _ (List.getElem_mem _)
      rw [hxm] at hcx
      have hcx2 : wo.cell? ⟨b, ob + m, none⟩ = some (.int .i64 x) := (HS.out.e.cell (p := ⟨b, ob + m, none⟩) hbl).trans hcx
      have HX64 := Lib.hid hx64; have HX8 : Hid (in64 (x.tdiv 8)) := Lib.hid (tdiv8 hx64)
      clear hcx hxm hux hx hx64
      obtain ⟨nn, hnn, hnnb⟩ := around_nat (x.tdiv 8) 1073741824 (by decide)
      obtain ⟨cc, hcc, hccb⟩ := around_nat x 8 (by decide)
      have HNN : Hid ((nn : Int) = aroundI (x.tdiv 8) 1073741824) := Lib.hid hnn
      have HCC : Hid ((cc : Int) = aroundI x 8) := Lib.hid hcc
      clear hnn hcc
      obtain ⟨k, hkm, hk2⟩ : ∃ k : Nat, (nn : Int) % 2 = k ∧ k < 2 := ⟨nn % 2, by omega, by omega⟩
      have HAR1 := Lib.hid (around_w (x.tdiv 8) 1073741824 wo HX8.out (by decide) (by decide))
      have HAR2 := Lib.hid (around_w x 8 wo HX64.out (by decide) (by decide))
      rw [← HNN.out] at HAR1
      rw [← HCC.out] at HAR2
      obtain ⟨hxb1, hxb2⟩ := HX64.out
      go_upto_block 2 with (go_loud (first
        | (go_at_call 10; (with_reducible refine HAR1.out.mono ?_); rintro e w7 ⟨rfl, rfl⟩)
        | (go_at_call 10; (with_reducible refine HAR2.out.mono ?_); rintro e w7 ⟨rfl, rfl⟩)))
      clear hkm hcx2 HAR1 HAR2 HNN HCC HX64 HX8 hxb1 hxb2
      go_cut [10, 11, 15, 16, 17, 18, 19, 20, 21, 22] from 54 to 170 (fun s10 s11 s15 s16 s17 s18 s19 s20 s21 s22 wx => OrdSt w P ge gs gg (winE window) key (m + 1) s10 s11 wx)
      case first =>
        obtain ⟨b1, hb1⟩ : ∃ b, b = decide (cc < 2) := ⟨_, rfl⟩
        obtain ⟨b2, hb2⟩ : ∃ b, b = decide (cc < 4) := ⟨_, rfl⟩
        have HB1 := Lib.hid hb1; have HB2 := Lib.hid hb2
        clear hb1 hb2
        go_upto_if 122 with fail
        go_cut [122] from 123 to 124 (fun s122 wx => s122 = .bool b1 ∧ wo = wx)
        case first =>
          by_cases c0 : cc = 0
          · have q0 : ((cc : Int) == 0) = true := by rw [c0]; rfl
            clear c0
            go_wp2_with fail
            go_meet
            case rel => exact ⟨by have h := HB1.out; have q : cc = 0 := (by simpa using q0); rw [h, q]; rfl, rfl⟩
          · have q0 : ((cc : Int) == 0) = false := by rw [beq_eq_false_iff_ne]; omega
            go_wp2_with fail
            go_meet
            case rel => exact ⟨by have h := HB1.out; rw [h]; congr 1; rw [Bool.eq_iff_iff, beq_iff_eq, decide_eq_true_eq]; omega, rfl⟩
        case rest =>
          obtain ⟨hcu, rfl⟩ := hcut
          subst hcu
          by_cases cA : cc < 2
          · obtain rfl : b1 = true := by rw [HB1.out]; exact decide_eq_true cA
            as_aux_lemma =>
              obtain ⟨L0, M0, hI0, _, _⟩ := HS.out.get
              have ce : wo.cell? ⟨ge, k, none⟩ = some (.pointer (some ⟨P k, 0, none⟩)) := hI0.1.1.at_ k _ (ptrC_at P hk2)
              have hgl := hI0.1.1.lt
              clear hI0
              have HCE := Lib.hid ce
              go_upto_region 29 with fail
              change Code.wp _ _ _ _ (wo.alloc (.cells #[.int .u8 (m : Int), .int .u8 3] 5))
              obtain ⟨w5, hw5⟩ : ∃ x, x = wo.alloc (.cells #[.int .u8 (m : Int), .int .u8 3] 5) := ⟨_, rfl⟩
              rw [← hw5]
              obtain ⟨gb, hgb⟩ : ∃ g, g = wo.heap.size := ⟨_, rfl⟩
              rw [← hgb]
              have B5 : Hid (Blk w5 gb 5 [.int .u8 (m : Int), .int .u8 3]) := Lib.hid (by rw [hw5, hgb]; exact Blk.fresh _ _ _)
              have E5 : Hid (Ext wo w5) := Lib.hid (by rw [hw5]; exact (Ext.refl wo).alloc _)
              have HG5 : Hid (wo.heap.size ≤ gb) := Lib.hid (Nat.le_of_eq hgb.symm)
              clear hw5 hgb
              have hmsg : Byt [(m : Int), 3] ∧ [(m : Int), 3].length = 2 := ⟨fun y hy => by simp at hy; omega, rfl⟩
              have HMSG := Lib.hid hmsg
              have hJ := Lib.hid (OrdJ.stab P ge S X pk)
              have S5 : Hid (LawSt w P E (fun L Mu w => WF (OrdJ P ge S X pk) 6 ordT V X L Mu w ∧ PkV L Mu w (.slice (some ⟨gb, 0, none⟩) 2 2) [(m : Int), 3]) w5) := Lib.hid (HS.out.ext (WF.stab hJ.out) (fun _ => False) E5.out (fun L Mu h hc => ⟨hc, gb, 2, rfl, by show 2 ≤ 2; omega, by omega, (h gb HG5.out B5.out.lt).1, (h gb HG5.out B5.out.lt).2.2 id, B5.out.lt, B5.out.rd rfl⟩))
              have ce : w5.cell? ⟨ge, k, none⟩ = some (.pointer (some ⟨P k, 0, none⟩)) := (E5.out.cell (p := ⟨ge, k, none⟩) hgl).trans HCE.out
              have HRM : Hid (Rd w5 w5.heap.size (some ⟨gb, 0, none⟩) 2 (u8s [(m : Int), 3])) := Lib.hid (B5.out.rd rfl)
              have HSB : Hid ((E k).waiting.length < 1000 ∧ (E k).acked + (E k).waiting.length < 1000000000) := Lib.hid (by
                have h1 := (HR.out.e k hk2).wlen
                have h2 := (HR.out.e k hk2).ac
                have h3 := (HR.out.e k hk2).al
                have h4 := HR.out.sl k hk2
                omega)
              clear hmsg HCE
              go_upto_region 31 with (go_loud (go_at_call 11; (with_reducible refine (ls_send S5.out ((WF.stab hJ.out).and (PkV.stab _ _).stab) hk2 [(m : Int), 3] (some ⟨gb, 0, none⟩) 2 2 HRM.out HMSG.out.1 (by decide) HSB.out.1 HSB.out.2).mono ?_); rintro e w6 ⟨rfl, hS6⟩; have S6 := Lib.hid hS6; clear hS6))
              clear ce S5 HRM B5 E5 HG5 HS
              have hJ2 : Hid (StabI (fun L Mu w => OrdJ P ge S X pk L Mu w ∧ PkV L Mu w (.slice (some ⟨gb, 0, none⟩) 2 2) [(m : Int), 3])) := Lib.hid (hJ.out.and (PkV.stab _ _))
              have S7 : Hid (LawSt w P (updE E k (sendE (E k) [(m : Int), 3])) (WF (fun L Mu w => OrdJ P ge S X pk L Mu w ∧ PkV L Mu w (.slice (some ⟨gb, 0, none⟩) 2 2) [(m : Int), 3]) 6 ordT V X) w6) := Lib.hid (S6.out.imp (fun L Mu h => ⟨⟨h.1.1, h.2⟩, h.1.2⟩))
              clear S6
              obtain ⟨L0, M0, hI0, _, _⟩ := S7.out.get
              obtain ⟨sA, sc, hVk, _, _⟩ := fam_form hI0.2 (i := 2 + k) (by omega)
              obtain ⟨sn, hsn⟩ : ∃ x, x = (X (2 + k)).length := ⟨_, rfl⟩
              have hsnb : sn ≤ 80 := by rw [hsn, (hI0.1.1.2.1 k hk2).1]; have := HR.out.sl k hk2; omega
              rw [← hsn] at hVk
              have hcg := ((fam_cells hI0.2 (i := 0) (by decide) HM.out.v0).2.2 k hk2).1
              rw [HM.out.at0 hk2, hVk] at hcg
              have HVK := Lib.hid hVk; have HSN := Lib.hid hsn; have HTK := Lib.hid (ordT_k hk2)
              clear hVk hsn hI0
              obtain ⟨nv, hnv⟩ : ∃ f : Option Addr → Nat → Value, f = fun A c => .slice A (sn + 1) c := ⟨_, rfl⟩
              go_wp2_with (at_builtin; refine wpList_fam_app (S7.out.ext' (WF.stab hJ2.out) ((Ext.refl w6).alloc _)) hJ2.out (k := 2 + k) (by omega) rfl (.tmp 140) (.tmp 142) 28 rfl i0 (.slice none 0 0) 24 (by rw [HTK.out]; exact Try.underlying28) (by rw [HTK.out]; exact hi) hz0 hz1 hz2 rfl sn HVK.out.symm HSN.out.symm ⟨w6.heap.size, 0, none⟩ 1 (.slice (some ⟨gb, 0, none⟩) 2 2) rfl (cell_new0 _ _ _) rfl (by omega) (by decide) ?_; intro A7 c7 w7 hS8; have S8 := Lib.hid hS8; have hfc := Lib.hid (set_ready hS8 HM.out hk2); have cg2 := hfc.out.1; have fg2 := hfc.out.2; clear hS8 hfc)
              go_meet
              case rel => exact ord_rel HV4.out HV5.out (ord_sent HR.out HM.out hk2 HMSG.out S8.out)
          · obtain rfl : b1 = false := by rw [HB1.out]; exact decide_eq_false cA
            go_upto_if 145 with fail
            go_cut [145] from 146 to 147 (fun s145 wx => s145 = .bool b2 ∧ wo = wx)
            case first =>
              by_cases c0 : cc = 2
              · have q0 : ((cc : Int) == 2) = true := by rw [c0]; rfl
                clear c0
                go_wp2_with fail
                go_meet
                case rel => exact ⟨by have h := HB2.out; have q : cc = 2 := (by have := (beq_iff_eq.1 q0); omega); rw [h, q]; rfl, rfl⟩
              · have q0 : ((cc : Int) == 2) = false := by rw [beq_eq_false_iff_ne]; omega
                go_wp2_with fail
                go_meet
                case rel => exact ⟨by have h := HB2.out; rw [h]; congr 1; rw [Bool.eq_iff_iff, beq_iff_eq, decide_eq_true_eq]; omega, rfl⟩
            case rest =>
              obtain ⟨hcu, rfl⟩ := hcut
              subst hcu
              by_cases cB : cc < 4
              · obtain rfl : b2 = true := by rw [HB2.out]; exact decide_eq_true cB
                as_aux_lemma =>
                  obtain ⟨L0, M0, hI0, _, _⟩ := HS.out.get
                  have ce : wo.cell? ⟨ge, k, none⟩ = some (.pointer (some ⟨P k, 0, none⟩)) := hI0.1.1.at_ k _ (ptrC_at P hk2)
                  clear hI0
                  have hJ := Lib.hid (OrdJ.stab P ge S X pk)
                  have HSL := HS.out
                  go_upto_region 35 with (go_loud (go_at_call 13; (with_reducible refine (ls_out HS.out (WF.stab hJ.out) hk2).mono ?_); rintro e w6 ⟨OA, oc, no, rfl, hoc1, hoc2, hno, hS6⟩; have HNO := Lib.hid hno; have S6 := Lib.hid hS6; clear hno hS6))
                  clear ce HS HSL
                  obtain ⟨ls, hls⟩ : ∃ x, x = outL (E k) := ⟨_, rfl⟩
                  have HNL : Hid (ls.length = no) := Lib.hid (by rw [hls]; exact HNO.out)
                  have hnob : no ≤ 16 := by
                    rw [← HNO.out]
                    have := (HR.out.e k hk2).wi
                    have := (winE_bd window k).2
                    unfold outL
                    split
                    · simp
                    · rw [outTo_length]; unfold outK; omega
                  have HLS := Lib.hid hls
                  have S7 : Hid (LawSt w P (updE E k (outE (E k))) (WF (fun L Mu w => OrdJ P ge S X (pk ++ ls.take 0) L Mu w ∧ Packs L Mu w OA no ls) 6 ordT V X) w6) := Lib.hid (S6.out.imp (fun L Mu h => ⟨⟨by rw [List.take_zero, List.append_nil]; exact h.1.1, by rw [HLS.out]; exact h.2⟩, h.1.2⟩))
                  clear S6 hls HNO
                  obtain ⟨k3, hk3, hk3e⟩ : ∃ j : Nat, (1 : Int) - (k : Int) = j ∧ j = 1 - k := ⟨1 - k, by omega, rfl⟩
                  have HK3 := Lib.hid hk3; have HK3E := Lib.hid hk3e
                  have HM7 : Hid (OrdM gs gg d (tos ++ List.replicate 0 k3) V X) := Lib.hid (by rw [List.replicate_zero, List.append_nil]; exact HM.out)
                  clear hk3 hk3e
                  go_wp2_with fail
                  go_loopw [10, 11, 17] (fun s10 s11 j wx => ∃ (t : Nat) (V : Nat → Value) (X : Nat → List Value), t ≤ no ∧ j = .int .i64 t ∧ s10 = V 4 ∧ s11 = V 5 ∧ OrdM gs gg d (tos ++ List.replicate t k3) V X ∧ LawSt w P (updE E k (outE (E k))) (WF (fun L Mu w => OrdJ P ge S X (pk ++ ls.take t) L Mu w ∧ Packs L Mu w OA no ls) 6 ordT V X) wx) (fun _ _ j _ => no - (intOf j).toNat)
                  case atStart => exact ⟨0, V, X, by omega, rfl, HV4.out.symm, HV5.out.symm, HM7.out, S7.out⟩
                  case round =>
                    clear S7 HM7
                    obtain ⟨t, V1, X1, ht, rfl, h10, h11, hM1, hS1⟩ := hrel
                    obtain ⟨w1x, rfl⟩ : ∃ x : World, x = wr := ⟨_, rfl⟩
                    obtain ⟨L0, M0, hI0, _, _⟩ := hS1.get
                    obtain ⟨pA1, pc1, hV14, _, _⟩ := fam_form hI0.2 (i := 4) (by decide)
                    obtain ⟨tA1, tc1, hV15, _, _⟩ := fam_form hI0.2 (i := 5) (by decide)
                    obtain ⟨nt, hnt⟩ : ∃ x, x = np + t := ⟨_, rfl⟩
                    have hX14 : (X1 4).length = nt := by
                      have := hI0.1.1.2.2.1
                      rw [this, List.length_append, List.length_take, HNL.out, ← HNP.out, hnt]; omega
                    have hX15 : (X1 5).length = nt := by
                      rw [hM1.x5, List.length_map, List.length_append, List.length_replicate, HR.out.tl, ← HNP.out, hnt]
                    rw [hX14] at hV14
                    rw [hX15] at hV15
                    have hntb : nt ≤ 1300 := by omega
                    have h12 := h10.trans hV14
                    have h13 := h11.trans hV15
                    clear h10 h11
                    subst h12
                    subst h13
                    have HX14 := Lib.hid hX14; have HX15 := Lib.hid hX15; have HV14 := Lib.hid hV14; have HV15 := Lib.hid hV15
                    have HM1 := Lib.hid hM1; have HS1 := Lib.hid hS1
                    clear hX14 hX15 hV14 hV15 hM1 hS1 hnt
                    by_cases hlt2 : t < no
                    · obtain ⟨g, hOA, _, _, hgw, hcells⟩ := hI0.1.2 (show 0 < no by omega)
                      subst hOA
                      obtain ⟨pv, hpv1, hpv2⟩ := hcells t hlt2
                      have HPV : Hid (∃ G lp cp, pv = .slice (some ⟨G, 0, none⟩) lp cp) := Lib.hid (by obtain ⟨G, c, h, _⟩ := hpv2; exact ⟨G, _, c, h⟩)
                      have S2 : Hid (LawSt w P (updE E k (outE (E k))) (WF (fun L Mu w => (OrdJ P ge S X1 (pk ++ ls.take t) L Mu w ∧ Packs L Mu w (some ⟨g, 0, none⟩) no ls) ∧ PkV L Mu w pv (ls.getD t [])) 6 ordT V1 X1) w1x) := Lib.hid (HS1.out.imp (fun L Mu h => ⟨⟨h.1, by
                        obtain ⟨g', e1, _, _, _, e2⟩ := h.1.2 (show 0 < no by omega)
                        injection e1 with e1; injection e1 with e1
                        subst e1
                        obtain ⟨v', e3, e4⟩ := e2 t hlt2
                        rw [hpv1] at e3; injection e3 with e3
                        rw [e3]; exact e4⟩, h.2⟩))
                      have HPC : Hid (w1x.cell? ⟨g, t, none⟩ = some pv) := Lib.hid hpv1
                      clear hI0 hcells hpv1 hpv2 hgw HS1
                      obtain ⟨G, lp, cp, hpe⟩ := HPV.out
                      subst hpe
                      have hpc := HPC.out
                      have hJ2 : Hid (StabI (fun L Mu w => (OrdJ P ge S X1 (pk ++ ls.take t) L Mu w ∧ Packs L Mu w (some ⟨g, 0, none⟩) no ls) ∧ PkV L Mu w (.slice (some ⟨G, 0, none⟩) lp cp) (ls.getD t []))) := Lib.hid (((OrdJ.stab _ _ _ _ _).and (Packs.stab _ _ _)).and (PkV.stab _ _))
                      have hk3 := HK3.out
                      clear HPV HPC
                      go_wp2_with (first
                        | (at_builtin; refine wpList_fam_app (S2.out.ext' (WF.stab hJ2.out) ((Ext.refl w1x).alloc _)) hJ2.out (k := 4) (by decide) rfl (.tmp 159) (.tmp 164) 28 rfl i0 (.slice none 0 0) 24 Try.underlying28 hi hz0 hz1 hz2 rfl nt HV14.out.symm HX14.out ⟨w1x.heap.size, 0, none⟩ 1 (.slice (some ⟨G, 0, none⟩) lp cp) rfl (cell_new0 _ _ _) rfl (by omega) (by decide) ?_; intro A8 c8 w8 hS8; have S8 := Lib.hid hS8; clear hS8; have HV25 : Hid (updE V1 4 (.slice A8 (nt + 1) c8) 5 = .slice tA1 nt tc1) := Lib.hid ((updE_ne V1 _ (by decide)).trans HV15.out); have HX25 : Hid ((updE X1 4 (X1 4 ++ [.slice (some ⟨G, 0, none⟩) lp cp]) 5).length = nt) := Lib.hid (by rw [updE_ne _ _ (by decide)]; exact HX15.out))
                        | (at_builtin; refine wpList_fam_app (S8.out.ext' (WF.stab hJ2.out) ((Ext.refl w8).alloc _)) hJ2.out (k := 5) (by decide) rfl (.tmp 166) (.tmp 169) 23 rfl j0 (.int .i64 0) 8 Try.underlying23 hj hy0 hy1 hy2 rfl nt HV25.out.symm HX25.out ⟨w8.heap.size, 0, none⟩ 1 (.int .i64 (k3 : Int)) rfl (cell_new0 _ _ _) rfl (by omega) (by decide) ?_; intro A9 c9 w9 hS9; have S9 := Lib.hid hS9; clear hS9))
                      clear hk3 hpc
                      go_roundw
                      case rel => exact (by
                        obtain ⟨V2, X2, e1, e2, e3, e4⟩ := ord_put HM1.out (by rw [HNL.out]; exact hlt2) S9.out
                        exact ⟨t + 1, V2, X2, by omega, by go_num, e1, e2, e3, e4⟩)
                      case measure => simp [intOf]; omega
                    · obtain rfl : t = no := by omega
                      clear hI0
                      go_wp2_with fail
                      go_meet
                      case rel => exact ord_rel HV14.out HV15.out (ord_outs (no := t) HR.out hk2 (winE_bd window k).2 (by have := HNL.out; rw [HLS.out] at this; exact this) (by rw [← HK3E.out]; exact HM1.out) (by rw [← HLS.out]; exact HS1.out))
              · obtain rfl : b2 = false := by rw [HB2.out]; exact decide_eq_false cB
                as_aux_lemma =>
                  by_cases hp0 : np = 0
                  · have q5 : ((np : Int) == 0) = true := by rw [hp0]; rfl
                    clear hp0
                    go_wp2_with fail
                    go_roundw
                    case rel => exact ⟨m + 1, by omega, by go_num, ord_rel HV4.out HV5.out (ord_late HR.out HM.out HS.out)⟩
                    case measure => simp [intOf]; omega
                  · have q5 : ((np : Int) == 0) = false := by rw [beq_eq_false_iff_ne]; omega
                    have hnp0 : 0 < np := by omega
                    have hnpz : ¬ (np : Int) = 0 := by omega
                    obtain ⟨jj, hjj, hjn⟩ : ∃ jj : Nat, (nn : Int) / 2 % (np : Int) = jj ∧ jj < np := by
                      have h1 := Int.emod_nonneg ((nn : Int) / 2) hnpz
                      have h2 := Int.emod_lt_of_pos ((nn : Int) / 2) (show (0 : Int) < np by omega)
                      exact ⟨((nn : Int) / 2 % (np : Int)).toNat, by omega, by omega⟩
                    have hjpk : jj < pk.length := by rw [← HNP.out]; exact hjn
                    obtain ⟨L0, M0, hI0, _, _⟩ := HS.out.get
                    obtain ⟨gt, htA⟩ := fam_addr hI0.2 (i := 5) (by decide) HV5.out hnp0
                    subst htA
                    obtain ⟨gp, hpA⟩ := fam_addr hI0.2 (i := 4) (by decide) HV4.out hnp0
                    subst hpA
                    obtain ⟨t, ht⟩ : ∃ x, x = tos.getD jj 0 := ⟨_, rfl⟩
                    have ht2 : t < 2 := by rw [ht]; exact HR.out.tb jj hjpk
                    have htc : wo.cell? ⟨gt, jj, none⟩ = some (.int .i64 (t : Int)) := by
                      rw [((fam_cells hI0.2 (i := 5) (by decide) HV5.out).2.2 jj hjn).1, HM.out.x5, List.getElem?_map, ht, List.getD_eq_getElem?_getD, List.getElem?_eq_getElem (by rw [HR.out.tl]; exact hjpk)]; rfl
                    obtain ⟨G, cp, hpv, hcp1, hcp2, _, _, hGw, hRp⟩ := hI0.1.2.2.2 jj hjpk
                    obtain ⟨lp, hlp⟩ : ∃ x, x = (pk.getD jj []).length := ⟨_, rfl⟩
                    rw [← hlp] at hpv hcp1 hRp
                    have HPC : Hid (wo.cell? ⟨gp, jj, none⟩ = some (.slice (some ⟨G, 0, none⟩) lp cp)) := Lib.hid (by
                      have h := ((fam_cells hI0.2 (i := 4) (by decide) HV4.out).2.2 jj hjn).1
                      rw [h, ← hpv, List.getD_eq_getElem?_getD, List.getElem?_eq_getElem (by rw [HX4.out]; exact hjn)]; rfl)
                    have HCE : Hid (wo.cell? ⟨ge, t, none⟩ = some (.pointer (some ⟨P t, 0, none⟩))) := Lib.hid (hI0.1.1.at_ t _ (ptrC_at P ht2))
                    have HGW : Hid (ge < wo.heap.size ∧ gp < wo.heap.size) := Lib.hid ⟨hI0.1.1.lt, (fam_cells hI0.2 (i := 4) (by decide) HV4.out).2.1⟩
                    have HRP : Hid (Rd wo wo.heap.size (some ⟨G, 0, none⟩) lp (u8s (pk.getD jj []))) := Lib.hid hRp
                    obtain ⟨q, E', a', hin, hql, hR2⟩ := HR.out.in (by omega) hjpk ht
                    obtain ⟨xs, hxs⟩ : ∃ x, x = ((S (1 - t)).drop (d t)).take q := ⟨_, rfl⟩
                    rw [← hxs] at hin
                    have HPB : Hid (Byt (pk.getD jj []) ∧ lp ≤ 1000000000) := Lib.hid (by
                      have h1 := HR.out.pp jj hjpk
                      rw [← ht] at h1
                      have h2 := pko_byt h1 (fun u hu => (HR.out.sb (1 - t) (by omega) u hu).1) (fun u hu => by rw [(HR.out.sb (1 - t) (by omega) u hu).2]; decide) (show d (1 - t) ≤ 1000 by have := (HR.out.e (1 - t) (by omega)).dT; rw [show 1 - (1 - t) = t by omega] at this; have := HR.out.sl t ht2; omega) (show (S (1 - t)).length ≤ 1000 by have := HR.out.sl (1 - t) (by omega); omega)
                      exact ⟨h2.1, by rw [hlp]; omega⟩)
                    have HEF : Hid ((E t).forged < 1000000000 ∧ (E t).tot < 1000000000 ∧ (E t).delivered + (E t).cnt < 1000000000) := Lib.hid (by
                      have e := HR.out.e t ht2
                      have h1 := e.fo
                      have h2 := e.tt
                      have h3 := e.ct
                      have h4 := e.dl
                      have h5 := e.dT
                      have h6 := HR.out.sl (1 - t) (by omega)
                      omega)
                    have HIN := Lib.hid hin; have HXS := Lib.hid hxs; have HR2 := Lib.hid hR2
                    have hJ := Lib.hid (OrdJ.stab P ge S X pk)
                    clear hI0 hpv hRp hin hR2 hxs hlp ht
                    go_upto_region 16 with fail
                    rw [hjj]
                    clear hjj
                    go_upto_region 17 with fail
                    clear q5 htc
                    refine wp_region_flowV 14 8 _ (fun i => i == 0 || i == 1 || i == 2 || i == 3 || i == 4 || i == 5 || i == 6 || i == 7) (fun i => i == 9 || i == 10 || i == 11 || i == 12 || i == 13) ?F17 (fun us => ?_) (by kernel_rfl) (by kernel_rfl) (by kernel_rfl) rfl (fun _ _ => True) (fun a b => Ext a b) Ext.refl (fun _ => trivial) (fun _ _ => trivial) (fun h1 h2 => h1.next h2) (fun i v W => match i with
                      | 0 => v = .slice (some ⟨ge, 0, none⟩) 2 2
                      | 1 => v = .int .i64 t
                      | 2 => v = .pointer (some ⟨ge, t, none⟩)
                      | 3 => v = .pointer (some ⟨P t, 0, none⟩)
                      | 4 => v = .slice (some ⟨gp, 0, none⟩) np pc
                      | 5 => v = .int .i64 jj
                      | 6 => v = .pointer (some ⟨gp, jj, none⟩)
                      | 7 => v = .slice (some ⟨G, 0, none⟩) lp cp
                      | 8 => ∃ OB ob jb, v = .tuple #[.slice OB jb ob, .int .i64 0] ∧ (jb ≤ ob ∧ ob ≤ 9223372036854775807) ∧ xs.length = jb ∧ LawSt w P (updE E t E') (fun L Mu w => WF (OrdJ P ge S X pk) 6 ordT V X L Mu w ∧ Mess L Mu w OB jb xs) W
                      | 9 => ∃ OB ob jb, v = .tuple #[.slice OB jb ob, .int .i64 0] ∧ (jb ≤ ob ∧ ob ≤ 9223372036854775807) ∧ xs.length = jb ∧ LawSt w P (updE E t E') (fun L Mu w => WF (OrdJ P ge S X pk) 6 ordT V X L Mu w ∧ Mess L Mu w OB jb xs) W
                      | 10 => ∃ OB ob jb, v = .slice OB jb ob ∧ (jb ≤ ob ∧ ob ≤ 9223372036854775807) ∧ xs.length = jb ∧ LawSt w P (updE E t E') (fun L Mu w => WF (OrdJ P ge S X pk) 6 ordT V X L Mu w ∧ Mess L Mu w OB jb xs) W
                      | 11 => v = .int .i64 0
                      | 12 => ∃ OB ob jb, v = .slice OB jb ob ∧ (jb ≤ ob ∧ ob ≤ 9223372036854775807) ∧ xs.length = jb ∧ LawSt w P (updE E t E') (fun L Mu w => WF (OrdJ P ge S X pk) 6 ordT V X L Mu w ∧ Mess L Mu w OB jb xs) W
                      | 13 => v = .int .i64 0
                      | _ => True) ?_ ?_
                    case refine_1 =>
                      simp only [List.take_succ_cons, List.take_zero, flowAct, Nat.zero_add, Nat.reduceAdd, Act.put, List.setIfInBounds_toArray, List.set_cons_succ, List.set_cons_zero]
                      rfl
                    · simp only [List.take_succ_cons, List.take_zero, flowStepsV]
                      refine ⟨?_, ?_, ?_, ?_, ?_, ?_, ?_, ?_, ?_, ?_, ?_, ?_, ?_, ?_, trivial⟩
                      · intro us W K hE1 hE2 hd hK
                        simp only [Nat.reduceBEq, Bool.not_true, Bool.not_false, Bool.or_true, Bool.or_false, Bool.true_or, Bool.false_or, cond_true, cond_false] at hK ⊢
                        have HK := Lib.hid hK; have HE1 := Lib.hid hE1
                        clear hK hd hE1 hE2
                        go_wp2_with fail
                        exact K_at (HK.out (.slice (some ⟨ge, 0, none⟩) 2 2) W (fun _ _ => rfl) (Ext.refl W)) (by kernel_rfl)
                      · intro us W K hE1 hE2 hd hK
                        simp only [Nat.reduceBEq, Bool.not_true, Bool.not_false, Bool.or_true, Bool.or_false, Bool.true_or, Bool.false_or, cond_true, cond_false] at hK ⊢
                        have HK := Lib.hid hK; have HE1 := Lib.hid hE1
                        clear hK hd hE1 hE2
                        go_wp2_with fail
                        exact K_at (HK.out (.int .i64 t) W (fun _ _ => rfl) (Ext.refl W)) (by kernel_rfl)
                      · intro us W K hE1 hE2 hd hK
                        have d0 := hd 0 (by kernel_rfl) (by kernel_rfl)
                        have d1 := hd 1 (by kernel_rfl) (by kernel_rfl)
                        simp only [Nat.reduceBEq, Bool.not_true, Bool.not_false, Bool.or_true, Bool.or_false, Bool.true_or, Bool.false_or, cond_true, cond_false] at hK ⊢
                        rw [d0, d1] at hK ⊢
                        have HK := Lib.hid hK; have HE1 := Lib.hid hE1
                        clear hK hd hE1 hE2 d0 d1
                        go_wp2_with fail
                        exact K_at (HK.out (.pointer (some ⟨ge, t, none⟩)) W (fun _ _ => rfl) (Ext.refl W)) (by kernel_rfl)
                      · intro us W K hE1 hE2 hd hK
                        have hE := hE2 (by kernel_rfl)
                        have d2 := hd 2 (by kernel_rfl) (by kernel_rfl)
                        have c0 := ((ext_undrew hE).cell (p := ⟨ge, t, none⟩) HGW.out.1).trans HCE.out
                        simp only [Nat.reduceBEq, Bool.not_true, Bool.not_false, Bool.or_true, Bool.or_false, Bool.true_or, Bool.false_or, cond_true, cond_false] at hK ⊢
                        rw [d2] at hK ⊢
                        have HK := Lib.hid hK; have HE1 := Lib.hid hE1
                        have HE := Lib.hid hE
                        clear hE
                        clear hK hd hE1 hE2 d2
                        go_wp2_with fail
                        exact K_at (HK.out (.pointer (some ⟨P t, 0, none⟩)) W (fun _ _ => rfl) (Ext.refl W)) (by kernel_rfl)
                      · intro us W K hE1 hE2 hd hK
                        simp only [Nat.reduceBEq, Bool.not_true, Bool.not_false, Bool.or_true, Bool.or_false, Bool.true_or, Bool.false_or, cond_true, cond_false] at hK ⊢
                        have HK := Lib.hid hK; have HE1 := Lib.hid hE1
                        clear hK hd hE1 hE2
                        go_wp2_with fail
                        exact K_at (HK.out (.slice (some ⟨gp, 0, none⟩) np pc) W (fun _ _ => rfl) (Ext.refl W)) (by kernel_rfl)
                      · intro us W K hE1 hE2 hd hK
                        simp only [Nat.reduceBEq, Bool.not_true, Bool.not_false, Bool.or_true, Bool.or_false, Bool.true_or, Bool.false_or, cond_true, cond_false] at hK ⊢
                        have HK := Lib.hid hK; have HE1 := Lib.hid hE1
                        clear hK hd hE1 hE2
                        go_wp2_with fail
                        exact K_at (HK.out (.int .i64 jj) W (fun _ _ => rfl) (Ext.refl W)) (by kernel_rfl)
                      · intro us W K hE1 hE2 hd hK
                        have d4 := hd 4 (by kernel_rfl) (by kernel_rfl)
                        have d5 := hd 5 (by kernel_rfl) (by kernel_rfl)
                        simp only [Nat.reduceBEq, Bool.not_true, Bool.not_false, Bool.or_true, Bool.or_false, Bool.true_or, Bool.false_or, cond_true, cond_false] at hK ⊢
                        rw [d4, d5] at hK ⊢
                        have HK := Lib.hid hK; have HE1 := Lib.hid hE1
                        clear hK hd hE1 hE2 d4 d5
                        go_wp2_with fail
                        exact K_at (HK.out (.pointer (some ⟨gp, jj, none⟩)) W (fun _ _ => rfl) (Ext.refl W)) (by kernel_rfl)
                      · intro us W K hE1 hE2 hd hK
                        have hE := hE2 (by kernel_rfl)
                        have d6 := hd 6 (by kernel_rfl) (by kernel_rfl)
                        have c0 := ((ext_undrew hE).cell (p := ⟨gp, jj, none⟩) HGW.out.2).trans HPC.out
                        simp only [Nat.reduceBEq, Bool.not_true, Bool.not_false, Bool.or_true, Bool.or_false, Bool.true_or, Bool.false_or, cond_true, cond_false] at hK ⊢
                        rw [d6] at hK ⊢
                        have HK := Lib.hid hK; have HE1 := Lib.hid hE1
                        have HE := Lib.hid hE
                        clear hE
                        clear hK hd hE1 hE2 d6
                        go_wp2_with fail
                        exact K_at (HK.out (.slice (some ⟨G, 0, none⟩) lp cp) W (fun _ _ => rfl) (Ext.refl W)) (by kernel_rfl)
                      · intro us W K hE1 hE2 hd hK
                        have hE := hE2 (by kernel_rfl)
                        have d3 := hd 3 (by kernel_rfl) (by kernel_rfl)
                        have d7 := hd 7 (by kernel_rfl) (by kernel_rfl)
                        have HRW := Lib.hid (HRP.out.ext' (ext_undrew hE))
                        have HSW := Lib.hid (HS.out.ext' (WF.stab hJ.out) (ext_undrew hE))
                        simp only [Nat.reduceBEq, Bool.not_true, Bool.not_false, Bool.or_true, Bool.or_false, Bool.true_or, Bool.false_or, cond_true, cond_false] at hK ⊢
                        rw [d3, d7] at hK ⊢
                        have HK := Lib.hid hK; have HE1 := Lib.hid hE1
                        have HE := Lib.hid hE
                        clear hE
                        clear hK hd hE1 hE2 d3 d7
                        go_wp2_with (go_loud (go_at_call 19; (with_reducible refine (ls_in HSW.out (WF.stab hJ.out) ht2 (pk.getD jj []) (some ⟨G, 0, none⟩) lp cp HRW.out HPB.out.1 HPB.out.2 hcp1 hcp2 HEF.out.1 HEF.out.2.1 HEF.out.2.2 xs 0 _ HIN.out).mono ?_); rintro e w13 ⟨OB, ob, jb, rfl, hob1, hob2, hjb, hS13⟩; have hob := And.intro hob1 hob2; have S13 := Lib.hid hS13; clear hS13 hob1 hob2))
                        exact K_at (HK.out (.tuple #[.slice OB jb ob, .int .i64 0]) w13 (fun W2 h2 => ⟨OB, ob, jb, rfl, hob, hjb, S13.out.ext' ((WF.stab hJ.out).and (Mess.stab _ _ _).stab) h2⟩) trivial) (by kernel_rfl)
                      · intro us W K hE1 hE2 hd hK
                        obtain ⟨OB, ob, jb, d8, hob, hjb, s13⟩ := hd 8 (by kernel_rfl) (by kernel_rfl)
                        have S13 := Lib.hid s13
                        simp only [Nat.reduceBEq, Bool.not_true, Bool.not_false, Bool.or_true, Bool.or_false, Bool.true_or, Bool.false_or, cond_true, cond_false] at hK ⊢
                        rw [d8] at hK ⊢
                        have HK := Lib.hid hK; have HE1 := Lib.hid hE1
                        clear hK hd hE1 hE2 d8 s13
                        go_wp2_with fail
                        exact K_at (HK.out (.tuple #[.slice OB jb ob, .int .i64 0]) W (fun W2 h2 => ⟨OB, ob, jb, rfl, hob, hjb, S13.out.ext' ((WF.stab hJ.out).and (Mess.stab _ _ _).stab) h2⟩) (Ext.refl W)) (by kernel_rfl)
                      · intro us W K hE1 hE2 hd hK
                        obtain ⟨OB, ob, jb, d9, hob, hjb, s13⟩ := hd 9 (by kernel_rfl) (by kernel_rfl)
                        have S13 := Lib.hid s13
                        simp only [Nat.reduceBEq, Bool.not_true, Bool.not_false, Bool.or_true, Bool.or_false, Bool.true_or, Bool.false_or, cond_true, cond_false] at hK ⊢
                        rw [d9] at hK ⊢
                        have HK := Lib.hid hK; have HE1 := Lib.hid hE1
                        clear hK hd hE1 hE2 d9 s13
                        go_wp2_with fail
                        exact K_at (HK.out (.slice OB jb ob) W (fun W2 h2 => ⟨OB, ob, jb, rfl, hob, hjb, S13.out.ext' ((WF.stab hJ.out).and (Mess.stab _ _ _).stab) h2⟩) (Ext.refl W)) (by kernel_rfl)
                      · intro us W K hE1 hE2 hd hK
                        obtain ⟨OB, ob, jb, d9, hob, hjb, s13⟩ := hd 9 (by kernel_rfl) (by kernel_rfl)
                        simp only [Nat.reduceBEq, Bool.not_true, Bool.not_false, Bool.or_true, Bool.or_false, Bool.true_or, Bool.false_or, cond_true, cond_false] at hK ⊢
                        rw [d9] at hK ⊢
                        have HK := Lib.hid hK; have HE1 := Lib.hid hE1
                        clear hK hd hE1 hE2 d9 s13
                        go_wp2_with fail
                        exact K_at (HK.out (.int .i64 0) W (fun _ _ => rfl) (Ext.refl W)) (by kernel_rfl)
                      · intro us W K hE1 hE2 hd hK
                        obtain ⟨OB, ob, jb, d10, hob, hjb, s13⟩ := hd 10 (by kernel_rfl) (by kernel_rfl)
                        have S13 := Lib.hid s13
                        simp only [Nat.reduceBEq, Bool.not_true, Bool.not_false, Bool.or_true, Bool.or_false, Bool.true_or, Bool.false_or, cond_true, cond_false] at hK ⊢
                        rw [d10] at hK ⊢
                        have HK := Lib.hid hK; have HE1 := Lib.hid hE1
                        clear hK hd hE1 hE2 d10 s13
                        go_wp2_with fail
                        exact K_at (HK.out (.slice OB jb ob) W (fun W2 h2 => ⟨OB, ob, jb, rfl, hob, hjb, S13.out.ext' ((WF.stab hJ.out).and (Mess.stab _ _ _).stab) h2⟩) (Ext.refl W)) (by kernel_rfl)
                      · intro us W K hE1 hE2 hd hK
                        have d11 := hd 11 (by kernel_rfl) (by kernel_rfl)
                        simp only [Nat.reduceBEq, Bool.not_true, Bool.not_false, Bool.or_true, Bool.or_false, Bool.true_or, Bool.false_or, cond_true, cond_false] at hK ⊢
                        rw [d11] at hK ⊢
                        have HK := Lib.hid hK; have HE1 := Lib.hid hE1
                        clear hK hd hE1 hE2 d11
                        go_wp2_with fail
                        exact K_at (HK.out (.int .i64 0) W (fun _ _ => rfl) (Ext.refl W)) (by kernel_rfl)
                    · intro us W hE1 hd
                      try dsimp only
                      obtain ⟨OB, ob, jb, d12, hob, hjb, s13⟩ := hd 12 (by decide) (by decide)
                      have d13 := hd 13 (by decide) (by decide)
                      simp only [List.drop_succ_cons, List.drop_zero]
                      rw [d12, d13]
                      have HJB := Lib.hid hjb
                      obtain ⟨hob1, hob2⟩ := hob
                      have S14 : Hid (LawSt w P (updE E t E') (WF (fun L Mu w => OrdJ P ge S X pk L Mu w ∧ Mess L Mu w OB jb xs) 6 ordT V (updE X 1 (numC (updE d t (d t + 0))))) W) := Lib.hid (by
                        have e1 : updE d t (d t + 0) = d := updE_self d t
                        have e2 : updE X 1 (X 1) = X := updE_self X 1
                        rw [e1, ← HM.out.x1, e2]
                        exact s13.imp (fun L Mu h => ⟨⟨h.1.1, h.2⟩, h.1.2⟩))
                      have hjq : jb = q := by rw [← hjb, HXS.out, List.length_take, List.length_drop]; omega
                      have HJQ := Lib.hid hjq
                      clear hd hE1 s13 d12 d13 hjb hjq HPC HCE HGW HRP HPB HIN HEF HS
                      have hJ2 : Hid (StabI (fun L Mu w => OrdJ P ge S X pk L Mu w ∧ Mess L Mu w OB jb xs)) := Lib.hid (hJ.out.and (Mess.stab _ _ _))
                      obtain ⟨k3, hk3, hk3e⟩ : ∃ j : Nat, (1 : Int) - (t : Int) = j ∧ j = 1 - t := ⟨1 - t, by omega, rfl⟩
                      have hk32 : k3 < 2 := by omega
                      have HK3 := Lib.hid hk3; have HK3E := Lib.hid hk3e
                      clear hk3 hk3e
                      go_wp2_with fail
                      go_loopw [22] (fun r wx => ∃ u : Nat, u ≤ jb ∧ r = .int .i64 u ∧ LawSt w P (updE E t E') (WF (fun L Mu w => OrdJ P ge S X pk L Mu w ∧ Mess L Mu w OB jb xs) 6 ordT V (updE X 1 (numC (updE d t (d t + u))))) wx) (fun r _ => jb - (intOf r).toNat)
                      case atStart => exact ⟨0, by omega, rfl, S14.out⟩
                      case round =>
                        clear S14
                        obtain ⟨u, hu, rfl, hS⟩ := hrel
                        have HS := Lib.hid hS
                        clear hS
                        obtain ⟨wk, rfl⟩ : ∃ x : World, x = wr := ⟨_, rfl⟩
                        by_cases hlu : u < jb
                        · obtain ⟨du, hdu⟩ : ∃ x, x = d t + u := ⟨_, rfl⟩
                          obtain ⟨L0, M0, hI0, _, _⟩ := HS.out.get
                          have hgV : V 1 = .slice (some ⟨gg, 0, none⟩) 2 2 := HM.out.v1
                          have hgc := (fam_cells hI0.2 (i := 1) (by decide) hgV)
                          have hgt := hgc.2.2 t ht2
                          rw [updE_same, numC_at _ ht2, updE_same, ← hdu] at hgt
                          have hsc := (fam_cells hI0.2 (i := 0) (by decide) HM.out.v0)
                          have hst := (hsc.2.2 k3 hk32).1
                          rw [updE_ne _ _ (by decide), HM.out.at0 hk32] at hst
                          obtain ⟨sA, sc, hVk, _, _⟩ := fam_form hI0.2 (i := 2 + k3) (by omega)
                          obtain ⟨sn, hsn⟩ : ∃ x, x = (X (2 + k3)).length := ⟨_, rfl⟩
                          rw [updE_ne _ _ (by omega), ← hsn] at hVk
                          have hsS : sn = (S (1 - t)).length := by rw [hsn, ← HK3E.out]; exact (hI0.1.1.2.1 k3 hk32).1
                          have hdsn : du < sn := by rw [hsS, hdu]; have := HJQ.out; omega
                          have hsnb : sn ≤ 80 := by rw [hsS]; have := HR.out.sl (1 - t) (by omega); omega
                          rw [hVk] at hst
                          obtain ⟨g3, hsA⟩ := fam_addr hI0.2 (i := 2 + k3) (by omega) hVk (by omega)
                          subst hsA
                          have hs3 := fam_cells hI0.2 (i := 2 + k3) (by omega) hVk
                          obtain ⟨G3, c3, hv3, _, _, _, _, hG3, hR3⟩ := (hI0.1.1.2.1 k3 hk32).2 du (by rw [HK3E.out, ← hsS]; exact hdsn)
                          have hm3 : (S k3).getD du [] = xs.getD u [] := by
                            rw [HXS.out, HK3E.out, List.getD_eq_getElem?_getD, List.getD_eq_getElem?_getD, List.getElem?_take, if_pos (by have := HJQ.out; omega), List.getElem?_drop, hdu]
                          have hm2 : ((S k3).getD du []).length = 2 := by rw [HK3E.out]; exact (HR.out.sb (1 - t) (by omega) du (by omega)).2
                          rw [hm2] at hv3 hR3
                          obtain ⟨msg, hmsg⟩ : ∃ x, x = (S k3).getD du [] := ⟨_, rfl⟩
                          have h3c : wk.cell? ⟨g3, du, none⟩ = some (.slice (some ⟨G3, 0, none⟩) 2 c3) := by
                            rw [(hs3.2.2 du hdsn).1, updE_ne _ _ (by omega), ← hv3, List.getD_eq_getElem?_getD, List.getElem?_eq_getElem (by rw [← hsn]; exact hdsn)]; rfl
                          obtain ⟨gx, hOB, _, _, hgx, hcells⟩ := hI0.1.2 (by omega)
                          subst hOB
                          obtain ⟨Ax, cx, hx2, hx3, hx4, hx5⟩ := hcells u hlu
                          rw [← hm3, hm2] at hx2 hx3 hx5
                          rw [← hmsg] at hx5 hR3
                          have HGC : Hid (wk.cell? ⟨gg, t, none⟩ = some (.int .i64 (du : Int)) ∧ wk.frozen? ⟨gg, t, none⟩ = false) := Lib.hid hgt
                          have HSC : Hid (wk.cell? ⟨gs, k3, none⟩ = some (.slice (some ⟨g3, 0, none⟩) sn sc)) := Lib.hid hst
                          have H3C := Lib.hid h3c
                          have HXC : Hid (wk.cell? ⟨gx, u, none⟩ = some (.slice Ax 2 cx)) := Lib.hid hx2
                          have HLT : Hid (gg < wk.heap.size ∧ gs < wk.heap.size ∧ g3 < wk.heap.size ∧ gx < wk.heap.size) := Lib.hid ⟨hgc.2.1, hsc.2.1, hs3.2.1, hgx⟩
                          have HRX : Hid (Rd wk wk.heap.size Ax 2 (u8s msg)) := Lib.hid hx5.rd
                          have HR3 : Hid (Rd wk wk.heap.size (some ⟨G3, 0, none⟩) 2 (u8s msg)) := Lib.hid hR3
                          have HDU := Lib.hid hdu
                          clear hI0 hgV hgc hgt hsc hst hVk hsS hs3 hv3 hR3 hm3 hm2 hmsg h3c hgx hcells hx2 hx3 hx4 hx5 hsn hdu hG3
                          go_upto_region 23 with fail
                          generalize decide ((u : Int) < (jb : Int)) = bu
                          refine wp_region_flowF 30 ?F23 (fun us => ?_) (by kernel_rfl) (by kernel_rfl) (fun a b => Ext a b) Ext.refl (fun h1 h2 => h1.next h2) (fun i v W => match i with
                            | 0 => v = .slice (some ⟨gg, 0, none⟩) 2 2
                            | 1 => v = .int .i64 t
                            | 2 => v = .pointer (some ⟨gg, t, none⟩)
                            | 3 => v = .int .i64 du
                            | 4 => v = .slice (some ⟨gs, 0, none⟩) 2 2
                            | 5 => v = .int .i64 t
                            | 6 => v = .int .i64 k3
                            | 7 => v = .pointer (some ⟨gs, k3, none⟩)
                            | 8 => v = .slice (some ⟨g3, 0, none⟩) sn sc
                            | 9 => v = .int .i64 sn
                            | 10 => v = .bool false
                            | 11 => v = .bool false
                            | 12 => v = .slice (some ⟨gx, 0, none⟩) jb ob
                            | 13 => v = .int .i64 u
                            | 14 => v = .pointer (some ⟨gx, u, none⟩)
                            | 15 => v = .slice Ax 2 cx
                            | 16 => v = .slice (some ⟨gs, 0, none⟩) 2 2
                            | 17 => v = .int .i64 t
                            | 18 => v = .int .i64 k3
                            | 19 => v = .pointer (some ⟨gs, k3, none⟩)
                            | 20 => v = .slice (some ⟨g3, 0, none⟩) sn sc
                            | 21 => v = .slice (some ⟨gg, 0, none⟩) 2 2
                            | 22 => v = .int .i64 t
                            | 23 => v = .pointer (some ⟨gg, t, none⟩)
                            | 24 => v = .int .i64 du
                            | 25 => v = .pointer (some ⟨g3, du, none⟩)
                            | 26 => v = .slice (some ⟨G3, 0, none⟩) 2 c3
                            | 27 => v = .bool true
                            | 28 => v = .bool false
                            | 29 => v = .bool false
                            | _ => True) ?_ ?_
                          case refine_1 =>
                            simp only [List.take_succ_cons, List.take_zero, flowAct, Nat.zero_add, Nat.reduceAdd, Act.put, List.setIfInBounds_toArray, List.set_cons_succ, List.set_cons_zero]
                            rfl
                          · simp only [List.take_succ_cons, List.take_zero, flowStepsF]
                            refine ⟨?_, ?_, ?_, ?_, ?_, ?_, ?_, ?_, ?_, ?_, ?_, ?_, ?_, ?_, ?_, ?_, ?_, ?_, ?_, ?_, ?_, ?_, ?_, ?_, ?_, ?_, ?_, ?_, ?_, ?_, trivial⟩
                            · intro us W K hE hd hK
                              dsimp only at hK ⊢
                              have HK := Lib.hid hK; have HE := Lib.hid hE
                              clear hK hd hE
                              go_wp2_with fail
                              exact K_at (HK.out (.slice (some ⟨gg, 0, none⟩) 2 2) W (fun _ _ => rfl) (Ext.refl W)) (by kernel_rfl)
                            · intro us W K hE hd hK
                              dsimp only at hK ⊢
                              have HK := Lib.hid hK; have HE := Lib.hid hE
                              clear hK hd hE
                              go_wp2_with fail
                              exact K_at (HK.out (.int .i64 t) W (fun _ _ => rfl) (Ext.refl W)) (by kernel_rfl)
                            · intro us W K hE hd hK
                              have d0 := hd 0 (by kernel_rfl)
                              have d1 := hd 1 (by kernel_rfl)
                              dsimp only at hK ⊢
                              rw [d0, d1] at hK ⊢
                              have HK := Lib.hid hK; have HE := Lib.hid hE
                              clear hK hd hE d0 d1
                              go_wp2_with fail
                              exact K_at (HK.out (.pointer (some ⟨gg, t, none⟩)) W (fun _ _ => rfl) (Ext.refl W)) (by kernel_rfl)
                            · intro us W K hE hd hK
                              have d2 := hd 2 (by kernel_rfl)
                              have c0 := ((ext_undrew hE).cell (p := ⟨gg, t, none⟩) HLT.out.1).trans HGC.out.1
                              dsimp only at hK ⊢
                              rw [d2] at hK ⊢
                              have HK := Lib.hid hK; have HE := Lib.hid hE
                              clear hK hd hE d2
                              go_wp2_with fail
                              exact K_at (HK.out (.int .i64 du) W (fun _ _ => rfl) (Ext.refl W)) (by kernel_rfl)
                            · intro us W K hE hd hK
                              dsimp only at hK ⊢
                              have HK := Lib.hid hK; have HE := Lib.hid hE
                              clear hK hd hE
                              go_wp2_with fail
                              exact K_at (HK.out (.slice (some ⟨gs, 0, none⟩) 2 2) W (fun _ _ => rfl) (Ext.refl W)) (by kernel_rfl)
                            · intro us W K hE hd hK
                              dsimp only at hK ⊢
                              have HK := Lib.hid hK; have HE := Lib.hid hE
                              clear hK hd hE
                              go_wp2_with fail
                              exact K_at (HK.out (.int .i64 t) W (fun _ _ => rfl) (Ext.refl W)) (by kernel_rfl)
                            · intro us W K hE hd hK
                              have d5 := hd 5 (by kernel_rfl)
                              have hk3 := HK3.out
                              dsimp only at hK ⊢
                              rw [d5] at hK ⊢
                              have HK := Lib.hid hK; have HE := Lib.hid hE
                              clear hK hd hE d5
                              go_wp2_with fail
                              exact K_at (HK.out (.int .i64 k3) W (fun _ _ => rfl) (Ext.refl W)) (by kernel_rfl)
                            · intro us W K hE hd hK
                              have d4 := hd 4 (by kernel_rfl)
                              have d6 := hd 6 (by kernel_rfl)
                              dsimp only at hK ⊢
                              rw [d4, d6] at hK ⊢
                              have HK := Lib.hid hK; have HE := Lib.hid hE
                              clear hK hd hE d4 d6
                              go_wp2_with fail
                              exact K_at (HK.out (.pointer (some ⟨gs, k3, none⟩)) W (fun _ _ => rfl) (Ext.refl W)) (by kernel_rfl)
                            · intro us W K hE hd hK
                              have d7 := hd 7 (by kernel_rfl)
                              have c0 := ((ext_undrew hE).cell (p := ⟨gs, k3, none⟩) HLT.out.2.1).trans HSC.out
                              dsimp only at hK ⊢
                              rw [d7] at hK ⊢
                              have HK := Lib.hid hK; have HE := Lib.hid hE
                              clear hK hd hE d7
                              go_wp2_with fail
                              exact K_at (HK.out (.slice (some ⟨g3, 0, none⟩) sn sc) W (fun _ _ => rfl) (Ext.refl W)) (by kernel_rfl)
                            · intro us W K hE hd hK
                              have d8 := hd 8 (by kernel_rfl)
                              dsimp only at hK ⊢
                              rw [d8] at hK ⊢
                              have HK := Lib.hid hK; have HE := Lib.hid hE
                              clear hK hd hE d8
                              go_wp2_with fail
                              exact K_at (HK.out (.int .i64 sn) W (fun _ _ => rfl) (Ext.refl W)) (by kernel_rfl)
                            · intro us W K hE hd hK
                              have d3 := hd 3 (by kernel_rfl)
                              have d9 := hd 9 (by kernel_rfl)
                              have hge : decide (sn ≤ du) = false := decide_eq_false (by omega)
                              dsimp only at hK ⊢
                              rw [d3, d9] at hK ⊢
                              have HK := Lib.hid hK; have HE := Lib.hid hE
                              clear hK hd hE d3 d9
                              go_wp2_with fail
                              exact K_at (HK.out (.bool false) W (fun _ _ => rfl) (Ext.refl W)) (by kernel_rfl)
                            · intro us W K hE hd hK
                              have d10 := hd 10 (by kernel_rfl)
                              dsimp only at hK ⊢
                              rw [d10] at hK ⊢
                              have HK := Lib.hid hK; have HE := Lib.hid hE
                              clear hK hd hE d10
                              go_wp2_with fail
                              exact K_at (HK.out (.bool false) W (fun _ _ => rfl) (Ext.refl W)) (by kernel_rfl)
                            · intro us W K hE hd hK
                              have d11 := hd 11 (by kernel_rfl)
                              dsimp only at hK ⊢
                              rw [d11] at hK ⊢
                              have HK := Lib.hid hK; have HE := Lib.hid hE
                              clear hK hd hE d11
                              go_wp2_with fail
                              exact K_at (HK.out (.slice (some ⟨gx, 0, none⟩) jb ob) W (fun _ _ => rfl) (Ext.refl W)) (by kernel_rfl)
                            · intro us W K hE hd hK
                              have d11 := hd 11 (by kernel_rfl)
                              dsimp only at hK ⊢
                              rw [d11] at hK ⊢
                              have HK := Lib.hid hK; have HE := Lib.hid hE
                              clear hK hd hE d11
                              go_wp2_with fail
                              exact K_at (HK.out (.int .i64 u) W (fun _ _ => rfl) (Ext.refl W)) (by kernel_rfl)
                            · intro us W K hE hd hK
                              have d11 := hd 11 (by kernel_rfl)
                              have d12 := hd 12 (by kernel_rfl)
                              have d13 := hd 13 (by kernel_rfl)
                              dsimp only at hK ⊢
                              rw [d11, d12, d13] at hK ⊢
                              have HK := Lib.hid hK; have HE := Lib.hid hE
                              clear hK hd hE d11 d12 d13
                              go_wp2_with fail
                              exact K_at (HK.out (.pointer (some ⟨gx, u, none⟩)) W (fun _ _ => rfl) (Ext.refl W)) (by kernel_rfl)
                            · intro us W K hE hd hK
                              have d11 := hd 11 (by kernel_rfl)
                              have d14 := hd 14 (by kernel_rfl)
                              have c0 := ((ext_undrew hE).cell (p := ⟨gx, u, none⟩) HLT.out.2.2.2).trans HXC.out
                              dsimp only at hK ⊢
                              rw [d11, d14] at hK ⊢
                              have HK := Lib.hid hK; have HE := Lib.hid hE
                              clear hK hd hE d11 d14
                              go_wp2_with fail
                              exact K_at (HK.out (.slice Ax 2 cx) W (fun _ _ => rfl) (Ext.refl W)) (by kernel_rfl)
                            · intro us W K hE hd hK
                              have d11 := hd 11 (by kernel_rfl)
                              dsimp only at hK ⊢
                              rw [d11] at hK ⊢
                              have HK := Lib.hid hK; have HE := Lib.hid hE
                              clear hK hd hE d11
                              go_wp2_with fail
                              exact K_at (HK.out (.slice (some ⟨gs, 0, none⟩) 2 2) W (fun _ _ => rfl) (Ext.refl W)) (by kernel_rfl)
                            · intro us W K hE hd hK
                              have d11 := hd 11 (by kernel_rfl)
                              dsimp only at hK ⊢
                              rw [d11] at hK ⊢
                              have HK := Lib.hid hK; have HE := Lib.hid hE
                              clear hK hd hE d11
                              go_wp2_with fail
                              exact K_at (HK.out (.int .i64 t) W (fun _ _ => rfl) (Ext.refl W)) (by kernel_rfl)
                            · intro us W K hE hd hK
                              have d11 := hd 11 (by kernel_rfl)
                              have d17 := hd 17 (by kernel_rfl)
                              have hk3 := HK3.out
                              dsimp only at hK ⊢
                              rw [d11, d17] at hK ⊢
                              have HK := Lib.hid hK; have HE := Lib.hid hE
                              clear hK hd hE d11 d17
                              go_wp2_with fail
                              exact K_at (HK.out (.int .i64 k3) W (fun _ _ => rfl) (Ext.refl W)) (by kernel_rfl)
                            · intro us W K hE hd hK
                              have d11 := hd 11 (by kernel_rfl)
                              have d16 := hd 16 (by kernel_rfl)
                              have d18 := hd 18 (by kernel_rfl)
                              dsimp only at hK ⊢
                              rw [d11, d16, d18] at hK ⊢
                              have HK := Lib.hid hK; have HE := Lib.hid hE
                              clear hK hd hE d11 d16 d18
                              go_wp2_with fail
                              exact K_at (HK.out (.pointer (some ⟨gs, k3, none⟩)) W (fun _ _ => rfl) (Ext.refl W)) (by kernel_rfl)
                            · intro us W K hE hd hK
                              have d11 := hd 11 (by kernel_rfl)
                              have d19 := hd 19 (by kernel_rfl)
                              have c0 := ((ext_undrew hE).cell (p := ⟨gs, k3, none⟩) HLT.out.2.1).trans HSC.out
                              dsimp only at hK ⊢
                              rw [d11, d19] at hK ⊢
                              have HK := Lib.hid hK; have HE := Lib.hid hE
                              clear hK hd hE d11 d19
                              go_wp2_with fail
                              exact K_at (HK.out (.slice (some ⟨g3, 0, none⟩) sn sc) W (fun _ _ => rfl) (Ext.refl W)) (by kernel_rfl)
                            · intro us W K hE hd hK
                              have d11 := hd 11 (by kernel_rfl)
                              dsimp only at hK ⊢
                              rw [d11] at hK ⊢
                              have HK := Lib.hid hK; have HE := Lib.hid hE
                              clear hK hd hE d11
                              go_wp2_with fail
                              exact K_at (HK.out (.slice (some ⟨gg, 0, none⟩) 2 2) W (fun _ _ => rfl) (Ext.refl W)) (by kernel_rfl)
                            · intro us W K hE hd hK
                              have d11 := hd 11 (by kernel_rfl)
                              dsimp only at hK ⊢
                              rw [d11] at hK ⊢
                              have HK := Lib.hid hK; have HE := Lib.hid hE
                              clear hK hd hE d11
                              go_wp2_with fail
                              exact K_at (HK.out (.int .i64 t) W (fun _ _ => rfl) (Ext.refl W)) (by kernel_rfl)
                            · intro us W K hE hd hK
                              have d11 := hd 11 (by kernel_rfl)
                              have d21 := hd 21 (by kernel_rfl)
                              have d22 := hd 22 (by kernel_rfl)
                              dsimp only at hK ⊢
                              rw [d11, d21, d22] at hK ⊢
                              have HK := Lib.hid hK; have HE := Lib.hid hE
                              clear hK hd hE d11 d21 d22
                              go_wp2_with fail
                              exact K_at (HK.out (.pointer (some ⟨gg, t, none⟩)) W (fun _ _ => rfl) (Ext.refl W)) (by kernel_rfl)
                            · intro us W K hE hd hK
                              have d11 := hd 11 (by kernel_rfl)
                              have d23 := hd 23 (by kernel_rfl)
                              have c0 := ((ext_undrew hE).cell (p := ⟨gg, t, none⟩) HLT.out.1).trans HGC.out.1
                              dsimp only at hK ⊢
                              rw [d11, d23] at hK ⊢
                              have HK := Lib.hid hK; have HE := Lib.hid hE
                              clear hK hd hE d11 d23
                              go_wp2_with fail
                              exact K_at (HK.out (.int .i64 du) W (fun _ _ => rfl) (Ext.refl W)) (by kernel_rfl)
                            · intro us W K hE hd hK
                              have d11 := hd 11 (by kernel_rfl)
                              have d20 := hd 20 (by kernel_rfl)
                              have d24 := hd 24 (by kernel_rfl)
                              dsimp only at hK ⊢
                              rw [d11, d20, d24] at hK ⊢
                              have HK := Lib.hid hK; have HE := Lib.hid hE
                              clear hK hd hE d11 d20 d24
                              go_wp2_with fail
                              exact K_at (HK.out (.pointer (some ⟨g3, du, none⟩)) W (fun _ _ => rfl) (Ext.refl W)) (by kernel_rfl)
                            · intro us W K hE hd hK
                              have d11 := hd 11 (by kernel_rfl)
                              have d25 := hd 25 (by kernel_rfl)
                              have c0 := ((ext_undrew hE).cell (p := ⟨g3, du, none⟩) HLT.out.2.2.1).trans H3C.out
                              dsimp only at hK ⊢
                              rw [d11, d25] at hK ⊢
                              have HK := Lib.hid hK; have HE := Lib.hid hE
                              clear hK hd hE d11 d25
                              go_wp2_with fail
                              exact K_at (HK.out (.slice (some ⟨G3, 0, none⟩) 2 c3) W (fun _ _ => rfl) (Ext.refl W)) (by kernel_rfl)
                            · intro us W K hE hd hK
                              have d11 := hd 11 (by kernel_rfl)
                              have d15 := hd 15 (by kernel_rfl)
                              have d26 := hd 26 (by kernel_rfl)
                              have HSM := Lib.hid (same_self2 msg Ax (some ⟨G3, 0, none⟩) 2 cx 2 c3 W (HRX.out.ext' (ext_undrew hE)) (HR3.out.ext' (ext_undrew hE)) (by decide))
                              dsimp only at hK ⊢
                              rw [d11, d15, d26] at hK ⊢
                              have HK := Lib.hid hK; have HE := Lib.hid hE
                              clear hK hd hE d11 d15 d26
                              go_wp2_with (go_loud (go_at_call 29; (with_reducible refine HSM.out.mono ?_); rintro e W2 ⟨rfl, hd⟩; have E2 := Lib.hid hd; clear hd))
                              exact K_at (HK.out (.bool true) W2 (fun _ _ => rfl) (ext_drew E2.out)) (by kernel_rfl)
                            · intro us W K hE hd hK
                              have d11 := hd 11 (by kernel_rfl)
                              have d27 := hd 27 (by kernel_rfl)
                              dsimp only at hK ⊢
                              rw [d11, d27] at hK ⊢
                              have HK := Lib.hid hK; have HE := Lib.hid hE
                              clear hK hd hE d11 d27
                              go_wp2_with fail
                              exact K_at (HK.out (.bool false) W (fun _ _ => rfl) (Ext.refl W)) (by kernel_rfl)
                            · intro us W K hE hd hK
                              have d11 := hd 11 (by kernel_rfl)
                              have d28 := hd 28 (by kernel_rfl)
                              dsimp only at hK ⊢
                              rw [d11, d28] at hK ⊢
                              have HK := Lib.hid hK; have HE := Lib.hid hE
                              clear hK hd hE d11 d28
                              go_wp2_with fail
                              exact K_at (HK.out (.bool false) W (fun _ _ => rfl) (Ext.refl W)) (by kernel_rfl)
                          · intro us W hE hd
                            try dsimp only
                            have d29 := hd 29 (by decide)
                            simp only [List.drop_succ_cons, List.drop_zero]
                            rw [d29]
                            have HSW := Lib.hid (HS.out.ext' (WF.stab hJ2.out) (ext_undrew hE))
                            have c0 := ((ext_undrew hE).cell (p := ⟨gg, t, none⟩) HLT.out.1).trans HGC.out.1
                            have f0 : W.frozen? ⟨gg, t, none⟩ = false := (frozen_ext2 (ext_undrew hE) HLT.out.1).trans HGC.out.2
                            have hdub : du ≤ 80 := by omega
                            clear hd hE d29 HS
                            go_wp2_with fail
                            have HSZ := Lib.hid (fam_set HSW.out hJ2.out (i := 1) (by decide) HM.out.v1 t (.int .i64 ((du + 1 : Nat) : Int)))
                            rw [updE_same, numC_set _ ht2] at HSZ
                            clear c0 f0
                            go_roundw
                            case rel => exact ⟨u + 1, by omega, by go_num, by
                              have e1 : updE (updE d t (d t + u)) t (du + 1) = updE d t (d t + (u + 1)) := by rw [updE_idem, HDU.out]; rfl
                              have h := HSZ.out
                              rw [e1] at h
                              have e2 : ∀ y, updE (updE X 1 (numC (updE d t (d t + u)))) 1 y = updE X 1 y := fun y => updE_idem X 1 _ y
                              rw [e2] at h
                              exact h⟩
                            case measure => simp [intOf]; omega
                        · obtain rfl : u = jb := by omega
                          go_wp2_with fail
                          go_meet
                          case rel => exact ord_rel HV4.out HV5.out (ord_got HR2.out HM.out HJQ.out.symm HS.out)
      case rest =>
        have HC := Lib.hid hcut
        clear hcut
        clear HS HR HM HV4 HV5 HX4 HX5 HNP
        obtain ⟨E2, S2, a2, d2, pk2, tos2, V2, X2, h10, h11, R2, M2, hS2⟩ := HC.out
        clear h10 h11
        have HR2 := Lib.hid R2; have HM2 := Lib.hid M2; have HS2 := Lib.hid hS2
        clear R2 M2 hS2
        have hJ3 := Lib.hid (OrdJ.stab P ge S2 X2 pk2)
        go_wp2_with fail
        go_loopw [23] (fun j wx => ∃ q : Nat, q ≤ 2 ∧ j = .int .i64 q ∧ Ext wc wx) (fun j _ => 2 - (intOf j).toNat)
        case atStart => exact ⟨0, by omega, rfl, Ext.refl _⟩
        case round =>
          obtain ⟨q, hq, rfl, hE⟩ := hrel
          have HEo := Lib.hid hE
          clear hE
          obtain ⟨wk, rfl⟩ : ∃ x : World, x = wr := ⟨_, rfl⟩
          by_cases hq2 : q < 2
          · have HSk := Lib.hid (HS2.out.ext' (WF.stab hJ3.out) HEo.out)
            obtain ⟨L0, M0, hI0, _, _⟩ := HSk.out.get
            have HCE : Hid (wk.cell? ⟨ge, q, none⟩ = some (.pointer (some ⟨P q, 0, none⟩))) := Lib.hid (hI0.1.1.at_ q _ (ptrC_at P hq2))
            obtain ⟨q2, hqe, hqe2⟩ : ∃ j : Nat, (1 : Int) - (q : Int) = j ∧ j = 1 - q := ⟨1 - q, by omega, rfl⟩
            have hq22 : q2 < 2 := by omega
            have hsc := fam_cells hI0.2 (i := 0) (by decide) HM2.out.v0
            have hgc := fam_cells hI0.2 (i := 1) (by decide) HM2.out.v1
            have hst := (hsc.2.2 q hq2).1
            have hgt := (hgc.2.2 q2 hq22).1
            rw [HM2.out.at0 hq2] at hst
            rw [HM2.out.x1, numC_at _ hq22] at hgt
            obtain ⟨sA, sc, hVk, _, _⟩ := fam_form hI0.2 (i := 2 + q) (by omega)
            obtain ⟨sn, hsn⟩ : ∃ x, x = (X2 (2 + q)).length := ⟨_, rfl⟩
            rw [hVk, ← hsn] at hst
            have hsS : sn = (S2 q).length := by rw [hsn]; exact (hI0.1.2.1 q hq2).1
            have hask := HR2.out.asks hq2
            rw [← hsS] at hask
            have hsl := HR2.out.sl q hq2
            obtain ⟨wl, hwl⟩ : ∃ x, x = (E2 q).waiting.length := ⟨_, rfl⟩
            obtain ⟨dq, hdq⟩ : ∃ x, x = d2 q2 := ⟨_, rfl⟩
            rw [← hwl, ← hqe2, ← hdq] at hask
            obtain ⟨ha1, ha2, ha3, ha4⟩ := hask
            rw [← hdq] at hgt
            have hsnb : sn ≤ 100 := by omega
            obtain ⟨sd, hsd, hsd2⟩ : ∃ x : Nat, (sn : Int) - (dq : Int) = x ∧ x = sn - dq := ⟨sn - dq, by omega, rfl⟩
            have hwsd : sd ≤ wl := by omega
            have HSC := Lib.hid hst; have HGC := Lib.hid hgt; have HWL := Lib.hid hwl; have HFG := Lib.hid ha4; have HSD := Lib.hid hsd; have HQE := Lib.hid hqe
            have HLT : Hid (ge < wk.heap.size ∧ gs < wk.heap.size ∧ gg < wk.heap.size) := Lib.hid ⟨hI0.1.1.lt, hsc.2.1, hgc.2.1⟩
            clear hI0 hsc hgc hst hgt hVk hsn hsS hwl hdq hsd hsd2 ha4 hqe hqe2 hsl
            go_upto_region 43 with fail
            generalize decide ((q : Int) < 2) = bq
            refine wp_region_flowF 38 ?F43 (fun us => ?_) (by kernel_rfl) (by kernel_rfl) (fun a b => Ext a b) Ext.refl (fun h1 h2 => h1.next h2) (fun i v W => match i with
              | 0 => v = .slice (some ⟨ge, 0, none⟩) 2 2
              | 1 => v = .int .i64 q
              | 2 => v = .pointer (some ⟨ge, q, none⟩)
              | 3 => v = .pointer (some ⟨P q, 0, none⟩)
              | 4 => v = .int .i64 wl
              | 5 => v = .slice (some ⟨gs, 0, none⟩) 2 2
              | 6 => v = .int .i64 q
              | 7 => v = .pointer (some ⟨gs, q, none⟩)
              | 8 => v = .slice sA sn sc
              | 9 => v = .int .i64 sn
              | 10 => v = .bool false
              | 11 => v = .bool false
              | 12 => v = .slice (some ⟨ge, 0, none⟩) 2 2
              | 13 => v = .int .i64 q
              | 14 => v = .pointer (some ⟨ge, q, none⟩)
              | 15 => v = .pointer (some ⟨P q, 0, none⟩)
              | 16 => v = .int .i64 wl
              | 17 => v = .slice (some ⟨gs, 0, none⟩) 2 2
              | 18 => v = .int .i64 q
              | 19 => v = .pointer (some ⟨gs, q, none⟩)
              | 20 => v = .slice sA sn sc
              | 21 => v = .int .i64 sn
              | 22 => v = .slice (some ⟨gg, 0, none⟩) 2 2
              | 23 => v = .int .i64 q
              | 24 => v = .int .i64 q2
              | 25 => v = .pointer (some ⟨gg, q2, none⟩)
              | 26 => v = .int .i64 dq
              | 27 => v = .int .i64 sd
              | 28 => v = .bool false
              | 29 => v = .bool false
              | 30 => v = .bool false
              | 31 => v = .slice (some ⟨ge, 0, none⟩) 2 2
              | 32 => v = .int .i64 q
              | 33 => v = .pointer (some ⟨ge, q, none⟩)
              | 34 => v = .pointer (some ⟨P q, 0, none⟩)
              | 35 => v = .int .i64 0
              | 36 => v = .bool false
              | 37 => v = .bool false
              | _ => True) ?_ ?_
            case refine_1 =>
              simp only [List.take_succ_cons, List.take_zero, flowAct, Nat.zero_add, Nat.reduceAdd, Act.put, List.setIfInBounds_toArray, List.set_cons_succ, List.set_cons_zero]
              rfl
            · simp only [List.take_succ_cons, List.take_zero, flowStepsF]
              refine ⟨?_, ?_, ?_, ?_, ?_, ?_, ?_, ?_, ?_, ?_, ?_, ?_, ?_, ?_, ?_, ?_, ?_, ?_, ?_, ?_, ?_, ?_, ?_, ?_, ?_, ?_, ?_, ?_, ?_, ?_, ?_, ?_, ?_, ?_, ?_, ?_, ?_, ?_, trivial⟩
              · intro us W K hE hd hK
                dsimp only at hK ⊢
                have HK := Lib.hid hK; have HE := Lib.hid hE
                clear hK hd hE
                go_wp2_with fail
                exact K_at (HK.out (.slice (some ⟨ge, 0, none⟩) 2 2) W (fun _ _ => rfl) (Ext.refl W)) (by kernel_rfl)
              · intro us W K hE hd hK
                dsimp only at hK ⊢
                have HK := Lib.hid hK; have HE := Lib.hid hE
                clear hK hd hE
                go_wp2_with fail
                exact K_at (HK.out (.int .i64 q) W (fun _ _ => rfl) (Ext.refl W)) (by kernel_rfl)
              · intro us W K hE hd hK
                have d0 := hd 0 (by kernel_rfl)
                have d1 := hd 1 (by kernel_rfl)
                dsimp only at hK ⊢
                rw [d0, d1] at hK ⊢
                have HK := Lib.hid hK; have HE := Lib.hid hE
                clear hK hd hE d0 d1
                go_wp2_with fail
                exact K_at (HK.out (.pointer (some ⟨ge, q, none⟩)) W (fun _ _ => rfl) (Ext.refl W)) (by kernel_rfl)
              · intro us W K hE hd hK
                have d2 := hd 2 (by kernel_rfl)
                have c0 := ((ext_undrew hE).cell (p := ⟨ge, q, none⟩) HLT.out.1).trans HCE.out
                dsimp only at hK ⊢
                rw [d2] at hK ⊢
                have HK := Lib.hid hK; have HE := Lib.hid hE
                clear hK hd hE d2
                go_wp2_with fail
                exact K_at (HK.out (.pointer (some ⟨P q, 0, none⟩)) W (fun _ _ => rfl) (Ext.refl W)) (by kernel_rfl)
              · intro us W K hE hd hK
                have d3 := hd 3 (by kernel_rfl)
                have HSW := Lib.hid (HSk.out.ext' (WF.stab hJ3.out) (ext_undrew hE))
                dsimp only at hK ⊢
                rw [d3] at hK ⊢
                have HK := Lib.hid hK; have HE := Lib.hid hE
                clear hK hd hE d3
                go_wp2_with (go_loud (go_at_call 21; (with_reducible refine (ls_waiting HSW.out hq2).mono ?_); rintro e wx ⟨rfl, rfl⟩; rw [← HWL.out]))
                exact K_at (HK.out (.int .i64 wl) W (fun _ _ => rfl) (Ext.refl W)) (by kernel_rfl)
              · intro us W K hE hd hK
                dsimp only at hK ⊢
                have HK := Lib.hid hK; have HE := Lib.hid hE
                clear hK hd hE
                go_wp2_with fail
                exact K_at (HK.out (.slice (some ⟨gs, 0, none⟩) 2 2) W (fun _ _ => rfl) (Ext.refl W)) (by kernel_rfl)
              · intro us W K hE hd hK
                dsimp only at hK ⊢
                have HK := Lib.hid hK; have HE := Lib.hid hE
                clear hK hd hE
                go_wp2_with fail
                exact K_at (HK.out (.int .i64 q) W (fun _ _ => rfl) (Ext.refl W)) (by kernel_rfl)
              · intro us W K hE hd hK
                have d5 := hd 5 (by kernel_rfl)
                have d6 := hd 6 (by kernel_rfl)
                dsimp only at hK ⊢
                rw [d5, d6] at hK ⊢
                have HK := Lib.hid hK; have HE := Lib.hid hE
                clear hK hd hE d5 d6
                go_wp2_with fail
                exact K_at (HK.out (.pointer (some ⟨gs, q, none⟩)) W (fun _ _ => rfl) (Ext.refl W)) (by kernel_rfl)
              · intro us W K hE hd hK
                have d7 := hd 7 (by kernel_rfl)
                have c0 := ((ext_undrew hE).cell (p := ⟨gs, q, none⟩) HLT.out.2.1).trans HSC.out
                dsimp only at hK ⊢
                rw [d7] at hK ⊢
                have HK := Lib.hid hK; have HE := Lib.hid hE
                clear hK hd hE d7
                go_wp2_with fail
                exact K_at (HK.out (.slice sA sn sc) W (fun _ _ => rfl) (Ext.refl W)) (by kernel_rfl)
              · intro us W K hE hd hK
                have d8 := hd 8 (by kernel_rfl)
                dsimp only at hK ⊢
                rw [d8] at hK ⊢
                have HK := Lib.hid hK; have HE := Lib.hid hE
                clear hK hd hE d8
                go_wp2_with fail
                exact K_at (HK.out (.int .i64 sn) W (fun _ _ => rfl) (Ext.refl W)) (by kernel_rfl)
              · intro us W K hE hd hK
                have d4 := hd 4 (by kernel_rfl)
                have d9 := hd 9 (by kernel_rfl)
                have hgt : decide (sn < wl) = false := decide_eq_false (by omega)
                dsimp only at hK ⊢
                rw [d4, d9] at hK ⊢
                have HK := Lib.hid hK; have HE := Lib.hid hE
                clear hK hd hE d4 d9
                go_wp2_with fail
                exact K_at (HK.out (.bool false) W (fun _ _ => rfl) (Ext.refl W)) (by kernel_rfl)
              · intro us W K hE hd hK
                have d10 := hd 10 (by kernel_rfl)
                dsimp only at hK ⊢
                rw [d10] at hK ⊢
                have HK := Lib.hid hK; have HE := Lib.hid hE
                clear hK hd hE d10
                go_wp2_with fail
                exact K_at (HK.out (.bool false) W (fun _ _ => rfl) (Ext.refl W)) (by kernel_rfl)
              · intro us W K hE hd hK
                have d11 := hd 11 (by kernel_rfl)
                dsimp only at hK ⊢
                rw [d11] at hK ⊢
                have HK := Lib.hid hK; have HE := Lib.hid hE
                clear hK hd hE d11
                go_wp2_with fail
                exact K_at (HK.out (.slice (some ⟨ge, 0, none⟩) 2 2) W (fun _ _ => rfl) (Ext.refl W)) (by kernel_rfl)
              · intro us W K hE hd hK
                have d11 := hd 11 (by kernel_rfl)
                dsimp only at hK ⊢
                rw [d11] at hK ⊢
                have HK := Lib.hid hK; have HE := Lib.hid hE
                clear hK hd hE d11
                go_wp2_with fail
                exact K_at (HK.out (.int .i64 q) W (fun _ _ => rfl) (Ext.refl W)) (by kernel_rfl)
              · intro us W K hE hd hK
                have d11 := hd 11 (by kernel_rfl)
                have d12 := hd 12 (by kernel_rfl)
                have d13 := hd 13 (by kernel_rfl)
                dsimp only at hK ⊢
                rw [d11, d12, d13] at hK ⊢
                have HK := Lib.hid hK; have HE := Lib.hid hE
                clear hK hd hE d11 d12 d13
                go_wp2_with fail
                exact K_at (HK.out (.pointer (some ⟨ge, q, none⟩)) W (fun _ _ => rfl) (Ext.refl W)) (by kernel_rfl)
              · intro us W K hE hd hK
                have d11 := hd 11 (by kernel_rfl)
                have d14 := hd 14 (by kernel_rfl)
                have c0 := ((ext_undrew hE).cell (p := ⟨ge, q, none⟩) HLT.out.1).trans HCE.out
                dsimp only at hK ⊢
                rw [d11, d14] at hK ⊢
                have HK := Lib.hid hK; have HE := Lib.hid hE
                clear hK hd hE d11 d14
                go_wp2_with fail
                exact K_at (HK.out (.pointer (some ⟨P q, 0, none⟩)) W (fun _ _ => rfl) (Ext.refl W)) (by kernel_rfl)
              · intro us W K hE hd hK
                have d11 := hd 11 (by kernel_rfl)
                have d15 := hd 15 (by kernel_rfl)
                have HSW := Lib.hid (HSk.out.ext' (WF.stab hJ3.out) (ext_undrew hE))
                dsimp only at hK ⊢
                rw [d11, d15] at hK ⊢
                have HK := Lib.hid hK; have HE := Lib.hid hE
                clear hK hd hE d11 d15
                go_wp2_with (go_loud (go_at_call 21; (with_reducible refine (ls_waiting HSW.out hq2).mono ?_); rintro e wx ⟨rfl, rfl⟩; rw [← HWL.out]))
                exact K_at (HK.out (.int .i64 wl) W (fun _ _ => rfl) (Ext.refl W)) (by kernel_rfl)
              · intro us W K hE hd hK
                have d11 := hd 11 (by kernel_rfl)
                dsimp only at hK ⊢
                rw [d11] at hK ⊢
                have HK := Lib.hid hK; have HE := Lib.hid hE
                clear hK hd hE d11
                go_wp2_with fail
                exact K_at (HK.out (.slice (some ⟨gs, 0, none⟩) 2 2) W (fun _ _ => rfl) (Ext.refl W)) (by kernel_rfl)
              · intro us W K hE hd hK
                have d11 := hd 11 (by kernel_rfl)
                dsimp only at hK ⊢
                rw [d11] at hK ⊢
                have HK := Lib.hid hK; have HE := Lib.hid hE
                clear hK hd hE d11
                go_wp2_with fail
                exact K_at (HK.out (.int .i64 q) W (fun _ _ => rfl) (Ext.refl W)) (by kernel_rfl)
              · intro us W K hE hd hK
                have d11 := hd 11 (by kernel_rfl)
                have d17 := hd 17 (by kernel_rfl)
                have d18 := hd 18 (by kernel_rfl)
                dsimp only at hK ⊢
                rw [d11, d17, d18] at hK ⊢
                have HK := Lib.hid hK; have HE := Lib.hid hE
                clear hK hd hE d11 d17 d18
                go_wp2_with fail
                exact K_at (HK.out (.pointer (some ⟨gs, q, none⟩)) W (fun _ _ => rfl) (Ext.refl W)) (by kernel_rfl)
              · intro us W K hE hd hK
                have d11 := hd 11 (by kernel_rfl)
                have d19 := hd 19 (by kernel_rfl)
                have c0 := ((ext_undrew hE).cell (p := ⟨gs, q, none⟩) HLT.out.2.1).trans HSC.out
                dsimp only at hK ⊢
                rw [d11, d19] at hK ⊢
                have HK := Lib.hid hK; have HE := Lib.hid hE
                clear hK hd hE d11 d19
                go_wp2_with fail
                exact K_at (HK.out (.slice sA sn sc) W (fun _ _ => rfl) (Ext.refl W)) (by kernel_rfl)
              · intro us W K hE hd hK
                have d11 := hd 11 (by kernel_rfl)
                have d20 := hd 20 (by kernel_rfl)
                dsimp only at hK ⊢
                rw [d11, d20] at hK ⊢
                have HK := Lib.hid hK; have HE := Lib.hid hE
                clear hK hd hE d11 d20
                go_wp2_with fail
                exact K_at (HK.out (.int .i64 sn) W (fun _ _ => rfl) (Ext.refl W)) (by kernel_rfl)
              · intro us W K hE hd hK
                have d11 := hd 11 (by kernel_rfl)
                dsimp only at hK ⊢
                rw [d11] at hK ⊢
                have HK := Lib.hid hK; have HE := Lib.hid hE
                clear hK hd hE d11
                go_wp2_with fail
                exact K_at (HK.out (.slice (some ⟨gg, 0, none⟩) 2 2) W (fun _ _ => rfl) (Ext.refl W)) (by kernel_rfl)
              · intro us W K hE hd hK
                have d11 := hd 11 (by kernel_rfl)
                dsimp only at hK ⊢
                rw [d11] at hK ⊢
                have HK := Lib.hid hK; have HE := Lib.hid hE
                clear hK hd hE d11
                go_wp2_with fail
                exact K_at (HK.out (.int .i64 q) W (fun _ _ => rfl) (Ext.refl W)) (by kernel_rfl)
              · intro us W K hE hd hK
                have d11 := hd 11 (by kernel_rfl)
                have d23 := hd 23 (by kernel_rfl)
                have hqe := HQE.out
                dsimp only at hK ⊢
                rw [d11, d23] at hK ⊢
                have HK := Lib.hid hK; have HE := Lib.hid hE
                clear hK hd hE d11 d23
                go_wp2_with fail
                exact K_at (HK.out (.int .i64 q2) W (fun _ _ => rfl) (Ext.refl W)) (by kernel_rfl)
              · intro us W K hE hd hK
                have d11 := hd 11 (by kernel_rfl)
                have d22 := hd 22 (by kernel_rfl)
                have d24 := hd 24 (by kernel_rfl)
                dsimp only at hK ⊢
                rw [d11, d22, d24] at hK ⊢
                have HK := Lib.hid hK; have HE := Lib.hid hE
                clear hK hd hE d11 d22 d24
                go_wp2_with fail
                exact K_at (HK.out (.pointer (some ⟨gg, q2, none⟩)) W (fun _ _ => rfl) (Ext.refl W)) (by kernel_rfl)
              · intro us W K hE hd hK
                have d11 := hd 11 (by kernel_rfl)
                have d25 := hd 25 (by kernel_rfl)
                have c0 := ((ext_undrew hE).cell (p := ⟨gg, q2, none⟩) HLT.out.2.2).trans HGC.out
                dsimp only at hK ⊢
                rw [d11, d25] at hK ⊢
                have HK := Lib.hid hK; have HE := Lib.hid hE
                clear hK hd hE d11 d25
                go_wp2_with fail
                exact K_at (HK.out (.int .i64 dq) W (fun _ _ => rfl) (Ext.refl W)) (by kernel_rfl)
              · intro us W K hE hd hK
                have d11 := hd 11 (by kernel_rfl)
                have d21 := hd 21 (by kernel_rfl)
                have d26 := hd 26 (by kernel_rfl)
                have hsd := HSD.out
                dsimp only at hK ⊢
                rw [d11, d21, d26] at hK ⊢
                have HK := Lib.hid hK; have HE := Lib.hid hE
                clear hK hd hE d11 d21 d26
                go_wp2_with fail
                exact K_at (HK.out (.int .i64 sd) W (fun _ _ => rfl) (Ext.refl W)) (by kernel_rfl)
              · intro us W K hE hd hK
                have d11 := hd 11 (by kernel_rfl)
                have d16 := hd 16 (by kernel_rfl)
                have d27 := hd 27 (by kernel_rfl)
                have hlt : decide (wl < sd) = false := decide_eq_false (by omega)
                dsimp only at hK ⊢
                rw [d11, d16, d27] at hK ⊢
                have HK := Lib.hid hK; have HE := Lib.hid hE
                clear hK hd hE d11 d16 d27
                go_wp2_with fail
                exact K_at (HK.out (.bool false) W (fun _ _ => rfl) (Ext.refl W)) (by kernel_rfl)
              · intro us W K hE hd hK
                have d11 := hd 11 (by kernel_rfl)
                have d28 := hd 28 (by kernel_rfl)
                dsimp only at hK ⊢
                rw [d11, d28] at hK ⊢
                have HK := Lib.hid hK; have HE := Lib.hid hE
                clear hK hd hE d11 d28
                go_wp2_with fail
                exact K_at (HK.out (.bool false) W (fun _ _ => rfl) (Ext.refl W)) (by kernel_rfl)
              · intro us W K hE hd hK
                have d29 := hd 29 (by kernel_rfl)
                dsimp only at hK ⊢
                rw [d29] at hK ⊢
                have HK := Lib.hid hK; have HE := Lib.hid hE
                clear hK hd hE d29
                go_wp2_with fail
                exact K_at (HK.out (.bool false) W (fun _ _ => rfl) (Ext.refl W)) (by kernel_rfl)
              · intro us W K hE hd hK
                have d30 := hd 30 (by kernel_rfl)
                dsimp only at hK ⊢
                rw [d30] at hK ⊢
                have HK := Lib.hid hK; have HE := Lib.hid hE
                clear hK hd hE d30
                go_wp2_with fail
                exact K_at (HK.out (.slice (some ⟨ge, 0, none⟩) 2 2) W (fun _ _ => rfl) (Ext.refl W)) (by kernel_rfl)
              · intro us W K hE hd hK
                have d30 := hd 30 (by kernel_rfl)
                dsimp only at hK ⊢
                rw [d30] at hK ⊢
                have HK := Lib.hid hK; have HE := Lib.hid hE
                clear hK hd hE d30
                go_wp2_with fail
                exact K_at (HK.out (.int .i64 q) W (fun _ _ => rfl) (Ext.refl W)) (by kernel_rfl)
              · intro us W K hE hd hK
                have d30 := hd 30 (by kernel_rfl)
                have d31 := hd 31 (by kernel_rfl)
                have d32 := hd 32 (by kernel_rfl)
                dsimp only at hK ⊢
                rw [d30, d31, d32] at hK ⊢
                have HK := Lib.hid hK; have HE := Lib.hid hE
                clear hK hd hE d30 d31 d32
                go_wp2_with fail
                exact K_at (HK.out (.pointer (some ⟨ge, q, none⟩)) W (fun _ _ => rfl) (Ext.refl W)) (by kernel_rfl)
              · intro us W K hE hd hK
                have d30 := hd 30 (by kernel_rfl)
                have d33 := hd 33 (by kernel_rfl)
                have c0 := ((ext_undrew hE).cell (p := ⟨ge, q, none⟩) HLT.out.1).trans HCE.out
                dsimp only at hK ⊢
                rw [d30, d33] at hK ⊢
                have HK := Lib.hid hK; have HE := Lib.hid hE
                clear hK hd hE d30 d33
                go_wp2_with fail
                exact K_at (HK.out (.pointer (some ⟨P q, 0, none⟩)) W (fun _ _ => rfl) (Ext.refl W)) (by kernel_rfl)
              · intro us W K hE hd hK
                have d30 := hd 30 (by kernel_rfl)
                have d34 := hd 34 (by kernel_rfl)
                have HSW := Lib.hid (HSk.out.ext' (WF.stab hJ3.out) (ext_undrew hE))
                dsimp only at hK ⊢
                rw [d30, d34] at hK ⊢
                have HK := Lib.hid hK; have HE := Lib.hid hE
                clear hK hd hE d30 d34
                go_wp2_with (go_loud (go_at_call 22; (with_reducible refine (ls_forged HSW.out hq2).mono ?_); rintro e wx ⟨rfl, rfl⟩; rw [HFG.out]))
                exact K_at (HK.out (.int .i64 0) W (fun _ _ => rfl) (Ext.refl W)) (by kernel_rfl)
              · intro us W K hE hd hK
                have d30 := hd 30 (by kernel_rfl)
                have d35 := hd 35 (by kernel_rfl)
                dsimp only at hK ⊢
                rw [d30, d35] at hK ⊢
                have HK := Lib.hid hK; have HE := Lib.hid hE
                clear hK hd hE d30 d35
                go_wp2_with fail
                exact K_at (HK.out (.bool false) W (fun _ _ => rfl) (Ext.refl W)) (by kernel_rfl)
              · intro us W K hE hd hK
                have d30 := hd 30 (by kernel_rfl)
                have d36 := hd 36 (by kernel_rfl)
                dsimp only at hK ⊢
                rw [d30, d36] at hK ⊢
                have HK := Lib.hid hK; have HE := Lib.hid hE
                clear hK hd hE d30 d36
                go_wp2_with fail
                exact K_at (HK.out (.bool false) W (fun _ _ => rfl) (Ext.refl W)) (by kernel_rfl)
            · intro us W hE hd
              try dsimp only
              have d37 := hd 37 (by decide)
              simp only [List.drop_succ_cons, List.drop_zero]
              rw [d37]
              have HEx : Hid (Ext wc W) := Lib.hid (HEo.out.next (ext_undrew hE))
              clear hd hE d37
              go_wp2_with fail
              go_roundw
              case rel => exact ⟨q + 1, by omega, by go_num, HEx.out⟩
              case measure => simp [intOf]; omega
          · have hq3 : 2 ≤ q := by omega
            go_wp2_with fail
            go_roundw
            case rel => exact ⟨m + 1, by omega, by go_num, HC.out.ext HEo.out⟩
            case measure => simp [intOf]; omega
    · have hm2 : N ≤ m := by omega
      by_cases hmn : m < n
      · have hm80 : 80 ≤ m := by omega
        go_wp2_with (go_loud (go_at_call 23; (with_reducible refine (lives_any wo).mono ?_); rintro e w20 ⟨rfl, hE20⟩; have E20 := Lib.hid hE20; clear hE20))
        go_ret
        exact ⟨rfl, HO.out.e.next E20.out⟩
      · have hmn2 : n ≤ m := by omega
        go_wp2_with (go_loud (go_at_call 23; (with_reducible refine (lives_any wo).mono ?_); rintro e w20 ⟨rfl, hE20⟩; have E20 := Lib.hid hE20; clear hE20))
        go_ret
        exact ⟨rfl, HO.out.e.next E20.out⟩
namespace fnLinkOrder
theorem params_linkOrder : (Try.f5.params.toList.all fun t => Try.prog.readableRec t && decide (t < Try.prog.types.size)) = true := by kernel_rfl
theorem contract (H : Type) (enc : TypeId × Value → H) (W : World) (base : Nat) (args : Array Value) (ds gs : List (DataW H)) (before : List MemPlace)
    (hval : ∀ (j : Nat) t v, Try.f5.params[j]? = some t → args[j]? = some v → Value.okWide Try.prog W .any base t v)
    (hW : DataW.Whole enc Try.prog Try.f5.params.toList Rows.linkOrderSpec.vars false W args.toList ds gs before) :
    Calls Try.prog 5 args W fun e W' => ∃ v, e = .returned v ∧ Rows.linkOrderSpec.post enc Try.prog Try.f5 false true false false W args v W' := by
  have hW' := hW
  obtain ⟨p, q, hA0, _, _, _, _⟩ := hW
  have hA : DataW.TrodAll enc Try.prog W 0 (fun _ => true) true Try.f5.params.toList args.toList ds p := hA0
  rw [Try.params5] at hA hval
  obtain ⟨v0, vs0, d0, ds0, p0, q0, hargs, e0d, e0p, h0, r0⟩ := trodAll_cons hA
  obtain ⟨v1, vs1, d1, ds1, p1, q1, e1, e1d, e1p, h1, r1⟩ := trodAll_cons r0
  obtain ⟨v2, vs2, d2, ds2, p2, q2, e2, e2d, e2p, h2, r2⟩ := trodAll_cons r1
  obtain ⟨en1, en2, en3⟩ := trodAll_nil r2
  obtain rfl : args = #[v0, v1, v2] := by cases args; simp_all
  clear hA hA0
  obtain ⟨window, rfl, _, _, hwin⟩ := open_int Try.underlying3 (hval 0 _ v0 rfl rfl) h0
  obtain ⟨key, rfl, _, _, hkey⟩ := open_int Try.underlying22 (hval 1 _ v1 rfl rfl) h1
  obtain ⟨k0, k1⟩ := wf_u64 hkey
  obtain ⟨A, n, c, l, rfl, hR, hwf, hnc, hc⟩ := open_u8s Try.underlying23 Try.underlying3 cellsint (hval 2 _ v2 rfl rfl) h2
  unfold maxLen at hc
  refine (walk_order window key l A n c W (wf_i64 hwin) k0 k1 hR (fun x hx => wf_i64 (hwf x hx)) hnc hc).mono fun e W' ⟨he, hg⟩ => ⟨_, he, ?_⟩
  exact post_law hW' laidOut (params_ok params_linkOrder) 4 rfl Try.underlying4 rfl (fun ds h => by
    rw [Try.params5] at h
    match ds, h with
    | [_, _, _], _ => rfl) hg
noncomputable def laidWorld (os : Os) : World := World.holding Try.prog os ⟨#[], #[], []⟩
theorem reads (os : Os) {H : Type} (enc : TypeId × Value → H) : ∃ places, DataW.whole enc Try.prog ((laidWorld os).forCall (fun _ _ => 0) ⟨#[], #[.int .i64 0, .int .u64 0, .slice none 0 0], []⟩).memory Try.f5.params.toList Rows.linkOrderSpec.vars false (#[.int .i64 0, .int .u64 0, .slice none 0 0] : Array Value).toList 8 = some ([.lit (.int .i64 0), .lit (.int .u64 0), .nil], [], places) :=
  ⟨[], by kernel_rfl⟩
set_option maxRecDepth 100000 in
theorem lifted (os : Os) (started : os.Started) (H : Type) (enc : TypeId × Value → H) (F : Stop.Interp) :
    ReturnsInHanded {} Try.checked os 5 .any ((OpenSpec.ofChange Rows.linkOrderSpec).preRow enc Try.prog Try.f5 Rows.linkOrderRow.domain false Rows.linkOrderRow.laid) (((OpenSpec.ofChange Rows.linkOrderSpec).at F).post enc Try.prog Try.f5 false true false false) := by
  obtain ⟨places, hx⟩ := reads os enc
  refine returnsInHanded_of_row (C := Try.checked) (s := OpenSpec.ofChange Rows.linkOrderSpec) own started (by kernel_rfl) Try.func5
    (witness_row_at (enc := enc) (C := Try.checked) false (laidWorld os) #[.int .i64 0, .int .u64 0, .slice none 0 0] rfl (by kernel_rfl) (by kernel_rfl) (by kernel_rfl)
      (OpenSpec.preRow_of_cond 8 hx (by kernel_rfl) (fun k hk => by cases hk) (by kernel_rfl) (laidMet_nil _ _))) ?_
  intro W base args ds gs before hval hW _ _ _ hL _ _
  exact contract H enc W base args ds gs before hval hW
theorem said : Rows.LinkOrderSaid :=
  OpenClaim.holds_of_cond 5 Try.f5 rfl rfl rfl rfl rfl rfl rfl ⟨rfl, rfl, rfl, rfl, rfl⟩ rfl rfl rfl rfl rfl (by kernel_rfl) Try.func5 (by kernel_rfl)
    (of_decide_eq_true (by kernel_rfl)) (by unfold Func.isWrapper; first | (rw [if_pos (by decide +kernel)]; kernel_rfl) | (rw [if_neg (by decide +kernel)]; exact ⟨rfl, rfl⟩))
    (fun os started H enc _ F => by rw [OpenClaim.pre_eq_preRow]; exact lifted os started H enc F)
end fnLinkOrder
end Go.Proofs.Ytkgmoklifkojhaa
