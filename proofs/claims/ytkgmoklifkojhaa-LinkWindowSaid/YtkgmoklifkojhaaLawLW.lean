/- LinkWindow: for all windows, keys and numbers the law answers true. Conditions: none beyond the row's own. -/
import Derived.Test.YtkgmoklifkojhaaLkWin
import Derived.Test.YtkgmoklifkojhaaLkOrdW
import Derived.Test.YtkgmoklifkojhaaGF
import Derived.Deep.DeepCutAuto
import Derived.Deep.CutBlock
set_option linter.unusedSimpArgs false
set_option linter.unusedVariables false
namespace Go.Proofs.Ytkgmoklifkojhaa
open Go.RowKit Go.WideShapes Go.ChangeShapes
/-- The objects of the law: the end a, facts, the message's bytes. -/
def winO (pa gb : Nat) (J : LawI) (E : EndS) (x : Int) : List Obj := [EndO pa E, FactO J, RowO 5 (.slice (some ⟨gb, 0, none⟩) 1 1) [.int .u8 x]]
def noI : LawI := fun _ _ _ => True
theorem noI.stab : StabI noI := fun _ _ _ _ _ _ _ h => h
theorem win_start {w0 w1 w2 : World} {pa gb : Nat} {E : EndS} (S : SepL w0 ([] ++ [EndO pa E]) w1) (hE : Ext w1 w2) (hg : w1.heap.size ≤ gb) (B : Blk w2 gb 5 [.int .u8 0]) : SepL w0 (winO pa gb noI E 0) w2 := by
  have S2 : SepL w0 (([] ++ [EndO pa E]) ++ [FactO noI]) w1 := S.new (Ext.refl w1) (FactO.ok noI.stab) (Ft' := fun _ => False) (fun b hb => hb.elim) (fun Mu hMu => trivial)
  exact S2.new hE (RowO.ok _ _ _) (Ft' := fun b => b = gb) (fun b hb => by rw [hb]; exact ⟨hg, B.lt⟩) (fun Mu hMu => ⟨own_of_blk B 1 rfl (by decide), fun b hb => by injection hb with hb; exact hb.symm⟩)
theorem win_b {w0 w : World} {pa gb : Nat} {J : LawI} {E : EndS} {x : Int} {l : List Obj} (S : SepL w0 (winO pa gb J E x ++ l) w) : w.cell? ⟨gb, 0, none⟩ = some (.int .u8 x) ∧ w.frozen? ⟨gb, 0, none⟩ = false ∧ Rd w w.heap.size (some ⟨gb, 0, none⟩) 1 (u8s [x]) := by
  have h : w.ownsRow 0 5 1 (.slice (some ⟨gb, 0, none⟩) 1 1) 1 (u8s [x]) := sl_row S (i := 2) rfl
  have h2 := own_cell h 0 (by decide)
  exact ⟨h2.1, h2.2, rd_own h⟩
set_option maxHeartbeats 16000000 in
set_option maxRecDepth 100000 in
theorem walk_win (window key many ack : Int) (w : World) (hwi : in64 window) (k0 : 0 ≤ key) (k1 : key ≤ 18446744073709551615) (hma : in64 many) (hac : in64 ack) :
    Calls Try.prog 8 #[.int .i64 window, .int .u64 key, .int .i64 many, .int .i64 ack] w fun e w' => e = .returned (.bool true) ∧ Below w.heap.size w w' := by
  have HMA := Lib.hid hma; have HAC := Lib.hid hac
  clear hma hac
  by_cases hwr : 1 ≤ window ∧ window ≤ 16
  · obtain ⟨h1, h2⟩ := hwr
    have HNW := Lib.hid (sl_make (SepL.nil w) window key h1 h2 k0 k1)
    obtain ⟨n, hn, hnb⟩ := around_nat many 40 (by decide)
    have HAN : Hid (∀ W, Calls Try.prog 10 #[.int .i64 many, .int .i64 40] W fun e w' => e = .returned (.int .i64 n) ∧ W = w') := Lib.hid (fun W => by rw [hn]; exact around_w many 40 W HMA.out (by decide) (by decide))
    clear hn HMA
    obtain ⟨hwi1, hwi2⟩ := hwi
    clear hwi1 hwi2
    go_enter Try.func8, Try.ntmps8
    go_upto_region 2 with (go_loud (go_at_call 28; (with_reducible refine HNW.out.mono ?_); rintro e w1 ⟨pa, rfl, hS⟩; have S1 := Lib.hid hS; clear hS))
    go_upto_region 7 with (go_loud (go_at_call 10; (with_reducible refine (HAN.out _).mono ?_); rintro e w7 ⟨rfl, rfl⟩))
    go_upto_region 8 with fail
    change Code.wp _ _ _ _ (w1.alloc (.cells #[.int .u8 0] 5))
    obtain ⟨w8, hw8⟩ : ∃ x, x = w1.alloc (.cells #[.int .u8 0] 5) := ⟨_, rfl⟩
    rw [← hw8]
    obtain ⟨gb, hgb⟩ : ∃ g, g = w1.heap.size := ⟨_, rfl⟩
    rw [← hgb]
    have B8 : Hid (Blk w8 gb 5 [.int .u8 0]) := Lib.hid (by rw [hw8, hgb]; exact Blk.fresh _ _ _)
    have E8 : Hid (Ext w1 w8) := Lib.hid (by rw [hw8]; exact (Ext.refl w1).alloc _)
    have HG8 : Hid (w1.heap.size ≤ gb) := Lib.hid (Nat.le_of_eq hgb.symm)
    clear hw8 hgb
    have S8 : Hid (SepL w (winO pa gb noI (newE window key) 0) w8) := Lib.hid (win_start S1.out E8.out HG8.out B8.out)
    clear S1 B8 E8 HG8 HAN HNW
    go_wp2_with fail
    go_loopw [13] (fun i wr => ∃ m : Nat, m ≤ n ∧ i = .int .i64 m ∧ ∃ x, SepL w (winO pa gb noI (wE window key (msN m) 0) x) wr) (fun i _ => n - (intOf i).toNat)
    case atStart => exact ⟨0, by omega, rfl, 0, S8.out⟩
    case round =>
      clear S8
      obtain ⟨m, hm, rfl, x, hO⟩ := hrel
      have HO := Lib.hid hO
      clear hO
      obtain ⟨wo, rfl⟩ : ∃ x : World, x = wr := ⟨_, rfl⟩
      by_cases hlt : m < n
      · obtain ⟨c0, f0, _⟩ := win_b (l := []) HO.out
        go_upto_region 12 with fail
        have S2 : Hid (SepL w (winO pa gb noI (wE window key (msN m) 0) m) (wo.setCell ⟨gb, 0, none⟩ (.int .u8 m))) := Lib.hid (sl_set HO.out (i := 2) rfl rfl 0 (.int .u8 m))
        clear c0 f0 HO
        generalize wo.setCell ⟨gb, 0, none⟩ (.int .u8 m) = w2 at *
        have HSE : Hid (Calls Try.prog 11 #[.pointer (some ⟨pa, 0, none⟩), .slice (some ⟨gb, 0, none⟩) 1 1] w2 fun e w' => e = .returned (.int .i64 0) ∧ SepL w (winO pa gb noI (wE window key (msN (m + 1)) 0) m) w') := Lib.hid (by
          refine (sl_send S2.out (i := 0) rfl [(m : Int)] (some ⟨gb, 0, none⟩) 1 1 (win_b (l := []) S2.out).2.2 (byt1 (by omega) (by omega)) (by decide) (by simp only [wE, List.drop_zero, msN_length]; omega) (by simp only [wE, List.drop_zero, msN_length]; omega)).mono fun e w' h => ⟨h.1, ?_⟩
          have h2 := h.2
          rw [wE_send, ← msN_succ] at h2
          exact h2)
        clear S2
        go_wp2_with (go_loud (go_at_call 11; (with_reducible refine HSE.out.mono ?_); rintro e w3 ⟨rfl, hS3⟩; have S3 := Lib.hid hS3; clear hS3))
        go_roundw
        case rel => exact ⟨m + 1, by omega, by go_num, m, S3.out⟩
        case measure => simp [intOf]; omega
      · obtain rfl : m = n := by omega
        obtain ⟨c0, f0, _⟩ := win_b (l := []) HO.out
        go_upto_region 15 with fail
        have S2 : Hid (SepL w (winO pa gb noI (wE window key (msN m) 0) 99) (wo.setCell ⟨gb, 0, none⟩ (.int .u8 99))) := Lib.hid (sl_set HO.out (i := 2) rfl rfl 0 (.int .u8 99))
        clear c0 f0 HO
        generalize wo.setCell ⟨gb, 0, none⟩ (.int .u8 99) = w2 at *
        obtain ⟨P, hP⟩ : ∃ P, P = outL (wE window key (msN m) 0) := ⟨_, rfl⟩
        have HPK : Hid (∀ t, t < min m window.toNat → P.getD t [] = sealL key (packL ((t : Int) + 1) 0 [(t : Int)])) := Lib.hid (fun t ht => by rw [hP, wE_outL, outTo_at _ (by omega), wE_pkt _ _ _ _ (by omega)])
        have HPL : Hid (P.length = min m window.toNat) := Lib.hid (by rw [hP, wE_outL, outTo]; simp)
        have HOW := Lib.hid (sl_outW S2.out (i := 0) rfl)
        rw [← hP] at HOW
        have HP := Lib.hid hP
        clear hP S2
        go_upto_region 16 with (go_loud (go_at_call 13; (with_reducible refine HOW.out.mono ?_); rintro e w4 ⟨OA, oc, q, rfl, hoc1, hoc2, hq, hS4⟩; have S4 : Hid (SepL w (winO pa gb noI (wE window key (msN m) 0) 99 ++ [PacO OA q P 0]) w4) := Lib.hid hS4; have HQ := Lib.hid hq; clear hS4 hq))
        have hq1 : q ≤ m := by have h := HPL.out; rw [HQ.out] at h; omega
        have hq2 : (q : Int) ≤ window := by have h := HPL.out; rw [HQ.out] at h; omega
        have hq3 : m ≤ q ∨ window ≤ q := by have h := HPL.out; rw [HQ.out] at h; omega
        have HPK2 : Hid (∀ t, t < q → P.getD t [] = sealL key (packL ((t : Int) + 1) 0 [(t : Int)])) := Lib.hid (fun t ht => HPK.out t (by have h := HPL.out; rw [HQ.out] at h; omega))
        clear HPK HPL HOW
        go_wp2_with fail
        go_loopw [15] (fun i wr => ∃ t : Nat, t ≤ q ∧ i = .int .i64 t ∧ SepL w (winO pa gb noI (wE window key (msN m) 0) 99 ++ [PacO OA q P t]) wr) (fun i _ => q - (intOf i).toNat)
        case atStart => exact ⟨0, by omega, rfl, S4.out⟩
        case round =>
          clear S4
          obtain ⟨t, ht, rfl, hO⟩ := hrel
          have HO := Lib.hid hO
          clear hO
          obtain ⟨wo, rfl⟩ : ∃ x : World, x = wr := ⟨_, rfl⟩
          by_cases hlt : t < q
          · obtain ⟨PK, hPX⟩ : ∃ x, x = packL ((t : Int) + 1) 0 [(t : Int)] := ⟨_, rfl⟩
            obtain ⟨SK, hSX⟩ : ∃ x, x = sealL key PK := ⟨_, rfl⟩
            obtain ⟨pl, hpl⟩ : ∃ x, x = PK.length := ⟨_, rfl⟩
            obtain ⟨ql, hql⟩ : ∃ x, x = pl + 8 := ⟨_, rfl⟩
            have hplb : pl ≤ 40 := by rw [hpl, hPX]; have := packL_le ((t : Int) + 1) 0 (by omega) (by omega) (by decide) (by decide) [(t : Int)] (by simp); simp only [List.length_cons, List.length_nil] at this; omega
            have HPB : Hid (Byt PK) := Lib.hid (by rw [hPX]; exact packL_byt ((t : Int) + 1) 0 (by omega) (by omega) (by decide) (by decide) [(t : Int)] (by simp))
            have HSL : Hid (SK.length = ql) := Lib.hid (by rw [hSX, sealL_length, hql, hpl])
            have HSB : Hid (Byt SK) := Lib.hid (by rw [hSX]; unfold sealL; exact HPB.out.app (sealB_byt key PK))
            have hqla : 8 ≤ ql := by omega
            have hqlb : ql ≤ 48 := by omega
            have HPX := Lib.hid hPX; have HSX := Lib.hid hSX; have HPL := Lib.hid hpl; have HQL := Lib.hid hql
            obtain ⟨g, G, c, rfl, hg, hcx, hrow⟩ := sl_pac (k := 3) HO.out rfl hlt
            rw [HPK2.out t hlt, ← hPX, ← hSX, HSL.out] at hcx hrow
            have HGZ := Lib.hid hg; have HXZ := Lib.hid hcx; have HRO := Lib.hid hrow; have HRZ : Hid (Rd wo wo.heap.size (some ⟨G, 0, none⟩) ql (u8s SK)) := Lib.hid (rd_own hrow)
            clear hPX hSX hpl hql hg hcx hrow
            go_upto_region 19 with fail
            refine wp_region_flowF 15 ?FW19 (fun us => ?_) (by kernel_rfl) (by kernel_rfl) (fun a b => Ext a b) Ext.refl (fun h1 h2 => h1.next h2) (fun i v W => match i with
              | 0 => v = .slice (some ⟨g, 0, none⟩) q oc
              | 1 => v = .int .i64 t
              | 2 => v = .pointer (some ⟨g, t, none⟩)
              | 3 => v = .slice (some ⟨G, 0, none⟩) ql c
              | 4 => v = .int .u64 key
              | 5 => v = .int .i64 t
              | 6 => v = .int .i64 ((t : Int) + 1)
              | 7 => v = .int .i64 t
              | 8 => v = .int .u8 (t : Int)
              | 9 => ∃ b, v = .slice (some ⟨b, 0, none⟩) 1 1 ∧ Rd W W.heap.size (some ⟨b, 0, none⟩) 1 (u8s [(t : Int)])
              | 10 => ∃ b, v = .agg #[.int .i64 ((t : Int) + 1), .int .i64 0, .slice (some ⟨b, 0, none⟩) 1 1] ∧ Rd W W.heap.size (some ⟨b, 0, none⟩) 1 (u8s [(t : Int)])
              | 11 => ∃ b c, v = .slice (some ⟨b, 0, none⟩) pl c ∧ Rd W W.heap.size (some ⟨b, 0, none⟩) pl (u8s PK)
              | 12 => ∃ b c, v = .slice (some ⟨b, 0, none⟩) ql c ∧ Rd W W.heap.size (some ⟨b, 0, none⟩) ql (u8s SK)
              | 13 => v = .bool true
              | 14 => v = .bool false
              | _ => True) ?_ ?_
            case refine_1 =>
              simp only [List.take_succ_cons, List.take_zero, flowAct, Nat.zero_add, Nat.reduceAdd, Act.put, List.setIfInBounds_toArray, List.set_cons_succ, List.set_cons_zero]
              rfl
            · simp only [List.take_succ_cons, List.take_zero, flowStepsF]
              refine ⟨?_, ?_, ?_, ?_, ?_, ?_, ?_, ?_, ?_, ?_, ?_, ?_, ?_, ?_, ?_, trivial⟩
              · intro us W K hE hd hK
                dsimp only at hK ⊢
                have HK := Lib.hid hK; have HE := Lib.hid hE
                clear hK hd hE
                go_wp2_with fail
                exact K_at (HK.out (.slice (some ⟨g, 0, none⟩) q oc) W (fun _ _ => rfl) (Ext.refl W)) (by kernel_rfl)
              · intro us W K hE hd hK
                dsimp only at hK ⊢
                have HK := Lib.hid hK; have HE := Lib.hid hE
                clear hK hd hE
                go_wp2_with fail
                exact K_at (HK.out (.int .i64 t) W (fun _ _ => rfl) (Ext.refl W)) (by kernel_rfl)
              · intro us W K hE hd hK
                have d0 := hd 0 (by kernel_rfl)
                have d1 := hd 1 (by kernel_rfl)
                dsimp only at hK ⊢
                rw [d0, d1] at hK ⊢
                have HK := Lib.hid hK; have HE := Lib.hid hE
                clear hK hd hE d0 d1
                go_wp2_with fail
                exact K_at (HK.out (.pointer (some ⟨g, t, none⟩)) W (fun _ _ => rfl) (Ext.refl W)) (by kernel_rfl)
              · intro us W K hE hd hK
                have d2 := hd 2 (by kernel_rfl)
                have xz := ((ext_undrew hE).cell (p := ⟨g, t, none⟩) HGZ.out).trans HXZ.out
                dsimp only at hK ⊢
                rw [d2] at hK ⊢
                have HK := Lib.hid hK; have HE := Lib.hid hE
                clear hK hd hE d2
                go_wp2_with fail
                exact K_at (HK.out (.slice (some ⟨G, 0, none⟩) ql c) W (fun _ _ => rfl) (Ext.refl W)) (by kernel_rfl)
              · intro us W K hE hd hK
                dsimp only at hK ⊢
                have HK := Lib.hid hK; have HE := Lib.hid hE
                clear hK hd hE
                go_wp2_with fail
                exact K_at (HK.out (.int .u64 key) W (fun _ _ => rfl) (Ext.refl W)) (by kernel_rfl)
              · intro us W K hE hd hK
                dsimp only at hK ⊢
                have HK := Lib.hid hK; have HE := Lib.hid hE
                clear hK hd hE
                go_wp2_with fail
                exact K_at (HK.out (.int .i64 t) W (fun _ _ => rfl) (Ext.refl W)) (by kernel_rfl)
              · intro us W K hE hd hK
                have d5 := hd 5 (by kernel_rfl)
                dsimp only at hK ⊢
                rw [d5] at hK ⊢
                have HK := Lib.hid hK; have HE := Lib.hid hE
                clear hK hd hE d5
                go_wp2_with fail
                exact K_at (HK.out (.int .i64 ((t : Int) + 1)) W (fun _ _ => rfl) (Ext.refl W)) (by kernel_rfl)
              · intro us W K hE hd hK
                dsimp only at hK ⊢
                have HK := Lib.hid hK; have HE := Lib.hid hE
                clear hK hd hE
                go_wp2_with fail
                exact K_at (HK.out (.int .i64 t) W (fun _ _ => rfl) (Ext.refl W)) (by kernel_rfl)
              · intro us W K hE hd hK
                have d7 := hd 7 (by kernel_rfl)
                dsimp only at hK ⊢
                rw [d7] at hK ⊢
                have HK := Lib.hid hK; have HE := Lib.hid hE
                clear hK hd hE d7
                go_wp2_with fail
                exact K_at (HK.out (.int .u8 (t : Int)) W (fun _ _ => rfl) (Ext.refl W)) (by kernel_rfl)
              · intro us W K hE hd hK
                have d8 := hd 8 (by kernel_rfl)
                dsimp only at hK ⊢
                rw [d8] at hK ⊢
                have HK := Lib.hid hK; have HE := Lib.hid hE
                clear hK hd hE d8
                go_wp2_with fail
                exact K_at (HK.out (.slice (some ⟨W.heap.size, 0, none⟩) 1 1) (W.alloc (.cells #[.int .u8 (t : Int)] 5)) (fun W2 h2 => ⟨_, rfl, (rd_lit W _).ext' h2⟩) ((Ext.refl W).alloc _)) (by kernel_rfl)
              · intro us W K hE hd hK
                have d6 := hd 6 (by kernel_rfl)
                obtain ⟨b9, d9, r9⟩ := hd 9 (by kernel_rfl)
                have R9 := Lib.hid r9
                dsimp only at hK ⊢
                rw [d6, d9] at hK ⊢
                have HK := Lib.hid hK; have HE := Lib.hid hE
                clear hK hd hE d6 d9 r9
                go_wp2_with fail
                exact K_at (HK.out (.agg #[.int .i64 ((t : Int) + 1), .int .i64 0, .slice (some ⟨b9, 0, none⟩) 1 1]) W (fun W2 h2 => ⟨_, rfl, R9.out.ext' h2⟩) (Ext.refl W)) (by kernel_rfl)
              · intro us W K hE hd hK
                obtain ⟨b10, d10, r10⟩ := hd 10 (by kernel_rfl)
                have R10 := Lib.hid r10
                dsimp only at hK ⊢
                rw [d10] at hK ⊢
                have HK := Lib.hid hK; have HE := Lib.hid hE
                clear hK hd hE d10 r10
                go_wp2_with (go_loud (go_at_call 18; (with_reducible refine (rbytesR ((t : Int) + 1) 0 (by omega) (by omega) (by decide) (by decide) [(t : Int)] (some ⟨b10, 0, none⟩) 1 1 W R10.out (byt1 (by omega) (by omega)) (by decide) PK HPX.out pl HPL.out).mono ?_); rintro e w6 ⟨g6, c6, rfl, _, _, o6, hB6⟩))
                exact K_at (HK.out (.slice (some ⟨g6, 0, none⟩) pl c6) w6 (fun W2 h2 => ⟨_, _, rfl, (rd_own o6).ext' h2⟩) hB6) (by kernel_rfl)
              · intro us W K hE hd hK
                have d4 := hd 4 (by kernel_rfl)
                obtain ⟨b11, c11, d11, r11⟩ := hd 11 (by kernel_rfl)
                have R11 := Lib.hid r11
                dsimp only at hK ⊢
                rw [d4, d11] at hK ⊢
                have HK := Lib.hid hK; have HE := Lib.hid hE
                clear hK hd hE d4 d11 r11
                go_wp2_with (go_loud (go_at_call 17; (with_reducible refine (rsealR key k0 k1 PK (some ⟨b11, 0, none⟩) pl c11 W R11.out HPB.out (by omega) SK HSX.out ql HQL.out).mono ?_); rintro e w6 ⟨g6, c6, rfl, _, _, o6, hB6⟩))
                exact K_at (HK.out (.slice (some ⟨g6, 0, none⟩) ql c6) w6 (fun W2 h2 => ⟨_, _, rfl, (rd_own o6).ext' h2⟩) hB6) (by kernel_rfl)
              · intro us W K hE hd hK
                have d3 := hd 3 (by kernel_rfl)
                obtain ⟨b12, c12, d12, r12⟩ := hd 12 (by kernel_rfl)
                have HSM := Lib.hid (same_self2 SK (some ⟨G, 0, none⟩) (some ⟨b12, 0, none⟩) ql c ql c12 W (HRZ.out.ext' (ext_undrew hE)) r12 (by omega))
                dsimp only at hK ⊢
                rw [d3, d12] at hK ⊢
                have HK := Lib.hid hK; have HE := Lib.hid hE
                clear hK hd hE d3 d12 r12
                go_wp2_with (go_loud (go_at_call 29; (with_reducible refine HSM.out.mono ?_); rintro e W2 ⟨rfl, hd⟩; have E2 := Lib.hid hd; clear hd))
                exact K_at (HK.out (.bool true) W2 (fun _ _ => rfl) (ext_drew E2.out)) (by kernel_rfl)
              · intro us W K hE hd hK
                have d13 := hd 13 (by kernel_rfl)
                dsimp only at hK ⊢
                rw [d13] at hK ⊢
                have HK := Lib.hid hK; have HE := Lib.hid hE
                clear hK hd hE d13
                go_wp2_with fail
                exact K_at (HK.out (.bool false) W (fun _ _ => rfl) (Ext.refl W)) (by kernel_rfl)
            · intro us W hE hd
              try dsimp only
              have d14 := hd 14 (by decide)
              simp only [List.drop_succ_cons, List.drop_zero]
              rw [d14]
              have EW := Lib.hid (ext_undrew hE); clear hd hE d14
              have hxz := (EW.out.cell (p := ⟨g, t, none⟩) HGZ.out).trans HXZ.out
              obtain ⟨cx, fx⟩ := own_cell (own_ext EW.out HRO.out) 0 (show 0 < ql by omega)
              obtain ⟨v0, hv0⟩ : ∃ x, x = SK.getD 0 0 := ⟨_, rfl⟩
              rw [← hv0] at cx
              clear hv0
              have SW : Hid (SepL w (winO pa gb noI (wE window key (msN m) 0) 99 ++ [PacO (some ⟨g, 0, none⟩) q P t]) W) := Lib.hid (HO.out.ext EW.out)
              have HCX := Lib.hid hxz
              go_upto_region 18 with fail
              have S5 : Hid (SepL w (winO pa gb noI (wE window key (msN m) 0) 99 ++ [PacO (some ⟨g, 0, none⟩) q P (t + 1)]) (W.setCell ⟨G, 0, none⟩ (.int .u8 77))) := Lib.hid (sl_pac_set SW.out (k := 3) rfl hlt HCX.out (.int .u8 77))
              clear cx fx hxz SW EW
              generalize W.setCell ⟨G, 0, none⟩ (.int .u8 77) = w5 at *
              go_wp2_with fail
              go_roundw
              case rel => exact ⟨t + 1, by omega, by go_num, S5.out⟩
              case measure => simp [intOf]; omega
          · obtain rfl : t = q := by omega
            have HOC := Lib.hid (sl_copy HO.out (i := 0) rfl)
            go_upto_region 23 with (go_loud (go_at_call 31; (with_reducible refine HOC.out.mono ?_); rintro e w5 ⟨pc, rfl, hS5⟩; have S5 : Hid (SepL w (winO pa gb noI (wE window key (msN m) 0) 99 ++ [PacO OA t P t] ++ [EndO pc (wE window key (msN m) 0)]) w5) := Lib.hid hS5; clear hS5))
            clear HOC HO
            go_cut [118] from 109 to 117 (fun s118 wx => s118 = .bool false ∧ w5 = wx)
            case first =>
              by_cases hmw : (m : Int) ≤ window
              · go_wp2_with fail
                go_meet
                case rel => exact ⟨by congr 1; simp; omega, rfl⟩
              · go_wp2_with fail
                go_meet
                case rel => exact ⟨by congr 1; simp; omega, rfl⟩
            case rest =>
              obtain ⟨hcu, rfl⟩ := hcut
              subst hcu
              have S5' : Hid (SepL w ([EndO pa (wE window key (msN m) 0), FactO (noI), RowO 5 (.slice (some ⟨gb, 0, none⟩) 1 1) [.int .u8 99], PacO OA t P t, EndO pc (wE window key (msN m) 0)] : List Obj) w5) := S5
              obtain ⟨k, hk, hkm⟩ := around_nat ack (m + 1) (by omega)
              have HAK : Hid (Calls Try.prog 10 #[.int .i64 ack, .int .i64 ((m : Int) + 1)] w5 fun e w' => e = .returned (.int .i64 k) ∧ w5 = w') := Lib.hid (by
                have h := around_w ack ((m + 1 : Nat) : Int) w5 HAC.out (by omega) (by omega)
                rw [← hk] at h
                exact h)
              have hkm2 : k ≤ m := by omega
              clear hk hkm S5
              go_upto_region 26 with (go_loud (go_at_call 10; (with_reducible refine HAK.out.mono ?_); rintro e w7 ⟨rfl, rfl⟩))
              clear HAK HAC
              have HPXf := Lib.hid (rfl : packL 0 ((m : Int) + 1) [] = packL 0 ((m : Int) + 1) [])
              obtain ⟨PA, hPA⟩ : ∃ x, x = packL 0 ((m : Int) + 1) [] := ⟨_, rfl⟩
              obtain ⟨SA, hSA⟩ : ∃ x, x = sealL key PA := ⟨_, rfl⟩
              obtain ⟨al, hal⟩ : ∃ x, x = PA.length := ⟨_, rfl⟩
              obtain ⟨sl, hsl⟩ : ∃ x, x = al + 8 := ⟨_, rfl⟩
              have halb : al ≤ 40 := by rw [hal, hPA]; have := packL_le 0 ((m : Int) + 1) (by decide) (by decide) (by omega) (by omega) [] (by simp); simp only [List.length_nil] at this; omega
              have HPBa : Hid (Byt PA) := Lib.hid (by rw [hPA]; exact packL_byt 0 ((m : Int) + 1) (by decide) (by decide) (by omega) (by omega) [] (by simp))
              have HSBa : Hid (Byt SA) := Lib.hid (by rw [hSA]; unfold sealL; exact HPBa.out.app (sealB_byt key PA))
              have HIN : Hid (inE (wE window key (msN m) 0) SA = (([], 0), wE window key (msN m) 0)) := Lib.hid (by rw [hSA, hPA]; exact wE_far window key m (by omega))
              have hslb : sl ≤ 48 := by omega
              have HPAx := Lib.hid hPA; have HSAx := Lib.hid hSA; have HALx := Lib.hid hal; have HSLx := Lib.hid hsl
              have HINC : Hid (∀ (W : World) (gs cs : Nat), SepL w ([EndO pa (wE window key (msN m) 0), FactO (noI), RowO 5 (.slice (some ⟨gb, 0, none⟩) 1 1) [.int .u8 99], PacO OA t P t, EndO pc (wE window key (msN m) 0)] : List Obj) W → Rd W W.heap.size (some ⟨gs, 0, none⟩) sl (u8s SA) → sl ≤ cs → cs ≤ 9223372036854775807 → Calls Try.prog 19 #[.pointer (some ⟨pa, 0, none⟩), .slice (some ⟨gs, 0, none⟩) sl cs] W fun e w' => ∃ OX ox, e = .returned (.tuple #[.slice OX 0 ox, .int .i64 0]) ∧ SepL w ([EndO pa (wE window key (msN m) 0), FactO (noI), RowO 5 (.slice (some ⟨gb, 0, none⟩) 1 1) [.int .u8 99], PacO OA t P t, EndO pc (wE window key (msN m) 0)] : List Obj) w') := Lib.hid (fun W gs cs hS hR h1 h2 => sl_in hS (i := 0) (k := 1) (E := wE window key (msN m) 0) rfl rfl (by decide) noI.stab SA (some ⟨gs, 0, none⟩) sl cs hR HSBa.out (by omega) h1 h2 (newE_few window key).1 (newE_few window key).2.1 (newE_few window key).2.2 [] 0 (wE window key (msN m) 0) HIN.out 0 rfl)
              clear hPA hSA hal hsl HPXf
              go_upto_region 27 with (go_loud (first
                | (go_at_call 18; (with_reducible refine (rbytesR 0 ((m : Int) + 1) (by decide) (by decide) (by omega) (by omega) [] none 0 0 w5 (Rd.nil _ _ _) Byt.nil (by decide) PA HPAx.out al HALx.out).mono ?_); rintro e wfa ⟨ga, ca, rfl, _, _, oa, hBa⟩; have Oa := Lib.hid oa; have Ea := Lib.hid hBa; clear oa hBa)
                | (go_at_call 17; (with_reducible refine (rsealR key k0 k1 PA (some ⟨ga, 0, none⟩) al ca wfa (rd_own Oa.out) HPBa.out (by omega) SA HSAx.out sl HSLx.out).mono ?_); rintro e wfb ⟨gs, cs, rfl, ⟨hcs1, hcs2⟩, _, os, hBs⟩; have Os := Lib.hid os; have Sb : Hid (SepL w ([EndO pa (wE window key (msN m) 0), FactO (noI), RowO 5 (.slice (some ⟨gb, 0, none⟩) 1 1) [.int .u8 99], PacO OA t P t, EndO pc (wE window key (msN m) 0)] : List Obj) wfb) := Lib.hid ((S5'.out.ext Ea.out).ext hBs); clear os hBs Oa Ea)
                | (go_at_call 19; (with_reducible refine (HINC.out _ gs cs Sb.out (rd_own Os.out) hcs1 hcs2).mono ?_); rintro e wfc ⟨Of, ocf, rfl, hSc⟩; have Sf : Hid (SepL w ([EndO pa (wE window key (msN m) 0), FactO (noI), RowO 5 (.slice (some ⟨gb, 0, none⟩) 1 1) [.int .u8 99], PacO OA t P t, EndO pc (wE window key (msN m) 0)] : List Obj) wfc) := Lib.hid hSc; clear hSc Sb Os hcs1 hcs2)))
              clear HINC HPBa HSBa HIN HPAx HSAx HALx HSLx S5'
              have HPXg := Lib.hid (rfl : packL 0 ((k : Int)) [] = packL 0 ((k : Int)) [])
              obtain ⟨PA, hPA⟩ : ∃ x, x = packL 0 ((k : Int)) [] := ⟨_, rfl⟩
              obtain ⟨SA, hSA⟩ : ∃ x, x = sealL key PA := ⟨_, rfl⟩
              obtain ⟨al, hal⟩ : ∃ x, x = PA.length := ⟨_, rfl⟩
              obtain ⟨sl, hsl⟩ : ∃ x, x = al + 8 := ⟨_, rfl⟩
              have halb : al ≤ 40 := by rw [hal, hPA]; have := packL_le 0 ((k : Int)) (by decide) (by decide) (by omega) (by omega) [] (by simp); simp only [List.length_nil] at this; omega
              have HPBa : Hid (Byt PA) := Lib.hid (by rw [hPA]; exact packL_byt 0 ((k : Int)) (by decide) (by decide) (by omega) (by omega) [] (by simp))
              have HSBa : Hid (Byt SA) := Lib.hid (by rw [hSA]; unfold sealL; exact HPBa.out.app (sealB_byt key PA))
              have HIN : Hid (inE (wE window key (msN m) 0) SA = (([], 0), wE window key (msN m) k)) := Lib.hid (by rw [hSA, hPA]; exact wE_ack window key m k (by omega) hkm2)
              have hslb : sl ≤ 48 := by omega
              have HPAx := Lib.hid hPA; have HSAx := Lib.hid hSA; have HALx := Lib.hid hal; have HSLx := Lib.hid hsl
              have HINC : Hid (∀ (W : World) (gs cs : Nat), SepL w ([EndO pa (wE window key (msN m) 0), FactO (noI), RowO 5 (.slice (some ⟨gb, 0, none⟩) 1 1) [.int .u8 99], PacO OA t P t, EndO pc (wE window key (msN m) 0)] : List Obj) W → Rd W W.heap.size (some ⟨gs, 0, none⟩) sl (u8s SA) → sl ≤ cs → cs ≤ 9223372036854775807 → Calls Try.prog 19 #[.pointer (some ⟨pa, 0, none⟩), .slice (some ⟨gs, 0, none⟩) sl cs] W fun e w' => ∃ OX ox, e = .returned (.tuple #[.slice OX 0 ox, .int .i64 0]) ∧ SepL w ([EndO pa (wE window key (msN m) k), FactO (noI), RowO 5 (.slice (some ⟨gb, 0, none⟩) 1 1) [.int .u8 99], PacO OA t P t, EndO pc (wE window key (msN m) 0)] : List Obj) w') := Lib.hid (fun W gs cs hS hR h1 h2 => sl_in hS (i := 0) (k := 1) (E := wE window key (msN m) 0) rfl rfl (by decide) noI.stab SA (some ⟨gs, 0, none⟩) sl cs hR HSBa.out (by omega) h1 h2 (newE_few window key).1 (newE_few window key).2.1 (newE_few window key).2.2 [] 0 (wE window key (msN m) k) HIN.out 0 rfl)
              clear hPA hSA hal hsl HPXg
              go_upto_region 28 with (go_loud (first
                | (go_at_call 18; (with_reducible refine (rbytesR 0 ((k : Int)) (by decide) (by decide) (by omega) (by omega) [] none 0 0 wfc (Rd.nil _ _ _) Byt.nil (by decide) PA HPAx.out al HALx.out).mono ?_); rintro e wga ⟨ga, ca, rfl, _, _, oa, hBa⟩; have Oa := Lib.hid oa; have Ea := Lib.hid hBa; clear oa hBa)
                | (go_at_call 17; (with_reducible refine (rsealR key k0 k1 PA (some ⟨ga, 0, none⟩) al ca wga (rd_own Oa.out) HPBa.out (by omega) SA HSAx.out sl HSLx.out).mono ?_); rintro e wgb ⟨gs, cs, rfl, ⟨hcs1, hcs2⟩, _, os, hBs⟩; have Os := Lib.hid os; have Sb : Hid (SepL w ([EndO pa (wE window key (msN m) 0), FactO (noI), RowO 5 (.slice (some ⟨gb, 0, none⟩) 1 1) [.int .u8 99], PacO OA t P t, EndO pc (wE window key (msN m) 0)] : List Obj) wgb) := Lib.hid ((Sf.out.ext Ea.out).ext hBs); clear os hBs Oa Ea)
                | (go_at_call 19; (with_reducible refine (HINC.out _ gs cs Sb.out (rd_own Os.out) hcs1 hcs2).mono ?_); rintro e wgc ⟨Og, ocg, rfl, hSc⟩; have Sg : Hid (SepL w ([EndO pa (wE window key (msN m) k), FactO (noI), RowO 5 (.slice (some ⟨gb, 0, none⟩) 1 1) [.int .u8 99], PacO OA t P t, EndO pc (wE window key (msN m) 0)] : List Obj) wgc) := Lib.hid hSc; clear hSc Sb Os hcs1 hcs2)))
              clear HINC HPBa HSBa HIN HPAx HSAx HALx HSLx Sf
              have HO8 := Lib.hid (sl_out Sg.out (i := 0) (k := 1) rfl rfl (by decide) noI.stab)
              go_upto_region 29 with (go_loud (go_at_call 13; (with_reducible refine HO8.out.mono ?_); rintro e w8 ⟨OB, ob, q1, rfl, hob1, hob2, hq1e, hS8⟩; have S8 : Hid (SepL w ([EndO pa (wE window key (msN m) k), FactO (fun L Mu w => noI L Mu w ∧ Packs L Mu w OB q1 (outL (wE window key (msN m) k))), RowO 5 (.slice (some ⟨gb, 0, none⟩) 1 1) [.int .u8 99], PacO OA t P t, EndO pc (wE window key (msN m) 0)] : List Obj) w8) := Lib.hid hS8; have HQ1 := Lib.hid hq1e; clear hS8 hq1e))
              clear HO8 Sg
              have HO9 := Lib.hid (sl_out S8.out (i := 4) (k := 1) rfl rfl (by decide) (noI.stab.and (Packs.stab _ _ _)))
              rw [← HP.out] at HO9
              go_upto_region 30 with (go_loud (go_at_call 13; (with_reducible refine HO9.out.mono ?_); rintro e w9 ⟨OR, oc2, q2, rfl, hor1, hor2, hq2e, hS9⟩; (obtain rfl : t = q2 := by rw [← HQ.out, hq2e]); have S9 : Hid (SepL w ([EndO pa (wE window key (msN m) k), FactO (fun L Mu w => (noI L Mu w ∧ Packs L Mu w OB q1 (outL (wE window key (msN m) k))) ∧ Packs L Mu w OR t P), RowO 5 (.slice (some ⟨gb, 0, none⟩) 1 1) [.int .u8 99], PacO OA t P t, EndO pc (wE window key (msN m) 0)] : List Obj) w9) := Lib.hid hS9; clear hS9 hq2e))
              clear HO9 S8
              have hq1a : q1 ≤ m - k := by have h := HQ1.out; rw [wE_outL, outTo, List.length_map, List.length_range] at h; omega
              have hq1b : (q1 : Int) ≤ window := by have h := HQ1.out; rw [wE_outL, outTo, List.length_map, List.length_range] at h; omega
              have hq1c : m - k ≤ q1 ∨ window ≤ q1 := by have h := HQ1.out; rw [wE_outL, outTo, List.length_map, List.length_range] at h; omega
              have HRF : Hid (∀ (l : List Obj) (W : World), SepL w l W → l[1]? = some (FactO (fun L Mu w => (noI L Mu w ∧ Packs L Mu w OB q1 (outL (wE window key (msN m) k))) ∧ Packs L Mu w OR t P)) → 0 < t → ∃ gr, OR = some ⟨gr, 0, none⟩ ∧ gr < W.heap.size ∧ ∀ u, u < t → ∃ G c, W.cell? ⟨gr, u, none⟩ = some (.slice (some ⟨G, 0, none⟩) (sealL key (packL ((u : Int) + 1) 0 [(u : Int)])).length c) ∧ (sealL key (packL ((u : Int) + 1) 0 [(u : Int)])).length ≤ c ∧ c ≤ 9223372036854775807 ∧ Rd W W.heap.size (some ⟨G, 0, none⟩) (sealL key (packL ((u : Int) + 1) 0 [(u : Int)])).length (u8s (sealL key (packL ((u : Int) + 1) 0 [(u : Int)])))) := Lib.hid (fun l W hS hl h0 => by
                obtain ⟨Mu, hJ, _⟩ := sl_facts hS (k := 1) hl
                obtain ⟨gr, h1, _, _, h2, h3⟩ := hJ.2 h0
                refine ⟨gr, h1, h2, fun u hu => ?_⟩
                obtain ⟨v, h4, G, c, h5, h6, h7, _, _, _, h8⟩ := h3 u hu
                rw [HPK2.out u hu] at h5 h6 h8
                exact ⟨G, c, by rw [h4, h5], h6, h7, h8⟩)
              have HRP := Lib.hid (HRF.out _ _ S9.out rfl)
              clear HQ1 HP HQ HPK2
              go_wp2_with fail
              go_loopw [24] (fun i wr => ∃ u : Nat, u ≤ t ∧ i = .int .i64 u ∧ Ext w9 wr) (fun i _ => t - (intOf i).toNat)
              case atStart => exact ⟨0, by omega, rfl, Ext.refl _⟩
              case round =>
                obtain ⟨u, hu, rfl, hE⟩ := hrel
                have HEo := Lib.hid hE
                clear hE
                obtain ⟨wo, rfl⟩ : ∃ x : World, x = wr := ⟨_, rfl⟩
                by_cases hlt : u < t
                · obtain ⟨gr, rfl, hgl, hpk⟩ := HRP.out (by omega)
                  obtain ⟨G, c, hcx, hc1, hc2, hrd⟩ := hpk u hlt
                  obtain ⟨PK, hPX⟩ : ∃ x, x = packL ((u : Int) + 1) 0 [(u : Int)] := ⟨_, rfl⟩
                  obtain ⟨SK, hSX⟩ : ∃ x, x = sealL key PK := ⟨_, rfl⟩
                  obtain ⟨pl, hpl⟩ : ∃ x, x = PK.length := ⟨_, rfl⟩
                  obtain ⟨ql, hql⟩ : ∃ x, x = pl + 8 := ⟨_, rfl⟩
                  have hplb : pl ≤ 40 := by rw [hpl, hPX]; have := packL_le ((u : Int) + 1) 0 (by omega) (by omega) (by decide) (by decide) [(u : Int)] (by simp); simp only [List.length_cons, List.length_nil] at this; omega
                  have HPB : Hid (Byt PK) := Lib.hid (by rw [hPX]; exact packL_byt ((u : Int) + 1) 0 (by omega) (by omega) (by decide) (by decide) [(u : Int)] (by simp))
                  have HSL : Hid (SK.length = ql) := Lib.hid (by rw [hSX, sealL_length, hql, hpl])
                  have HSB : Hid (Byt SK) := Lib.hid (by rw [hSX]; unfold sealL; exact HPB.out.app (sealB_byt key PK))
                  have hqla : 8 ≤ ql := by omega
                  have hqlb : ql ≤ 48 := by omega
                  have HPX := Lib.hid hPX; have HSX := Lib.hid hSX; have HPL := Lib.hid hpl; have HQL := Lib.hid hql
                  rw [← hPX, ← hSX, HSL.out] at hcx hrd
                  have HGZ : Hid (gr < wo.heap.size) := Lib.hid (Nat.lt_of_lt_of_le hgl HEo.out.size)
                  have HXZ : Hid (wo.cell? ⟨gr, u, none⟩ = some (.slice (some ⟨G, 0, none⟩) ql c)) := Lib.hid ((HEo.out.cell (p := ⟨gr, u, none⟩) hgl).trans hcx)
                  have HRZ : Hid (Rd wo wo.heap.size (some ⟨G, 0, none⟩) ql (u8s SK)) := Lib.hid (hrd.ext' HEo.out)
                  clear hPX hSX hpl hql hcx hrd hpk hgl hc1 hc2
                  go_upto_region 33 with fail
                  refine wp_region_flowF 15 ?FW33 (fun us => ?_) (by kernel_rfl) (by kernel_rfl) (fun a b => Ext a b) Ext.refl (fun h1 h2 => h1.next h2) (fun i v W => match i with
                    | 0 => v = .slice (some ⟨gr, 0, none⟩) t oc2
                    | 1 => v = .int .i64 u
                    | 2 => v = .pointer (some ⟨gr, u, none⟩)
                    | 3 => v = .slice (some ⟨G, 0, none⟩) ql c
                    | 4 => v = .int .u64 key
                    | 5 => v = .int .i64 u
                    | 6 => v = .int .i64 ((u : Int) + 1)
                    | 7 => v = .int .i64 u
                    | 8 => v = .int .u8 (u : Int)
                    | 9 => ∃ b, v = .slice (some ⟨b, 0, none⟩) 1 1 ∧ Rd W W.heap.size (some ⟨b, 0, none⟩) 1 (u8s [(u : Int)])
                    | 10 => ∃ b, v = .agg #[.int .i64 ((u : Int) + 1), .int .i64 0, .slice (some ⟨b, 0, none⟩) 1 1] ∧ Rd W W.heap.size (some ⟨b, 0, none⟩) 1 (u8s [(u : Int)])
                    | 11 => ∃ b c, v = .slice (some ⟨b, 0, none⟩) pl c ∧ Rd W W.heap.size (some ⟨b, 0, none⟩) pl (u8s PK)
                    | 12 => ∃ b c, v = .slice (some ⟨b, 0, none⟩) ql c ∧ Rd W W.heap.size (some ⟨b, 0, none⟩) ql (u8s SK)
                    | 13 => v = .bool true
                    | 14 => v = .bool false
                    | _ => True) ?_ ?_
                  case refine_1 =>
                    simp only [List.take_succ_cons, List.take_zero, flowAct, Nat.zero_add, Nat.reduceAdd, Act.put, List.setIfInBounds_toArray, List.set_cons_succ, List.set_cons_zero]
                    rfl
                  · simp only [List.take_succ_cons, List.take_zero, flowStepsF]
                    refine ⟨?_, ?_, ?_, ?_, ?_, ?_, ?_, ?_, ?_, ?_, ?_, ?_, ?_, ?_, ?_, trivial⟩
                    · intro us W K hE hd hK
                      dsimp only at hK ⊢
                      have HK := Lib.hid hK; have HE := Lib.hid hE
                      clear hK hd hE
                      go_wp2_with fail
                      exact K_at (HK.out (.slice (some ⟨gr, 0, none⟩) t oc2) W (fun _ _ => rfl) (Ext.refl W)) (by kernel_rfl)
                    · intro us W K hE hd hK
                      dsimp only at hK ⊢
                      have HK := Lib.hid hK; have HE := Lib.hid hE
                      clear hK hd hE
                      go_wp2_with fail
                      exact K_at (HK.out (.int .i64 u) W (fun _ _ => rfl) (Ext.refl W)) (by kernel_rfl)
                    · intro us W K hE hd hK
                      have d0 := hd 0 (by kernel_rfl)
                      have d1 := hd 1 (by kernel_rfl)
                      dsimp only at hK ⊢
                      rw [d0, d1] at hK ⊢
                      have HK := Lib.hid hK; have HE := Lib.hid hE
                      clear hK hd hE d0 d1
                      go_wp2_with fail
                      exact K_at (HK.out (.pointer (some ⟨gr, u, none⟩)) W (fun _ _ => rfl) (Ext.refl W)) (by kernel_rfl)
                    · intro us W K hE hd hK
                      have d2 := hd 2 (by kernel_rfl)
                      have xz := ((ext_undrew hE).cell (p := ⟨gr, u, none⟩) HGZ.out).trans HXZ.out
                      dsimp only at hK ⊢
                      rw [d2] at hK ⊢
                      have HK := Lib.hid hK; have HE := Lib.hid hE
                      clear hK hd hE d2
                      go_wp2_with fail
                      exact K_at (HK.out (.slice (some ⟨G, 0, none⟩) ql c) W (fun _ _ => rfl) (Ext.refl W)) (by kernel_rfl)
                    · intro us W K hE hd hK
                      dsimp only at hK ⊢
                      have HK := Lib.hid hK; have HE := Lib.hid hE
                      clear hK hd hE
                      go_wp2_with fail
                      exact K_at (HK.out (.int .u64 key) W (fun _ _ => rfl) (Ext.refl W)) (by kernel_rfl)
                    · intro us W K hE hd hK
                      dsimp only at hK ⊢
                      have HK := Lib.hid hK; have HE := Lib.hid hE
                      clear hK hd hE
                      go_wp2_with fail
                      exact K_at (HK.out (.int .i64 u) W (fun _ _ => rfl) (Ext.refl W)) (by kernel_rfl)
                    · intro us W K hE hd hK
                      have d5 := hd 5 (by kernel_rfl)
                      dsimp only at hK ⊢
                      rw [d5] at hK ⊢
                      have HK := Lib.hid hK; have HE := Lib.hid hE
                      clear hK hd hE d5
                      go_wp2_with fail
                      exact K_at (HK.out (.int .i64 ((u : Int) + 1)) W (fun _ _ => rfl) (Ext.refl W)) (by kernel_rfl)
                    · intro us W K hE hd hK
                      dsimp only at hK ⊢
                      have HK := Lib.hid hK; have HE := Lib.hid hE
                      clear hK hd hE
                      go_wp2_with fail
                      exact K_at (HK.out (.int .i64 u) W (fun _ _ => rfl) (Ext.refl W)) (by kernel_rfl)
                    · intro us W K hE hd hK
                      have d7 := hd 7 (by kernel_rfl)
                      dsimp only at hK ⊢
                      rw [d7] at hK ⊢
                      have HK := Lib.hid hK; have HE := Lib.hid hE
                      clear hK hd hE d7
                      go_wp2_with fail
                      exact K_at (HK.out (.int .u8 (u : Int)) W (fun _ _ => rfl) (Ext.refl W)) (by kernel_rfl)
                    · intro us W K hE hd hK
                      have d8 := hd 8 (by kernel_rfl)
                      dsimp only at hK ⊢
                      rw [d8] at hK ⊢
                      have HK := Lib.hid hK; have HE := Lib.hid hE
                      clear hK hd hE d8
                      go_wp2_with fail
                      exact K_at (HK.out (.slice (some ⟨W.heap.size, 0, none⟩) 1 1) (W.alloc (.cells #[.int .u8 (u : Int)] 5)) (fun W2 h2 => ⟨_, rfl, (rd_lit W _).ext' h2⟩) ((Ext.refl W).alloc _)) (by kernel_rfl)
                    · intro us W K hE hd hK
                      have d6 := hd 6 (by kernel_rfl)
                      obtain ⟨b9, d9, r9⟩ := hd 9 (by kernel_rfl)
                      have R9 := Lib.hid r9
                      dsimp only at hK ⊢
                      rw [d6, d9] at hK ⊢
                      have HK := Lib.hid hK; have HE := Lib.hid hE
                      clear hK hd hE d6 d9 r9
                      go_wp2_with fail
                      exact K_at (HK.out (.agg #[.int .i64 ((u : Int) + 1), .int .i64 0, .slice (some ⟨b9, 0, none⟩) 1 1]) W (fun W2 h2 => ⟨_, rfl, R9.out.ext' h2⟩) (Ext.refl W)) (by kernel_rfl)
                    · intro us W K hE hd hK
                      obtain ⟨b10, d10, r10⟩ := hd 10 (by kernel_rfl)
                      have R10 := Lib.hid r10
                      dsimp only at hK ⊢
                      rw [d10] at hK ⊢
                      have HK := Lib.hid hK; have HE := Lib.hid hE
                      clear hK hd hE d10 r10
                      go_wp2_with (go_loud (go_at_call 18; (with_reducible refine (rbytesR ((u : Int) + 1) 0 (by omega) (by omega) (by decide) (by decide) [(u : Int)] (some ⟨b10, 0, none⟩) 1 1 W R10.out (byt1 (by omega) (by omega)) (by decide) PK HPX.out pl HPL.out).mono ?_); rintro e w6 ⟨g6, c6, rfl, _, _, o6, hB6⟩))
                      exact K_at (HK.out (.slice (some ⟨g6, 0, none⟩) pl c6) w6 (fun W2 h2 => ⟨_, _, rfl, (rd_own o6).ext' h2⟩) hB6) (by kernel_rfl)
                    · intro us W K hE hd hK
                      have d4 := hd 4 (by kernel_rfl)
                      obtain ⟨b11, c11, d11, r11⟩ := hd 11 (by kernel_rfl)
                      have R11 := Lib.hid r11
                      dsimp only at hK ⊢
                      rw [d4, d11] at hK ⊢
                      have HK := Lib.hid hK; have HE := Lib.hid hE
                      clear hK hd hE d4 d11 r11
                      go_wp2_with (go_loud (go_at_call 17; (with_reducible refine (rsealR key k0 k1 PK (some ⟨b11, 0, none⟩) pl c11 W R11.out HPB.out (by omega) SK HSX.out ql HQL.out).mono ?_); rintro e w6 ⟨g6, c6, rfl, _, _, o6, hB6⟩))
                      exact K_at (HK.out (.slice (some ⟨g6, 0, none⟩) ql c6) w6 (fun W2 h2 => ⟨_, _, rfl, (rd_own o6).ext' h2⟩) hB6) (by kernel_rfl)
                    · intro us W K hE hd hK
                      have d3 := hd 3 (by kernel_rfl)
                      obtain ⟨b12, c12, d12, r12⟩ := hd 12 (by kernel_rfl)
                      have HSM := Lib.hid (same_self2 SK (some ⟨G, 0, none⟩) (some ⟨b12, 0, none⟩) ql c ql c12 W (HRZ.out.ext' (ext_undrew hE)) r12 (by omega))
                      dsimp only at hK ⊢
                      rw [d3, d12] at hK ⊢
                      have HK := Lib.hid hK; have HE := Lib.hid hE
                      clear hK hd hE d3 d12 r12
                      go_wp2_with (go_loud (go_at_call 29; (with_reducible refine HSM.out.mono ?_); rintro e W2 ⟨rfl, hd⟩; have E2 := Lib.hid hd; clear hd))
                      exact K_at (HK.out (.bool true) W2 (fun _ _ => rfl) (ext_drew E2.out)) (by kernel_rfl)
                    · intro us W K hE hd hK
                      have d13 := hd 13 (by kernel_rfl)
                      dsimp only at hK ⊢
                      rw [d13] at hK ⊢
                      have HK := Lib.hid hK; have HE := Lib.hid hE
                      clear hK hd hE d13
                      go_wp2_with fail
                      exact K_at (HK.out (.bool false) W (fun _ _ => rfl) (Ext.refl W)) (by kernel_rfl)
                  · intro us W hE hd
                    try dsimp only
                    have d14 := hd 14 (by decide)
                    simp only [List.drop_succ_cons, List.drop_zero]
                    rw [d14]
                    have EW := Lib.hid (ext_undrew hE); clear hd hE d14
                    have E2 := Lib.hid (HEo.out.next EW.out)
                    clear EW
                    go_wp2_with fail
                    go_roundw
                    case rel => exact ⟨u + 1, by omega, by go_num, E2.out⟩
                    case measure => simp [intOf]; omega
                · obtain rfl : t = u := by omega
                  have Sz : Hid (SepL w ([EndO pa (wE window key (msN m) k), FactO (fun L Mu w => (noI L Mu w ∧ Packs L Mu w OB q1 (outL (wE window key (msN m) k))) ∧ Packs L Mu w OR t P), RowO 5 (.slice (some ⟨gb, 0, none⟩) 1 1) [.int .u8 99], PacO OA t P t, EndO pc (wE window key (msN m) 0)] : List Obj) wo) := Lib.hid (S9.out.ext HEo.out)
                  clear HRP S9 HEo
                  by_cases h1t : 1 < t
                  · obtain ⟨gr, rfl, _, _⟩ := HRF.out _ _ Sz.out rfl (by omega)
                    obtain ⟨X0, hX0⟩ : ∃ x, x = sealL key (packL 1 0 [0]) := ⟨_, rfl⟩
                    obtain ⟨X1, hX1⟩ : ∃ x, x = sealL key (packL 2 0 [1]) := ⟨_, rfl⟩
                    obtain ⟨z0, hz0⟩ : ∃ x, x = X0.length := ⟨_, rfl⟩
                    obtain ⟨z1, hz1⟩ : ∃ x, x = X1.length := ⟨_, rfl⟩
                    obtain ⟨D1, hD1⟩ : ∃ x, x = (⟨1, key, [], 0, 0, fun j => if j = 2 then some [1] else none, true, 0, 1, 1⟩ : EndS) := ⟨_, rfl⟩
                    obtain ⟨xs, D2, hD2, hxs⟩ := dE_two key
                    have hI1 := dE_eq key
                    rw [← hD1, ← hX0] at hD2
                    rw [← hD1, ← hX1] at hI1
                    have hp0 := packL_le 1 0 (by decide) (by decide) (by decide) (by decide) [0] (by decide)
                    have hp1 := packL_le 2 0 (by decide) (by decide) (by decide) (by decide) [1] (by decide)
                    have hz0b : z0 ≤ 60 := by rw [hz0, hX0, sealL_length]; simp only [List.length_cons, List.length_nil] at hp0; omega
                    have hz1b : z1 ≤ 60 := by rw [hz1, hX1, sealL_length]; simp only [List.length_cons, List.length_nil] at hp1; omega
                    have HBX : Hid (Byt X0 ∧ Byt X1) := Lib.hid ⟨by rw [hX0]; unfold sealL; exact (packL_byt 1 0 (by decide) (by decide) (by decide) (by decide) [0] (by decide)).app (sealB_byt key _), by rw [hX1]; unfold sealL; exact (packL_byt 2 0 (by decide) (by decide) (by decide) (by decide) [1] (by decide)).app (sealB_byt key _)⟩
                    have HFD : Hid (D1.forged < 1000000000 ∧ D1.tot < 1000000000 ∧ D1.delivered + D1.cnt < 1000000000) := Lib.hid (by rw [hD1]; exact ⟨by show (0 : Int) < 1000000000; decide, by show (1 : Nat) < 1000000000; decide, by show (0 : Int) + ((1 : Nat) : Int) < 1000000000; decide⟩)
                    have HR0 : Hid (∀ (l : List Obj) (W : World), SepL w l W → l[1]? = some (FactO (fun L Mu w => (noI L Mu w ∧ Packs L Mu w OB q1 (outL (wE window key (msN m) k))) ∧ Packs L Mu w (some ⟨gr, 0, none⟩) t P)) → ∃ G c, W.cell? ⟨gr, 0, none⟩ = some (.slice (some ⟨G, 0, none⟩) z0 c) ∧ z0 ≤ c ∧ c ≤ 9223372036854775807 ∧ Rd W W.heap.size (some ⟨G, 0, none⟩) z0 (u8s X0)) := Lib.hid (fun l W hS hl => by
                      obtain ⟨g2, h1, _, h2⟩ := HRF.out l W hS hl (by omega)
                      injection h1 with h1
                      injection h1 with h1 _
                      subst h1
                      rw [hz0, hX0]
                      exact h2 0 (by omega))
                    have HR1 : Hid (∀ (l : List Obj) (W : World), SepL w l W → l[1]? = some (FactO (fun L Mu w => (noI L Mu w ∧ Packs L Mu w OB q1 (outL (wE window key (msN m) k))) ∧ Packs L Mu w (some ⟨gr, 0, none⟩) t P)) → ∃ G c, W.cell? ⟨gr, 1, none⟩ = some (.slice (some ⟨G, 0, none⟩) z1 c) ∧ z1 ≤ c ∧ c ≤ 9223372036854775807 ∧ Rd W W.heap.size (some ⟨G, 0, none⟩) z1 (u8s X1)) := Lib.hid (fun l W hS hl => by
                      obtain ⟨g2, h1, _, h2⟩ := HRF.out l W hS hl (by omega)
                      injection h1 with h1
                      injection h1 with h1 _
                      subst h1
                      rw [hz1, hX1]
                      exact h2 1 (by omega))
                    have HI1 := Lib.hid hI1; have HD2 := Lib.hid hD2; have HXS := Lib.hid hxs
                    clear hI1 hD2 hxs hX0 hX1 hz0 hz1 hD1 hp0 hp1 HRF
                    have HNW := Lib.hid (sl_make Sz.out 1 key (by decide) (by decide) k0 k1)
                    go_upto_region 37 with (go_loud (go_at_call 28; (with_reducible refine HNW.out.mono ?_); rintro e wd ⟨pd, rfl, hS⟩; have Sd : Hid (SepL w ([EndO pa (wE window key (msN m) k), FactO (fun L Mu w => (noI L Mu w ∧ Packs L Mu w OB q1 (outL (wE window key (msN m) k))) ∧ Packs L Mu w (some ⟨gr, 0, none⟩) t P), RowO 5 (.slice (some ⟨gb, 0, none⟩) 1 1) [.int .u8 99], PacO OA t P t, EndO pc (wE window key (msN m) 0), EndO pd (newE 1 key)] : List Obj) wd) := Lib.hid hS; clear hS))
                    clear HNW Sz
                    have HINC1 : Hid (∀ (W : World) (gs cs : Nat), SepL w ([EndO pa (wE window key (msN m) k), FactO (fun L Mu w => (noI L Mu w ∧ Packs L Mu w OB q1 (outL (wE window key (msN m) k))) ∧ Packs L Mu w (some ⟨gr, 0, none⟩) t P), RowO 5 (.slice (some ⟨gb, 0, none⟩) 1 1) [.int .u8 99], PacO OA t P t, EndO pc (wE window key (msN m) 0), EndO pd (newE 1 key)] : List Obj) W → Rd W W.heap.size (some ⟨gs, 0, none⟩) z1 (u8s X1) → z1 ≤ cs → cs ≤ 9223372036854775807 → Calls Try.prog 19 #[.pointer (some ⟨pd, 0, none⟩), .slice (some ⟨gs, 0, none⟩) z1 cs] W fun e w' => ∃ OX ox, e = .returned (.tuple #[.slice OX 0 ox, .int .i64 0]) ∧ SepL w ([EndO pa (wE window key (msN m) k), FactO (fun L Mu w => (noI L Mu w ∧ Packs L Mu w OB q1 (outL (wE window key (msN m) k))) ∧ Packs L Mu w (some ⟨gr, 0, none⟩) t P), RowO 5 (.slice (some ⟨gb, 0, none⟩) 1 1) [.int .u8 99], PacO OA t P t, EndO pc (wE window key (msN m) 0), EndO pd D1] : List Obj) w') := Lib.hid (fun W gs cs hS hR h1 h2 => sl_in hS (i := 5) (k := 1) (E := newE 1 key) rfl rfl (by decide) ((noI.stab.and (Packs.stab _ _ _)).and (Packs.stab _ _ _)) X1 (some ⟨gs, 0, none⟩) z1 cs hR HBX.out.2 (by omega) h1 h2 (newE_few 1 key).1 (newE_few 1 key).2.1 (newE_few 1 key).2.2 ([]) 0 (D1) HI1.out 0 rfl)
                    obtain ⟨G1, c1, hcx, hc1, hc2, hrd⟩ := HR1.out _ _ Sd.out rfl
                    have HCL := Lib.hid (HINC1.out wd G1 c1 Sd.out hrd hc1 hc2)
                    clear HINC1 hrd hc1 hc2
                    go_upto_region 40 with (go_loud (go_at_call 19; (with_reducible refine HCL.out.mono ?_); rintro e we ⟨OD, od, rfl, hS⟩; have Se : Hid (SepL w ([EndO pa (wE window key (msN m) k), FactO (fun L Mu w => (noI L Mu w ∧ Packs L Mu w OB q1 (outL (wE window key (msN m) k))) ∧ Packs L Mu w (some ⟨gr, 0, none⟩) t P), RowO 5 (.slice (some ⟨gb, 0, none⟩) 1 1) [.int .u8 99], PacO OA t P t, EndO pc (wE window key (msN m) 0), EndO pd D1] : List Obj) we) := Lib.hid hS; clear hS))
                    clear HCL Sd hcx
                    have HOC := Lib.hid (sl_copy Se.out (i := 5) rfl)
                    go_upto_region 41 with (go_loud (go_at_call 31; (with_reducible refine HOC.out.mono ?_); rintro e wf ⟨po, rfl, hS⟩; have Sf : Hid (SepL w ([EndO pa (wE window key (msN m) k), FactO (fun L Mu w => (noI L Mu w ∧ Packs L Mu w OB q1 (outL (wE window key (msN m) k))) ∧ Packs L Mu w (some ⟨gr, 0, none⟩) t P), RowO 5 (.slice (some ⟨gb, 0, none⟩) 1 1) [.int .u8 99], PacO OA t P t, EndO pc (wE window key (msN m) 0), EndO pd D1, EndO po D1] : List Obj) wf) := Lib.hid hS; clear hS))
                    clear HOC Se
                    have HINC2 : Hid (∀ (W : World) (gs cs : Nat), SepL w ([EndO pa (wE window key (msN m) k), FactO (fun L Mu w => (noI L Mu w ∧ Packs L Mu w OB q1 (outL (wE window key (msN m) k))) ∧ Packs L Mu w (some ⟨gr, 0, none⟩) t P), RowO 5 (.slice (some ⟨gb, 0, none⟩) 1 1) [.int .u8 99], PacO OA t P t, EndO pc (wE window key (msN m) 0), EndO pd D1, EndO po D1] : List Obj) W → Rd W W.heap.size (some ⟨gs, 0, none⟩) z0 (u8s X0) → z0 ≤ cs → cs ≤ 9223372036854775807 → Calls Try.prog 19 #[.pointer (some ⟨pd, 0, none⟩), .slice (some ⟨gs, 0, none⟩) z0 cs] W fun e w' => ∃ OX ox, e = .returned (.tuple #[.slice OX 2 ox, .int .i64 0]) ∧ SepL w ([EndO pa (wE window key (msN m) k), FactO (fun L Mu w => (noI L Mu w ∧ Packs L Mu w OB q1 (outL (wE window key (msN m) k))) ∧ Packs L Mu w (some ⟨gr, 0, none⟩) t P), RowO 5 (.slice (some ⟨gb, 0, none⟩) 1 1) [.int .u8 99], PacO OA t P t, EndO pc (wE window key (msN m) 0), EndO pd D2, EndO po D1] : List Obj) w') := Lib.hid (fun W gs cs hS hR h1 h2 => sl_in hS (i := 5) (k := 1) (E := D1) rfl rfl (by decide) ((noI.stab.and (Packs.stab _ _ _)).and (Packs.stab _ _ _)) X0 (some ⟨gs, 0, none⟩) z0 cs hR HBX.out.1 (by omega) h1 h2 HFD.out.1 HFD.out.2.1 HFD.out.2.2 (xs) 0 (D2) HD2.out 2 HXS.out)
                    have HINC3 : Hid (∀ (W : World) (gs cs : Nat), SepL w ([EndO pa (wE window key (msN m) k), FactO (fun L Mu w => (noI L Mu w ∧ Packs L Mu w OB q1 (outL (wE window key (msN m) k))) ∧ Packs L Mu w (some ⟨gr, 0, none⟩) t P), RowO 5 (.slice (some ⟨gb, 0, none⟩) 1 1) [.int .u8 99], PacO OA t P t, EndO pc (wE window key (msN m) 0), EndO pd D2, EndO po D1] : List Obj) W → Rd W W.heap.size (some ⟨gs, 0, none⟩) z0 (u8s X0) → z0 ≤ cs → cs ≤ 9223372036854775807 → Calls Try.prog 19 #[.pointer (some ⟨po, 0, none⟩), .slice (some ⟨gs, 0, none⟩) z0 cs] W fun e w' => ∃ OX ox, e = .returned (.tuple #[.slice OX 2 ox, .int .i64 0]) ∧ SepL w ([EndO pa (wE window key (msN m) k), FactO (fun L Mu w => (noI L Mu w ∧ Packs L Mu w OB q1 (outL (wE window key (msN m) k))) ∧ Packs L Mu w (some ⟨gr, 0, none⟩) t P), RowO 5 (.slice (some ⟨gb, 0, none⟩) 1 1) [.int .u8 99], PacO OA t P t, EndO pc (wE window key (msN m) 0), EndO pd D2, EndO po D2] : List Obj) w') := Lib.hid (fun W gs cs hS hR h1 h2 => sl_in hS (i := 6) (k := 1) (E := D1) rfl rfl (by decide) ((noI.stab.and (Packs.stab _ _ _)).and (Packs.stab _ _ _)) X0 (some ⟨gs, 0, none⟩) z0 cs hR HBX.out.1 (by omega) h1 h2 HFD.out.1 HFD.out.2.1 HFD.out.2.2 (xs) 0 (D2) HD2.out 2 HXS.out)
                    obtain ⟨G0, c0, hcx, hc1, hc2, hrd⟩ := HR0.out _ _ Sf.out rfl
                    have HCL := Lib.hid (HINC2.out wf G0 c0 Sf.out hrd hc1 hc2)
                    clear HINC2 hrd hc1 hc2
                    go_upto_region 44 with (go_loud (go_at_call 19; (with_reducible refine HCL.out.mono ?_); rintro e wg ⟨OE, oe, rfl, hS⟩; have Sg : Hid (SepL w ([EndO pa (wE window key (msN m) k), FactO (fun L Mu w => (noI L Mu w ∧ Packs L Mu w OB q1 (outL (wE window key (msN m) k))) ∧ Packs L Mu w (some ⟨gr, 0, none⟩) t P), RowO 5 (.slice (some ⟨gb, 0, none⟩) 1 1) [.int .u8 99], PacO OA t P t, EndO pc (wE window key (msN m) 0), EndO pd D2, EndO po D1] : List Obj) wg) := Lib.hid hS; clear hS))
                    clear HCL Sf hcx
                    obtain ⟨G2, c2, hcx, hc1, hc2, hrd⟩ := HR0.out _ _ Sg.out rfl
                    have HCL := Lib.hid (HINC3.out wg G2 c2 Sg.out hrd hc1 hc2)
                    clear HINC3 hrd hc1 hc2
                    go_upto_region 45 with (go_loud (go_at_call 19; (with_reducible refine HCL.out.mono ?_); rintro e wh ⟨OF, of2, rfl, hS⟩; have Sh : Hid (SepL w ([EndO pa (wE window key (msN m) k), FactO (fun L Mu w => (noI L Mu w ∧ Packs L Mu w OB q1 (outL (wE window key (msN m) k))) ∧ Packs L Mu w (some ⟨gr, 0, none⟩) t P), RowO 5 (.slice (some ⟨gb, 0, none⟩) 1 1) [.int .u8 99], PacO OA t P t, EndO pc (wE window key (msN m) 0), EndO pd D2, EndO po D2] : List Obj) wh) := Lib.hid hS; clear hS))
                    clear HCL Sg hcx HR0 HR1 HI1 HD2 HXS HBX HFD
                    go_upto_region 47 with fail
                    have HWA : Hid (Calls Try.prog 21 #[.pointer (some ⟨pa, 0, none⟩)] wh fun e w' => e = .returned (.int .i64 ((m : Int) - (k : Int))) ∧ wh = w') := Lib.hid ((sl_waiting Sh.out (i := 0) rfl).mono fun e w' h => ⟨by
                      rw [h.1]
                      have h2 : (((wE window key (msN m) k).waiting.length : Nat) : Int) = (m : Int) - (k : Int) := by simp only [wE, List.length_drop, msN_length]; omega
                      rw [h2], h.2⟩)
                    have HWC : Hid (Calls Try.prog 21 #[.pointer (some ⟨pc, 0, none⟩)] wh fun e w' => e = .returned (.int .i64 (m : Int)) ∧ wh = w') := Lib.hid ((sl_waiting Sh.out (i := 4) rfl).mono fun e w' h => ⟨by
                      rw [h.1]
                      have h2 : (((wE window key (msN m) 0).waiting.length : Nat) : Int) = (m : Int) := by simp only [wE, List.length_drop, msN_length]; omega
                      rw [h2], h.2⟩)
                    obtain ⟨i0, hi, hz0, hz1, hz2⟩ := info_parts winfo_u8
                    obtain ⟨wm, hmk0, _, hgm⟩ := run_make_full (P := Try.prog) wh 0 33 5 i0 (.int .u8 0) 1 Try.underlying33 hi hz0 hz1 .i64 .i64 65537 (by rw [hz2]; decide) (by decide) (Nat.zero_le _)
                    have hmk : (Instr.makeSlice 33 (.int .i64 65537) (.int .i64 65537)).run Try.prog wh = .ok (.slice (some ⟨wh.heap.size, 0, none⟩) 65537 65537) wm := hmk0
                    have Em : Hid (Ext wh wm) := Lib.hid (Below.grown (Ext.refl wh) hgm (Nat.le_refl _) (fun k hk => by cases hk))
                    have HSF := Lib.hid (sl_full (Sh.out.ext Em.out) (i := 0) rfl (some ⟨wh.heap.size, 0, none⟩) 65537 65537 (by decide) (by decide))
                    have EF : Hid (Ext w wm) := Lib.hid (Sh.out.e.next Em.out)
                    clear hi hz0 hz1 hz2 hmk0 hgm Em
                    by_cases hmw : (m : Int) ≤ window
                    · have e1 : t = m := by omega
                      have hmw2 : (m : Int) - (k : Int) ≤ window := by omega
                      have e2 : (q1 : Int) = (m : Int) - (k : Int) := by omega
                      go_wp2_with (go_loud (first
                        | (go_at_call 21; (with_reducible refine HWA.out.mono ?_); rintro e w20 ⟨rfl, rfl⟩)
                        | (go_at_call 21; (with_reducible refine HWC.out.mono ?_); rintro e w20 ⟨rfl, rfl⟩)
                        | (go_at_call 11; (with_reducible refine HSF.out.mono ?_); rintro e w20 ⟨rfl, rfl⟩)
                        | (go_at_call 23; (with_reducible refine (lives_any wm).mono ?_); rintro e w20 ⟨rfl, hE20⟩; have E20 := Lib.hid hE20; clear hE20)))
                      go_ret
                      exact ⟨rfl, EF.out.next E20.out⟩
                    · have e1 : (t : Int) = window := by omega
                      by_cases hmw2 : (m : Int) - (k : Int) ≤ window
                      · have e2 : (q1 : Int) = (m : Int) - (k : Int) := by omega
                        go_wp2_with (go_loud (first
                          | (go_at_call 21; (with_reducible refine HWA.out.mono ?_); rintro e w20 ⟨rfl, rfl⟩)
                          | (go_at_call 21; (with_reducible refine HWC.out.mono ?_); rintro e w20 ⟨rfl, rfl⟩)
                          | (go_at_call 11; (with_reducible refine HSF.out.mono ?_); rintro e w20 ⟨rfl, rfl⟩)
                          | (go_at_call 23; (with_reducible refine (lives_any wm).mono ?_); rintro e w20 ⟨rfl, hE20⟩; have E20 := Lib.hid hE20; clear hE20)))
                        go_ret
                        exact ⟨rfl, EF.out.next E20.out⟩
                      · have e2 : (q1 : Int) = window := by omega
                        go_wp2_with (go_loud (first
                          | (go_at_call 21; (with_reducible refine HWA.out.mono ?_); rintro e w20 ⟨rfl, rfl⟩)
                          | (go_at_call 21; (with_reducible refine HWC.out.mono ?_); rintro e w20 ⟨rfl, rfl⟩)
                          | (go_at_call 11; (with_reducible refine HSF.out.mono ?_); rintro e w20 ⟨rfl, rfl⟩)
                          | (go_at_call 23; (with_reducible refine (lives_any wm).mono ?_); rintro e w20 ⟨rfl, hE20⟩; have E20 := Lib.hid hE20; clear hE20)))
                        go_ret
                        exact ⟨rfl, EF.out.next E20.out⟩
                  · have HWA : Hid (Calls Try.prog 21 #[.pointer (some ⟨pa, 0, none⟩)] wo fun e w' => e = .returned (.int .i64 ((m : Int) - (k : Int))) ∧ wo = w') := Lib.hid ((sl_waiting Sz.out (i := 0) rfl).mono fun e w' h => ⟨by
                      rw [h.1]
                      have h2 : (((wE window key (msN m) k).waiting.length : Nat) : Int) = (m : Int) - (k : Int) := by simp only [wE, List.length_drop, msN_length]; omega
                      rw [h2], h.2⟩)
                    have HWC : Hid (Calls Try.prog 21 #[.pointer (some ⟨pc, 0, none⟩)] wo fun e w' => e = .returned (.int .i64 (m : Int)) ∧ wo = w') := Lib.hid ((sl_waiting Sz.out (i := 4) rfl).mono fun e w' h => ⟨by
                      rw [h.1]
                      have h2 : (((wE window key (msN m) 0).waiting.length : Nat) : Int) = (m : Int) := by simp only [wE, List.length_drop, msN_length]; omega
                      rw [h2], h.2⟩)
                    obtain ⟨i0, hi, hz0, hz1, hz2⟩ := info_parts winfo_u8
                    obtain ⟨wm, hmk0, _, hgm⟩ := run_make_full (P := Try.prog) wo 0 33 5 i0 (.int .u8 0) 1 Try.underlying33 hi hz0 hz1 .i64 .i64 65537 (by rw [hz2]; decide) (by decide) (Nat.zero_le _)
                    have hmk : (Instr.makeSlice 33 (.int .i64 65537) (.int .i64 65537)).run Try.prog wo = .ok (.slice (some ⟨wo.heap.size, 0, none⟩) 65537 65537) wm := hmk0
                    have Em : Hid (Ext wo wm) := Lib.hid (Below.grown (Ext.refl wo) hgm (Nat.le_refl _) (fun k hk => by cases hk))
                    have HSF := Lib.hid (sl_full (Sz.out.ext Em.out) (i := 0) rfl (some ⟨wo.heap.size, 0, none⟩) 65537 65537 (by decide) (by decide))
                    have EF : Hid (Ext w wm) := Lib.hid (Sz.out.e.next Em.out)
                    clear hi hz0 hz1 hz2 hmk0 hgm Em
                    by_cases hmw : (m : Int) ≤ window
                    · have e1 : t = m := by omega
                      have hmw2 : (m : Int) - (k : Int) ≤ window := by omega
                      have e2 : (q1 : Int) = (m : Int) - (k : Int) := by omega
                      go_wp2_with (go_loud (first
                        | (go_at_call 21; (with_reducible refine HWA.out.mono ?_); rintro e w20 ⟨rfl, rfl⟩)
                        | (go_at_call 21; (with_reducible refine HWC.out.mono ?_); rintro e w20 ⟨rfl, rfl⟩)
                        | (go_at_call 11; (with_reducible refine HSF.out.mono ?_); rintro e w20 ⟨rfl, rfl⟩)
                        | (go_at_call 23; (with_reducible refine (lives_any wm).mono ?_); rintro e w20 ⟨rfl, hE20⟩; have E20 := Lib.hid hE20; clear hE20)))
                      go_ret
                      exact ⟨rfl, EF.out.next E20.out⟩
                    · have e1 : (t : Int) = window := by omega
                      by_cases hmw2 : (m : Int) - (k : Int) ≤ window
                      · have e2 : (q1 : Int) = (m : Int) - (k : Int) := by omega
                        go_wp2_with (go_loud (first
                          | (go_at_call 21; (with_reducible refine HWA.out.mono ?_); rintro e w20 ⟨rfl, rfl⟩)
                          | (go_at_call 21; (with_reducible refine HWC.out.mono ?_); rintro e w20 ⟨rfl, rfl⟩)
                          | (go_at_call 11; (with_reducible refine HSF.out.mono ?_); rintro e w20 ⟨rfl, rfl⟩)
                          | (go_at_call 23; (with_reducible refine (lives_any wm).mono ?_); rintro e w20 ⟨rfl, hE20⟩; have E20 := Lib.hid hE20; clear hE20)))
                        go_ret
                        exact ⟨rfl, EF.out.next E20.out⟩
                      · have e2 : (q1 : Int) = window := by omega
                        go_wp2_with (go_loud (first
                          | (go_at_call 21; (with_reducible refine HWA.out.mono ?_); rintro e w20 ⟨rfl, rfl⟩)
                          | (go_at_call 21; (with_reducible refine HWC.out.mono ?_); rintro e w20 ⟨rfl, rfl⟩)
                          | (go_at_call 11; (with_reducible refine HSF.out.mono ?_); rintro e w20 ⟨rfl, rfl⟩)
                          | (go_at_call 23; (with_reducible refine (lives_any wm).mono ?_); rintro e w20 ⟨rfl, hE20⟩; have E20 := Lib.hid hE20; clear hE20)))
                        go_ret
                        exact ⟨rfl, EF.out.next E20.out⟩
  · have HNB : Hid (Calls Try.prog 28 #[.int .i64 window, .int .u64 key] w fun e w' => e = .returned (.tuple #[.pointer none, .int .i64 1]) ∧ w = w') := Lib.hid ((new_bad window key w hwr).mono fun _ _ h => ⟨h.1, h.2.symm⟩)
    obtain ⟨hwi1, hwi2⟩ := hwi
    by_cases hw1 : window < 1
    · clear hwr
      go_enter Try.func8, Try.ntmps8
      go_wp2_with (go_loud (first
        | (go_at_call 28; (with_reducible refine HNB.out.mono ?_); rintro e w7 ⟨rfl, rfl⟩)
        | (go_at_call 23; (with_reducible refine (lives_any w).mono ?_); rintro e w20 ⟨rfl, hE20⟩; have E20 := Lib.hid hE20; clear hE20)))
      go_ret
      exact ⟨rfl, E20.out⟩
    · have hw2 : 16 < window := by omega
      clear hwr
      go_enter Try.func8, Try.ntmps8
      go_wp2_with (go_loud (first
        | (go_at_call 28; (with_reducible refine HNB.out.mono ?_); rintro e w7 ⟨rfl, rfl⟩)
        | (go_at_call 23; (with_reducible refine (lives_any w).mono ?_); rintro e w20 ⟨rfl, hE20⟩; have E20 := Lib.hid hE20; clear hE20)))
      go_ret
      exact ⟨rfl, E20.out⟩
namespace fnLinkWindow
theorem params_linkWindow : (Try.f8.params.toList.all fun t => Try.prog.readableRec t && decide (t < Try.prog.types.size)) = true := by kernel_rfl
theorem contract (H : Type) (enc : TypeId × Value → H) (W : World) (base : Nat) (args : Array Value) (ds gs : List (DataW H)) (before : List MemPlace)
    (hval : ∀ (j : Nat) t v, Try.f8.params[j]? = some t → args[j]? = some v → Value.okWide Try.prog W .any base t v)
    (hW : DataW.Whole enc Try.prog Try.f8.params.toList Rows.linkWindowSpec.vars false W args.toList ds gs before) :
    Calls Try.prog 8 args W fun e W' => ∃ v, e = .returned v ∧ Rows.linkWindowSpec.post enc Try.prog Try.f8 false true false false W args v W' := by
  have hW' := hW
  obtain ⟨p, q, hA0, _, _, _, _⟩ := hW
  have hA : DataW.TrodAll enc Try.prog W 0 (fun _ => true) true Try.f8.params.toList args.toList ds p := hA0
  rw [Try.params8] at hA hval
  obtain ⟨v0, vs0, d0, ds0, p0, q0, hargs, e0d, e0p, h0, r0⟩ := trodAll_cons hA
  obtain ⟨v1, vs1, d1, ds1, p1, q1, e1, e1d, e1p, h1, r1⟩ := trodAll_cons r0
  obtain ⟨v2, vs2, d2, ds2, p2, q2, e2, e2d, e2p, h2, r2⟩ := trodAll_cons r1
  obtain ⟨v3, vs3, d3, ds3, p3, q3, e3, e3d, e3p, h3, r3⟩ := trodAll_cons r2
  obtain ⟨en1, en2, en3⟩ := trodAll_nil r3
  obtain rfl : args = #[v0, v1, v2, v3] := by cases args; simp_all
  clear hA hA0
  obtain ⟨window, rfl, _, _, hwin⟩ := open_int Try.underlying3 (hval 0 _ v0 rfl rfl) h0
  obtain ⟨key, rfl, _, _, hkey⟩ := open_int Try.underlying22 (hval 1 _ v1 rfl rfl) h1
  obtain ⟨k0, k1⟩ := wf_u64 hkey
  obtain ⟨many, rfl, _, _, hmany⟩ := open_int Try.underlying3 (hval 2 _ v2 rfl rfl) h2
  obtain ⟨ack, rfl, _, _, hack⟩ := open_int Try.underlying3 (hval 3 _ v3 rfl rfl) h3
  refine (walk_win window key many ack W (wf_i64 hwin) k0 k1 (wf_i64 hmany) (wf_i64 hack)).mono fun e W' ⟨he, hg⟩ => ⟨_, he, ?_⟩
  exact post_law hW' laidOut (params_ok params_linkWindow) 4 rfl Try.underlying4 rfl (fun ds h => by
    rw [Try.params8] at h
    match ds, h with
    | [_, _, _, _], _ => rfl) hg
noncomputable def laidWorld (os : Os) : World := World.holding Try.prog os ⟨#[], #[], []⟩
theorem reads (os : Os) {H : Type} (enc : TypeId × Value → H) : ∃ places, DataW.whole enc Try.prog ((laidWorld os).forCall (fun _ _ => 0) ⟨#[], #[.int .i64 0, .int .u64 0, .int .i64 0, .int .i64 0], []⟩).memory Try.f8.params.toList Rows.linkWindowSpec.vars false (#[.int .i64 0, .int .u64 0, .int .i64 0, .int .i64 0] : Array Value).toList 8 = some ([.lit (.int .i64 0), .lit (.int .u64 0), .lit (.int .i64 0), .lit (.int .i64 0)], [], places) :=
  ⟨[], by kernel_rfl⟩
set_option maxRecDepth 100000 in
theorem lifted (os : Os) (started : os.Started) (H : Type) (enc : TypeId × Value → H) (F : Stop.Interp) :
    ReturnsInHanded {} Try.checked os 8 .any ((OpenSpec.ofChange Rows.linkWindowSpec).preRow enc Try.prog Try.f8 Rows.linkWindowRow.domain false Rows.linkWindowRow.laid) (((OpenSpec.ofChange Rows.linkWindowSpec).at F).post enc Try.prog Try.f8 false true false false) := by
  obtain ⟨places, hx⟩ := reads os enc
  refine returnsInHanded_of_row (C := Try.checked) (s := OpenSpec.ofChange Rows.linkWindowSpec) own started (by kernel_rfl) Try.func8
    (witness_row_at (enc := enc) (C := Try.checked) false (laidWorld os) #[.int .i64 0, .int .u64 0, .int .i64 0, .int .i64 0] rfl (by kernel_rfl) (by kernel_rfl) (by kernel_rfl)
      (OpenSpec.preRow_of_cond 8 hx (by kernel_rfl) (fun k hk => by cases hk) (by kernel_rfl) (laidMet_nil _ _))) ?_
  intro W base args ds gs before hval hW _ _ _ hL _ _
  exact contract H enc W base args ds gs before hval hW
theorem said : Rows.LinkWindowSaid :=
  OpenClaim.holds_of_cond 8 Try.f8 rfl rfl rfl rfl rfl rfl rfl ⟨rfl, rfl, rfl, rfl, rfl⟩ rfl rfl rfl rfl rfl (by kernel_rfl) Try.func8 (by kernel_rfl)
    (of_decide_eq_true (by kernel_rfl)) (by unfold Func.isWrapper; first | (rw [if_pos (by decide +kernel)]; kernel_rfl) | (rw [if_neg (by decide +kernel)]; exact ⟨rfl, rfl⟩))
    (fun os started H enc _ F => by rw [OpenClaim.pre_eq_preRow]; exact lifted os started H enc F)
end fnLinkWindow
end Go.Proofs.Ytkgmoklifkojhaa
