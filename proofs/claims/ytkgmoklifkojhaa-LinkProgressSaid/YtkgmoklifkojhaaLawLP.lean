/- LinkProgress: for all windows, keys and numbers the law answers true. Conditions: none beyond the row's own. -/
import Derived.Test.YtkgmoklifkojhaaLkProgS
import Derived.Test.YtkgmoklifkojhaaLkEnds
import Derived.Test.YtkgmoklifkojhaaLkLawA
import Derived.Test.YtkgmoklifkojhaaFlowV
set_option linter.unusedSimpArgs false
set_option linter.unusedVariables false
namespace Go.Proofs.Ytkgmoklifkojhaa
open Go.RowKit Go.WideShapes Go.ChangeShapes
def numC (f : Nat → Nat) : List Value := [.int .i64 (f 0), .int .i64 (f 1)]
theorem numC_at (f : Nat → Nat) {k : Nat} (hk : k < 2) : (numC f)[k]? = some (.int .i64 (f k)) := by rcases two_cases hk with rfl | rfl <;> rfl
theorem ptrC_at (P : Nat → Nat) {k : Nat} (hk : k < 2) : (ptrC P)[k]? = some (.pointer (some ⟨P k, 0, none⟩)) := by rcases two_cases hk with rfl | rfl <;> rfl
def pairF (x y : Nat) : Nat → Nat
  | 0 => x
  | _ => y
theorem pairF_le {x y b : Nat} (hx : x ≤ b) (hy : y ≤ b) (k : Nat) : pairF x y k ≤ b := by cases k <;> assumption
/-- The ends' slice and the numbers of messages. -/
def I2 (P : Nat → Nat) (ge gm : Nat) (f : Nat → Nat) : LawI := fun L Mu w => Cel L Mu w ge (ptrC P) ∧ Cel L Mu w gm (numC f)
theorem I2.stabI (P : Nat → Nat) (ge gm : Nat) (f : Nat → Nat) : StabI (I2 P ge gm f) := (Cel.stab ge _).and (Cel.stab gm _)
theorem I2.stab (P : Nat → Nat) (ge gm : Nat) (f : Nat → Nat) : Stab (I2 P ge gm f) := (I2.stabI P ge gm f).stab
def I3 (P : Nat → Nat) (ge gm : Nat) (f : Nat → Nat) (gg : Nat) (d : Nat → Nat) : LawI := fun L Mu w => I2 P ge gm f L Mu w ∧ OwnB L Mu w gg 3 (numC d)
theorem I3.stab (P : Nat → Nat) (ge gm : Nat) (f : Nat → Nat) (gg : Nat) (d : Nat → Nat) : Stab (I3 P ge gm f gg d) := (I2.stab P ge gm f).and (OwnB.stab gg _ _)
/-- Ends that have only sent. -/
def ES (wN : Nat → Int) (key : Int) (f : Nat → Nat) : Nat → EndS := fun j => EP (wN j) key (f j) 0 0 false
def sentF (mN : Nat → Nat) (k t : Nat) : Nat → Nat := fun j => if j < k then mN j else if j = k then t else 0
theorem sentF_end (mN : Nat → Nat) (k : Nat) : sentF mN k (mN k) = sentF mN (k + 1) 0 := by
  funext j
  unfold sentF
  by_cases h1 : j < k
  · rw [if_pos h1, if_pos (by omega)]
  · by_cases h2 : j = k
    · subst h2; rw [if_neg h1, if_pos rfl, if_pos (by omega)]
    · rw [if_neg h1, if_neg h2, if_neg (by omega)]; split <;> rfl
theorem sentF_at (mN : Nat → Nat) (k t : Nat) : sentF mN k t k = t := by unfold sentF; simp
theorem es_send (wN : Nat → Int) (key : Int) (mN : Nat → Nat) (k t : Nat) : updE (ES wN key (sentF mN k t)) k (sendE (ES wN key (sentF mN k t) k) [(t : Int)]) = ES wN key (sentF mN k (t + 1)) := by
  funext j
  unfold updE ES
  by_cases hj : j = k
  · subst hj
    rw [if_pos rfl, sentF_at, sentF_at, ep_send]
  · rw [if_neg hj]
    unfold sentF
    rw [if_neg hj, if_neg hj]
theorem es_out (wN : Nat → Int) (key : Int) (f : Nat → Nat) (k : Nat) : updE (ES wN key f) k (outE (ES wN key f k)) = ES wN key f := by
  funext j
  unfold updE
  by_cases hj : j = k
  · subst hj; rw [if_pos rfl]; rfl
  · rw [if_neg hj]
def I4 (P : Nat → Nat) (ge gm : Nat) (f : Nat → Nat) (gg : Nat) (d : Nat → Nat) (OA : Option Addr) (n : Nat) (ls : List (List Int)) : LawI := fun L Mu w => I3 P ge gm f gg d L Mu w ∧ Packs L Mu w OA n ls
theorem I4.stab (P : Nat → Nat) (ge gm : Nat) (f : Nat → Nat) (gg : Nat) (d : Nat → Nat) (OA : Option Addr) (n : Nat) (ls : List (List Int)) : Stab (I4 P ge gm f gg d OA n ls) := (I3.stab P ge gm f gg d).and (Packs.stab OA n ls).stab
theorem J5.stab (P : Nat → Nat) (ge gm : Nat) (f : Nat → Nat) (gg : Nat) (d : Nat → Nat) (OA : Option Addr) (n : Nat) (ls : List (List Int)) (OB : Option Addr) (j : Nat) (xs : List (List Int)) : Stab (fun L Mu w => I4 P ge gm f gg d OA n ls L Mu w ∧ Mess L Mu w OB j xs) := (I4.stab P ge gm f gg d OA n ls).and (Mess.stab OB j xs).stab
theorem frozen_ext {w w' : World} (h : Ext w w') {g j : Nat} (hg : g < w.heap.size) : w'.frozen? ⟨g, j, none⟩ = w.frozen? ⟨g, j, none⟩ := Below.frozen h (p := ⟨g, j, none⟩) hg
theorem numC_set (f : Nat → Nat) {k : Nat} (hk : k < 2) (x y : Nat) : (numC (updE f k x)).set k (.int .i64 (y : Int)) = numC (updE f k y) := by
  rcases two_cases hk with rfl | rfl <;> simp [numC, updE]
/-- The law counts a message. -/
theorem law_set {P : Nat → Nat} {ge gm : Nat} {f : Nat → Nat} {gg : Nat} {d : Nat → Nat} {OA : Option Addr} {n : Nat} {ls : List (List Int)} {OB : Option Addr} {j : Nat} {xs : List (List Int)} {L Mu : Nat → Prop} {W : World} {k x : Nat} (h : I4 P ge gm f gg (updE d k (x + 0)) OA n ls L Mu W ∧ Mess L Mu W OB j xs) (hk : k < 2) :
    (∀ g, g = gg → L g ∧ Mu g) ∧ (GrwI L Mu W L Mu (W.setCell ⟨gg, k, none⟩ (.int .i64 ((x : Int) + 1))) → I4 P ge gm f gg (updE d k (x + 1)) OA n ls L Mu (W.setCell ⟨gg, k, none⟩ (.int .i64 ((x : Int) + 1))) ∧ Mess L Mu (W.setCell ⟨gg, k, none⟩ (.int .i64 ((x : Int) + 1))) OB j xs) := by
  obtain ⟨⟨⟨h2, o1, o2, o3⟩, h4⟩, h5⟩ := h
  refine ⟨fun g hg => by rw [hg]; exact ⟨o1, o2⟩, fun hG => ⟨⟨⟨I2.stabI _ _ _ _ _ _ _ _ _ _ hG h2, o1, o2, ?_⟩, Packs.stab _ _ _ _ _ _ _ _ _ hG h4⟩, Mess.stab _ _ _ _ _ _ _ _ _ hG h5⟩⟩
  have h6 := o3.set k (.int .i64 ((x + 1 : Nat) : Int))
  rw [numC_set d hk] at h6
  exact h6
def mostN (m0 m1 : Nat) : Nat := max m0 m1
set_option maxHeartbeats 16000000 in
set_option maxRecDepth 100000 in
theorem walk_prog (window key one two lost : Int) (w : World) (hwi : in64 window) (k0 : 0 ≤ key) (k1 : key ≤ 18446744073709551615) (h1 : in64 one) (h2 : in64 two) (h3 : in64 lost) :
    Calls Try.prog 6 #[.int .i64 window, .int .u64 key, .int .i64 one, .int .i64 two, .int .i64 lost] w fun e w' => e = .returned (.bool true) ∧ Below w.heap.size w w' := by
  obtain ⟨m0, hm0, hb0⟩ := around_nat one 31 (by decide)
  obtain ⟨m1, hm1, hb1⟩ := around_nat two 31 (by decide)
  obtain ⟨q, hq, hqb⟩ := around_nat lost 5 (by decide)
  have HM0 : Hid ((m0 : Int) = aroundI one 31) := Lib.hid hm0; have HM1 : Hid ((m1 : Int) = aroundI two 31) := Lib.hid hm1; have HQ : Hid ((q : Int) = aroundI lost 5) := Lib.hid hq
  have HW := Lib.hid hwi; have H1 := Lib.hid h1; have H2 := Lib.hid h2; have H3 := Lib.hid h3
  clear hm0 hm1 hq hwi h1 h2 h3
  have hnil := fun (w : World) (a : Addr) => Lib.run_eql_slice_nil w _ _ (some a) 2 2 0 0 Try.underlying24
  go_enter Try.func6, Try.ntmps6
  go_upto_region 2 with (go_loud (go_at_call 9; (with_reducible refine (ends_any window key w HW.out k0 k1).mono ?_); rintro e w1 ⟨ge, P, rfl, hS⟩; have S1 := Lib.hid hS; clear hS))
  go_upto_region 5 with (go_loud (first
    | (go_at_call 10; (with_reducible refine (around_w one 31 w1 H1.out (by decide) (by decide)).mono ?_); rintro e w2 ⟨rfl, rfl⟩; rw [← HM0.out])
    | (go_at_call 10; (with_reducible refine (around_w two 31 w1 H2.out (by decide) (by decide)).mono ?_); rintro e w3 ⟨rfl, rfl⟩; rw [← HM1.out])))
  change Code.wp _ _ _ _ (w1.alloc (.cells #[.int .i64 m0, .int .i64 m1] 3))
  obtain ⟨w4, hw4⟩ : ∃ x, x = w1.alloc (.cells #[.int .i64 m0, .int .i64 m1] 3) := ⟨_, rfl⟩
  rw [← hw4]
  obtain ⟨gm, hgm⟩ : ∃ g, g = w1.heap.size := ⟨_, rfl⟩
  rw [← hgm]
  have B4 : Hid (Blk w4 gm 3 [.int .i64 m0, .int .i64 m1]) := Lib.hid (by rw [hw4, hgm]; exact Blk.fresh _ _ _)
  have E4 : Hid (Ext w1 w4) := Lib.hid (by rw [hw4]; exact (Ext.refl w1).alloc _)
  have HG4 : Hid (w1.heap.size ≤ gm) := Lib.hid (Nat.le_of_eq hgm.symm)
  clear hw4 hgm
  have S4 : Hid (LawSt w P (ES (winE window) key (sentF (pairF m0 m1) 0 0)) (I2 P ge gm (pairF m0 m1)) w4) := Lib.hid ((S1.out.ext (Cel.stab ge _).stab (fun _ => False) E4.out (fun L Mu h hc => ⟨hc, (h gm HG4.out B4.out.lt).1, (h gm HG4.out B4.out.lt).2.2 id, B4.out.lt, fun j u hj => (B4.out.cell j).trans hj⟩)).cong rfl rfl)
  clear S1 B4 E4 HG4
  obtain ⟨mN, hmN⟩ : ∃ f, f = pairF m0 m1 := ⟨_, rfl⟩
  rw [← hmN] at S4
  have HMN := Lib.hid hmN
  have HMB : Hid (∀ k, mN k ≤ 30) := Lib.hid (by rw [hmN]; exact pairF_le (by omega) (by omega))
  clear hmN
  go_wp2_with fail
  go_loopw [13] (fun i wr => ∃ k : Nat, k ≤ 2 ∧ i = .int .i64 k ∧ LawSt w P (ES (winE window) key (sentF mN k 0)) (I2 P ge gm mN) wr) (fun i _ => 2 - (intOf i).toNat)
  case atStart => exact ⟨0, by omega, rfl, S4.out⟩
  case round =>
    clear S4
    obtain ⟨k, hk, rfl, hS⟩ := hrel
    have HSo := Lib.hid hS
    clear hS
    obtain ⟨wo, rfl⟩ : ∃ x : World, x = wr := ⟨_, rfl⟩
    by_cases hk2 : k < 2
    · obtain ⟨mk, hmk⟩ : ∃ x, x = mN k := ⟨_, rfl⟩
      have hmkb : mk ≤ 30 := by rw [hmk]; exact HMB.out k
      have HMK := Lib.hid hmk
      clear hmk
      go_wp2_with fail
      generalize decide ((k : Int) < 2) = bk
      go_loopw [14] (fun i wr => ∃ t : Nat, t ≤ mk ∧ i = .int .i64 t ∧ LawSt w P (ES (winE window) key (sentF mN k t)) (I2 P ge gm mN) wr) (fun i _ => mk - (intOf i).toNat)
      case atStart => exact ⟨0, by omega, rfl, HSo.out⟩
      case round =>
        clear HSo
        obtain ⟨t, ht, rfl, hS⟩ := hrel
        obtain ⟨L0, M0, hI0, _, _⟩ := hS.get
        have ce := hI0.1.at_ k _ (ptrC_at P hk2)
        have cm := hI0.2.at_ k _ (numC_at mN hk2)
        rw [← HMK.out] at cm
        have HS := Lib.hid hS
        clear hS hI0
        by_cases hlt : t < mk
        · have HQ10 : Hid ((ES (winE window) key (sentF mN k t) k).waiting.length < 1000 ∧ (ES (winE window) key (sentF mN k t) k).acked + (ES (winE window) key (sentF mN k t) k).waiting.length < 1000000000) := Lib.hid (by
            have e : (ES (winE window) key (sentF mN k t) k).waiting.length = t := by
              show (msgsN 0 (sentF mN k t k)).length = t
              rw [msgsN_len, sentF_at]
              rfl
            rw [e]
            show t < 1000 ∧ (0 : Int) + (t : Int) < 1000000000
            omega)
          have HBY : Hid (Byt [(t : Int)]) := Lib.hid (byt_one _ (by omega) (by omega))
          have HRL := Lib.hid (rd_lit wr (t : Int))
          have HSX := Lib.hid (HS.out.ext' (I2.stab _ _ _ _) ((Ext.refl wr).alloc (.cells #[.int .u8 (t : Int)] 5)))
          go_wp2_with (go_loud (go_at_call 11; (with_reducible refine (ls_send HSX.out (I2.stab _ _ _ _) hk2 [(t : Int)] (some ⟨wr.heap.size, 0, none⟩) 1 1 HRL.out HBY.out (by decide) HQ10.out.1 HQ10.out.2).mono ?_); rintro e w5 ⟨rfl, hS5⟩; rw [es_send] at hS5; have S5 := Lib.hid hS5; clear hS5))
          go_roundw
          case rel => exact ⟨t + 1, by omega, by go_num, S5.out⟩
          case measure => simp [intOf]; omega
        · obtain rfl : t = mk := by omega
          go_wp2_with fail
          go_roundw
          case rel => exact ⟨k + 1, by omega, by go_num, by rw [← sentF_end, ← HMK.out]; exact HS.out⟩
          case measure => simp [intOf]; omega
    · have hk3 : 2 ≤ k := by omega
      have HSD : Hid (LawSt w P (ES (winE window) key mN) (I2 P ge gm mN) wo) := Lib.hid (by
        obtain rfl : k = 2 := by omega
        exact HSo.out.cong rfl rfl)
      clear HSo
      go_wp2_with fail
      go_loopw [15] (fun i wr => ∃ t : Nat, t ≤ q ∧ i = .int .i64 t ∧ LawSt w P (ES (winE window) key mN) (I2 P ge gm mN) wr) (fun i _ => q - (intOf i).toNat)
      case atStart => exact ⟨0, by omega, rfl, HSD.out⟩
      case round =>
        clear HSD
        obtain ⟨t, ht, rfl, hS⟩ := hrel
        obtain ⟨r, hr, hr2⟩ : ∃ r : Nat, (t : Int) % 2 = r ∧ r < 2 := ⟨t % 2, by omega, by omega⟩
        obtain ⟨L0, M0, hI0, _, _⟩ := hS.get
        have ce := hI0.1.at_ r _ (ptrC_at P hr2)
        have HS := Lib.hid hS
        clear hS hI0
        have HAR := Lib.hid (around_w lost 5 wr H3.out (by decide) (by decide))
        rw [← HQ.out] at HAR
        by_cases hlt : t < q
        · go_wp2_with (go_loud (first
            | (go_at_call 10; (with_reducible refine HAR.out.mono ?_); rintro e w6 ⟨rfl, rfl⟩)
            | (go_at_call 13; (with_reducible refine (ls_out HS.out (I2.stab _ _ _ _) hr2).mono ?_); rintro e w6 ⟨OA, oc, n6, rfl, _, _, _, hS6⟩; rw [es_out] at hS6; have S6 := Lib.hid (hS6.imp (fun _ _ h => h.1)); clear hS6)))
          clear hr
          go_roundw
          case rel => exact ⟨t + 1, by omega, by go_num, S6.out⟩
          case measure => simp [intOf]; omega
        · obtain rfl : t = q := by omega
          clear ce hr
          go_wp2_with (go_loud (go_at_call 10; (with_reducible refine HAR.out.mono ?_); rintro e w6 ⟨rfl, rfl⟩))
          obtain ⟨w7, rfl⟩ : ∃ x : World, x = wr := ⟨_, rfl⟩
          go_upto_region 18 with fail
          change Code.wp _ _ _ _ (w7.alloc (.cells #[.int .i64 0, .int .i64 0] 3))
          obtain ⟨w8, hw8⟩ : ∃ x, x = w7.alloc (.cells #[.int .i64 0, .int .i64 0] 3) := ⟨_, rfl⟩
          rw [← hw8]
          obtain ⟨gg, hgg⟩ : ∃ g, g = w7.heap.size := ⟨_, rfl⟩
          rw [← hgg]
          have B8 : Hid (Blk w8 gg 3 [.int .i64 0, .int .i64 0]) := Lib.hid (by rw [hw8, hgg]; exact Blk.fresh _ _ _)
          have E8 : Hid (Ext w7 w8) := Lib.hid (by rw [hw8]; exact (Ext.refl w7).alloc _)
          have HG8 : Hid (w7.heap.size ≤ gg) := Lib.hid (Nat.le_of_eq hgg.symm)
          clear hw8 hgg
          have S8 : Hid (LawSt w P (EN (winE window) key mN ⟨fun _ => 0, fun _ => 0, fun _ => false⟩) (I3 P ge gm mN gg (fun _ => 0)) w8) := Lib.hid (HS.out.ext (I2.stab _ _ _ _) (fun _ => True) E8.out (fun L Mu h hc => ⟨hc, (h gg HG8.out B8.out.lt).1, (h gg HG8.out B8.out.lt).2.1 trivial, B8.out⟩))
          clear B8 E8 HG8 HS HAR
          obtain ⟨M, hM⟩ : ∃ M, M = mostN (mN 0) (mN 1) := ⟨_, rfl⟩
          have hMb : M ≤ 30 := by rw [hM]; unfold mostN; have := HMB.out 0; have := HMB.out 1; omega
          have HM := Lib.hid hM
          clear hM
          go_wp2_with fail
          go_loopw [17] (fun i wr => ∃ (r : Nat) (N : Num), r ≤ M + 1 ∧ i = .int .i64 r ∧ PrN mN r N ∧ LawSt w P (EN (winE window) key mN N) (I3 P ge gm mN gg N.d) wr) (fun i _ => M + 1 - (intOf i).toNat)
          case atStart => exact ⟨0, ⟨fun _ => 0, fun _ => 0, fun _ => false⟩, by omega, rfl, prog_start _ _, S8.out⟩
          case round =>
            clear S8
            obtain ⟨r, N, hrM, rfl, hP, hS⟩ := hrel
            have HP := Lib.hid hP
            obtain ⟨x0, hx0⟩ : ∃ x, x = mN 0 := ⟨_, rfl⟩
            obtain ⟨x1, hx1⟩ : ∃ x, x = mN 1 := ⟨_, rfl⟩
            obtain ⟨L0, M0, hI0, hLl, _⟩ := hS.get
            have HC0 : Hid (wr.cell? ⟨gm, 0, none⟩ = some (.int .i64 x0)) := Lib.hid (by rw [hx0]; exact hI0.1.2.at_ 0 _ rfl)
            have HC1 : Hid (wr.cell? ⟨gm, 1, none⟩ = some (.int .i64 x1)) := Lib.hid (by rw [hx1]; exact hI0.1.2.at_ 1 _ rfl)
            have HGL : Hid (gm < wr.heap.size) := Lib.hid hI0.1.2.lt
            have HX0 := Lib.hid hx0; have HX1 := Lib.hid hx1
            have hMx : (M : Int) = max (x0 : Int) (x1 : Int) := by rw [HM.out, hx0, hx1]; unfold mostN; omega
            have HMX := Lib.hid hMx
            have HS := Lib.hid hS
            clear hP hS hI0 hLl hx0 hx1 hMx
            obtain ⟨wo, rfl⟩ : ∃ x : World, x = wr := ⟨_, rfl⟩
            obtain ⟨bm, hbm⟩ : ∃ b, b = decide (r ≤ M) := ⟨_, rfl⟩
            have HBM := Lib.hid hbm
            clear hbm
            go_upto_region 19 with fail
            refine wp_region_flowF 9 ?F19 (fun us => ?_) (by kernel_rfl) (by kernel_rfl) (fun a b => Ext a b) Ext.refl (fun h1 h2 => h1.next h2) (fun i v W => match i with
              | 0 => v = .int .i64 r
              | 1 => v = .slice (some ⟨gm, 0, none⟩) 2 2
              | 2 => v = .pointer (some ⟨gm, 0, none⟩)
              | 3 => v = .int .i64 x0
              | 4 => v = .slice (some ⟨gm, 0, none⟩) 2 2
              | 5 => v = .pointer (some ⟨gm, 1, none⟩)
              | 6 => v = .int .i64 x1
              | 7 => v = .int .i64 M
              | 8 => v = .bool bm
              | _ => True) ?_ ?_
            case refine_1 =>
              simp only [List.take_succ_cons, List.take_zero, flowAct, Nat.zero_add, Nat.reduceAdd, Act.put, List.setIfInBounds_toArray, List.set_cons_succ, List.set_cons_zero]
              rfl
            · simp only [List.take_succ_cons, List.take_zero, flowStepsF]
              refine ⟨?_, ?_, ?_, ?_, ?_, ?_, ?_, ?_, ?_, trivial⟩
              · intro us W K hE hd hK
                dsimp only at hK ⊢
                have HK := Lib.hid hK; have HE := Lib.hid hE
                clear hK hd hE
                go_wp2_with fail
                exact K_at (HK.out (.int .i64 r) W (fun _ _ => rfl) (Ext.refl W)) (by kernel_rfl)
              · intro us W K hE hd hK
                dsimp only at hK ⊢
                have HK := Lib.hid hK; have HE := Lib.hid hE
                clear hK hd hE
                go_wp2_with fail
                exact K_at (HK.out (.slice (some ⟨gm, 0, none⟩) 2 2) W (fun _ _ => rfl) (Ext.refl W)) (by kernel_rfl)
              · intro us W K hE hd hK
                have d1 := hd 1 (by kernel_rfl)
                dsimp only at hK ⊢
                rw [d1] at hK ⊢
                have HK := Lib.hid hK; have HE := Lib.hid hE
                clear hK hd hE d1
                go_wp2_with fail
                exact K_at (HK.out (.pointer (some ⟨gm, 0, none⟩)) W (fun _ _ => rfl) (Ext.refl W)) (by kernel_rfl)
              · intro us W K hE hd hK
                have d2 := hd 2 (by kernel_rfl)
                have c0 := ((ext_undrew hE).cell (p := ⟨gm, 0, none⟩) HGL.out).trans HC0.out
                dsimp only at hK ⊢
                rw [d2] at hK ⊢
                have HK := Lib.hid hK; have HE := Lib.hid hE
                clear hK hd hE d2
                go_wp2_with fail
                exact K_at (HK.out (.int .i64 x0) W (fun _ _ => rfl) (Ext.refl W)) (by kernel_rfl)
              · intro us W K hE hd hK
                dsimp only at hK ⊢
                have HK := Lib.hid hK; have HE := Lib.hid hE
                clear hK hd hE
                go_wp2_with fail
                exact K_at (HK.out (.slice (some ⟨gm, 0, none⟩) 2 2) W (fun _ _ => rfl) (Ext.refl W)) (by kernel_rfl)
              · intro us W K hE hd hK
                have d4 := hd 4 (by kernel_rfl)
                dsimp only at hK ⊢
                rw [d4] at hK ⊢
                have HK := Lib.hid hK; have HE := Lib.hid hE
                clear hK hd hE d4
                go_wp2_with fail
                exact K_at (HK.out (.pointer (some ⟨gm, 1, none⟩)) W (fun _ _ => rfl) (Ext.refl W)) (by kernel_rfl)
              · intro us W K hE hd hK
                have d5 := hd 5 (by kernel_rfl)
                have c0 := ((ext_undrew hE).cell (p := ⟨gm, 1, none⟩) HGL.out).trans HC1.out
                dsimp only at hK ⊢
                rw [d5] at hK ⊢
                have HK := Lib.hid hK; have HE := Lib.hid hE
                clear hK hd hE d5
                go_wp2_with fail
                exact K_at (HK.out (.int .i64 x1) W (fun _ _ => rfl) (Ext.refl W)) (by kernel_rfl)
              · intro us W K hE hd hK
                have d3 := hd 3 (by kernel_rfl)
                have d6 := hd 6 (by kernel_rfl)
                dsimp only at hK ⊢
                rw [d3, d6] at hK ⊢
                have HK := Lib.hid hK; have HE := Lib.hid hE
                clear hK hd hE d3 d6
                go_wp2_with fail
                all_goals (first | (have e : (M : Int) = (x1 : Int) := (by have := HMX.out; omega); have HK2 := HK.out (.int .i64 (M : Int)) W (fun _ _ => rfl) (Ext.refl W); rw [e] at HK2; exact K_at HK2 (by kernel_rfl)) | (have e : (M : Int) = (x0 : Int) := (by have := HMX.out; omega); have HK2 := HK.out (.int .i64 (M : Int)) W (fun _ _ => rfl) (Ext.refl W); rw [e] at HK2; exact K_at HK2 (by kernel_rfl)))
              · intro us W K hE hd hK
                have d0 := hd 0 (by kernel_rfl)
                have d7 := hd 7 (by kernel_rfl)
                dsimp only at hK ⊢
                rw [d0, d7] at hK ⊢
                have HK := Lib.hid hK; have HE := Lib.hid hE
                clear hK hd hE d0 d7
                go_wp2_with fail
                (have HK2 := HK.out (.bool bm) W (fun _ _ => rfl) (Ext.refl W); rw [HBM.out] at HK2; exact K_at HK2 (by kernel_rfl))
            · intro us W hE hd
              try dsimp only
              have d8 := hd 8 (by decide)
              simp only [List.drop_succ_cons, List.drop_zero]
              rw [d8]
              have EW := Lib.hid (ext_undrew hE)
              clear hd hE d8
              have S9 := Lib.hid (HS.out.ext' (I3.stab _ _ _ _ _ _) EW.out)
              clear HS EW HC0 HC1 HGL
              by_cases hrb : r ≤ M
              · obtain rfl : bm = true := by rw [HBM.out]; exact decide_eq_true (by omega)
                clear HBM
                go_wp2_with fail
                go_loopw [18] (fun i wr => ∃ k : Nat, k ≤ 2 ∧ i = .int .i64 k ∧ LawSt w P (EN (winE window) key mN (hN (winE window) mN N k)) (I3 P ge gm mN gg (hN (winE window) mN N k).d) wr) (fun i _ => 2 - (intOf i).toNat)
                case atStart => exact ⟨0, by omega, rfl, S9.out⟩
                case round =>
                  clear S9
                  obtain ⟨k, hk, rfl, hS⟩ := hrel
                  have HS := Lib.hid hS
                  clear hS
                  obtain ⟨wi, rfl⟩ : ∃ x : World, x = wr := ⟨_, rfl⟩
                  by_cases hk2 : k < 2
                  · obtain ⟨N1, hN1⟩ : ∃ x, x = hN (winE window) mN N k := ⟨_, rfl⟩
                    rw [← hN1] at HS
                    have HN1 := Lib.hid hN1
                    have HG1 : Hid (GoodN mN N1) := Lib.hid (by rw [hN1]; exact good_h HP.out.good k)
                    clear hN1
                    obtain ⟨L0, M0, hI0, _, _⟩ := HS.out.get
                    have ce := hI0.1.1.at_ k _ (ptrC_at P hk2)
                    clear hI0
                    go_upto_region 25 with (go_loud (go_at_call 13; (with_reducible refine (ls_out HS.out (I3.stab _ _ _ _ _ _) hk2).mono ?_); rintro e w11 ⟨OA, oc, n11, rfl, hoc1, hoc2, hn11, hS11⟩; have HN11 := Lib.hid hn11; have S11 := Lib.hid hS11; clear hn11 hS11))
                    clear ce HS
                    obtain ⟨ls, hls⟩ : ∃ l, l = outL (EN (winE window) key mN N1 k) := ⟨_, rfl⟩
                    rw [← hls] at HN11 S11
                    have HLS := Lib.hid hls
                    have hnK : n11 = kN (winE window) mN N1 k := by rw [← HN11.out, hls]; exact ep_outL_len _ _ _ _ _ _
                    have hn11b : n11 ≤ 31 := by
                      rw [hnK]
                      unfold kN kOut nOut
                      have := HMB.out k
                      split <;> omega
                    have HNK := Lib.hid hnK
                    have S12 : Hid (LawSt w P (EN (winE window) key mN (partN (winE window) mN N1 k 0)) (I4 P ge gm mN gg (partN (winE window) mN N1 k 0).d OA n11 ls) w11) := Lib.hid ((S11.out.cong (en_out 0) (en_out 1)).imp (fun L Mu h => by rw [part_d0]; exact h))
                    clear S11 hls hnK HN11
                    go_wp2_with fail
                    generalize decide ((k : Int) < 2) = bk
                    go_loopw [20] (fun i wr => ∃ t : Nat, t ≤ n11 ∧ i = .int .i64 t ∧ LawSt w P (EN (winE window) key mN (partN (winE window) mN N1 k t)) (I4 P ge gm mN gg (partN (winE window) mN N1 k t).d OA n11 ls) wr) (fun i _ => n11 - (intOf i).toNat)
                    case atStart => exact ⟨0, by omega, rfl, S12.out⟩
                    case round =>
                      clear S12
                      obtain ⟨t, ht, rfl, hS⟩ := hrel
                      have HS := Lib.hid hS
                      clear hS
                      obtain ⟨wj, rfl⟩ : ∃ x : World, x = wr := ⟨_, rfl⟩
                      by_cases hlt : t < n11
                      · obtain ⟨xs, hin, hxs⟩ := en_step (wN := winE window) (key := key) (fun j => by have := HMB.out j; omega) HG1.out hk2 (show t < kN (winE window) mN N1 k by rw [← HNK.out]; exact hlt)
                        rw [← HLS.out] at hin
                        obtain ⟨k2, hk2e⟩ : ∃ j : Nat, (1 : Int) - (k : Int) = j ∧ j = 1 - k := ⟨1 - k, by omega, rfl⟩
                        obtain ⟨hsub, hk2n⟩ := hk2e
                        have hk22 : k2 < 2 := by omega
                        rw [← hk2n] at hin hxs
                        obtain ⟨dt, hdt⟩ : ∃ x, x = (partN (winE window) mN N1 k t).d k2 := ⟨_, rfl⟩
                        rw [← hdt] at hxs
                        have hdtb : dt ≤ 30 := by
                          have := good_part HG1.out hk2 (show t ≤ kN (winE window) mN N1 k by rw [← HNK.out]; omega)
                          have h2 := (this (1 - k2) (by omega)).2
                          rw [show 1 - (1 - k2) = k2 by omega, ← hdt] at h2
                          have := HMB.out (1 - k2)
                          omega
                        have HDT := Lib.hid hdt
                        obtain ⟨L0, M0, hI0, hLl, _⟩ := HS.out.get
                        obtain ⟨g, hOA, hLg, _, hgw, hcells⟩ := hI0.2 (show 0 < n11 by omega)
                        subst hOA
                        obtain ⟨pv, hpv1, G, cp, hpv2, hcp1, hcp2, hLG, _, hGw, hRp⟩ := hcells t hlt
                        subst hpv2
                        obtain ⟨lp, hlp⟩ : ∃ x, x = (ls.getD t []).length := ⟨_, rfl⟩
                        rw [← hlp] at hpv1 hcp1 hRp
                        have HCP : Hid (wj.cell? ⟨g, t, none⟩ = some (.slice (some ⟨G, 0, none⟩) lp cp)) := Lib.hid hpv1
                        have HCE : Hid (wj.cell? ⟨ge, k2, none⟩ = some (.pointer (some ⟨P k2, 0, none⟩))) := Lib.hid (hI0.1.1.1.at_ k2 _ (ptrC_at P hk22))
                        have HGW : Hid (g < wj.heap.size ∧ ge < wj.heap.size) := Lib.hid ⟨hgw, hI0.1.1.1.lt⟩
                        have HRP : Hid (Rd wj wj.heap.size (some ⟨G, 0, none⟩) lp (u8s (ls.getD t []))) := Lib.hid hRp
                        have HPB : Hid (Byt (ls.getD t []) ∧ lp ≤ 1000000000) := Lib.hid (by
                          have e0 := en_pk (wN := winE window) (key := key) (mN := mN) (N := N1) (k := k) (fun j => by have := HMB.out j; omega) HG1.out hk2 (show t < kN (winE window) mN N1 k by rw [← HNK.out]; exact hlt)
                          rw [← HLS.out] at e0
                          exact ⟨e0.1, by rw [hlp]; omega⟩)
                        have HK2N := Lib.hid hk2n
                        have HIN := Lib.hid hin; have HXS := Lib.hid hxs; have HSUB := Lib.hid hsub
                        have HEF : Hid ((EN (winE window) key mN (partN (winE window) mN N1 k t) k2).forged < 1000000000 ∧ (EN (winE window) key mN (partN (winE window) mN N1 k t) k2).tot < 1000000000 ∧ (EN (winE window) key mN (partN (winE window) mN N1 k t) k2).delivered + (EN (winE window) key mN (partN (winE window) mN N1 k t) k2).cnt < 1000000000) := Lib.hid (by
                          refine ⟨by show (0 : Int) < 1000000000; decide, ?_, ?_⟩
                          · show (partN (winE window) mN N1 k t).d k2 < 1000000000
                            rw [← hdt]; omega
                          · show ((partN (winE window) mN N1 k t).d k2 : Int) + ((0 : Nat) : Int) < 1000000000
                            rw [← hdt]; omega)
                        clear hI0 hLl hLg hgw hcells hpv1 hLG hGw hRp hin hxs hlp hdt hk2n
                        go_upto_region 28 with fail
                        generalize decide ((t : Int) < (n11 : Int)) = bt
                        refine wp_region_flowV 15 9 _ (fun i => i == 0 || i == 1 || i == 2 || i == 3 || i == 4 || i == 5 || i == 6 || i == 7 || i == 8) (fun i => i == 10 || i == 11 || i == 12 || i == 13 || i == 14) ?F28 (fun us => ?_) (by kernel_rfl) (by kernel_rfl) (by kernel_rfl) rfl (fun _ _ => True) (fun a b => Ext a b) Ext.refl (fun _ => trivial) (fun _ _ => trivial) (fun h1 h2 => h1.next h2) (fun i v W => match i with
                          | 0 => v = .slice (some ⟨ge, 0, none⟩) 2 2
                          | 1 => v = .int .i64 k
                          | 2 => v = .int .i64 k2
                          | 3 => v = .pointer (some ⟨ge, k2, none⟩)
                          | 4 => v = .pointer (some ⟨P k2, 0, none⟩)
                          | 5 => v = .slice (some ⟨g, 0, none⟩) n11 oc
                          | 6 => v = .int .i64 t
                          | 7 => v = .pointer (some ⟨g, t, none⟩)
                          | 8 => v = .slice (some ⟨G, 0, none⟩) lp cp
                          | 9 => ∃ OB ob jb, v = .tuple #[.slice OB jb ob, .int .i64 0] ∧ (jb ≤ ob ∧ ob ≤ 9223372036854775807) ∧ xs.length = jb ∧ LawSt w P (EN (winE window) key mN (partN (winE window) mN N1 k (t + 1))) (fun L Mu w => I4 P ge gm mN gg (partN (winE window) mN N1 k t).d (some ⟨g, 0, none⟩) n11 ls L Mu w ∧ Mess L Mu w OB jb xs) W
                          | 10 => ∃ OB ob jb, v = .tuple #[.slice OB jb ob, .int .i64 0] ∧ (jb ≤ ob ∧ ob ≤ 9223372036854775807) ∧ xs.length = jb ∧ LawSt w P (EN (winE window) key mN (partN (winE window) mN N1 k (t + 1))) (fun L Mu w => I4 P ge gm mN gg (partN (winE window) mN N1 k t).d (some ⟨g, 0, none⟩) n11 ls L Mu w ∧ Mess L Mu w OB jb xs) W
                          | 11 => ∃ OB ob jb, v = .slice OB jb ob ∧ (jb ≤ ob ∧ ob ≤ 9223372036854775807) ∧ xs.length = jb ∧ LawSt w P (EN (winE window) key mN (partN (winE window) mN N1 k (t + 1))) (fun L Mu w => I4 P ge gm mN gg (partN (winE window) mN N1 k t).d (some ⟨g, 0, none⟩) n11 ls L Mu w ∧ Mess L Mu w OB jb xs) W
                          | 12 => v = .int .i64 0
                          | 13 => ∃ OB ob jb, v = .slice OB jb ob ∧ (jb ≤ ob ∧ ob ≤ 9223372036854775807) ∧ xs.length = jb ∧ LawSt w P (EN (winE window) key mN (partN (winE window) mN N1 k (t + 1))) (fun L Mu w => I4 P ge gm mN gg (partN (winE window) mN N1 k t).d (some ⟨g, 0, none⟩) n11 ls L Mu w ∧ Mess L Mu w OB jb xs) W
                          | 14 => v = .int .i64 0
                          | _ => True) ?_ ?_
                        case refine_1 =>
                          simp only [List.take_succ_cons, List.take_zero, flowAct, Nat.zero_add, Nat.reduceAdd, Act.put, List.setIfInBounds_toArray, List.set_cons_succ, List.set_cons_zero]
                          rfl
                        · simp only [List.take_succ_cons, List.take_zero, flowStepsV]
                          refine ⟨?_, ?_, ?_, ?_, ?_, ?_, ?_, ?_, ?_, ?_, ?_, ?_, ?_, ?_, ?_, trivial⟩
                          · intro us W K hE1 hE2 hd hK
                            simp only [Nat.reduceBEq, Bool.not_true, Bool.not_false, Bool.or_true, Bool.or_false, Bool.true_or, Bool.false_or, cond_true, cond_false] at hK ⊢
                            have HK := Lib.hid hK; have HE1 := Lib.hid hE1
                            clear hK hd hE1 hE2
                            go_wp2_with fail
                            exact K_at (HK.out (.slice (some ⟨ge, 0, none⟩) 2 2) W (fun _ _ => rfl) (Ext.refl W)) (by kernel_rfl)
                          · intro us W K hE1 hE2 hd hK
                            simp only [Nat.reduceBEq, Bool.not_true, Bool.not_false, Bool.or_true, Bool.or_false, Bool.true_or, Bool.false_or, cond_true, cond_false] at hK ⊢
                            have HK := Lib.hid hK; have HE1 := Lib.hid hE1
                            clear hK hd hE1 hE2
                            go_wp2_with fail
                            exact K_at (HK.out (.int .i64 k) W (fun _ _ => rfl) (Ext.refl W)) (by kernel_rfl)
                          · intro us W K hE1 hE2 hd hK
                            have d1 := hd 1 (by kernel_rfl) (by kernel_rfl)
                            have hsub := HSUB.out
                            simp only [Nat.reduceBEq, Bool.not_true, Bool.not_false, Bool.or_true, Bool.or_false, Bool.true_or, Bool.false_or, cond_true, cond_false] at hK ⊢
                            rw [d1] at hK ⊢
                            have HK := Lib.hid hK; have HE1 := Lib.hid hE1
                            clear hK hd hE1 hE2 d1
                            go_wp2_with fail
                            exact K_at (HK.out (.int .i64 k2) W (fun _ _ => rfl) (Ext.refl W)) (by kernel_rfl)
                          · intro us W K hE1 hE2 hd hK
                            have d0 := hd 0 (by kernel_rfl) (by kernel_rfl)
                            have d2 := hd 2 (by kernel_rfl) (by kernel_rfl)
                            simp only [Nat.reduceBEq, Bool.not_true, Bool.not_false, Bool.or_true, Bool.or_false, Bool.true_or, Bool.false_or, cond_true, cond_false] at hK ⊢
                            rw [d0, d2] at hK ⊢
                            have HK := Lib.hid hK; have HE1 := Lib.hid hE1
                            clear hK hd hE1 hE2 d0 d2
                            go_wp2_with fail
                            exact K_at (HK.out (.pointer (some ⟨ge, k2, none⟩)) W (fun _ _ => rfl) (Ext.refl W)) (by kernel_rfl)
                          · intro us W K hE1 hE2 hd hK
                            have hE := hE2 (by kernel_rfl)
                            have d3 := hd 3 (by kernel_rfl) (by kernel_rfl)
                            have c0 := ((ext_undrew hE).cell (p := ⟨ge, k2, none⟩) HGW.out.2).trans HCE.out
                            simp only [Nat.reduceBEq, Bool.not_true, Bool.not_false, Bool.or_true, Bool.or_false, Bool.true_or, Bool.false_or, cond_true, cond_false] at hK ⊢
                            rw [d3] at hK ⊢
                            have HK := Lib.hid hK; have HE1 := Lib.hid hE1
                            have HE := Lib.hid hE
                            clear hE
                            clear hK hd hE1 hE2 d3
                            go_wp2_with fail
                            exact K_at (HK.out (.pointer (some ⟨P k2, 0, none⟩)) W (fun _ _ => rfl) (Ext.refl W)) (by kernel_rfl)
                          · intro us W K hE1 hE2 hd hK
                            simp only [Nat.reduceBEq, Bool.not_true, Bool.not_false, Bool.or_true, Bool.or_false, Bool.true_or, Bool.false_or, cond_true, cond_false] at hK ⊢
                            have HK := Lib.hid hK; have HE1 := Lib.hid hE1
                            clear hK hd hE1 hE2
                            go_wp2_with fail
                            exact K_at (HK.out (.slice (some ⟨g, 0, none⟩) n11 oc) W (fun _ _ => rfl) (Ext.refl W)) (by kernel_rfl)
                          · intro us W K hE1 hE2 hd hK
                            simp only [Nat.reduceBEq, Bool.not_true, Bool.not_false, Bool.or_true, Bool.or_false, Bool.true_or, Bool.false_or, cond_true, cond_false] at hK ⊢
                            have HK := Lib.hid hK; have HE1 := Lib.hid hE1
                            clear hK hd hE1 hE2
                            go_wp2_with fail
                            exact K_at (HK.out (.int .i64 t) W (fun _ _ => rfl) (Ext.refl W)) (by kernel_rfl)
                          · intro us W K hE1 hE2 hd hK
                            have d5 := hd 5 (by kernel_rfl) (by kernel_rfl)
                            have d6 := hd 6 (by kernel_rfl) (by kernel_rfl)
                            simp only [Nat.reduceBEq, Bool.not_true, Bool.not_false, Bool.or_true, Bool.or_false, Bool.true_or, Bool.false_or, cond_true, cond_false] at hK ⊢
                            rw [d5, d6] at hK ⊢
                            have HK := Lib.hid hK; have HE1 := Lib.hid hE1
                            clear hK hd hE1 hE2 d5 d6
                            go_wp2_with fail
                            exact K_at (HK.out (.pointer (some ⟨g, t, none⟩)) W (fun _ _ => rfl) (Ext.refl W)) (by kernel_rfl)
                          · intro us W K hE1 hE2 hd hK
                            have hE := hE2 (by kernel_rfl)
                            have d7 := hd 7 (by kernel_rfl) (by kernel_rfl)
                            have c0 := ((ext_undrew hE).cell (p := ⟨g, t, none⟩) HGW.out.1).trans HCP.out
                            simp only [Nat.reduceBEq, Bool.not_true, Bool.not_false, Bool.or_true, Bool.or_false, Bool.true_or, Bool.false_or, cond_true, cond_false] at hK ⊢
                            rw [d7] at hK ⊢
                            have HK := Lib.hid hK; have HE1 := Lib.hid hE1
                            have HE := Lib.hid hE
                            clear hE
                            clear hK hd hE1 hE2 d7
                            go_wp2_with fail
                            exact K_at (HK.out (.slice (some ⟨G, 0, none⟩) lp cp) W (fun _ _ => rfl) (Ext.refl W)) (by kernel_rfl)
                          · intro us W K hE1 hE2 hd hK
                            have hE := hE2 (by kernel_rfl)
                            have d4 := hd 4 (by kernel_rfl) (by kernel_rfl)
                            have d8 := hd 8 (by kernel_rfl) (by kernel_rfl)
                            have HRW := Lib.hid (HRP.out.ext' (ext_undrew hE))
                            have HSW := Lib.hid (HS.out.ext' (I4.stab _ _ _ _ _ _ _ _ _) (ext_undrew hE))
                            simp only [Nat.reduceBEq, Bool.not_true, Bool.not_false, Bool.or_true, Bool.or_false, Bool.true_or, Bool.false_or, cond_true, cond_false] at hK ⊢
                            rw [d4, d8] at hK ⊢
                            have HK := Lib.hid hK; have HE1 := Lib.hid hE1
                            have HE := Lib.hid hE
                            clear hE
                            clear hK hd hE1 hE2 d4 d8
                            go_wp2_with (go_loud (go_at_call 19; (with_reducible refine (ls_in HSW.out (I4.stab _ _ _ _ _ _ _ _ _) hk22 (ls.getD t []) (some ⟨G, 0, none⟩) lp cp HRW.out HPB.out.1 HPB.out.2 hcp1 hcp2 HEF.out.1 HEF.out.2.1 HEF.out.2.2 xs 0 _ HIN.out).mono ?_); rintro e w13 ⟨OB, ob, jb, rfl, hob1, hob2, hjb, hS13⟩; have hob := And.intro hob1 hob2; have S13 := Lib.hid (hS13.cong (en_in' hk2 HK2N.out 0 (by decide)) (en_in' hk2 HK2N.out 1 (by decide))); clear hS13 hob1 hob2))
                            exact K_at (HK.out (.tuple #[.slice OB jb ob, .int .i64 0]) w13 (fun W2 h2 => ⟨OB, ob, jb, rfl, hob, hjb, S13.out.ext' (J5.stab _ _ _ _ _ _ _ _ _ _ _ _) h2⟩) trivial) (by kernel_rfl)
                          · intro us W K hE1 hE2 hd hK
                            obtain ⟨OB, ob, jb, d9, hob, hjb, s13⟩ := hd 9 (by kernel_rfl) (by kernel_rfl)
                            have S13 := Lib.hid s13
                            simp only [Nat.reduceBEq, Bool.not_true, Bool.not_false, Bool.or_true, Bool.or_false, Bool.true_or, Bool.false_or, cond_true, cond_false] at hK ⊢
                            rw [d9] at hK ⊢
                            have HK := Lib.hid hK; have HE1 := Lib.hid hE1
                            clear hK hd hE1 hE2 d9 s13
                            go_wp2_with fail
                            exact K_at (HK.out (.tuple #[.slice OB jb ob, .int .i64 0]) W (fun W2 h2 => ⟨OB, ob, jb, rfl, hob, hjb, S13.out.ext' (J5.stab _ _ _ _ _ _ _ _ _ _ _ _) h2⟩) (Ext.refl W)) (by kernel_rfl)
                          · intro us W K hE1 hE2 hd hK
                            obtain ⟨OB, ob, jb, d10, hob, hjb, s13⟩ := hd 10 (by kernel_rfl) (by kernel_rfl)
                            have S13 := Lib.hid s13
                            simp only [Nat.reduceBEq, Bool.not_true, Bool.not_false, Bool.or_true, Bool.or_false, Bool.true_or, Bool.false_or, cond_true, cond_false] at hK ⊢
                            rw [d10] at hK ⊢
                            have HK := Lib.hid hK; have HE1 := Lib.hid hE1
                            clear hK hd hE1 hE2 d10 s13
                            go_wp2_with fail
                            exact K_at (HK.out (.slice OB jb ob) W (fun W2 h2 => ⟨OB, ob, jb, rfl, hob, hjb, S13.out.ext' (J5.stab _ _ _ _ _ _ _ _ _ _ _ _) h2⟩) (Ext.refl W)) (by kernel_rfl)
                          · intro us W K hE1 hE2 hd hK
                            obtain ⟨OB, ob, jb, d10, hob, hjb, s13⟩ := hd 10 (by kernel_rfl) (by kernel_rfl)
                            simp only [Nat.reduceBEq, Bool.not_true, Bool.not_false, Bool.or_true, Bool.or_false, Bool.true_or, Bool.false_or, cond_true, cond_false] at hK ⊢
                            rw [d10] at hK ⊢
                            have HK := Lib.hid hK; have HE1 := Lib.hid hE1
                            clear hK hd hE1 hE2 d10 s13
                            go_wp2_with fail
                            exact K_at (HK.out (.int .i64 0) W (fun _ _ => rfl) (Ext.refl W)) (by kernel_rfl)
                          · intro us W K hE1 hE2 hd hK
                            obtain ⟨OB, ob, jb, d11, hob, hjb, s13⟩ := hd 11 (by kernel_rfl) (by kernel_rfl)
                            have S13 := Lib.hid s13
                            simp only [Nat.reduceBEq, Bool.not_true, Bool.not_false, Bool.or_true, Bool.or_false, Bool.true_or, Bool.false_or, cond_true, cond_false] at hK ⊢
                            rw [d11] at hK ⊢
                            have HK := Lib.hid hK; have HE1 := Lib.hid hE1
                            clear hK hd hE1 hE2 d11 s13
                            go_wp2_with fail
                            exact K_at (HK.out (.slice OB jb ob) W (fun W2 h2 => ⟨OB, ob, jb, rfl, hob, hjb, S13.out.ext' (J5.stab _ _ _ _ _ _ _ _ _ _ _ _) h2⟩) (Ext.refl W)) (by kernel_rfl)
                          · intro us W K hE1 hE2 hd hK
                            have d12 := hd 12 (by kernel_rfl) (by kernel_rfl)
                            simp only [Nat.reduceBEq, Bool.not_true, Bool.not_false, Bool.or_true, Bool.or_false, Bool.true_or, Bool.false_or, cond_true, cond_false] at hK ⊢
                            rw [d12] at hK ⊢
                            have HK := Lib.hid hK; have HE1 := Lib.hid hE1
                            clear hK hd hE1 hE2 d12
                            go_wp2_with fail
                            exact K_at (HK.out (.int .i64 0) W (fun _ _ => rfl) (Ext.refl W)) (by kernel_rfl)
                        · intro us W hE1 hd
                          try dsimp only
                          obtain ⟨OB, ob, jb, d13, hob, hjb, s13⟩ := hd 13 (by decide) (by decide)
                          have d14 := hd 14 (by decide) (by decide)
                          simp only [List.drop_succ_cons, List.drop_zero]
                          rw [d13, d14]
                          have S13 := Lib.hid s13
                          have HJB := Lib.hid hjb
                          obtain ⟨hob1, hob2⟩ := hob
                          have hjb1 : jb ≤ 1 := by rw [← hjb]; rcases HXS.out with ⟨e, _⟩ | ⟨e, _⟩ <;> rw [e] <;> simp
                          clear hd hE1 s13 d13 d14 hjb HCP HCE HGW HRP HPB HIN HEF HS
                          have HU0 : Hid (updE (partN (winE window) mN N1 k t).d k2 (dt + 0) = (partN (winE window) mN N1 k t).d) := Lib.hid (by
                            funext j
                            unfold updE
                            by_cases hj : j = k2
                            · rw [if_pos hj, HDT.out, hj]; rfl
                            · rw [if_neg hj])
                          go_wp2_with fail
                          go_loopw [23] (fun i wr => ∃ j : Nat, j ≤ jb ∧ i = .int .i64 j ∧ LawSt w P (EN (winE window) key mN (partN (winE window) mN N1 k (t + 1))) (fun L Mu w => I4 P ge gm mN gg (updE (partN (winE window) mN N1 k t).d k2 (dt + j)) (some ⟨g, 0, none⟩) n11 ls L Mu w ∧ Mess L Mu w OB jb xs) wr) (fun i _ => jb - (intOf i).toNat)
                          case atStart => exact ⟨0, by omega, rfl, by rw [HU0.out]; exact S13.out⟩
                          case round =>
                            clear S13
                            obtain ⟨j, hj, rfl, hS⟩ := hrel
                            have HS := Lib.hid hS
                            clear hS
                            obtain ⟨wk, rfl⟩ : ∃ x : World, x = wr := ⟨_, rfl⟩
                            by_cases hlj : j < jb
                            · obtain rfl : j = 0 := by omega
                              obtain rfl : jb = 1 := by omega
                              have hx1 : xs = [[(dt : Int)]] := by
                                rcases HXS.out with ⟨e, _⟩ | ⟨e, _⟩
                                · have := HJB.out; rw [e] at this; simp at this
                                · exact e
                              obtain ⟨L0, M0, hI0, hLl, hM0⟩ := HS.out.get
                              obtain ⟨gx, hOB, hLg, _, hgw, hcells⟩ := hI0.2 (by omega)
                              subst hOB
                              obtain ⟨Ax, cx, hx2, hx3, hx4, hx5⟩ := hcells 0 (by omega)
                              have hx6 : xs.getD 0 [] = [(dt : Int)] := by rw [hx1]; rfl
                              rw [hx6] at hx2 hx3 hx5
                              obtain ⟨bx, ox, hAx, hbw, hbM, hxc⟩ := hx5.2 (by simp)
                              subst hAx
                              have hx7 := hxc 0 _ rfl
                              have HCX : Hid (wk.cell? ⟨gx, 0, none⟩ = some (.slice (some ⟨bx, ox, none⟩) 1 cx)) := Lib.hid hx2
                              have HCB : Hid (wk.cell? ⟨bx, ox, none⟩ = some (.int .u8 (dt : Int))) := Lib.hid hx7
                              have hgg := (hI0.1.1.2.2.2.cell k2).trans (numC_at (updE (partN (winE window) mN N1 k t).d k2 (dt + 0)) hk22)
                              rw [updE_same, Nat.add_zero] at hgg
                              have hgf := hI0.1.1.2.2.2.frozen k2
                              have HCG : Hid (wk.cell? ⟨gg, k2, none⟩ = some (.int .i64 (dt : Int)) ∧ wk.frozen? ⟨gg, k2, none⟩ = false) := Lib.hid ⟨hgg, hgf⟩
                              have HWX : Hid (gx < wk.heap.size ∧ bx < wk.heap.size ∧ gg < wk.heap.size) := Lib.hid ⟨hgw, hbw, hI0.1.1.2.2.2.lt⟩
                              have hcx1 : 1 ≤ cx := hx3
                              clear hI0 hLl hM0 hLg hgw hcells hx2 hx3 hx5 hbw hbM hxc hx7 hgg hgf hx1 hx6
                              go_upto_region 34 with fail
                              generalize decide (((0 : Nat) : Int) < ((1 : Nat) : Int)) = bj
                              refine wp_region_flowF 21 ?F34 (fun us => ?_) (by kernel_rfl) (by kernel_rfl) (fun a b => Ext a b) Ext.refl (fun h1 h2 => h1.next h2) (fun i v W => match i with
                                | 0 => v = .slice (some ⟨gx, 0, none⟩) 1 ob
                                | 1 => v = .int .i64 ((0 : Nat) : Int)
                                | 2 => v = .pointer (some ⟨gx, 0, none⟩)
                                | 3 => v = .slice (some ⟨bx, ox, none⟩) 1 cx
                                | 4 => v = .int .i64 1
                                | 5 => v = .bool false
                                | 6 => v = .bool false
                                | 7 => v = .slice (some ⟨gx, 0, none⟩) 1 ob
                                | 8 => v = .int .i64 ((0 : Nat) : Int)
                                | 9 => v = .pointer (some ⟨gx, 0, none⟩)
                                | 10 => v = .slice (some ⟨bx, ox, none⟩) 1 cx
                                | 11 => v = .pointer (some ⟨bx, ox, none⟩)
                                | 12 => v = .int .u8 dt
                                | 13 => v = .int .i64 dt
                                | 14 => v = .slice (some ⟨gg, 0, none⟩) 2 2
                                | 15 => v = .int .i64 k
                                | 16 => v = .int .i64 k2
                                | 17 => v = .pointer (some ⟨gg, k2, none⟩)
                                | 18 => v = .int .i64 dt
                                | 19 => v = .bool false
                                | 20 => v = .bool false
                                | _ => True) ?_ ?_
                              case refine_1 =>
                                simp only [List.take_succ_cons, List.take_zero, flowAct, Nat.zero_add, Nat.reduceAdd, Act.put, List.setIfInBounds_toArray, List.set_cons_succ, List.set_cons_zero]
                                rfl
                              · simp only [List.take_succ_cons, List.take_zero, flowStepsF]
                                refine ⟨?_, ?_, ?_, ?_, ?_, ?_, ?_, ?_, ?_, ?_, ?_, ?_, ?_, ?_, ?_, ?_, ?_, ?_, ?_, ?_, ?_, trivial⟩
                                · intro us W K hE hd hK
                                  dsimp only at hK ⊢
                                  have HK := Lib.hid hK; have HE := Lib.hid hE
                                  clear hK hd hE
                                  go_wp2_with fail
                                  exact K_at (HK.out (.slice (some ⟨gx, 0, none⟩) 1 ob) W (fun _ _ => rfl) (Ext.refl W)) (by kernel_rfl)
                                · intro us W K hE hd hK
                                  dsimp only at hK ⊢
                                  have HK := Lib.hid hK; have HE := Lib.hid hE
                                  clear hK hd hE
                                  go_wp2_with fail
                                  exact K_at (HK.out (.int .i64 ((0 : Nat) : Int)) W (fun _ _ => rfl) (Ext.refl W)) (by kernel_rfl)
                                · intro us W K hE hd hK
                                  have d0 := hd 0 (by kernel_rfl)
                                  have d1 := hd 1 (by kernel_rfl)
                                  dsimp only at hK ⊢
                                  rw [d0, d1] at hK ⊢
                                  have HK := Lib.hid hK; have HE := Lib.hid hE
                                  clear hK hd hE d0 d1
                                  go_wp2_with fail
                                  exact K_at (HK.out (.pointer (some ⟨gx, 0, none⟩)) W (fun _ _ => rfl) (Ext.refl W)) (by kernel_rfl)
                                · intro us W K hE hd hK
                                  have d2 := hd 2 (by kernel_rfl)
                                  have c0 := ((ext_undrew hE).cell (p := ⟨gx, 0, none⟩) HWX.out.1).trans HCX.out
                                  dsimp only at hK ⊢
                                  rw [d2] at hK ⊢
                                  have HK := Lib.hid hK; have HE := Lib.hid hE
                                  clear hK hd hE d2
                                  go_wp2_with fail
                                  exact K_at (HK.out (.slice (some ⟨bx, ox, none⟩) 1 cx) W (fun _ _ => rfl) (Ext.refl W)) (by kernel_rfl)
                                · intro us W K hE hd hK
                                  have d3 := hd 3 (by kernel_rfl)
                                  dsimp only at hK ⊢
                                  rw [d3] at hK ⊢
                                  have HK := Lib.hid hK; have HE := Lib.hid hE
                                  clear hK hd hE d3
                                  go_wp2_with fail
                                  exact K_at (HK.out (.int .i64 1) W (fun _ _ => rfl) (Ext.refl W)) (by kernel_rfl)
                                · intro us W K hE hd hK
                                  have d4 := hd 4 (by kernel_rfl)
                                  dsimp only at hK ⊢
                                  rw [d4] at hK ⊢
                                  have HK := Lib.hid hK; have HE := Lib.hid hE
                                  clear hK hd hE d4
                                  go_wp2_with fail
                                  exact K_at (HK.out (.bool false) W (fun _ _ => rfl) (Ext.refl W)) (by kernel_rfl)
                                · intro us W K hE hd hK
                                  have d5 := hd 5 (by kernel_rfl)
                                  dsimp only at hK ⊢
                                  rw [d5] at hK ⊢
                                  have HK := Lib.hid hK; have HE := Lib.hid hE
                                  clear hK hd hE d5
                                  go_wp2_with fail
                                  exact K_at (HK.out (.bool false) W (fun _ _ => rfl) (Ext.refl W)) (by kernel_rfl)
                                · intro us W K hE hd hK
                                  have d6 := hd 6 (by kernel_rfl)
                                  dsimp only at hK ⊢
                                  rw [d6] at hK ⊢
                                  have HK := Lib.hid hK; have HE := Lib.hid hE
                                  clear hK hd hE d6
                                  go_wp2_with fail
                                  exact K_at (HK.out (.slice (some ⟨gx, 0, none⟩) 1 ob) W (fun _ _ => rfl) (Ext.refl W)) (by kernel_rfl)
                                · intro us W K hE hd hK
                                  have d6 := hd 6 (by kernel_rfl)
                                  dsimp only at hK ⊢
                                  rw [d6] at hK ⊢
                                  have HK := Lib.hid hK; have HE := Lib.hid hE
                                  clear hK hd hE d6
                                  go_wp2_with fail
                                  exact K_at (HK.out (.int .i64 ((0 : Nat) : Int)) W (fun _ _ => rfl) (Ext.refl W)) (by kernel_rfl)
                                · intro us W K hE hd hK
                                  have d6 := hd 6 (by kernel_rfl)
                                  have d7 := hd 7 (by kernel_rfl)
                                  have d8 := hd 8 (by kernel_rfl)
                                  dsimp only at hK ⊢
                                  rw [d6, d7, d8] at hK ⊢
                                  have HK := Lib.hid hK; have HE := Lib.hid hE
                                  clear hK hd hE d6 d7 d8
                                  go_wp2_with fail
                                  exact K_at (HK.out (.pointer (some ⟨gx, 0, none⟩)) W (fun _ _ => rfl) (Ext.refl W)) (by kernel_rfl)
                                · intro us W K hE hd hK
                                  have d6 := hd 6 (by kernel_rfl)
                                  have d9 := hd 9 (by kernel_rfl)
                                  have c0 := ((ext_undrew hE).cell (p := ⟨gx, 0, none⟩) HWX.out.1).trans HCX.out
                                  dsimp only at hK ⊢
                                  rw [d6, d9] at hK ⊢
                                  have HK := Lib.hid hK; have HE := Lib.hid hE
                                  clear hK hd hE d6 d9
                                  go_wp2_with fail
                                  exact K_at (HK.out (.slice (some ⟨bx, ox, none⟩) 1 cx) W (fun _ _ => rfl) (Ext.refl W)) (by kernel_rfl)
                                · intro us W K hE hd hK
                                  have d6 := hd 6 (by kernel_rfl)
                                  have d10 := hd 10 (by kernel_rfl)
                                  dsimp only at hK ⊢
                                  rw [d6, d10] at hK ⊢
                                  have HK := Lib.hid hK; have HE := Lib.hid hE
                                  clear hK hd hE d6 d10
                                  go_wp2_with fail
                                  exact K_at (HK.out (.pointer (some ⟨bx, ox, none⟩)) W (fun _ _ => rfl) (Ext.refl W)) (by kernel_rfl)
                                · intro us W K hE hd hK
                                  have d6 := hd 6 (by kernel_rfl)
                                  have d11 := hd 11 (by kernel_rfl)
                                  have c0 := ((ext_undrew hE).cell (p := ⟨bx, ox, none⟩) HWX.out.2.1).trans HCB.out
                                  dsimp only at hK ⊢
                                  rw [d6, d11] at hK ⊢
                                  have HK := Lib.hid hK; have HE := Lib.hid hE
                                  clear hK hd hE d6 d11
                                  go_wp2_with fail
                                  exact K_at (HK.out (.int .u8 dt) W (fun _ _ => rfl) (Ext.refl W)) (by kernel_rfl)
                                · intro us W K hE hd hK
                                  have d6 := hd 6 (by kernel_rfl)
                                  have d12 := hd 12 (by kernel_rfl)
                                  dsimp only at hK ⊢
                                  rw [d6, d12] at hK ⊢
                                  have HK := Lib.hid hK; have HE := Lib.hid hE
                                  clear hK hd hE d6 d12
                                  go_wp2_with fail
                                  exact K_at (HK.out (.int .i64 dt) W (fun _ _ => rfl) (Ext.refl W)) (by kernel_rfl)
                                · intro us W K hE hd hK
                                  have d6 := hd 6 (by kernel_rfl)
                                  dsimp only at hK ⊢
                                  rw [d6] at hK ⊢
                                  have HK := Lib.hid hK; have HE := Lib.hid hE
                                  clear hK hd hE d6
                                  go_wp2_with fail
                                  exact K_at (HK.out (.slice (some ⟨gg, 0, none⟩) 2 2) W (fun _ _ => rfl) (Ext.refl W)) (by kernel_rfl)
                                · intro us W K hE hd hK
                                  have d6 := hd 6 (by kernel_rfl)
                                  dsimp only at hK ⊢
                                  rw [d6] at hK ⊢
                                  have HK := Lib.hid hK; have HE := Lib.hid hE
                                  clear hK hd hE d6
                                  go_wp2_with fail
                                  exact K_at (HK.out (.int .i64 k) W (fun _ _ => rfl) (Ext.refl W)) (by kernel_rfl)
                                · intro us W K hE hd hK
                                  have d6 := hd 6 (by kernel_rfl)
                                  have d15 := hd 15 (by kernel_rfl)
                                  have hsub := HSUB.out
                                  dsimp only at hK ⊢
                                  rw [d6, d15] at hK ⊢
                                  have HK := Lib.hid hK; have HE := Lib.hid hE
                                  clear hK hd hE d6 d15
                                  go_wp2_with fail
                                  exact K_at (HK.out (.int .i64 k2) W (fun _ _ => rfl) (Ext.refl W)) (by kernel_rfl)
                                · intro us W K hE hd hK
                                  have d6 := hd 6 (by kernel_rfl)
                                  have d14 := hd 14 (by kernel_rfl)
                                  have d16 := hd 16 (by kernel_rfl)
                                  dsimp only at hK ⊢
                                  rw [d6, d14, d16] at hK ⊢
                                  have HK := Lib.hid hK; have HE := Lib.hid hE
                                  clear hK hd hE d6 d14 d16
                                  go_wp2_with fail
                                  exact K_at (HK.out (.pointer (some ⟨gg, k2, none⟩)) W (fun _ _ => rfl) (Ext.refl W)) (by kernel_rfl)
                                · intro us W K hE hd hK
                                  have d6 := hd 6 (by kernel_rfl)
                                  have d17 := hd 17 (by kernel_rfl)
                                  have c0 := ((ext_undrew hE).cell (p := ⟨gg, k2, none⟩) HWX.out.2.2).trans HCG.out.1
                                  dsimp only at hK ⊢
                                  rw [d6, d17] at hK ⊢
                                  have HK := Lib.hid hK; have HE := Lib.hid hE
                                  clear hK hd hE d6 d17
                                  go_wp2_with fail
                                  exact K_at (HK.out (.int .i64 dt) W (fun _ _ => rfl) (Ext.refl W)) (by kernel_rfl)
                                · intro us W K hE hd hK
                                  have d6 := hd 6 (by kernel_rfl)
                                  have d13 := hd 13 (by kernel_rfl)
                                  have d18 := hd 18 (by kernel_rfl)
                                  dsimp only at hK ⊢
                                  rw [d6, d13, d18] at hK ⊢
                                  have HK := Lib.hid hK; have HE := Lib.hid hE
                                  clear hK hd hE d6 d13 d18
                                  go_wp2_with fail
                                  exact K_at (HK.out (.bool false) W (fun _ _ => rfl) (Ext.refl W)) (by kernel_rfl)
                                · intro us W K hE hd hK
                                  have d6 := hd 6 (by kernel_rfl)
                                  have d19 := hd 19 (by kernel_rfl)
                                  dsimp only at hK ⊢
                                  rw [d6, d19] at hK ⊢
                                  have HK := Lib.hid hK; have HE := Lib.hid hE
                                  clear hK hd hE d6 d19
                                  go_wp2_with fail
                                  exact K_at (HK.out (.bool false) W (fun _ _ => rfl) (Ext.refl W)) (by kernel_rfl)
                              · intro us W hE hd
                                try dsimp only
                                have d20 := hd 20 (by decide)
                                simp only [List.drop_succ_cons, List.drop_zero]
                                rw [d20]
                                have EW := Lib.hid (ext_undrew hE)
                                have HSW := Lib.hid (HS.out.ext' (J5.stab _ _ _ _ _ _ _ _ _ _ _ _) (ext_undrew hE))
                                have c0 := ((ext_undrew hE).cell (p := ⟨gg, k2, none⟩) HWX.out.2.2).trans HCG.out.1
                                have f0 : W.frozen? ⟨gg, k2, none⟩ = false := (frozen_ext (ext_undrew hE) HWX.out.2.2).trans HCG.out.2
                                have hsub := HSUB.out
                                clear hd hE d20 HS
                                go_wp2_with fail
                                have HSZ : Hid (LawSt w P (EN (winE window) key mN (partN (winE window) mN N1 k (t + 1))) (fun L Mu w => I4 P ge gm mN gg (updE (partN (winE window) mN N1 k t).d k2 (dt + 1)) (some ⟨g, 0, none⟩) n11 ls L Mu w ∧ Mess L Mu w (some ⟨gx, 0, none⟩) 1 xs) (W.setCell ⟨gg, k2, none⟩ (.int .i64 ((dt : Int) + 1)))) := Lib.hid (HSW.out.own (fun b => b = gg) (Kept.setCell (F := fun b => b = gg) (p := ⟨gg, k2, none⟩) W rfl _) (fun L Mu h => law_set h hk22))
                                clear hsub c0 f0
                                go_roundw
                                case rel => exact ⟨1, by omega, by go_num, HSZ.out⟩
                                case measure => simp [intOf]
                            · obtain rfl : j = jb := by omega
                              have HNX : Hid (numC (updE (partN (winE window) mN N1 k t).d k2 (dt + j)) = numC (partN (winE window) mN N1 k (t + 1)).d) := Lib.hid (by
                                have e1 : (partN (winE window) mN N1 k (t + 1)).d k2 = dt + j := by
                                  rw [← HJB.out]
                                  rcases HXS.out with ⟨e, h⟩ | ⟨e, h⟩ <;> rw [h, e] <;> simp
                                have e2 : ∀ q, q < 2 → (updE (partN (winE window) mN N1 k t).d k2 (dt + j)) q = (partN (winE window) mN N1 k (t + 1)).d q := fun q hq => by
                                  by_cases hqk : q = k2
                                  · rw [hqk, updE_same, e1]
                                  · rw [updE_ne _ _ hqk]
                                    have : q = k := by have := HK2N.out; omega
                                    rw [this, part_dk, part_dk]
                                unfold numC
                                rw [e2 0 (by decide), e2 1 (by decide)])
                              go_wp2_with fail
                              go_roundw
                              case rel => exact ⟨t + 1, by omega, by go_num, HS.out.imp (fun L Mu h => ⟨⟨h.1.1.1, by rw [← HNX.out]; exact h.1.1.2⟩, h.1.2⟩)⟩
                              case measure => simp [intOf]; omega
                        
                      · obtain rfl : t = n11 := by omega
                        go_wp2_with fail
                        go_roundw
                        case rel => exact ⟨k + 1, by omega, by go_num, by rw [hN_succ _ _ _ hk2, ← HN1.out]; unfold halfN; rw [← HNK.out]; exact HS.out.imp (fun L Mu h => h.1)⟩
                        case measure => simp [intOf]; omega
                  · obtain rfl : k = 2 := by omega
                    go_wp2_with fail
                    go_roundw
                    case rel => exact ⟨r + 1, _, by omega, by go_num, pr_round (fun j => (winE_bd window j).1) HP.out, HS.out⟩
                    case measure => simp [intOf]; omega
              · obtain rfl : bm = false := by rw [HBM.out]; exact decide_eq_false (by omega)
                clear HBM
                obtain ⟨e0, e1, e2, e3⟩ := prog_end HP.out (show max (mN 0) (mN 1) + 1 ≤ r by have := HM.out; unfold mostN at this; omega)
                obtain ⟨L0, M0, hI0, _, _⟩ := S9.out.get
                have HG0 : Hid (W.cell? ⟨gg, 0, none⟩ = some (.int .i64 x1)) := Lib.hid (by rw [HX1.out, ← e1]; exact hI0.2.2.2.cell 0)
                have HG1 : Hid (W.cell? ⟨gg, 1, none⟩ = some (.int .i64 x0)) := Lib.hid (by rw [HX0.out, ← e3]; exact hI0.2.2.2.cell 1)
                have HC0 : Hid (W.cell? ⟨gm, 0, none⟩ = some (.int .i64 x0)) := Lib.hid (by rw [HX0.out]; exact hI0.1.2.at_ 0 _ rfl)
                have HC1 : Hid (W.cell? ⟨gm, 1, none⟩ = some (.int .i64 x1)) := Lib.hid (by rw [HX1.out]; exact hI0.1.2.at_ 1 _ rfl)
                have HE0 : Hid (W.cell? ⟨ge, 0, none⟩ = some (.pointer (some ⟨P 0, 0, none⟩))) := Lib.hid (hI0.1.1.at_ 0 _ rfl)
                have HE1p : Hid (W.cell? ⟨ge, 1, none⟩ = some (.pointer (some ⟨P 1, 0, none⟩))) := Lib.hid (hI0.1.1.at_ 1 _ rfl)
                have HLT : Hid (gg < W.heap.size ∧ gm < W.heap.size ∧ ge < W.heap.size) := Lib.hid ⟨hI0.2.2.2.lt, hI0.1.2.lt, hI0.1.1.lt⟩
                have HWT : Hid (((EN (winE window) key mN N 0).waiting.length : Int) = 0 ∧ ((EN (winE window) key mN N 1).waiting.length : Int) = 0) := Lib.hid (by
                  refine ⟨?_, ?_⟩
                  · show ((msgsN (N.a 0) (mN 0)).length : Int) = 0
                    rw [msgsN_len, e0]; omega
                  · show ((msgsN (N.a 1) (mN 1)).length : Int) = 0
                    rw [msgsN_len, e2]; omega)
                clear hI0 e0 e1 e2 e3
                go_upto_region 37 with fail
                refine wp_region_flowF 34 ?F37 (fun us => ?_) (by kernel_rfl) (by kernel_rfl) (fun a b => Ext a b) Ext.refl (fun h1 h2 => h1.next h2) (fun i v W => match i with
                  | 0 => v = .slice (some ⟨gg, 0, none⟩) 2 2
                  | 1 => v = .pointer (some ⟨gg, 0, none⟩)
                  | 2 => v = .int .i64 x1
                  | 3 => v = .slice (some ⟨gm, 0, none⟩) 2 2
                  | 4 => v = .pointer (some ⟨gm, 1, none⟩)
                  | 5 => v = .int .i64 x1
                  | 6 => v = .bool true
                  | 7 => v = .bool true
                  | 8 => v = .slice (some ⟨gg, 0, none⟩) 2 2
                  | 9 => v = .pointer (some ⟨gg, 1, none⟩)
                  | 10 => v = .int .i64 x0
                  | 11 => v = .slice (some ⟨gm, 0, none⟩) 2 2
                  | 12 => v = .pointer (some ⟨gm, 0, none⟩)
                  | 13 => v = .int .i64 x0
                  | 14 => v = .bool true
                  | 15 => v = .bool true
                  | 16 => v = .bool true
                  | 17 => v = .slice (some ⟨ge, 0, none⟩) 2 2
                  | 18 => v = .pointer (some ⟨ge, 0, none⟩)
                  | 19 => v = .pointer (some ⟨P 0, 0, none⟩)
                  | 20 => v = .int .i64 0
                  | 21 => v = .bool true
                  | 22 => v = .bool true
                  | 23 => v = .bool true
                  | 24 => v = .slice (some ⟨ge, 0, none⟩) 2 2
                  | 25 => v = .pointer (some ⟨ge, 1, none⟩)
                  | 26 => v = .pointer (some ⟨P 1, 0, none⟩)
                  | 27 => v = .int .i64 0
                  | 28 => v = .bool true
                  | 29 => v = .bool true
                  | 30 => v = .bool true
                  | 31 => v = .bool true
                  | 32 => v = .bool true
                  | 33 => v = .bool true
                  | _ => True) ?_ ?_
                case refine_1 =>
                  simp only [List.take_succ_cons, List.take_zero, flowAct, Nat.zero_add, Nat.reduceAdd, Act.put, List.setIfInBounds_toArray, List.set_cons_succ, List.set_cons_zero]
                  rfl
                · simp only [List.take_succ_cons, List.take_zero, flowStepsF]
                  refine ⟨?_, ?_, ?_, ?_, ?_, ?_, ?_, ?_, ?_, ?_, ?_, ?_, ?_, ?_, ?_, ?_, ?_, ?_, ?_, ?_, ?_, ?_, ?_, ?_, ?_, ?_, ?_, ?_, ?_, ?_, ?_, ?_, ?_, ?_, trivial⟩
                  · intro us W K hE hd hK
                    dsimp only at hK ⊢
                    have HK := Lib.hid hK; have HE := Lib.hid hE
                    clear hK hd hE
                    go_wp2_with fail
                    exact K_at (HK.out (.slice (some ⟨gg, 0, none⟩) 2 2) W (fun _ _ => rfl) (Ext.refl W)) (by kernel_rfl)
                  · intro us W K hE hd hK
                    have d0 := hd 0 (by kernel_rfl)
                    dsimp only at hK ⊢
                    rw [d0] at hK ⊢
                    have HK := Lib.hid hK; have HE := Lib.hid hE
                    clear hK hd hE d0
                    go_wp2_with fail
                    exact K_at (HK.out (.pointer (some ⟨gg, 0, none⟩)) W (fun _ _ => rfl) (Ext.refl W)) (by kernel_rfl)
                  · intro us W K hE hd hK
                    have d1 := hd 1 (by kernel_rfl)
                    have c0 := ((ext_undrew hE).cell (p := ⟨gg, 0, none⟩) HLT.out.1).trans HG0.out
                    dsimp only at hK ⊢
                    rw [d1] at hK ⊢
                    have HK := Lib.hid hK; have HE := Lib.hid hE
                    clear hK hd hE d1
                    go_wp2_with fail
                    exact K_at (HK.out (.int .i64 x1) W (fun _ _ => rfl) (Ext.refl W)) (by kernel_rfl)
                  · intro us W K hE hd hK
                    dsimp only at hK ⊢
                    have HK := Lib.hid hK; have HE := Lib.hid hE
                    clear hK hd hE
                    go_wp2_with fail
                    exact K_at (HK.out (.slice (some ⟨gm, 0, none⟩) 2 2) W (fun _ _ => rfl) (Ext.refl W)) (by kernel_rfl)
                  · intro us W K hE hd hK
                    have d3 := hd 3 (by kernel_rfl)
                    dsimp only at hK ⊢
                    rw [d3] at hK ⊢
                    have HK := Lib.hid hK; have HE := Lib.hid hE
                    clear hK hd hE d3
                    go_wp2_with fail
                    exact K_at (HK.out (.pointer (some ⟨gm, 1, none⟩)) W (fun _ _ => rfl) (Ext.refl W)) (by kernel_rfl)
                  · intro us W K hE hd hK
                    have d4 := hd 4 (by kernel_rfl)
                    have c0 := ((ext_undrew hE).cell (p := ⟨gm, 1, none⟩) HLT.out.2.1).trans HC1.out
                    dsimp only at hK ⊢
                    rw [d4] at hK ⊢
                    have HK := Lib.hid hK; have HE := Lib.hid hE
                    clear hK hd hE d4
                    go_wp2_with fail
                    exact K_at (HK.out (.int .i64 x1) W (fun _ _ => rfl) (Ext.refl W)) (by kernel_rfl)
                  · intro us W K hE hd hK
                    have d2 := hd 2 (by kernel_rfl)
                    have d5 := hd 5 (by kernel_rfl)
                    dsimp only at hK ⊢
                    rw [d2, d5] at hK ⊢
                    have HK := Lib.hid hK; have HE := Lib.hid hE
                    clear hK hd hE d2 d5
                    go_wp2_with fail
                    exact K_at (HK.out (.bool true) W (fun _ _ => rfl) (Ext.refl W)) (by kernel_rfl)
                  · intro us W K hE hd hK
                    have d6 := hd 6 (by kernel_rfl)
                    dsimp only at hK ⊢
                    rw [d6] at hK ⊢
                    have HK := Lib.hid hK; have HE := Lib.hid hE
                    clear hK hd hE d6
                    go_wp2_with fail
                    exact K_at (HK.out (.bool true) W (fun _ _ => rfl) (Ext.refl W)) (by kernel_rfl)
                  · intro us W K hE hd hK
                    have d7 := hd 7 (by kernel_rfl)
                    dsimp only at hK ⊢
                    rw [d7] at hK ⊢
                    have HK := Lib.hid hK; have HE := Lib.hid hE
                    clear hK hd hE d7
                    go_wp2_with fail
                    exact K_at (HK.out (.slice (some ⟨gg, 0, none⟩) 2 2) W (fun _ _ => rfl) (Ext.refl W)) (by kernel_rfl)
                  · intro us W K hE hd hK
                    have d7 := hd 7 (by kernel_rfl)
                    have d8 := hd 8 (by kernel_rfl)
                    dsimp only at hK ⊢
                    rw [d7, d8] at hK ⊢
                    have HK := Lib.hid hK; have HE := Lib.hid hE
                    clear hK hd hE d7 d8
                    go_wp2_with fail
                    exact K_at (HK.out (.pointer (some ⟨gg, 1, none⟩)) W (fun _ _ => rfl) (Ext.refl W)) (by kernel_rfl)
                  · intro us W K hE hd hK
                    have d7 := hd 7 (by kernel_rfl)
                    have d9 := hd 9 (by kernel_rfl)
                    have c0 := ((ext_undrew hE).cell (p := ⟨gg, 1, none⟩) HLT.out.1).trans HG1.out
                    dsimp only at hK ⊢
                    rw [d7, d9] at hK ⊢
                    have HK := Lib.hid hK; have HE := Lib.hid hE
                    clear hK hd hE d7 d9
                    go_wp2_with fail
                    exact K_at (HK.out (.int .i64 x0) W (fun _ _ => rfl) (Ext.refl W)) (by kernel_rfl)
                  · intro us W K hE hd hK
                    have d7 := hd 7 (by kernel_rfl)
                    dsimp only at hK ⊢
                    rw [d7] at hK ⊢
                    have HK := Lib.hid hK; have HE := Lib.hid hE
                    clear hK hd hE d7
                    go_wp2_with fail
                    exact K_at (HK.out (.slice (some ⟨gm, 0, none⟩) 2 2) W (fun _ _ => rfl) (Ext.refl W)) (by kernel_rfl)
                  · intro us W K hE hd hK
                    have d7 := hd 7 (by kernel_rfl)
                    have d11 := hd 11 (by kernel_rfl)
                    dsimp only at hK ⊢
                    rw [d7, d11] at hK ⊢
                    have HK := Lib.hid hK; have HE := Lib.hid hE
                    clear hK hd hE d7 d11
                    go_wp2_with fail
                    exact K_at (HK.out (.pointer (some ⟨gm, 0, none⟩)) W (fun _ _ => rfl) (Ext.refl W)) (by kernel_rfl)
                  · intro us W K hE hd hK
                    have d7 := hd 7 (by kernel_rfl)
                    have d12 := hd 12 (by kernel_rfl)
                    have c0 := ((ext_undrew hE).cell (p := ⟨gm, 0, none⟩) HLT.out.2.1).trans HC0.out
                    dsimp only at hK ⊢
                    rw [d7, d12] at hK ⊢
                    have HK := Lib.hid hK; have HE := Lib.hid hE
                    clear hK hd hE d7 d12
                    go_wp2_with fail
                    exact K_at (HK.out (.int .i64 x0) W (fun _ _ => rfl) (Ext.refl W)) (by kernel_rfl)
                  · intro us W K hE hd hK
                    have d7 := hd 7 (by kernel_rfl)
                    have d10 := hd 10 (by kernel_rfl)
                    have d13 := hd 13 (by kernel_rfl)
                    dsimp only at hK ⊢
                    rw [d7, d10, d13] at hK ⊢
                    have HK := Lib.hid hK; have HE := Lib.hid hE
                    clear hK hd hE d7 d10 d13
                    go_wp2_with fail
                    exact K_at (HK.out (.bool true) W (fun _ _ => rfl) (Ext.refl W)) (by kernel_rfl)
                  · intro us W K hE hd hK
                    have d7 := hd 7 (by kernel_rfl)
                    have d14 := hd 14 (by kernel_rfl)
                    dsimp only at hK ⊢
                    rw [d7, d14] at hK ⊢
                    have HK := Lib.hid hK; have HE := Lib.hid hE
                    clear hK hd hE d7 d14
                    go_wp2_with fail
                    exact K_at (HK.out (.bool true) W (fun _ _ => rfl) (Ext.refl W)) (by kernel_rfl)
                  · intro us W K hE hd hK
                    have d15 := hd 15 (by kernel_rfl)
                    dsimp only at hK ⊢
                    rw [d15] at hK ⊢
                    have HK := Lib.hid hK; have HE := Lib.hid hE
                    clear hK hd hE d15
                    go_wp2_with fail
                    exact K_at (HK.out (.bool true) W (fun _ _ => rfl) (Ext.refl W)) (by kernel_rfl)
                  · intro us W K hE hd hK
                    have d16 := hd 16 (by kernel_rfl)
                    dsimp only at hK ⊢
                    rw [d16] at hK ⊢
                    have HK := Lib.hid hK; have HE := Lib.hid hE
                    clear hK hd hE d16
                    go_wp2_with fail
                    exact K_at (HK.out (.slice (some ⟨ge, 0, none⟩) 2 2) W (fun _ _ => rfl) (Ext.refl W)) (by kernel_rfl)
                  · intro us W K hE hd hK
                    have d16 := hd 16 (by kernel_rfl)
                    have d17 := hd 17 (by kernel_rfl)
                    dsimp only at hK ⊢
                    rw [d16, d17] at hK ⊢
                    have HK := Lib.hid hK; have HE := Lib.hid hE
                    clear hK hd hE d16 d17
                    go_wp2_with fail
                    exact K_at (HK.out (.pointer (some ⟨ge, 0, none⟩)) W (fun _ _ => rfl) (Ext.refl W)) (by kernel_rfl)
                  · intro us W K hE hd hK
                    have d16 := hd 16 (by kernel_rfl)
                    have d18 := hd 18 (by kernel_rfl)
                    have c0 := ((ext_undrew hE).cell (p := ⟨ge, 0, none⟩) HLT.out.2.2).trans HE0.out
                    dsimp only at hK ⊢
                    rw [d16, d18] at hK ⊢
                    have HK := Lib.hid hK; have HE := Lib.hid hE
                    clear hK hd hE d16 d18
                    go_wp2_with fail
                    exact K_at (HK.out (.pointer (some ⟨P 0, 0, none⟩)) W (fun _ _ => rfl) (Ext.refl W)) (by kernel_rfl)
                  · intro us W K hE hd hK
                    have d16 := hd 16 (by kernel_rfl)
                    have d19 := hd 19 (by kernel_rfl)
                    have HSW := Lib.hid (S9.out.ext' (I3.stab _ _ _ _ _ _) (ext_undrew hE))
                    dsimp only at hK ⊢
                    rw [d16, d19] at hK ⊢
                    have HK := Lib.hid hK; have HE := Lib.hid hE
                    clear hK hd hE d16 d19
                    go_wp2_with (go_loud (go_at_call 21; (with_reducible refine (ls_waiting HSW.out (k := 0) (by decide)).mono ?_); rintro e wx ⟨rfl, rfl⟩; rw [HWT.out.1]))
                    exact K_at (HK.out (.int .i64 0) W (fun _ _ => rfl) (Ext.refl W)) (by kernel_rfl)
                  · intro us W K hE hd hK
                    have d16 := hd 16 (by kernel_rfl)
                    have d20 := hd 20 (by kernel_rfl)
                    dsimp only at hK ⊢
                    rw [d16, d20] at hK ⊢
                    have HK := Lib.hid hK; have HE := Lib.hid hE
                    clear hK hd hE d16 d20
                    go_wp2_with fail
                    exact K_at (HK.out (.bool true) W (fun _ _ => rfl) (Ext.refl W)) (by kernel_rfl)
                  · intro us W K hE hd hK
                    have d16 := hd 16 (by kernel_rfl)
                    have d21 := hd 21 (by kernel_rfl)
                    dsimp only at hK ⊢
                    rw [d16, d21] at hK ⊢
                    have HK := Lib.hid hK; have HE := Lib.hid hE
                    clear hK hd hE d16 d21
                    go_wp2_with fail
                    exact K_at (HK.out (.bool true) W (fun _ _ => rfl) (Ext.refl W)) (by kernel_rfl)
                  · intro us W K hE hd hK
                    have d22 := hd 22 (by kernel_rfl)
                    dsimp only at hK ⊢
                    rw [d22] at hK ⊢
                    have HK := Lib.hid hK; have HE := Lib.hid hE
                    clear hK hd hE d22
                    go_wp2_with fail
                    exact K_at (HK.out (.bool true) W (fun _ _ => rfl) (Ext.refl W)) (by kernel_rfl)
                  · intro us W K hE hd hK
                    have d23 := hd 23 (by kernel_rfl)
                    dsimp only at hK ⊢
                    rw [d23] at hK ⊢
                    have HK := Lib.hid hK; have HE := Lib.hid hE
                    clear hK hd hE d23
                    go_wp2_with fail
                    exact K_at (HK.out (.slice (some ⟨ge, 0, none⟩) 2 2) W (fun _ _ => rfl) (Ext.refl W)) (by kernel_rfl)
                  · intro us W K hE hd hK
                    have d23 := hd 23 (by kernel_rfl)
                    have d24 := hd 24 (by kernel_rfl)
                    dsimp only at hK ⊢
                    rw [d23, d24] at hK ⊢
                    have HK := Lib.hid hK; have HE := Lib.hid hE
                    clear hK hd hE d23 d24
                    go_wp2_with fail
                    exact K_at (HK.out (.pointer (some ⟨ge, 1, none⟩)) W (fun _ _ => rfl) (Ext.refl W)) (by kernel_rfl)
                  · intro us W K hE hd hK
                    have d23 := hd 23 (by kernel_rfl)
                    have d25 := hd 25 (by kernel_rfl)
                    have c0 := ((ext_undrew hE).cell (p := ⟨ge, 1, none⟩) HLT.out.2.2).trans HE1p.out
                    dsimp only at hK ⊢
                    rw [d23, d25] at hK ⊢
                    have HK := Lib.hid hK; have HE := Lib.hid hE
                    clear hK hd hE d23 d25
                    go_wp2_with fail
                    exact K_at (HK.out (.pointer (some ⟨P 1, 0, none⟩)) W (fun _ _ => rfl) (Ext.refl W)) (by kernel_rfl)
                  · intro us W K hE hd hK
                    have d23 := hd 23 (by kernel_rfl)
                    have d26 := hd 26 (by kernel_rfl)
                    have HSW := Lib.hid (S9.out.ext' (I3.stab _ _ _ _ _ _) (ext_undrew hE))
                    dsimp only at hK ⊢
                    rw [d23, d26] at hK ⊢
                    have HK := Lib.hid hK; have HE := Lib.hid hE
                    clear hK hd hE d23 d26
                    go_wp2_with (go_loud (go_at_call 21; (with_reducible refine (ls_waiting HSW.out (k := 1) (by decide)).mono ?_); rintro e wx ⟨rfl, rfl⟩; rw [HWT.out.2]))
                    exact K_at (HK.out (.int .i64 0) W (fun _ _ => rfl) (Ext.refl W)) (by kernel_rfl)
                  · intro us W K hE hd hK
                    have d23 := hd 23 (by kernel_rfl)
                    have d27 := hd 27 (by kernel_rfl)
                    dsimp only at hK ⊢
                    rw [d23, d27] at hK ⊢
                    have HK := Lib.hid hK; have HE := Lib.hid hE
                    clear hK hd hE d23 d27
                    go_wp2_with fail
                    exact K_at (HK.out (.bool true) W (fun _ _ => rfl) (Ext.refl W)) (by kernel_rfl)
                  · intro us W K hE hd hK
                    have d23 := hd 23 (by kernel_rfl)
                    have d28 := hd 28 (by kernel_rfl)
                    dsimp only at hK ⊢
                    rw [d23, d28] at hK ⊢
                    have HK := Lib.hid hK; have HE := Lib.hid hE
                    clear hK hd hE d23 d28
                    go_wp2_with fail
                    exact K_at (HK.out (.bool true) W (fun _ _ => rfl) (Ext.refl W)) (by kernel_rfl)
                  · intro us W K hE hd hK
                    have d29 := hd 29 (by kernel_rfl)
                    dsimp only at hK ⊢
                    rw [d29] at hK ⊢
                    have HK := Lib.hid hK; have HE := Lib.hid hE
                    clear hK hd hE d29
                    go_wp2_with fail
                    exact K_at (HK.out (.bool true) W (fun _ _ => rfl) (Ext.refl W)) (by kernel_rfl)
                  · intro us W K hE hd hK
                    have d30 := hd 30 (by kernel_rfl)
                    dsimp only at hK ⊢
                    rw [d30] at hK ⊢
                    have HK := Lib.hid hK; have HE := Lib.hid hE
                    clear hK hd hE d30
                    go_wp2_with (go_loud (go_at_call 23; (with_reducible refine (lives_any W).mono ?_); rintro e W2 ⟨rfl, hE2⟩; have E2 := Lib.hid hE2; clear hE2))
                    exact K_at (HK.out (.bool true) W2 (fun _ _ => rfl) E2.out) (by kernel_rfl)
                  · intro us W K hE hd hK
                    have d30 := hd 30 (by kernel_rfl)
                    have d31 := hd 31 (by kernel_rfl)
                    dsimp only at hK ⊢
                    rw [d30, d31] at hK ⊢
                    have HK := Lib.hid hK; have HE := Lib.hid hE
                    clear hK hd hE d30 d31
                    go_wp2_with fail
                    exact K_at (HK.out (.bool true) W (fun _ _ => rfl) (Ext.refl W)) (by kernel_rfl)
                  · intro us W K hE hd hK
                    have d32 := hd 32 (by kernel_rfl)
                    dsimp only at hK ⊢
                    rw [d32] at hK ⊢
                    have HK := Lib.hid hK; have HE := Lib.hid hE
                    clear hK hd hE d32
                    go_wp2_with fail
                    exact K_at (HK.out (.bool true) W (fun _ _ => rfl) (Ext.refl W)) (by kernel_rfl)
                · intro us W hE hd
                  try dsimp only
                  have d33 := hd 33 (by decide)
                  simp only [List.drop_succ_cons, List.drop_zero]
                  rw [d33]
                  have EW2 := Lib.hid (ext_undrew hE)
                  clear hd hE d33
                  go_wp2_with fail
                  go_ret
                  exact ⟨rfl, S9.out.e.next EW2.out⟩
namespace fnLinkProgress
theorem params_linkProgress : (Try.f6.params.toList.all fun t => Try.prog.readableRec t && decide (t < Try.prog.types.size)) = true := by kernel_rfl
theorem contract (H : Type) (enc : TypeId × Value → H) (W : World) (base : Nat) (args : Array Value) (ds gs : List (DataW H)) (before : List MemPlace)
    (hval : ∀ (j : Nat) t v, Try.f6.params[j]? = some t → args[j]? = some v → Value.okWide Try.prog W .any base t v)
    (hW : DataW.Whole enc Try.prog Try.f6.params.toList Rows.linkProgressSpec.vars false W args.toList ds gs before) :
    Calls Try.prog 6 args W fun e W' => ∃ v, e = .returned v ∧ Rows.linkProgressSpec.post enc Try.prog Try.f6 false true false false W args v W' := by
  have hW' := hW
  obtain ⟨p, q, hA0, _, _, _, _⟩ := hW
  have hA : DataW.TrodAll enc Try.prog W 0 (fun _ => true) true Try.f6.params.toList args.toList ds p := hA0
  rw [Try.params6] at hA hval
  obtain ⟨v0, vs0, d0, ds0, p0, q0, hargs, e0d, e0p, h0, r0⟩ := trodAll_cons hA
  obtain ⟨v1, vs1, d1, ds1, p1, q1, e1, e1d, e1p, h1, r1⟩ := trodAll_cons r0
  obtain ⟨v2, vs2, d2, ds2, p2, q2, e2, e2d, e2p, h2, r2⟩ := trodAll_cons r1
  obtain ⟨v3, vs3, d3, ds3, p3, q3, e3, e3d, e3p, h3, r3⟩ := trodAll_cons r2
  obtain ⟨v4, vs4, d4, ds4, p4, q4, e4, e4d, e4p, h4, r4⟩ := trodAll_cons r3
  obtain ⟨en1, en2, en3⟩ := trodAll_nil r4
  obtain rfl : args = #[v0, v1, v2, v3, v4] := by cases args; simp_all
  clear hA hA0
  obtain ⟨window, rfl, _, _, hwin⟩ := open_int Try.underlying3 (hval 0 _ v0 rfl rfl) h0
  obtain ⟨key, rfl, _, _, hkey⟩ := open_int Try.underlying22 (hval 1 _ v1 rfl rfl) h1
  obtain ⟨k0, k1⟩ := wf_u64 hkey
  obtain ⟨one, rfl, _, _, hone⟩ := open_int Try.underlying3 (hval 2 _ v2 rfl rfl) h2
  obtain ⟨two, rfl, _, _, htwo⟩ := open_int Try.underlying3 (hval 3 _ v3 rfl rfl) h3
  obtain ⟨lost, rfl, _, _, hlost⟩ := open_int Try.underlying3 (hval 4 _ v4 rfl rfl) h4
  refine (walk_prog window key one two lost W (wf_i64 hwin) k0 k1 (wf_i64 hone) (wf_i64 htwo) (wf_i64 hlost)).mono fun e W' ⟨he, hg⟩ => ⟨_, he, ?_⟩
  exact post_law hW' laidOut (params_ok params_linkProgress) 4 rfl Try.underlying4 rfl (fun ds h => by
    rw [Try.params6] at h
    match ds, h with
    | [_, _, _, _, _], _ => rfl) hg
noncomputable def laidWorld (os : Os) : World := World.holding Try.prog os ⟨#[], #[], []⟩
theorem reads (os : Os) {H : Type} (enc : TypeId × Value → H) : ∃ places, DataW.whole enc Try.prog ((laidWorld os).forCall (fun _ _ => 0) ⟨#[], #[.int .i64 0, .int .u64 0, .int .i64 0, .int .i64 0, .int .i64 0], []⟩).memory Try.f6.params.toList Rows.linkProgressSpec.vars false (#[.int .i64 0, .int .u64 0, .int .i64 0, .int .i64 0, .int .i64 0] : Array Value).toList 8 = some ([.lit (.int .i64 0), .lit (.int .u64 0), .lit (.int .i64 0), .lit (.int .i64 0), .lit (.int .i64 0)], [], places) :=
  ⟨[], by kernel_rfl⟩
set_option maxRecDepth 100000 in
theorem lifted (os : Os) (started : os.Started) (H : Type) (enc : TypeId × Value → H) (F : Stop.Interp) :
    ReturnsInHanded {} Try.checked os 6 .any ((OpenSpec.ofChange Rows.linkProgressSpec).preRow enc Try.prog Try.f6 Rows.linkProgressRow.domain false Rows.linkProgressRow.laid) (((OpenSpec.ofChange Rows.linkProgressSpec).at F).post enc Try.prog Try.f6 false true false false) := by
  obtain ⟨places, hx⟩ := reads os enc
  refine returnsInHanded_of_row (C := Try.checked) (s := OpenSpec.ofChange Rows.linkProgressSpec) own started (by kernel_rfl) Try.func6
    (witness_row_at (enc := enc) (C := Try.checked) false (laidWorld os) #[.int .i64 0, .int .u64 0, .int .i64 0, .int .i64 0, .int .i64 0] rfl (by kernel_rfl) (by kernel_rfl) (by kernel_rfl)
      (OpenSpec.preRow_of_cond 8 hx (by kernel_rfl) (fun k hk => by cases hk) (by kernel_rfl) (laidMet_nil _ _))) ?_
  intro W base args ds gs before hval hW _ _ _ hL _ _
  exact contract H enc W base args ds gs before hval hW
theorem said : Rows.LinkProgressSaid :=
  OpenClaim.holds_of_cond 6 Try.f6 rfl rfl rfl rfl rfl rfl rfl ⟨rfl, rfl, rfl, rfl, rfl⟩ rfl rfl rfl rfl rfl (by kernel_rfl) Try.func6 (by kernel_rfl)
    (of_decide_eq_true (by kernel_rfl)) (by unfold Func.isWrapper; first | (rw [if_pos (by decide +kernel)]; kernel_rfl) | (rw [if_neg (by decide +kernel)]; exact ⟨rfl, rfl⟩))
    (fun os started H enc _ F => by rw [OpenClaim.pre_eq_preRow]; exact lifted os started H enc F)
end fnLinkProgress
end Go.Proofs.Ytkgmoklifkojhaa
