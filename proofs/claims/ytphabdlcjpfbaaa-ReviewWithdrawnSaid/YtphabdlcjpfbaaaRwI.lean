/- The law's has, and what ReviewWithdrawn says of lists. Conditions: sizes. -/
import Derived.Test.YtphabdlcjpfbaaaRwH
set_option linter.unusedSimpArgs false
set_option linter.unusedVariables false
namespace Go.Proofs.Ytphabdlcjpfbaaa
open Go.RowKit
attribute [local go_sem ↓] wp_at_zero wp_at_succ
set_option maxHeartbeats 8000000 in
set_option maxRecDepth 100000 in
theorem has_any (a b : List Rid) (A B : Option Addr) (n c m d : Nat) (w : World) (ha : RdN w w.heap.size 3 A n (idsC a)) (hb : RdN w w.heap.size 3 B m (idsC b)) (hn : n ≤ 1000000000000) (hm : m ≤ 1000000000000) :
    Calls Try.prog 27 #[.slice A n c, .slice B m d] w fun e w' => e = .returned (.bool (meetB a b)) ∧ Drew w w' := by
  have HA := Lib.hid ha; have HB := Lib.hid hb
  have HAN := Lib.hid (idsC_n ha); have HBN := Lib.hid (idsC_n hb)
  clear ha hb
  go_enter Try.func27, Try.ntmps27
  go_wp2_with fail
  go_loopw [5, 6] (fun k _ wr => ∃ t : Nat, t ≤ n ∧ k = .int .i64 (t : Int) ∧ Drew w wr ∧ ∀ (i j : Nat) (x : Rid), i < t → a[i]? = some x → b[j]? ≠ some x) (fun k _ _ => n - (intOf k).toNat)
  case atStart => exact ⟨0, by omega, rfl, Drew.refl _, fun i j x hi => by omega⟩
  case round =>
    obtain ⟨t, ht, rfl, hE, hz⟩ := hrel
    have EO := Lib.hid hE; have HZ := Lib.hid hz
    clear hE hz
    obtain ⟨wo, rfl⟩ : ∃ x : World, x = wr := ⟨_, rfl⟩
    by_cases hlt : t < n
    · obtain ⟨b1, p1, hA, hb1, hrg1⟩ := rid_at HA.out (by omega)
      subst hA
      obtain ⟨⟨s1, q1, z1⟩, hy⟩ : ∃ y, y = a.getD t rid0 := ⟨_, rfl⟩
      have hy2 : a[t]? = some ⟨s1, q1, z1⟩ := by rw [hy]; exact getD_of (by rw [HAN.out]; exact hlt)
      have HY2 := Lib.hid hy2
      have HR1 : Hid (∀ W, Ext w W → W.rangeAt b1 (p1 + t * 3) [.int .i64 s1, .int .i64 q1, .int .i64 z1]) := Lib.hid (fun W hW => hrg1 W (fun a ha => hW.cell ha) t _ hy2)
      have HTN : Hid (t + 1 ≤ n) := Lib.hid (by omega)
      clear hrg1 hb1 hy hy2
      go_wp2_with fail
      go_loopw [6] (fun k wr => ∃ u : Nat, u ≤ m ∧ k = .int .i64 (u : Int) ∧ Drew w wr ∧ ∀ j : Nat, j < u → b[j]? ≠ some ⟨s1, q1, z1⟩) (fun k _ => m - (intOf k).toNat)
      case atStart => exact ⟨0, by omega, rfl, EO.out, fun j hj => by omega⟩
      case round =>
        obtain ⟨u, hu, rfl, hE, hz⟩ := hrel
        have EI := Lib.hid hE; have HU := Lib.hid hz
        clear hE hz
        obtain ⟨wi, rfl⟩ : ∃ x : World, x = wr := ⟨_, rfl⟩
        by_cases hlu : u < m
        · obtain ⟨b2, p2, hB, hb2, hrg2⟩ := rid_at HB.out (by omega)
          subst hB
          obtain ⟨⟨s2, q2, z2⟩, hy⟩ : ∃ y, y = b.getD u rid0 := ⟨_, rfl⟩
          have hy2 : b[u]? = some ⟨s2, q2, z2⟩ := by rw [hy]; exact getD_of (by rw [HBN.out]; exact hlu)
          have HR2 : Hid (∀ W, Ext w W → W.rangeAt b2 (p2 + u * 3) [.int .i64 s2, .int .i64 q2, .int .i64 z2]) := Lib.hid (fun W hW => hrg2 W (fun a ha => hW.cell ha) u _ hy2)
          have HQ : Hid (∀ W, (Op.equalIn 10000 57 (.agg #[.int .i64 s1, .int .i64 q1, .int .i64 z1]) (.agg #[.int .i64 s2, .int .i64 q2, .int .i64 z2])).run Try.prog W = .ok (decide ((⟨s1, q1, z1⟩ : Rid) = ⟨s2, q2, z2⟩)) W) := Lib.hid (fun W => id_equal ⟨s1, q1, z1⟩ ⟨s2, q2, z2⟩ W)
          obtain ⟨eb, heb⟩ : ∃ e, e = decide ((⟨s1, q1, z1⟩ : Rid) = ⟨s2, q2, z2⟩) := ⟨_, rfl⟩
          have HY : Hid (eb = true → meetB a b = true) := Lib.hid (fun h => by
            rw [heb, decide_eq_true_iff] at h
            exact meet_some HY2.out (by rw [h]; exact hy2))
          have HN : Hid (eb = false → ∀ j : Nat, j < u + 1 → b[j]? ≠ some ⟨s1, q1, z1⟩) := Lib.hid (fun h j hj => by
            rw [heb, decide_eq_false_iff_not] at h
            rcases Nat.lt_or_ge j u with h1 | h1
            · exact HU.out j h1
            · obtain rfl : j = u := by omega
              rw [hy2]
              intro h2
              exact h (Option.some.inj h2).symm)
          have HUN : Hid (u + 1 ≤ m) := Lib.hid (by omega)
          rw [← heb] at HQ
          clear hrg2 hb2 heb hy hy2
          go_upto_region 7 with fail
          refine wp_region_flowF 9 ?FW1 (fun us => ?_) (by kernel_rfl) (by kernel_rfl) Drew Drew.refl Drew.trans (fun i v W => match i with
            | 0 => v = .slice (some ⟨b1, p1, none⟩) n c
            | 1 => v = .int .i64 (t : Int)
            | 2 => v = .pointer (some ⟨b1, p1 + t * 3, none⟩)
            | 3 => v = .agg #[.int .i64 s1, .int .i64 q1, .int .i64 z1]
            | 4 => v = .slice (some ⟨b2, p2, none⟩) m d
            | 5 => v = .int .i64 (u : Int)
            | 6 => v = .pointer (some ⟨b2, p2 + u * 3, none⟩)
            | 7 => v = .agg #[.int .i64 s2, .int .i64 q2, .int .i64 z2]
            | 8 => v = .bool eb
            | _ => True) ?_ ?_
          case refine_1 =>
            simp only [List.take_succ_cons, List.take_zero, flowAct, Nat.zero_add, Nat.reduceAdd, Act.put, List.setIfInBounds_toArray, List.set_cons_succ, List.set_cons_zero]
            rfl
          · simp only [List.take_succ_cons, List.take_zero, flowStepsF]
            refine ⟨?_, ?_, ?_, ?_, ?_, ?_, ?_, ?_, ?_, trivial⟩
            · intro us W K hE hd hK
              dsimp only at hK ⊢
              have HK := Lib.hid hK; have HE := Lib.hid hE
              clear hK hd hE
              go_wp2_with fail
              exact K_at (HK.out (.slice (some ⟨b1, p1, none⟩) n c) W (fun _ _ => rfl) (Drew.refl W)) (by kernel_rfl)
            · intro us W K hE hd hK
              dsimp only at hK ⊢
              have HK := Lib.hid hK; have HE := Lib.hid hE
              clear hK hd hE
              go_wp2_with fail
              exact K_at (HK.out (.int .i64 (t : Int)) W (fun _ _ => rfl) (Drew.refl W)) (by kernel_rfl)
            · intro us W K hE hd hK
              have d0 := hd 0 (by kernel_rfl)
              have d1 := hd 1 (by kernel_rfl)
              dsimp only at hK ⊢
              rw [d0, d1] at hK ⊢
              have HK := Lib.hid hK; have HE := Lib.hid hE
              clear hK hd hE d0 d1
              go_wp2_with fail
              exact K_at (HK.out (.pointer (some ⟨b1, p1 + t * 3, none⟩)) W (fun _ _ => rfl) (Drew.refl W)) (by kernel_rfl)
            · intro us W K hE hd hK
              have d2 := hd 2 (by kernel_rfl)
              have HRW := Lib.hid (HR1.out W (drew_ext (Drew.trans EI.out (drew_undrew hE))))
              dsimp only at hK ⊢
              rw [d2] at hK ⊢
              have HK := Lib.hid hK; have HE := Lib.hid hE
              clear hK hd hE d2
              go_wp2_with (go_loud (refine wpList_midw (by rfl) 57 (.tmp 21) rfl b1 (p1 + t * 3) rfl [.int .i64 s1, .int .i64 q1, .int .i64 z1] HRW.out Try.underlying57 rfl (info_id.trans rfl) ?_))
              exact K_at (HK.out (.agg #[.int .i64 s1, .int .i64 q1, .int .i64 z1]) W (fun _ _ => rfl) (Drew.refl W)) (by kernel_rfl)
            · intro us W K hE hd hK
              dsimp only at hK ⊢
              have HK := Lib.hid hK; have HE := Lib.hid hE
              clear hK hd hE
              go_wp2_with fail
              exact K_at (HK.out (.slice (some ⟨b2, p2, none⟩) m d) W (fun _ _ => rfl) (Drew.refl W)) (by kernel_rfl)
            · intro us W K hE hd hK
              dsimp only at hK ⊢
              have HK := Lib.hid hK; have HE := Lib.hid hE
              clear hK hd hE
              go_wp2_with fail
              exact K_at (HK.out (.int .i64 (u : Int)) W (fun _ _ => rfl) (Drew.refl W)) (by kernel_rfl)
            · intro us W K hE hd hK
              have d4 := hd 4 (by kernel_rfl)
              have d5 := hd 5 (by kernel_rfl)
              dsimp only at hK ⊢
              rw [d4, d5] at hK ⊢
              have HK := Lib.hid hK; have HE := Lib.hid hE
              clear hK hd hE d4 d5
              go_wp2_with fail
              exact K_at (HK.out (.pointer (some ⟨b2, p2 + u * 3, none⟩)) W (fun _ _ => rfl) (Drew.refl W)) (by kernel_rfl)
            · intro us W K hE hd hK
              have d6 := hd 6 (by kernel_rfl)
              have HRW := Lib.hid (HR2.out W (drew_ext (Drew.trans EI.out (drew_undrew hE))))
              dsimp only at hK ⊢
              rw [d6] at hK ⊢
              have HK := Lib.hid hK; have HE := Lib.hid hE
              clear hK hd hE d6
              go_wp2_with (go_loud (refine wpList_midw (by rfl) 57 (.tmp 25) rfl b2 (p2 + u * 3) rfl [.int .i64 s2, .int .i64 q2, .int .i64 z2] HRW.out Try.underlying57 rfl (info_id.trans rfl) ?_))
              exact K_at (HK.out (.agg #[.int .i64 s2, .int .i64 q2, .int .i64 z2]) W (fun _ _ => rfl) (Drew.refl W)) (by kernel_rfl)
            · intro us W K hE hd hK
              have d3 := hd 3 (by kernel_rfl)
              have d7 := hd 7 (by kernel_rfl)
              have hq := HQ.out
              dsimp only at hK ⊢
              rw [d3, d7] at hK ⊢
              have HK := Lib.hid hK; have HE := Lib.hid hE
              clear hK hd hE d3 d7
              go_wp2_with fail
              exact K_at (HK.out (.bool eb) W (fun _ _ => rfl) (Drew.refl W)) (by kernel_rfl)
          · intro us W hE hd
            try dsimp only
            have d8 := hd 8 (by decide)
            simp only [List.drop_succ_cons, List.drop_zero]
            rw [d8]
            have EW := Lib.hid (Drew.trans EI.out (drew_undrew hE))
            clear hd hE d8
            cases eb
            · have hN := Lib.hid (HN.out rfl)
              go_wp2_with fail
              exact ⟨⟨u + 1, HUN.out, by go_num, EW.out, hN.out⟩, by have := HUN.out; simp [intOf]; omega⟩
            · have hY := Lib.hid (HY.out rfl)
              go_wp2_with fail
              go_ret
              exact ⟨by rw [hY.out]; rfl, EW.out⟩
        · obtain rfl : u = m := by omega
          have HS : Hid (∀ (i j : Nat) (x : Rid), i < t + 1 → a[i]? = some x → b[j]? ≠ some x) := Lib.hid (fun i j x hi hx => by
            rcases Nat.lt_or_ge i t with h | h
            · exact HZ.out i j x h hx
            · obtain rfl : i = t := by omega
              rw [HY2.out] at hx
              have hx := Option.some.inj hx
              subst hx
              intro hj
              have := (List.getElem?_eq_some_iff.1 hj).1
              rw [HBN.out] at this
              exact HU.out j this hj)
          go_wp2_with fail
          exact ⟨⟨t + 1, HTN.out, by go_num, EI.out, HS.out⟩, by have := HTN.out; simp [intOf]; omega⟩
    · obtain rfl : t = n := by omega
      have HM : Hid (meetB a b = false) := Lib.hid (meet_none (fun i j x hi => HZ.out i j x (by have := (List.getElem?_eq_some_iff.1 hi).1; rw [HAN.out] at this; exact this) hi))
      go_wp2_with fail
      go_ret
      exact ⟨by rw [HM.out]; rfl, EO.out⟩
theorem sorted_eq (K : List RX) (T : List Rev) (hT : T.Pairwise ltK) (hp : (K.map (·.r)).Perm T) (hs : SortK K) : K.map (·.r) = T := by
  refine strict_eq _ _ ?_ hT hp
  have h5 : T.Pairwise fun a b => ¬ (a.shop = b.shop ∧ a.seq = b.seq) := hT.imp fun h => by unfold ltK at h; omega
  have h6 : (K.map (·.r)).Pairwise fun a b => ¬ (a.shop = b.shop ∧ a.seq = b.seq) := (hp.pairwise_iff (fun h => by omega)).2 h5
  have h7 : (K.map (·.r)).Pairwise fun a b => ¬ ltK b a := by rw [List.pairwise_map]; exact hs
  exact (List.pairwise_and_iff.2 ⟨h6, h7⟩).imp fun {a b} h => by unfold ltK at *; omega
theorem strK_nodup {L : List RX} (h : StrK L) : (L.map keyX).Nodup := by
  unfold List.Nodup
  rw [List.pairwise_map]
  refine List.Pairwise.imp ?_ h
  intro a b hab e
  unfold keyX at e
  rw [Prod.mk.injEq] at e
  unfold ltK at hab
  omega
theorem frs_new : ∀ (L a : List RX) (ks : List (Int × Int)), (∀ x ∈ L, keyX x ∉ ks) → (L.map keyX).Nodup → (L.foldl stepF (a, ks)).1 = a ++ L
  | [], a, ks, _, _ => by simp
  | x :: L, a, ks, h1, h2 => by
    rw [List.map_cons, List.nodup_cons] at h2
    rw [List.foldl_cons]
    have e : stepF (a, ks) x = (a ++ [x], keyX x :: ks) := by unfold stepF; rw [if_neg (h1 x (List.mem_cons_self ..))]
    rw [e, frs_new L _ _ (fun y hy hm => ?_) h2.2, List.append_assoc]
    · rfl
    · rcases List.mem_cons.1 hm with h | h
      · exact h2.1 (List.mem_map.2 ⟨y, hy, h⟩)
      · exact h1 y (List.mem_cons_of_mem _ hy) h
theorem frs_weave (W : RX) : ∀ (L a : List RX) (ks : List (Int × Int)), keyX W ∈ ks → (∀ x ∈ L, keyX x ∉ ks) → (L.map keyX).Nodup → ((L.flatMap fun x => [x, W]).foldl stepF (a, ks)).1 = a ++ L
  | [], a, ks, _, _, _ => by simp
  | x :: L, a, ks, hw, h1, h2 => by
    rw [List.map_cons, List.nodup_cons] at h2
    rw [List.flatMap_cons, List.cons_append, List.cons_append, List.nil_append, List.foldl_cons, List.foldl_cons]
    have e : stepF (a, ks) x = (a ++ [x], keyX x :: ks) := by unfold stepF; rw [if_neg (h1 x (List.mem_cons_self ..))]
    have e2 : stepF (a ++ [x], keyX x :: ks) W = (a ++ [x], keyX W :: keyX x :: ks) := by unfold stepF; rw [if_pos (List.mem_cons_of_mem _ hw)]
    rw [e, e2, frs_weave W L _ _ (List.mem_cons_self ..) (fun y hy hm => ?_) h2.2, List.append_assoc]
    · rfl
    · rcases List.mem_cons.1 hm with h | h
      · rw [← h] at hw
        exact h1 y (List.mem_cons_of_mem _ hy) hw
      · rcases List.mem_cons.1 h with h | h
        · exact h2.1 (List.mem_map.2 ⟨y, hy, h⟩)
        · exact h1 y (List.mem_cons_of_mem _ hy) h
theorem frsF_distinct {L : List RX} (h : (L.map keyX).Nodup) : (frsF L).1 = L := by
  unfold frsF
  rw [frs_new L [] [] (fun x _ => by simp) h, List.nil_append]
/-- The law's further list: each one behind the withdrawal, from the end on. -/
def weave (W : RX) (L : List RX) : List RX := L.flatMap fun x => [x, W]
theorem weave_len (W : RX) (L : List RX) : (weave W L).length = 2 * L.length := by
  unfold weave
  induction L with
  | nil => rfl
  | cons x L ih => rw [List.flatMap_cons, List.length_append, ih]; simp only [List.length_cons, List.length_nil]; omega
theorem frsF_weave (W : RX) {L : List RX} (h : (L.map keyX).Nodup) (hW : ∀ x ∈ L, keyX x ≠ keyX W) : (frsF (weave W ((L ++ [W]).reverse))).1 = (L ++ [W]).reverse := by
  rw [List.reverse_append]
  show (frsF (weave W (W :: L.reverse))).1 = W :: L.reverse
  unfold frsF weave
  rw [List.flatMap_cons, List.cons_append, List.cons_append, List.nil_append, List.foldl_cons, List.foldl_cons]
  have e : stepF (([] : List RX), ([] : List (Int × Int))) W = ([W], [keyX W]) := rfl
  have e2 : stepF ([W], [keyX W]) W = ([W], [keyX W, keyX W]) := by unfold stepF; rw [if_pos (List.mem_cons_self ..)]
  rw [e, e2, frs_weave W L.reverse [W] _ (List.mem_cons_self ..) (fun x hx hm => ?_) (by rw [List.map_reverse]; exact (List.reverse_perm _).nodup_iff.2 h)]
  · rfl
  · have h1 := hW x (List.mem_reverse.1 hx)
    rcases List.mem_cons.1 hm with h | h
    · exact h1 h
    · exact h1 (List.mem_singleton.1 h)
/-- The law's test. -/
def leftB (n : Int) (W r : Rev) : Bool := decide (n < W.day) || (!decide (r.shop = W.shop) || !meetB r.ops W.ops)
theorem leftB_eq (n : Int) {W r : Rev} (hw : W.wd = true) (hq : r.seq < W.seq) : leftB n W r = !wdB n W r := by
  unfold leftB wdB
  rw [hw, decide_eq_true hq]
  rw [show decide (n < W.day) = !decide (W.day ≤ n) from by rw [Bool.eq_iff_iff]; simp, show decide (W.shop = r.shop) = decide (r.shop = W.shop) from decide_eq_decide.2 ⟨Eq.symm, Eq.symm⟩]
  cases decide (W.day ≤ n) <;> cases decide (r.shop = W.shop) <;> cases meetB r.ops W.ops <;> rfl
theorem std_snoc (n : Int) (L : List RX) {W : RX} (x : RX) : stdB n (L ++ [W]) x = (stdB n L x && !wdB n W.r x.r) := by
  unfold stdB goneB
  rw [List.any_append, List.any_cons, List.any_nil, Bool.or_false]
  cases x.r.wd <;> cases decide (x.r.day ≤ n) <;> cases (L.any fun y => wdB n y.r x.r) <;> cases wdB n W.r x.r <;> rfl
theorem filter_map_r (f : Rev → Bool) (L : List RX) : (L.filter fun x => f x.r).map (·.r) = (L.map (·.r)).filter f := by
  induction L with
  | nil => rfl
  | cons x L ih =>
    rw [List.filter_cons, List.map_cons, List.filter_cons]
    by_cases h : f x.r = true
    · rw [if_pos h, if_pos h, List.map_cons, ih]
    · rw [if_neg h, if_neg h, ih]
theorem withdrawn_plain (All : List RX) (W : RX) (n : Int) (hA : StrK All) (hq : ∀ x ∈ All, x.r.seq < W.r.seq) (hwd : W.r.wd = true) (K0 K F : List RX) (hF : F.Perm (All ++ [W]))
    (h0 : (K0.map (·.r)).Perm (((frsF All).1.filter (stdB n (frsF All).1)).map (·.r))) (s0 : SortK K0)
    (h1 : (K.map (·.r)).Perm ((F.filter (stdB n F)).map (·.r))) (s1 : SortK K) : K.map (·.r) = (K0.filter fun x => leftB n W.r x.r).map (·.r) := by
  rw [frsF_distinct (strK_nodup hA)] at h0
  have hT0 : ((All.filter (stdB n All)).map (·.r)).Pairwise ltK := by
    rw [List.pairwise_map]
    exact List.Pairwise.sublist List.filter_sublist hA
  have e0 := sorted_eq K0 _ hT0 h0 s0
  have e1 : (K0.filter fun x => leftB n W.r x.r).map (·.r) = ((All.filter (stdB n All)).map (·.r)).filter fun q => leftB n W.r q := by
    rw [filter_map_r (fun q => leftB n W.r q), e0]
  rw [e1]
  refine sorted_eq K _ (List.Pairwise.sublist List.filter_sublist hT0) ?_ s1
  refine h1.trans ?_
  rw [stdB_perm n hF]
  refine ((hF.filter _).map _).trans ?_
  rw [← filter_map_r (fun q => leftB n W.r q), List.filter_filter, List.filter_append]
  have e2 : ([W].filter (stdB n (All ++ [W]))) = [] := by
    rw [List.filter_cons, if_neg (by unfold stdB; rw [hwd]; simp), List.filter_nil]
  rw [e2, List.append_nil]
  have e3 : All.filter (stdB n (All ++ [W])) = All.filter (fun x => leftB n W.r x.r && stdB n All x) := by
    refine List.filter_congr (fun x hx => ?_)
    rw [std_snoc, leftB_eq n hwd (hq x hx), Bool.and_comm]
  rw [e3]
end Go.Proofs.Ytphabdlcjpfbaaa
