/- link.Open and the reference's Open. Conditions: sizes that fit the memory. -/
import Derived.Test.YtkgmoklifkojhaaLkRefB
import Derived.Stop.BytesEq
import Derived.Lib.SlBytesConst
import Derived.Outline
set_option linter.unusedSimpArgs false
set_option linter.unusedVariables false
namespace Go.Proofs.Ytkgmoklifkojhaa
open Go.RowKit
/-- Two rows of bytes compared. -/
theorem run_equalIn_u8s {P : Program} (w : World) (d : Nat) (t e : TypeId) (n : Nat) (ht : P.underlying t = some (.array n e)) (he : P.underlying e = some (.int .u8)) (hsz : ∀ w, (sizeOf e).run P w = .ok 1 w)
    (l m : List Int) (hl : Byt l) (hm : Byt m) (h1 : l.length = n) (h2 : m.length = n) : (Op.equalIn (d + 2) t (.agg (u8s l).toArray) (.agg (u8s m).toArray)).run P w = .ok (decide (l = m)) w := by
  have hc : ∀ l : List Int, Byt l → u8s l = (l.map fun n => UInt8.ofNat n.toNat).map Extern.Stop.cell := fun l hl => by
    simp only [u8s, List.map_map]
    refine List.map_congr_left fun x hx => ?_
    have := hl x hx
    simp only [Function.comp, Extern.Stop.cell, UInt8.toNat_ofNat']
    have e : x = ((x.toNat % 2 ^ 8 : Nat) : Int) := by omega
    exact congrArg _ e
  rw [hc l hl, hc m hm, run_equalIn_bytes w d t e n ht he hsz _ _ (by simpa using h1) (by simpa using h2)]
  congr 1
  rw [Bool.eq_iff_iff]
  simp only [beq_iff_eq, decide_eq_true_eq]
  constructor
  · intro h
    have h3 : strOf l = strOf m := by unfold strOf; rw [h]
    exact strOf_inj hl hm h3
  · rintro rfl; rfl
theorem sameU (l m : List Int) (A B : Option Addr) (n c k d : Nat) (w : World) (hl : Rd w w.heap.size A n (u8s l)) (hm : Rd w w.heap.size B k (u8s m)) (hn : n ≤ 9223372036854775807) :
    Calls Try.prog 29 #[.slice A n c, .slice B k d] w fun e w' => e = .returned (.bool (decide (l = m))) ∧ Drew w w' := same_any l m A B n c k d w hl hm hn
/-- What Open gives: the bytes, and the error's number. -/
def openL (key : Int) (x : List Int) : List Int × Int :=
  if x.length < 8 then ([], 2) else if sealB key (x.take (x.length - 8)) = x.drop (x.length - 8) then (x.take (x.length - 8), 0) else ([], 9)
theorem openL_byt {key : Int} {x : List Int} (h : Byt x) : Byt (openL key x).1 := by
  unfold openL
  split
  · exact Byt.nil
  · split
    · exact h.take _
    · exact Byt.nil
theorem openL_le (key : Int) (x : List Int) : (openL key x).1.length ≤ x.length := by
  unfold openL
  split
  · simp
  · split
    · simp
    · simp
theorem seal_same (key : Int) (x : List Int) (h : ¬ x.length < 8) : (sealL key (x.take (x.length - 8)) = x) ↔ (sealB key (x.take (x.length - 8)) = x.drop (x.length - 8)) := by
  unfold sealL
  constructor
  · intro h2
    have h3 : x.take (x.length - 8) ++ sealB key (x.take (x.length - 8)) = x.take (x.length - 8) ++ x.drop (x.length - 8) := by rw [List.take_append_drop]; exact h2
    exact List.append_cancel_left h3
  · intro h2
    rw [h2, List.take_append_drop]
set_option maxHeartbeats 4000000 in
set_option maxRecDepth 100000 in
theorem ropen_any (key : Int) (k0 : 0 ≤ key) (k1 : key ≤ 18446744073709551615) (x : List Int) (A : Option Addr) (n c : Nat) (w : World) (hl : Rd w w.heap.size A n (u8s x)) (hby : Byt x) (hn : n ≤ 1000000000) (hnc : n ≤ c) (hc : c ≤ 9223372036854775807) :
    Calls Try.prog 30 #[.int .u64 key, .slice A n c] w fun e w' => (∃ A' c', e = .returned (.tuple #[.slice A' (openL key x).1.length c', .int .i64 (openL key x).2]) ∧ ((openL key x).1.length ≤ c' ∧ c' ≤ 9223372036854775807) ∧ Rd w' w'.heap.size A' (openL key x).1.length (u8s (openL key x).1)) ∧ Ext w w' := by
  have hlen : x.length = n := by simpa [u8s] using hl.1
  have HL := Lib.hid hl; have HN := Lib.hid hlen; have HBY := Lib.hid hby
  clear hl hby
  by_cases h8 : n < 8
  · have HO : Hid (openL key x = ([], 2)) := Lib.hid (by unfold openL; rw [if_pos (by omega)])
    clear hlen
    go_enter Try.func30, Try.ntmps30
    go_wp2_with fail
    go_ret2
    rw [HO.out]
    exact ⟨⟨none, 0, rfl, ⟨Nat.le_refl _, by decide⟩, Rd.nil _ _ _⟩, Ext.refl w⟩
  · obtain ⟨m, hm⟩ : ∃ m, m = n - 8 := ⟨_, rfl⟩
    have hm8 : n = m + 8 := by omega
    subst hm8
    clear hm
    have HSS := Lib.hid (seal_same key x (by omega))
    have hxm : x.length - 8 = m := by omega
    rw [hxm] at HSS
    have HOE : Hid (openL key x = if sealB key (x.take m) = x.drop m then (x.take m, 0) else ([], 9)) := Lib.hid (by unfold openL; rw [if_neg (by omega), hxm])
    obtain ⟨b, o, rfl, hRb⟩ := rd_at HL.out (by omega)
    have HR := Lib.hid hRb
    have RM : Hid (Rd w w.heap.size (some ⟨b, o, none⟩) m (u8s (x.take m))) := Lib.hid (by
      have := hRb.slice 0 m (by omega)
      simpa [u8s, List.map_take] using this)
    have HML : Hid ((x.take m).length = m) := Lib.hid (by rw [List.length_take]; omega)
    have HMB := Lib.hid (HBY.out.take m)
    have HSL : Hid ((sealL key (x.take m)).length = m + 8) := Lib.hid (by rw [sealL_length, HML.out])
    have hcm : m ≤ c := by omega
    clear hlen hxm hRb
    by_cases he : sealB key (x.take m) = x.drop m
    · have HE := Lib.hid he
      have HD : Hid (decide (sealL key (x.take m) = x) = true) := Lib.hid (decide_eq_true (HSS.out.2 he))
      have HO : Hid (openL key x = (x.take m, 0)) := Lib.hid (by rw [HOE.out, if_pos he])
      clear he
      go_enter Try.func30, Try.ntmps30
      go_wp2_with (first
        | (go_at_call 17; (with_reducible refine (rseal_any key k0 k1 (x.take m) (some ⟨b, o, none⟩) m c w RM.out HMB.out (by omega)).mono ?_); rintro e w1 ⟨⟨A1, c1, rfl, ho⟩, hB⟩; rw [HSL.out] at ho ⊢; have R1 := Lib.hid (Rd.of_own ho); have E1 : Hid (Ext w w1) := Lib.hid hB; clear hB ho)
        | (go_at_call 29; (with_reducible refine (sameU (sealL key (x.take m)) x A1 (some ⟨b, o, none⟩) (m + 8) c1 (m + 8) c w1 R1.out (HR.out.ext' E1.out) (by omega)).mono ?_); rintro e w2 ⟨rfl, hd⟩; rw [HD.out]; have E2 : Hid (Ext w w2) := Lib.hid (E1.out.next (hd.below _)); clear hd))
      go_ret2
      rw [HO.out]
      exact ⟨⟨_, c, by rw [HML.out]; rfl, ⟨by rw [HML.out]; exact hcm, hc⟩, by rw [HML.out]; exact RM.out.ext' E2.out⟩, E2.out⟩
    · have HE := Lib.hid he
      have HD : Hid (decide (sealL key (x.take m) = x) = false) := Lib.hid (decide_eq_false (fun h => he (HSS.out.1 h)))
      have HO : Hid (openL key x = ([], 9)) := Lib.hid (by rw [HOE.out, if_neg he])
      clear he
      go_enter Try.func30, Try.ntmps30
      go_wp2_with (first
        | (go_at_call 17; (with_reducible refine (rseal_any key k0 k1 (x.take m) (some ⟨b, o, none⟩) m c w RM.out HMB.out (by omega)).mono ?_); rintro e w1 ⟨⟨A1, c1, rfl, ho⟩, hB⟩; rw [HSL.out] at ho ⊢; have R1 := Lib.hid (Rd.of_own ho); have E1 : Hid (Ext w w1) := Lib.hid hB; clear hB ho)
        | (go_at_call 29; (with_reducible refine (sameU (sealL key (x.take m)) x A1 (some ⟨b, o, none⟩) (m + 8) c1 (m + 8) c w1 R1.out (HR.out.ext' E1.out) (by omega)).mono ?_); rintro e w2 ⟨rfl, hd⟩; rw [HD.out]; have E2 : Hid (Ext w w2) := Lib.hid (E1.out.next (hd.below _)); clear hd))
      go_ret2
      rw [HO.out]
      exact ⟨⟨none, 0, rfl, ⟨Nat.le_refl _, by decide⟩, Rd.nil _ _ _⟩, E2.out⟩
set_option maxHeartbeats 4000000 in
set_option maxRecDepth 100000 in
theorem open_any (key : Int) (k0 : 0 ≤ key) (k1 : key ≤ 18446744073709551615) (x : List Int) (A : Option Addr) (n c : Nat) (w : World) (hl : Rd w w.heap.size A n (u8s x)) (hby : Byt x) (hn : n ≤ 1000000000) (hnc : n ≤ c) (hc : c ≤ 9223372036854775807) :
    Calls Try.prog 25 #[.int .u64 key, .slice A n c] w fun e w' => (∃ A' c', e = .returned (.tuple #[.slice A' (openL key x).1.length c', .int .i64 (openL key x).2]) ∧ w'.ownsRow w.heap.size 5 1 (.slice A' (openL key x).1.length c') (openL key x).1.length (u8s (openL key x).1)) ∧ Ext w w' := by
  have hlen : x.length = n := by simpa [u8s] using hl.1
  have HL := Lib.hid hl; have HN := Lib.hid hlen; have HBY := Lib.hid hby
  clear hl hby
  by_cases h8 : n < 8
  · have HO : Hid (openL key x = ([], 2)) := Lib.hid (by unfold openL; rw [if_pos (by omega)])
    clear hlen
    go_enter Try.func25, Try.ntmps25
    go_wp2_with fail
    go_ret2
    rw [HO.out]
    exact ⟨⟨none, 0, rfl, World.ownsRow_nil _ _ _ _⟩, Ext.refl w⟩
  · obtain ⟨m, hm⟩ : ∃ m, m = n - 8 := ⟨_, rfl⟩
    have hm8 : n = m + 8 := by omega
    subst hm8
    clear hm
    have hxm : x.length - 8 = m := by omega
    have HOE : Hid (openL key x = if sealB key (x.take m) = x.drop m then (x.take m, 0) else ([], 9)) := Lib.hid (by unfold openL; rw [if_neg (by omega), hxm])
    obtain ⟨b, o, rfl, hRb⟩ := rd_at HL.out (by omega)
    have HR := Lib.hid hRb
    have RM : Hid (Rd w w.heap.size (some ⟨b, o, none⟩) m (u8s (x.take m))) := Lib.hid (by
      have := hRb.slice 0 m (by omega)
      simpa [u8s, List.map_take] using this)
    have RT : Hid (Rd w w.heap.size (some ⟨b, o + m, none⟩) 8 (u8s (x.drop m))) := Lib.hid (by
      have := hRb.slice m 8 (by omega)
      rw [show ((u8s x).drop m).take 8 = u8s (x.drop m) from by
        unfold u8s; rw [← List.map_drop, ← List.map_take, List.take_of_length_le (by rw [List.length_drop]; omega)]] at this
      exact this)
    have HML : Hid ((x.take m).length = m) := Lib.hid (by rw [List.length_take]; omega)
    have HMB := Lib.hid (HBY.out.take m)
    obtain ⟨S, hS⟩ : ∃ S, S = sealB key (x.take m) := ⟨_, rfl⟩
    obtain ⟨T, hT⟩ : ∃ T, T = x.drop m := ⟨_, rfl⟩
    have HSL : Hid (S.length = 8) := Lib.hid (by rw [hS]; exact sealB_length _ _)
    have HTL : Hid (T.length = 8) := Lib.hid (by rw [hT, List.length_drop]; omega)
    have HTU : Hid ((u8s T).length = 8) := Lib.hid (by rw [u8s_length, HTL.out])
    have HSB : Hid (Byt S) := Lib.hid (by rw [hS]; exact sealB_byt _ _)
    have HTB : Hid (Byt T) := Lib.hid (by rw [hT]; exact HBY.out.drop _)
    have HSE : Hid (sealB key (x.take m) = S) := Lib.hid hS.symm
    rw [← hS, ← hT] at HOE
    rw [← hT] at RT
    have hcm : m ≤ c := by omega
    have hck : ¬ c = m := by omega
    have HEQ : Hid (∀ W, (Op.equalIn 10000 79 (.agg (u8s S).toArray) (.agg (u8s T).toArray)).run Try.prog W = .ok (decide (S = T)) W) := Lib.hid (fun W => run_equalIn_u8s (P := Try.prog) W 9998 79 5 8 Try.underlying79 Try.underlying5 (fun _ => by kernel_rfl) S T HSB.out HTB.out HSL.out HTL.out)
    clear hlen hxm hRb hS hT
    obtain ⟨dd, hdd⟩ : ∃ d, d = decide (S = T) := ⟨_, rfl⟩
    have HDD := Lib.hid hdd
    clear hdd
    go_enter Try.func25, Try.ntmps25
    go_upto_region 4 with fail
    refine wp_region_flow 11 (by kernel_rfl) (by kernel_rfl) (fun a b => Ext a b) Ext.refl (fun h1 h2 => h1.next h2) (fun i v W => match i with
      | 0 => v = .int .u64 key
      | 1 => v = .slice (some ⟨b, o, none⟩) (m + 8) c
      | 2 => v = .int .i64 m
      | 3 => v = .slice (some ⟨b, o, none⟩) m c
      | 4 => v = .agg (u8s S).toArray
      | 5 => v = .slice (some ⟨b, o, none⟩) (m + 8) c
      | 6 => v = .int .i64 m
      | 7 => v = .slice (some ⟨b, o + m, none⟩) 8 (c - m)
      | 8 => v = .pointer (some ⟨b, o + m, none⟩)
      | 9 => v = .agg (u8s T).toArray
      | 10 => v = .bool (!dd)
      | _ => True) ?_ ?_
    · simp only [List.take_succ_cons, List.take_zero, flowSteps]
      refine ⟨?_, ?_, ?_, ?_, ?_, ?_, ?_, ?_, ?_, ?_, ?_, trivial⟩
      · intro us W K hE hd hK
        simp only [flowAct, Nat.zero_add, Nat.reduceAdd] at hK ⊢
        have HK := Lib.hid hK; have HE := Lib.hid hE
        clear hK hd hE
        go_wp2_with fail
        exact K_at (HK.out (.int .u64 key) W (fun _ _ => rfl) (Ext.refl W)) (by kernel_rfl)
      · intro us W K hE hd hK
        simp only [flowAct, Nat.zero_add, Nat.reduceAdd] at hK ⊢
        have HK := Lib.hid hK; have HE := Lib.hid hE
        clear hK hd hE
        go_wp2_with fail
        exact K_at (HK.out (.slice (some ⟨b, o, none⟩) (m + 8) c) W (fun _ _ => rfl) (Ext.refl W)) (by kernel_rfl)
      · intro us W K hE hd hK
        simp only [flowAct, Nat.zero_add, Nat.reduceAdd] at hK ⊢
        have HK := Lib.hid hK; have HE := Lib.hid hE
        clear hK hd hE
        go_wp2_with fail
        exact K_at (HK.out (.int .i64 m) W (fun _ _ => rfl) (Ext.refl W)) (by kernel_rfl)
      · intro us W K hE hd hK
        have d1 := hd 1 (by kernel_rfl)
        have d2 := hd 2 (by kernel_rfl)
        simp only [flowAct, Nat.zero_add, Nat.reduceAdd] at hK ⊢
        rw [d1, d2] at hK ⊢
        have HK := Lib.hid hK; have HE := Lib.hid hE
        clear hK hd hE d1 d2
        go_wp2_with fail
        exact K_at (HK.out (.slice (some ⟨b, o, none⟩) m c) W (fun _ _ => rfl) (Ext.refl W)) (by kernel_rfl)
      · intro us W K hE hd hK
        have d0 := hd 0 (by kernel_rfl)
        have d3 := hd 3 (by kernel_rfl)
        simp only [flowAct, Nat.zero_add, Nat.reduceAdd] at hK ⊢
        rw [d0, d3] at hK ⊢
        have HK := Lib.hid hK; have HE := Lib.hid hE
        clear hK hd hE d0 d3
        go_wp2_with (go_at_call 41; (with_reducible refine (seal_any key k0 k1 (x.take m) (some ⟨b, o, none⟩) m c W (RM.out.ext' ((Ext.refl w).drew.next HE.out)) HMB.out (by omega)).mono ?_); rintro e w1 ⟨rfl, hB⟩; rw [HSE.out])
        exact K_at (HK.out (.agg (u8s S).toArray) w1 (fun _ _ => rfl) hB) (by kernel_rfl)
      · intro us W K hE hd hK
        simp only [flowAct, Nat.zero_add, Nat.reduceAdd] at hK ⊢
        have HK := Lib.hid hK; have HE := Lib.hid hE
        clear hK hd hE
        go_wp2_with fail
        exact K_at (HK.out (.slice (some ⟨b, o, none⟩) (m + 8) c) W (fun _ _ => rfl) (Ext.refl W)) (by kernel_rfl)
      · intro us W K hE hd hK
        simp only [flowAct, Nat.zero_add, Nat.reduceAdd] at hK ⊢
        have HK := Lib.hid hK; have HE := Lib.hid hE
        clear hK hd hE
        go_wp2_with fail
        exact K_at (HK.out (.int .i64 m) W (fun _ _ => rfl) (Ext.refl W)) (by kernel_rfl)
      · intro us W K hE hd hK
        have d5 := hd 5 (by kernel_rfl)
        have d6 := hd 6 (by kernel_rfl)
        simp only [flowAct, Nat.zero_add, Nat.reduceAdd] at hK ⊢
        rw [d5, d6] at hK ⊢
        have HK := Lib.hid hK; have HE := Lib.hid hE
        clear hK hd hE d5 d6
        go_wp2_with fail
        exact K_at (HK.out (.slice (some ⟨b, o + m, none⟩) 8 (c - m)) W (fun _ _ => rfl) (Ext.refl W)) (by kernel_rfl)
      · intro us W K hE hd hK
        have d7 := hd 7 (by kernel_rfl)
        have ha := fun (W : World) (a : Option Addr) (cap : Nat) => run_arrayAt (P := Try.prog) W 79 5 8 a 8 cap Try.underlying79 (Nat.le_refl _)
        simp only [flowAct, Nat.zero_add, Nat.reduceAdd] at hK ⊢
        rw [d7] at hK ⊢
        have HK := Lib.hid hK; have HE := Lib.hid hE
        clear hK hd hE d7
        go_wp2_with fail
        exact K_at (HK.out (.pointer (some ⟨b, o + m, none⟩)) W (fun _ _ => rfl) (Ext.refl W)) (by kernel_rfl)
      · intro us W K hE hd hK
        have d8 := hd 8 (by kernel_rfl)
        simp only [flowAct, Nat.zero_add, Nat.reduceAdd] at hK ⊢
        rw [d8] at hK ⊢
        have HK := Lib.hid hK; have HE := Lib.hid hE
        clear hK hd hE d8
        obtain ⟨b2, o2, hbo, _, hcc⟩ := (RT.out.ext' ((Ext.refl w).drew.next HE.out)).2 (by decide)
        simp only [Option.some.injEq, Addr.mk.injEq, and_true] at hbo
        obtain ⟨rfl, rfl⟩ := hbo
        refine wpList_load_mid rfl 79 (.tmp 20) rfl b (o + m) (by kernel_rfl) (u8s T) _ (fun j v hv => hcc j v hv) Try.underlying79 rfl (info_8u8.trans (congrArg some HTU.out.symm)) ?_
        change K _ _
        exact K_at (HK.out (.agg (u8s T).toArray) W (fun _ _ => rfl) (Ext.refl W)) (by kernel_rfl)
      · intro us W K hE hd hK
        have d4 := hd 4 (by kernel_rfl)
        have d9 := hd 9 (by kernel_rfl)
        have hq := HEQ.out
        rw [← HDD.out] at hq
        simp only [flowAct, Nat.zero_add, Nat.reduceAdd] at hK ⊢
        rw [d4, d9] at hK ⊢
        have HK := Lib.hid hK; have HE := Lib.hid hE
        clear hK hd hE d4 d9
        go_wp2_with fail
        exact K_at (HK.out (.bool (!dd)) W (fun _ _ => rfl) (Ext.refl W)) (by kernel_rfl)
    · intro us W hE hd
      have d10 := hd 10 (by decide)
      simp only [List.take_succ_cons, List.take_zero, List.drop_succ_cons, List.drop_zero, flowAct, Nat.zero_add, Nat.reduceAdd]
      rw [d10]
      have HE := Lib.hid ((Ext.refl w).drew.next hE)
      clear hd hE d10
      simp only [wpList, Exit.then, Act.put, List.setIfInBounds_toArray, List.set_cons_succ, List.set_cons_zero]
      cases dd with
      | true =>
        have HO : Hid (openL key x = (x.take m, 0)) := Lib.hid (by rw [HOE.out, if_pos (of_decide_eq_true HDD.out.symm)])
        go_wp2_with (go_at_call 32; (with_reducible refine (clone_any (x.take m) (some ⟨b, o, none⟩) m c W (RM.out.ext' HE.out) (by omega)).mono ?_); rintro e w3 ⟨⟨A3, c3, rfl, ho⟩, hB⟩; have HO3 := Lib.hid (own_mono ho HE.out.size); have E3 : Hid (Ext w w3) := Lib.hid (HE.out.next hB); clear ho hB)
        go_ret2
        rw [HO.out]
        exact ⟨⟨A3, c3, by rw [HML.out]; rfl, by rw [HML.out]; exact HO3.out⟩, E3.out⟩
      | false =>
        have HO : Hid (openL key x = ([], 9)) := Lib.hid (by rw [HOE.out, if_neg (of_decide_eq_false HDD.out.symm)])
        go_wp2_with fail
        go_ret2
        rw [HO.out]
        exact ⟨⟨none, 0, rfl, World.ownsRow_nil _ _ _ _⟩, HE.out⟩
end Go.Proofs.Ytkgmoklifkojhaa
