/- SignDigitsCross: for all pairs of digests the law answers true and leaves its arguments as they were. Conditions: the table of constants is laid. -/
import Derived.Test.YtkjckmdiolgmcaaDoorLawSg
import Derived.Test.YtkjckmdiolgmcaaDoorSgK
import Derived.Test.YtkjckmdiolgmcaaDoorSgX
import Derived.Test.YtkjckmdiolgmcaaDoorSgQ
import Derived.Laws.StructEq
set_option linter.unusedSimpArgs false
set_option linter.unusedVariables false
namespace Go.Proofs.YtkjckmdiolgmcaaDoor
open Go.RowKit Go.WideShapes Go.ChangeShapes
section
attribute [local go_sem ↓] wp_at_zero wp_at_succ
/-- Is a digit among the first t less? -/
def ltB (a b : List Int) : Nat → Bool
  | 0 => false
  | t + 1 => ltB a b t || decide ((digL a).getD t 0 < (digL b).getD t 0)
theorem ltB_of {a b : List Int} {j : Nat} (h : (digL a).getD j 0 < (digL b).getD j 0) : ∀ t, j < t → ltB a b t = true
  | 0, hj => by omega
  | t + 1, hj => by
    unfold ltB
    by_cases e : j = t
    · subst e
      rw [decide_eq_true h, Bool.or_true]
    · rw [ltB_of h t (by omega), Bool.true_or]
theorem dig_cell (d : List Int) {t : Nat} (h : t < 68) : (i64s (digL d))[t]? = some (.int .i64 ((digL d).getD t 0)) := by
  have hl := digL_len d
  unfold i64s
  rw [List.getElem?_map, List.getElem?_eq_getElem (by omega), List.getD_eq_getElem?_getD, List.getElem?_eq_getElem (by omega)]
  rfl
set_option maxHeartbeats 8000000 in
set_option maxRecDepth 100000 in
theorem walk_cross (a b : List Int) (w : World) (ha : Dig a) (hb : Dig b) (hK : KTab w) :
    Calls Tryd.prog 5 #[.agg (u8s a).toArray, .agg (u8s b).toArray] w fun e w' => e = .returned (.bool true) ∧ Ext w w' := by
  have HK := Lib.hid hK; have HA := Lib.hid ha; have HB := Lib.hid hb
  have HAL : Hid ((u8s a).length = 16) := Lib.hid (by rw [u8s_len]; exact ha.l)
  have HBL : Hid ((u8s b).length = 16) := Lib.hid (by rw [u8s_len]; exact hb.l)
  have HKW : Hid (∀ W, Ext w W → KTab W) := Lib.hid (fun W h => HK.out.below h)
  have HQ := Lib.hid (dig_equal a b ha hb)
  clear hK ha hb
  go_enter Tryd.func5, Tryd.ntmps5
  go_upto_region 1 with fail
  obtain ⟨w1, hw1⟩ : ∃ x, x = (w.alloc (.cells (u8s a).toArray 23)).alloc (.cells (u8s b).toArray 23) := ⟨_, rfl⟩
  change Code.wp _ _ _ _ ((w.alloc (.cells (u8s a).toArray 23)).alloc (.cells (u8s b).toArray 23))
  rw [← hw1]
  have E1 : Hid (Ext w w1) := Lib.hid (by rw [hw1]; exact ((Ext.refl w).alloc _).alloc _)
  have P1 : Hid (Blk w1 w.heap.size 23 (u8s a)) := Lib.hid (by rw [hw1]; exact (Blk.fresh' _ _ _ _ _ rfl rfl).alloc _)
  have Q1 : Hid (Blk w1 (w.heap.size + 1) 23 (u8s b)) := Lib.hid (by rw [hw1]; exact Blk.fresh' _ _ _ _ _ rfl (by simp))
  clear hw1
  go_upto_region 4 with (go_loud (first
    | (go_at_call 6; (with_reducible refine (sanity_any w1 (HKW.out w1 E1.out)).mono ?_); rintro e w2 ⟨rfl, hE2⟩; have E2 : Hid (Ext w w2) := Lib.hid (E1.out.next hE2); have P2 := Lib.hid (P1.out.ext hE2); have Q2 := Lib.hid (Q1.out.ext hE2); clear hE2)
    | (refine wpList_load_blk rfl 23 (.tmp 3) rfl (w.heap.size + 1) (by kernel_rfl) Q3.out Tryd.underlying23 rfl (dg_info.trans (congrArg some HBL.out.symm)) ?_)
    | (refine wpList_load_blk rfl 23 (.tmp 2) rfl w.heap.size (by kernel_rfl) P2.out Tryd.underlying23 rfl (dg_info.trans (congrArg some HAL.out.symm)) ?_)
    | (go_at_call 7; (with_reducible refine (digits_any a w2 HA.out.l HA.out.b).mono ?_); rintro e w3 ⟨ga, rfl, hga, hbd, hE3⟩; have E3 : Hid (Ext w w3) := Lib.hid (E2.out.next hE3); have P3 := Lib.hid (P2.out.ext hE3); have Q3 := Lib.hid (Q2.out.ext hE3); have BA := Lib.hid hbd; clear hga hbd hE3)
    | (go_at_call 7; (with_reducible refine (digits_any b w3 HB.out.l HB.out.b).mono ?_); rintro e w4 ⟨gb, rfl, hgb, hbd, hE4⟩; have E4 : Hid (Ext w w4) := Lib.hid (E3.out.next hE4); have P4 := Lib.hid (P3.out.ext hE4); have Q4 := Lib.hid (Q3.out.ext hE4); have BB := Lib.hid hbd; have BA4 := Lib.hid (BA.out.ext hE4); clear hgb hbd hE4)))
  clear E1 E2 E3 P1 P2 P3 Q1 Q2 Q3 BA
  go_wp2_with fail
  go_loopw [8, 9, 10] (fun l m x wr => ∃ t : Nat, t ≤ 68 ∧ l = .bool (ltB a b t) ∧ m = .bool (ltB b a t) ∧ x = .int .i64 (t : Int) ∧ Ext w4 wr) (fun _ _ x _ => 68 - (intOf x).toNat)
  case atStart => exact ⟨0, by omega, rfl, rfl, rfl, Ext.refl w4⟩
  case round =>
    obtain ⟨t, ht, rfl, rfl, rfl, hE⟩ := hrel
    have EO := Lib.hid hE
    clear hE
    obtain ⟨wo, rfl⟩ : ∃ x : World, x = wr := ⟨_, rfl⟩
    by_cases hlt : t < 68
    · have H1 : Hid (ltB a b (t + 1) = (ltB a b t || decide ((digL a).getD t 0 < (digL b).getD t 0))) := Lib.hid rfl
      have H2 : Hid (ltB b a (t + 1) = (ltB b a t || decide ((digL b).getD t 0 < (digL a).getD t 0))) := Lib.hid rfl
      have c0 := ((BA4.out.ext EO.out).cell t).trans (dig_cell a hlt)
      have c1 := ((BB.out.ext EO.out).cell t).trans (dig_cell b hlt)
      generalize (digL a).getD t 0 = u at *
      generalize (digL b).getD t 0 = v at *
      generalize ltB a b t = p at *
      generalize ltB b a t = q at *
      go_upto_region 11 with fail
      cases p
      all_goals
        go_wp2_with fail
        go_quiet (fail)
        go_upto_region 12 with fail
        cases q
        all_goals
          go_wp2_with fail
          go_quiet (fail)
          go_wp2_with fail
          refine ⟨⟨t + 1, by omega, ?_, ?_, by go_num, EO.out.drewN _⟩, by simp [intOf]; omega⟩
          · rw [H1.out]; simp
          · rw [H2.out]; simp
    · obtain rfl : t = 68 := by omega
      have PO := Lib.hid (P4.out.ext EO.out)
      have QO := Lib.hid (Q4.out.ext EO.out)
      by_cases heq : a = b
      · have hq2 : ∀ W, (Op.equalIn 10000 23 (.agg (u8s a).toArray) (.agg (u8s b).toArray)).run Tryd.prog W = .ok true W := fun W => by rw [HQ.out W, decide_eq_true heq]
        clear heq
        go_wp2_with (go_loud (first
          | (refine wpList_load_want (by rfl) 23 (.tmp 2) rfl w.heap.size (by kernel_rfl) PO.out Tryd.underlying23 rfl (dg_info.trans (congrArg some HAL.out.symm)) ?_)
          | (refine wpList_load_want (by rfl) 23 (.tmp 3) rfl (w.heap.size + 1) (by kernel_rfl) QO.out Tryd.underlying23 rfl (dg_info.trans (congrArg some HBL.out.symm)) ?_)))
        go_ret
        exact ⟨rfl, E4.out.next EO.out⟩
      · have hq2 : ∀ W, (Op.equalIn 10000 23 (.agg (u8s a).toArray) (.agg (u8s b).toArray)).run Tryd.prog W = .ok false W := fun W => by rw [HQ.out W, decide_eq_false heq]
        obtain ⟨j, hj, hx⟩ := dig_less HA.out.l HB.out.l HA.out.b HB.out.b heq
        obtain ⟨k, hk, hy⟩ := dig_less HB.out.l HA.out.l HB.out.b HA.out.b (fun h => heq h.symm)
        have h1 := ltB_of hx 68 hj
        have h2 := ltB_of hy 68 hk
        rw [h1, h2]
        clear heq hx hy h1 h2
        rw [show ((68 : Nat) : Int) = 68 from rfl]
        go_wp2_with (go_loud (first
          | (refine wpList_load_want (by rfl) 23 (.tmp 2) rfl w.heap.size (by kernel_rfl) PO.out Tryd.underlying23 rfl (dg_info.trans (congrArg some HAL.out.symm)) ?_)
          | (refine wpList_load_want (by rfl) 23 (.tmp 3) rfl (w.heap.size + 1) (by kernel_rfl) QO.out Tryd.underlying23 rfl (dg_info.trans (congrArg some HBL.out.symm)) ?_)))
        go_ret
        exact ⟨rfl, E4.out.next EO.out⟩
end
namespace fnSignDigitsCross
theorem params_signDigitsCross : (Tryd.f5.params.toList.all fun t => Tryd.prog.readableRec t && decide (t < Tryd.prog.types.size)) = true := by kernel_rfl
theorem contract (H : Type) (enc : TypeId × Value → H) (W : World) (base : Nat) (args : Array Value) (ds gs : List (DataW H)) (before : List MemPlace)
    (hval : ∀ (j : Nat) t v, Tryd.f5.params[j]? = some t → args[j]? = some v → Value.okWide Tryd.prog W .any base t v)
    (hW : DataW.Whole enc Tryd.prog Tryd.f5.params.toList Rows.signDigitsCrossSpec.vars false W args.toList ds gs before) (hL : laidMetH Tryd.prog Rows.signDigitsCrossRow.laid W) :
    Calls Tryd.prog 5 args W fun e W' => ∃ v, e = .returned v ∧ Rows.signDigitsCrossSpec.post enc Tryd.prog Tryd.f5 false true false false W args v W' := by
  have hW' := hW
  obtain ⟨p, q, hA0, _, _, _, _⟩ := hW
  have hA : DataW.TrodAll enc Tryd.prog W 0 (fun _ => true) true Tryd.f5.params.toList args.toList ds p := hA0
  rw [Tryd.params5] at hA hval
  obtain ⟨v0, vs0, d0, ds0, p0, q0, hargs, e0d, e0p, h0, r0⟩ := trodAll_cons hA
  obtain ⟨v1, vs1, d1, ds1, p1, q1, e1, e1d, e1p, h1, r1⟩ := trodAll_cons r0
  obtain ⟨en1, en2, en3⟩ := trodAll_nil r1
  obtain rfl : args = #[v0, v1] := by cases args; simp_all
  clear hA hA0
  obtain ⟨d0d, rfl, hd0d⟩ := open_dig (hval 0 _ v0 rfl rfl) h0
  obtain ⟨d1d, rfl, hd1d⟩ := open_dig (hval 1 _ v1 rfl rfl) h1
  refine (walk_cross d0d d1d W hd0d hd1d (laid_k hL)).mono fun e W' ⟨he, hg⟩ => ⟨_, he, ?_⟩
  exact post_law hW' laidOut (params_ok params_signDigitsCross) 4 rfl Tryd.underlying4 rfl (fun ds h => by
    rw [Tryd.params5] at h
    match ds, h with
    | [_, _], _ => rfl) hg
noncomputable def laidWorld (os : Os) : World :=
  { World.holding Tryd.prog os ⟨#[], #[], []⟩ with heap := ((World.holding Tryd.prog os ⟨#[], #[], []⟩).heap.modify 0 fun
      | .cells _ t frozen => .cells (u32s kc).toArray t frozen
      | o => o) }
theorem laid_met (os : Os) : laidMet Tryd.prog Rows.signDigitsCrossRow.laid ((laidWorld os).forCall (fun _ _ => 0) ⟨#[], #[.agg #[.int .u8 0, .int .u8 0, .int .u8 0, .int .u8 0, .int .u8 0, .int .u8 0, .int .u8 0, .int .u8 0, .int .u8 0, .int .u8 0, .int .u8 0, .int .u8 0, .int .u8 0, .int .u8 0, .int .u8 0, .int .u8 0], .agg #[.int .u8 0, .int .u8 0, .int .u8 0, .int .u8 0, .int .u8 0, .int .u8 0, .int .u8 0, .int .u8 0, .int .u8 0, .int .u8 0, .int .u8 0, .int .u8 0, .int .u8 0, .int .u8 0, .int .u8 0, .int .u8 0]], []⟩).memory :=
  laidMet_of_run' 8 (by kernel_rfl) (by kernel_rfl)
theorem reads (os : Os) {H : Type} (enc : TypeId × Value → H) : ∃ places, DataW.whole enc Tryd.prog ((laidWorld os).forCall (fun _ _ => 0) ⟨#[], #[.agg #[.int .u8 0, .int .u8 0, .int .u8 0, .int .u8 0, .int .u8 0, .int .u8 0, .int .u8 0, .int .u8 0, .int .u8 0, .int .u8 0, .int .u8 0, .int .u8 0, .int .u8 0, .int .u8 0, .int .u8 0, .int .u8 0], .agg #[.int .u8 0, .int .u8 0, .int .u8 0, .int .u8 0, .int .u8 0, .int .u8 0, .int .u8 0, .int .u8 0, .int .u8 0, .int .u8 0, .int .u8 0, .int .u8 0, .int .u8 0, .int .u8 0, .int .u8 0, .int .u8 0]], []⟩).memory Tryd.f5.params.toList Rows.signDigitsCrossSpec.vars false (#[.agg #[.int .u8 0, .int .u8 0, .int .u8 0, .int .u8 0, .int .u8 0, .int .u8 0, .int .u8 0, .int .u8 0, .int .u8 0, .int .u8 0, .int .u8 0, .int .u8 0, .int .u8 0, .int .u8 0, .int .u8 0, .int .u8 0], .agg #[.int .u8 0, .int .u8 0, .int .u8 0, .int .u8 0, .int .u8 0, .int .u8 0, .int .u8 0, .int .u8 0, .int .u8 0, .int .u8 0, .int .u8 0, .int .u8 0, .int .u8 0, .int .u8 0, .int .u8 0, .int .u8 0]] : Array Value).toList 8 = some ([.agg [.lit (.int .u8 0), .lit (.int .u8 0), .lit (.int .u8 0), .lit (.int .u8 0), .lit (.int .u8 0), .lit (.int .u8 0), .lit (.int .u8 0), .lit (.int .u8 0), .lit (.int .u8 0), .lit (.int .u8 0), .lit (.int .u8 0), .lit (.int .u8 0), .lit (.int .u8 0), .lit (.int .u8 0), .lit (.int .u8 0), .lit (.int .u8 0)], .agg [.lit (.int .u8 0), .lit (.int .u8 0), .lit (.int .u8 0), .lit (.int .u8 0), .lit (.int .u8 0), .lit (.int .u8 0), .lit (.int .u8 0), .lit (.int .u8 0), .lit (.int .u8 0), .lit (.int .u8 0), .lit (.int .u8 0), .lit (.int .u8 0), .lit (.int .u8 0), .lit (.int .u8 0), .lit (.int .u8 0), .lit (.int .u8 0)]], [], places) :=
  ⟨[], by kernel_rfl⟩
set_option maxRecDepth 100000 in
theorem lifted (os : Os) (started : os.Started) (H : Type) (enc : TypeId × Value → H) (F : Stop.Interp) :
    ReturnsInHanded {} Tryd.checked os 5 .any ((OpenSpec.ofChange Rows.signDigitsCrossSpec).preRow enc Tryd.prog Tryd.f5 Rows.signDigitsCrossRow.domain false Rows.signDigitsCrossRow.laid) (((OpenSpec.ofChange Rows.signDigitsCrossSpec).at F).post enc Tryd.prog Tryd.f5 false true false false) := by
  obtain ⟨places, hx⟩ := reads os enc
  refine returnsInHanded_of_row (C := Tryd.checked) (s := OpenSpec.ofChange Rows.signDigitsCrossSpec) own started (by kernel_rfl) Tryd.func5
    (witness_row_at (enc := enc) (C := Tryd.checked) false (laidWorld os) #[.agg #[.int .u8 0, .int .u8 0, .int .u8 0, .int .u8 0, .int .u8 0, .int .u8 0, .int .u8 0, .int .u8 0, .int .u8 0, .int .u8 0, .int .u8 0, .int .u8 0, .int .u8 0, .int .u8 0, .int .u8 0, .int .u8 0], .agg #[.int .u8 0, .int .u8 0, .int .u8 0, .int .u8 0, .int .u8 0, .int .u8 0, .int .u8 0, .int .u8 0, .int .u8 0, .int .u8 0, .int .u8 0, .int .u8 0, .int .u8 0, .int .u8 0, .int .u8 0, .int .u8 0]] rfl (by kernel_rfl) (by kernel_rfl) (by kernel_rfl)
      (OpenSpec.preRow_of_cond 8 hx (by kernel_rfl) (fun k hk => by cases hk) (by kernel_rfl) (laid_met os))) ?_
  intro W base args ds gs before hval hW _ _ _ hL _ _
  exact contract H enc W base args ds gs before hval hW hL
theorem said : Rows.SignDigitsCrossSaid :=
  OpenClaim.holds_of_cond 5 Tryd.f5 rfl rfl rfl rfl rfl rfl rfl ⟨rfl, rfl, rfl, rfl, rfl⟩ rfl rfl rfl rfl rfl (by kernel_rfl) Tryd.func5 (by kernel_rfl)
    (of_decide_eq_true (by kernel_rfl)) (by unfold Func.isWrapper; first | (rw [if_pos (by decide +kernel)]; kernel_rfl) | (rw [if_neg (by decide +kernel)]; exact ⟨rfl, rfl⟩))
    (fun os started H enc _ F => by rw [OpenClaim.pre_eq_preRow]; exact lifted os started H enc F)
theorem plain (f : FuncId) (fn : Func) (hf : Tryd.pinned.checked.prog.funcNamed "splicery/splicerylaw03.SignDigitsCross" = some f) (hfn : Tryd.pinned.checked.prog.funcs[f]? = some fn) :
    false = Tryd.pinned.checked.prog.looks [] ∧ ∀ (j : Nat) t, fn.params[j]? = some t → Tryd.pinned.checked.prog.wantsStandIn t = false := by
  obtain rfl : f = 5 := Option.some.inj ((show Tryd.prog.funcNamed "splicery/splicerylaw03.SignDigitsCross" = some 5 by kernel_rfl).symm.trans hf) |>.symm
  obtain rfl : fn = Tryd.f5 := (Option.some.inj (Tryd.func5.symm.trans hfn)).symm
  refine ⟨by kernel_rfl, fun j t ht => ?_⟩
  rw [Tryd.params5] at ht
  have := Array.mem_of_getElem? ht
  simp only [List.mem_toArray, List.mem_cons, List.not_mem_nil, or_false] at this
  rcases this with rfl | rfl
  · exact (show Tryd.prog.wantsStandIn 23 = false by kernel_rfl)
  · exact (show Tryd.prog.wantsStandIn 23 = false by kernel_rfl)
theorem card : Rows.SignDigitsCrossCardSaid :=
  Claim7.holds_tied_plain_at .later [] _ _ _ _ said (fun _ h => by cases h) (by kernel_rfl) (fun _ h => by cases h) signDigitsCross_row_tie rfl ⟨rfl, rfl⟩ (by kernel_rfl) rfl plain (by kernel_rfl)
end fnSignDigitsCross
#print axioms fnSignDigitsCross.card
end Go.Proofs.YtkjckmdiolgmcaaDoor
