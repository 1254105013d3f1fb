/- SignDigitsMatchSpec: for every digest the law answers true and leaves its argument as it was. Conditions: the table of constants is laid. -/
import Derived.Test.YtkjckmdiolgmcaaDoorLawSg
import Derived.Test.YtkjckmdiolgmcaaDoorSgK
import Derived.Test.YtkjckmdiolgmcaaDoorSgR
import Derived.Laws.StructEq
set_option linter.unusedSimpArgs false
set_option linter.unusedVariables false
namespace Go.Proofs.YtkjckmdiolgmcaaDoor
open Go.RowKit Go.WideShapes Go.ChangeShapes
section
attribute [local go_sem ↓] wp_at_zero wp_at_succ
theorem own_ext {w w' : World} {b : Nat} {e : TypeId} {size : Nat} {v : Value} {n : Nat} {xs : List Value} (h : Ext w w') (ho : w.ownsRow b e size v n xs) : w'.ownsRow b e size v n xs := (Kept.of_ext (F := fun _ => False) h).own ho (fun _ _ h => h)
set_option maxHeartbeats 4000000 in
set_option maxRecDepth 100000 in
theorem walk_dm (d : List Int) (w : World) (hd : Dig d) (hK : KTab w) :
    Calls Tryd.prog 3 #[.agg (u8s d).toArray] w fun e w' => e = .returned (.bool true) ∧ Ext w w' := by
  have HK := Lib.hid hK; have HD := Lib.hid hd
  have HDL : Hid ((u8s d).length = 16) := Lib.hid (by rw [u8s_len]; exact hd.l)
  have HKW : Hid (∀ W, Ext w W → KTab W) := Lib.hid (fun W h => HK.out.below h)
  clear hK hd
  go_enter Tryd.func3, Tryd.ntmps3
  go_upto_region 1 with fail
  obtain ⟨w1, hw1⟩ : ∃ x, x = w.alloc (.cells (u8s d).toArray 23) := ⟨_, rfl⟩
  change Code.wp _ _ _ _ (w.alloc (.cells (u8s d).toArray 23))
  rw [← hw1]
  have E1 : Hid (Ext w w1) := Lib.hid (by rw [hw1]; exact (Ext.refl w).alloc _)
  have B1 : Hid (Blk w1 w.heap.size 23 (u8s d)) := Lib.hid (by rw [hw1]; exact Blk.fresh' _ _ _ _ _ rfl rfl)
  clear hw1
  go_upto_region 4 with (go_loud (first
    | (go_at_call 6; (with_reducible refine (sanity_any w1 (HKW.out w1 E1.out)).mono ?_); rintro e w2 ⟨rfl, hE2⟩; have E2 : Hid (Ext w w2) := Lib.hid (E1.out.next hE2); have B2 := Lib.hid (B1.out.ext hE2); clear hE2)
    | (refine wpList_load_blk rfl 23 (.tmp 1) rfl w.heap.size (by kernel_rfl) B3.out Tryd.underlying23 rfl (dg_info.trans (congrArg some HDL.out.symm)) ?_)
    | (refine wpList_load_blk rfl 23 (.tmp 1) rfl w.heap.size (by kernel_rfl) B2.out Tryd.underlying23 rfl (dg_info.trans (congrArg some HDL.out.symm)) ?_)
    | (go_at_call 7; (with_reducible refine (digits_any d w2 HD.out.l HD.out.b).mono ?_); rintro e w3 ⟨gd, rfl, hgd, hbd, hE3⟩; have E3 : Hid (Ext w w3) := Lib.hid (E2.out.next hE3); have B3 := Lib.hid (B2.out.ext hE3); have BD := Lib.hid hbd; clear hgd hbd hE3)
    | (go_at_call 8; (with_reducible refine (rdigits_any d w3 HD.out.l HD.out.b).mono ?_); rintro e w4 ⟨A4, c4, rfl, ho4, hE4⟩; have E4 : Hid (Ext w w4) := Lib.hid (E3.out.next hE4); have BD4 := Lib.hid (BD.out.ext hE4); have HO4 := Lib.hid ho4; clear ho4 hE4)))
  obtain ⟨gr, rfl⟩ : ∃ g, A4 = some ⟨g, 0, none⟩ := by
    rcases HO4.out.2 with ⟨_, hz⟩ | ⟨g, cap, cur, hv, _⟩
    · exact absurd hz (by decide)
    · injection hv with hv
      exact ⟨g, hv⟩
  have HR4 : Hid (∀ W, Ext w4 W → ∀ t, t < 68 → W.cell? ⟨gr, t, none⟩ = (i64s (digL d))[t]?) := Lib.hid (fun W hW t ht => by
    exact (own_ext hW HO4.out).cellAt t ht)
  clear E1 E2 E3 B1 B2 B3 BD
  go_wp2_with fail
  go_loopw [6] (fun x wr => ∃ t : Nat, t ≤ 68 ∧ x = .int .i64 (t : Int) ∧ Ext w4 wr) (fun x _ => 68 - (intOf x).toNat)
  case atStart => exact ⟨0, by omega, rfl, Ext.refl w4⟩
  case round =>
    obtain ⟨t, ht, rfl, hE⟩ := hrel
    have EO := Lib.hid hE
    clear hE
    obtain ⟨wo, rfl⟩ : ∃ x : World, x = wr := ⟨_, rfl⟩
    by_cases hlt : t < 68
    · obtain ⟨v0, v1⟩ := digL_bd d hlt
      have hc : (i64s (digL d))[t]? = some (.int .i64 ((digL d).getD t 0)) := by
        have hl := digL_len d
        unfold i64s
        rw [List.getElem?_map, List.getElem?_eq_getElem (by omega), List.getD_eq_getElem?_getD, List.getElem?_eq_getElem (by omega)]
        rfl
      have c0 := ((BD4.out.ext EO.out).cell t).trans hc
      have c1 := (HR4.out wo EO.out t hlt).trans hc
      clear hc
      generalize (digL d).getD t 0 = v at *
      have hg0 : decide (v < 0) = false := decide_eq_false (by omega)
      have hg1 : decide (3 < v) = false := decide_eq_false (by omega)
      go_upto_region 9 with fail
      go_wp2_with fail
      go_quiet (fail)
      go_wp2_with fail
      exact ⟨⟨t + 1, by omega, by go_num, EO.out.drewN _⟩, by simp [intOf]; omega⟩
    · obtain rfl : t = 68 := by omega
      go_wp2_with fail
      go_ret
      exact ⟨rfl, E4.out.next EO.out⟩
end
namespace fnSignDigitsMatchSpec
theorem params_signDigitsMatchSpec : (Tryd.f3.params.toList.all fun t => Tryd.prog.readableRec t && decide (t < Tryd.prog.types.size)) = true := by kernel_rfl
theorem contract (H : Type) (enc : TypeId × Value → H) (W : World) (base : Nat) (args : Array Value) (ds gs : List (DataW H)) (before : List MemPlace)
    (hval : ∀ (j : Nat) t v, Tryd.f3.params[j]? = some t → args[j]? = some v → Value.okWide Tryd.prog W .any base t v)
    (hW : DataW.Whole enc Tryd.prog Tryd.f3.params.toList Rows.signDigitsMatchSpecSpec.vars false W args.toList ds gs before) (hL : laidMetH Tryd.prog Rows.signDigitsMatchSpecRow.laid W) :
    Calls Tryd.prog 3 args W fun e W' => ∃ v, e = .returned v ∧ Rows.signDigitsMatchSpecSpec.post enc Tryd.prog Tryd.f3 false true false false W args v W' := by
  have hW' := hW
  obtain ⟨p, q, hA0, _, _, _, _⟩ := hW
  have hA : DataW.TrodAll enc Tryd.prog W 0 (fun _ => true) true Tryd.f3.params.toList args.toList ds p := hA0
  rw [Tryd.params3] at hA hval
  obtain ⟨v0, vs0, d0, ds0, p0, q0, hargs, e0d, e0p, h0, r0⟩ := trodAll_cons hA
  obtain ⟨en1, en2, en3⟩ := trodAll_nil r0
  obtain rfl : args = #[v0] := by cases args; simp_all
  clear hA hA0
  obtain ⟨d0d, rfl, hd0d⟩ := open_dig (hval 0 _ v0 rfl rfl) h0
  refine (walk_dm d0d W hd0d (laid_k hL)).mono fun e W' ⟨he, hg⟩ => ⟨_, he, ?_⟩
  exact post_law hW' laidOut (params_ok params_signDigitsMatchSpec) 4 rfl Tryd.underlying4 rfl (fun ds h => by
    rw [Tryd.params3] at h
    match ds, h with
    | [_], _ => rfl) hg
noncomputable def laidWorld (os : Os) : World :=
  { World.holding Tryd.prog os ⟨#[], #[], []⟩ with heap := ((World.holding Tryd.prog os ⟨#[], #[], []⟩).heap.modify 0 fun
      | .cells _ t frozen => .cells (u32s kc).toArray t frozen
      | o => o) }
theorem laid_met (os : Os) : laidMet Tryd.prog Rows.signDigitsMatchSpecRow.laid ((laidWorld os).forCall (fun _ _ => 0) ⟨#[], #[.agg #[.int .u8 0, .int .u8 0, .int .u8 0, .int .u8 0, .int .u8 0, .int .u8 0, .int .u8 0, .int .u8 0, .int .u8 0, .int .u8 0, .int .u8 0, .int .u8 0, .int .u8 0, .int .u8 0, .int .u8 0, .int .u8 0]], []⟩).memory :=
  laidMet_of_run' 8 (by kernel_rfl) (by kernel_rfl)
theorem reads (os : Os) {H : Type} (enc : TypeId × Value → H) : ∃ places, DataW.whole enc Tryd.prog ((laidWorld os).forCall (fun _ _ => 0) ⟨#[], #[.agg #[.int .u8 0, .int .u8 0, .int .u8 0, .int .u8 0, .int .u8 0, .int .u8 0, .int .u8 0, .int .u8 0, .int .u8 0, .int .u8 0, .int .u8 0, .int .u8 0, .int .u8 0, .int .u8 0, .int .u8 0, .int .u8 0]], []⟩).memory Tryd.f3.params.toList Rows.signDigitsMatchSpecSpec.vars false (#[.agg #[.int .u8 0, .int .u8 0, .int .u8 0, .int .u8 0, .int .u8 0, .int .u8 0, .int .u8 0, .int .u8 0, .int .u8 0, .int .u8 0, .int .u8 0, .int .u8 0, .int .u8 0, .int .u8 0, .int .u8 0, .int .u8 0]] : Array Value).toList 8 = some ([.agg [.lit (.int .u8 0), .lit (.int .u8 0), .lit (.int .u8 0), .lit (.int .u8 0), .lit (.int .u8 0), .lit (.int .u8 0), .lit (.int .u8 0), .lit (.int .u8 0), .lit (.int .u8 0), .lit (.int .u8 0), .lit (.int .u8 0), .lit (.int .u8 0), .lit (.int .u8 0), .lit (.int .u8 0), .lit (.int .u8 0), .lit (.int .u8 0)]], [], places) :=
  ⟨[], by kernel_rfl⟩
set_option maxRecDepth 100000 in
theorem lifted (os : Os) (started : os.Started) (H : Type) (enc : TypeId × Value → H) (F : Stop.Interp) :
    ReturnsInHanded {} Tryd.checked os 3 .any ((OpenSpec.ofChange Rows.signDigitsMatchSpecSpec).preRow enc Tryd.prog Tryd.f3 Rows.signDigitsMatchSpecRow.domain false Rows.signDigitsMatchSpecRow.laid) (((OpenSpec.ofChange Rows.signDigitsMatchSpecSpec).at F).post enc Tryd.prog Tryd.f3 false true false false) := by
  obtain ⟨places, hx⟩ := reads os enc
  refine returnsInHanded_of_row (C := Tryd.checked) (s := OpenSpec.ofChange Rows.signDigitsMatchSpecSpec) own started (by kernel_rfl) Tryd.func3
    (witness_row_at (enc := enc) (C := Tryd.checked) false (laidWorld os) #[.agg #[.int .u8 0, .int .u8 0, .int .u8 0, .int .u8 0, .int .u8 0, .int .u8 0, .int .u8 0, .int .u8 0, .int .u8 0, .int .u8 0, .int .u8 0, .int .u8 0, .int .u8 0, .int .u8 0, .int .u8 0, .int .u8 0]] rfl (by kernel_rfl) (by kernel_rfl) (by kernel_rfl)
      (OpenSpec.preRow_of_cond 8 hx (by kernel_rfl) (fun k hk => by cases hk) (by kernel_rfl) (laid_met os))) ?_
  intro W base args ds gs before hval hW _ _ _ hL _ _
  exact contract H enc W base args ds gs before hval hW hL
theorem said : Rows.SignDigitsMatchSpecSaid :=
  OpenClaim.holds_of_cond 3 Tryd.f3 rfl rfl rfl rfl rfl rfl rfl ⟨rfl, rfl, rfl, rfl, rfl⟩ rfl rfl rfl rfl rfl (by kernel_rfl) Tryd.func3 (by kernel_rfl)
    (of_decide_eq_true (by kernel_rfl)) (by unfold Func.isWrapper; first | (rw [if_pos (by decide +kernel)]; kernel_rfl) | (rw [if_neg (by decide +kernel)]; exact ⟨rfl, rfl⟩))
    (fun os started H enc _ F => by rw [OpenClaim.pre_eq_preRow]; exact lifted os started H enc F)
theorem plain (f : FuncId) (fn : Func) (hf : Tryd.pinned.checked.prog.funcNamed "splicery/splicerylaw03.SignDigitsMatchSpec" = some f) (hfn : Tryd.pinned.checked.prog.funcs[f]? = some fn) :
    false = Tryd.pinned.checked.prog.looks [] ∧ ∀ (j : Nat) t, fn.params[j]? = some t → Tryd.pinned.checked.prog.wantsStandIn t = false := by
  obtain rfl : f = 3 := Option.some.inj ((show Tryd.prog.funcNamed "splicery/splicerylaw03.SignDigitsMatchSpec" = some 3 by kernel_rfl).symm.trans hf) |>.symm
  obtain rfl : fn = Tryd.f3 := (Option.some.inj (Tryd.func3.symm.trans hfn)).symm
  refine ⟨by kernel_rfl, fun j t ht => ?_⟩
  rw [Tryd.params3] at ht
  have := Array.mem_of_getElem? ht
  simp only [List.mem_toArray, List.mem_cons, List.not_mem_nil, or_false] at this
  subst this
  exact (show Tryd.prog.wantsStandIn 23 = false by kernel_rfl)
theorem card : Rows.SignDigitsMatchSpecCardSaid :=
  Claim7.holds_tied_plain_at .later [] _ _ _ _ said (fun _ h => by cases h) (by kernel_rfl) (fun _ h => by cases h) signDigitsMatchSpec_row_tie rfl ⟨rfl, rfl⟩ (by kernel_rfl) rfl plain (by kernel_rfl)
end fnSignDigitsMatchSpec
#print axioms fnSignDigitsMatchSpec.card
end Go.Proofs.YtkjckmdiolgmcaaDoor
