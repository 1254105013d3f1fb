/- ReviewRoundTrip: for all arguments the law answers true and leaves them as they were. No condition (the tables are laid). -/
import Derived.Test.YtjeecfjeooehhaaGreatDoorLawZ1
set_option linter.unusedSimpArgs false
set_option linter.unusedVariables false
namespace Go.Proofs.YtjeecfjeooehhaaGreatDoor
open Go.RowKit Go.WideShapes Go.ChangeShapes
namespace fnReviewRoundTrip
theorem params_reviewRoundTrip : (Tryz.f3.params.toList.all fun t => Tryz.prog.readableRec t && decide (t < Tryz.prog.types.size)) = true := by kernel_rfl
set_option maxRecDepth 100000 in
theorem contract (H : Type) (enc : TypeId × Value → H) (W : World) (base : Nat) (args : Array Value) (ds gs : List (DataW H)) (before : List MemPlace)
    (hval : ∀ (j : Nat) t v, Tryz.f3.params[j]? = some t → args[j]? = some v → Value.okWide Tryz.prog W .any base t v)
    (hW : DataW.Whole enc Tryz.prog Tryz.f3.params.toList Rows.reviewRoundTripSpec.vars false W args.toList ds gs before) (hL : laidMetH Tryz.prog Rows.reviewRoundTripRow.laid W) :
    Calls Tryz.prog 3 args W fun e W' => ∃ v, e = .returned v ∧ Rows.reviewRoundTripSpec.post enc Tryz.prog Tryz.f3 false true false false W args v W' := by
  have hW' := hW
  obtain ⟨p, q, hA0, _, _, _, _⟩ := hW
  have hA : DataW.TrodAll enc Tryz.prog W 0 (fun _ => true) true Tryz.f3.params.toList args.toList ds p := hA0
  rw [Tryz.params3] at hA hval
  obtain ⟨v0, vs0, d0, ds0, p0, q0, hargs, e0d, e0p, h0, r0⟩ := trodAll_cons hA
  obtain ⟨v1, vs1, d1, ds1, p1, q1, e1, e1d, e1p, h1, r1⟩ := trodAll_cons r0
  obtain ⟨v2, vs2, d2, ds2, p2, q2, e2, e2d, e2p, h2, r2⟩ := trodAll_cons r1
  obtain ⟨v3, vs3, d3, ds3, p3, q3, e3, e3d, e3p, h3, r3⟩ := trodAll_cons r2
  obtain ⟨en1, en2, en3⟩ := trodAll_nil r3
  obtain rfl : args = #[v0, v1, v2, v3] := by cases args; simp_all
  clear hA hA0
  obtain ⟨A, n, c, l, rfl, hR, hwf, hnc, hc⟩ := open_u8s Tryz.underlying22 Tryz.underlying3 cellsint (hval 0 _ v0 rfl rfl) h0
  obtain ⟨s, rfl, _, _, hs⟩ := ChangeMaps.open_string Tryz.underlying9 (hval 1 _ v1 rfl rfl) h1
  obtain ⟨B, m, d, more, rfl, hM, hby, hmd, hd⟩ := open_u8s Tryz.underlying23 Tryz.underlying5 cellsu8 (hval 2 _ v2 rfl rfl) h2
  obtain ⟨z, rfl, _, _, hz⟩ := open_int Tryz.underlying3 (hval 3 _ v3 rfl rfl) h3
  refine (walk_round l more A B n c m d s z W hR (fun x hx => wf_i64' (hwf x hx)) (by unfold maxLen at hs; exact hs) hM (byt_wf hby) hmd hd (wf_i64' hz)).mono fun e W' ⟨he, hg⟩ => ⟨_, he, ?_⟩
  exact post_law hW' laidOut (params_ok params_reviewRoundTrip) 4 rfl Tryz.underlying4 rfl (fun ds h => by
    rw [Tryz.params3] at h
    match ds, h with
    | [_, _, _, _], _ => rfl) hg
noncomputable def laidWorld (os : Os) : World :=
  { World.holding Tryz.prog os ⟨#[], #[], []⟩ with heap := (((World.holding Tryz.prog os ⟨#[], #[], []⟩).heap.modify 2 fun
      | .cells _ t frozen => .cells #[.int .i64 (-1099511627776), .int .i64 1099511627776, .bool false, .int .i64 0, .int .i64 0, .int .i64 0, .int .i64 0, .int .i64 1, .bool false, .int .i64 0, .int .i64 0, .int .i64 0, .int .i64 0, .int .i64 7, .bool true, .int .i64 0, .int .i64 0, .int .i64 0, .int .i64 0, .int .i64 0, .bool true, .int .i64 0, .int .i64 6, .int .i64 0, .int .i64 0, .int .i64 11, .bool false, .int .i64 1, .int .i64 2, .int .i64 0, .int .i64 0, .int .i64 0, .bool false, .int .i64 3, .int .i64 3, .int .i64 0, .int .i64 0, .int .i64 0, .bool false, .int .i64 2, .int .i64 2, .int .i64 1, .int .i64 0, .int .i64 0, .bool true, .int .i64 1, .int .i64 6, .int .i64 0, .int .i64 0, .int .i64 5, .bool true, .int .i64 1, .int .i64 1, .int .i64 0, .int .i64 0, .int .i64 5, .bool true, .int .i64 1, .int .i64 1, .int .i64 0, .int .i64 0, .int .i64 0, .bool true, .int .i64 2, .int .i64 7, .int .i64 0, .int .i64 0, .int .i64 0, .bool false, .int .i64 0, .int .i64 8, .int .i64 0, .int .i64 0, .int .i64 0, .bool false, .int .i64 3, .int .i64 3, .int .i64 2] t frozen
      | o => o).modify 0 fun
      | .cells _ t frozen => .cells #[.bool false, .bool false, .bool true, .bool false, .bool false, .bool false, .int .i64 0, .int .i64 0, .bool true, .bool true, .bool false, .bool false, .bool false, .bool false, .int .i64 1, .int .i64 0, .bool true, .bool false, .bool true, .bool false, .bool false, .bool false, .int .i64 5, .int .i64 0, .bool true, .bool false, .bool true, .bool true, .bool false, .bool false, .int .i64 1023, .int .i64 64, .bool false, .bool false, .bool false, .bool false, .bool true, .bool false, .int .i64 0, .int .i64 0, .bool true, .bool false, .bool true, .bool false, .bool false, .bool false, .int .i64 0, .int .i64 0, .bool true, .bool true, .bool false, .bool false, .bool false, .bool false, .int .i64 0, .int .i64 0, .bool true, .bool false, .bool false, .bool false, .bool false, .bool false, .int .i64 1023, .int .i64 0, .bool true, .bool false, .bool false, .bool false, .bool false, .bool false, .int .i64 1, .int .i64 0, .bool true, .bool false, .bool false, .bool true, .bool false, .bool false, .int .i64 0, .int .i64 64, .bool true, .bool false, .bool false, .bool true, .bool false, .bool false, .int .i64 0, .int .i64 0, .bool true, .bool true, .bool false, .bool false, .bool false, .bool false, .int .i64 0, .int .i64 0, .bool true, .bool false, .bool false, .bool false, .bool true, .bool false, .int .i64 0, .int .i64 0, .bool true, .bool false, .bool false, .bool false, .bool false, .bool true, .int .i64 0, .int .i64 0] t frozen
      | o => o) }
theorem laid_met (os : Os) : laidMet Tryz.prog Rows.reviewRoundTripRow.laid ((laidWorld os).forCall (fun _ _ => 0) ⟨#[], #[.slice none 0 0, .string ByteArray.empty, .slice none 0 0, .int .i64 0], []⟩).memory :=
  laidMet_of_run' 8 (by kernel_rfl) (by kernel_rfl)
theorem reads (os : Os) {H : Type} (enc : TypeId × Value → H) : ∃ places, DataW.whole enc Tryz.prog ((laidWorld os).forCall (fun _ _ => 0) ⟨#[], #[.slice none 0 0, .string ByteArray.empty, .slice none 0 0, .int .i64 0], []⟩).memory Tryz.f3.params.toList Rows.reviewRoundTripSpec.vars false (#[.slice none 0 0, .string ByteArray.empty, .slice none 0 0, .int .i64 0] : Array Value).toList 8 = some ([.nil, .lit (.string []), .nil, .lit (.int .i64 0)], [], places) :=
  ⟨[], by kernel_rfl⟩
set_option maxRecDepth 100000 in
theorem lifted (os : Os) (started : os.Started) (H : Type) (enc : TypeId × Value → H) (F : Stop.Interp) :
    ReturnsInHanded {} Tryz.checked os 3 .any ((OpenSpec.ofChange Rows.reviewRoundTripSpec).preRow enc Tryz.prog Tryz.f3 Rows.reviewRoundTripRow.domain false Rows.reviewRoundTripRow.laid) (((OpenSpec.ofChange Rows.reviewRoundTripSpec).at F).post enc Tryz.prog Tryz.f3 false true false false) := by
  obtain ⟨places, hx⟩ := reads os enc
  refine returnsInHanded_of_row (C := Tryz.checked) (s := OpenSpec.ofChange Rows.reviewRoundTripSpec) own started (by kernel_rfl) Tryz.func3
    (witness_row_at (enc := enc) (C := Tryz.checked) false (laidWorld os) #[.slice none 0 0, .string ByteArray.empty, .slice none 0 0, .int .i64 0] rfl (by kernel_rfl) (by kernel_rfl) (by kernel_rfl)
      (OpenSpec.preRow_of_cond 8 hx (by kernel_rfl) (fun k hk => by cases hk) (by kernel_rfl) (laid_met os))) ?_
  intro W base args ds gs before hval hW _ _ _ hL _ _
  exact contract H enc W base args ds gs before hval hW hL
theorem said : Rows.ReviewRoundTripSaid :=
  OpenClaim.holds_of_cond 3 Tryz.f3 rfl rfl rfl rfl rfl rfl rfl ⟨rfl, rfl, rfl, rfl, rfl⟩ rfl rfl rfl rfl rfl (by kernel_rfl) Tryz.func3 (by kernel_rfl)
    (of_decide_eq_true (by kernel_rfl)) (by unfold Func.isWrapper; first | (rw [if_pos (by decide +kernel)]; kernel_rfl) | (rw [if_neg (by decide +kernel)]; exact ⟨rfl, rfl⟩))
    (fun os started H enc _ F => by rw [OpenClaim.pre_eq_preRow]; exact lifted os started H enc F)
theorem plain (f : FuncId) (fn : Func) (hf : Tryz.pinned.checked.prog.funcNamed "splicery/splicerylaw37.ReviewRoundTrip" = some f) (hfn : Tryz.pinned.checked.prog.funcs[f]? = some fn) :
    false = Tryz.pinned.checked.prog.looks [] ∧ ∀ (j : Nat) t, fn.params[j]? = some t → Tryz.pinned.checked.prog.wantsStandIn t = false := by
  obtain rfl : f = 3 := Option.some.inj ((show Tryz.prog.funcNamed "splicery/splicerylaw37.ReviewRoundTrip" = some 3 by kernel_rfl).symm.trans hf) |>.symm
  obtain rfl : fn = Tryz.f3 := (Option.some.inj (Tryz.func3.symm.trans hfn)).symm
  refine ⟨by kernel_rfl, fun j t ht => ?_⟩
  rw [Tryz.params3] at ht
  have := Array.mem_of_getElem? ht
  simp only [List.mem_toArray, List.mem_cons, List.not_mem_nil, or_false] at this
  rcases this with rfl | rfl | rfl | rfl
  · exact (show Tryz.prog.wantsStandIn 22 = false by kernel_rfl)
  · exact (show Tryz.prog.wantsStandIn 9 = false by kernel_rfl)
  · exact (show Tryz.prog.wantsStandIn 23 = false by kernel_rfl)
  · exact (show Tryz.prog.wantsStandIn 3 = false by kernel_rfl)
theorem card : Rows.ReviewRoundTripCardSaid :=
  Claim7.holds_tied_plain_at .later [] _ _ _ _ said (fun _ h => by cases h) (by kernel_rfl) (fun _ h => by cases h) reviewRoundTrip_row_tie rfl ⟨rfl, rfl⟩ (by kernel_rfl) rfl plain (by kernel_rfl)
end fnReviewRoundTrip
end Go.Proofs.YtjeecfjeooehhaaGreatDoor
