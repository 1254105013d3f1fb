/- WireOrder: for every two integers the law answers true. Conditions: none beyond the row's own. -/
import Derived.Test.YtadepaaemjnfgaaRtA
import Derived.Test.YtadepaaemjnfgaaOrdSpec
import Derived.Test.YtadepaaemjnfgaaQuiet
namespace Go.Proofs.Ytadepaaemjnfgaa
open Go.RowKit Go.WideShapes Go.ChangeShapes
theorem run_cv {w : World} {B : Nat} {b o n : Nat} {l : List Int} (h : Rd w B (some ⟨b, o, none⟩) n (u8s l)) (c : Nat) : (convert 28 9 (.slice (some ⟨b, o, none⟩) n c)).run Try.prog w = .ok (.string (strOf l)) w :=
  run_toStr (P := Try.prog) Try.underlying28 Try.underlying5 Try.underlying9 h c (fun _ => Or.inr ⟨_, rfl⟩)
set_option maxHeartbeats 8000000 in
set_option maxRecDepth 100000 in
theorem walk_ord (x y : Int) (h0 : -9223372036854775808 ≤ x) (h1 : x ≤ 9223372036854775807) (h2 : -9223372036854775808 ≤ y) (h3 : y ≤ 9223372036854775807) (w : World) :
    Calls Try.prog 5 #[.int .i64 x, .int .i64 y] w fun e w' => e = .returned (.bool true) ∧ Below w.heap.size w w' := by
  obtain ⟨q, hq⟩ : ∃ q, q = encInt x := ⟨_, rfl⟩
  obtain ⟨k, hk⟩ : ∃ k, k = q.length := ⟨_, rfl⟩
  obtain ⟨r, hr⟩ : ∃ q, q = encInt y := ⟨_, rfl⟩
  obtain ⟨j, hj⟩ : ∃ k, k = r.length := ⟨_, rfl⟩
  have hqe := Lib.hid hq.symm
  have hke := Lib.hid hk.symm
  have hre := Lib.hid hr.symm
  have hje := Lib.hid hj.symm
  have bq : Byt q := by rw [hq]; exact encInt_byt x h0 h1
  have br : Byt r := by rw [hr]; exact encInt_byt y h2 h3
  have hlt : Op.bytesLess (strOf q).toList (strOf r).toList = decide (x < y) := by rw [less_str q r bq br, hq, hr, lex_enc x y h0 h1 h2 h3]
  have heq : ((strOf q).toList == (strOf r).toList) = (x == y) := by
    rw [show (x == y) = decide (x = y) from rfl, eqs_str q r bq br, hq, hr, decide_eq_decide]
    exact ⟨encInt_inj h0 h1 h2 h3, fun h => by rw [h]⟩
  obtain ⟨m0, hm0⟩ : ∃ m0, m0 = min q.length r.length := ⟨_, rfl⟩
  have hcut : (((strOf q).extract 0 m0).toList == ((strOf r).extract 0 m0).toList) = (x == y) := by
    rw [show (x == y) = decide (x = y) from rfl, cut_str q bq, cut_str r br, eqs_str _ _ (bq.take _) (br.take _), hq, hr, prefix_enc x y h0 h1 h2 h3 m0 (by rw [hm0, hq, hr])]
  have hmq : m0 ≤ (strOf q).size := by rw [strOf_size]; omega
  have hmr : m0 ≤ (strOf r).size := by rw [strOf_size]; omega
  have hmi : (if (strOf r).size < (strOf q).size then ((strOf r).size : Int) else ((strOf q).size : Int)) = (m0 : Int) := by
    rw [strOf_size, strOf_size, hm0]; split <;> omega
  have HMI := Lib.hid hmi
  have HLT := Lib.hid hlt; have HEQ := Lib.hid heq; have HCUT := Lib.hid hcut; have HMQ := Lib.hid hmq; have HMR := Lib.hid hmr
  clear hq hk hr hj hlt heq hcut hmq hmr hmi hm0
  have E0 : Hid (Ext w w.drew) := Lib.hid (Ext.refl w).drew
  go_enter Try.func5, Try.ntmps5
  go_wp2
  go_region_with (first
    | (go_at_call 14; (with_reducible refine (intR x w.drew h0 h1 q k hqe.out hke.out).mono ?_); rintro e w1 ⟨⟨b1, o1, c1, rfl, ⟨hkc1, hcm1⟩, hR⟩, hB⟩; have R1 := Lib.hid hR; have E1 : Hid (Ext w w1) := Lib.hid (E0.out.next hB); have cv1 := run_cv hR c1; clear hB hR hcm1)
    | (go_at_call 14; (with_reducible refine (intR y w1 h2 h3 r j hre.out hje.out).mono ?_); rintro e w2 ⟨⟨b2, o2, c2, rfl, ⟨hkc2, hcm2⟩, hR⟩, hB⟩; have R2 := Lib.hid hR; have E2 : Hid (Ext w w2) := Lib.hid (E1.out.next hB); have cv2 := run_cv hR c2; have cv3 := run_cv (R1.out.ext' hB) c1; clear hB hR hcm2))
  all_goals go_upto_region 3 with fail
  all_goals
    rw [HMI.out]
    have hlt := HLT.out; have heq := HEQ.out; have hcut := HCUT.out; have hmq := HMQ.out; have hmr := HMR.out
    have E2d := Lib.hid E2.out
    clear E0 E1 E2 R1 R2 cv1 cv2 cv3
    refine wp_region_ext (by kernel_rfl) (by kernel_rfl) ?_
    go_big_quiet_want
    go_big_quiet_op
    apply Exists.intro
    refine ⟨fun X => ?_, ?_⟩
    · go_at_call 12
      exact ext_call (wsanity_any _) (fun e w' h => ⟨h.1, X.ext.next h.2⟩)
    go_big_quiet_on
    repeat (first | go_big_quiet_skip | (go_big_quiet_want; go_big_quiet_op; go_big_quiet_on))
    refine wpQuiet_nil ?_
    rintro _ ⟨X, rfl⟩
    have ES := Lib.hid (E2d.out.next X.ext)
    generalize X.at_ = ws at *
    go_wp2_with fail
    go_ret
    exact ⟨rfl, ES.out⟩
namespace fnWireOrder
theorem params_wireOrder : (Try.f5.params.toList.all fun t => Try.prog.readableRec t && decide (t < Try.prog.types.size)) = true := by kernel_rfl
theorem contract (H : Type) (enc : TypeId × Value → H) (W : World) (base : Nat) (args : Array Value) (ds gs : List (DataW H)) (before : List MemPlace)
    (hval : ∀ (j : Nat) t v, Try.f5.params[j]? = some t → args[j]? = some v → Value.okWide Try.prog W .any base t v)
    (hW : DataW.Whole enc Try.prog Try.f5.params.toList Rows.wireOrderSpec.vars false W args.toList ds gs before) :
    Calls Try.prog 5 args W fun e W' => ∃ v, e = .returned v ∧ Rows.wireOrderSpec.post enc Try.prog Try.f5 false true false false W args v W' := by
  have hW' := hW
  obtain ⟨p, q, hA0, _, _, _, _⟩ := hW
  have hA : DataW.TrodAll enc Try.prog W 0 (fun _ => true) true Try.f5.params.toList args.toList ds p := hA0
  rw [Try.params5] at hA hval
  obtain ⟨v0, vs0, d0, ds0, p0, q0, hargs, e0d, e0p, h0, r0⟩ := trodAll_cons hA
  obtain ⟨v1, vs1, d1, ds1, p1, q1, e1, e1d, e1p, h1, r1⟩ := trodAll_cons r0
  obtain ⟨en1, en2, en3⟩ := trodAll_nil r1
  obtain rfl : args = #[v0, v1] := by cases args; simp_all
  clear hA hA0
  obtain ⟨x, rfl, _, _, hx⟩ := open_int Try.underlying3 (hval 0 _ v0 rfl rfl) h0
  obtain ⟨hx0, hx1⟩ := wf_i64 hx
  obtain ⟨y, rfl, _, _, hy⟩ := open_int Try.underlying3 (hval 1 _ v1 rfl rfl) h1
  obtain ⟨hy0, hy1⟩ := wf_i64 hy
  refine (walk_ord x y hx0 hx1 hy0 hy1 W).mono fun e W' ⟨he, hg⟩ => ⟨_, he, ?_⟩
  exact post_law hW' laidOut (params_ok params_wireOrder) 4 rfl Try.underlying4 rfl (fun ds h => by
    rw [Try.params5] at h
    match ds, h with
    | [_, _], _ => rfl) hg
noncomputable def laidWorld (os : Os) : World := World.holding Try.prog os ⟨#[], #[], []⟩
theorem reads (os : Os) {H : Type} (enc : TypeId × Value → H) : ∃ places, DataW.whole enc Try.prog ((laidWorld os).forCall (fun _ _ => 0) ⟨#[], #[.int .i64 0, .int .i64 0], []⟩).memory Try.f5.params.toList Rows.wireOrderSpec.vars false (#[.int .i64 0, .int .i64 0] : Array Value).toList 8 = some ([.lit (.int .i64 0), .lit (.int .i64 0)], [], places) :=
  ⟨[], by kernel_rfl⟩
set_option maxRecDepth 100000 in
theorem lifted (os : Os) (started : os.Started) (H : Type) (enc : TypeId × Value → H) (F : Stop.Interp) :
    ReturnsInHanded {} Try.checked os 5 .any ((OpenSpec.ofChange Rows.wireOrderSpec).preRow enc Try.prog Try.f5 Rows.wireOrderRow.domain false Rows.wireOrderRow.laid) (((OpenSpec.ofChange Rows.wireOrderSpec).at F).post enc Try.prog Try.f5 false true false false) := by
  obtain ⟨places, hx⟩ := reads os enc
  refine returnsInHanded_of_row (C := Try.checked) (s := OpenSpec.ofChange Rows.wireOrderSpec) own started (by kernel_rfl) Try.func5
    (witness_row_at (enc := enc) (C := Try.checked) false (laidWorld os) #[.int .i64 0, .int .i64 0] rfl (by kernel_rfl) (by kernel_rfl) (by kernel_rfl)
      (OpenSpec.preRow_of_cond 8 hx (by kernel_rfl) (fun k hk => by cases hk) (by kernel_rfl) (laidMet_nil _ _))) ?_
  intro W base args ds gs before hval hW _ _ _ hL _ _
  exact contract H enc W base args ds gs before hval hW
theorem said : Rows.WireOrderSaid :=
  OpenClaim.holds_of_cond 5 Try.f5 rfl rfl rfl rfl rfl rfl rfl ⟨rfl, rfl, rfl, rfl, rfl⟩ rfl rfl rfl rfl rfl (by kernel_rfl) Try.func5 (by kernel_rfl)
    (of_decide_eq_true (by kernel_rfl)) (by unfold Func.isWrapper; first | (rw [if_pos (by decide +kernel)]; kernel_rfl) | (rw [if_neg (by decide +kernel)]; exact ⟨rfl, rfl⟩))
    (fun os started H enc _ F => by rw [OpenClaim.pre_eq_preRow]; exact lifted os started H enc F)
end fnWireOrder
#print axioms fnWireOrder.said
end Go.Proofs.Ytadepaaemjnfgaa
