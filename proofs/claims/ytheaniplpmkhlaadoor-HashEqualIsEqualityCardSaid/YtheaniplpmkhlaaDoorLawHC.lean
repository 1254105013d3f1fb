/- HashEqualIsEquality: for all strings the law answers true and leaves its arguments as they were. Conditions: none beyond the row's own. -/
import Derived.Test.YtheaniplpmkhlaaDoorLawH
namespace Go.Proofs.YtheaniplpmkhlaaDoor
open Go.RowKit Go.WideShapes Go.ChangeShapes
theorem append_none (a : ByteArray) : a ++ (⟨#[]⟩ : ByteArray) = a := by
  apply bys_inj
  rw [bys_append]
  simp [bys]
set_option maxHeartbeats 4000000 in
set_option maxRecDepth 100000 in
theorem walk_eqlaw (a b : ByteArray) (w : World) (ha0 : a.size ≤ 9223372036854775807) (hb0 : b.size ≤ 9223372036854775807) (hK : KTab w) :
    Calls Tryd.prog 9 #[.string a, .string b] w fun e w' => e = .returned (.bool true) ∧ Below w.heap.size w w' := by
  have HK := Lib.hid hK
  clear hK
  by_cases ha : a.size ≤ 400
  · by_cases hb : b.size ≤ 400
    · have hself : decide (a = a ++ (⟨#[]⟩ : ByteArray)) = true := decide_eq_true (append_none a).symm
      have HSELF := Lib.hid hself
      have hss : (a ++ (⟨#[]⟩ : ByteArray)).size ≤ 9223372036854775807 := by rw [append_none]; exact ha0
      have HSS := Lib.hid hss
      have HAE := Lib.hid (append_none a)
      clear hself hss
      by_cases hab : a = b
      · subst hab
        have HD : Hid (decide (a = a) = true) := Lib.hid (decide_eq_true rfl)
        go_enter Tryd.func9, Tryd.ntmps9
        go_wp2_with (first
          | (go_at_call 10; (with_reducible refine (sanity_any w HK.out).mono ?_); rintro e w1 ⟨rfl, hB1⟩; have HB1 : Hid (Ext w w1) := Lib.hid hB1; clear hB1)
          | (go_at_call 24; go_loud ((refine (equal_any a _ _ ha0 (by first | exact ha0 | exact HSS.out)).mono ?_); rintro e w2 ⟨rfl, hd⟩; (first | rw [decide_eq_true (rfl : a = a)] | rw [HSELF.out]); have HB1 : Hid (Ext w w2) := Lib.hid (HB1.out.next (hd.below _)); clear hd)))
        go_ret
        exact ⟨rfl, HB1.out⟩
      · have HD1 : Hid (decide (a = b) = false) := Lib.hid (decide_eq_false hab)
        have HD2 : Hid (decide (b = a) = false) := Lib.hid (decide_eq_false (fun h => hab h.symm))
        have hbq : (a.toList == b.toList) = false := by
          rw [Bool.eq_false_iff]
          intro he
          have h2 := eq_of_beq he
          rw [ByteArray.toList_eq, ByteArray.toList_eq] at h2
          refine hab ?_
          obtain ⟨⟨x⟩⟩ := a
          obtain ⟨⟨y⟩⟩ := b
          simp only at h2
          rw [h2]
        go_enter Tryd.func9, Tryd.ntmps9
        go_wp2_with (first
          | (go_at_call 10; (with_reducible refine (sanity_any w HK.out).mono ?_); rintro e w1 ⟨rfl, hB1⟩; have HB1 : Hid (Ext w w1) := Lib.hid hB1; clear hB1)
          | (go_at_call 24; (with_reducible refine (equal_any a b w1 ha0 hb0).mono ?_); rintro e w2 ⟨rfl, hd⟩; rw [HD1.out]; have HB2 : Hid (Ext w w2) := Lib.hid (HB1.out.next (hd.below _)); clear hd)
          | (go_at_call 24; (with_reducible refine (equal_any b a w2 hb0 ha0).mono ?_); rintro e w3 ⟨rfl, hd⟩; rw [HD2.out]; have HB3 : Hid (Ext w w3) := Lib.hid (HB2.out.next (hd.below _)); clear hd)
          | (go_at_call 24; (refine (equal_any a _ w3 ha0 (by first | exact HSS.out | exact ha0)).mono ?_); rintro e w4 ⟨rfl, hd⟩; (first | rw [HSELF.out] | rw [decide_eq_true (rfl : a = a)]); have HB4 : Hid (Ext w w4) := Lib.hid (HB3.out.next (hd.below _)); clear hd))
        go_ret
        exact ⟨rfl, HB4.out⟩
    · go_enter Tryd.func9, Tryd.ntmps9
      go_wp2_with (go_at_call 10; (with_reducible refine (sanity_any w HK.out).mono ?_); rintro e w1 ⟨rfl, hB1⟩; have HB1 : Hid (Ext w w1) := Lib.hid hB1; clear hB1)
      go_ret
      exact ⟨rfl, HB1.out⟩
  · go_enter Tryd.func9, Tryd.ntmps9
    go_wp2_with (go_at_call 10; (with_reducible refine (sanity_any w HK.out).mono ?_); rintro e w1 ⟨rfl, hB1⟩; have HB1 : Hid (Ext w w1) := Lib.hid hB1; clear hB1)
    go_ret
    exact ⟨rfl, HB1.out⟩
namespace fnHashEqualIsEquality
theorem params_hashEqualIsEquality : (Tryd.f9.params.toList.all fun t => Tryd.prog.readableRec t && decide (t < Tryd.prog.types.size)) = true := by kernel_rfl
theorem contract (H : Type) (enc : TypeId × Value → H) (W : World) (base : Nat) (args : Array Value) (ds gs : List (DataW H)) (before : List MemPlace)
    (hval : ∀ (j : Nat) t v, Tryd.f9.params[j]? = some t → args[j]? = some v → Value.okWide Tryd.prog W .any base t v)
    (hW : DataW.Whole enc Tryd.prog Tryd.f9.params.toList Rows.hashEqualIsEqualitySpec.vars false W args.toList ds gs before) (hL : laidMetH Tryd.prog Rows.hashEqualIsEqualityRow.laid W) :
    Calls Tryd.prog 9 args W fun e W' => ∃ v, e = .returned v ∧ Rows.hashEqualIsEqualitySpec.post enc Tryd.prog Tryd.f9 false true false false W args v W' := by
  have hW' := hW
  obtain ⟨p, q, hA0, _, _, _, _⟩ := hW
  have hA : DataW.TrodAll enc Tryd.prog W 0 (fun _ => true) true Tryd.f9.params.toList args.toList ds p := hA0
  rw [Tryd.params9] at hA hval
  obtain ⟨v0, vs0, d0, ds0, p0, q0, hargs, e0d, e0p, h0, r0⟩ := trodAll_cons hA
  obtain ⟨v1, vs1, d1, ds1, p1, q1, e1, e1d, e1p, h1, r1⟩ := trodAll_cons r0
  obtain ⟨en1, en2, en3⟩ := trodAll_nil r1
  obtain rfl : args = #[v0, v1] := by cases args; simp_all
  clear hA hA0
  obtain ⟨s0, rfl, _, _, hs0⟩ := ChangeMaps.open_string Tryd.underlying9 (hval 0 _ v0 rfl rfl) h0
  obtain ⟨s1, rfl, _, _, hs1⟩ := ChangeMaps.open_string Tryd.underlying9 (hval 1 _ v1 rfl rfl) h1
  have hz0 : s0.size ≤ 9223372036854775807 := by unfold maxLen at hs0; omega
  have hz1 : s1.size ≤ 9223372036854775807 := by unfold maxLen at hs1; omega
  refine (walk_eqlaw s0 s1 W hz0 hz1 (laid_k hL)).mono fun e W' ⟨he, hg⟩ => ⟨_, he, ?_⟩
  exact post_law hW' laidOut (params_ok params_hashEqualIsEquality) 4 rfl Tryd.underlying4 rfl (fun ds h => by
    rw [Tryd.params9] at h
    match ds, h with
    | [_, _], _ => rfl) hg
noncomputable def laidWorld (os : Os) : World :=
  { World.holding Tryd.prog os ⟨#[], #[], []⟩ with heap := ((World.holding Tryd.prog os ⟨#[], #[], []⟩).heap.modify 1 fun
      | .cells _ t frozen => .cells (u32s kc).toArray t frozen
      | o => o) }
theorem laid_met (os : Os) : laidMet Tryd.prog Rows.hashEqualIsEqualityRow.laid ((laidWorld os).forCall (fun _ _ => 0) ⟨#[], #[.string ByteArray.empty, .string ByteArray.empty], []⟩).memory :=
  laidMet_of_run' 8 (by kernel_rfl) (by kernel_rfl)
theorem reads (os : Os) {H : Type} (enc : TypeId × Value → H) : ∃ places, DataW.whole enc Tryd.prog ((laidWorld os).forCall (fun _ _ => 0) ⟨#[], #[.string ByteArray.empty, .string ByteArray.empty], []⟩).memory Tryd.f9.params.toList Rows.hashEqualIsEqualitySpec.vars false (#[.string ByteArray.empty, .string ByteArray.empty] : Array Value).toList 8 = some ([.lit (.string []), .lit (.string [])], [], places) :=
  ⟨[], by kernel_rfl⟩
set_option maxRecDepth 100000 in
theorem lifted (os : Os) (started : os.Started) (H : Type) (enc : TypeId × Value → H) (F : Stop.Interp) :
    ReturnsInHanded {} Tryd.checked os 9 .any ((OpenSpec.ofChange Rows.hashEqualIsEqualitySpec).preRow enc Tryd.prog Tryd.f9 Rows.hashEqualIsEqualityRow.domain false Rows.hashEqualIsEqualityRow.laid) (((OpenSpec.ofChange Rows.hashEqualIsEqualitySpec).at F).post enc Tryd.prog Tryd.f9 false true false false) := by
  obtain ⟨places, hx⟩ := reads os enc
  refine returnsInHanded_of_row (C := Tryd.checked) (s := OpenSpec.ofChange Rows.hashEqualIsEqualitySpec) own started (by kernel_rfl) Tryd.func9
    (witness_row_at (enc := enc) (C := Tryd.checked) false (laidWorld os) #[.string ByteArray.empty, .string ByteArray.empty] rfl (by kernel_rfl) (by kernel_rfl) (by kernel_rfl)
      (OpenSpec.preRow_of_cond 8 hx (by kernel_rfl) (fun k hk => by cases hk) (by kernel_rfl) (laid_met os))) ?_
  intro W base args ds gs before hval hW _ _ _ hL _ _
  exact contract H enc W base args ds gs before hval hW hL
theorem said : Rows.HashEqualIsEqualitySaid :=
  OpenClaim.holds_of_cond 9 Tryd.f9 rfl rfl rfl rfl rfl rfl rfl ⟨rfl, rfl, rfl, rfl, rfl⟩ rfl rfl rfl rfl rfl (by kernel_rfl) Tryd.func9 (by kernel_rfl)
    (of_decide_eq_true (by kernel_rfl)) (by unfold Func.isWrapper; first | (rw [if_pos (by decide +kernel)]; kernel_rfl) | (rw [if_neg (by decide +kernel)]; exact ⟨rfl, rfl⟩))
    (fun os started H enc _ F => by rw [OpenClaim.pre_eq_preRow]; exact lifted os started H enc F)
theorem plain (f : FuncId) (fn : Func) (hf : Tryd.pinned.checked.prog.funcNamed "splicery/splicerylaw02.HashEqualIsEquality" = some f) (hfn : Tryd.pinned.checked.prog.funcs[f]? = some fn) :
    false = Tryd.pinned.checked.prog.looks [] ∧ ∀ (j : Nat) t, fn.params[j]? = some t → Tryd.pinned.checked.prog.wantsStandIn t = false := by
  obtain rfl : f = 9 := Option.some.inj ((show Tryd.prog.funcNamed "splicery/splicerylaw02.HashEqualIsEquality" = some 9 by kernel_rfl).symm.trans hf) |>.symm
  obtain rfl : fn = Tryd.f9 := (Option.some.inj (Tryd.func9.symm.trans hfn)).symm
  refine ⟨by kernel_rfl, fun j t ht => ?_⟩
  rw [Tryd.params9] at ht
  have := Array.mem_of_getElem? ht
  simp only [List.mem_toArray, List.mem_cons, List.not_mem_nil, or_false] at this
  rcases this with rfl | rfl
  · exact (show Tryd.prog.wantsStandIn 9 = false by kernel_rfl)
  · exact (show Tryd.prog.wantsStandIn 9 = false by kernel_rfl)
theorem card : Rows.HashEqualIsEqualityCardSaid :=
  Claim7.holds_tied_plain_at .later [] _ _ _ _ said (fun _ h => by cases h) (by kernel_rfl) (fun _ h => by cases h) hashEqualIsEquality_row_tie rfl ⟨rfl, rfl⟩ (by kernel_rfl) rfl plain (by kernel_rfl)
end fnHashEqualIsEquality
#print axioms fnHashEqualIsEquality.card
end Go.Proofs.YtheaniplpmkhlaaDoor
