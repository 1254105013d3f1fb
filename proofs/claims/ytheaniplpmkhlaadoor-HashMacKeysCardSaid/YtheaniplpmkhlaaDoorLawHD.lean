/- HashMacKeys: for every key and every text the law answers true and leaves its arguments as they were. Conditions: none beyond the row's own. -/
import Derived.Test.YtheaniplpmkhlaaDoorLawH
namespace Go.Proofs.YtheaniplpmkhlaaDoor
open Go.RowKit Go.WideShapes Go.ChangeShapes
theorem macL_congr {k1 k2 text : ByteArray} (h : ∀ x, padX (keyL k1) x = padX (keyL k2) x) : macL k1 text = macL k2 text := by
  unfold macL macI
  rw [h, h]
theorem mac_short (key text : ByteArray) (h : 64 < key.size) : macL (strOf (sha (bys key))) text = macL key text := by
  refine macL_congr fun x => ?_
  have h1 : keyL (strOf (sha (bys key))) = sha (bys key) := by
    unfold keyL
    rw [if_neg (by rw [strOf_size, sha_length]; omega), bys_strOf _ (sha_byt _)]
  have h2 : keyL key = sha (bys key) := by unfold keyL; rw [if_pos h]
  rw [h1, h2]
theorem mac_zero (key text : ByteArray) (h : key.size < 64) : macL (key ++ (⟨#[0]⟩ : ByteArray)) text = macL key text := by
  refine macL_congr fun x => ?_
  have hz : (key ++ (⟨#[0]⟩ : ByteArray)).size = key.size + 1 := by rw [ByteArray.size_append]; rfl
  have h1 : keyL (key ++ (⟨#[0]⟩ : ByteArray)) = bys key ++ [0] := by
    unfold keyL
    rw [if_neg (by omega), bys_append]
    rfl
  have h2 : keyL key = bys key := by unfold keyL; rw [if_neg (by omega)]
  rw [h1, h2]
  unfold padX
  refine List.map_congr_left fun i _ => ?_
  congr 1
  rw [List.getD_eq_getElem?_getD, List.getD_eq_getElem?_getD, List.getElem?_append]
  split
  · rfl
  · rename_i hi
    rw [List.getElem?_eq_none (by omega : (bys key).length ≤ i)]
    rcases Nat.eq_zero_or_pos (i - (bys key).length) with h0 | h0
    · rw [h0]; rfl
    · rw [List.getElem?_eq_none (by simp; omega)]
set_option maxHeartbeats 4000000 in
set_option maxRecDepth 100000 in
theorem walk_keylaw (key text : ByteArray) (w : World) (hk0 : key.size ≤ 9223372036854775807) (ht0 : text.size ≤ 9223372036854775807) (hK : KTab w) :
    Calls Tryd.prog 6 #[.string key, .string text] w fun e w' => e = .returned (.bool true) ∧ Below w.heap.size w w' := by
  have HK := Lib.hid hK
  clear hK
  by_cases hk : key.size ≤ 400
  · by_cases ht : text.size ≤ 400
    · have hk1 : key.size ≤ 1000000000000 := by omega
      have ht1 : text.size ≤ 100000000000 := by omega
      by_cases h64 : 64 < key.size
      · have HM := Lib.hid (mac_short key text h64)
        have HSS : Hid ((strOf (sha (bys key))).size ≤ 1000000000000) := Lib.hid (by rw [strOf_size, sha_length]; decide)
        have HSL : Hid ((sha (bys key)).length = 32) := Lib.hid (sha_length _)
        go_enter Tryd.func6, Tryd.ntmps6
        go_upto_region 6 with (first
          | (go_at_call 10; (with_reducible refine (sanity_any w HK.out).mono ?_); rintro e w1 ⟨rfl, hB1⟩; have HB1 : Hid (Ext w w1) := Lib.hid hB1; clear hB1)
          | (go_at_call 18; (with_reducible refine (mac_any key text w1 hk1 ht1 (HK.out.below HB1.out)).mono ?_); rintro e w2 ⟨rfl, hB2⟩; have HB2 : Hid (Ext w w2) := Lib.hid (HB1.out.next hB2); clear hB2))
        obtain ⟨cb, wb, hcb, hRb, hBb⟩ := run_toBytes (P := Tryd.prog) w2 9 22 5 key Tryd.underlying9 Tryd.underlying22 Tryd.underlying5
        have HRB := Lib.hid hRb
        have HBB : Hid (Ext w wb) := Lib.hid (HB2.out.next hBb)
        have HKB := Lib.hid (bys_byt key)
        clear hRb hBb
        go_wp2_with (first
          | (go_at_call 11; (with_reducible refine (sum_any (bys key) _ key.size cb wb HRB.out HKB.out hk1 (HK.out.below HBB.out)).mono ?_); rintro e w3 ⟨rfl, hB3⟩; have HB3 : Hid (Ext w w3) := Lib.hid (HBB.out.next hB3); clear hB3 hcb)
          | (go_at_call 20; (with_reducible refine (bytes32_any (sha (bys key)) w3 HSL.out).mono ?_); rintro e w4 ⟨rfl, hB4⟩; have HB4 : Hid (Ext w w4) := Lib.hid (HB3.out.next hB4); clear hB4)
          | (go_at_call 18; (with_reducible refine (mac_any (strOf (sha (bys key))) text w4 HSS.out ht1 (HK.out.below HB4.out)).mono ?_); rintro e w5 ⟨rfl, hB5⟩; rw [HM.out]; have HB5 : Hid (Ext w w5) := Lib.hid (HB4.out.next hB5); clear hB5))
        go_ret
        exact ⟨rfl, HB5.out⟩
      · by_cases h63 : key.size < 64
        · have HM := Lib.hid (mac_zero key text h63)
          have HSS : Hid ((key ++ (⟨#[0]⟩ : ByteArray)).size ≤ 1000000000000) := Lib.hid (by rw [ByteArray.size_append]; have : (⟨#[0]⟩ : ByteArray).size = 1 := rfl; omega)
          go_enter Tryd.func6, Tryd.ntmps6
          go_wp2_with (first
            | (go_at_call 10; (with_reducible refine (sanity_any w HK.out).mono ?_); rintro e w1 ⟨rfl, hB1⟩; have HB1 : Hid (Ext w w1) := Lib.hid hB1; clear hB1)
            | (go_at_call 18; (with_reducible refine (mac_any key text w1 hk1 ht1 (HK.out.below HB1.out)).mono ?_); rintro e w2 ⟨rfl, hB2⟩; have HB2 : Hid (Ext w w2) := Lib.hid (HB1.out.next hB2); clear hB2)
            | (go_at_call 18; (with_reducible refine (mac_any (key ++ (⟨#[0]⟩ : ByteArray)) text w2 HSS.out ht1 (HK.out.below HB2.out)).mono ?_); rintro e w3 ⟨rfl, hB3⟩; rw [HM.out]; have HB3 : Hid (Ext w w3) := Lib.hid (HB2.out.next hB3); clear hB3))
          go_ret
          exact ⟨rfl, HB3.out⟩
        · have HZ : Hid ((strOf (macL key text)).size = 32) := Lib.hid (by rw [strOf_size]; exact sha_length _)
          go_enter Tryd.func6, Tryd.ntmps6
          go_wp2_with (first
            | (go_at_call 10; (with_reducible refine (sanity_any w HK.out).mono ?_); rintro e w1 ⟨rfl, hB1⟩; have HB1 : Hid (Ext w w1) := Lib.hid hB1; clear hB1)
            | (go_at_call 18; (with_reducible refine (mac_any key text w1 hk1 ht1 (HK.out.below HB1.out)).mono ?_); rintro e w2 ⟨rfl, hB2⟩; have HB2 : Hid (Ext w w2) := Lib.hid (HB1.out.next hB2); have hz := HZ.out; clear hB2))
          go_ret
          exact ⟨rfl, HB2.out⟩
    · go_enter Tryd.func6, Tryd.ntmps6
      go_wp2_with (go_at_call 10; (with_reducible refine (sanity_any w HK.out).mono ?_); rintro e w1 ⟨rfl, hB1⟩; have HB1 : Hid (Ext w w1) := Lib.hid hB1; clear hB1)
      go_ret
      exact ⟨rfl, HB1.out⟩
  · go_enter Tryd.func6, Tryd.ntmps6
    go_wp2_with (go_at_call 10; (with_reducible refine (sanity_any w HK.out).mono ?_); rintro e w1 ⟨rfl, hB1⟩; have HB1 : Hid (Ext w w1) := Lib.hid hB1; clear hB1)
    go_ret
    exact ⟨rfl, HB1.out⟩
namespace fnHashMacKeys
theorem params_hashMacKeys : (Tryd.f6.params.toList.all fun t => Tryd.prog.readableRec t && decide (t < Tryd.prog.types.size)) = true := by kernel_rfl
theorem contract (H : Type) (enc : TypeId × Value → H) (W : World) (base : Nat) (args : Array Value) (ds gs : List (DataW H)) (before : List MemPlace)
    (hval : ∀ (j : Nat) t v, Tryd.f6.params[j]? = some t → args[j]? = some v → Value.okWide Tryd.prog W .any base t v)
    (hW : DataW.Whole enc Tryd.prog Tryd.f6.params.toList Rows.hashMacKeysSpec.vars false W args.toList ds gs before) (hL : laidMetH Tryd.prog Rows.hashMacKeysRow.laid W) :
    Calls Tryd.prog 6 args W fun e W' => ∃ v, e = .returned v ∧ Rows.hashMacKeysSpec.post enc Tryd.prog Tryd.f6 false true false false W args v W' := by
  have hW' := hW
  obtain ⟨p, q, hA0, _, _, _, _⟩ := hW
  have hA : DataW.TrodAll enc Tryd.prog W 0 (fun _ => true) true Tryd.f6.params.toList args.toList ds p := hA0
  rw [Tryd.params6] at hA hval
  obtain ⟨v0, vs0, d0, ds0, p0, q0, hargs, e0d, e0p, h0, r0⟩ := trodAll_cons hA
  obtain ⟨v1, vs1, d1, ds1, p1, q1, e1, e1d, e1p, h1, r1⟩ := trodAll_cons r0
  obtain ⟨en1, en2, en3⟩ := trodAll_nil r1
  obtain rfl : args = #[v0, v1] := by cases args; simp_all
  clear hA hA0
  obtain ⟨s0, rfl, _, _, hs0⟩ := ChangeMaps.open_string Tryd.underlying9 (hval 0 _ v0 rfl rfl) h0
  obtain ⟨s1, rfl, _, _, hs1⟩ := ChangeMaps.open_string Tryd.underlying9 (hval 1 _ v1 rfl rfl) h1
  have hz0 : s0.size ≤ 9223372036854775807 := by unfold maxLen at hs0; omega
  have hz1 : s1.size ≤ 9223372036854775807 := by unfold maxLen at hs1; omega
  refine (walk_keylaw s0 s1 W hz0 hz1 (laid_k hL)).mono fun e W' ⟨he, hg⟩ => ⟨_, he, ?_⟩
  exact post_law hW' laidOut (params_ok params_hashMacKeys) 4 rfl Tryd.underlying4 rfl (fun ds h => by
    rw [Tryd.params6] at h
    match ds, h with
    | [_, _], _ => rfl) hg
noncomputable def laidWorld (os : Os) : World :=
  { World.holding Tryd.prog os ⟨#[], #[], []⟩ with heap := ((World.holding Tryd.prog os ⟨#[], #[], []⟩).heap.modify 1 fun
      | .cells _ t frozen => .cells (u32s kc).toArray t frozen
      | o => o) }
theorem laid_met (os : Os) : laidMet Tryd.prog Rows.hashMacKeysRow.laid ((laidWorld os).forCall (fun _ _ => 0) ⟨#[], #[.string ByteArray.empty, .string ByteArray.empty], []⟩).memory :=
  laidMet_of_run' 8 (by kernel_rfl) (by kernel_rfl)
theorem reads (os : Os) {H : Type} (enc : TypeId × Value → H) : ∃ places, DataW.whole enc Tryd.prog ((laidWorld os).forCall (fun _ _ => 0) ⟨#[], #[.string ByteArray.empty, .string ByteArray.empty], []⟩).memory Tryd.f6.params.toList Rows.hashMacKeysSpec.vars false (#[.string ByteArray.empty, .string ByteArray.empty] : Array Value).toList 8 = some ([.lit (.string []), .lit (.string [])], [], places) :=
  ⟨[], by kernel_rfl⟩
set_option maxRecDepth 100000 in
theorem lifted (os : Os) (started : os.Started) (H : Type) (enc : TypeId × Value → H) (F : Stop.Interp) :
    ReturnsInHanded {} Tryd.checked os 6 .any ((OpenSpec.ofChange Rows.hashMacKeysSpec).preRow enc Tryd.prog Tryd.f6 Rows.hashMacKeysRow.domain false Rows.hashMacKeysRow.laid) (((OpenSpec.ofChange Rows.hashMacKeysSpec).at F).post enc Tryd.prog Tryd.f6 false true false false) := by
  obtain ⟨places, hx⟩ := reads os enc
  refine returnsInHanded_of_row (C := Tryd.checked) (s := OpenSpec.ofChange Rows.hashMacKeysSpec) own started (by kernel_rfl) Tryd.func6
    (witness_row_at (enc := enc) (C := Tryd.checked) false (laidWorld os) #[.string ByteArray.empty, .string ByteArray.empty] rfl (by kernel_rfl) (by kernel_rfl) (by kernel_rfl)
      (OpenSpec.preRow_of_cond 8 hx (by kernel_rfl) (fun k hk => by cases hk) (by kernel_rfl) (laid_met os))) ?_
  intro W base args ds gs before hval hW _ _ _ hL _ _
  exact contract H enc W base args ds gs before hval hW hL
theorem said : Rows.HashMacKeysSaid :=
  OpenClaim.holds_of_cond 6 Tryd.f6 rfl rfl rfl rfl rfl rfl rfl ⟨rfl, rfl, rfl, rfl, rfl⟩ rfl rfl rfl rfl rfl (by kernel_rfl) Tryd.func6 (by kernel_rfl)
    (of_decide_eq_true (by kernel_rfl)) (by unfold Func.isWrapper; first | (rw [if_pos (by decide +kernel)]; kernel_rfl) | (rw [if_neg (by decide +kernel)]; exact ⟨rfl, rfl⟩))
    (fun os started H enc _ F => by rw [OpenClaim.pre_eq_preRow]; exact lifted os started H enc F)
theorem plain (f : FuncId) (fn : Func) (hf : Tryd.pinned.checked.prog.funcNamed "splicery/splicerylaw02.HashMacKeys" = some f) (hfn : Tryd.pinned.checked.prog.funcs[f]? = some fn) :
    false = Tryd.pinned.checked.prog.looks [] ∧ ∀ (j : Nat) t, fn.params[j]? = some t → Tryd.pinned.checked.prog.wantsStandIn t = false := by
  obtain rfl : f = 6 := Option.some.inj ((show Tryd.prog.funcNamed "splicery/splicerylaw02.HashMacKeys" = some 6 by kernel_rfl).symm.trans hf) |>.symm
  obtain rfl : fn = Tryd.f6 := (Option.some.inj (Tryd.func6.symm.trans hfn)).symm
  refine ⟨by kernel_rfl, fun j t ht => ?_⟩
  rw [Tryd.params6] at ht
  have := Array.mem_of_getElem? ht
  simp only [List.mem_toArray, List.mem_cons, List.not_mem_nil, or_false] at this
  rcases this with rfl | rfl
  · exact (show Tryd.prog.wantsStandIn 9 = false by kernel_rfl)
  · exact (show Tryd.prog.wantsStandIn 9 = false by kernel_rfl)
theorem card : Rows.HashMacKeysCardSaid :=
  Claim7.holds_tied_plain_at .later [] _ _ _ _ said (fun _ h => by cases h) (by kernel_rfl) (fun _ h => by cases h) hashMacKeys_row_tie rfl ⟨rfl, rfl⟩ (by kernel_rfl) rfl plain (by kernel_rfl)
end fnHashMacKeys
#print axioms fnHashMacKeys.card
end Go.Proofs.YtheaniplpmkhlaaDoor
