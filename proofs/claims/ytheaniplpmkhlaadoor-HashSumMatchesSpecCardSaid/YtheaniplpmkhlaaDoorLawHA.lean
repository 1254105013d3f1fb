/- HashSumMatchesSpec: for every byte sequence the law answers true and leaves its argument as it was. Conditions: none beyond the row's own. -/
import Derived.Test.YtheaniplpmkhlaaDoorLawH
namespace Go.Proofs.YtheaniplpmkhlaaDoor
open Go.RowKit Go.WideShapes Go.ChangeShapes
section
theorem wp_load24 (dst : Option Tmp) (x : Operand) (ty : TypeId) (pos : String) (after) (guard) (a : Act) (w : World) (K : Act → World → Prop) (Q : Exit → Act → World → Prop) :
    Oper.wp Tryd.prog { dst := dst, op := Op.load 24 x, type := ty, pos := pos, after := after, guard := guard } a w K Q =
      match rowOf 32 w (a.eval x) with
      | some v => K (a.put dst v) w
      | none => wpBare Tryd.prog { dst := dst, op := Op.load 24 x, type := ty, pos := pos, after := after, guard := guard } a w K Q :=
  wp_load_of 24 32 Tryd.underlying24 rfl info_32u8 dst x ty pos after guard a w K Q
attribute [local go_sem ↓] wp_at_zero wp_at_succ wp_load24
set_option maxHeartbeats 4000000 in
set_option maxRecDepth 100000 in
theorem walk_sumlaw (l : List Int) (A : Option Addr) (n c : Nat) (w : World) (hl : Rd w w.heap.size A n (u8s l)) (hb : Byt l) (hn : n ≤ 9223372036854775807) (hK : KTab w) (hR : RTab w) :
    Calls Tryd.prog 3 #[.slice A n c] w fun e w' => e = .returned (.bool true) ∧ Below w.heap.size w w' := by
  have HK := Lib.hid hK; have HR := Lib.hid hR; have HL := Lib.hid hl
  have HLEN : Hid (l.length = n) := Lib.hid (by simpa [u8s] using hl.1)
  have HBY := Lib.hid hb
  clear hK hR hl hb
  by_cases h : n ≤ 1000
  · go_enter Tryd.func3, Tryd.ntmps3
    obtain ⟨S, hS⟩ : ∃ S, S = strOf l := ⟨_, rfl⟩
    have HS : Hid (bys S = l) := Lib.hid (by rw [hS]; exact bys_strOf l HBY.out)
    have HSS := Lib.hid hS
    have HSN : Hid (S.size = n) := Lib.hid (by rw [hS, strOf_size, HLEN.out])
    clear hS
    have HCV : Hid (∀ W, Rd W w.heap.size A n (u8s l) → (convert 22 9 (.slice A n c)).run Tryd.prog W = .ok (.string S) W) := Lib.hid (fun W h => by
      rw [HSS.out]
      exact run_toStr (P := Tryd.prog) Tryd.underlying22 Tryd.underlying5 Tryd.underlying9 h c (opt_cases A n))
    obtain ⟨U, hU⟩ : ∃ U, U = sha l := ⟨_, rfl⟩
    have HU : Hid (sha l = U) := Lib.hid hU.symm
    have HUL : Hid ((u8s U).length = 32) := Lib.hid (by rw [hU, u8s_length, sha_length])
    have HQ : Hid (∀ W, (Op.equalIn 10000 24 (.agg (u8s U).toArray) (.agg (u8s U).toArray)).run Tryd.prog W = .ok true W) := Lib.hid (fun W => by
      have := run_equalIn_u8s (P := Tryd.prog) W 9998 24 5 32 Tryd.underlying24 Tryd.underlying5 (fun _ => by kernel_rfl) U U (by rw [hU]; exact sha_byt _) (by rw [hU]; exact sha_byt _) (by rw [hU]; exact sha_length _) (by rw [hU]; exact sha_length _)
      rw [this, decide_eq_true rfl])
    clear hU
    go_upto_region 5 with (go_at_call 10; (with_reducible refine (sanity_any w HK.out).mono ?_); rintro e w1 ⟨rfl, hB1⟩; have HB1 := Lib.hid hB1; have hcv := HCV.out w1 (HL.out.ext HB1.out); clear hB1)
    have hzr := zero32_run
    obtain ⟨Z, hZ⟩ : ∃ Z, Z = u8s (List.replicate 32 0) := ⟨_, rfl⟩
    rw [← hZ] at hzr
    have HZL : Hid (Z.length = 32) := Lib.hid (by rw [hZ]; rfl)
    clear hZ
    go_upto_region 6 with (first
      | (go_at_call 11; (with_reducible refine (sum_any l A n c w1 ((HL.out.ext HB1.out).more (Below.size HB1.out)) HBY.out (by omega) (HK.out.below HB1.out)).mono ?_); rintro e w2 ⟨rfl, hB2⟩; rw [HU.out]; have HB2 : Hid (Ext w w2) := Lib.hid (Ext.next HB1.out hB2); clear hB2)
      | ((refine wpList_store_fresh rfl 24 (.tmp 5) (.tmp 14) rfl _ w2.heap.size rfl Z (u8s U) 24 (by rfl) (by rfl) rfl (info_32u8.trans (congrArg some HUL.out.symm)) (HZL.out.trans HUL.out.symm) (u8s_one U) ?_); intro w3 hw3 hE3 hz3; have HE3 : Hid (Ext w w3) := Lib.hid (HB2.out.next hE3); have HW3 := Lib.hid hw3; clear hw3 hE3))
    obtain ⟨p5, hp5⟩ : ∃ p, p = w2.heap.size := ⟨_, rfl⟩
    rw [← hp5] at HW3 ⊢
    clear hp5 hz3 hcv
    obtain ⟨cb, wb, hcb, hRb, hBb⟩ := run_toBytes (P := Tryd.prog) w3.drew 9 22 5 S Tryd.underlying9 Tryd.underlying22 Tryd.underlying5
    rw [HS.out, HSN.out] at hRb
    rw [HSN.out] at hcb
    have HRB : Hid (Rd wb wb.heap.size (some ⟨w3.heap.size, 0, none⟩) n (u8s l)) := Lib.hid hRb
    have hn3 : n ≤ 1000000000000 := by omega
    have HEB : Hid (Ext w3 wb) := Lib.hid ((Ext.refl w3).drew.next hBb)
    clear hRb hBb
    have hr1 := HW3.out.drew.rowOf HUL.out
    have hr2 := (HW3.out.ext HEB.out).rowOf HUL.out
    have hq := HQ.out
    go_region_with (go_at_call 12; (with_reducible refine (rsum_any l _ n cb wb HRB.out HBY.out hn3 (HR.out.below (HE3.out.next HEB.out))).mono ?_); rintro e w4 ⟨rfl, hB4⟩; rw [HU.out]; have HE4 : Hid (Ext w3 w4) := Lib.hid (HEB.out.next hB4); have hr3 := (HW3.out.ext HE4.out).rowOf HUL.out; have hcv := HCV.out w4 (HL.out.ext (HE3.out.next HE4.out)); clear hB4)
    all_goals
      go_wp2_with fail
      go_ret
      exact ⟨rfl, HE3.out.next HE4.out⟩
  · go_enter Tryd.func3, Tryd.ntmps3
    go_wp2_with (go_at_call 10; (with_reducible refine (sanity_any w HK.out).mono ?_); rintro e w1 ⟨rfl, hB1⟩; have HB1 := Lib.hid hB1; clear hB1)
    go_ret
    exact ⟨rfl, HB1.out⟩
end
namespace fnHashSumMatchesSpec
theorem params_hashSumMatchesSpec : (Tryd.f3.params.toList.all fun t => Tryd.prog.readableRec t && decide (t < Tryd.prog.types.size)) = true := by kernel_rfl
theorem contract (H : Type) (enc : TypeId × Value → H) (W : World) (base : Nat) (args : Array Value) (ds gs : List (DataW H)) (before : List MemPlace)
    (hval : ∀ (j : Nat) t v, Tryd.f3.params[j]? = some t → args[j]? = some v → Value.okWide Tryd.prog W .any base t v)
    (hW : DataW.Whole enc Tryd.prog Tryd.f3.params.toList Rows.hashSumMatchesSpecSpec.vars false W args.toList ds gs before) (hL : laidMetH Tryd.prog Rows.hashSumMatchesSpecRow.laid W) :
    Calls Tryd.prog 3 args W fun e W' => ∃ v, e = .returned v ∧ Rows.hashSumMatchesSpecSpec.post enc Tryd.prog Tryd.f3 false true false false W args v W' := by
  have hW' := hW
  obtain ⟨p, q, hA0, _, _, _, _⟩ := hW
  have hA : DataW.TrodAll enc Tryd.prog W 0 (fun _ => true) true Tryd.f3.params.toList args.toList ds p := hA0
  rw [Tryd.params3] at hA hval
  obtain ⟨v0, vs0, d0, ds0, p0, q0, hargs, e0d, e0p, h0, r0⟩ := trodAll_cons hA
  obtain ⟨en1, en2, en3⟩ := trodAll_nil r0
  obtain rfl : args = #[v0] := by cases args; simp_all
  clear hA hA0
  obtain ⟨A, n, c, l, rfl, hR, hwf, hnc, hcm⟩ := open_u8s Tryd.underlying22 Tryd.underlying5 cellsu8 (hval 0 _ v0 rfl rfl) h0
  have hby : Byt l := fun x hx => by have := hwf x hx; simp [Lit.wf, IntKind.min, IntKind.max, IntKind.bits, IntKind.signed] at this; omega
  have hn : n ≤ 9223372036854775807 := by unfold maxLen at hcm; omega
  refine (walk_sumlaw l A n c W hR hby hn (laid_k (laidMet.filter (fun x => x.1 == "splicery/hash.constants") hL)) (laid_r hL)).mono fun e W' ⟨he, hg⟩ => ⟨_, he, ?_⟩
  exact post_law hW' laidOut (params_ok params_hashSumMatchesSpec) 4 rfl Tryd.underlying4 rfl (fun ds h => by
    rw [Tryd.params3] at h
    match ds, h with
    | [_], _ => rfl) hg
noncomputable def laidWorld (os : Os) : World :=
  { World.holding Tryd.prog os ⟨#[], #[], []⟩ with heap := (((World.holding Tryd.prog os ⟨#[], #[], []⟩).heap.modify 0 fun
      | .cells _ t frozen => .cells (u32s kc).toArray t frozen
      | o => o).modify 1 fun
      | .cells _ t frozen => .cells (u32s kc).toArray t frozen
      | o => o) }
theorem laid_met (os : Os) : laidMet Tryd.prog Rows.hashSumMatchesSpecRow.laid ((laidWorld os).forCall (fun _ _ => 0) ⟨#[], #[.slice none 0 0], []⟩).memory :=
  laidMet_of_run' 8 (by kernel_rfl) (by kernel_rfl)
theorem reads (os : Os) {H : Type} (enc : TypeId × Value → H) : ∃ places, DataW.whole enc Tryd.prog ((laidWorld os).forCall (fun _ _ => 0) ⟨#[], #[.slice none 0 0], []⟩).memory Tryd.f3.params.toList Rows.hashSumMatchesSpecSpec.vars false (#[.slice none 0 0] : Array Value).toList 8 = some ([.nil], [], places) :=
  ⟨[], by kernel_rfl⟩
set_option maxRecDepth 100000 in
theorem lifted (os : Os) (started : os.Started) (H : Type) (enc : TypeId × Value → H) (F : Stop.Interp) :
    ReturnsInHanded {} Tryd.checked os 3 .any ((OpenSpec.ofChange Rows.hashSumMatchesSpecSpec).preRow enc Tryd.prog Tryd.f3 Rows.hashSumMatchesSpecRow.domain false Rows.hashSumMatchesSpecRow.laid) (((OpenSpec.ofChange Rows.hashSumMatchesSpecSpec).at F).post enc Tryd.prog Tryd.f3 false true false false) := by
  obtain ⟨places, hx⟩ := reads os enc
  refine returnsInHanded_of_row (C := Tryd.checked) (s := OpenSpec.ofChange Rows.hashSumMatchesSpecSpec) own started (by kernel_rfl) Tryd.func3
    (witness_row_at (enc := enc) (C := Tryd.checked) false (laidWorld os) #[.slice none 0 0] rfl (by kernel_rfl) (by kernel_rfl) (by kernel_rfl)
      (OpenSpec.preRow_of_cond 8 hx (by kernel_rfl) (fun k hk => by cases hk) (by kernel_rfl) (laid_met os))) ?_
  intro W base args ds gs before hval hW _ _ _ hL _ _
  exact contract H enc W base args ds gs before hval hW hL
theorem said : Rows.HashSumMatchesSpecSaid :=
  OpenClaim.holds_of_cond 3 Tryd.f3 rfl rfl rfl rfl rfl rfl rfl ⟨rfl, rfl, rfl, rfl, rfl⟩ rfl rfl rfl rfl rfl (by kernel_rfl) Tryd.func3 (by kernel_rfl)
    (of_decide_eq_true (by kernel_rfl)) (by unfold Func.isWrapper; first | (rw [if_pos (by decide +kernel)]; kernel_rfl) | (rw [if_neg (by decide +kernel)]; exact ⟨rfl, rfl⟩))
    (fun os started H enc _ F => by rw [OpenClaim.pre_eq_preRow]; exact lifted os started H enc F)
theorem plain (f : FuncId) (fn : Func) (hf : Tryd.pinned.checked.prog.funcNamed "splicery/splicerylaw02.HashSumMatchesSpec" = some f) (hfn : Tryd.pinned.checked.prog.funcs[f]? = some fn) :
    false = Tryd.pinned.checked.prog.looks [] ∧ ∀ (j : Nat) t, fn.params[j]? = some t → Tryd.pinned.checked.prog.wantsStandIn t = false := by
  obtain rfl : f = 3 := Option.some.inj ((show Tryd.prog.funcNamed "splicery/splicerylaw02.HashSumMatchesSpec" = some 3 by kernel_rfl).symm.trans hf) |>.symm
  obtain rfl : fn = Tryd.f3 := (Option.some.inj (Tryd.func3.symm.trans hfn)).symm
  refine ⟨by kernel_rfl, fun j t ht => ?_⟩
  rw [Tryd.params3] at ht
  have := Array.mem_of_getElem? ht
  simp only [List.mem_toArray, List.mem_cons, List.not_mem_nil, or_false] at this
  subst this
  exact (show Tryd.prog.wantsStandIn 22 = false by kernel_rfl)
theorem card : Rows.HashSumMatchesSpecCardSaid :=
  Claim7.holds_tied_plain_at .later [] _ _ _ _ said (fun _ h => by cases h) (by kernel_rfl) (fun _ h => by cases h) hashSumMatchesSpec_row_tie rfl ⟨rfl, rfl⟩ (by kernel_rfl) rfl plain (by kernel_rfl)
end fnHashSumMatchesSpec
#print axioms fnHashSumMatchesSpec.card
end Go.Proofs.YtheaniplpmkhlaaDoor
