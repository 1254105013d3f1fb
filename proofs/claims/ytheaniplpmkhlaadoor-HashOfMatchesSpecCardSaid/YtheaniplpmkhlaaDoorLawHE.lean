/- HashOfMatchesSpec: for every tag and all parts the law answers true and leaves its arguments as they were. Conditions: none beyond the row's own. -/
import Derived.Test.YtheaniplpmkhlaaDoorLawH
namespace Go.Proofs.YtheaniplpmkhlaaDoor
open Go.RowKit Go.WideShapes Go.ChangeShapes
theorem and255 (t : Int) : bits .and .i64 t 255 % 256 = t % 256 := by
  show IntKind.i64.wrap ((BitVec.ofInt 64 t &&& BitVec.ofInt 64 255).toNat : Int) % 256 = t % 256
  have h1 : (BitVec.ofInt 64 t &&& BitVec.ofInt 64 255).toNat = (BitVec.ofInt 64 t).toNat % 2 ^ 8 := by
    rw [BitVec.toNat_and]
    have : (BitVec.ofInt 64 255).toNat = 2 ^ 8 - 1 := by decide
    rw [this, Nat.and_two_pow_sub_one_eq_mod]
  rw [h1, BitVec.toNat_ofInt]
  have h2 := Int.emod_nonneg t (show (2 ^ 64 : Int) ≠ 0 by decide)
  have h3 : (((t % (2 ^ 64 : Int)).toNat % 2 ^ 8 : Nat) : Int) = t % 256 := by omega
  rw [show ((2 ^ 64 : Nat) : Int) = (2 ^ 64 : Int) by rfl, h3]
  simp [IntKind.wrap, IntKind.bits, IntKind.signed]
  omega
theorem inputB_and (t : Int) (l : List ByteArray) : inputB (bits .and .i64 t 255) l = inputB t l := by
  unfold inputB
  rw [and255]
theorem wp_load44 (dst : Option Tmp) (x : Operand) (ty : TypeId) (pos : String) (after) (guard) (a : Act) (w : World) (K : Act → World → Prop) (Q : Exit → Act → World → Prop) :
    Oper.wp Tryd.prog { dst := dst, op := Op.load 44 x, type := ty, pos := pos, after := after, guard := guard } a w K Q =
      match rowOf 16 w (a.eval x) with
      | some v => K (a.put dst v) w
      | none => wpBare Tryd.prog { dst := dst, op := Op.load 44 x, type := ty, pos := pos, after := after, guard := guard } a w K Q :=
  wp_load_of 44 16 Tryd.underlying44 rfl info_16u8 dst x ty pos after guard a w K Q
theorem fewB_encs {l : List ByteArray} (h : fewB l = true) : (encs l).length ≤ 100000000000 := by
  have h2 := (fewB_iff l).1 h
  have h3 := encs_few l h2.2
  omega
attribute [local go_sem ↓] wp_at_zero wp_at_succ wp_load44
set_option maxHeartbeats 4000000 in
set_option maxRecDepth 100000 in
theorem walk_oflaw (tag : Int) (l : List ByteArray) (A : Option Addr) (n c : Nat) (w : World) (hl : Rd w w.heap.size A n (strs l)) (hn : n ≤ 9223372036854775807) (hK : KTab w) (hR : RTab w) :
    Calls Tryd.prog 7 #[.int .i64 tag, .slice A n c] w fun e w' => e = .returned (.bool true) ∧ Below w.heap.size w w' := by
  have HK := Lib.hid hK; have HR := Lib.hid hR; have HL := Lib.hid hl
  clear hK hR hl
  by_cases hf : fewB l = true
  · have HF := Lib.hid hf
    have HCAT := Lib.hid (fewB_encs hf)
    have HAND := Lib.hid (inputB_and tag l)
    clear hf
    obtain ⟨U, hU⟩ : ∃ U, U = (sha (inputB tag l)).take 16 := ⟨_, rfl⟩
    have HU : Hid ((sha (inputB tag l)).take 16 = U) := Lib.hid hU.symm
    have HUL : Hid ((u8s U).length = 16) := Lib.hid (by rw [hU, u8s_length, List.length_take, sha_length]; decide)
    have HQ : Hid (∀ W, (Op.equalIn 10000 44 (.agg (u8s U).toArray) (.agg (u8s U).toArray)).run Tryd.prog W = .ok true W) := Lib.hid (fun W => by
      have hUb : Byt U := by rw [hU]; exact (sha_byt _).take _
      have hUl : U.length = 16 := by rw [hU, List.length_take, sha_length]; decide
      have := run_equalIn_u8s (P := Tryd.prog) W 9998 44 5 16 Tryd.underlying44 Tryd.underlying5 (fun _ => by kernel_rfl) U U hUb hUb hUl hUl
      rw [this, decide_eq_true rfl])
    clear hU
    obtain ⟨Z, hZ⟩ : ∃ Z, Z = u8s (List.replicate 16 0) := ⟨_, rfl⟩
    have hzr : ∀ W, (zeroValue 44).run Tryd.prog W = .ok (.agg Z.toArray) W := by rw [hZ]; exact zero16_run
    have HZL : Hid (Z.length = 16) := Lib.hid (by rw [hZ]; rfl)
    clear hZ
    go_enter Tryd.func7, Tryd.ntmps7
    go_upto_region 5 with (first
      | (go_at_call 10; (with_reducible refine (sanity_any w HK.out).mono ?_); rintro e w1 ⟨rfl, hB1⟩; have HB1 : Hid (Ext w w1) := Lib.hid hB1; clear hB1)
      | (go_at_call 13; (with_reducible refine (few_any l A n c w1 (HL.out.ext' HB1.out) hn).mono ?_); rintro e w2 ⟨rfl, rfl⟩; rw [HF.out])
      | (go_at_call 21; (with_reducible refine (of_any tag l A n c w1 (HL.out.ext' HB1.out) hn HCAT.out (HK.out.below HB1.out)).mono ?_); rintro e w2 ⟨rfl, hB2⟩; rw [HU.out]; have HB2 : Hid (Ext w w2) := Lib.hid (HB1.out.next hB2); clear hB2)
      | ((refine wpList_store_fresh rfl 44 (.tmp 6) (.tmp 14) rfl _ w2.heap.size rfl Z (u8s U) 44 (by rfl) (by rfl) rfl (info_16u8.trans (congrArg some HUL.out.symm)) (HZL.out.trans HUL.out.symm) (u8s_one U) ?_); intro w3 hw3 hE3 hz3; have HE3 : Hid (Ext w w3) := Lib.hid (HB2.out.next hE3); have HW3 := Lib.hid hw3; clear hw3 hE3))
    obtain ⟨p5, hp5⟩ : ∃ p, p = w2.heap.size := ⟨_, rfl⟩
    rw [← hp5] at HW3 ⊢
    clear hp5 hz3 hzr
    have hr1 := HW3.out.drew.rowOf HUL.out
    have hq := HQ.out
    have HE3d : Hid (Ext w w3.drew) := Lib.hid HE3.out.drew
    have HRD3 := Lib.hid (HL.out.ext' HE3d.out)
    have HRT3 := Lib.hid (HR.out.below HE3d.out)
    go_region_with (first
      | (go_at_call 22; (with_reducible refine (rof_any tag l A n c w3.drew HRD3.out hn HCAT.out HRT3.out).mono ?_); rintro e w4 ⟨rfl, hB4⟩; rw [HU.out]; have HE4 : Hid (Ext w3 w4) := Lib.hid ((Ext.refl w3).drew.next hB4); have HF4 : Hid (Ext w w4) := Lib.hid (HE3.out.next HE4.out); have hr4 := (HW3.out.ext HE4.out).rowOf HUL.out; have HRD4 := Lib.hid (HL.out.ext' HF4.out); have HKT4 := Lib.hid (HK.out.below HF4.out); clear hB4)
      | (go_at_call 21; (with_reducible refine (of_any (bits .and .i64 tag 255) l A n c w4 HRD4.out hn HCAT.out HKT4.out).mono ?_); rintro e w5 ⟨rfl, hB5⟩; rw [HAND.out, HU.out]; have HE5 : Hid (Ext w3 w5) := Lib.hid (HE4.out.next hB5); have HF5 : Hid (Ext w w5) := Lib.hid (HE3.out.next HE5.out); have hr5 := (HW3.out.ext HE5.out).rowOf HUL.out; clear hB5))
    all_goals
      go_wp2_with fail
      go_ret
      exact ⟨rfl, HF5.out⟩
  · have HF : Hid (fewB l = false) := Lib.hid (by simpa using hf)
    clear hf
    go_enter Tryd.func7, Tryd.ntmps7
    go_wp2_with (first
      | (go_at_call 10; (with_reducible refine (sanity_any w HK.out).mono ?_); rintro e w1 ⟨rfl, hB1⟩; have HB1 : Hid (Ext w w1) := Lib.hid hB1; clear hB1)
      | (go_at_call 13; (with_reducible refine (few_any l A n c w1 (HL.out.ext' HB1.out) hn).mono ?_); rintro e w2 ⟨rfl, rfl⟩; rw [HF.out]))
    go_ret
    exact ⟨rfl, HB1.out⟩
namespace fnHashOfMatchesSpec
theorem params_hashOfMatchesSpec : (Tryd.f7.params.toList.all fun t => Tryd.prog.readableRec t && decide (t < Tryd.prog.types.size)) = true := by kernel_rfl
theorem contract (H : Type) (enc : TypeId × Value → H) (W : World) (base : Nat) (args : Array Value) (ds gs : List (DataW H)) (before : List MemPlace)
    (hval : ∀ (j : Nat) t v, Tryd.f7.params[j]? = some t → args[j]? = some v → Value.okWide Tryd.prog W .any base t v)
    (hW : DataW.Whole enc Tryd.prog Tryd.f7.params.toList Rows.hashOfMatchesSpecSpec.vars false W args.toList ds gs before) (hL : laidMetH Tryd.prog Rows.hashOfMatchesSpecRow.laid W) :
    Calls Tryd.prog 7 args W fun e W' => ∃ v, e = .returned v ∧ Rows.hashOfMatchesSpecSpec.post enc Tryd.prog Tryd.f7 false true false false W args v W' := by
  have hW' := hW
  obtain ⟨p, q, hA0, _, _, _, _⟩ := hW
  have hA : DataW.TrodAll enc Tryd.prog W 0 (fun _ => true) true Tryd.f7.params.toList args.toList ds p := hA0
  rw [Tryd.params7] at hA hval
  obtain ⟨v0, vs0, d0, ds0, p0, q0, hargs, e0d, e0p, h0, r0⟩ := trodAll_cons hA
  obtain ⟨v1, vs1, d1, ds1, p1, q1, e1, e1d, e1p, h1, r1⟩ := trodAll_cons r0
  obtain ⟨en1, en2, en3⟩ := trodAll_nil r1
  obtain rfl : args = #[v0, v1] := by cases args; simp_all
  clear hA hA0
  obtain ⟨t0, rfl⟩ := okWide_int Tryd.underlying3 (hval 0 _ v0 rfl rfl)
  obtain ⟨A, n, c, l, rfl, hR, hwf, hnc, hcm⟩ := open_strl Tryd.underlying27 Tryd.underlying9 cellsstr (hval 1 _ v1 rfl rfl) h1
  have hn : n ≤ 9223372036854775807 := by unfold maxLen at hcm; omega
  refine (walk_oflaw t0 l A n c W hR hn (laid_k (laidMet.filter (fun x => x.1 == "splicery/hash.constants") hL)) (laid_r hL)).mono fun e W' ⟨he, hg⟩ => ⟨_, he, ?_⟩
  exact post_law hW' laidOut (params_ok params_hashOfMatchesSpec) 4 rfl Tryd.underlying4 rfl (fun ds h => by
    rw [Tryd.params7] at h
    match ds, h with
    | [_, _], _ => rfl) hg
noncomputable def laidWorld (os : Os) : World :=
  { World.holding Tryd.prog os ⟨#[], #[], []⟩ with heap := (((World.holding Tryd.prog os ⟨#[], #[], []⟩).heap.modify 0 fun
      | .cells _ t frozen => .cells (u32s kc).toArray t frozen
      | o => o).modify 1 fun
      | .cells _ t frozen => .cells (u32s kc).toArray t frozen
      | o => o) }
theorem laid_met (os : Os) : laidMet Tryd.prog Rows.hashOfMatchesSpecRow.laid ((laidWorld os).forCall (fun _ _ => 0) ⟨#[], #[.int .i64 0, .slice none 0 0], []⟩).memory :=
  laidMet_of_run' 8 (by kernel_rfl) (by kernel_rfl)
theorem reads (os : Os) {H : Type} (enc : TypeId × Value → H) : ∃ places, DataW.whole enc Tryd.prog ((laidWorld os).forCall (fun _ _ => 0) ⟨#[], #[.int .i64 0, .slice none 0 0], []⟩).memory Tryd.f7.params.toList Rows.hashOfMatchesSpecSpec.vars false (#[.int .i64 0, .slice none 0 0] : Array Value).toList 8 = some ([.lit (.int .i64 0), .nil], [], places) :=
  ⟨[], by kernel_rfl⟩
set_option maxRecDepth 100000 in
theorem lifted (os : Os) (started : os.Started) (H : Type) (enc : TypeId × Value → H) (F : Stop.Interp) :
    ReturnsInHanded {} Tryd.checked os 7 .any ((OpenSpec.ofChange Rows.hashOfMatchesSpecSpec).preRow enc Tryd.prog Tryd.f7 Rows.hashOfMatchesSpecRow.domain false Rows.hashOfMatchesSpecRow.laid) (((OpenSpec.ofChange Rows.hashOfMatchesSpecSpec).at F).post enc Tryd.prog Tryd.f7 false true false false) := by
  obtain ⟨places, hx⟩ := reads os enc
  refine returnsInHanded_of_row (C := Tryd.checked) (s := OpenSpec.ofChange Rows.hashOfMatchesSpecSpec) own started (by kernel_rfl) Tryd.func7
    (witness_row_at (enc := enc) (C := Tryd.checked) false (laidWorld os) #[.int .i64 0, .slice none 0 0] rfl (by kernel_rfl) (by kernel_rfl) (by kernel_rfl)
      (OpenSpec.preRow_of_cond 8 hx (by kernel_rfl) (fun k hk => by cases hk) (by kernel_rfl) (laid_met os))) ?_
  intro W base args ds gs before hval hW _ _ _ hL _ _
  exact contract H enc W base args ds gs before hval hW hL
theorem said : Rows.HashOfMatchesSpecSaid :=
  OpenClaim.holds_of_cond 7 Tryd.f7 rfl rfl rfl rfl rfl rfl rfl ⟨rfl, rfl, rfl, rfl, rfl⟩ rfl rfl rfl rfl rfl (by kernel_rfl) Tryd.func7 (by kernel_rfl)
    (of_decide_eq_true (by kernel_rfl)) (by unfold Func.isWrapper; first | (rw [if_pos (by decide +kernel)]; kernel_rfl) | (rw [if_neg (by decide +kernel)]; exact ⟨rfl, rfl⟩))
    (fun os started H enc _ F => by rw [OpenClaim.pre_eq_preRow]; exact lifted os started H enc F)
theorem plain (f : FuncId) (fn : Func) (hf : Tryd.pinned.checked.prog.funcNamed "splicery/splicerylaw02.HashOfMatchesSpec" = some f) (hfn : Tryd.pinned.checked.prog.funcs[f]? = some fn) :
    false = Tryd.pinned.checked.prog.looks [] ∧ ∀ (j : Nat) t, fn.params[j]? = some t → Tryd.pinned.checked.prog.wantsStandIn t = false := by
  obtain rfl : f = 7 := Option.some.inj ((show Tryd.prog.funcNamed "splicery/splicerylaw02.HashOfMatchesSpec" = some 7 by kernel_rfl).symm.trans hf) |>.symm
  obtain rfl : fn = Tryd.f7 := (Option.some.inj (Tryd.func7.symm.trans hfn)).symm
  refine ⟨by kernel_rfl, fun j t ht => ?_⟩
  rw [Tryd.params7] at ht
  have := Array.mem_of_getElem? ht
  simp only [List.mem_toArray, List.mem_cons, List.not_mem_nil, or_false] at this
  rcases this with rfl | rfl
  · exact (show Tryd.prog.wantsStandIn 3 = false by kernel_rfl)
  · exact (show Tryd.prog.wantsStandIn 27 = false by kernel_rfl)
theorem card : Rows.HashOfMatchesSpecCardSaid :=
  Claim7.holds_tied_plain_at .later [] _ _ _ _ said (fun _ h => by cases h) (by kernel_rfl) (fun _ h => by cases h) hashOfMatchesSpec_row_tie rfl ⟨rfl, rfl⟩ (by kernel_rfl) rfl plain (by kernel_rfl)
end fnHashOfMatchesSpec
#print axioms fnHashOfMatchesSpec.card
end Go.Proofs.YtheaniplpmkhlaaDoor
