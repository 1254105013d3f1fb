/- sign's Public. Conditions: a height from 0 to 6. -/
import Derived.Test.YtkjckmdiolgmcaaDoorSgO
import Derived.Test.YtkjckmdiolgmcaaDoorSgF
set_option linter.unusedSimpArgs false
set_option linter.unusedVariables false
namespace Go.Proofs.YtkjckmdiolgmcaaDoor
open Go.RowKit
attribute [local go_sem ↓] wp_at_zero wp_at_succ
theorem results_blk_tmp {P : Program} {fn : Func} {p u : Tmp} {ty : TypeId} (h : fn.results = #[ResultVar.cell p ty, .tmp u]) (tmps : Array Value) (w : World) (g : Nat) (t : TypeId) (cs : List Value) (d : TypeDesc) (hp : tmps.getD p undef = .pointer (some ⟨g, 0, none⟩))
    (hb : Blk w g t cs) (hu : P.underlying ty = some d) (hd : d.isRow = true) (hi : (P.info? ty).map (·.size) = some cs.length) : (results fn tmps).run P w = .ok (.tuple #[.agg cs.toArray, tmps.getD u undef]) w := by
  have hp' : tmps[p]?.getD undef = .pointer (some ⟨g, 0, none⟩) := by simpa using hp
  simp [results, h, hp', asAddr, run_loadVar_row w g t ty cs.toArray (0, 0) d hb hu (by cases d <;> first | rfl | cases hd) (by rw [hi, List.size_toArray])]
/-- A memo made after w: what was there at w has not changed. -/
theorem nr_ext {seed : ByteArray} {hm : Nat} {w a b : World} (h : Ext w a) (hr : NR seed hm a b) (hle : w.heap.size ≤ hm) : Ext w b := sg_ext h hr.1 (fun x hx => by rw [hx]; exact hle)
set_option maxHeartbeats 4000000 in
set_option maxRecDepth 100000 in
theorem public_any (seed : ByteArray) (h : Nat) (w : World) (hs : seed.size = 32) (h6 : h ≤ 6) (hK : KTab w) :
    Calls Tryd.prog 9 #[.string seed, .int .i64 (h : Int)] w fun e w' => e = .returned (.tuple #[.agg (u8s (nodeV seed h 0)).toArray, .int .i64 0]) ∧ Ext w w' := by
  have HK := Lib.hid hK
  have zz : ∀ W, (zeroValue 23).run Tryd.prog W = .ok (.agg (u8s (List.replicate 16 0)).toArray) W := fun W => by kernel_rfl
  obtain ⟨Z, hZ⟩ : ∃ Z, Z = u8s (List.replicate 16 0) := ⟨_, rfl⟩
  have HZL : Hid (Z.length = 16) := Lib.hid (by rw [hZ]; rfl)
  rw [← hZ] at zz
  have hpw : Hid ((0 + 1) * 2 ^ h ≤ 64) := Lib.hid (by
    have := Nat.pow_le_pow_right (show 0 < 2 by decide) h6
    omega)
  have HS : Hid (seed.size ≤ 1000000) := Lib.hid (by omega)
  obtain ⟨V, hV⟩ : ∃ V, V = nodeV seed h 0 := ⟨_, rfl⟩
  have HVL : Hid ((u8s V).length = 16) := Lib.hid (by rw [hV, u8s_len]; exact (nodeV_dig seed _ _).l)
  have HAT : Hid (∀ (mb sb ab hm : Nat) (W : World), NEnv W seed mb sb ab hm → Calls Tryd.prog 27 #[.int .i64 (h : Int), .int .i64 0, .pointer (some ⟨mb, 0, none⟩), .pointer (some ⟨sb, 0, none⟩), .pointer (some ⟨ab, 0, none⟩)] W fun e w' => e = .returned (.agg (u8s V).toArray) ∧ NR seed hm W w') := Lib.hid (fun mb sb ab hm W hW => by
    rw [hV]
    exact at_any seed mb sb ab hm h 0 W hW h6 hpw.out)
  have HZ : Hid (w.heap.size < (w.alloc (.cells Z.toArray 23)).heap.size) := Lib.hid (by simp)
  rw [← hV]
  clear hZ hV hK
  go_enter Tryd.func9, Tryd.ntmps9
  go_upto_region 1 with fail
  obtain ⟨w2, hw2⟩ : ∃ x, x = w.alloc (.cells Z.toArray 23) := ⟨_, rfl⟩
  change Code.wp _ _ _ _ (w.alloc (.cells Z.toArray 23))
  rw [← hw2]
  have E2 : Hid (Ext w w2) := Lib.hid (by rw [hw2]; exact (Ext.refl w).alloc _)
  have BZ : Hid (Blk w2 w.heap.size 23 Z) := Lib.hid (by rw [hw2]; exact Blk.fresh' _ _ _ _ _ rfl rfl)
  have K2 := Lib.hid (HK.out.below E2.out)
  clear hw2
  go_wp2_with (go_loud (first
    | (go_at_call 14; (with_reducible refine (valid_ok h w2 h6).mono ?_); rintro e w3 ⟨rfl, rfl⟩)
    | (go_at_call 15; (with_reducible refine (nodes_any seed w2 HS.out K2.out).mono ?_); rintro e w4 ⟨mb, sb, ab, hm, rfl, hN, hle, hE4⟩; have N4 := Lib.hid hN; have E4 : Hid (Ext w2 w4) := Lib.hid hE4; have HLE := Lib.hid hle; clear hN hE4 hle)
    | (go_at_call 27; (with_reducible refine (HAT.out mb sb ab hm w4 N4.out).mono ?_); rintro e w5 ⟨rfl, hR5⟩; have E5 : Hid (Ext w2 w5) := Lib.hid (nr_ext E4.out hR5 HLE.out); have BZ5 := Lib.hid (BZ.out.ext E5.out); clear hR5)
    | (refine wpList_store_blk rfl 23 (.tmp 4) (.tmp 18) (by rfl) w.heap.size (u8s V) rfl rfl BZ5.out (dg_info.trans (congrArg some HVL.out.symm)) (HZL.out.trans HVL.out.symm) (u8s_one _) ?_; intro w9 hw9 hb9)))
  exact bodyPost_ret (results_blk_tmp Tryd.results9 _ _ w.heap.size 23 (u8s V) _ rfl hb9 Tryd.underlying23 rfl (dg_info.trans (congrArg some HVL.out.symm))) rfl ⟨rfl, by rw [hw9.out]; exact (E2.out.next E5.out).setRow (Nat.le_refl _) _⟩
set_option maxHeartbeats 4000000 in
set_option maxRecDepth 100000 in
theorem public_short (seed : ByteArray) (w : World) (n : Nat) (hn : n = seed.size) (hs : ¬ (n : Int) = 32) :
    Calls Tryd.prog 9 #[.string seed, .int .i64 0] w fun e w' => e = .returned (.tuple #[.agg (u8s (List.replicate 16 0)).toArray, .int .i64 1]) ∧ Ext w w' := by
  have zz : ∀ W, (zeroValue 23).run Tryd.prog W = .ok (.agg (u8s (List.replicate 16 0)).toArray) W := fun W => by kernel_rfl
  obtain ⟨Z, hZ⟩ : ∃ Z, Z = u8s (List.replicate 16 0) := ⟨_, rfl⟩
  have HZL : Hid (Z.length = 16) := Lib.hid (by rw [hZ]; rfl)
  have HZ1 : Hid (∀ v ∈ Z, v.oneCell' = true) := Lib.hid (by rw [hZ]; exact u8s_one _)
  rw [← hZ] at zz ⊢
  clear hZ
  have HN := Lib.hid hn
  rw [hn] at hs
  clear hn
  go_enter Tryd.func9, Tryd.ntmps9
  go_upto_region 1 with fail
  obtain ⟨w2, hw2⟩ : ∃ x, x = w.alloc (.cells Z.toArray 23) := ⟨_, rfl⟩
  change Code.wp _ _ _ _ (w.alloc (.cells Z.toArray 23))
  rw [← hw2]
  have E2 : Hid (Ext w w2) := Lib.hid (by rw [hw2]; exact (Ext.refl w).alloc _)
  have BZ : Hid (Blk w2 w.heap.size 23 Z) := Lib.hid (by rw [hw2]; exact Blk.fresh' _ _ _ _ _ rfl rfl)
  clear hw2
  go_wp2_with (go_loud (first
    | (refine wpList_store_blk rfl 23 (.tmp 4) (.tmp 14) (by rfl) w.heap.size Z rfl rfl BZ.out (dg_info.trans (congrArg some HZL.out.symm)) rfl HZ1.out ?_; intro w9 hw9 hb9)))
  exact bodyPost_ret (results_blk_tmp Tryd.results9 _ _ w.heap.size 23 Z _ rfl hb9 Tryd.underlying23 rfl (dg_info.trans (congrArg some HZL.out.symm))) rfl ⟨rfl, by rw [hw9.out]; exact E2.out.setRow (Nat.le_refl _) _⟩
end Go.Proofs.YtkjckmdiolgmcaaDoor
